import Derived.Test.YtfioaohadanjmaaA11
set_option linter.unusedVariables false

/- l1Parse. -/
namespace Go.Proofs.Ytfioaohadanjmaa
open Go.RowKit

theorem res_box {P : Program} {fn : Func} {p u : Tmp} {ty : TypeId} (h : fn.results = #[.cell p ty, .tmp u]) (tmps : Array Value) (w : World) (g : Nat) (t : TypeId) (cs : Array Value) (fr : Nat × Nat) (d : TypeDesc)
    (hp : tmps.getD p undef = .pointer (some ⟨g, 0, none⟩)) (hg : w.heap[g]? = some (.cells cs t fr))
    (hu : P.underlying ty = some d) (hd : (match d with | .struct _ | .array _ _ => true | _ => false) = true) (hi : (P.info? ty).map (·.size) = some cs.size) :
    (results fn tmps).run P w = .ok (.tuple #[.agg cs, tmps.getD u undef]) w := by
  rw [results_cell_tmp h, hp]
  simp [asAddr, run_loadVar_row w g t ty cs fr d hg hu hd hi, Result.andThen]
end Go.Proofs.Ytfioaohadanjmaa

/- l1ParseList closed; spec.ParseProgram. -/
namespace Go.Proofs.Ytfioaohadanjmaa
open Go.RowKit

/-- The slice value v reads as the ints l, in a block of P. -/
def IntX (w : World) (P : Nat → Prop) (v : Value) (l : List Int) : Prop :=
  ∃ A c, v = .slice A l.length c ∧ l.length ≤ c ∧ l.length ≤ 4194304 ∧ (0 < l.length → ∃ b off, A = some ⟨b, off, none⟩ ∧ P b ∧ b < w.heap.size ∧ ∀ j, j < l.length → w.cell? ⟨b, off + j, none⟩ = some (.int .i64 (l.getD j 0)))
theorem IntX.nil (w : World) (P : Nat → Prop) : IntX w P (.slice none 0 0) [] := ⟨none, 0, rfl, Nat.le_refl _, by simp, fun h => absurd h (by simp)⟩
theorem IntX.frame {w w' : World} {P P' : Nat → Prop} {v : Value} {l : List Int} (h : IntX w P v l) (hs : w.heap.size ≤ w'.heap.size) (hk : ∀ b, P b → b < w.heap.size → P' b ∧ w'.heap[b]? = w.heap[b]?) : IntX w' P' v l := by
  obtain ⟨A, c, e, h1, h2, h3⟩ := h
  refine ⟨A, c, e, h1, h2, fun hn => ?_⟩
  obtain ⟨b, off, e, hb, hlt, hc⟩ := h3 hn
  obtain ⟨k1, k2⟩ := hk b hb hlt
  exact ⟨b, off, e, k1, by omega, fun j hj => (World.cell?_of_block (w := w) (a := ⟨b, _, none⟩) k2).trans (hc j hj)⟩
theorem IntX.toS {w : World} {P : Nat → Prop} {v : Value} {l : List Int} (h : IntX w P v l) : IntS w w.heap.size v l := by
  obtain ⟨A, c, e, h1, h2, h3⟩ := h
  refine ⟨A, c, e, h1, h2, by simp, fun hn => ?_⟩
  obtain ⟨b, off, e, hb, hlt, hc⟩ := h3 hn
  refine ⟨b, off, e, hlt, fun j u hu => ?_⟩
  rw [List.getElem?_map] at hu
  rcases Nat.lt_or_ge j l.length with hj | hj
  · rw [List.getElem?_eq_getElem hj] at hu
    simp at hu
    rw [hc j hj, getD_lt hj, hu]
  · rw [List.getElem?_eq_none hj] at hu; cases hu
theorem IntX.slice {w : World} {P : Nat → Prop} {v : Value} {l : List Int} (h : IntX w P v l) : ∃ A c, v = .slice A l.length c ∧ l.length ≤ c := by
  obtain ⟨A, c, e, h1, h2, h3⟩ := h
  exact ⟨A, c, e, h1⟩
theorem OInts.toX {w : World} {base : Nat} {v : Value} {l : List Int} (h : OInts w base v l) (hl : l.length ≤ 4194304) : IntX w (fun b => base ≤ b) v l := by
  have hs := h.toS hl
  rcases h.2 with ⟨rfl, h0⟩ | ⟨g, cap, cur, rfl, hb, hh, hc, _⟩
  · have : l = [] := List.length_eq_zero_iff.1 h0
    subst this
    exact IntX.nil _ _
  · refine ⟨_, _, rfl, hc, hl, fun hn => ⟨g, 0, rfl, hb, ?_, fun j hj => ?_⟩⟩
    · rcases Nat.lt_or_ge g w.heap.size with hlt | hge
      · exact hlt
      · rw [Array.getElem?_eq_none hge] at hh; cases hh
    · obtain ⟨A', c', e', _, _, hr⟩ := hs
      injection e' with e1
      obtain ⟨b, off, e2, _, hcell⟩ := hr.int_at hn
      rw [e2] at e1
      injection e1 with e1
      injection e1 with e1 e3
      subst e1 e3
      exact hcell j hj

theorem OInts.other {w : World} {base g : Nat} {v : Value} {l : List Int} (h : OInts w base v l) (hg : g < base) (i : Nat) (u : Value) : OInts (w.setCell ⟨g, i, none⟩ u) base v l := by
  refine h.kept (grown_set w g i u) ?_
  rcases h.2 with ⟨rfl, _⟩ | ⟨g', cap, cur, rfl, hb, _⟩
  · exact .inl rfl
  · refine .inr ?_
    simp only [Value.ownBlock]
    intro e
    injection e with e
    omega

theorem box2 {w : World} {b : Nat} {t : TypeId} {v0 v1 : Value} (h : w.heap[b]? = some (.cells #[v0, v1] t (0, 0))) (u0 u1 : Value) :
    ((w.setCell ⟨b, 0, none⟩ u0).setCell ⟨b, 1, none⟩ u1).heap[b]? = some (.cells #[u0, u1] t (0, 0)) ∧ w.grownBy ((w.setCell ⟨b, 0, none⟩ u0).setCell ⟨b, 1, none⟩ u1) (some b) := by
  refine ⟨?_, grown_tr (grown_set w b 0 u0) (grown_set _ b 1 u1)⟩
  have h1 := heap_setCell_same w b 0 _ _ u0 h
  have h2 := heap_setCell_same _ b 1 _ _ u1 h1
  rw [h2]; rfl
end Go.Proofs.Ytfioaohadanjmaa

/- l1Texts, l1Draw. -/
namespace Go.Proofs.Ytfioaohadanjmaa
open Go.RowKit

theorem StX.grown {w w' : World} {g : Nat} {P : Nat → Prop} {v : Value} {l : List St} (h : StX w P v l) (hg : w.grownBy w' (some g)) (hP : ¬ P g) : StX w' P v l :=
  h.frame hg.size fun b hb hl => ⟨hb, hg.block b hl (fun e => by injection e with e; subst e; exact hP hb)⟩
theorem IntX.grown {w w' : World} {g : Nat} {P : Nat → Prop} {v : Value} {l : List Int} (h : IntX w P v l) (hg : w.grownBy w' (some g)) (hP : ¬ P g) : IntX w' P v l :=
  h.frame hg.size fun b hb hl => ⟨hb, hg.block b hl (fun e => by injection e with e; subst e; exact hP hb)⟩
theorem StX.bel {w w' : World} {P : Nat → Prop} {v : Value} {l : List St} (h : StX w P v l) (hb : Below w.heap.size w w') : StX w' P v l :=
  h.frame hb.size fun b hp hl => ⟨hp, hb.block b hl⟩
theorem IntX.bel {w w' : World} {P : Nat → Prop} {v : Value} {l : List Int} (h : IntX w P v l) (hb : Below w.heap.size w w') : IntX w' P v l :=
  h.frame hb.size fun b hp hl => ⟨hp, hb.block b hl⟩
theorem row_lt {w : World} {b : Nat} {o : Obj} (h : w.heap[b]? = some o) : b < w.heap.size := by
  rcases Nat.lt_or_ge b w.heap.size with h' | h'
  · exact h'
  · rw [Array.getElem?_eq_none h'] at h; cases h
theorem row_below {w w' : World} {b : Nat} {o : Obj} (h : w.heap[b]? = some o) (hb : Below w.heap.size w w') : w'.heap[b]? = some o := (hb.block b (row_lt h)).trans h
end Go.Proofs.Ytfioaohadanjmaa
