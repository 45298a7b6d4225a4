import Derived.Test.YtfioaohadanjmaaC11
import Derived.Test.YtfioaohadanjmaaC12
import Derived.Test.YtfioaohadanjmaaC10
set_option linter.unusedVariables false

/- A slice that a call builds by append, beginning empty, while other memory that was there keeps its cells. -/
namespace Go.Proofs.Ytfioaohadanjmaa
open Go.RowKit

/-- every cell of w0 reads in w as it did -/
def Kp (w0 w : World) : Prop := (∀ b o x, w0.cell? ⟨b, o, none⟩ = some x → w.cell? ⟨b, o, none⟩ = some x) ∧ w0.heap.size ≤ w.heap.size
theorem Kp.refl (w : World) : Kp w w := ⟨fun _ _ _ h => h, Nat.le_refl _⟩
theorem Kp.trans {a b c : World} (h : Kp a b) (k : Kp b c) : Kp a c := ⟨fun x o u hu => k.1 x o u (h.1 x o u hu), Nat.le_trans h.2 k.2⟩
theorem cell_lt {w : World} {b o : Nat} {x : Value} (h : w.cell? ⟨b, o, none⟩ = some x) : b < w.heap.size := World.block_lt_of_cell? w ⟨b, o, none⟩ h
theorem Kp.of_bel {w w' : World} (h : Below w.heap.size w w') : Kp w w' := ⟨fun b o x hx => (h.cell (p := ⟨b, o, none⟩) (cell_lt hx)).trans hx, h.size⟩
theorem Rd.imp {w w' : World} {B size n : Nat} {A : Option Addr} {xs : List Value} (h : Rd w B size A n xs) (hk : Kp w w') : Rd w' B size A n xs :=
  ⟨h.1, fun hn => by
    obtain ⟨b, off, e, hb, hc⟩ := h.2 hn
    exact ⟨b, off, e, hb, fun j u hu => hk.1 _ _ _ (hc j u hu)⟩⟩
theorem IntS.imp {w w' : World} {B : Nat} {v : Value} {l : List Int} (h : IntS w B v l) (hk : Kp w w') : IntS w' B v l := by
  obtain ⟨A, c, e, h1, h2, h3⟩ := h
  exact ⟨A, c, e, h1, h2, h3.imp hk⟩
theorem BoolS.imp {w w' : World} {B : Nat} {v : Value} {l : List Bool} (h : BoolS w B v l) (hk : Kp w w') : BoolS w' B v l := by
  obtain ⟨A, c, e, h1, h2, h3⟩ := h
  exact ⟨A, c, e, h1, h2, h3.imp hk⟩
theorem StS.imp {w w' : World} {B : Nat} {v : Value} {l : List St} (h : StS w B v l) (hk : Kp w w') : StS w' B v l := by
  induction h with
  | mk A c l tv ev hc hr ht he iht ihe =>
    refine .mk A c l tv ev hc (fun hn => ?_) iht ihe
    obtain ⟨b, off, e, hb, hcell⟩ := hr hn
    refine ⟨b, off, e, hb, fun i hi => ?_⟩
    obtain ⟨h0, h1, h2, h3, h4, h5⟩ := hcell i hi
    exact ⟨hk.1 _ _ _ h0, hk.1 _ _ _ h1, hk.1 _ _ _ h2, hk.1 _ _ _ h3, hk.1 _ _ _ h4, hk.1 _ _ _ h5⟩

/-- v is a slice of elements of type e (size cells each) that the call owns; what was in w0 keeps its cells -/
structure Out (w0 w : World) (base : Nat) (e : TypeId) (size : Nat) (v : Value) (n : Nat) (xs : List Value) : Prop where
  own : w.ownsRow base e size v n xs
  kp : Kp w0 w
  bel : Below base w0 w
  hb : base ≤ w0.heap.size
  blk : ∀ g, v.ownBlock = some g → ∀ o, w0.cell? ⟨g, o, none⟩ = none
theorem Out.lenc {w0 w : World} {base : Nat} {e : TypeId} {size : Nat} {v : Value} {n : Nat} {xs : List Value} (h : Out w0 w base e size v n xs) : ∃ A c, v = .slice A n c ∧ n ≤ c := by
  rcases h.own.2 with ⟨rfl, h0⟩ | ⟨g, cap, cur, rfl, _, _, hc, _⟩
  · have := h.own.1
    rcases Nat.eq_zero_or_pos n with hn | hn
    · subst hn; exact ⟨none, 0, rfl, Nat.le_refl _⟩
    · have := h0; first | (subst this; exact ⟨none, 0, rfl, Nat.le_refl _⟩) | omega
  · exact ⟨_, cap, rfl, hc⟩
theorem Out.start {w0 : World} {base : Nat} {e : TypeId} {size : Nat} {A : Option Addr} (h : w0.ownsRow base e size (.slice A 0 0) 0 []) (hb : base ≤ w0.heap.size) : Out w0 w0 base e size (.slice A 0 0) 0 [] := by
  refine ⟨h, Kp.refl _, Below.refl _ _, hb, fun g hg o => ?_⟩
  rcases h.2 with ⟨e1, h0⟩ | ⟨g', cap, cur, e1, _, hh, _, _, hc, _⟩
  · injection e1 with e1; subst e1; simp [Value.ownBlock] at hg
  · injection e1 with e1 e2 e3
    subst e1 e3
    injection hg with hg
    have hg' : g' = g := hg
    subst hg'
    rw [cell_of_row _ _ _ _ _ _ hh]
    rw [Nat.zero_mul] at hc
    exact Array.getElem?_eq_none (by omega)
theorem Out.belc {w0 w w' : World} {base : Nat} {e : TypeId} {size : Nat} {v : Value} {n : Nat} {xs : List Value} (h : Out w0 w base e size v n xs) (hb : Below w.heap.size w w') : Out w0 w' base e size v n xs :=
  ⟨h.own.kept (grown_bel hb (Nat.le_refl _) none) (by cases v.ownBlock <;> simp), h.kp.trans (Kp.of_bel hb), h.bel.trans (hb.mono (Nat.le_trans h.hb h.kp.2)), h.hb, h.blk⟩
theorem Out.le {w0 w : World} {base : Nat} {e : TypeId} {size : Nat} {v : Value} {n : Nat} {xs : List Value} (h : Out w0 w base e size v n xs) : base ≤ w.heap.size := Nat.le_trans h.hb h.kp.2
theorem big_le {n bytes : Nat} (hn : n ≤ 100000) (hby : bytes ≤ 1000) : (n + 1) * bytes ≤ 140737488355328 := by
  have h := Nat.mul_le_mul (show n + 1 ≤ 100001 by omega) hby
  generalize (n + 1) * bytes = x at *
  omega
/-- ints -/
def OutI (w0 w : World) (base : Nat) (v : Value) (l : List Int) : Prop := Out w0 w base 3 1 v l.length (l.map (.int .i64))
theorem OutI.toS {w0 w : World} {base : Nat} {v : Value} {l : List Int} (h : OutI w0 w base v l) (hl : l.length ≤ 4194304) : IntS w w.heap.size v l := OInts.toS (base := base) h.own hl
theorem OutI.start {w0 : World} {base : Nat} {A : Option Addr} (h : OInts w0 base (.slice A 0 0) []) (hb : base ≤ w0.heap.size) : OutI w0 w0 base (.slice A 0 0) [] := Out.start h hb
/-- append(out, x), beside other memory: blocks of other types stay -/
theorem wpList_push_outK {ops : Array Oper} {rest : List Oper} {o : Oper} {a : Act} {Q : Exit → Act → World → Prop} {w0 w : World} {base : Nat} {t e : TypeId} {size bytes : Nat} {z vo : Value} {n : Nat} {xs : List Value} (hgd : o.guard = none) (s x : Operand)
    (ho : o.op = .call { callee := .builtin .append, args := #[s, x], argTypes := #[t, t] })
    (hu : Try.prog.underlying t = some (.slice e)) (hi : (Try.prog.info? e).map (fun i => (i.zero, i.size, i.bytes)) = some (some z, size, bytes)) (hzs : z.cells.size = size) (hsz : 0 < size) (hby : bytes ≤ 1000)
    (hP : Out w0 w base e size vo n xs) (hn : n ≤ 100000) (news : List Value) (hnl : news.length = size) (h1 : ∀ u ∈ news, u.oneCell' = true)
    (hs : a.eval s = vo) (hx : a.eval x = .slice (some ⟨w.heap.size, 0, none⟩) 1 1)
    (h : ∀ (v' : Value) (w' : World), Out w0 w' base e size v' (n + 1) (xs ++ news) → (∀ (b : Nat) (cs : Array Value) (T : TypeId), w.heap[b]? = some (Obj.cells cs T (0, 0)) → T ≠ e → w'.heap[b]? = some (Obj.cells cs T (0, 0))) → wpList Try.prog ops Q rest (a.put o.dst v') w') :
    wpList Try.prog ops Q (o :: rest) a (w.alloc (.cells news.toArray e)) := by
  obtain ⟨i0, hi0, hz0, hz1, hz2⟩ := info_parts hi
  have hA := hP.belc (bel_a w (.cells news.toArray e))
  have hr := heap_alloc_new w (.cells news.toArray e)
  have hbA := bel_a w (.cells news.toArray e)
  have hle := hP.le
  have hsW : (w.alloc (.cells news.toArray e)).heap.size = w.heap.size + 1 := by simp
  generalize w.alloc (.cells news.toArray e) = W at *
  have hbb : (n + 1) * bytes ≤ 140737488355328 := big_le hn hby
  refine wpList_append_own_at _ hgd s x t ho base e i0 z size bytes hu hi0 hz0 hz1 hz2 hzs hsz vo n xs hs hA.own ⟨w.heap.size, 0, none⟩ 1 1 news hx (by rw [hnl, Nat.one_mul]) ?_ h1 (by simp only [maxLen]; omega) hbb (by omega) ?_
  · intro j u hu
    have : W.cell? ⟨w.heap.size, j, none⟩ = some u := by
      rw [cell_of_row _ _ _ _ _ _ hr]
      simpa using hu
    by_cases hj : j = 0
    · subst hj; simpa [Addr.add] using this
    · simpa [Addr.add, hj] using this
  · intro v' w' k1 k2 k3 k4
    refine h v' w' ⟨k1, ⟨fun b o x hx => ?_, Nat.le_trans hA.kp.2 k2.size⟩, ?_, hP.hb, fun g hg o => ?_⟩ fun b cs T hb hT => ?_
    · have hx' := hA.kp.1 b o x hx
      refine (World.cell?_of_block (a := ⟨b, o, none⟩) (k2.block b (cell_lt hx') fun e => ?_)).trans hx'
      rw [hP.blk b e.symm o] at hx
      cases hx
    · refine hA.bel.trans ⟨k2.os, k2.tape, k2.output, k2.size, fun k hk => k2.block k (by omega) fun e => ?_⟩
      have := (hA.own.lt k e.symm).1
      omega
    · rcases k4 with k4 | k4
      · exact hP.blk g (by rw [← k4]; exact hg) o
      · have hg' : W.heap.size = g := Option.some.inj (k4.symm.trans hg)
        rcases e : w0.cell? ⟨g, o, none⟩ with _ | x
        · rfl
        · have := cell_lt e; have := hA.kp.2; omega
    · have hr2 := row_below hb hbA
      refine (k2.block b ?_ fun e => ?_).trans hr2
      · rcases Nat.lt_or_ge b W.heap.size with h' | h'
        · exact h'
        · rw [Array.getElem?_eq_none h'] at hr2; cases hr2
      · rcases hA.own.2 with ⟨rfl, _⟩ | ⟨g, cap, cur, rfl, _, hh, _⟩
        · cases e
        · injection e with e
          have e' : b = g := e
          subst e'
          rw [hr2] at hh
          injection hh with hh
          injection hh with _ hT'
          exact hT hT'

end Go.Proofs.Ytfioaohadanjmaa

/- spec.LiveAfter, spec.NeedsOf. -/
namespace Go.Proofs.Ytfioaohadanjmaa
open Go.RowKit

/-- the box of a program's two slices, in a world behind it -/
structure Boxed (w W : World) (B : Nat) (vt vb : Value) (ts : List Int) (l : List St) : Prop where
  bel : Below w.heap.size w W
  lt : w.heap.size < W.heap.size
  c0 : W.cell? ⟨w.heap.size, 0, none⟩ = some vt
  c1 : W.cell? ⟨w.heap.size, 1, none⟩ = some vb
  ht : IntS W B vt ts
  hl : StS W B vb l
theorem Boxed.new {w : World} {B : Nat} {vt vb : Value} {ts : List Int} {l : List St} (ht : IntS w B vt ts) (hl : StS w B vb l) (hB : B ≤ w.heap.size) (t : TypeId) : Boxed w (w.alloc (.cells #[vt, vb] t)) B vt vb ts l := by
  have hb := bel_a w (.cells #[vt, vb] t)
  have hr := heap_alloc_new w (.cells #[vt, vb] t)
  exact ⟨hb, by simp, (cell_of_row _ _ _ _ _ _ hr).trans rfl, (cell_of_row _ _ _ _ _ _ hr).trans rfl, ht.low hb hB, hl.low hb hB⟩
theorem Boxed.bels {w W W' : World} {B : Nat} {vt vb : Value} {ts : List Int} {l : List St} (h : Boxed w W B vt vb ts l) (hb : Below W.heap.size W W') (hB : B ≤ w.heap.size) : Boxed w W' B vt vb ts l :=
  have hlt := h.lt
  ⟨h.bel.trans (hb.mono h.bel.size), Nat.lt_of_lt_of_le h.lt hb.size, (hb.cell (p := ⟨w.heap.size, 0, none⟩) h.lt).trans h.c0, (hb.cell (p := ⟨w.heap.size, 1, none⟩) h.lt).trans h.c1, h.ht.low hb (by omega), h.hl.low hb (by omega)⟩
theorem OInts.bel {w w' : World} {base : Nat} {v : Value} {l : List Int} (h : OInts w base v l) (hb : Below w.heap.size w w') : OInts w' base v l := h.move (Nat.le_refl _) fun b _ hl => hb.block b hl

set_option maxHeartbeats 4000000

set_option maxRecDepth 100000

end Go.Proofs.Ytfioaohadanjmaa
