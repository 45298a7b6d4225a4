import Derived.Test.YtidlifijgooceaaE12
import Derived.ChangeArms
import Derived.ChangeSlices
import Derived.Deep.Slices
import Derived.Test.YtidlifijgooceaaE31
import Derived.Test.YtidlifijgooceaaE34
import Derived.Test.YtidlifijgooceaaE29
import Derived.Deep.CutBlock
import Derived.Deep.DeepCutAuto
set_option linter.unusedVariables false

/- A law's argument of type Program, read as data, is what the walks of the exact laws ask. -/
namespace Go.Proofs.Ytidlifijgooceaa
open Go.RowKit Go.ChangeShapes

theorem Try.cellsLS : Try.prog.cellsOf 143 = 6 := by kernel_rfl
theorem Try.cellsLI : Try.prog.cellsOf 3 = 1 := by kernel_rfl
theorem Try.cellsLL : Try.prog.cellsOf 47 = 1 := by kernel_rfl
theorem Try.cellsLIS : Try.prog.cellsOf 23 = 1 := by kernel_rfl
theorem Try.cellsLP : Try.prog.cellsOf 49 = 2 := by kernel_rfl
theorem cells_at {w : World} {a : Addr} {n : Nat} {cs : List Value} (h : w.cells? 0 a n = some cs) {j : Nat} (hj : j < n) : w.cell? (a.add j) = cs[j]? := by
  unfold World.cells? at h
  rw [if_pos (Nat.zero_le _)] at h
  exact mapM_some_get h j j (by simp [hj])
theorem add_at {b off i j : Nat} : ((⟨b, off, none⟩ : Addr).add i).add j = ⟨b, off + i + j, none⟩ := by
  unfold Addr.add
  by_cases hi : i = 0 <;> by_cases hj : j = 0 <;> simp [hi, hj, Nat.add_assoc]
section
variable {H : Type} {enc : TypeId × Value → H} {w : World} {sp : Nat → Bool} {held : Bool}
set_option maxRecDepth 100000 in
theorem trod_stmt {fuel : Nat} {cs : List Value} {x : DataW H × List MemPlace} (h : DataW.trod enc Try.prog w 0 sp held fuel 143 cs = some x) :
    ∃ n c4 c5 x4 x5, ∃ z0 z1 z2 z3 : Int, fuel = n + 1 ∧ cs = [.int .i64 z0, .int .i64 z1, .int .i64 z2, .int .i64 z3, c4, c5] ∧ DataW.trod enc Try.prog w 0 sp held n 47 [c4] = some x4 ∧ DataW.trod enc Try.prog w 0 sp held n 47 [c5] = some x5 := by
  obtain ⟨xs, n, rfl, -, hlen, hxl, hf⟩ := DataW.trod_struct Try.underlying143 h
  rw [Try.cellsLS] at hlen
  have hx6 : xs.length = 6 := hxl
  match cs, hlen with
  | [c0, c1, c2, c3, c4, c5], _ =>
    have f0 : DataW.trod enc Try.prog w 0 sp held n 3 (List.take (Try.prog.cellsOf 3) [c0, c1, c2, c3, c4, c5]) = xs[0]? := hf 0 _ rfl
    rw [Try.cellsLI, List.getElem?_eq_getElem (by omega)] at f0
    have f1 : DataW.trod enc Try.prog w 0 sp held n 3 (List.take (Try.prog.cellsOf 3) [c1, c2, c3, c4, c5]) = xs[1]? := hf 1 _ rfl
    rw [Try.cellsLI, List.getElem?_eq_getElem (by omega)] at f1
    have f2 : DataW.trod enc Try.prog w 0 sp held n 3 (List.take (Try.prog.cellsOf 3) [c2, c3, c4, c5]) = xs[2]? := hf 2 _ rfl
    rw [Try.cellsLI, List.getElem?_eq_getElem (by omega)] at f2
    have f3 : DataW.trod enc Try.prog w 0 sp held n 3 (List.take (Try.prog.cellsOf 3) [c3, c4, c5]) = xs[3]? := hf 3 _ rfl
    rw [Try.cellsLI, List.getElem?_eq_getElem (by omega)] at f3
    have f4 : DataW.trod enc Try.prog w 0 sp held n 47 (List.take (Try.prog.cellsOf 47) [c4, c5]) = xs[4]? := hf 4 _ rfl
    rw [Try.cellsLL, List.getElem?_eq_getElem (by omega)] at f4
    have f5 : DataW.trod enc Try.prog w 0 sp held n 47 (List.take (Try.prog.cellsOf 47) [c5]) = xs[5]? := hf 5 _ rfl
    rw [Try.cellsLL, List.getElem?_eq_getElem (by omega)] at f5
    obtain ⟨z0, e0, -⟩ := DataW.trod_int Try.underlying3 f0
    have e0 : c0 = _ := (List.cons.inj e0).1
    subst e0
    obtain ⟨z1, e1, -⟩ := DataW.trod_int Try.underlying3 f1
    have e1 : c1 = _ := (List.cons.inj e1).1
    subst e1
    obtain ⟨z2, e2, -⟩ := DataW.trod_int Try.underlying3 f2
    have e2 : c2 = _ := (List.cons.inj e2).1
    subst e2
    obtain ⟨z3, e3, -⟩ := DataW.trod_int Try.underlying3 f3
    have e3 : c3 = _ := (List.cons.inj e3).1
    subst e3
    exact ⟨n, c4, c5, _, _, z0, z1, z2, z3, rfl, rfl, f4, f5⟩
theorem StS.none (w : World) (B : Nat) : StS w B (.slice none 0 0) [] :=
  .mk _ 0 [] (fun _ => undef) (fun _ => undef) (Nat.le_refl _) (fun h => by simp at h) (fun i h => by simp at h) fun i h => by simp at h
theorem Lens.nil : Lens [] := .mk _ (Nat.zero_le _) (fun i h => by simp at h) fun i h => by simp at h
theorem read_stmts (fuel : Nat) : ∀ (cs : List Value) (x : DataW H × List MemPlace), DataW.trod enc Try.prog w 0 sp held fuel 47 cs = some x → ∃ v l, cs = [v] ∧ StS w w.heap.size v l ∧ Lens l := by
  induction fuel using Nat.strongRecOn with
  | _ fuel ih =>
    intro cs x h
    rcases DataW.trod_slice Try.underlying47 h with ⟨rfl, -⟩ | ⟨a, len, cap, elems, rest, n, rfl, rfl, -, -, hlc, hcm, hel, hi, -⟩
    · exact ⟨_, [], rfl, StS.none _ _, Lens.nil⟩
    · rw [Try.cellsLS] at hi
      by_cases h0 : len = 0
      · subst h0
        exact ⟨_, [], rfl, .mk _ cap [] (fun _ => undef) (fun _ => undef) (Nat.zero_le _) (fun h => by simp at h) (fun i h => by simp at h) fun i h => by simp at h, Lens.nil⟩
      · have key : ∀ i, i < len → ∃ q : St × Value × Value, (w.cell? ((a.add (i * 6)).add 0) = some (.int .i64 q.1.op) ∧ w.cell? ((a.add (i * 6)).add 1) = some (.int .i64 q.1.x) ∧ w.cell? ((a.add (i * 6)).add 2) = some (.int .i64 q.1.y) ∧ w.cell? ((a.add (i * 6)).add 3) = some (.int .i64 q.1.n) ∧ w.cell? ((a.add (i * 6)).add 4) = some q.2.1 ∧ w.cell? ((a.add (i * 6)).add 5) = some q.2.2) ∧ StS w w.heap.size q.2.1 q.1.th ∧ StS w w.heap.size q.2.2 q.1.el ∧ Lens q.1.th ∧ Lens q.1.el := by
          intro i hil
          have hb := hi i hil
          rw [List.getElem?_eq_getElem (by omega)] at hb
          obtain ⟨cs', h1, h2⟩ := Option.bind_eq_some_iff.1 hb
          obtain ⟨n', c4, c5, x4, x5, z0, z1, z2, z3, rfl, rfl, t4, t5⟩ := trod_stmt h2
          obtain ⟨v4, l4, e4, s4, n4⟩ := ih n' (by omega) _ _ t4
          obtain ⟨v5, l5, e5, s5, n5⟩ := ih n' (by omega) _ _ t5
          simp only [List.cons.injEq, and_true] at e4 e5
          subst e4 e5
          refine ⟨(.mk z0 z1 z2 z3 l4 l5, c4, c5), ⟨?_, ?_, ?_, ?_, ?_, ?_⟩, s4, s5, n4, n5⟩ <;> rw [cells_at h1 (by omega)] <;> rfl
        haveI : Inhabited (St × Value × Value) := ⟨(.mk 0 0 0 0 [] [], undef, undef)⟩
        obtain ⟨f, hf⟩ := Go.Deep.choose_lt key
        obtain ⟨b, off, spot⟩ := a
        have hspot : spot = none := by
          have := (hf 0 (by omega)).1.1
          have := World.cell?_spot this
          simpa [Addr.add] using this
        subst hspot
        have hlt : b < w.heap.size := by
          have hc := (hf 0 (by omega)).1.1
          rcases Nat.lt_or_ge b w.heap.size with h | h
          · exact h
          · simp [Addr.add, World.cell?, Array.getElem?_eq_none h] at hc
        simp only [add_at] at hf
        have hl : ((List.range len).map fun i => (f i).1).length = len := by simp
        refine ⟨_, (List.range len).map fun i => (f i).1, by simp, .mk _ cap _ (fun i => (f i).2.1) (fun i => (f i).2.2) (by rw [hl]; exact hlc) (fun _ => ⟨b, off, rfl, hlt, fun i hi' => ?_⟩) (fun i hi' => ?_) (fun i hi' => ?_), .mk _ (by rw [hl]; omega) (fun i hi' => ?_) fun i hi' => ?_⟩
        all_goals
          have hi2 : i < len := by simpa using hi'
          have e : ((List.range len).map fun i => (f i).1)[i]'hi' = (f i).1 := by simp
          rw [e]
        · exact (hf i hi2).1
        · exact (hf i hi2).2.1
        · exact (hf i hi2).2.2.1
        · exact (hf i hi2).2.2.2.1
        · exact (hf i hi2).2.2.2.2
theorem read_ints {fuel : Nat} {cs : List Value} {x : DataW H × List MemPlace} (h : DataW.trod enc Try.prog w 0 sp held fuel 23 cs = some x) : ∃ v l, cs = [v] ∧ AnI w w.heap.size v l := by
  rcases DataW.trod_slice Try.underlying23 h with ⟨rfl, -⟩ | ⟨a, len, cap, elems, rest, n, rfl, rfl, -, -, hlc, hcm, hel, hi, -⟩
  · exact ⟨_, [], rfl, _, 0, rfl, Nat.le_refl _, Nat.zero_le _, Rd.nil⟩
  · rw [Try.cellsLI] at hi
    by_cases h0 : len = 0
    · subst h0
      exact ⟨_, [], rfl, _, cap, rfl, Nat.zero_le _, Nat.zero_le _, Rd.nil⟩
    · have key : ∀ i, i < len → ∃ z : Int, w.cell? ((a.add (i * 1)).add 0) = some (.int .i64 z) := by
        intro i hil
        have hb := hi i hil
        rw [List.getElem?_eq_getElem (by omega)] at hb
        obtain ⟨cs', h1, h2⟩ := Option.bind_eq_some_iff.1 hb
        obtain ⟨z, rfl, -⟩ := DataW.trod_int Try.underlying3 h2
        exact ⟨z, by rw [cells_at h1 (by omega)]; rfl⟩
      obtain ⟨f, hf⟩ := Go.Deep.choose_lt key
      obtain ⟨b, off, spot⟩ := a
      have hspot : spot = none := by
        have := World.cell?_spot (hf 0 (by omega))
        simpa [Addr.add] using this
      subst hspot
      have hlt : b < w.heap.size := by
        have hc := hf 0 (by omega)
        rcases Nat.lt_or_ge b w.heap.size with h | h
        · exact h
        · simp [Addr.add, World.cell?, Array.getElem?_eq_none h] at hc
      simp only [add_at, Nat.mul_one, Nat.add_zero] at hf
      have hl : ((List.range len).map f).length = len := by simp
      refine ⟨_, (List.range len).map f, by simp, _, cap, rfl, by rw [hl]; exact hlc, by rw [hl]; omega, by simp, fun _ => ⟨b, off, rfl, hlt, fun j u hu => ?_⟩⟩
      have hj : j < len := by
        rcases Nat.lt_or_ge j len with h | h
        · exact h
        · rw [List.getElem?_eq_none (by simpa using h)] at hu; cases hu
      rw [hf j hj]
      simpa [hj] using hu
set_option maxRecDepth 100000 in
/-- a Program -/
theorem read_program {fuel : Nat} {v : Value} {x : DataW H × List MemPlace} (hv : ∃ cs, v = .agg cs) (h : DataW.trod enc Try.prog w 0 sp held fuel 49 v.cells.toList = some x) : ∃ vt vb ts l, v = .agg #[vt, vb] ∧ AnI w w.heap.size vt ts ∧ StS w w.heap.size vb l ∧ Lens l := by
  obtain ⟨cs, rfl⟩ := hv
  obtain ⟨cl⟩ := cs
  obtain ⟨xs, n, rfl, -, hlen, hxl, hf⟩ := DataW.trod_struct Try.underlying49 h
  rw [Try.cellsLP] at hlen
  have hx2 : xs.length = 2 := hxl
  simp only [Value.cells] at hlen hf
  match cl, hlen with
  | [c0, c1], _ =>
    have f0 : DataW.trod enc Try.prog w 0 sp held n 23 (List.take (Try.prog.cellsOf 23) [c0, c1]) = xs[0]? := hf 0 _ rfl
    have f1 : DataW.trod enc Try.prog w 0 sp held n 47 (List.take (Try.prog.cellsOf 47) [c1]) = xs[1]? := hf 1 _ rfl
    rw [Try.cellsLIS, List.getElem?_eq_getElem (by omega)] at f0
    rw [Try.cellsLL, List.getElem?_eq_getElem (by omega)] at f1
    obtain ⟨v0, ts, e0, hi⟩ := read_ints f0
    obtain ⟨v1, l, e1, hs, hn⟩ := read_stmts n _ _ f1
    have e0 : c0 = v0 := (List.cons.inj e0).1
    have e1 : c1 = v1 := (List.cons.inj e1).1
    subst e0 e1
    exact ⟨_, _, ts, l, rfl, hi, hs, hn⟩
theorem int_wf {z : Int} {d : DataW H} {p : List MemPlace} (h : DataW.Trod enc Try.prog w 0 sp held 3 (.int .i64 z) d p) : -9223372036854775808 ≤ z ∧ z ≤ 9223372036854775807 := by
  obtain ⟨m, hm⟩ := h
  obtain ⟨n, e, -, hw⟩ := DataW.trod_int Try.underlying3 hm
  have e2 : z = n := by simpa [Value.cells] using e
  subst e2
  simp only [Lit.wf, Bool.and_eq_true, decide_eq_true_eq] at hw
  exact hw
end

end Go.Proofs.Ytidlifijgooceaa

/- Accesses: owned rows of them; impl.graph.accesses, impl.AccessesOf. -/
namespace Go.Proofs.Ytidlifijgooceaa
open Go.RowKit

structure Acc where
  vr : Int
  wr : Bool
def axCells : List Acc → List Value
  | [] => []
  | x :: r => .int .i64 x.vr :: .bool x.wr :: axCells r
theorem axCells_append (a b : List Acc) : axCells (a ++ b) = axCells a ++ axCells b := by
  induction a with
  | nil => rfl
  | cons x r ih => simp [axCells, ih]
theorem axCells_at {ls : List Acc} {i : Nat} (hi : i < ls.length) : (axCells ls)[i * 2]? = some (.int .i64 ls[i].vr) ∧ (axCells ls)[i * 2 + 1]? = some (.bool ls[i].wr) := by
  induction ls generalizing i with
  | nil => simp at hi
  | cons x r ih =>
    cases i with
    | zero => simp [axCells]
    | succ i =>
      have := ih (i := i) (by simpa using hi)
      simp only [axCells, show (i + 1) * 2 = i * 2 + 2 by omega, show i * 2 + 2 + 1 = i * 2 + 1 + 2 by omega, List.getElem?_cons_succ, List.getElem_cons_succ]
      exact this
def OAx (w : World) (base : Nat) (v : Value) (ls : List Acc) : Prop := w.ownsRow base 156 2 v ls.length (axCells ls)
theorem OAx.nil (w : World) (base : Nat) : OAx w base (.slice none 0 0) [] := World.ownsRow_nil _ _ _ _
theorem OAx.slice {w : World} {base : Nat} {v : Value} {l : List Acc} (h : OAx w base v l) : ∃ A c, v = .slice A l.length c ∧ l.length ≤ c := by
  rcases h.2 with ⟨rfl, h0⟩ | ⟨g, cap, cur, rfl, _, _, hc, _⟩
  · exact ⟨none, 0, by rw [h0], by omega⟩
  · exact ⟨_, cap, rfl, hc⟩
theorem OAx.bel {w w' : World} {base : Nat} {v : Value} {l : List Acc} (h : OAx w base v l) (hb : Below w.heap.size w w') : OAx w' base v l :=
  World.ownsRow.kept h (grown_bel hb (Nat.le_refl _) none) (by cases v.ownBlock <;> simp)
/-- the slice v reads as the accesses ls -/
def AxS (w : World) (B : Nat) (v : Value) (ls : List Acc) : Prop :=
  ∃ A c, v = .slice A ls.length c ∧ ls.length ≤ c ∧ ls.length ≤ 100000 ∧ (0 < ls.length → ∃ b off, A = some ⟨b, off, none⟩ ∧ b < B ∧ ∀ i (h : i < ls.length),
    w.cell? ⟨b, off + i * 2, none⟩ = some (.int .i64 ls[i].vr) ∧ w.cell? ⟨b, off + i * 2 + 1, none⟩ = some (.bool ls[i].wr))
theorem AxS.low {w w' : World} {B B' : Nat} {v : Value} {l : List Acc} (h : AxS w B v l) (hb : Below B' w w') (hB : B ≤ B') : AxS w' B v l := by
  obtain ⟨A, c, e, h1, h2, h3⟩ := h
  refine ⟨A, c, e, h1, h2, fun hn => ?_⟩
  obtain ⟨b, off, e, hbb, hc⟩ := h3 hn
  have k : ∀ o, w'.cell? ⟨b, o, none⟩ = w.cell? ⟨b, o, none⟩ := fun o => hb.cell (p := ⟨b, o, none⟩) (by show b < B'; omega)
  exact ⟨b, off, e, hbb, fun i hi => by simp only [k]; exact hc i hi⟩
theorem AxS.bel {w w' : World} {v : Value} {l : List Acc} (h : AxS w w.heap.size v l) (hb : Below w.heap.size w w') : AxS w' w'.heap.size v l := by
  obtain ⟨A, c, e, h1, h2, h3⟩ := h.low hb (Nat.le_refl _)
  refine ⟨A, c, e, h1, h2, fun hn => ?_⟩
  obtain ⟨b, off, e, hbb, hc⟩ := h3 hn
  exact ⟨b, off, e, Nat.lt_of_lt_of_le hbb hb.size, hc⟩
theorem AxS.slice {w : World} {B : Nat} {v : Value} {l : List Acc} (h : AxS w B v l) : ∃ A c, v = .slice A l.length c ∧ l.length ≤ c := by
  obtain ⟨A, c, e, h1, _⟩ := h
  exact ⟨A, c, e, h1⟩
theorem AxS.get {w : World} {B n c : Nat} {A : Option Addr} {l : List Acc} (h : AxS w B (.slice A n c) l) {i : Nat} (hi : i < l.length) : ∃ b off, A = some ⟨b, off, none⟩ ∧ b < B ∧
    w.cell? ⟨b, off + i * 2, none⟩ = some (.int .i64 l[i].vr) ∧ w.cell? ⟨b, off + i * 2 + 1, none⟩ = some (.bool l[i].wr) := by
  obtain ⟨A', c', e, h1, h2, h3⟩ := h
  injection e with e1 _ _
  subst e1
  obtain ⟨b, off, e, hb, hc⟩ := h3 (by omega)
  exact ⟨b, off, e, hb, hc i hi⟩
theorem OAx.toS {w : World} {base : Nat} {v : Value} {l : List Acc} (h : OAx w base v l) (hl : l.length ≤ 100000) : AxS w w.heap.size v l := by
  obtain ⟨A, c, rfl, hc⟩ := h.slice
  refine ⟨A, c, rfl, hc, hl, fun hn => ?_⟩
  obtain ⟨g, cap, e, hb, hlt⟩ := World.ownsRow.form h hn
  injection e with e1 _ e2
  subst e1 e2
  refine ⟨g, 0, rfl, hlt, fun i hi => ?_⟩
  obtain ⟨a0, a1⟩ := axCells_at hi
  simp only [Nat.zero_add]
  exact ⟨(World.ownsRow.cellAt h _ (by omega)).trans a0, (World.ownsRow.cellAt h _ (by omega)).trans a1⟩
theorem Try.infoAx : (Try.prog.info? 156).map (fun i => (i.zero, i.size, i.bytes)) = some (some (.agg #[.int .i64 0, .bool false]), 2, 16) := by kernel_rfl
/-- append(out, Access{..}) -/
theorem wpList_push_ax {ops : Array Oper} {rest : List Oper} {o : Oper} {a : Act} {Q : Exit → Act → World → Prop} {w : World} {base : Nat} {vo : Value} {ls : List Acc} (hgd : o.guard = none) (s x : Operand)
    (ho : o.op = .call { callee := .builtin .append, args := #[s, x], argTypes := #[117, 117] })
    (hP : OAx w base vo ls) (hb : base ≤ w.heap.size) (hn : ls.length + 1 ≤ 100000) (y : Int) (u : Bool) (hs : a.eval s = vo) (hx : a.eval x = .slice (some ⟨w.heap.size, 0, none⟩) 1 1)
    (h : ∀ v' w', OAx w' base v' (ls ++ [⟨y, u⟩]) → Below base w w' → wpList Try.prog ops Q rest (a.put o.dst v') w') :
    wpList Try.prog ops Q (o :: rest) a (w.alloc (.cells #[.int .i64 y, .bool u] 156)) := by
  obtain ⟨i0, hi0, hz0, hz1, hz2⟩ := info_parts Try.infoAx
  have hown := World.ownsRow.alloc hP (.cells #[.int .i64 y, .bool u] 156)
  refine wpList_append_own_at _ hgd s x 117 ho base 156 i0 _ 2 16 Try.underlying117 hi0 hz0 hz1 hz2 rfl (by omega) vo ls.length _ hs hown ⟨w.heap.size, 0, none⟩ 1 1 [.int .i64 y, .bool u] hx rfl ?_ ?_ (by simp only [maxLen]; omega) (by omega) (by simp; omega) ?_
  · intro j u' hu
    have : (w.alloc (.cells #[.int .i64 y, .bool u] 156)).cell? ⟨w.heap.size, j, none⟩ = some u' := by
      rw [cell_of_row _ _ _ _ _ _ (heap_alloc_new w _)]
      simpa using hu
    unfold Addr.add
    by_cases hj : j = 0
    · subst hj; simpa using this
    · simpa [hj] using this
  · intro u' hu
    simp at hu
    rcases hu with rfl | rfl <;> rfl
  · intro v' w' k1 k2 k3 k4
    refine h v' w' ?_ ((((bel_a w _).mono hb)).trans ((Evo.grown (T := 156) hown k2).below (by simp; omega)))
    unfold OAx
    rw [axCells_append]
    simpa [axCells] using k1

theorem OAx.empty (w : World) (base : Nat) (hb : base ≤ w.heap.size) : OAx (w.alloc (.cells #[] 156)) base (.slice (some ⟨w.heap.size, 0, none⟩) 0 0) [] :=
  World.ownsRow_lit (base := base) (e := 156) (size := 2) w #[] 0 hb (by simp [maxLen]) rfl
/-- what a point itself reaches; what it lets go by setting -/
def acc1 (ts : List Int) (op x y : Int) : List Acc :=
  if op = 4 ∨ op = 6 then [⟨y, false⟩] else if op = 5 then [⟨y, true⟩] else if op = 7 ∨ op = 8 then [⟨x, true⟩] else if op = 3 then (if takesP ts y then [⟨y, true⟩] else []) else []
def acc2 (ts : List Int) (op x : Int) (m : Nat → Bool) : List Acc := if 0 ≤ setsP op x ∧ typeOfP ts (setsP op x) = 2 ∧ m (setsP op x).toNat = true then [⟨setsP op x, true⟩] else []
def accL (ts : List Int) (op x y : Int) (m : Nat → Bool) : List Acc := acc1 ts op x y ++ acc2 ts op x m
def AxRet (w : World) (ls : List Acc) (e : Ending) (w' : World) : Prop := ∃ v, e = .returned v ∧ AxS w' w'.heap.size v ls ∧ Below w.heap.size w w'

set_option maxHeartbeats 1000000 in
set_option maxRecDepth 100000 in
theorem accesses_any (vg : Value) (ts : List Int) (pts : List Pt) (B : Nat) (op x y n : Int) (A : Option Addr) (m c mm : Nat) (w : World) (hg : GrS w B vg ts pts) (hB : B ≤ w.heap.size) (hm : mm < 64) (h6 : ts.length ≤ 6) (hs : 0 ≤ setsP op x → setsP op x < ts.length) (hy : op = 3 → 0 ≤ y ∧ y < ts.length) :
    Calls Try.prog 149 #[vg, .agg #[.int .i64 op, .int .i64 x, .int .i64 y, .int .i64 n, .slice A m c], .int .i64 (mm : Nat)] w (AxRet w (accL ts op x y mm.testBit)) := by
  have HG := Lib.hid hg
  obtain ⟨g, At, ct, vb, Al, cl, rfl, hgB, -, -, -, -, -, htl, hpl⟩ := hg.open_
  have HS := Lib.hid hs
  have HY := Lib.hid hy
  clear hg hs hy
  go_enter Try.func149, Try.ntmps149
  go_upto_region 2 with (at_builtin; fail)
  have hbA := bel_a w (.cells #[.int .i64 op, .int .i64 x, .int .i64 y, .int .i64 n, .slice A m c] 100)
  have hRA := heap_alloc_new w (.cells #[.int .i64 op, .int .i64 x, .int .i64 y, .int .i64 n, .slice A m c] 100)
  have hsA : (w.alloc (.cells #[.int .i64 op, .int .i64 x, .int .i64 y, .int .i64 n, .slice A m c] 100)).heap.size = w.heap.size + 1 := by simp
  generalize w.alloc (.cells #[.int .i64 op, .int .i64 x, .int .i64 y, .int .i64 n, .slice A m c] 100) = W0 at *
  obtain ⟨bx, hbx⟩ : ∃ bx, bx = w.heap.size := ⟨_, rfl⟩
  rw [← hbx] at hRA hsA ⊢
  have y0 : W0.cell? ⟨bx, 0, none⟩ = some (.int .i64 op) := by rw [cell_of_row _ _ _ _ _ _ hRA]; rfl
  have y1 : W0.cell? ⟨bx, 1, none⟩ = some (.int .i64 x) := by rw [cell_of_row _ _ _ _ _ _ hRA]; rfl
  have y2 : W0.cell? ⟨bx, 2, none⟩ = some (.int .i64 y) := by rw [cell_of_row _ _ _ _ _ _ hRA]; rfl
  have y3 : W0.cell? ⟨bx, 3, none⟩ = some (.int .i64 n) := by rw [cell_of_row _ _ _ _ _ _ hRA]; rfl
  have y4 : W0.cell? ⟨bx, 4, none⟩ = some (.slice A m c) := by rw [cell_of_row _ _ _ _ _ _ hRA]; rfl
  have HBA := Lib.hid hbA
  have HBX := Lib.hid hbx
  have HON := Lib.hid (OAx.nil W0 (bx + 1))
  have HGW := Lib.hid (HG.out.low hbA hB)
  have hBx : B ≤ bx := by omega
  have HSA := Lib.hid hsA
  have hBW : B ≤ W0.heap.size := by omega
  have hbW : bx + 1 ≤ W0.heap.size := by omega
  clear hRA hbA hbx hB hsA
  rcases (by omega : op = 4 ∨ op = 6 ∨ op = 5 ∨ op = 7 ∨ op = 8 ∨ op = 3 ∨ (op ≠ 3 ∧ op ≠ 4 ∧ op ≠ 5 ∧ op ≠ 6 ∧ op ≠ 7 ∧ op ≠ 8)) with rfl | rfl | rfl | rfl | rfl | rfl | ho
  · have HA1 : Hid (acc1 ts 4 x y = [⟨y, false⟩]) := Lib.hid (by unfold acc1; simp)
    go_wp2_with (at_builtin; go_must (refine wpList_push_ax rfl (.tmp 14) (.tmp 18) rfl HON.out (by omega) (by simp) y false rfl rfl ?_); intro v' w' hP' hE'; (have z0 := (hE'.cell (p := ⟨bx, 0, none⟩) (by show bx < bx + 1; omega)).trans y0); (have z1 := (hE'.cell (p := ⟨bx, 1, none⟩) (by show bx < bx + 1; omega)).trans y1); (have z2 := (hE'.cell (p := ⟨bx, 2, none⟩) (by show bx < bx + 1; omega)).trans y2); (have z3 := (hE'.cell (p := ⟨bx, 3, none⟩) (by show bx < bx + 1; omega)).trans y3); (have z4 := (hE'.cell (p := ⟨bx, 4, none⟩) (by show bx < bx + 1; omega)).trans y4); (have HO := Lib.hid hP'); (have HBE := Lib.hid hE'); clear hP' hE' y0 y1 y2 y3 y4)
    have hsz' := HBE.out.size
    refine (sets_any _ _ _ _ _ _).mono ?_
    rintro e w5 ⟨rfl, hb5⟩
    obtain ⟨s, hs⟩ : ∃ s, s = setsP 4 x := ⟨_, rfl⟩
    have HSS := Lib.hid hs
    have HS2 := HS.out
    rw [← hs] at HS2 ⊢
    have HO5 := Lib.hid (HO.out.bel hb5)
    have HG5 := Lib.hid ((HGW.out.low HBE.out (by omega)).low hb5 (by omega))
    have HB5 := Lib.hid (HBA.out.trans ((HBE.out.mono (by rw [← HBX.out]; omega)).trans (hb5.mono (by rw [← HBX.out]; omega))))
    have hs5 := hb5.size
    clear z0 z1 z2 z3 z4 hs hb5
    by_cases hs0 : 0 ≤ s
    · have hs1 : decide (s ≥ 0) = true := by simpa using hs0
      have hsl := HS2 hs0
      obtain ⟨k, rfl⟩ : ∃ k : Nat, s = k := ⟨s.toNat, by omega⟩
      have hk6 : k < ts.length := by omega
      obtain ⟨g', At', ct', vb', Al', cl', e, -, g0, -, -, ht, -, -, -⟩ := HG5.out.open_
      injection e with e
      injection e with e
      injection e with e7 e8
      subst e7
      obtain ⟨bt, ot, ct2, e, hbt, -, -, hct2⟩ := ht.get (i := (k : Nat)) (by omega) hsl
      injection e with e1 e9 e2
      subst e1 e2
      rw [Int.toNat_natCast] at hct2
      clear e8 e9 hs0 hsl HS2 ht
      by_cases hty : typeOfP ts (k : Nat) = 2
      · rw [hty] at hct2
        obtain ⟨q, hq⟩ : ∃ q : Nat, ((mm : Nat) : Int) / 2 ^ k = q := ⟨mm / 2 ^ k, by simp⟩
        have hq' : q = mm / 2 ^ k := by
          have : ((mm / 2 ^ k : Nat) : Int) = q := by rw [← hq]; simp
          omega
        have hq64 : q ≤ 63 := by rw [hq']; exact Nat.le_trans (Nat.div_le_self _ _) (by omega)
        have hbt2 := bit_test hq' hq64
        clear hq'
        cases hbk : mm.testBit k
        · rw [hbk] at hbt2
          have HL : Hid (accL ts 4 x y mm.testBit = [⟨y, false⟩]) := Lib.hid (by unfold accL acc2; rw [HA1.out, ← HSS.out, if_neg (fun h => by have h3 := h.2.2; rw [Int.toNat_natCast, hbk] at h3; cases h3), List.append_nil])
          clear hbk
          go_wp2_with (at_builtin; fail)
          go_ret
          exact ⟨_, rfl, by rw [HL.out]; exact HO5.out.toS (by simp), HB5.out⟩
        · rw [hbk] at hbt2
          have HL : Hid (accL ts 4 x y mm.testBit = [⟨y, false⟩] ++ [⟨(k : Nat), true⟩]) := Lib.hid (by unfold accL acc2; rw [HA1.out, ← HSS.out, if_pos ⟨by omega, hty, by rw [Int.toNat_natCast]; exact hbk⟩])
          clear hbk
          go_wp2_with (at_builtin; go_must (refine wpList_push_ax rfl (.tmp 71) (.tmp 74) rfl HO5.out (by omega) (by simp) (k : Nat) true rfl rfl ?_); intro v9 w9 hP9 hE9)
          go_ret
          exact ⟨_, rfl, by rw [HL.out]; exact hP9.toS (by simp), HB5.out.trans (hE9.mono (by rw [← HBX.out]; omega))⟩
      · have hty2 : ((typeOfP ts (k : Nat)) == 2) = false := by simpa using hty
        have HL : Hid (accL ts 4 x y mm.testBit = [⟨y, false⟩]) := Lib.hid (by unfold accL acc2; rw [HA1.out, ← HSS.out, if_neg (fun h => hty h.2.1), List.append_nil])
        clear hty
        go_wp2_with (at_builtin; fail)
        go_ret
        exact ⟨_, rfl, by rw [HL.out]; exact HO5.out.toS (by simp), HB5.out⟩
    · have hs1 : decide (s ≥ 0) = false := by simpa using hs0
      have HL : Hid (accL ts 4 x y mm.testBit = [⟨y, false⟩]) := Lib.hid (by unfold accL acc2; rw [HA1.out, ← HSS.out, if_neg (fun h => hs0 h.1), List.append_nil])
      clear hs0 HS2
      go_wp2_with (at_builtin; fail)
      go_ret
      exact ⟨_, rfl, by rw [HL.out]; exact HO5.out.toS (by simp), HB5.out⟩
  · have HA1 : Hid (acc1 ts 6 x y = [⟨y, false⟩]) := Lib.hid (by unfold acc1; simp)
    go_wp2_with (at_builtin; go_must (refine wpList_push_ax rfl (.tmp 14) (.tmp 18) rfl HON.out (by omega) (by simp) y false rfl rfl ?_); intro v' w' hP' hE'; (have z0 := (hE'.cell (p := ⟨bx, 0, none⟩) (by show bx < bx + 1; omega)).trans y0); (have z1 := (hE'.cell (p := ⟨bx, 1, none⟩) (by show bx < bx + 1; omega)).trans y1); (have z2 := (hE'.cell (p := ⟨bx, 2, none⟩) (by show bx < bx + 1; omega)).trans y2); (have z3 := (hE'.cell (p := ⟨bx, 3, none⟩) (by show bx < bx + 1; omega)).trans y3); (have z4 := (hE'.cell (p := ⟨bx, 4, none⟩) (by show bx < bx + 1; omega)).trans y4); (have HO := Lib.hid hP'); (have HBE := Lib.hid hE'); clear hP' hE' y0 y1 y2 y3 y4)
    have hsz' := HBE.out.size
    refine (sets_any _ _ _ _ _ _).mono ?_
    rintro e w5 ⟨rfl, hb5⟩
    obtain ⟨s, hs⟩ : ∃ s, s = setsP 6 x := ⟨_, rfl⟩
    have HSS := Lib.hid hs
    have HS2 := HS.out
    rw [← hs] at HS2 ⊢
    have HO5 := Lib.hid (HO.out.bel hb5)
    have HG5 := Lib.hid ((HGW.out.low HBE.out (by omega)).low hb5 (by omega))
    have HB5 := Lib.hid (HBA.out.trans ((HBE.out.mono (by rw [← HBX.out]; omega)).trans (hb5.mono (by rw [← HBX.out]; omega))))
    have hs5 := hb5.size
    clear z0 z1 z2 z3 z4 hs hb5
    by_cases hs0 : 0 ≤ s
    · have hs1 : decide (s ≥ 0) = true := by simpa using hs0
      have hsl := HS2 hs0
      obtain ⟨k, rfl⟩ : ∃ k : Nat, s = k := ⟨s.toNat, by omega⟩
      have hk6 : k < ts.length := by omega
      obtain ⟨g', At', ct', vb', Al', cl', e, -, g0, -, -, ht, -, -, -⟩ := HG5.out.open_
      injection e with e
      injection e with e
      injection e with e7 e8
      subst e7
      obtain ⟨bt, ot, ct2, e, hbt, -, -, hct2⟩ := ht.get (i := (k : Nat)) (by omega) hsl
      injection e with e1 e9 e2
      subst e1 e2
      rw [Int.toNat_natCast] at hct2
      clear e8 e9 hs0 hsl HS2 ht
      by_cases hty : typeOfP ts (k : Nat) = 2
      · rw [hty] at hct2
        obtain ⟨q, hq⟩ : ∃ q : Nat, ((mm : Nat) : Int) / 2 ^ k = q := ⟨mm / 2 ^ k, by simp⟩
        have hq' : q = mm / 2 ^ k := by
          have : ((mm / 2 ^ k : Nat) : Int) = q := by rw [← hq]; simp
          omega
        have hq64 : q ≤ 63 := by rw [hq']; exact Nat.le_trans (Nat.div_le_self _ _) (by omega)
        have hbt2 := bit_test hq' hq64
        clear hq'
        cases hbk : mm.testBit k
        · rw [hbk] at hbt2
          have HL : Hid (accL ts 6 x y mm.testBit = [⟨y, false⟩]) := Lib.hid (by unfold accL acc2; rw [HA1.out, ← HSS.out, if_neg (fun h => by have h3 := h.2.2; rw [Int.toNat_natCast, hbk] at h3; cases h3), List.append_nil])
          clear hbk
          go_wp2_with (at_builtin; fail)
          go_ret
          exact ⟨_, rfl, by rw [HL.out]; exact HO5.out.toS (by simp), HB5.out⟩
        · rw [hbk] at hbt2
          have HL : Hid (accL ts 6 x y mm.testBit = [⟨y, false⟩] ++ [⟨(k : Nat), true⟩]) := Lib.hid (by unfold accL acc2; rw [HA1.out, ← HSS.out, if_pos ⟨by omega, hty, by rw [Int.toNat_natCast]; exact hbk⟩])
          clear hbk
          go_wp2_with (at_builtin; go_must (refine wpList_push_ax rfl (.tmp 71) (.tmp 74) rfl HO5.out (by omega) (by simp) (k : Nat) true rfl rfl ?_); intro v9 w9 hP9 hE9)
          go_ret
          exact ⟨_, rfl, by rw [HL.out]; exact hP9.toS (by simp), HB5.out.trans (hE9.mono (by rw [← HBX.out]; omega))⟩
      · have hty2 : ((typeOfP ts (k : Nat)) == 2) = false := by simpa using hty
        have HL : Hid (accL ts 6 x y mm.testBit = [⟨y, false⟩]) := Lib.hid (by unfold accL acc2; rw [HA1.out, ← HSS.out, if_neg (fun h => hty h.2.1), List.append_nil])
        clear hty
        go_wp2_with (at_builtin; fail)
        go_ret
        exact ⟨_, rfl, by rw [HL.out]; exact HO5.out.toS (by simp), HB5.out⟩
    · have hs1 : decide (s ≥ 0) = false := by simpa using hs0
      have HL : Hid (accL ts 6 x y mm.testBit = [⟨y, false⟩]) := Lib.hid (by unfold accL acc2; rw [HA1.out, ← HSS.out, if_neg (fun h => hs0 h.1), List.append_nil])
      clear hs0 HS2
      go_wp2_with (at_builtin; fail)
      go_ret
      exact ⟨_, rfl, by rw [HL.out]; exact HO5.out.toS (by simp), HB5.out⟩
  · have HA1 : Hid (acc1 ts 5 x y = [⟨y, true⟩]) := Lib.hid (by unfold acc1; simp)
    go_wp2_with (at_builtin; go_must (refine wpList_push_ax rfl (.tmp 22) (.tmp 26) rfl HON.out (by omega) (by simp) y true rfl rfl ?_); intro v' w' hP' hE'; (have z0 := (hE'.cell (p := ⟨bx, 0, none⟩) (by show bx < bx + 1; omega)).trans y0); (have z1 := (hE'.cell (p := ⟨bx, 1, none⟩) (by show bx < bx + 1; omega)).trans y1); (have z2 := (hE'.cell (p := ⟨bx, 2, none⟩) (by show bx < bx + 1; omega)).trans y2); (have z3 := (hE'.cell (p := ⟨bx, 3, none⟩) (by show bx < bx + 1; omega)).trans y3); (have z4 := (hE'.cell (p := ⟨bx, 4, none⟩) (by show bx < bx + 1; omega)).trans y4); (have HO := Lib.hid hP'); (have HBE := Lib.hid hE'); clear hP' hE' y0 y1 y2 y3 y4)
    have hsz' := HBE.out.size
    refine (sets_any _ _ _ _ _ _).mono ?_
    rintro e w5 ⟨rfl, hb5⟩
    obtain ⟨s, hs⟩ : ∃ s, s = setsP 5 x := ⟨_, rfl⟩
    have HSS := Lib.hid hs
    have HS2 := HS.out
    rw [← hs] at HS2 ⊢
    have HO5 := Lib.hid (HO.out.bel hb5)
    have HG5 := Lib.hid ((HGW.out.low HBE.out (by omega)).low hb5 (by omega))
    have HB5 := Lib.hid (HBA.out.trans ((HBE.out.mono (by rw [← HBX.out]; omega)).trans (hb5.mono (by rw [← HBX.out]; omega))))
    have hs5 := hb5.size
    clear z0 z1 z2 z3 z4 hs hb5
    by_cases hs0 : 0 ≤ s
    · have hs1 : decide (s ≥ 0) = true := by simpa using hs0
      have hsl := HS2 hs0
      obtain ⟨k, rfl⟩ : ∃ k : Nat, s = k := ⟨s.toNat, by omega⟩
      have hk6 : k < ts.length := by omega
      obtain ⟨g', At', ct', vb', Al', cl', e, -, g0, -, -, ht, -, -, -⟩ := HG5.out.open_
      injection e with e
      injection e with e
      injection e with e7 e8
      subst e7
      obtain ⟨bt, ot, ct2, e, hbt, -, -, hct2⟩ := ht.get (i := (k : Nat)) (by omega) hsl
      injection e with e1 e9 e2
      subst e1 e2
      rw [Int.toNat_natCast] at hct2
      clear e8 e9 hs0 hsl HS2 ht
      by_cases hty : typeOfP ts (k : Nat) = 2
      · rw [hty] at hct2
        obtain ⟨q, hq⟩ : ∃ q : Nat, ((mm : Nat) : Int) / 2 ^ k = q := ⟨mm / 2 ^ k, by simp⟩
        have hq' : q = mm / 2 ^ k := by
          have : ((mm / 2 ^ k : Nat) : Int) = q := by rw [← hq]; simp
          omega
        have hq64 : q ≤ 63 := by rw [hq']; exact Nat.le_trans (Nat.div_le_self _ _) (by omega)
        have hbt2 := bit_test hq' hq64
        clear hq'
        cases hbk : mm.testBit k
        · rw [hbk] at hbt2
          have HL : Hid (accL ts 5 x y mm.testBit = [⟨y, true⟩]) := Lib.hid (by unfold accL acc2; rw [HA1.out, ← HSS.out, if_neg (fun h => by have h3 := h.2.2; rw [Int.toNat_natCast, hbk] at h3; cases h3), List.append_nil])
          clear hbk
          go_wp2_with (at_builtin; fail)
          go_ret
          exact ⟨_, rfl, by rw [HL.out]; exact HO5.out.toS (by simp), HB5.out⟩
        · rw [hbk] at hbt2
          have HL : Hid (accL ts 5 x y mm.testBit = [⟨y, true⟩] ++ [⟨(k : Nat), true⟩]) := Lib.hid (by unfold accL acc2; rw [HA1.out, ← HSS.out, if_pos ⟨by omega, hty, by rw [Int.toNat_natCast]; exact hbk⟩])
          clear hbk
          go_wp2_with (at_builtin; go_must (refine wpList_push_ax rfl (.tmp 71) (.tmp 74) rfl HO5.out (by omega) (by simp) (k : Nat) true rfl rfl ?_); intro v9 w9 hP9 hE9)
          go_ret
          exact ⟨_, rfl, by rw [HL.out]; exact hP9.toS (by simp), HB5.out.trans (hE9.mono (by rw [← HBX.out]; omega))⟩
      · have hty2 : ((typeOfP ts (k : Nat)) == 2) = false := by simpa using hty
        have HL : Hid (accL ts 5 x y mm.testBit = [⟨y, true⟩]) := Lib.hid (by unfold accL acc2; rw [HA1.out, ← HSS.out, if_neg (fun h => hty h.2.1), List.append_nil])
        clear hty
        go_wp2_with (at_builtin; fail)
        go_ret
        exact ⟨_, rfl, by rw [HL.out]; exact HO5.out.toS (by simp), HB5.out⟩
    · have hs1 : decide (s ≥ 0) = false := by simpa using hs0
      have HL : Hid (accL ts 5 x y mm.testBit = [⟨y, true⟩]) := Lib.hid (by unfold accL acc2; rw [HA1.out, ← HSS.out, if_neg (fun h => hs0 h.1), List.append_nil])
      clear hs0 HS2
      go_wp2_with (at_builtin; fail)
      go_ret
      exact ⟨_, rfl, by rw [HL.out]; exact HO5.out.toS (by simp), HB5.out⟩
  · have HA1 : Hid (acc1 ts 7 x y = [⟨x, true⟩]) := Lib.hid (by unfold acc1; simp)
    go_wp2_with (at_builtin; go_must (refine wpList_push_ax rfl (.tmp 31) (.tmp 35) rfl HON.out (by omega) (by simp) x true rfl rfl ?_); intro v' w' hP' hE'; (have z0 := (hE'.cell (p := ⟨bx, 0, none⟩) (by show bx < bx + 1; omega)).trans y0); (have z1 := (hE'.cell (p := ⟨bx, 1, none⟩) (by show bx < bx + 1; omega)).trans y1); (have z2 := (hE'.cell (p := ⟨bx, 2, none⟩) (by show bx < bx + 1; omega)).trans y2); (have z3 := (hE'.cell (p := ⟨bx, 3, none⟩) (by show bx < bx + 1; omega)).trans y3); (have z4 := (hE'.cell (p := ⟨bx, 4, none⟩) (by show bx < bx + 1; omega)).trans y4); (have HO := Lib.hid hP'); (have HBE := Lib.hid hE'); clear hP' hE' y0 y1 y2 y3 y4)
    have hsz' := HBE.out.size
    refine (sets_any _ _ _ _ _ _).mono ?_
    rintro e w5 ⟨rfl, hb5⟩
    obtain ⟨s, hs⟩ : ∃ s, s = setsP 7 x := ⟨_, rfl⟩
    have HSS := Lib.hid hs
    have HS2 := HS.out
    rw [← hs] at HS2 ⊢
    have HO5 := Lib.hid (HO.out.bel hb5)
    have HG5 := Lib.hid ((HGW.out.low HBE.out (by omega)).low hb5 (by omega))
    have HB5 := Lib.hid (HBA.out.trans ((HBE.out.mono (by rw [← HBX.out]; omega)).trans (hb5.mono (by rw [← HBX.out]; omega))))
    have hs5 := hb5.size
    clear z0 z1 z2 z3 z4 hs hb5
    by_cases hs0 : 0 ≤ s
    · have hs1 : decide (s ≥ 0) = true := by simpa using hs0
      have hsl := HS2 hs0
      obtain ⟨k, rfl⟩ : ∃ k : Nat, s = k := ⟨s.toNat, by omega⟩
      have hk6 : k < ts.length := by omega
      obtain ⟨g', At', ct', vb', Al', cl', e, -, g0, -, -, ht, -, -, -⟩ := HG5.out.open_
      injection e with e
      injection e with e
      injection e with e7 e8
      subst e7
      obtain ⟨bt, ot, ct2, e, hbt, -, -, hct2⟩ := ht.get (i := (k : Nat)) (by omega) hsl
      injection e with e1 e9 e2
      subst e1 e2
      rw [Int.toNat_natCast] at hct2
      clear e8 e9 hs0 hsl HS2 ht
      by_cases hty : typeOfP ts (k : Nat) = 2
      · rw [hty] at hct2
        obtain ⟨q, hq⟩ : ∃ q : Nat, ((mm : Nat) : Int) / 2 ^ k = q := ⟨mm / 2 ^ k, by simp⟩
        have hq' : q = mm / 2 ^ k := by
          have : ((mm / 2 ^ k : Nat) : Int) = q := by rw [← hq]; simp
          omega
        have hq64 : q ≤ 63 := by rw [hq']; exact Nat.le_trans (Nat.div_le_self _ _) (by omega)
        have hbt2 := bit_test hq' hq64
        clear hq'
        cases hbk : mm.testBit k
        · rw [hbk] at hbt2
          have HL : Hid (accL ts 7 x y mm.testBit = [⟨x, true⟩]) := Lib.hid (by unfold accL acc2; rw [HA1.out, ← HSS.out, if_neg (fun h => by have h3 := h.2.2; rw [Int.toNat_natCast, hbk] at h3; cases h3), List.append_nil])
          clear hbk
          go_wp2_with (at_builtin; fail)
          go_ret
          exact ⟨_, rfl, by rw [HL.out]; exact HO5.out.toS (by simp), HB5.out⟩
        · rw [hbk] at hbt2
          have HL : Hid (accL ts 7 x y mm.testBit = [⟨x, true⟩] ++ [⟨(k : Nat), true⟩]) := Lib.hid (by unfold accL acc2; rw [HA1.out, ← HSS.out, if_pos ⟨by omega, hty, by rw [Int.toNat_natCast]; exact hbk⟩])
          clear hbk
          go_wp2_with (at_builtin; go_must (refine wpList_push_ax rfl (.tmp 71) (.tmp 74) rfl HO5.out (by omega) (by simp) (k : Nat) true rfl rfl ?_); intro v9 w9 hP9 hE9)
          go_ret
          exact ⟨_, rfl, by rw [HL.out]; exact hP9.toS (by simp), HB5.out.trans (hE9.mono (by rw [← HBX.out]; omega))⟩
      · have hty2 : ((typeOfP ts (k : Nat)) == 2) = false := by simpa using hty
        have HL : Hid (accL ts 7 x y mm.testBit = [⟨x, true⟩]) := Lib.hid (by unfold accL acc2; rw [HA1.out, ← HSS.out, if_neg (fun h => hty h.2.1), List.append_nil])
        clear hty
        go_wp2_with (at_builtin; fail)
        go_ret
        exact ⟨_, rfl, by rw [HL.out]; exact HO5.out.toS (by simp), HB5.out⟩
    · have hs1 : decide (s ≥ 0) = false := by simpa using hs0
      have HL : Hid (accL ts 7 x y mm.testBit = [⟨x, true⟩]) := Lib.hid (by unfold accL acc2; rw [HA1.out, ← HSS.out, if_neg (fun h => hs0 h.1), List.append_nil])
      clear hs0 HS2
      go_wp2_with (at_builtin; fail)
      go_ret
      exact ⟨_, rfl, by rw [HL.out]; exact HO5.out.toS (by simp), HB5.out⟩
  · have HA1 : Hid (acc1 ts 8 x y = [⟨x, true⟩]) := Lib.hid (by unfold acc1; simp)
    go_wp2_with (at_builtin; go_must (refine wpList_push_ax rfl (.tmp 31) (.tmp 35) rfl HON.out (by omega) (by simp) x true rfl rfl ?_); intro v' w' hP' hE'; (have z0 := (hE'.cell (p := ⟨bx, 0, none⟩) (by show bx < bx + 1; omega)).trans y0); (have z1 := (hE'.cell (p := ⟨bx, 1, none⟩) (by show bx < bx + 1; omega)).trans y1); (have z2 := (hE'.cell (p := ⟨bx, 2, none⟩) (by show bx < bx + 1; omega)).trans y2); (have z3 := (hE'.cell (p := ⟨bx, 3, none⟩) (by show bx < bx + 1; omega)).trans y3); (have z4 := (hE'.cell (p := ⟨bx, 4, none⟩) (by show bx < bx + 1; omega)).trans y4); (have HO := Lib.hid hP'); (have HBE := Lib.hid hE'); clear hP' hE' y0 y1 y2 y3 y4)
    have hsz' := HBE.out.size
    refine (sets_any _ _ _ _ _ _).mono ?_
    rintro e w5 ⟨rfl, hb5⟩
    obtain ⟨s, hs⟩ : ∃ s, s = setsP 8 x := ⟨_, rfl⟩
    have HSS := Lib.hid hs
    have HS2 := HS.out
    rw [← hs] at HS2 ⊢
    have HO5 := Lib.hid (HO.out.bel hb5)
    have HG5 := Lib.hid ((HGW.out.low HBE.out (by omega)).low hb5 (by omega))
    have HB5 := Lib.hid (HBA.out.trans ((HBE.out.mono (by rw [← HBX.out]; omega)).trans (hb5.mono (by rw [← HBX.out]; omega))))
    have hs5 := hb5.size
    clear z0 z1 z2 z3 z4 hs hb5
    by_cases hs0 : 0 ≤ s
    · have hs1 : decide (s ≥ 0) = true := by simpa using hs0
      have hsl := HS2 hs0
      obtain ⟨k, rfl⟩ : ∃ k : Nat, s = k := ⟨s.toNat, by omega⟩
      have hk6 : k < ts.length := by omega
      obtain ⟨g', At', ct', vb', Al', cl', e, -, g0, -, -, ht, -, -, -⟩ := HG5.out.open_
      injection e with e
      injection e with e
      injection e with e7 e8
      subst e7
      obtain ⟨bt, ot, ct2, e, hbt, -, -, hct2⟩ := ht.get (i := (k : Nat)) (by omega) hsl
      injection e with e1 e9 e2
      subst e1 e2
      rw [Int.toNat_natCast] at hct2
      clear e8 e9 hs0 hsl HS2 ht
      by_cases hty : typeOfP ts (k : Nat) = 2
      · rw [hty] at hct2
        obtain ⟨q, hq⟩ : ∃ q : Nat, ((mm : Nat) : Int) / 2 ^ k = q := ⟨mm / 2 ^ k, by simp⟩
        have hq' : q = mm / 2 ^ k := by
          have : ((mm / 2 ^ k : Nat) : Int) = q := by rw [← hq]; simp
          omega
        have hq64 : q ≤ 63 := by rw [hq']; exact Nat.le_trans (Nat.div_le_self _ _) (by omega)
        have hbt2 := bit_test hq' hq64
        clear hq'
        cases hbk : mm.testBit k
        · rw [hbk] at hbt2
          have HL : Hid (accL ts 8 x y mm.testBit = [⟨x, true⟩]) := Lib.hid (by unfold accL acc2; rw [HA1.out, ← HSS.out, if_neg (fun h => by have h3 := h.2.2; rw [Int.toNat_natCast, hbk] at h3; cases h3), List.append_nil])
          clear hbk
          go_wp2_with (at_builtin; fail)
          go_ret
          exact ⟨_, rfl, by rw [HL.out]; exact HO5.out.toS (by simp), HB5.out⟩
        · rw [hbk] at hbt2
          have HL : Hid (accL ts 8 x y mm.testBit = [⟨x, true⟩] ++ [⟨(k : Nat), true⟩]) := Lib.hid (by unfold accL acc2; rw [HA1.out, ← HSS.out, if_pos ⟨by omega, hty, by rw [Int.toNat_natCast]; exact hbk⟩])
          clear hbk
          go_wp2_with (at_builtin; go_must (refine wpList_push_ax rfl (.tmp 71) (.tmp 74) rfl HO5.out (by omega) (by simp) (k : Nat) true rfl rfl ?_); intro v9 w9 hP9 hE9)
          go_ret
          exact ⟨_, rfl, by rw [HL.out]; exact hP9.toS (by simp), HB5.out.trans (hE9.mono (by rw [← HBX.out]; omega))⟩
      · have hty2 : ((typeOfP ts (k : Nat)) == 2) = false := by simpa using hty
        have HL : Hid (accL ts 8 x y mm.testBit = [⟨x, true⟩]) := Lib.hid (by unfold accL acc2; rw [HA1.out, ← HSS.out, if_neg (fun h => hty h.2.1), List.append_nil])
        clear hty
        go_wp2_with (at_builtin; fail)
        go_ret
        exact ⟨_, rfl, by rw [HL.out]; exact HO5.out.toS (by simp), HB5.out⟩
    · have hs1 : decide (s ≥ 0) = false := by simpa using hs0
      have HL : Hid (accL ts 8 x y mm.testBit = [⟨x, true⟩]) := Lib.hid (by unfold accL acc2; rw [HA1.out, ← HSS.out, if_neg (fun h => hs0 h.1), List.append_nil])
      clear hs0 HS2
      go_wp2_with (at_builtin; fail)
      go_ret
      exact ⟨_, rfl, by rw [HL.out]; exact HO5.out.toS (by simp), HB5.out⟩
  · obtain ⟨hy0, hyl⟩ := HY.out rfl
    go_wp2_with (at_builtin; fail)
    refine (takes_any _ ts pts B y _ HGW.out hy0 hyl).mono ?_
    rintro e w3 ⟨rfl, rfl⟩
    cases htk : takesP ts y
    · have HA1 : Hid (acc1 ts 3 x y = []) := Lib.hid (by unfold acc1; rw [htk]; simp)
      go_wp2_with (at_builtin; fail)
      have z0 := y0
      have z1 := y1
      have z2 := y2
      have z3 := y3
      have z4 := y4
      have HO := HON
      have HBE := Lib.hid (Below.refl (bx + 1) W0)
      clear y0 y1 y2 y3 y4
      obtain ⟨w', rfl⟩ : ∃ w' : World, w' = W0 := ⟨_, rfl⟩
      have hsz' := HBE.out.size
      refine (sets_any _ _ _ _ _ _).mono ?_
      rintro e w5 ⟨rfl, hb5⟩
      obtain ⟨s, hs⟩ : ∃ s, s = setsP 3 x := ⟨_, rfl⟩
      have HSS := Lib.hid hs
      have HS2 := HS.out
      rw [← hs] at HS2 ⊢
      have HO5 := Lib.hid (HO.out.bel hb5)
      have HG5 := Lib.hid ((HGW.out.low HBE.out (by omega)).low hb5 (by omega))
      have HB5 := Lib.hid (HBA.out.trans ((HBE.out.mono (by rw [← HBX.out]; omega)).trans (hb5.mono (by rw [← HBX.out]; omega))))
      have hs5 := hb5.size
      clear z0 z1 z2 z3 z4 hs hb5
      by_cases hs0 : 0 ≤ s
      · have hs1 : decide (s ≥ 0) = true := by simpa using hs0
        have hsl := HS2 hs0
        obtain ⟨k, rfl⟩ : ∃ k : Nat, s = k := ⟨s.toNat, by omega⟩
        have hk6 : k < ts.length := by omega
        obtain ⟨g', At', ct', vb', Al', cl', e, -, g0, -, -, ht, -, -, -⟩ := HG5.out.open_
        injection e with e
        injection e with e
        injection e with e7 e8
        subst e7
        obtain ⟨bt, ot, ct2, e, hbt, -, -, hct2⟩ := ht.get (i := (k : Nat)) (by omega) hsl
        injection e with e1 e9 e2
        subst e1 e2
        rw [Int.toNat_natCast] at hct2
        clear e8 e9 hs0 hsl HS2 ht
        by_cases hty : typeOfP ts (k : Nat) = 2
        · rw [hty] at hct2
          obtain ⟨q, hq⟩ : ∃ q : Nat, ((mm : Nat) : Int) / 2 ^ k = q := ⟨mm / 2 ^ k, by simp⟩
          have hq' : q = mm / 2 ^ k := by
            have : ((mm / 2 ^ k : Nat) : Int) = q := by rw [← hq]; simp
            omega
          have hq64 : q ≤ 63 := by rw [hq']; exact Nat.le_trans (Nat.div_le_self _ _) (by omega)
          have hbt2 := bit_test hq' hq64
          clear hq'
          cases hbk : mm.testBit k
          · rw [hbk] at hbt2
            have HL : Hid (accL ts 3 x y mm.testBit = []) := Lib.hid (by unfold accL acc2; rw [HA1.out, ← HSS.out, if_neg (fun h => by have h3 := h.2.2; rw [Int.toNat_natCast, hbk] at h3; cases h3), List.append_nil])
            clear hbk
            go_wp2_with (at_builtin; fail)
            go_ret
            exact ⟨_, rfl, by rw [HL.out]; exact HO5.out.toS (by simp), HB5.out⟩
          · rw [hbk] at hbt2
            have HL : Hid (accL ts 3 x y mm.testBit = [] ++ [⟨(k : Nat), true⟩]) := Lib.hid (by unfold accL acc2; rw [HA1.out, ← HSS.out, if_pos ⟨by omega, hty, by rw [Int.toNat_natCast]; exact hbk⟩])
            clear hbk
            go_wp2_with (at_builtin; go_must (refine wpList_push_ax rfl (.tmp 71) (.tmp 74) rfl HO5.out (by omega) (by simp) (k : Nat) true rfl rfl ?_); intro v9 w9 hP9 hE9)
            go_ret
            exact ⟨_, rfl, by rw [HL.out]; exact hP9.toS (by simp), HB5.out.trans (hE9.mono (by rw [← HBX.out]; omega))⟩
        · have hty2 : ((typeOfP ts (k : Nat)) == 2) = false := by simpa using hty
          have HL : Hid (accL ts 3 x y mm.testBit = []) := Lib.hid (by unfold accL acc2; rw [HA1.out, ← HSS.out, if_neg (fun h => hty h.2.1), List.append_nil])
          clear hty
          go_wp2_with (at_builtin; fail)
          go_ret
          exact ⟨_, rfl, by rw [HL.out]; exact HO5.out.toS (by simp), HB5.out⟩
      · have hs1 : decide (s ≥ 0) = false := by simpa using hs0
        have HL : Hid (accL ts 3 x y mm.testBit = []) := Lib.hid (by unfold accL acc2; rw [HA1.out, ← HSS.out, if_neg (fun h => hs0 h.1), List.append_nil])
        clear hs0 HS2
        go_wp2_with (at_builtin; fail)
        go_ret
        exact ⟨_, rfl, by rw [HL.out]; exact HO5.out.toS (by simp), HB5.out⟩
    · have HA1 : Hid (acc1 ts 3 x y = [⟨y, true⟩]) := Lib.hid (by unfold acc1; rw [htk]; simp)
      go_wp2_with (at_builtin; go_must (refine wpList_push_ax rfl (.tmp 43) (.tmp 47) rfl HON.out (by omega) (by simp) y true rfl rfl ?_); intro v' w' hP' hE'; (have z0 := (hE'.cell (p := ⟨bx, 0, none⟩) (by show bx < bx + 1; omega)).trans y0); (have z1 := (hE'.cell (p := ⟨bx, 1, none⟩) (by show bx < bx + 1; omega)).trans y1); (have z2 := (hE'.cell (p := ⟨bx, 2, none⟩) (by show bx < bx + 1; omega)).trans y2); (have z3 := (hE'.cell (p := ⟨bx, 3, none⟩) (by show bx < bx + 1; omega)).trans y3); (have z4 := (hE'.cell (p := ⟨bx, 4, none⟩) (by show bx < bx + 1; omega)).trans y4); (have HO := Lib.hid hP'); (have HBE := Lib.hid hE'); clear hP' hE' y0 y1 y2 y3 y4)
      have hsz' := HBE.out.size
      refine (sets_any _ _ _ _ _ _).mono ?_
      rintro e w5 ⟨rfl, hb5⟩
      obtain ⟨s, hs⟩ : ∃ s, s = setsP 3 x := ⟨_, rfl⟩
      have HSS := Lib.hid hs
      have HS2 := HS.out
      rw [← hs] at HS2 ⊢
      have HO5 := Lib.hid (HO.out.bel hb5)
      have HG5 := Lib.hid ((HGW.out.low HBE.out (by omega)).low hb5 (by omega))
      have HB5 := Lib.hid (HBA.out.trans ((HBE.out.mono (by rw [← HBX.out]; omega)).trans (hb5.mono (by rw [← HBX.out]; omega))))
      have hs5 := hb5.size
      clear z0 z1 z2 z3 z4 hs hb5
      by_cases hs0 : 0 ≤ s
      · have hs1 : decide (s ≥ 0) = true := by simpa using hs0
        have hsl := HS2 hs0
        obtain ⟨k, rfl⟩ : ∃ k : Nat, s = k := ⟨s.toNat, by omega⟩
        have hk6 : k < ts.length := by omega
        obtain ⟨g', At', ct', vb', Al', cl', e, -, g0, -, -, ht, -, -, -⟩ := HG5.out.open_
        injection e with e
        injection e with e
        injection e with e7 e8
        subst e7
        obtain ⟨bt, ot, ct2, e, hbt, -, -, hct2⟩ := ht.get (i := (k : Nat)) (by omega) hsl
        injection e with e1 e9 e2
        subst e1 e2
        rw [Int.toNat_natCast] at hct2
        clear e8 e9 hs0 hsl HS2 ht
        by_cases hty : typeOfP ts (k : Nat) = 2
        · rw [hty] at hct2
          obtain ⟨q, hq⟩ : ∃ q : Nat, ((mm : Nat) : Int) / 2 ^ k = q := ⟨mm / 2 ^ k, by simp⟩
          have hq' : q = mm / 2 ^ k := by
            have : ((mm / 2 ^ k : Nat) : Int) = q := by rw [← hq]; simp
            omega
          have hq64 : q ≤ 63 := by rw [hq']; exact Nat.le_trans (Nat.div_le_self _ _) (by omega)
          have hbt2 := bit_test hq' hq64
          clear hq'
          cases hbk : mm.testBit k
          · rw [hbk] at hbt2
            have HL : Hid (accL ts 3 x y mm.testBit = [⟨y, true⟩]) := Lib.hid (by unfold accL acc2; rw [HA1.out, ← HSS.out, if_neg (fun h => by have h3 := h.2.2; rw [Int.toNat_natCast, hbk] at h3; cases h3), List.append_nil])
            clear hbk
            go_wp2_with (at_builtin; fail)
            go_ret
            exact ⟨_, rfl, by rw [HL.out]; exact HO5.out.toS (by simp), HB5.out⟩
          · rw [hbk] at hbt2
            have HL : Hid (accL ts 3 x y mm.testBit = [⟨y, true⟩] ++ [⟨(k : Nat), true⟩]) := Lib.hid (by unfold accL acc2; rw [HA1.out, ← HSS.out, if_pos ⟨by omega, hty, by rw [Int.toNat_natCast]; exact hbk⟩])
            clear hbk
            go_wp2_with (at_builtin; go_must (refine wpList_push_ax rfl (.tmp 71) (.tmp 74) rfl HO5.out (by omega) (by simp) (k : Nat) true rfl rfl ?_); intro v9 w9 hP9 hE9)
            go_ret
            exact ⟨_, rfl, by rw [HL.out]; exact hP9.toS (by simp), HB5.out.trans (hE9.mono (by rw [← HBX.out]; omega))⟩
        · have hty2 : ((typeOfP ts (k : Nat)) == 2) = false := by simpa using hty
          have HL : Hid (accL ts 3 x y mm.testBit = [⟨y, true⟩]) := Lib.hid (by unfold accL acc2; rw [HA1.out, ← HSS.out, if_neg (fun h => hty h.2.1), List.append_nil])
          clear hty
          go_wp2_with (at_builtin; fail)
          go_ret
          exact ⟨_, rfl, by rw [HL.out]; exact HO5.out.toS (by simp), HB5.out⟩
      · have hs1 : decide (s ≥ 0) = false := by simpa using hs0
        have HL : Hid (accL ts 3 x y mm.testBit = [⟨y, true⟩]) := Lib.hid (by unfold accL acc2; rw [HA1.out, ← HSS.out, if_neg (fun h => hs0 h.1), List.append_nil])
        clear hs0 HS2
        go_wp2_with (at_builtin; fail)
        go_ret
        exact ⟨_, rfl, by rw [HL.out]; exact HO5.out.toS (by simp), HB5.out⟩
  · obtain ⟨h3, h4, h5, h6', h7, h8⟩ := ho
    have k3 : (op == 3) = false := by simpa using h3
    have k4 : (op == 4) = false := by simpa using h4
    have k5 : (op == 5) = false := by simpa using h5
    have k6 : (op == 6) = false := by simpa using h6'
    have k7 : (op == 7) = false := by simpa using h7
    have k8 : (op == 8) = false := by simpa using h8
    have HA1 : Hid (acc1 ts op x y = []) := Lib.hid (by unfold acc1; simp [h3, h4, h5, h6', h7, h8])
    clear h3 h4 h5 h6' h7 h8
    go_wp2_with (at_builtin; fail)
    have z0 := y0
    have z1 := y1
    have z2 := y2
    have z3 := y3
    have z4 := y4
    have HO := HON
    have HBE := Lib.hid (Below.refl (bx + 1) W0)
    clear y0 y1 y2 y3 y4
    obtain ⟨w', rfl⟩ : ∃ w' : World, w' = W0 := ⟨_, rfl⟩
    have hsz' := HBE.out.size
    refine (sets_any _ _ _ _ _ _).mono ?_
    rintro e w5 ⟨rfl, hb5⟩
    obtain ⟨s, hs⟩ : ∃ s, s = setsP op x := ⟨_, rfl⟩
    have HSS := Lib.hid hs
    have HS2 := HS.out
    rw [← hs] at HS2 ⊢
    have HO5 := Lib.hid (HO.out.bel hb5)
    have HG5 := Lib.hid ((HGW.out.low HBE.out (by omega)).low hb5 (by omega))
    have HB5 := Lib.hid (HBA.out.trans ((HBE.out.mono (by rw [← HBX.out]; omega)).trans (hb5.mono (by rw [← HBX.out]; omega))))
    have hs5 := hb5.size
    clear z0 z1 z2 z3 z4 hs hb5
    by_cases hs0 : 0 ≤ s
    · have hs1 : decide (s ≥ 0) = true := by simpa using hs0
      have hsl := HS2 hs0
      obtain ⟨k, rfl⟩ : ∃ k : Nat, s = k := ⟨s.toNat, by omega⟩
      have hk6 : k < ts.length := by omega
      obtain ⟨g', At', ct', vb', Al', cl', e, -, g0, -, -, ht, -, -, -⟩ := HG5.out.open_
      injection e with e
      injection e with e
      injection e with e7 e8
      subst e7
      obtain ⟨bt, ot, ct2, e, hbt, -, -, hct2⟩ := ht.get (i := (k : Nat)) (by omega) hsl
      injection e with e1 e9 e2
      subst e1 e2
      rw [Int.toNat_natCast] at hct2
      clear e8 e9 hs0 hsl HS2 ht
      by_cases hty : typeOfP ts (k : Nat) = 2
      · rw [hty] at hct2
        obtain ⟨q, hq⟩ : ∃ q : Nat, ((mm : Nat) : Int) / 2 ^ k = q := ⟨mm / 2 ^ k, by simp⟩
        have hq' : q = mm / 2 ^ k := by
          have : ((mm / 2 ^ k : Nat) : Int) = q := by rw [← hq]; simp
          omega
        have hq64 : q ≤ 63 := by rw [hq']; exact Nat.le_trans (Nat.div_le_self _ _) (by omega)
        have hbt2 := bit_test hq' hq64
        clear hq'
        cases hbk : mm.testBit k
        · rw [hbk] at hbt2
          have HL : Hid (accL ts op x y mm.testBit = []) := Lib.hid (by unfold accL acc2; rw [HA1.out, ← HSS.out, if_neg (fun h => by have h3 := h.2.2; rw [Int.toNat_natCast, hbk] at h3; cases h3), List.append_nil])
          clear hbk
          go_wp2_with (at_builtin; fail)
          go_ret
          exact ⟨_, rfl, by rw [HL.out]; exact HO5.out.toS (by simp), HB5.out⟩
        · rw [hbk] at hbt2
          have HL : Hid (accL ts op x y mm.testBit = [] ++ [⟨(k : Nat), true⟩]) := Lib.hid (by unfold accL acc2; rw [HA1.out, ← HSS.out, if_pos ⟨by omega, hty, by rw [Int.toNat_natCast]; exact hbk⟩])
          clear hbk
          go_wp2_with (at_builtin; go_must (refine wpList_push_ax rfl (.tmp 71) (.tmp 74) rfl HO5.out (by omega) (by simp) (k : Nat) true rfl rfl ?_); intro v9 w9 hP9 hE9)
          go_ret
          exact ⟨_, rfl, by rw [HL.out]; exact hP9.toS (by simp), HB5.out.trans (hE9.mono (by rw [← HBX.out]; omega))⟩
      · have hty2 : ((typeOfP ts (k : Nat)) == 2) = false := by simpa using hty
        have HL : Hid (accL ts op x y mm.testBit = []) := Lib.hid (by unfold accL acc2; rw [HA1.out, ← HSS.out, if_neg (fun h => hty h.2.1), List.append_nil])
        clear hty
        go_wp2_with (at_builtin; fail)
        go_ret
        exact ⟨_, rfl, by rw [HL.out]; exact HO5.out.toS (by simp), HB5.out⟩
    · have hs1 : decide (s ≥ 0) = false := by simpa using hs0
      have HL : Hid (accL ts op x y mm.testBit = []) := Lib.hid (by unfold accL acc2; rw [HA1.out, ← HSS.out, if_neg (fun h => hs0 h.1), List.append_nil])
      clear hs0 HS2
      go_wp2_with (at_builtin; fail)
      go_ret
      exact ⟨_, rfl, by rw [HL.out]; exact HO5.out.toS (by simp), HB5.out⟩

theorem fwdL_len (ev : Bool) (ts : List Int) (pts : List Pt) (first : Nat) : (fwdL ev ts pts first).length = pts.length := by simp [fwdL]
theorem accL_congr {ts : List Int} {op x y : Int} {f h : Nat → Bool} (hs : 0 ≤ setsP op x → setsP op x < ts.length) (e : ∀ v, v < ts.length → f v = h v) : accL ts op x y f = accL ts op x y h := by
  unfold accL acc2
  by_cases h0 : 0 ≤ setsP op x
  · rw [e _ (by have := hs h0; omega)]
  · rw [if_neg (fun h => h0 h.1), if_neg (fun h => h0 h.1)]
noncomputable def accRes (ts : List Int) (l : List St) (a : Int) : List Acc := if graphOk ts l [a] = true then accL ts (ptAt (ptsP l) a).op (ptAt (ptsP l) a).x (ptAt (ptsP l) a).y (fun v => dec (Ac false ts (ptsP l) 0 a.toNat v)) else []

end Go.Proofs.Ytidlifijgooceaa
