import Derived.Test.YtfioaohadanjmaaC10
import Derived.ChangeArms
import Derived.ChangeSlices
import Derived.Deep.Slices
set_option linter.unusedVariables false

/- A law's argument of type Program, read as data, is what the walks of the exact laws ask. -/
namespace Go.Proofs.Ytfioaohadanjmaa
open Go.RowKit Go.ChangeShapes

theorem Try.cellsLS : Try.prog.cellsOf 107 = 6 := by kernel_rfl
theorem Try.cellsLI : Try.prog.cellsOf 3 = 1 := by kernel_rfl
theorem Try.cellsLL : Try.prog.cellsOf 23 = 1 := by kernel_rfl
theorem Try.cellsLIS : Try.prog.cellsOf 22 = 1 := by kernel_rfl
theorem Try.cellsLP : Try.prog.cellsOf 25 = 2 := by kernel_rfl
theorem cells_at {w : World} {a : Addr} {n : Nat} {cs : List Value} (h : w.cells? 0 a n = some cs) {j : Nat} (hj : j < n) : w.cell? (a.add j) = cs[j]? := by
  unfold World.cells? at h
  rw [if_pos (Nat.zero_le _)] at h
  exact mapM_some_get h j j (by simp [hj])
theorem add_at {b off i j : Nat} : ((⟨b, off, none⟩ : Addr).add i).add j = ⟨b, off + i + j, none⟩ := by
  unfold Addr.add
  by_cases hi : i = 0 <;> by_cases hj : j = 0 <;> simp [hi, hj, Nat.add_assoc]
section
variable {H : Type} {enc : TypeId × Value → H} {w : World} {sp : Nat → Bool} {held : Bool}
set_option maxRecDepth 100000 in
theorem trod_stmt {fuel : Nat} {cs : List Value} {x : DataW H × List MemPlace} (h : DataW.trod enc Try.prog w 0 sp held fuel 107 cs = some x) :
    ∃ n c4 c5 x4 x5, ∃ z0 z1 z2 z3 : Int, fuel = n + 1 ∧ cs = [.int .i64 z0, .int .i64 z1, .int .i64 z2, .int .i64 z3, c4, c5] ∧ DataW.trod enc Try.prog w 0 sp held n 23 [c4] = some x4 ∧ DataW.trod enc Try.prog w 0 sp held n 23 [c5] = some x5 := by
  obtain ⟨xs, n, rfl, -, hlen, hxl, hf⟩ := DataW.trod_struct Try.underlying107 h
  rw [Try.cellsLS] at hlen
  have hx6 : xs.length = 6 := hxl
  match cs, hlen with
  | [c0, c1, c2, c3, c4, c5], _ =>
    have f0 : DataW.trod enc Try.prog w 0 sp held n 3 (List.take (Try.prog.cellsOf 3) [c0, c1, c2, c3, c4, c5]) = xs[0]? := hf 0 _ rfl
    rw [Try.cellsLI, List.getElem?_eq_getElem (by omega)] at f0
    have f1 : DataW.trod enc Try.prog w 0 sp held n 3 (List.take (Try.prog.cellsOf 3) [c1, c2, c3, c4, c5]) = xs[1]? := hf 1 _ rfl
    rw [Try.cellsLI, List.getElem?_eq_getElem (by omega)] at f1
    have f2 : DataW.trod enc Try.prog w 0 sp held n 3 (List.take (Try.prog.cellsOf 3) [c2, c3, c4, c5]) = xs[2]? := hf 2 _ rfl
    rw [Try.cellsLI, List.getElem?_eq_getElem (by omega)] at f2
    have f3 : DataW.trod enc Try.prog w 0 sp held n 3 (List.take (Try.prog.cellsOf 3) [c3, c4, c5]) = xs[3]? := hf 3 _ rfl
    rw [Try.cellsLI, List.getElem?_eq_getElem (by omega)] at f3
    have f4 : DataW.trod enc Try.prog w 0 sp held n 23 (List.take (Try.prog.cellsOf 23) [c4, c5]) = xs[4]? := hf 4 _ rfl
    rw [Try.cellsLL, List.getElem?_eq_getElem (by omega)] at f4
    have f5 : DataW.trod enc Try.prog w 0 sp held n 23 (List.take (Try.prog.cellsOf 23) [c5]) = xs[5]? := hf 5 _ rfl
    rw [Try.cellsLL, List.getElem?_eq_getElem (by omega)] at f5
    obtain ⟨z0, e0, -⟩ := DataW.trod_int Try.underlying3 f0
    have e0 : c0 = _ := (List.cons.inj e0).1
    subst e0
    obtain ⟨z1, e1, -⟩ := DataW.trod_int Try.underlying3 f1
    have e1 : c1 = _ := (List.cons.inj e1).1
    subst e1
    obtain ⟨z2, e2, -⟩ := DataW.trod_int Try.underlying3 f2
    have e2 : c2 = _ := (List.cons.inj e2).1
    subst e2
    obtain ⟨z3, e3, -⟩ := DataW.trod_int Try.underlying3 f3
    have e3 : c3 = _ := (List.cons.inj e3).1
    subst e3
    exact ⟨n, c4, c5, _, _, z0, z1, z2, z3, rfl, rfl, f4, f5⟩
theorem StS.none (w : World) (B : Nat) : StS w B (.slice none 0 0) [] :=
  .mk _ 0 [] (fun _ => undef) (fun _ => undef) (Nat.le_refl _) (fun h => by simp at h) (fun i h => by simp at h) fun i h => by simp at h
theorem Lens.nil : Lens [] := .mk _ (Nat.zero_le _) (fun i h => by simp at h) fun i h => by simp at h
theorem read_stmts (fuel : Nat) : ∀ (cs : List Value) (x : DataW H × List MemPlace), DataW.trod enc Try.prog w 0 sp held fuel 23 cs = some x → ∃ v l, cs = [v] ∧ StS w w.heap.size v l ∧ Lens l := by
  induction fuel using Nat.strongRecOn with
  | _ fuel ih =>
    intro cs x h
    rcases DataW.trod_slice Try.underlying23 h with ⟨rfl, -⟩ | ⟨a, len, cap, elems, rest, n, rfl, rfl, -, -, hlc, hcm, hel, hi, -⟩
    · exact ⟨_, [], rfl, StS.none _ _, Lens.nil⟩
    · rw [Try.cellsLS] at hi
      by_cases h0 : len = 0
      · subst h0
        exact ⟨_, [], rfl, .mk _ cap [] (fun _ => undef) (fun _ => undef) (Nat.zero_le _) (fun h => by simp at h) (fun i h => by simp at h) fun i h => by simp at h, Lens.nil⟩
      · have key : ∀ i, i < len → ∃ q : St × Value × Value, (w.cell? ((a.add (i * 6)).add 0) = some (.int .i64 q.1.op) ∧ w.cell? ((a.add (i * 6)).add 1) = some (.int .i64 q.1.x) ∧ w.cell? ((a.add (i * 6)).add 2) = some (.int .i64 q.1.y) ∧ w.cell? ((a.add (i * 6)).add 3) = some (.int .i64 q.1.n) ∧ w.cell? ((a.add (i * 6)).add 4) = some q.2.1 ∧ w.cell? ((a.add (i * 6)).add 5) = some q.2.2) ∧ StS w w.heap.size q.2.1 q.1.th ∧ StS w w.heap.size q.2.2 q.1.el ∧ Lens q.1.th ∧ Lens q.1.el := by
          intro i hil
          have hb := hi i hil
          rw [List.getElem?_eq_getElem (by omega)] at hb
          obtain ⟨cs', h1, h2⟩ := Option.bind_eq_some_iff.1 hb
          obtain ⟨n', c4, c5, x4, x5, z0, z1, z2, z3, rfl, rfl, t4, t5⟩ := trod_stmt h2
          obtain ⟨v4, l4, e4, s4, n4⟩ := ih n' (by omega) _ _ t4
          obtain ⟨v5, l5, e5, s5, n5⟩ := ih n' (by omega) _ _ t5
          simp only [List.cons.injEq, and_true] at e4 e5
          subst e4 e5
          refine ⟨(.mk z0 z1 z2 z3 l4 l5, c4, c5), ⟨?_, ?_, ?_, ?_, ?_, ?_⟩, s4, s5, n4, n5⟩ <;> rw [cells_at h1 (by omega)] <;> rfl
        haveI : Inhabited (St × Value × Value) := ⟨(.mk 0 0 0 0 [] [], undef, undef)⟩
        obtain ⟨f, hf⟩ := Go.Deep.choose_lt key
        obtain ⟨b, off, spot⟩ := a
        have hspot : spot = none := by
          have := (hf 0 (by omega)).1.1
          have := World.cell?_spot this
          simpa [Addr.add] using this
        subst hspot
        have hlt : b < w.heap.size := by
          have hc := (hf 0 (by omega)).1.1
          rcases Nat.lt_or_ge b w.heap.size with h | h
          · exact h
          · simp [Addr.add, World.cell?, Array.getElem?_eq_none h] at hc
        simp only [add_at] at hf
        have hl : ((List.range len).map fun i => (f i).1).length = len := by simp
        refine ⟨_, (List.range len).map fun i => (f i).1, by simp, .mk _ cap _ (fun i => (f i).2.1) (fun i => (f i).2.2) (by rw [hl]; exact hlc) (fun _ => ⟨b, off, rfl, hlt, fun i hi' => ?_⟩) (fun i hi' => ?_) (fun i hi' => ?_), .mk _ (by rw [hl]; omega) (fun i hi' => ?_) fun i hi' => ?_⟩
        all_goals
          have hi2 : i < len := by simpa using hi'
          have e : ((List.range len).map fun i => (f i).1)[i]'hi' = (f i).1 := by simp
          rw [e]
        · exact (hf i hi2).1
        · exact (hf i hi2).2.1
        · exact (hf i hi2).2.2.1
        · exact (hf i hi2).2.2.2.1
        · exact (hf i hi2).2.2.2.2
theorem read_ints {fuel : Nat} {cs : List Value} {x : DataW H × List MemPlace} (h : DataW.trod enc Try.prog w 0 sp held fuel 22 cs = some x) : ∃ v l, cs = [v] ∧ AnI w w.heap.size v l := by
  rcases DataW.trod_slice Try.underlying22 h with ⟨rfl, -⟩ | ⟨a, len, cap, elems, rest, n, rfl, rfl, -, -, hlc, hcm, hel, hi, -⟩
  · exact ⟨_, [], rfl, _, 0, rfl, Nat.le_refl _, Nat.zero_le _, Rd.nil⟩
  · rw [Try.cellsLI] at hi
    by_cases h0 : len = 0
    · subst h0
      exact ⟨_, [], rfl, _, cap, rfl, Nat.zero_le _, Nat.zero_le _, Rd.nil⟩
    · have key : ∀ i, i < len → ∃ z : Int, w.cell? ((a.add (i * 1)).add 0) = some (.int .i64 z) := by
        intro i hil
        have hb := hi i hil
        rw [List.getElem?_eq_getElem (by omega)] at hb
        obtain ⟨cs', h1, h2⟩ := Option.bind_eq_some_iff.1 hb
        obtain ⟨z, rfl, -⟩ := DataW.trod_int Try.underlying3 h2
        exact ⟨z, by rw [cells_at h1 (by omega)]; rfl⟩
      obtain ⟨f, hf⟩ := Go.Deep.choose_lt key
      obtain ⟨b, off, spot⟩ := a
      have hspot : spot = none := by
        have := World.cell?_spot (hf 0 (by omega))
        simpa [Addr.add] using this
      subst hspot
      have hlt : b < w.heap.size := by
        have hc := hf 0 (by omega)
        rcases Nat.lt_or_ge b w.heap.size with h | h
        · exact h
        · simp [Addr.add, World.cell?, Array.getElem?_eq_none h] at hc
      simp only [add_at, Nat.mul_one, Nat.add_zero] at hf
      have hl : ((List.range len).map f).length = len := by simp
      refine ⟨_, (List.range len).map f, by simp, _, cap, rfl, by rw [hl]; exact hlc, by rw [hl]; omega, by simp, fun _ => ⟨b, off, rfl, hlt, fun j u hu => ?_⟩⟩
      have hj : j < len := by
        rcases Nat.lt_or_ge j len with h | h
        · exact h
        · rw [List.getElem?_eq_none (by simpa using h)] at hu; cases hu
      rw [hf j hj]
      simpa [hj] using hu
set_option maxRecDepth 100000 in
/-- a Program -/
theorem read_program {fuel : Nat} {v : Value} {x : DataW H × List MemPlace} (hv : ∃ cs, v = .agg cs) (h : DataW.trod enc Try.prog w 0 sp held fuel 25 v.cells.toList = some x) : ∃ vt vb ts l, v = .agg #[vt, vb] ∧ AnI w w.heap.size vt ts ∧ StS w w.heap.size vb l ∧ Lens l := by
  obtain ⟨cs, rfl⟩ := hv
  obtain ⟨cl⟩ := cs
  obtain ⟨xs, n, rfl, -, hlen, hxl, hf⟩ := DataW.trod_struct Try.underlying25 h
  rw [Try.cellsLP] at hlen
  have hx2 : xs.length = 2 := hxl
  simp only [Value.cells] at hlen hf
  match cl, hlen with
  | [c0, c1], _ =>
    have f0 : DataW.trod enc Try.prog w 0 sp held n 22 (List.take (Try.prog.cellsOf 22) [c0, c1]) = xs[0]? := hf 0 _ rfl
    have f1 : DataW.trod enc Try.prog w 0 sp held n 23 (List.take (Try.prog.cellsOf 23) [c1]) = xs[1]? := hf 1 _ rfl
    rw [Try.cellsLIS, List.getElem?_eq_getElem (by omega)] at f0
    rw [Try.cellsLL, List.getElem?_eq_getElem (by omega)] at f1
    obtain ⟨v0, ts, e0, hi⟩ := read_ints f0
    obtain ⟨v1, l, e1, hs, hn⟩ := read_stmts n _ _ f1
    have e0 : c0 = v0 := (List.cons.inj e0).1
    have e1 : c1 = v1 := (List.cons.inj e1).1
    subst e0 e1
    exact ⟨_, _, ts, l, rfl, hi, hs, hn⟩
end

end Go.Proofs.Ytfioaohadanjmaa
