import Derived.Test.YtfioaohadanjmaaA10
import Derived.Test.YtfioaohadanjmaaA09
import Derived.RegionTactic
import Derived.Laws.OwnMore
set_option linter.unusedVariables false

/- Rows of sets of 64 bits; impl.graph.tracked. -/
namespace Go.Proofs.Ytfioaohadanjmaa
open Go.RowKit

theorem RowB.grown {w w' : World} {g g' : Nat} {t : TypeId} {l : List Value} (h : RowB w g t l) (k : w.grownBy w' (some g')) (hne : g ≠ g') : RowB w' g t l :=
  (k.block g h.lt (fun e => hne (by injection e))).trans h
theorem Try.infoFrom : (Try.prog.info? 74).map (fun i => (i.zero, i.size, i.bytes)) = some (some (.agg #[.int .u64 0, .int .u64 0, .int .u64 0, .int .u64 0, .int .u64 0, .int .u64 0]), 6, 48) := by kernel_rfl
theorem list6 {α : Type} {l : List α} (h : l.length = 6) : ∃ a b c d e f, l = [a, b, c, d, e, f] := by
  match l, h with
  | [a, b, c, d, e, f], _ => exact ⟨a, b, c, d, e, f, rfl⟩
/-- make([]from, n) -/
theorem make_from (n : Nat) (hn : n ≤ 100000) (W : World) : (Instr.makeSlice 69 (.int .i64 (n : Int)) (.int .i64 (n : Int))).run Try.prog W = .ok (.slice (some ⟨W.heap.size, 0, none⟩) n n) (W.alloc (.cells (uv (List.replicate (n * 6) 0)).toArray 74)) := by
  obtain ⟨i0, hi0, hz0, hz1, hz2⟩ := info_parts Try.infoFrom
  have h := run_make (P := Try.prog) W 69 74 i0 _ Try.underlying69 hi0 hz0 .i64 .i64 (n : Int) (n : Int) (by omega) (by omega) (by rw [hz2]; omega) (by omega)
  simp only [Int.toNat_natCast] at h
  rw [h, hz1]
  have e : madeCells (Value.cells (.agg #[.int .u64 0, .int .u64 0, .int .u64 0, .int .u64 0, .int .u64 0, .int .u64 0])) (n * 6) = (uv (List.replicate (n * 6) 0)).toArray := by
    apply Array.ext
    · rw [size_madeCells]; simp [uv]
    · intro i h1 h2
      rw [size_madeCells] at h1
      simp only [madeCells, Value.cells, uv, List.map_replicate, List.getElem_toArray, List.getElem_replicate]
      have h6 : i % 6 = 0 ∨ i % 6 = 1 ∨ i % 6 = 2 ∨ i % 6 = 3 ∨ i % 6 = 4 ∨ i % 6 = 5 := by omega
      rcases h6 with h | h | h | h | h | h <;> simp [h]
  rw [e]
/-- one element of an array of six -/
theorem index_from {a b c d e f : Nat} {u : Nat} (hu : u < 6) (w : World) : (Instr.index 74 (.agg #[.int .u64 (a : Nat), .int .u64 (b : Nat), .int .u64 (c : Nat), .int .u64 (d : Nat), .int .u64 (e : Nat), .int .u64 (f : Nat)]) (.int .i64 (u : Nat))).run Try.prog w = .ok (.int .u64 (([a, b, c, d, e, f].getD u 0 : Nat) : Int)) w := by
  have h : u = 0 ∨ u = 1 ∨ u = 2 ∨ u = 3 ∨ u = 4 ∨ u = 5 := by omega
  rcases h with rfl | rfl | rfl | rfl | rfl | rfl <;> simp [Instr.index, run_underlying Try.underlying74, asIntOf, go_sem]

theorem OInts.oth {w w' : World} {base g : Nat} {v : Value} {l : List Int} (h : OInts w base v l) (hg : g < base) (k : w.grownBy w' (some g)) : OInts w' base v l :=
  World.ownsRow.kept h k (.inr (by
    cases e : v.ownBlock with
    | none => simp
    | some k => intro e'; injection e' with e'; have := (World.ownsRow.lt h k e).1; omega))
theorem OInts.at_ {w : World} {base : Nat} {A : Option Addr} {n c : Nat} {l : List Int} (h : OInts w base (.slice A n c) l) {k : Nat} (hk : k < l.length) :
    ∃ g, A = some ⟨g, 0, none⟩ ∧ base ≤ g ∧ g < w.heap.size ∧ n = l.length ∧ w.cell? ⟨g, k, none⟩ = some (.int .i64 (l.getD k 0)) := by
  obtain ⟨A', c', e, _⟩ := h.slice
  injection e with _ e2 _
  subst e2
  obtain ⟨g, cap, e, hb, hlt⟩ := World.ownsRow.form h (by omega)
  injection e with e1 _ e3
  subst e1 e3
  refine ⟨g, rfl, hb, hlt, rfl, ?_⟩
  rw [World.ownsRow.cellAt h k (by omega), List.getElem?_map, List.getElem?_eq_getElem hk, getD_lt hk]; rfl
/-- bits, with a slice of its own -/
def OIntsRet (w : World) (l : List Int) (e : Ending) (w' : World) : Prop := ∃ v, e = .returned v ∧ OInts w' w.heap.size v l ∧ Below w.heap.size w w'
set_option maxHeartbeats 1000000 in
theorem bits_own (m : Nat) (hm : m < 64) (w : World) : Calls Try.prog 87 #[.int .i64 (m : Nat)] w (OIntsRet w (lst 6 m.testBit)) := by
  go_enter Try.func87, Try.ntmps87
  go_wp2_with fail
  go_loopw [3, 4] (fun v i wr => ∃ (k : Nat) (l : List Int), k ≤ 6 ∧ i = .int .i64 k ∧ l = lst k m.testBit ∧ OInts wr w.heap.size v l ∧ Below w.heap.size w wr) (fun _ i _ => 6 - (intOf i).toNat)
  case atStart => exact ⟨0, [], by omega, rfl, rfl, OInts.nil _ _, Below.refl _ _⟩
  case round =>
    obtain ⟨k, l, hk, rfl, hl, hP, hb⟩ := hrel
    have HL := Lib.hid hl
    clear hl
    obtain ⟨A, c, rfl, hc⟩ := hP.slice
    obtain ⟨q, hq⟩ : ∃ q : Nat, ((m : Int) / 2 ^ k) = q := ⟨m / 2 ^ k, by simp⟩
    have hq' : q = m / 2 ^ k := by
      have : ((m / 2 ^ k : Nat) : Int) = q := by rw [← hq]; simp
      omega
    have hq64 : q ≤ 63 := by rw [hq']; exact Nat.le_trans (Nat.div_le_self _ _) (by omega)
    have HQ := Lib.hid hq'
    clear hq'
    have hbt := bit_test HQ.out hq64
    by_cases hpos : 0 < q
    · have hk5 : k < 6 := by
        rcases Nat.lt_or_ge k 6 with h | h
        · exact h
        · have hp : 64 ≤ 2 ^ k := Nat.pow_le_pow_right (n := 2) (by omega) h
          have := HQ.out
          rw [Nat.div_eq_of_lt (by omega)] at this
          omega
      cases hbk : m.testBit k
      · rw [hbk] at hbt
        have HBK := Lib.hid hbk
        clear hbk
        go_wp2_with (at_builtin; fail)
        refine ⟨⟨k + 1, l, by omega, by go_num, by rw [lst_succ_false HBK.out]; exact HL.out, hP, hb⟩, by simp [intOf]; omega⟩
      · rw [hbk] at hbt
        have HBK := Lib.hid hbk
        clear hbk
        have hll : l.length ≤ 6 := by rw [HL.out]; have := lst_len k m.testBit; omega
        go_wp2_with (at_builtin; go_must (refine wpList_push_int rfl (.tmp 16) (.tmp 18) rfl hP hb.size (by omega) _ rfl rfl ?_); intro v' w' hP' hE')
        refine ⟨⟨k + 1, _, by omega, by go_num, by rw [lst_succ_true HBK.out, HL.out], hP', hb.trans ((((Evo.alloc w.heap.size 3 _ _).trans hE').below hb.size))⟩, by simp [intOf]; omega⟩
    · have hq0 : q = 0 := by omega
      subst hq0
      go_wp2_with (at_builtin; fail)
      go_ret
      have hfin : lst k m.testBit = lst 6 m.testBit := lst_more hk fun i h1 h2 => by
        rw [Nat.testBit_eq_decide_div_mod_eq]
        have h0 : m < 2 ^ k := by
          have := HQ.out
          rcases Nat.lt_or_ge m (2 ^ k) with h | h
          · exact h
          · have := Nat.div_pos h (Nat.two_pow_pos k); omega
        have hp : 2 ^ k ≤ 2 ^ i := Nat.pow_le_pow_right (n := 2) (by omega) h1
        rw [Nat.div_eq_of_lt (by omega)]
        rfl
      refine ⟨_, rfl, ?_, hb⟩
      rw [← hfin, ← HL.out]
      exact hP

/-- what tracked answers: the slice, its block -/
def TrRet (w : World) (ts : List Int) (pts : List Pt) (G : Nat → Pt → Nat → Bool) (C : Pt → Bool) (e : Ending) (w' : World) : Prop :=
  ∃ g fs, e = .returned (.slice (some ⟨g, 0, none⟩) pts.length pts.length) ∧ w.heap.size ≤ g ∧ RowB w' g 74 (uv fs) ∧ fs.length = pts.length * 6 ∧ (∀ m ∈ fs, m < top64) ∧ (∀ i v e, stF fs i v e = true ↔ Fl ts pts G C i v e) ∧ Below w.heap.size w w'

set_option maxHeartbeats 8000000
set_option maxRecDepth 100000

end Go.Proofs.Ytfioaohadanjmaa
