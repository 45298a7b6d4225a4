import Derived.Test.YteaddodjijlpjaaG01
import Derived.Laws.Concat
import Derived.Laws.IdiomStrings
set_option linter.unusedVariables false

/- l1Letter, l17Dec. -/
namespace Go.Proofs.Yteaddodjijlpjaa
open Go.RowKit

def StrRet (n : Nat) (w : World) (e : Ending) (w' : World) : Prop := ∃ s : ByteArray, e = .returned (.string s) ∧ s.size ≤ n ∧ Below w.heap.size w w'
theorem one_byte (w : World) (x : Int) : ∃ s : ByteArray, s.size ≤ 1 ∧ (convert 22 9 (.slice (some ⟨w.heap.size, 0, none⟩) 1 1)).run Try.prog (w.alloc (.cells #[.int .u8 x] 5)) = .ok (.string s) (w.alloc (.cells #[.int .u8 x] 5)) := by
  refine ⟨[x].foldl (fun r n => r.push (UInt8.ofNat n.toNat)) ByteArray.empty, ?_, ?_⟩
  rotate_left
  · rw [run_convert_bytes_string _ _ _ 5 _ _ _ Try.underlying22 Try.underlying5 Try.underlying9]
    refine run_bytesToString _ _ _ _ [x] ?_
    refine run_loadCells_list (P := Try.prog) (w.alloc (.cells #[.int .u8 x] 5)) ⟨w.heap.size, 0, none⟩ [.int .u8 x] (fun j v hj => ?_)
    have hj0 : j = 0 := by
      rcases Nat.eq_zero_or_pos j with h | h
      · exact h
      · rw [List.getElem?_eq_none (by simp; omega)] at hj; cases hj
    subst hj0
    simp at hj
    subst hj
    show (w.alloc (.cells #[.int .u8 x] 5)).cell? ⟨w.heap.size, 0, none⟩ = _
    rw [World.cell?_alloc_mark]; rfl
  · simp [ByteArray.size_push]

set_option maxRecDepth 100000 in
theorem letter_any (v : Int) (w : World) : Calls Try.prog 149 #[.int .i64 v] w (StrRet 1 w) := by
  obtain ⟨s, hs, hr⟩ := one_byte w ((97 + v) % 256)
  go_enter Try.func149, Try.ntmps149
  go_wp2_with fail
  go_ret
  exact ⟨s, rfl, hs, (Below.refl _ _).alloc (Nat.le_refl _) _⟩
set_option maxRecDepth 100000 in
theorem dec_any (v : Int) (w : World) (h0 : 0 ≤ v) (h9 : v ≤ 9) : Calls Try.prog 150 #[.int .i64 v] w (StrRet 1 w) := by
  obtain ⟨s, hs, hr⟩ := one_byte w (48 + v)
  go_enter Try.func150, Try.ntmps150
  go_wp2_with fail
  refine wp_loop_rounds 1 ?_
  rw [rounds_succ]
  go_wp2_with fail
  go_ret
  exact ⟨_, rfl, by rw [ByteArray.size_append]; show s.size + 0 ≤ 1; omega, (Below.refl _ _).alloc (Nat.le_refl _) _⟩

theorem add_str (w : World) (a b : ByteArray) (h : a.size + b.size ≤ 1000000) : (Op.stringOp .add a b).run Try.prog w = .ok (.string (a ++ b)) w := run_string_add_sum w a b (by omega)

/-- what l1Text answers, for statements of at most m statements -/
def TxtOk (m : Nat) : Prop := ∀ (ts : List Int) (B : Nat) (s : St) (d : Nat) (tv ev : Value) (w : World), s.sz ≤ m → stOk ts d s = true → B ≤ w.heap.size → StS w B tv s.th → StS w B ev s.el →
    Calls Try.prog 146 #[.agg #[.int .i64 s.op, .int .i64 s.x, .int .i64 s.y, .int .i64 s.n, tv, ev]] w (StrRet (13 * s.sz - 1) w)
def LstTxt (m : Nat) : Prop := ∀ (ts : List Int) (B : Nat) (l : List St) (d : Nat) (vb : Value) (w : World), szL l ≤ m → slOk ts d l = true → B ≤ w.heap.size → StS w B vb l →
    Calls Try.prog 137 #[vb] w (StrRet (13 * szL l) w)

set_option maxHeartbeats 1000000 in
theorem lstTxt_of (m : Nat) (hM : m ≤ 100) (hst : TxtOk m) : LstTxt m := by
  intro ts B l d vb w hm hok hB hl
  have hll := len_le_szL l
  obtain ⟨A, c, rfl, hc⟩ := hl.slice
  have HOK := Lib.hid hok
  clear hok
  go_enter Try.func137, Try.ntmps137
  go_wp2_with fail
  go_loopw [3, 4] (fun t i wr => ∃ (k : Nat) (s : ByteArray), k ≤ l.length ∧ i = .int .i64 k ∧ t = .string s ∧ s.size ≤ 13 * szL (l.take k) ∧ Below w.heap.size w wr) (fun _ i _ => l.length - (intOf i).toNat)
  case atStart => exact ⟨0, ⟨#[]⟩, Nat.zero_le _, rfl, rfl, by simp [szL] <;> rfl, Below.refl _ _⟩
  case round =>
    obtain ⟨k, s, hk, rfl, rfl, hs, hbw⟩ := hrel
    have htk := szL_take_le l k
    by_cases hlt : k < l.length
    · obtain ⟨b, off, tv, ev, rfl, hb, hth, hel, c0, c1, c2, c3, c4, c5⟩ := (hl.low hbw hB).get hlt
      have hsz := szL_mem hlt
      have hsz2 := hbw.size
      have hstk : stOk ts d l[k] = true := slOk_mem HOK.out hlt
      have HST := Lib.hid hstk
      have hpos := l[k].sz_eq
      have HTK := Lib.hid (szL_take_succ l k hlt)
      clear hstk
      by_cases hk0 : 0 < k
      · have hadd := fun w => add_str w s ⟨#[59]⟩ (by show s.size + 1 ≤ _; omega)
        have hs1 : (s ++ ⟨#[59]⟩ : ByteArray).size = s.size + 1 := by rw [ByteArray.size_append]; rfl
        have HS1 := Lib.hid hs1
        clear hs1
        go_wp2_with fail
        clear hadd
        refine (hst ts B l[k] d tv ev _ (by omega) HST.out (by omega) hth hel).mono ?_
        rintro e w1 ⟨t, rfl, ht, hb1⟩
        have hadd2 := fun w => add_str w (s ++ ⟨#[59]⟩) t (by rw [HS1.out]; omega)
        go_wp2_with fail
        refine ⟨⟨k + 1, _, by omega, by go_num, rfl, ?_, hbw.trans (hb1.mono (by omega))⟩, by simp [intOf]; omega⟩
        rw [ByteArray.size_append, HS1.out, HTK.out]
        omega
      · have hk00 : k = 0 := by omega
        subst hk00
        simp only [Nat.zero_mul, Nat.add_zero] at c0 c1 c2 c3 c4 c5
        go_wp2_with fail
        refine (hst ts B l[0] d tv ev _ (by omega) HST.out (by omega) hth hel).mono ?_
        rintro e w1 ⟨t, rfl, ht, hb1⟩
        have hadd2 := fun w => add_str w s t (by omega)
        go_wp2_with fail
        refine ⟨⟨0 + 1, _, by omega, by go_num, rfl, ?_, hbw.trans (hb1.mono (by omega))⟩, by simp [intOf]; omega⟩
        rw [ByteArray.size_append, HTK.out]
        omega
    · have hkl : k = l.length := by omega
      have HTA := Lib.hid (take_all hkl)
      clear hkl
      go_wp2_with fail
      go_ret
      exact ⟨s, rfl, by rw [← HTA.out]; exact hs, hbw⟩

end Go.Proofs.Yteaddodjijlpjaa
