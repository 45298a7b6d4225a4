import Derived.Test.YtmaaaiccmllnlaaG23
set_option linter.unusedVariables false

/- spec.l2Has: a number lies in a slice of ints. -/
namespace Go.Proofs.Ytmaaaiccmllnlaa
open Go.RowKit

set_option maxHeartbeats 400000 in
theorem l2Has_any (va : Value) (l : List Int) (n : Int) (B : Nat) (w : World) (ha : IntS w B va l) :
    Calls Try.prog 63 #[va, .int .i64 n] w fun e w' => e = .returned (.bool (hasP l n)) ∧ w = w' := by
  obtain ⟨A, c, rfl, hc, hm, hr⟩ := ha
  go_enter Try.func63, Try.ntmps63
  go_wp2
  go_loop [5] (fun i => ∃ k : Nat, k ≤ l.length ∧ i = .int .i64 k ∧ n ∉ l.take k) (fun i => l.length - (intOf i).toNat)
  case atStart => exact ⟨0, Nat.zero_le _, rfl, by simp⟩
  case round =>
    obtain ⟨k, hk, rfl, hn⟩ := hrel
    by_cases hlt : k < l.length
    · obtain ⟨b, off, rfl, hb, hcell⟩ := hr.int_at hlt
      have hck := hcell k hlt
      have H := Lib.hid hn
      clear hcell hn
      go_wp2
      · have hx : (l[k] == n) = true := by assumption
        go_ret
        exact ⟨ret_bool (((hasP_iff l n).2 (by rw [← beq_iff_eq.1 hx]; exact List.getElem_mem hlt)).symm), rfl⟩
      · have hx : (l[k] == n) = false := by assumption
        refine ⟨⟨k + 1, by omega, by go_num, ?_⟩, by simp [intOf]; omega⟩
        rw [take_succ_get l k hlt, List.mem_append, List.mem_singleton]
        have := beq_eq_false_iff_ne.1 hx
        rintro (h | h)
        · exact H.out h
        · exact this h.symm
    · obtain rfl : k = l.length := by omega
      rw [List.take_length] at hn
      have H := Lib.hid hn
      clear hn
      go_wp2
      go_ret
      exact ⟨ret_bool (Bool.eq_false_iff.2 (fun h => H.out ((hasP_iff l n).1 h))).symm, rfl⟩

end Go.Proofs.Ytmaaaiccmllnlaa
