import Derived.Test.YtidlifijgooceaaJ33
import Derived.Test.YtidlifijgooceaaJ20
import Derived.Deep.DeepCutAuto
set_option linter.unusedVariables false

/- Shortest ways: impl.ShortWay; spec.l13Back, l13Way, ShortWay. -/
namespace Go.Proofs.Ytidlifijgooceaa
open Go.RowKit

set_option maxHeartbeats 4000000 in
set_option maxRecDepth 100000 in
theorem l13Back_any (g c a t m : Nat) (bk : List Int) (L : List Nat) (w : World) (hr : RowB w g 3 (zi bk)) (hm : m = bk.length) (hm2 : m ≤ 100) (ht : t < m) (hc : Chn bk a t L) (hL : L.length ≤ m) (hv : ∀ k, bk.getD k (-1) < m) :
    Calls Try.prog 138 #[.slice (some ⟨g, 0, none⟩) m c, .int .i64 (a : Nat), .int .i64 (t : Nat)] w (IntsRet w (msk (t :: L).reverse)) := by
  have HR := Lib.hid hr
  have HM := Lib.hid hm
  have HV := Lib.hid hv
  have HC := Lib.hid hc
  have hgl := hr.lt
  have dt := hr.cell t
  rw [zi_get (-1) (by omega)] at dt
  obtain ⟨bt, hbt⟩ : ∃ bt, bt = bk.getD t (-1) := ⟨_, rfl⟩
  rw [← hbt] at dt
  have HBT := Lib.hid hbt
  have HO0 := Lib.hid (OInts.one_ w (t : Nat))
  have HB0 := Lib.hid (bel_a w (.cells #[.int .i64 (t : Nat)] 3))
  have dtA := fun o => ((bel_a w o).cell (p := ⟨g, t, none⟩) hgl).trans dt
  clear hr hm hv hc hbt
  go_enter Try.func138, Try.ntmps138
  go_wp2_with (at_builtin; fail)
  clear dt dtA
  go_loopg [7, 8] (L.length + 1) (fun gk v c wr => ∃ (pre : List Nat) (k : Nat) (M : List Nat), Chn bk a k M ∧ L = pre ++ M ∧ M.length < gk ∧ c = .int .i64 (bk.getD k (-1)) ∧ OInts wr w.heap.size v (msk (t :: pre).reverse) ∧ Below w.heap.size w wr)
  case atStart => exact ⟨[], t, L, HC.out, rfl, by omega, by rw [← HBT.out], HO0.out, HB0.out⟩
  case round =>
    obtain ⟨pre, k, M, hch, hLM, hMg, rfl, hO, hbx⟩ := hrel
    have HO := Lib.hid hO
    have HBX := Lib.hid hbx
    have hsx := hbx.size
    obtain ⟨b, M', hM, hbk, hor⟩ := hch.cons
    subst hM
    have hbn := HV.out k
    rw [hbk] at hbn ⊢
    have hbl : b < bk.length := by have := HM.out; omega
    have hpre : (msk (t :: pre).reverse).length ≤ 102 := by
      rw [msk_len]
      have h1 : L.length = pre.length + (M'.length + 1) := by rw [hLM]; simp
      simp; omega
    have db := (HR.out.low hbx hgl).cell b
    rw [zi_get (-1) hbl] at db
    have HMG := Lib.hid hMg
    have HLM : Hid (L = (pre ++ [b]) ++ M') := Lib.hid (by rw [hLM]; simp)
    have HMK2 : Hid (((b : Nat) : Int) :: msk (t :: pre).reverse = msk (t :: (pre ++ [b])).reverse) := Lib.hid (by simp [msk])
    have HS1 := Lib.hid (hO.toS (by omega))
    obtain ⟨A9, c9, rfl, hc9⟩ := hO.slice
    have hgr : g < wr.heap.size := by omega
    obtain ⟨bv', hbv⟩ : ∃ bv', bv' = bk.getD b (-1) := ⟨_, rfl⟩
    rw [← hbv] at db
    have HBV := Lib.hid hbv
    have HPL : Hid (M' = [] → b = a → msk (t :: (pre ++ [b])).reverse = msk (t :: L).reverse) := Lib.hid fun h1 _ => by rw [HLM.out, h1, List.append_nil]
    generalize (t :: pre).reverse = o1 at *
    have hol : (msk o1).length ≤ 102 := hpre
    clear hbv hO hbx hch hLM hMg hbk
    by_cases hba : b = a
    · have hbe : ((b : Int) != (a : Int)) = false := by simp; omega
      have hM0 : M' = [] := by
        rcases hor with h | h
        · exact h.2
        · exact absurd hba h.1
      have HFI : Hid (((a : Nat) : Int) :: msk o1 = msk (t :: L).reverse) := Lib.hid (by rw [← HPL.out hM0 hba, ← HMK2.out, hba])
      have hone : OInts (wr.alloc (.cells #[.int .i64 (a : Nat)] 3)) wr.heap.size (.slice (some ⟨wr.heap.size, 0, none⟩) 1 1) [((a : Nat) : Int)] := OInts.one_ wr a
      have HONE := Lib.hid (hone.move (w' := wr.alloc (.cells #[.int .i64 (a : Nat)] 3)) hsx fun _ _ _ => rfl)
      have HSA := Lib.hid ((HS1.out.low (bel_a wr (.cells #[.int .i64 (a : Nat)] 3)) (Nat.le_refl _)))
      have HBA := Lib.hid (bel_a wr (.cells #[.int .i64 (a : Nat)] 3))
      clear hone
      clear hba hor hM0 db
      go_wp2_with (at_builtin; go_must (refine wpList_app_ints rfl (.tmp 27) (.tmp 28) rfl w.heap.size _ [((a : Nat) : Int)] rfl HONE.out (wr.heap.size) _ (msk o1) rfl HSA.out (by have := HBA.out.size; omega) (by simp; omega) ?_); intro v' w' hP' hE')
      go_ret
      refine ⟨_, rfl, ?_, (HBX.out.trans (HBA.out.mono hsx)).trans hE'⟩
      have h := hP'
      rw [List.singleton_append, HFI.out] at h
      exact h.toS (by simp [msk]; omega)
    · have hbe : ((b : Int) != (a : Int)) = true := by simp; omega
      have hch2 : Chn bk a b M' := by
        rcases hor with h | h
        · exact absurd h.1 hba
        · exact h.2
      have HCH2 := Lib.hid hch2
      have hone : OInts (wr.alloc (.cells #[.int .i64 (b : Nat)] 3)) wr.heap.size (.slice (some ⟨wr.heap.size, 0, none⟩) 1 1) [((b : Nat) : Int)] := OInts.one_ wr b
      have HONE := Lib.hid (hone.move (w' := wr.alloc (.cells #[.int .i64 (b : Nat)] 3)) hsx fun _ _ _ => rfl)
      have HSA := Lib.hid ((HS1.out.low (bel_a wr (.cells #[.int .i64 (b : Nat)] 3)) (Nat.le_refl _)))
      have HBA := Lib.hid (bel_a wr (.cells #[.int .i64 (b : Nat)] 3))
      clear hone
      clear hch2 hba hor db
      go_upto_region 5 with (at_builtin; go_must (refine wpList_app_ints rfl (.tmp 19) (.tmp 20) rfl w.heap.size _ [((b : Nat) : Int)] rfl HONE.out (wr.heap.size) _ (msk o1) rfl HSA.out (by have := HBA.out.size; omega) (by simp; omega) ?_); intro v' w' hP' hE')
      have HBE := Lib.hid ((HBX.out.trans (HBA.out.mono hsx)).trans hE')
      have db' := (HR.out.low HBE.out hgl).cell b
      rw [zi_get (-1) hbl, ← HBV.out] at db'
      have HPF := Lib.hid hP'
      clear hP' hE'
      go_wp2_with (at_builtin; fail)
      go_roundg (M'.length + 1)
      case measure => exact HMG.out
      case rel => exact ⟨pre ++ [b], b, M', HCH2.out, HLM.out, by omega, by rw [← HBV.out], by rw [← HMK2.out]; exact HPF.out, HBE.out⟩

end Go.Proofs.Ytidlifijgooceaa
