import Derived.Test.YteaddodjijlpjaaG04
import Derived.Test.YteaddodjijlpjaaG06
set_option linter.unusedVariables false

namespace Go.Proofs.Yteaddodjijlpjaa
open Go.RowKit

set_option maxHeartbeats 400000 in
theorem scanAll_of (m : Nat) (hM : m ≤ 4194304) (hst : Scan m) : ScanAll m := by
  intro vt vb ts B g l d c nst w hm hd hn1 hn2 hc ht hB hg hl hcell hfr
  have hll := len_le_szL l
  obtain ⟨A, cp, rfl, hcp⟩ := hl.slice
  go_enter Try.func97, Try.ntmps97
  go_wp2
  go_loopw [13] (fun i wr => ∃ k c' : Nat, k ≤ l.length ∧ i = .int .i64 k ∧ slOk ts d (l.take k) = true ∧ c' = c + szL (l.take k) ∧ c' ≤ 30 ∧ wr.cell? ⟨g, 0, none⟩ = some (.int .i64 c') ∧ wr.frozen? ⟨g, 0, none⟩ = false ∧ w.grownBy wr (some g)) (fun i _ => l.length - (intOf i).toNat)
  case atStart => exact ⟨0, c, Nat.zero_le _, rfl, rfl, by simp [szL], hc, hcell, hfr, World.grownBy.refl _ _⟩
  case round =>
    obtain ⟨k, c', hk, rfl, hok, hc', hc30, hcl, hf, hgr⟩ := hrel
    have HOK := Lib.hid hok
    have HC := Lib.hid hc'
    have HCL := Lib.hid hcl
    have HF := Lib.hid hf
    have hsz2 := hgr.size
    clear hok hc' hcl hf
    by_cases hlt : k < l.length
    · obtain ⟨b, off, tv, ev, rfl, hb, hth, hel, q0, q1, q2, q3, q4, q5⟩ := (hl.keep (grown_keep hgr hB hg)).get hlt
      have hsz := szL_mem hlt
      obtain ⟨A1, c1, rfl, hc1⟩ := hth.slice
      obtain ⟨A2, c2, rfl, hc2⟩ := hel.slice
      have hgw : g < wr.heap.size := by omega
      have hca : ∀ o, (wr.alloc o).cell? ⟨g, 0, none⟩ = _ := fun o => (World.cell?_alloc_past _ _ _ hgw).trans HCL.out
      have hfa : ∀ o, (wr.alloc o).frozen? ⟨g, 0, none⟩ = _ := fun o => (World.frozen?_alloc_past _ _ _ hgw).trans HF.out
      have HCA := Lib.hid hca
      have HFA := Lib.hid hfa
      clear hca hfa
      go_wp2_with fail
      refine (hst vt ts B g l[k] d c' nst _ _ _ (by omega) hd hn1 hn2 hc30 (ht.keep (grown_keep (grown_tr hgr (World.grownBy_alloc _ _ _)) hB hg)) hB (by simp; omega) (hth.keep (grown_keep (World.grownBy_alloc _ _ _) hB hgw)) (hel.keep (grown_keep (World.grownBy_alloc _ _ _) hB hgw)) (HCA.out _) (HFA.out _)).mono ?_
      rintro e w1 ⟨rfl, hcn⟩
      have HG := Lib.hid (grown_tr hgr (World.grownBy_alloc wr (.cells #[.int .i64 l[k].op, .int .i64 l[k].x, .int .i64 l[k].y, .int .i64 l[k].n, .slice A1 l[k].th.length c1, .slice A2 l[k].el.length c2] 127) (some g)))
      cases hr : (stOk ts d l[k] && decide (c' + l[k].sz ≤ 30))
      · rw [hr] at hcn
        have HR := Lib.hid hr
        clear hr
        go_wp2_with fail
        go_ret
        have hf : (slOk ts d l && decide (c + szL l ≤ 30)) = false := by
          rw [Bool.eq_false_iff]
          intro h
          simp only [Bool.and_eq_true, decide_eq_true_eq] at h
          have h1 := HR.out
          rw [slOk_mem h.1 hlt, HC.out] at h1
          have h2 := szL_take_succ l k hlt
          have h3 := szL_take_le l (k + 1)
          have h4 := l[k].sz_eq
          simp at h1
          omega
        rw [hf]
        obtain ⟨c2, g1, g2, g3, g4⟩ := hcn
        exact ⟨rfl, .mk' c2 g1 (fun h => by cases h) g3 (grown_tr HG.out g4)⟩
      · rw [hr] at hcn
        have HR := Lib.hid hr
        clear hr
        obtain ⟨c2, g1, g2, g3, g4⟩ := hcn
        have G1 := Lib.hid g1
        have G2 := Lib.hid (g2 rfl)
        clear g1 g2
        go_wp2_with fail
        have h1 := HR.out
        have h2 := szL_take_succ l k hlt
        have h4 := l[k].sz_eq
        have h5 := HC.out
        have h6 := G2.out
        simp only [Bool.and_eq_true, decide_eq_true_eq] at h1
        refine ⟨⟨k + 1, c2, by omega, by go_num, ?_, by omega, by omega, G1.out, g3, grown_tr HG.out g4⟩, by simp [intOf]; omega⟩
        rw [take_succ_get l k hlt, slOk_append, HOK.out]
        simp [slOk, h1.1]
    · have hkl : k = l.length := by omega
      have h := HOK.out
      have h' := HC.out
      rw [take_all hkl] at h h'
      have H := Lib.hid h
      have H' := Lib.hid h'
      clear h h' hkl
      go_wp2
      go_ret
      have hf : (slOk ts d l && decide (c + szL l ≤ 30)) = true := by
        rw [H.out, decide_eq_true (by have := H'.out; omega)]; rfl
      rw [hf]
      exact ⟨rfl, .mk' c' HCL.out (fun _ => H'.out) HF.out hgr⟩

theorem scan_all (m : Nat) (hM : m ≤ 4194304) : ScanAll m ∧ Scan m := by
  induction m with
  | zero =>
    have h : Scan 0 := fun vt ts B g s d c nst tv ev w hm => by have := s.sz_eq; omega
    exact ⟨scanAll_of 0 hM h, h⟩
  | succ m ih =>
    have h := scan_of m (ih (by omega)).1
    exact ⟨scanAll_of (m + 1) hM h, h⟩
theorem l1_all (m : Nat) (hM : m ≤ 4194304) : L1Body m ∧ L1Stmt m := by
  induction m with
  | zero =>
    have h : L1Stmt 0 := fun vt ts B s d tv ev w hm => by have := s.sz_eq; omega
    exact ⟨l1Body_of 0 hM h, h⟩
  | succ m ih =>
    have h := l1Stmt_of m (ih (by omega)).1
    exact ⟨l1Body_of (m + 1) hM h, h⟩

end Go.Proofs.Yteaddodjijlpjaa
