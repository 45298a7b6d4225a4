import Derived.Test.YtidlifijgooceaaGreatG06
set_option linter.unusedVariables false

/- impl.graphOf once more: without a graph it answers nil. -/
namespace Go.Proofs.YtidlifijgooceaaGreat
open Go.RowKit

def GraphRet2 (w : World) (ts : List Int) (l : List St) (ok : Bool) (e : Ending) (w' : World) : Prop :=
  ∃ v, e = .returned (.tuple #[v, .bool ok]) ∧ (ok = true → GrS w' w'.heap.size v ts (ptsP l)) ∧ Below w.heap.size w w' ∧ (ok = false → v = .pointer none)
set_option maxHeartbeats 1000000 in
theorem graphOf2_any (vt vb va : Value) (ts : List Int) (l : List St) (ats : List Int) (B : Nat) (w : World) (ht : IntS w B vt ts) (hl : StS w B vb l) (ha : IntS w B va ats) (hB : B ≤ w.heap.size) (hsz : szL l ≤ 4194300) :
    Calls Tryz.prog 19 #[.agg #[vt, vb], va] w (GraphRet2 w ts l (graphOk ts l ats)) := by
  have hpos := ptsP_pos l
  have ha' := ha
  obtain ⟨A, c, rfl, hac, ham, har⟩ := ha
  cases hv : validP ts l
  · have HV := Lib.hid hv
    clear hv
    go_enter Tryz.func19, Tryz.ntmps19
    go_wp2_with fail
    refine (iProgramValid_any vt vb ts l B _ (ht.low (bel_a _ _) hB) (hl.low (bel_a _ _) hB) (by simp; omega) (by omega)).mono ?_
    rintro e w1 ⟨rfl, hb1⟩
    have hb2 := (bel_a _ _).trans (hb1.mono (by simp))
    rw [HV.out]
    go_wp2_with fail
    go_ret2
    exact ⟨_, by rw [graphOk, HV.out]; rfl, fun h => (by rw [graphOk, HV.out] at h; cases h), hb2, fun _ => rfl⟩
  · have HV := Lib.hid hv
    clear hv
    go_enter Tryz.func19, Tryz.ntmps19
    go_wp2_with fail
    refine (iProgramValid_any vt vb ts l B _ (ht.low (bel_a _ _) hB) (hl.low (bel_a _ _) hB) (by simp; omega) (by omega)).mono ?_
    rintro e w1 ⟨rfl, hb1⟩
    have hc := box_kept hb1 (by simp)
    have hb2 := (bel_a _ _).trans (hb1.mono (by simp))
    have hs2 := hb2.size
    have hs1 : w.heap.size < w1.heap.size := by have := hb1.size; simp at this; omega
    have hc0 := hc 0
    have hc1 := hc 1
    simp at hc0 hc1
    rw [HV.out]
    clear hc
    go_wp2_with fail
    go_region_held3 (fun w' => w'.cell? ⟨w.heap.size, 0, none⟩ = some vt ∧ w'.cell? ⟨w.heap.size, 1, none⟩ = some vb ∧ Below w1.heap.size w1 w' ∧ w.heap.size < w1.heap.size) (first | exact ⟨hc0, hc1, (Below.refl _ _).drew, hs1⟩ | exact Held2.step (by assumption) (by assumption) | exact Held2.step (by assumption) (bel_a _ _) | go_keep)
      (first | (go_at_call 54; refine (points_any vt vb l B _ (by exact hl.low (hb2.trans ((Held2.bel (g := w.heap.size) (vt := vt) (vb := vb) (by assumption)).mono hs2)) hB) (by have := (Held2.bel (w1 := w1) (g := w.heap.size) (vt := vt) (vb := vb) (by assumption)).size; omega) hsz).mono ?_; (rintro e w2 ⟨v2, rfl, hP2, hb3⟩); (obtain ⟨A3, c3, rfl, hc3, hm3⟩ := hP2.slice)))
    have hb4 : Below w.heap.size w w2 := hb2.trans (((Below.refl _ _).drew.trans hb3).mono hs2)
    have hb5 := hb4.alloc hb4.size (.cells #[vt, vb, .slice A3 (ptsP l).length c3] 81)
    have hs4 := hb4.size
    have har5 := ha'.low hb5 hB
    have hgr : GrS (w2.alloc (.cells #[vt, vb, .slice A3 (ptsP l).length c3] 81)) (w2.alloc (.cells #[vt, vb, .slice A3 (ptsP l).length c3] 81)).heap.size (.pointer (some ⟨w2.heap.size, 0, none⟩)) ts (ptsP l) :=
      ⟨w2.heap.size, vt, vb, _, rfl, by simp, cell_of_row _ _ _ _ _ _ (heap_alloc_new w2 _), cell_of_row _ _ _ _ _ _ (heap_alloc_new w2 _), cell_of_row _ _ _ _ _ _ (heap_alloc_new w2 _),
        (ht.low hb5 hB).more (by simp; omega), (hP2.low (bel_a _ _) (Nat.le_refl _)).more (by simp)⟩
    have HGR := Lib.hid hgr
    have HB5 := Lib.hid hb5
    obtain ⟨A', c', hsl, _, _, har6⟩ := har5
    injection hsl with e1 _ e2
    subst e1 e2
    clear hb5 hgr hb4 har
    go_wp2_with fail
    go_loop [19] (fun i => ∃ k : Nat, k ≤ ats.length ∧ i = .int .i64 k ∧ ∀ x ∈ ats.take k, withinP x 0 ((ptsP l).length - 1) = true) (fun i => ats.length - (intOf i).toNat)
    case atStart => exact ⟨0, Nat.zero_le _, rfl, by simp⟩
    case round =>
      obtain ⟨k, hk, rfl, hn⟩ := hrel
      have H := Lib.hid hn
      clear hn
      by_cases hlt : k < ats.length
      · obtain ⟨b, off, rfl, hb, hcell⟩ := har6.int_at hlt
        have hck := hcell k hlt
        clear hcell
        go_wp2_with fail
        refine (within_any _ _ _ _).mono ?_
        rintro e w' ⟨rfl, rfl⟩
        cases hx : withinP ats[k] 0 ((ptsP l).length - 1)
        · have HX := Lib.hid hx
          clear hx
          go_wp2_with fail
          go_ret2
          have hno : graphOk ts l ats = false := by
            rw [graphOk, Bool.and_eq_false_iff]
            right
            rw [List.all_eq_false]
            exact ⟨ats[k], List.getElem_mem hlt, by rw [HX.out]; simp⟩
          exact ⟨_, by rw [hno]; rfl, fun h => (by rw [hno] at h; cases h), HB5.out, fun _ => rfl⟩
        · have HX := Lib.hid hx
          clear hx
          go_wp2_with fail
          refine ⟨⟨k + 1, by omega, by go_num, ?_⟩, by simp [intOf]; omega⟩
          rw [take_succ_get ats k hlt]
          intro x hxm
          rcases List.mem_append.1 hxm with h | h
          · exact H.out x h
          · rw [List.mem_singleton.1 h]; exact HX.out
      · have hkl : k = ats.length := by omega
        have h := H.out
        rw [take_all hkl] at h
        have H' := Lib.hid h
        clear h hkl
        go_wp2_with fail
        go_ret2
        have hyes : graphOk ts l ats = true := by
          rw [graphOk, HV.out, Bool.true_and, List.all_eq_true]
          exact H'.out
        exact ⟨_, by rw [hyes]; rfl, fun _ => HGR.out, HB5.out, fun h => (by rw [hyes] at h; cases h)⟩

end Go.Proofs.YtidlifijgooceaaGreat
