import Derived.Test.YtmaaaiccmllnlaaG24
import Derived.Test.YtmaaaiccmllnlaaG07
import Derived.Test.YtmaaaiccmllnlaaG47
import Derived.Test.YtmaaaiccmllnlaaG25
import Derived.Test.YtmaaaiccmllnlaaG20
import Derived.Test.YtmaaaiccmllnlaaG40
import Derived.Test.YtmaaaiccmllnlaaG22
import Derived.Test.YtmaaaiccmllnlaaG28
import Derived.Test.YtmaaaiccmllnlaaG23
import Derived.Deep.DeepCutAuto
set_option linter.unusedVariables false

/- Plain: the choices that lead a way; a run with them goes it. No program in sight. -/
namespace Go.Proofs.Ytmaaaiccmllnlaa

def nxI (pts : List Pt) (a : Nat) : List Int := (ptD pts a).next.map fun k => ((k : Nat) : Int)
/-- the choice with which a point is left to k -/
def chP (pts : List Pt) (a : Nat) (k : Int) : List Int := if (ptD pts a).next.length = 2 then [if k = ((ptD pts a).next.getD 0 0 : Nat) then 0 else 1] else []
/-- the choices of a way that begins at a -/
def wch (pts : List Pt) : Nat → List Int → Option (List Int)
  | _, [] => some []
  | a, k :: r => if hasP (nxI pts a) k then (wch pts k.toNat r).map (chP pts a k ++ ·) else none
theorem nxI_mem {pts : List Pt} {a : Nat} {k : Int} (h : hasP (nxI pts a) k = true) : 0 ≤ k ∧ k.toNat ∈ (ptD pts a).next := by
  rw [hasP_iff] at h
  simp only [nxI, List.mem_map] at h
  obtain ⟨j, hj, rfl⟩ := h
  exact ⟨by omega, by simpa using hj⟩
theorem ptD_out {pts : List Pt} {a : Nat} (h : pts.length ≤ a) : ptD pts a = ⟨11, 0, 0, 0, []⟩ := getD_ge h
theorem runF_way {pts : List Pt} (h2 : ∀ p ∈ pts, p.next.length ≤ 2) (h11 : ∀ p ∈ pts, p.op = 11 → p.next = []) {a m : Nat} {r c : List Int} (h : wch pts a r = some c) (hm : r.length + 1 ≤ m) : ∃ t, msk (runF pts m a c).1 = ((a : Nat) : Int) :: r ++ t := by
  induction r generalizing a m c with
  | nil =>
    obtain ⟨m, rfl⟩ : ∃ m', m = m' + 1 := ⟨m - 1, by simp at hm; omega⟩
    by_cases ho : (ptD pts a).op = 11
    · rw [runF_end ho]; exact ⟨[], by simp [msk]⟩
    · rw [runF_go ho]; exact ⟨msk (runF pts m (stepP (ptD pts a) c) (restP (ptD pts a) c)).1, by simp [msk]⟩
  | cons k r ih =>
    obtain ⟨m, rfl⟩ : ∃ m', m = m' + 1 := ⟨m - 1, by simp at hm; omega⟩
    simp only [wch] at h
    split at h
    · rename_i hk
      obtain ⟨hk0, hkm⟩ := nxI_mem hk
      rw [Option.map_eq_some_iff] at h
      obtain ⟨c', hc', rfl⟩ := h
      have ha : a < pts.length := by
        rcases Nat.lt_or_ge a pts.length with h | h
        · exact h
        · rw [ptD_out h] at hkm; simp at hkm
      have hpm : ptD pts a ∈ pts := by rw [ptD_get ha]; exact List.getElem_mem ha
      have hnl := h2 _ hpm
      have ho : (ptD pts a).op ≠ 11 := fun e => by rw [h11 _ hpm e] at hkm; simp at hkm
      have hstep : stepP (ptD pts a) (chP pts a k ++ c') = k.toNat ∧ restP (ptD pts a) (chP pts a k ++ c') = c' := by
        unfold stepP restP chP
        generalize (ptD pts a).next = nx at *
        by_cases hl : nx.length = 2
        · rw [if_pos hl, if_pos hl, if_pos hl]
          refine ⟨?_, rfl⟩
          by_cases hk2 : k = (nx.getD 0 0 : Nat)
          · rw [if_pos hk2]
            simp; rw [hk2]; simp
          · rw [if_neg hk2]
            match nx, hl with
            | [x, y], _ =>
              simp at hkm hk2 ⊢
              omega
        · rw [if_neg hl, if_neg hl, if_neg hl]
          refine ⟨?_, rfl⟩
          match nx, hnl, hl, hkm with
          | [x], _, _, hkm => simp at hkm ⊢; omega
          | [x, y], _, hl, _ => simp at hl
      rw [runF_go ho, hstep.1, hstep.2]
      obtain ⟨t, ht⟩ := ih hc' (m := m) (by simp at hm; omega)
      refine ⟨t, ?_⟩
      have e : ((k.toNat : Nat) : Int) = k := by omega
      rw [e] at ht
      show ((a : Nat) : Int) :: msk _ = _
      rw [ht]; rfl
    · cases h
theorem wch_len {pts : List Pt} {a : Nat} {r c : List Int} (h : wch pts a r = some c) : c.length ≤ r.length := by
  induction r generalizing a c with
  | nil => simp only [wch] at h; injection h with h; subst h; simp
  | cons k r ih =>
    simp only [wch] at h
    split at h
    · rw [Option.map_eq_some_iff] at h
      obtain ⟨c', hc', rfl⟩ := h
      have := ih hc'
      have h1 : (chP pts a k).length ≤ 1 := by unfold chP; split <;> simp
      simp only [List.length_append, List.length_cons]; omega
    · cases h
/-- how far the choices of a way are known: those of its first i steps are o -/
structure WcR (pts : List Pt) (way : List Int) (i : Nat) (o : List Int) (a : Nat) : Prop where
  lt : a < pts.length
  at_ : way[i]? = some ((a : Nat) : Int)
  eq : wch pts 0 (way.drop 1) = (wch pts a (way.drop (i + 1))).map (o ++ ·)
  ol : o.length ≤ i
theorem WcR.start {pts : List Pt} {way : List Int} (h0 : 0 < pts.length) (h : way[0]? = some 0) : WcR pts way 0 [] 0 := ⟨h0, by simpa using h, by simp, Nat.le_refl _⟩
theorem drop_get {way : List Int} {i : Nat} {k : Int} (h : way[i]? = some k) : way.drop i = k :: way.drop (i + 1) := by
  obtain ⟨hi, e⟩ := List.getElem?_eq_some_iff.1 h
  rw [List.drop_eq_getElem_cons hi, e]
theorem WcR.no {pts : List Pt} {way o : List Int} {i a : Nat} {k : Int} (h : WcR pts way i o a) (hk : way[i + 1]? = some k) (hn : hasP (nxI pts a) k = false) : wch pts 0 (way.drop 1) = none := by
  rw [h.eq, drop_get hk]; simp only [wch]; rw [hn]; rfl
theorem WcR.go {pts : List Pt} {way o : List Int} {i a : Nat} {k : Int} (hnx : ∀ p ∈ pts, ∀ k ∈ p.next, k < pts.length) (h : WcR pts way i o a) (hk : way[i + 1]? = some k) (hy : hasP (nxI pts a) k = true) : WcR pts way (i + 1) (o ++ chP pts a k) k.toNat := by
  obtain ⟨h0, h1⟩ := nxI_mem hy
  refine ⟨?_, by rw [hk]; congr 1; omega, ?_, ?_⟩
  · rw [ptD_get h.lt] at h1; exact hnx _ (List.getElem_mem h.lt) _ h1
  · rw [h.eq, drop_get hk]
    simp only [wch]
    rw [if_pos hy, Option.map_map]
    congr 1
    funext x; simp
  · have := h.ol
    have h1 : (chP pts a k).length ≤ 1 := by unfold chP; split <;> simp
    simp only [List.length_append]; omega
theorem WcR.done {pts : List Pt} {way o : List Int} {i a : Nat} (h : WcR pts way i o a) (hi : i + 1 = way.length) : wch pts 0 (way.drop 1) = some o := by
  rw [h.eq, hi, List.drop_length]; simp [wch]
/-- what WayChoices answers -/
def wcP (pts : List Pt) (way : List Int) : Option (List Int) := if way.headD 1 = 0 then wch pts 0 (way.drop 1) else none

end Go.Proofs.Ytmaaaiccmllnlaa

/- Choices of ways: impl.WayChoices. -/
namespace Go.Proofs.Ytmaaaiccmllnlaa
open Go.RowKit

def wcO (ts : List Int) (l : List St) (way : List Int) : Option (List Int) := if validP ts l = true then wcP (ptsP l) way else none
def WcRet (w : World) (r : Option (List Int)) (e : Ending) (w' : World) : Prop := SwRet w r.isSome (r.getD []) e w'
theorem wcP_zero {pts : List Pt} {way : List Int} (h : way.headD 1 ≠ 0) : wcP pts way = none := by unfold wcP; rw [if_neg h]
theorem wcP_head {pts : List Pt} {way : List Int} (h : way[0]? = some 0) : wcP pts way = wch pts 0 (way.drop 1) := by
  unfold wcP
  cases way with
  | nil => simp at h
  | cons a r => simp at h; subst h; simp
theorem chP_no {pts : List Pt} {a : Nat} {k : Int} (h : ¬ (ptD pts a).next.length = 2) : chP pts a k = [] := by unfold chP; rw [if_neg h]
theorem chP_yes {pts : List Pt} {a : Nat} {k : Int} (h : (ptD pts a).next.length = 2) (c : Int) (hc : c = if k = ((ptD pts a).next.getD 0 0 : Nat) then 0 else 1) : chP pts a k = [c] := by unfold chP; rw [if_pos h, hc]
set_option maxHeartbeats 8000000 in
set_option maxRecDepth 100000 in
theorem iWayChoices_any (vt vb vw : Value) (ts way : List Int) (l : List St) (B : Nat) (w : World) (ht : IntS w B vt ts) (hl : StS w B vb l) (hw : IntS w B vw way) (hB : B ≤ w.heap.size) (hsz : szL l ≤ 4194300) (hwl : way.length ≤ 100) :
    Calls Try.prog 36 #[.agg #[vt, vb], vw] w (WcRet w (wcO ts l way)) := by
  have HW := Lib.hid hw
  obtain ⟨Aw, cw, rfl, hcw, -, -⟩ := hw
  have hb2 : ∀ o, Below w.heap.size w (w.alloc o) := fun o => bel_a w o
  go_enter Try.func36, Try.ntmps36
  go_wp2_with fail
  refine (graphOf_any vt vb _ ts l [] (w.heap.size + 1) _ ((ht.low (hb2 _) hB).more (by omega)) ((hl.low (hb2 _) hB).more (by omega)) (IntS.nil' _ _ none 0) (by simp) hsz).mono ?_
  rintro e w1 ⟨vg, rfl, hgr, hb1⟩
  have hb3 := (hb2 _).trans (hb1.mono (by simp))
  have HB3 := Lib.hid hb3
  have hs3 := hb3.size
  have HW1 := Lib.hid (HW.out.low hb3 hB)
  rw [graphOk_nil] at hgr ⊢
  cases hok : validP ts l
  · have HRES : Hid (wcO ts l way = none) := Lib.hid (by unfold wcO; rw [hok, if_neg (by simp)])
    clear hok hgr hb1 hb2 hb3 ht hl
    go_wp2_with (at_builtin; fail)
    go_ret2
    exact ⟨_, by rw [HRES.out]; rfl, by rw [HRES.out]; exact IntS.nil' _ _ none 0, HB3.out⟩
  · have GD := Lib.hid (Good.of_valid hok)
    have HO : Hid (wcO ts l way = wcP (ptsP l) way) := Lib.hid (by unfold wcO; rw [if_pos hok])
    have hgg := hgr hok
    obtain ⟨g, At, ct, vb', Al, cl, rfl, hgB, g0, g1, g2, ht', hp', htl, hpl'⟩ := hgg.open_
    have HPS := Lib.hid hp'
    have hplen := GD.out.len
    have hpos := GD.out.pos
    clear hok hgr hb1 hb2 hb3 ht hl hgg ht' hp' g0 g1
    by_cases hl0 : way.length = 0
    · have HRES : Hid (wcO ts l way = none) := Lib.hid (by rw [HO.out]; refine wcP_zero ?_; rw [List.length_eq_zero_iff.1 hl0]; simp)
      have hz : ((way.length : Int) == 0) = true := by rw [beq_iff_eq]; omega
      clear hl0
      go_wp2_with (at_builtin; fail)
      go_ret2
      exact ⟨_, by rw [HRES.out]; rfl, by rw [HRES.out]; exact IntS.nil' _ _ none 0, HB3.out⟩
    · have hz : ((way.length : Int) == 0) = false := beq_eq_false_iff_ne.2 (by omega)
      obtain ⟨A9, c9, e9, -, -, hr9⟩ := HW1.out
      injection e9 with e9 e10 e11
      subst e9 e11
      clear e10
      obtain ⟨bw, ow, rfl, hbw, hcell⟩ := hr9.int_at (k := 0) (by omega)
      have HCELL := Lib.hid hcell
      have d0 := hcell 0 (by omega)
      rw [Nat.add_zero] at d0
      have hpos2 : 0 < way.length := by omega
      have hbw1 : bw < w1.heap.size := by omega
      clear hr9 hcell
      by_cases hw0 : way.getD 0 0 = 0
      · rw [hw0] at d0
        have hwg : way[0]? = some 0 := by rw [List.getElem?_eq_getElem hpos2]; rw [getD_lt hpos2] at hw0; rw [hw0]
        have HO2 : Hid (wcO ts l way = wch (ptsP l) 0 (way.drop 1)) := Lib.hid (by rw [HO.out, wcP_head hwg])
        have HST := Lib.hid (WcR.start hpos hwg)
        obtain ⟨m, hm⟩ : ∃ m, way.length = m + 1 := ⟨way.length - 1, by omega⟩
        have HM := Lib.hid hm
        clear hw0 hwg HO hl0
        generalize ptsP l = pts at *
        rw [hm] at hcw hwl hz ⊢
        have hsub : (((m + 1 : Nat) : Int) - 1) = ((m : Nat) : Int) := by omega
        have hwm : IntKind.i64.wrap ((m : Nat) : Int) = ((m : Nat) : Int) := IntWalk.i64_in _ (by omega)
        have hmc : m ≤ cw := by omega
        clear hm
        go_wp2_with (at_builtin; fail)
        clear d0 hz
        generalize hzz : (((m : Nat) : Int) + 1 == 0) = zz at *
        have hzf : zz = false := by assumption
        subst hzf
        clear hzz
        go_loopw [8, 37] (fun v c wr => ∃ (i a : Nat) (o : List Int), c = .int .i64 i ∧ i ≤ m ∧ WcR pts way i o a ∧ OInts wr w1.heap.size v o ∧ Below w1.heap.size w1 wr) (fun _ c _ => m - (intOf c).toNat)
        case atStart => exact ⟨0, 0, [], rfl, Nat.zero_le _, HST.out, OInts.nil _ _, Below.refl _ _⟩
        case round =>
          obtain ⟨i, a, o, rfl, him, hR, hO, hbx⟩ := hrel
          have HR := Lib.hid hR
          have HOO := Lib.hid hO
          have HBX := Lib.hid hbx
          have hsx := hbx.size
          have hol := hR.ol
          have hal := hR.lt
          obtain ⟨A8, c8, rfl, hc8⟩ := hO.slice
          clear hO
          by_cases hilt : i < m
          · have di := (hbx.cell (p := ⟨bw, ow + i, none⟩) hbw1).trans (HCELL.out i (by have := HM.out; omega))
            have dj := (hbx.cell (p := ⟨bw, ow + (i + 1), none⟩) hbw1).trans (HCELL.out (i + 1) (by have := HM.out; omega))
            rw [getD_lt (by have := HM.out; omega), show way[i]'(by have := HM.out; omega) = ((a : Nat) : Int) by
              have h := hR.at_
              rw [List.getElem?_eq_getElem (by have := HM.out; omega)] at h
              injection h] at di
            have hgk : way[i + 1]? = some (way.getD (i + 1) 0) := by rw [List.getElem?_eq_getElem (by have := HM.out; omega), getD_lt (by have := HM.out; omega)]
            have HGK := Lib.hid hgk
            generalize way.getD (i + 1) 0 = k at *
            obtain ⟨J, hJ⟩ : ∃ J, J = i + 1 := ⟨_, rfl⟩
            have hjm : J < m + 1 := by omega
            rw [← hJ] at dj
            have HJ := Lib.hid hJ
            obtain ⟨bp, op, cp', nv, e, hbp, hcp', hlp, hnx, z0, z1, z2, z3, z4⟩ := (HPS.out.low hbx (Nat.le_refl _)).get hal
            injection e with e1 e9 e2
            subst e1 e2
            have HNX := Lib.hid hnx
            have HPD : Hid (ptD pts a = pts[a]) := Lib.hid (ptD_get hal)
            have hn2 := GD.out.next2 _ (List.getElem_mem hal)
            have HNI : Hid (nxI pts a = msk pts[a].next) := Lib.hid (by unfold nxI; rw [HPD.out]; rfl)
            obtain ⟨An, cn, rfl, hcn, hln, -⟩ := hnx
            simp only [List.length_map] at z4 hcn hln HNX
            have y2 := (hbx.cell (p := ⟨g, 2, none⟩) (by show g < _; omega)).trans g2
            generalize pts[a] = P at *
            have HRA := Lib.hid (heap_alloc_new wr (.cells #[.int .i64 P.op, .int .i64 P.x, .int .i64 P.y, .int .i64 P.n, .slice An P.next.length cn] 51))
            have HBA := Lib.hid (HBX.out.trans ((bel_a wr (.cells #[.int .i64 P.op, .int .i64 P.x, .int .i64 P.y, .int .i64 P.n, .slice An P.next.length cn] 51)).mono hsx))
            have HOA := Lib.hid (HOO.out.bel (bel_a wr (.cells #[.int .i64 P.op, .int .i64 P.x, .int .i64 P.y, .int .i64 P.n, .slice An P.next.length cn] 51)))
            have diA := fun o => ((bel_a wr o).cell (p := ⟨bw, ow + i, none⟩) (by show bw < _; omega)).trans di
            have djA := ((bel_a wr (.cells #[.int .i64 P.op, .int .i64 P.x, .int .i64 P.y, .int .i64 P.n, .slice An P.next.length cn] 51)).cell (p := ⟨bw, ow + J, none⟩) (by show bw < _; omega)).trans dj
            have HNXA := Lib.hid (HNX.out.low (bel_a wr (.cells #[.int .i64 P.op, .int .i64 P.x, .int .i64 P.y, .int .i64 P.n, .slice An P.next.length cn] 51) |>.mono hsx) (Nat.le_refl _))
            obtain ⟨q, hq⟩ : ∃ q, q = hasP (nxI pts a) k := ⟨_, rfl⟩
            have HQ := Lib.hid hq
            clear hgk e9 hq hR hbx hJ
            go_upto_region 9 with (at_builtin; fail)
            generalize wr.alloc (.cells #[.int .i64 P.op, .int .i64 P.x, .int .i64 P.y, .int .i64 P.n, .slice An P.next.length cn] 51) = wb at *
            have hbxl : wr.heap.size < wb.heap.size := row_lt HRA.out
            have hbwl : bw < wb.heap.size := by omega
            have x4 : wb.cell? ⟨wr.heap.size, 4, none⟩ = some (.slice An P.next.length cn) := (cell_of_row _ _ _ _ _ _ HRA.out).trans rfl
            have hij : ((i : Int) + 1) = ((J : Nat) : Int) := by have := HJ.out; omega
            have hwij : IntKind.i64.wrap ((J : Nat) : Int) = ((J : Nat) : Int) := IntWalk.i64_in _ (by omega)
            have hjm1 : ((J : Nat) : Int) < ((m : Nat) : Int) + 1 := by omega
            have hwij2 : IntKind.i64.wrap ((i : Int) + 1) = ((J : Nat) : Int) := by rw [hij]; exact hwij
            have HCN : Hid (∀ wq, Below wb.heap.size wb wq → Calls Try.prog 60 #[.slice An P.next.length cn, .int .i64 k] wq fun e' w'' => e' = .returned (.bool q) ∧ Below wb.heap.size wb w'') := Lib.hid fun wq hS => (contains_any _ (P.next.map fun k => ((k : Nat) : Int)) k _ wq (HNXA.out.low (hS.mono (by omega)) (Nat.le_refl _))).mono fun e' w'' ⟨h1, h2⟩ => ⟨by rw [h1, HQ.out, HNI.out]; rfl, by rw [← h2]; exact hS⟩
            clear z0 z1 z2 z3 z4 di dj y2
            cases q
            · have HNO := Lib.hid (HR.out.no HGK.out HQ.out.symm)
              have HRES : Hid (wcO ts l way = none) := Lib.hid (by rw [HO2.out]; exact HNO.out)
              refine wp_region_seq (Below wb.heap.size wb) (by kernel_rfl) (by kernel_rfl) (Below.refl _ _).drew ?_
              repeat (first
                | (refine SeqS.skip (by rfl) ?_; (try simp only [Act.put, List.setIfInBounds_toArray, List.set_cons_zero, List.set_cons_succ]))
                | (refine SeqS.pure (v := ?_) (by rfl) (fun w' hSw => ?_) ?_; rotate_left; (obtain ⟨hc9, hf9⟩ := bcell hSw; go_simp; with_reducible rfl); (try simp only [Act.put, List.setIfInBounds_toArray, List.set_cons_zero, List.set_cons_succ]))
                | (refine SeqS.call (f := ?_) (args := ?_) (v := ?_) (by rfl) (fun w' => ?_) (fun w' hSw => ?_) ?_; rotate_left 3; (go_simp; constructor; (with_reducible rfl); (with_reducible rfl)); (first | exact HCN.out _ hSw | fail); (try simp only [Act.put, List.setIfInBounds_toArray, List.set_cons_zero, List.set_cons_succ]))
                | fail)
              intro w7 hb7
              go_wp2_with (at_builtin; fail)
              go_ret2
              exact ⟨_, by rw [HRES.out]; rfl, by rw [HRES.out]; exact IntS.nil' _ _ none 0, HB3.out.trans ((HBA.out.trans (hb7.mono (by omega))).mono hs3)⟩
            · have HGO := Lib.hid (HR.out.go GD.out.next HGK.out HQ.out.symm)
              have HKN : Hid (((k.toNat : Nat) : Int) = k) := Lib.hid (by have := (nxI_mem HQ.out.symm).1; omega)
              refine wp_region_seq (Below wb.heap.size wb) (by kernel_rfl) (by kernel_rfl) (Below.refl _ _).drew ?_
              repeat (first
                | (refine SeqS.skip (by rfl) ?_; (try simp only [Act.put, List.setIfInBounds_toArray, List.set_cons_zero, List.set_cons_succ]))
                | (refine SeqS.pure (v := ?_) (by rfl) (fun w' hSw => ?_) ?_; rotate_left; (obtain ⟨hc9, hf9⟩ := bcell hSw; go_simp; with_reducible rfl); (try simp only [Act.put, List.setIfInBounds_toArray, List.set_cons_zero, List.set_cons_succ]))
                | (refine SeqS.call (f := ?_) (args := ?_) (v := ?_) (by rfl) (fun w' => ?_) (fun w' hSw => ?_) ?_; rotate_left 3; (go_simp; constructor; (with_reducible rfl); (with_reducible rfl)); (first | exact HCN.out _ hSw | fail); (try simp only [Act.put, List.setIfInBounds_toArray, List.set_cons_zero, List.set_cons_succ]))
                | fail)
              intro w7 hb7
              have HB7 := Lib.hid (HBA.out.trans (hb7.mono (by omega)))
              have HO7 := Lib.hid (HOA.out.bel hb7)
              have hs7 := hb7.size
              have hr7 := row_below HRA.out hb7
              have HR7 := Lib.hid hr7
              have x0' : w7.cell? ⟨wr.heap.size, 0, none⟩ = some (.int .i64 P.op) := (cell_of_row _ _ _ _ _ _ hr7).trans rfl
              have x1' : w7.cell? ⟨wr.heap.size, 1, none⟩ = some (.int .i64 P.x) := (cell_of_row _ _ _ _ _ _ hr7).trans rfl
              have x2' : w7.cell? ⟨wr.heap.size, 2, none⟩ = some (.int .i64 P.y) := (cell_of_row _ _ _ _ _ _ hr7).trans rfl
              have x3' : w7.cell? ⟨wr.heap.size, 3, none⟩ = some (.int .i64 P.n) := (cell_of_row _ _ _ _ _ _ hr7).trans rfl
              have x4' : w7.cell? ⟨wr.heap.size, 4, none⟩ = some (.slice An P.next.length cn) := (cell_of_row _ _ _ _ _ _ hr7).trans rfl
              have dj7 := (hb7.cell (p := ⟨bw, ow + J, none⟩) hbwl).trans djA
              have HNX7 := Lib.hid (HNXA.out.low (hb7.mono (by omega)) (Nat.le_refl _))
              clear hb7 hr7 x4 diA djA
              go_wp2_with (at_builtin; fail)
              refine (isChoice_any _ _ _ _ _ _ _ _).mono ?_
              rintro e w8 ⟨rfl, hb8⟩
              have HB8 := Lib.hid (HB7.out.trans (hb8.mono (by omega)))
              have HO8 := Lib.hid (HO7.out.bel hb8)
              have hs8 := hb8.size
              have hr8 := row_below HR7.out hb8
              have x4 : w8.cell? ⟨wr.heap.size, 4, none⟩ = some (.slice An P.next.length cn) := (cell_of_row _ _ _ _ _ _ hr8).trans rfl
              have dj8 := (hb8.cell (p := ⟨bw, ow + J, none⟩) (by show bw < _; omega)).trans dj7
              have HNX8 := Lib.hid (HNX7.out.low (hb8.mono (by omega)) (Nat.le_refl _))
              clear hb8 hr8 x0' x1' x2' x3' x4' dj7
              by_cases h2 : P.next.length = 2
              · have HH2 : Hid ((ptD pts a).next.length = 2) := Lib.hid (by rw [HPD.out]; exact h2)
                obtain ⟨A9, c9, e9, -, -, hr9⟩ := HNX8.out
                simp only [List.length_map] at e9
                injection e9 with e9 e10 e11
                subst e9 e11
                clear e10
                obtain ⟨bn, on, rfl, hbn, hcell⟩ := hr9.int_at (k := 0) (by simp; omega)
                have dn := hcell 0 (by simp; omega)
                rw [Nat.add_zero] at dn
                have HN0 : Hid ((P.next.map fun k => ((k : Nat) : Int)).getD 0 0 = (((ptD pts a).next.getD 0 0 : Nat) : Int)) := Lib.hid (by rw [HPD.out, getD_lt (by simp; omega), getD_lt (by omega)]; simp)
                rw [HN0.out] at dn
                have HCH := Lib.hid (fun c => chP_yes (k := k) HH2.out c)
                generalize (ptD pts a).next.getD 0 0 = n0 at *
                rw [h2] at x4 hcn ⊢
                have h2d : decide ((2 : Nat) = 2) = true := rfl
                have hbnl : bn < w8.heap.size := by omega
                have hbxl8 : wr.heap.size < w8.heap.size := by omega
                have hbwl8 : bw < w8.heap.size := by omega
                clear hcell hr9 h2
                by_cases hkn : k = ((n0 : Nat) : Int)
                · have hkb : (k == ((n0 : Nat) : Int)) = true := by rw [beq_iff_eq]; exact hkn
                  have HC0 := Lib.hid (HCH.out 0 (by rw [if_pos hkn]))
                  clear hkn
                  go_upto_region 13 with (at_builtin; fail)
                  refine wp_region_seq (Below w8.heap.size w8) (by kernel_rfl) (by kernel_rfl) (Below.refl _ _).drew ?_
                  repeat (first
                    | (refine SeqS.skip (by rfl) ?_; (try simp only [Act.put, List.setIfInBounds_toArray, List.set_cons_zero, List.set_cons_succ]))
                    | (refine SeqS.pure (v := ?_) (by rfl) (fun w' hSw => ?_) ?_; rotate_left; (obtain ⟨hc9, hf9⟩ := bcell hSw; go_simp; with_reducible rfl); (try simp only [Act.put, List.setIfInBounds_toArray, List.set_cons_zero, List.set_cons_succ]))
                    | fail)
                  intro w9 hb9
                  have HO9 := Lib.hid (HO8.out.bel hb9)
                  have HB9 := Lib.hid (HB8.out.trans (hb9.mono (by omega)))
                  have hs9 := hb9.size
                  clear hb9 x4 dj8 dn hij hwij hwij2
                  go_wp2_with (at_builtin; go_must (refine wpList_push_int rfl (.tmp 70) (.tmp 72) rfl HO9.out (by omega) (by omega) _ rfl rfl ?_); intro v' w' hP' hE')
                  exact ⟨⟨i + 1, k.toNat, _, by go_num, by omega, HGO.out, by rw [HC0.out]; exact hP', HB9.out.trans ((((Evo.alloc w1.heap.size 3 _ _).trans hE').below (by omega)))⟩, by simp [intOf] <;> omega⟩
                · have hkb : (k == ((n0 : Nat) : Int)) = false := beq_eq_false_iff_ne.2 hkn
                  have HC0 := Lib.hid (HCH.out 1 (by rw [if_neg hkn]))
                  clear hkn
                  go_upto_region 13 with (at_builtin; fail)
                  refine wp_region_seq (Below w8.heap.size w8) (by kernel_rfl) (by kernel_rfl) (Below.refl _ _).drew ?_
                  repeat (first
                    | (refine SeqS.skip (by rfl) ?_; (try simp only [Act.put, List.setIfInBounds_toArray, List.set_cons_zero, List.set_cons_succ]))
                    | (refine SeqS.pure (v := ?_) (by rfl) (fun w' hSw => ?_) ?_; rotate_left; (obtain ⟨hc9, hf9⟩ := bcell hSw; go_simp; with_reducible rfl); (try simp only [Act.put, List.setIfInBounds_toArray, List.set_cons_zero, List.set_cons_succ]))
                    | fail)
                  intro w9 hb9
                  have HO9 := Lib.hid (HO8.out.bel hb9)
                  have HB9 := Lib.hid (HB8.out.trans (hb9.mono (by omega)))
                  have hs9 := hb9.size
                  clear hb9 x4 dj8 dn hij hwij hwij2
                  go_wp2_with (at_builtin; go_must (refine wpList_push_int rfl (.tmp 70) (.tmp 72) rfl HO9.out (by omega) (by omega) _ rfl rfl ?_); intro v' w' hP' hE')
                  exact ⟨⟨i + 1, k.toNat, _, by go_num, by omega, HGO.out, by rw [HC0.out]; exact hP', HB9.out.trans ((((Evo.alloc w1.heap.size 3 _ _).trans hE').below (by omega)))⟩, by simp [intOf] <;> omega⟩
              · have h2d : decide (P.next.length = 2) = false := decide_eq_false h2
                have HC0 : Hid (o ++ chP pts a k = o) := Lib.hid (by rw [chP_no (by rw [HPD.out]; exact h2), List.append_nil])
                clear hij hwij hwij2
                go_wp2_with (at_builtin; fail)
                exact ⟨⟨i + 1, k.toNat, o ++ chP pts a k, by go_num, by omega, HGO.out, by rw [HC0.out]; exact HO8.out, HB8.out⟩, by simp [intOf] <;> omega⟩
          · have hie : i + 1 = way.length := by have := HM.out; omega
            have HRES : Hid (wcO ts l way = some o) := Lib.hid (by rw [HO2.out]; exact hR.done hie)
            have hif : decide ((i : Int) < (m : Int)) = false := decide_eq_false (by omega)
            clear hie hR hbx
            go_wp2_with (at_builtin; fail)
            go_ret2
            exact ⟨_, by rw [HRES.out]; rfl, by rw [HRES.out]; exact HOO.out.toS (by omega), HB3.out.trans (HBX.out.mono hs3)⟩
      · have HRES : Hid (wcO ts l way = none) := Lib.hid (by rw [HO.out]; refine wcP_zero ?_; cases way with
          | nil => simp at hpos2
          | cons a r => simpa using hw0)
        have hw0b : (way.getD 0 0 != 0) = true := by simpa using hw0
        generalize way.getD 0 0 = y0 at *
        clear hw0
        go_wp2_with (at_builtin; fail)
        go_ret2
        exact ⟨_, by rw [HRES.out]; rfl, by rw [HRES.out]; exact IntS.nil' _ _ none 0, HB3.out⟩

end Go.Proofs.Ytmaaaiccmllnlaa

/- Choices of ways: spec.WayChoices. -/
namespace Go.Proofs.Ytmaaaiccmllnlaa
open Go.RowKit

set_option maxHeartbeats 8000000 in
set_option maxRecDepth 100000 in
theorem sWayChoices_any (vt vb vw : Value) (ts way : List Int) (l : List St) (B : Nat) (w : World) (ht : IntS w B vt ts) (hl : StS w B vb l) (hw : IntS w B vw way) (hB : B ≤ w.heap.size) (hsz : szL l ≤ 4194300) (hwl : way.length ≤ 100) :
    Calls Try.prog 37 #[.agg #[vt, vb], vw] w (WcRet w (wcO ts l way)) := by
  have HBX := Lib.hid (Boxed.new ht hl hB 26)
  have HW := Lib.hid hw
  have ht0 := ht
  obtain ⟨At, ct, rfl, hct, -, -⟩ := ht0
  obtain ⟨Ab, cb, rfl, hcb⟩ := hl.slice
  obtain ⟨Aw, cw, rfl, hcw, -, -⟩ := hw
  clear ht hl
  go_enter Try.func37, Try.ntmps37
  go_wp2_with (at_builtin; fail)
  have HO0 := Lib.hid (OInts.empty (w.alloc (.cells #[.slice At ts.length ct, .slice Ab l.length cb] 26)) w.heap.size (by simp))
  rw [show (w.alloc (.cells #[.slice At ts.length ct, .slice Ab l.length cb] 26)).heap.size = w.heap.size + 1 by simp] at HO0
  have HBY := Lib.hid (HBX.out.bels (bel_a _ (.cells #[] 3)) hB)
  refine (sPointsOf_any _ _ ts l B _ HBY.out.ht HBY.out.hl (by have := HBY.out.lt; omega) hsz).mono ?_
  rintro e w1 ⟨vp, rfl, hps, hb1⟩
  have HB1 := Lib.hid (HBY.out.bels hb1 hB).bel
  have HO1 := Lib.hid (HO0.out.bel hb1)
  have HPS := Lib.hid hps
  have HW1 := Lib.hid (HW.out.low HB1.out hB)
  obtain ⟨Ap, cp, rfl, hcp, hpl⟩ := hps.slice
  have hs1 := HB1.out.size
  clear hps hb1
  by_cases hnp : (pointsP ts l).length = 0
  · have HRES : Hid (wcO ts l way = none) := Lib.hid (by
      have h := graphOk_no (ts := ts) (l := l) (a := 0) (.inr (by omega))
      rw [graphOk_zero] at h
      unfold wcO; rw [h, if_neg (by simp)])
    have hz : (((pointsP ts l).length : Int) == 0) = true := by rw [beq_iff_eq]; omega
    generalize (pointsP ts l).length = np at *
    clear hnp
    go_wp2_with (at_builtin; fail)
    go_ret2
    exact ⟨_, by rw [HRES.out]; rfl, by rw [HRES.out]; exact IntS.nil' _ _ _ 0, HB1.out.trans ((bel_a w1 _).mono hs1)⟩
  · have hz0 : (((pointsP ts l).length : Int) == 0) = false := beq_eq_false_iff_ne.2 (by omega)
    obtain ⟨hv, hpe, -⟩ := graphOk_yes (ts := ts) (l := l) (a := 0) (Int.le_refl 0) (by omega)
    have HO : Hid (wcO ts l way = wcP (ptsP l) way) := Lib.hid (by unfold wcO; rw [if_pos hv])
    rw [hpe] at HPS hcp hpl hnp hz0 ⊢
    have GD := Lib.hid (Good.of_valid hv)
    have hplen := GD.out.len
    have hpos := GD.out.pos
    clear hv hpe hnp
    by_cases hl0 : way.length = 0
    · have HRES : Hid (wcO ts l way = none) := Lib.hid (by rw [HO.out]; refine wcP_zero ?_; rw [List.length_eq_zero_iff.1 hl0]; simp)
      have hz : ((way.length : Int) == 0) = true := by rw [beq_iff_eq]; omega
      clear hl0
      generalize ptsP l = pts at *
      go_wp2_with (at_builtin; fail)
      go_ret2
      exact ⟨_, by rw [HRES.out]; rfl, by rw [HRES.out]; exact IntS.nil' _ _ _ 0, HB1.out.trans ((bel_a w1 _).mono hs1)⟩
    · have hz : ((way.length : Int) == 0) = false := beq_eq_false_iff_ne.2 (by omega)
      obtain ⟨A9, c9, e9, -, -, hr9⟩ := HW1.out
      injection e9 with e9 e10 e11
      subst e9 e11
      clear e10
      obtain ⟨bw, ow, rfl, hbw, hcell⟩ := hr9.int_at (k := 0) (by omega)
      have HCELL := Lib.hid hcell
      have d0 := hcell 0 (by omega)
      rw [Nat.add_zero] at d0
      have hpos2 : 0 < way.length := by omega
      have hbw1 : bw < w1.heap.size := by omega
      clear hr9 hcell
      by_cases hw0 : way.getD 0 0 = 0
      · rw [hw0] at d0
        have hwg : way[0]? = some 0 := by rw [List.getElem?_eq_getElem hpos2]; rw [getD_lt hpos2] at hw0; rw [hw0]
        have HO2 : Hid (wcO ts l way = wch (ptsP l) 0 (way.drop 1)) := Lib.hid (by rw [HO.out, wcP_head hwg])
        have HST := Lib.hid (WcR.start hpos hwg)
        obtain ⟨m, hm⟩ : ∃ m, way.length = m + 1 := ⟨way.length - 1, by omega⟩
        have HM := Lib.hid hm
        clear hw0 hwg HO hl0
        generalize ptsP l = pts at *
        rw [hm] at hcw hwl hz ⊢
        clear hm
        go_wp2_with (at_builtin; fail)
        clear d0
        generalize hzz : (((m : Nat) : Int) + 1 == 0) = zz at *
        have hzf : zz = false := by assumption
        subst hzf
        generalize hyy : (((pts.length : Nat) : Int) == 0) = yy at *
        have hyf : yy = false := by assumption
        subst hyf
        clear hzz hyy
        go_loopw [6, 8] (fun v c wr => ∃ (J i a : Nat) (o : List Int), c = .int .i64 J ∧ J = i + 1 ∧ i ≤ m ∧ WcR pts way i o a ∧ OutI w1 wr w.heap.size v o) (fun _ c _ => m + 1 - (intOf c).toNat)
        case atStart => exact ⟨1, 0, 0, [], rfl, rfl, Nat.zero_le _, HST.out, OutI.start HO1.out hs1⟩
        case round =>
          obtain ⟨J, i, a, o, rfl, hJ, him, hR, hO⟩ := hrel
          have HR := Lib.hid hR
          have HOO := Lib.hid hO
          have HKP := Lib.hid hO.kp
          have hol := hR.ol
          have hal := hR.lt
          have HJ := Lib.hid hJ
          obtain ⟨A8, c8, rfl, hc8⟩ := hO.lenc
          clear hO
          by_cases hilt : i < m
          · have di := HKP.out.1 _ _ _ (HCELL.out i (by have := HM.out; omega))
            have dj := HKP.out.1 _ _ _ (HCELL.out (i + 1) (by have := HM.out; omega))
            rw [getD_lt (by have := HM.out; omega), show way[i]'(by have := HM.out; omega) = ((a : Nat) : Int) by
              have h := hR.at_
              rw [List.getElem?_eq_getElem (by have := HM.out; omega)] at h
              injection h] at di
            have hgk : way[i + 1]? = some (way.getD (i + 1) 0) := by rw [List.getElem?_eq_getElem (by have := HM.out; omega), getD_lt (by have := HM.out; omega)]
            have HGK := Lib.hid hgk
            generalize way.getD (i + 1) 0 = k at *
            rw [← hJ] at dj
            obtain ⟨bp, op, cp', nv, e, hbp, hcp', hlp, hnx, z0, z1, z2, z3, z4⟩ := HPS.out.get hal
            injection e with e1 e9 e2
            subst e1 e2
            have HNX := Lib.hid hnx
            have HPD : Hid (ptD pts a = pts[a]) := Lib.hid (ptD_get hal)
            have hn2 := GD.out.next2 _ (List.getElem_mem hal)
            have HNI : Hid (nxI pts a = msk pts[a].next) := Lib.hid (by unfold nxI; rw [HPD.out]; rfl)
            obtain ⟨An, cn, rfl, hcn, hln, -⟩ := hnx
            simp only [List.length_map] at z4 hcn hln HNX
            have y4 := HKP.out.1 _ _ _ z4
            generalize pts[a] = P at *
            have HNXA := Lib.hid (HNX.out.imp HKP.out)
            obtain ⟨q, hq⟩ : ∃ q, q = hasP (nxI pts a) k := ⟨_, rfl⟩
            have HQ := Lib.hid hq
            have hjm : J < m + 1 := by omega
            have him2 : i < m + 1 := by omega
            have hjm1 : ((J : Nat) : Int) < ((m : Nat) : Int) + 1 := by omega
            have him1 : ((i : Nat) : Int) < ((m : Nat) : Int) + 1 := by omega
            have hsj : ((J : Nat) : Int) - 1 = ((i : Nat) : Int) := by omega
            have hwi : IntKind.i64.wrap ((i : Nat) : Int) = ((i : Nat) : Int) := IntWalk.i64_in _ (by omega)
            have hwj : IntKind.i64.wrap (((J : Nat) : Int) - 1) = ((i : Nat) : Int) := by rw [hsj]; exact hwi
            have hal1 : ((a : Nat) : Int) < ((pts.length : Nat) : Int) := by omega
            have hwl2 : J ≤ 200 := by omega
            have hbwr : bw < wr.heap.size := cell_lt di
            have hbpr : bp < wr.heap.size := cell_lt y4
            clear hgk e9 hq hR hJ z0 z1 z2 z3 z4
            go_upto_region 8 with (at_builtin; fail)
            have HCN : Hid (∀ wq, Below wr.heap.size wr wq → Calls Try.prog 63 #[.slice An P.next.length cn, .int .i64 k] wq fun e' w'' => e' = .returned (.bool q) ∧ Below wr.heap.size wr w'') := Lib.hid fun wq hS => (l2Has_any _ (P.next.map fun k => ((k : Nat) : Int)) k _ wq (IntS.imp (by have := HNXA.out; simpa using this) (Kp.of_bel hS))).mono fun e' w'' ⟨h1, h2⟩ => ⟨by rw [h1, HQ.out, HNI.out]; rfl, by rw [← h2]; exact hS⟩
            cases q
            · have HNO := Lib.hid (HR.out.no HGK.out HQ.out.symm)
              have HRES : Hid (wcO ts l way = none) := Lib.hid (by rw [HO2.out]; exact HNO.out)
              refine wp_region_seq (Below wr.heap.size wr) (by kernel_rfl) (by kernel_rfl) (Below.refl _ _).drew ?_
              repeat (first
                | (refine SeqS.skip (by rfl) ?_; (try simp only [Act.put, List.setIfInBounds_toArray, List.set_cons_zero, List.set_cons_succ]))
                | (refine SeqS.pure (v := ?_) (by rfl) (fun w' hSw => ?_) ?_; rotate_left; (obtain ⟨hc9, hf9⟩ := bcell hSw; go_simp; with_reducible rfl); (try simp only [Act.put, List.setIfInBounds_toArray, List.set_cons_zero, List.set_cons_succ]))
                | (refine SeqS.call (f := ?_) (args := ?_) (v := ?_) (by rfl) (fun w' => ?_) (fun w' hSw => ?_) ?_; rotate_left 3; (go_simp; constructor; (with_reducible rfl); (with_reducible rfl)); (first | exact HCN.out _ hSw | fail); (try simp only [Act.put, List.setIfInBounds_toArray, List.set_cons_zero, List.set_cons_succ]))
                | fail)
              intro w7 hb7
              clear di dj y4
              go_wp2_with (at_builtin; fail)
              go_ret2
              exact ⟨_, by rw [HRES.out]; rfl, by rw [HRES.out]; exact IntS.nil' _ _ _ 0, HB1.out.trans ((HOO.out.bel.trans (hb7.mono HOO.out.le)).trans ((bel_a w7 _).mono (Nat.le_trans HOO.out.le hb7.size)))⟩
            · have HGO := Lib.hid (HR.out.go GD.out.next HGK.out HQ.out.symm)
              refine wp_region_seq (Below wr.heap.size wr) (by kernel_rfl) (by kernel_rfl) (Below.refl _ _).drew ?_
              repeat (first
                | (refine SeqS.skip (by rfl) ?_; (try simp only [Act.put, List.setIfInBounds_toArray, List.set_cons_zero, List.set_cons_succ]))
                | (refine SeqS.pure (v := ?_) (by rfl) (fun w' hSw => ?_) ?_; rotate_left; (obtain ⟨hc9, hf9⟩ := bcell hSw; go_simp; with_reducible rfl); (try simp only [Act.put, List.setIfInBounds_toArray, List.set_cons_zero, List.set_cons_succ]))
                | (refine SeqS.call (f := ?_) (args := ?_) (v := ?_) (by rfl) (fun w' => ?_) (fun w' hSw => ?_) ?_; rotate_left 3; (go_simp; constructor; (with_reducible rfl); (with_reducible rfl)); (first | exact HCN.out _ hSw | fail); (try simp only [Act.put, List.setIfInBounds_toArray, List.set_cons_zero, List.set_cons_succ]))
                | fail)
              intro w7 hb7
              have HO7 := Lib.hid (HOO.out.belc hb7)
              have di7 := (hb7.cell (p := ⟨bw, ow + i, none⟩) hbwr).trans di
              have dj7 := (hb7.cell (p := ⟨bw, ow + J, none⟩) hbwr).trans dj
              have y47 := (hb7.cell hbpr).trans y4
              have HNX7 := Lib.hid (HNXA.out.imp (Kp.of_bel hb7))
              have hs7 := hb7.size
              have hbw7 : bw < w7.heap.size := by omega
              have hbp7 : bp < w7.heap.size := by omega
              clear hb7 di dj y4
              by_cases h2 : P.next.length = 2
              · have HH2 : Hid ((ptD pts a).next.length = 2) := Lib.hid (by rw [HPD.out]; exact h2)
                obtain ⟨A9, c9, e9, -, -, hr9⟩ := HNX7.out
                simp only [List.length_map] at e9
                injection e9 with e9 e10 e11
                subst e9 e11
                clear e10
                obtain ⟨bn, on, rfl, hbn, hcell⟩ := hr9.int_at (k := 0) (by simp; omega)
                have dn := hcell 0 (by simp; omega)
                rw [Nat.add_zero] at dn
                have HN0 : Hid ((P.next.map fun k => ((k : Nat) : Int)).getD 0 0 = (((ptD pts a).next.getD 0 0 : Nat) : Int)) := Lib.hid (by rw [HPD.out, getD_lt (by simp; omega), getD_lt (by omega)]; simp)
                rw [HN0.out] at dn
                have HCH := Lib.hid (fun c => chP_yes (k := k) HH2.out c)
                generalize (ptD pts a).next.getD 0 0 = n0 at *
                rw [h2] at y47 hcn ⊢
                have h2d : ((2 : Int) == 2) = true := rfl
                have hbnl : bn < w7.heap.size := cell_lt dn
                clear hcell hr9 h2
                by_cases hkn : k = ((n0 : Nat) : Int)
                · have hkb : (((n0 : Nat) : Int) != k) = false := by simp [hkn]
                  have HC0 := Lib.hid (HCH.out 0 (by rw [if_pos hkn]))
                  clear hkn
                  go_upto_region 12 with (at_builtin; fail)
                  refine wp_region_seq (Below w7.heap.size w7) (by kernel_rfl) (by kernel_rfl) (Below.refl _ _).drew ?_
                  repeat (first
                    | (refine SeqS.skip (by rfl) ?_; (try simp only [Act.put, List.setIfInBounds_toArray, List.set_cons_zero, List.set_cons_succ]))
                    | (refine SeqS.pure (v := ?_) (by rfl) (fun w' hSw => ?_) ?_; rotate_left; (obtain ⟨hc9, hf9⟩ := bcell hSw; go_simp; with_reducible rfl); (try simp only [Act.put, List.setIfInBounds_toArray, List.set_cons_zero, List.set_cons_succ]))
                    | fail)
                  intro w9 hb9
                  have HO9 := Lib.hid (HO7.out.belc hb9)
                  clear hb9 y47 di7 dj7 dn hsj hwi hwj
                  go_wp2_with (at_builtin; go_must (refine wpList_push_outI rfl (.tmp 77) (.tmp 79) rfl HO9.out (by omega) _ rfl rfl ?_); intro v' w' hP')
                  exact ⟨⟨J + 1, i + 1, k.toNat, _, by go_num, by have := HJ.out; omega, by omega, HGO.out, by rw [HC0.out]; exact hP'⟩, by simp [intOf] <;> omega⟩
                · have hkb : (((n0 : Nat) : Int) != k) = true := by simpa using fun h => hkn h.symm
                  have HC0 := Lib.hid (HCH.out 1 (by rw [if_neg hkn]))
                  clear hkn
                  go_upto_region 12 with (at_builtin; fail)
                  refine wp_region_seq (Below w7.heap.size w7) (by kernel_rfl) (by kernel_rfl) (Below.refl _ _).drew ?_
                  repeat (first
                    | (refine SeqS.skip (by rfl) ?_; (try simp only [Act.put, List.setIfInBounds_toArray, List.set_cons_zero, List.set_cons_succ]))
                    | (refine SeqS.pure (v := ?_) (by rfl) (fun w' hSw => ?_) ?_; rotate_left; (obtain ⟨hc9, hf9⟩ := bcell hSw; go_simp; with_reducible rfl); (try simp only [Act.put, List.setIfInBounds_toArray, List.set_cons_zero, List.set_cons_succ]))
                    | fail)
                  intro w9 hb9
                  have HO9 := Lib.hid (HO7.out.belc hb9)
                  clear hb9 y47 di7 dj7 dn hsj hwi hwj
                  go_wp2_with (at_builtin; go_must (refine wpList_push_outI rfl (.tmp 77) (.tmp 79) rfl HO9.out (by omega) _ rfl rfl ?_); intro v' w' hP')
                  exact ⟨⟨J + 1, i + 1, k.toNat, _, by go_num, by have := HJ.out; omega, by omega, HGO.out, by rw [HC0.out]; exact hP'⟩, by simp [intOf] <;> omega⟩
              · have h2d : (((P.next.length : Nat) : Int) == 2) = false := beq_eq_false_iff_ne.2 (by omega)
                have HC0 : Hid (o ++ chP pts a k = o) := Lib.hid (by rw [chP_no (by rw [HPD.out]; exact h2), List.append_nil])
                clear h2
                go_wp2_with (at_builtin; fail)
                exact ⟨⟨J + 1, i + 1, k.toNat, o ++ chP pts a k, by go_num, by have := HJ.out; omega, by omega, HGO.out, by rw [HC0.out]; exact HO7.out⟩, by simp [intOf] <;> omega⟩
          · have hie : i + 1 = way.length := by have := HM.out; omega
            have HRES : Hid (wcO ts l way = some o) := Lib.hid (by rw [HO2.out]; exact hR.done hie)
            have hif : decide (((J : Nat) : Int) < ((m : Nat) : Int) + 1) = false := decide_eq_false (by omega)
            have hwl2 : J ≤ 200 := by omega
            clear hie hR hilt hJ
            go_wp2_with (at_builtin; fail)
            go_ret2
            exact ⟨_, by rw [HRES.out]; rfl, by rw [HRES.out]; exact HOO.out.toS (by omega), HB1.out.trans HOO.out.bel⟩
      · have HRES : Hid (wcO ts l way = none) := Lib.hid (by rw [HO.out]; refine wcP_zero ?_; cases way with
          | nil => simp at hpos2
          | cons a r => simpa using hw0)
        have hw0b : (way.getD 0 0 != 0) = true := by simpa using hw0
        generalize way.getD 0 0 = y0 at *
        generalize ptsP l = pts at *
        clear hw0
        go_wp2_with (at_builtin; fail)
        go_ret2
        exact ⟨_, by rw [HRES.out]; rfl, by rw [HRES.out]; exact IntS.nil' _ _ _ 0, HB1.out.trans ((bel_a w1 _).mono hs1)⟩

end Go.Proofs.Ytmaaaiccmllnlaa

/- Ways: spec.RunPath, as far as the draw of ways needs it. -/
namespace Go.Proofs.Ytmaaaiccmllnlaa
open Go.RowKit

/-- some ints that the call owns, and a bool -/
def RpwRet (w : World) (m : Nat) (e : Ending) (w' : World) : Prop := ∃ v o ok, e = .returned (.tuple #[v, .bool ok]) ∧ OInts w' w.heap.size v o ∧ o.length ≤ m ∧ Below w.heap.size w w'
set_option maxHeartbeats 4000000 in
set_option maxRecDepth 100000 in
theorem sRunPathW_any (vt vb vc : Value) (ts : List Int) (l : List St) (cs : List Int) (B : Nat) (w : World) (ht : IntS w B vt ts) (hl : StS w B vb l) (hc : IntS w B vc cs) (hB : B ≤ w.heap.size) (hsz : szL l ≤ 4194300) :
    Calls Try.prog 84 #[.agg #[vt, vb], vc, .int .i64 20] w (RpwRet w 21) := by
  have HBX := Lib.hid (Boxed.new ht hl hB 26)
  have HC := Lib.hid hc
  have ht0 := ht
  obtain ⟨At, ct, rfl, hct, -, -⟩ := ht0
  obtain ⟨Ab, cb, rfl, hcb⟩ := hl.slice
  obtain ⟨Ac, cc, rfl, hcc, hcm, -⟩ := hc
  clear ht hl
  go_enter Try.func84, Try.ntmps84
  go_wp2_with (at_builtin; fail)
  have HO0 := Lib.hid (OInts.empty (w.alloc (.cells #[.slice At ts.length ct, .slice Ab l.length cb] 26)) w.heap.size (by simp))
  rw [show (w.alloc (.cells #[.slice At ts.length ct, .slice Ab l.length cb] 26)).heap.size = w.heap.size + 1 by simp] at HO0
  have HBY := Lib.hid (HBX.out.bels (bel_a _ (.cells #[] 3)) hB)
  refine (sPointsOf_any _ _ ts l B _ HBY.out.ht HBY.out.hl (by have := HBY.out.lt; omega) hsz).mono ?_
  rintro e w1 ⟨vp, rfl, hps, hb1⟩
  have HB1 := Lib.hid (HBY.out.bels hb1 hB).bel
  have HO1 := Lib.hid (HO0.out.bel hb1)
  have HPS := Lib.hid hps
  have HC1 := Lib.hid (HC.out.low HB1.out hB)
  obtain ⟨Ap, cp, rfl, hcp, hpl⟩ := hps.slice
  have hs1 := HB1.out.size
  clear hps hb1
  by_cases hnp : (pointsP ts l).length = 0
  · have hz : (((pointsP ts l).length : Int) == 0) = true := by rw [beq_iff_eq]; omega
    generalize (pointsP ts l).length = np at *
    go_wp2_with (at_builtin; fail)
    go_ret2
    exact ⟨_, [], false, rfl, HO1.out, by simp, HB1.out⟩
  · have hz : (((pointsP ts l).length : Int) == 0) = false := beq_eq_false_iff_ne.2 (by omega)
    obtain ⟨hv, hpe, hok⟩ := graphOk_yes (ts := ts) (l := l) (a := 0) (Int.le_refl 0) (by omega)
    rw [hpe] at HPS hcp hpl hnp hz ⊢
    have GD := Lib.hid (Good.of_valid hv)
    have hplen := GD.out.len
    have hpos := GD.out.pos
    have HNE := Lib.hid (ptsP_next1 l)
    clear hv hpe hok
    generalize ptsP l = pts at *
    go_wp2_with (at_builtin; fail)
    go_loopw [8, 10, 11] (fun v c u wr => ∃ (o : List Int) (a us : Nat), c = .int .i64 a ∧ u = .int .i64 us ∧ a < pts.length ∧ us ≤ o.length ∧ o.length ≤ 20 ∧ OutI w1 wr w.heap.size v o) (fun v _ _ _ => 30 - (match v with | .slice _ n _ => n | _ => 0))
    case atStart => exact ⟨[], 0, 0, rfl, rfl, hpos, Nat.le_refl _, by simp, OutI.start HO1.out hs1⟩
    case round =>
      obtain ⟨o, a, us, rfl, rfl, ha, hus, hol, hO⟩ := hrel
      have HO := Lib.hid hO
      have HKP := Lib.hid hO.kp
      have hsw := hO.kp.2
      obtain ⟨A8, c8, rfl, hc8⟩ := hO.lenc
      obtain ⟨bp, op, cp', nv, e, hbp, hcp', hlp, hnx, z0, z1, z2, z3, z4⟩ := HPS.out.get ha
      injection e with e1 e9 e2
      subst e1 e2
      have HNX := Lib.hid hnx
      have hmem : pts[a] ∈ pts := List.getElem_mem ha
      have HIN := Lib.hid (GD.out.next _ hmem)
      have h2 := GD.out.next2 _ hmem
      have H1 := Lib.hid (HNE.out _ hmem)
      obtain ⟨An, cn, rfl, hcn, hln, -⟩ := hnx
      simp only [List.length_map] at z4 hcn hln HNX
      generalize pts[a] = P at *
      have p0 := HKP.out.1 _ _ _ z0
      have p4 := HKP.out.1 _ _ _ z4
      clear hO hmem e9 z1 z2 z3
      by_cases hop : P.op = 11
      · have ho1 : (P.op != 11) = false := by simpa using hop
        clear hop
        go_wp2_with (at_builtin; go_must (refine wpList_push_outI rfl (.tmp 72) (.tmp 74) rfl HO.out (by omega) _ rfl rfl ?_); intro v' w' hP')
        go_ret2
        exact ⟨_, _, _, rfl, Out.own hP', by simp; omega, HB1.out.trans (Out.bel hP')⟩
      · have ho1 : (P.op != 11) = true := by simpa using hop
        have hn1 := H1.out hop
        clear hop
        by_cases h20 : o.length = 20
        · have hl1 : ((o.length : Int) == 20) = true := by rw [beq_iff_eq]; omega
          clear h20
          go_wp2_with (at_builtin; fail)
          go_ret2
          exact ⟨_, o, _, rfl, Out.own HO.out, by omega, HB1.out.trans (Out.bel HO.out)⟩
        · have hl1 : ((o.length : Int) == 20) = false := beq_eq_false_iff_ne.2 (by omega)
          have hol2 : o.length + 1 ≤ 20 := by omega
          have h12 : (∃ x, P.next = [x]) ∨ (∃ x y, P.next = [x, y]) := by
            generalize P.next = nx at *
            match nx, hn1, h2 with
            | [x], _, _ => exact .inl ⟨x, rfl⟩
            | [x, y], _, _ => exact .inr ⟨x, y, rfl⟩
          clear h20 hn1 h2
          obtain ⟨A9, c9, e9, -, -, hr9⟩ := HNX.out
          injection e9 with e9 e10 e11
          subst e9 e11
          clear e10
          rcases h12 with ⟨x, hnxe⟩ | ⟨x, y, hnxe⟩
          · have hxl : x < pts.length := HIN.out x (by rw [hnxe]; simp)
            rw [hnxe] at hr9 z4 hcn hln
            obtain ⟨bn, on, rfl, hbn, hcell⟩ := Rd.int_at (l := [((x : Nat) : Int)]) hr9 (k := 0) (by simp)
            have hc0 := hcell 0 (by simp)
            simp only [List.length_cons, List.length_nil, Nat.zero_add, List.getD_cons_zero, Nat.add_zero] at z4 hc0 hcn
            clear hcell hr9 hnxe
            go_upto_region 11 with (at_builtin; go_must (refine wpList_push_outI rfl (.tmp 39) (.tmp 41) rfl HO.out (by omega) _ rfl rfl ?_); intro v' w' hP')
            have HPF := Lib.hid hP'
            have HKF := Lib.hid (Out.kp hP')
            obtain ⟨A6, c6, rfl, hc6⟩ := Out.lenc hP'
            have y4 := HKF.out.1 _ _ _ z4
            clear hP' p0 p4
            have d0 := HKF.out.1 _ _ _ hc0
            clear hc0 z0 z4
            go_wp2_with (at_builtin; fail)
            exact ⟨⟨o ++ [((a : Nat) : Int)], x, us, rfl, rfl, hxl, by simp; omega, by simp; omega, HPF.out⟩, by simp; omega⟩
          · have hxl : x < pts.length := HIN.out x (by rw [hnxe]; simp)
            have hyl : y < pts.length := HIN.out y (by rw [hnxe]; simp)
            rw [hnxe] at hr9 z4 hcn hln
            obtain ⟨bn, on, rfl, hbn, hcell⟩ := Rd.int_at (l := [((x : Nat) : Int), ((y : Nat) : Int)]) hr9 (k := 0) (by simp)
            have hc0 := hcell 0 (by simp)
            have hc1 := hcell 1 (by simp)
            simp only [List.length_cons, List.length_nil, Nat.zero_add, List.getD_cons_zero, List.getD_cons_succ, Nat.add_zero] at z4 hc0 hc1 hcn
            clear hcell hr9 hnxe
            go_upto_region 11 with (at_builtin; go_must (refine wpList_push_outI rfl (.tmp 39) (.tmp 41) rfl HO.out (by omega) _ rfl rfl ?_); intro v' w' hP')
            have HPF := Lib.hid hP'
            have HKF := Lib.hid (Out.kp hP')
            obtain ⟨A6, c6, rfl, hc6⟩ := Out.lenc hP'
            have y4 := HKF.out.1 _ _ _ z4
            clear hP' p0 p4
            have d0 := HKF.out.1 _ _ _ hc0
            have d1 := HKF.out.1 _ _ _ hc1
            clear hc0 hc1 z0 z4
            by_cases huc : us < cs.length
            · obtain ⟨A7, c7, e7, -, -, hr7⟩ := HC1.out.imp HKF.out
              injection e7 with e7 e10 e11
              subst e7 e11
              obtain ⟨bc, oc, rfl, hbc, hcc2⟩ := hr7.int_at huc
              have dcc := hcc2 us huc
              have hucd : decide ((us : Int) < (cs.length : Int)) = true := decide_eq_true (by omega)
              generalize cs.getD us 0 = zc at *
              clear hcc2 hr7 e10
              go_wp2_with (at_builtin; fail)
              all_goals first
                | exact ⟨⟨o ++ [((a : Nat) : Int)], x, us + 1, rfl, by go_num, hxl, by simp; omega, by simp; omega, HPF.out⟩, by simp; omega⟩
                | exact ⟨⟨o ++ [((a : Nat) : Int)], y, us + 1, rfl, by go_num, hyl, by simp; omega, by simp; omega, HPF.out⟩, by simp; omega⟩
            · have hucd : decide ((us : Int) < (cs.length : Int)) = false := decide_eq_false (by omega)
              go_wp2_with (at_builtin; fail)
              exact ⟨⟨o ++ [((a : Nat) : Int)], y, us + 1, rfl, by go_num, hyl, by simp; omega, by simp; omega, HPF.out⟩, by simp; omega⟩

end Go.Proofs.Ytmaaaiccmllnlaa
