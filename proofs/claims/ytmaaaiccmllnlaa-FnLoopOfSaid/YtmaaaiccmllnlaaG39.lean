import Derived.Test.YtmaaaiccmllnlaaG37
import Derived.Test.YtmaaaiccmllnlaaG35
set_option linter.unusedVariables false

/- BoundsHold: rows of ints that are read; impl.BoundsHold, spec.BoundsHold. -/
namespace Go.Proofs.Ytmaaaiccmllnlaa
open Go.RowKit

/-- the slice v reads as the rows of ints -/
def IRw (w : World) (B : Nat) (v : Value) (rs : List (List Int)) : Prop :=
  ∃ A c, ∃ rv : Nat → Value, v = .slice A rs.length c ∧ rs.length ≤ c ∧ rs.length ≤ 100000 ∧ (0 < rs.length → ∃ b off, A = some ⟨b, off, none⟩ ∧ b < B ∧ ∀ i, i < rs.length → w.cell? ⟨b, off + i, none⟩ = some (rv i)) ∧
    ∀ i, i < rs.length → IntS w B (rv i) (rs.getD i [])
theorem IRw.low {w w' : World} {B B' : Nat} {v : Value} {l : List (List Int)} (h : IRw w B v l) (hb : Below B' w w') (hB : B ≤ B') : IRw w' B v l := by
  obtain ⟨A, c, rv, e, h1, h2, h3, h4⟩ := h
  refine ⟨A, c, rv, e, h1, h2, fun hn => ?_, fun i hi => (h4 i hi).low hb hB⟩
  obtain ⟨b, off, e, hbb, hc⟩ := h3 hn
  exact ⟨b, off, e, hbb, fun i hi => (hb.cell (p := ⟨b, off + i, none⟩) (by show b < B'; omega)).trans (hc i hi)⟩
theorem IRw.more {w : World} {B B' : Nat} {v : Value} {l : List (List Int)} (h : IRw w B v l) (hB : B ≤ B') : IRw w B' v l := by
  obtain ⟨A, c, rv, e, h1, h2, h3, h4⟩ := h
  exact ⟨A, c, rv, e, h1, h2, fun hn => by obtain ⟨b, off, e, hbb, hc⟩ := h3 hn; exact ⟨b, off, e, by omega, hc⟩, fun i hi => (h4 i hi).more hB⟩
theorem IRw.bel {w w' : World} {v : Value} {l : List (List Int)} (h : IRw w w.heap.size v l) (hb : Below w.heap.size w w') : IRw w' w'.heap.size v l := (h.low hb (Nat.le_refl _)).more hb.size
theorem IRw.slice {w : World} {B : Nat} {v : Value} {l : List (List Int)} (h : IRw w B v l) : ∃ A c, v = .slice A l.length c ∧ l.length ≤ c := by
  obtain ⟨A, c, rv, e, h1, _⟩ := h
  exact ⟨A, c, e, h1⟩
theorem IRw.at_ {w : World} {B : Nat} {A : Option Addr} {n c : Nat} {l : List (List Int)} (h : IRw w B (.slice A n c) l) (hn : 0 < l.length) :
    ∃ b off, A = some ⟨b, off, none⟩ ∧ b < B ∧ n = l.length ∧ ∀ i, i < l.length → ∃ A' c', w.cell? ⟨b, off + i, none⟩ = some (.slice A' (l.getD i []).length c') ∧ IntS w B (.slice A' (l.getD i []).length c') (l.getD i []) := by
  obtain ⟨A', c', rv, e, h1, h2, h3, h4⟩ := h
  injection e with e1 e2 e3
  subst e1 e2
  obtain ⟨b, off, e, hb, hc⟩ := h3 hn
  refine ⟨b, off, e, hb, rfl, fun i hi => ?_⟩
  have h5 := h4 i hi
  obtain ⟨A2, c2, e2, hc2, -, -⟩ := id h5
  refine ⟨A2, c2, by rw [hc i hi, e2], by rw [← e2]; exact h5⟩
/-- one bound -/
def bnd1 (rs : List (List Int)) (b : Bd) : Bool := if b.src < 0 then hasP (rs.getD b.v.toNat []) b.loan else (rs.getD b.src.toNat []).all fun n => hasP (rs.getD b.v.toNat []) n
theorem bndP_succ {bs : List Bd} {rs : List (List Int)} {k : Nat} (hk : k < bs.length) : bndP (bs.take (k + 1)) rs = (bndP (bs.take k) rs && bnd1 rs bs[k]) := by
  unfold bndP
  rw [take_succ_get bs k hk, List.all_append]
  simp [bnd1]
theorem bndP_no {bs : List Bd} {rs : List (List Int)} {k : Nat} (hk : k < bs.length) (h : bnd1 rs bs[k] = false) : bndP bs rs = false := by
  unfold bndP
  rw [List.all_eq_false]
  exact ⟨bs[k], List.getElem_mem hk, by unfold bnd1 at h; rw [h]; simp⟩
def bhRes (ts : List Int) (l : List St) (rs : List (List Int)) : Bool := validP ts l && (rs.length == ts.length) && bndP (bds ts (ptsP l)) rs
set_option maxHeartbeats 400000 in
theorem l2Has_any (va : Value) (l : List Int) (n : Int) (B : Nat) (w : World) (ha : IntS w B va l) :
    Calls Try.prog 63 #[va, .int .i64 n] w fun e w' => e = .returned (.bool (hasP l n)) ∧ w = w' := by
  obtain ⟨A, c, rfl, hc, hm, hr⟩ := ha
  go_enter Try.func63, Try.ntmps63
  go_wp2
  go_loop [5] (fun i => ∃ k : Nat, k ≤ l.length ∧ i = .int .i64 k ∧ n ∉ l.take k) (fun i => l.length - (intOf i).toNat)
  case atStart => exact ⟨0, Nat.zero_le _, rfl, by simp⟩
  case round =>
    obtain ⟨k, hk, rfl, hn⟩ := hrel
    by_cases hlt : k < l.length
    · obtain ⟨b, off, rfl, hb, hcell⟩ := hr.int_at hlt
      have hck := hcell k hlt
      have H := Lib.hid hn
      clear hcell hn
      go_wp2
      · have hx : (l[k] == n) = true := by assumption
        go_ret
        exact ⟨ret_bool (((hasP_iff l n).2 (by rw [← beq_iff_eq.1 hx]; exact List.getElem_mem hlt)).symm), rfl⟩
      · have hx : (l[k] == n) = false := by assumption
        refine ⟨⟨k + 1, by omega, by go_num, ?_⟩, by simp [intOf]; omega⟩
        rw [take_succ_get l k hlt, List.mem_append, List.mem_singleton]
        have := beq_eq_false_iff_ne.1 hx
        rintro (h | h)
        · exact H.out h
        · exact this h.symm
    · obtain rfl : k = l.length := by omega
      rw [List.take_length] at hn
      have H := Lib.hid hn
      clear hn
      go_wp2
      go_ret
      exact ⟨ret_bool (Bool.eq_false_iff.2 (fun h => H.out ((hasP_iff l n).1 h))).symm, rfl⟩
set_option maxHeartbeats 4000000 in
set_option maxRecDepth 100000 in
theorem iBoundsHold_any (vt vb vr : Value) (ts : List Int) (l : List St) (rs : List (List Int)) (B : Nat) (w : World) (ht : IntS w B vt ts) (hl : StS w B vb l) (hr : IRw w B vr rs) (hB : B ≤ w.heap.size) (hsz : szL l ≤ 4194300) :
    Calls Try.prog 17 #[.agg #[vt, vb], vr] w (fun e w' => e = .returned (.bool (bhRes ts l rs)) ∧ Below w.heap.size w w') := by
  have HR := Lib.hid hr
  obtain ⟨Ar, cr, rfl, hcr⟩ := hr.slice
  have hb2 : ∀ o, Below w.heap.size w (w.alloc o) := fun o => bel_a w o
  clear hr
  go_enter Try.func17, Try.ntmps17
  go_wp2_with fail
  refine (graphOf_any vt vb _ ts l [] (w.heap.size + 1) _ ((ht.low (hb2 _) hB).more (by omega)) ((hl.low (hb2 _) hB).more (by omega)) (IntS.nil' _ _ none 0) (by simp) hsz).mono ?_
  rintro e w1 ⟨vg, rfl, hgr, hb1⟩
  have hb3 := (hb2 _).trans (hb1.mono (by simp))
  have hs3 := hb3.size
  have HB3 := Lib.hid hb3
  rw [graphOk_nil] at hgr ⊢
  cases hok : validP ts l
  · have HRES : Hid (bhRes ts l rs = false) := Lib.hid (by unfold bhRes; rw [hok]; rfl)
    clear hok hgr
    go_wp2_with (at_builtin; fail)
    go_ret
    exact ⟨by rw [HRES.out]; rfl, HB3.out⟩
  · have G := Good.of_valid hok
    have hgg := hgr hok
    have HC := Lib.hid (bounds_any vg ts (ptsP l) _ w1 hgg (Nat.le_refl _) G)
    have HOK := Lib.hid (bds_ok G)
    have hpl := G.len
    have h6 := G.h6
    have hbl : (bds ts (ptsP l)).length ≤ 2 * (ptsP l).length := bdsL_len ts 0 (ptsP l)
    obtain ⟨g, At, ct, vb', Al, cl, rfl, hgB, g0, g1, g2, ht', hp', htl, hpl'⟩ := hgg.open_
    have hrb : bhRes ts l rs = ((rs.length == ts.length) && bndP (bds ts (ptsP l)) rs) := by unfold bhRes; rw [hok, Bool.true_and]
    have HRB := Lib.hid hrb
    clear hok hgr hb2 hb1 hb3 hgg ht hl G ht' hp' hrb
    by_cases hlen : rs.length = ts.length
    · have hne : ((rs.length : Int) != (ts.length : Int)) = false := by simp; omega
      have HRES : Hid (bhRes ts l rs = bndP (bds ts (ptsP l)) rs) := Lib.hid (by rw [HRB.out, hlen]; simp)
      have HLEN := Lib.hid hlen
      have hlen1 : ts.length ≤ rs.length := by omega
      clear hlen
      generalize bds ts (ptsP l) = bs at *
      generalize (ptsP l).length = m at *
      go_wp2_with (at_builtin; fail)
      refine HC.out.mono ?_
      rintro e w2 ⟨v2, rfl, hbx, hb4⟩
      have HBS := Lib.hid hbx
      obtain ⟨A2, c2, rfl, hc2⟩ := hbx.slice
      have HB4 := Lib.hid (HB3.out.trans (hb4.mono hs3))
      have HRW := Lib.hid (HR.out.low HB4.out hB)
      have hs4 := HB4.out.size
      clear hbx hb4 HC HR g0 g1 g2
      go_wp2_with (at_builtin; fail)
      go_loopw [32] (fun i wr => ∃ k : Nat, k ≤ bs.length ∧ i = .int .i64 k ∧ bndP (bs.take k) rs = true ∧ Below w2.heap.size w2 wr) (fun i _ => bs.length - (intOf i).toNat)
      case atStart => exact ⟨0, Nat.zero_le _, rfl, rfl, Below.refl _ _⟩
      case round =>
        obtain ⟨k, hk, rfl, hbp, hbw⟩ := hrel
        have HBP := Lib.hid hbp
        have HBW := Lib.hid hbw
        have hsw := hbw.size
        clear hbp
        by_cases hlt : k < bs.length
        · obtain ⟨bb, ob, rfl, hP, hbb, z0, z1, z2⟩ := (HBS.out.bel hbw).get hlt
          have HXO := Lib.hid (HOK.out _ (List.getElem_mem hlt))
          have HSU := Lib.hid (bndP_succ (rs := rs) hlt)
          have HNO := Lib.hid (bndP_no (rs := rs) hlt)
          clear hP hbw
          have HONE : Hid (bnd1 rs bs[k] = if bs[k].src < 0 then hasP (rs.getD bs[k].v.toNat []) bs[k].loan else (rs.getD bs[k].src.toNat []).all fun n => hasP (rs.getD bs[k].v.toNat []) n) := Lib.hid rfl
          generalize bs[k] = X at *
          have HRA := Lib.hid (heap_alloc_new wr (.cells #[.int .i64 X.v, .int .i64 X.loan, .int .i64 X.src] 76))
          have HBA := Lib.hid (HBW.out.trans ((bel_a wr (.cells #[.int .i64 X.v, .int .i64 X.loan, .int .i64 X.src] 76)).mono hsw))
          obtain ⟨v, hv⟩ : ∃ v : Nat, X.v = v := ⟨X.v.toNat, by have := HXO.out.v0; omega⟩
          have hvn : v < ts.length := by have := HXO.out.v1; omega
          have hvr : v < rs.length := by omega
          rw [hv] at z0 HRA HBA HONE
          rw [Int.toNat_natCast] at HONE
          have HRX := Lib.hid (HRW.out.low (HBA.out.mono hs4) hB)
          obtain ⟨gr, og, rfl, hgrB, -, hrat⟩ := HRX.out.at_ (by omega)
          obtain ⟨Av, cv, dv, hVS⟩ := hrat v hvr
          have HRAT := Lib.hid hrat
          have HVS := Lib.hid hVS
          generalize rs.getD v [] = V at *
          have hVl := hVS
          obtain ⟨-, -, -, hVc, hVm, -⟩ := hVl
          clear hVS hrat hv
          have hgrw : gr < w.heap.size := by omega
          rcases HXO.out.alt with ⟨hsr', hl0, hl1⟩ | ⟨hlo, hs0, hs1⟩
          · obtain ⟨e, he⟩ : ∃ e : Nat, X.loan = e := ⟨X.loan.toNat, by omega⟩
            rw [he] at z1 HRA HBA HRX HRAT HONE dv HVS
            rw [hsr'] at z2 HRA HBA HRX HRAT HONE dv HVS
            have hon : bnd1 rs X = hasP V (e : Nat) := by rw [HONE.out, if_pos (by omega)]
            have HON := Lib.hid hon
            clear hsr' hl0 hl1 he HXO hon HONE
            go_upto_region 8 with (at_builtin; fail)
            generalize wr.alloc (.cells #[.int .i64 (v : Nat), .int .i64 (e : Nat), .int .i64 (-1)] 76) = wb at *
            have x0 : wb.cell? ⟨wr.heap.size, 0, none⟩ = some (.int .i64 (v : Nat)) := (cell_of_row _ _ _ _ _ _ HRA.out).trans rfl
            have x1 : wb.cell? ⟨wr.heap.size, 1, none⟩ = some (.int .i64 (e : Nat)) := (cell_of_row _ _ _ _ _ _ HRA.out).trans rfl
            have hbxl : wr.heap.size < wb.heap.size := row_lt HRA.out
            have hgrl : gr < wb.heap.size := by omega
            clear z0 z1 z2
            obtain ⟨q, hq⟩ : ∃ q, q = hasP V (e : Nat) := ⟨_, rfl⟩
            have HQ := Lib.hid hq
            clear hq
            have HCN : Hid (∀ wq, Below wb.heap.size wb wq → Calls Try.prog 60 #[.slice Av V.length cv, .int .i64 (e : Nat)] wq fun e' w'' => e' = .returned (.bool q) ∧ Below wb.heap.size wb w'') := Lib.hid fun wq hS => (contains_any _ V _ _ wq (HVS.out.low hS (by omega))).mono fun e' w'' ⟨h1, h2⟩ => ⟨by rw [h1, HQ.out], by rw [← h2]; exact hS⟩
            cases q
            · have HR0 := Lib.hid (HNO.out (by rw [HON.out, ← HQ.out]))
              refine wp_region_seq (Below wb.heap.size wb) (by kernel_rfl) (by kernel_rfl) (Below.refl _ _).drew ?_
              repeat (first
                | (refine SeqS.skip (by rfl) ?_; (try simp only [Act.put, List.setIfInBounds_toArray, List.set_cons_zero, List.set_cons_succ]))
                | (refine SeqS.pure (v := ?_) (by rfl) (fun w' hSw => ?_) ?_; rotate_left; (obtain ⟨hc9, hf9⟩ := bcell hSw; go_simp; with_reducible rfl); (try simp only [Act.put, List.setIfInBounds_toArray, List.set_cons_zero, List.set_cons_succ]))
                | (refine SeqS.call (f := ?_) (args := ?_) (v := ?_) (by rfl) (fun w' => ?_) (fun w' hSw => ?_) ?_; rotate_left 3; (go_simp; constructor; (with_reducible rfl); (with_reducible rfl)); (first | exact HCN.out _ hSw | fail); (try simp only [Act.put, List.setIfInBounds_toArray, List.set_cons_zero, List.set_cons_succ]))
                | fail)
              intro w7 hb7
              go_wp2_with (at_builtin; fail)
              go_ret
              exact ⟨by rw [HRES.out, HR0.out]; rfl, (HB4.out.trans (HBA.out.mono hs4)).trans (hb7.mono (by omega))⟩
            · have HS1 : Hid (bndP (bs.take (k + 1)) rs = true) := Lib.hid (by rw [HSU.out, HBP.out, HON.out, ← HQ.out]; rfl)
              refine wp_region_seq (Below wb.heap.size wb) (by kernel_rfl) (by kernel_rfl) (Below.refl _ _).drew ?_
              repeat (first
                | (refine SeqS.skip (by rfl) ?_; (try simp only [Act.put, List.setIfInBounds_toArray, List.set_cons_zero, List.set_cons_succ]))
                | (refine SeqS.pure (v := ?_) (by rfl) (fun w' hSw => ?_) ?_; rotate_left; (obtain ⟨hc9, hf9⟩ := bcell hSw; go_simp; with_reducible rfl); (try simp only [Act.put, List.setIfInBounds_toArray, List.set_cons_zero, List.set_cons_succ]))
                | (refine SeqS.call (f := ?_) (args := ?_) (v := ?_) (by rfl) (fun w' => ?_) (fun w' hSw => ?_) ?_; rotate_left 3; (go_simp; constructor; (with_reducible rfl); (with_reducible rfl)); (first | exact HCN.out _ hSw | fail); (try simp only [Act.put, List.setIfInBounds_toArray, List.set_cons_zero, List.set_cons_succ]))
                | fail)
              intro w7 hb7
              go_wp2_with (at_builtin; fail)
              exact ⟨⟨k + 1, by omega, by go_num, HS1.out, HBA.out.trans (hb7.mono (by omega))⟩, by simp [intOf] <;> omega⟩
          · obtain ⟨u, hu⟩ : ∃ u : Nat, X.src = u := ⟨X.src.toNat, by omega⟩
            have hun : u < rs.length := by omega
            rw [hu] at z2 HRA HBA HRX HRAT HONE dv HVS
            rw [hlo] at z1 HRA HBA HRX HRAT HONE dv HVS
            have hon : bnd1 rs X = (rs.getD u []).all fun n => hasP V n := by rw [HONE.out, if_neg (by omega), Int.toNat_natCast]
            have HON := Lib.hid hon
            obtain ⟨Au, cu, du, hUS⟩ := HRAT.out u hun
            have HUS := Lib.hid hUS
            clear hu hlo hs0 hs1 HXO hon HONE
            generalize rs.getD u [] = U at *
            have hUl := hUS
            obtain ⟨-, -, -, hUc, hUm, -⟩ := hUl
            clear hUS
            go_upto_region 10 with (at_builtin; fail)
            generalize wr.alloc (.cells #[.int .i64 (v : Nat), .int .i64 (-1), .int .i64 (u : Nat)] 76) = wb at *
            have x0 : wb.cell? ⟨wr.heap.size, 0, none⟩ = some (.int .i64 (v : Nat)) := (cell_of_row _ _ _ _ _ _ HRA.out).trans rfl
            have x2 : wb.cell? ⟨wr.heap.size, 2, none⟩ = some (.int .i64 (u : Nat)) := (cell_of_row _ _ _ _ _ _ HRA.out).trans rfl
            have hbxl : wr.heap.size < wb.heap.size := row_lt HRA.out
            have hgrl : gr < wb.heap.size := by omega
            clear z0 z1 z2
            obtain ⟨bx, hbx⟩ : ∃ bx, bx = wr.heap.size := ⟨_, rfl⟩
            rw [← hbx] at x0 x2 hbxl ⊢
            clear hbx
            go_wp2_with (at_builtin; fail)
            go_loop [54] (fun i => ∃ j : Nat, j ≤ U.length ∧ i = .int .i64 j ∧ ((U.take j).all fun n => hasP V n) = true) (fun i => U.length - (intOf i).toNat)
            case atStart => exact ⟨0, Nat.zero_le _, rfl, rfl⟩
            case round =>
              obtain ⟨j, hj, rfl, hal⟩ := hrel
              have HAL := Lib.hid hal
              clear hal
              by_cases hjl : j < U.length
              · obtain ⟨An, cn, en, -, -, hrn⟩ := HUS.out
                injection en with en1 en9 en2
                subst en1 en2
                clear en9
                obtain ⟨bu, ou, rfl, hbu, hcu⟩ := hrn.int_at hjl
                have hcj := hcu j hjl
                have HTK : Hid (((U.take (j + 1)).all fun n => hasP V n) = (((U.take j).all fun n => hasP V n) && hasP V (U.getD j 0))) := Lib.hid (by
                  rw [List.take_succ_eq_append_getElem hjl, List.all_append, getD_lt hjl]; simp)
                have HNOT : Hid (hasP V (U.getD j 0) = false → (U.all fun n => hasP V n) = false) := Lib.hid fun h => by
                  rw [List.all_eq_false]
                  exact ⟨U[j], List.getElem_mem hjl, by rw [getD_lt hjl] at h; rw [h]; simp⟩
                generalize U.getD j 0 = y at *
                clear hcu hrn
                go_wp2_with fail
                refine (contains_any _ V y _ _ HVS.out).mono ?_
                rintro e w7 ⟨rfl, rfl⟩
                cases hq : hasP V y
                · have HR0 := Lib.hid (HNO.out (by rw [HON.out, HNOT.out hq]))
                  clear hq
                  go_wp2_with (at_builtin; fail)
                  go_ret
                  exact ⟨by rw [HRES.out, HR0.out]; rfl, HB4.out.trans (HBA.out.mono hs4)⟩
                · have HA1 : Hid (((U.take (j + 1)).all fun n => hasP V n) = true) := Lib.hid (by rw [HTK.out, HAL.out, hq]; rfl)
                  clear hq
                  go_wp2_with (at_builtin; fail)
                  exact ⟨⟨j + 1, by omega, by go_num, HA1.out⟩, by simp [intOf] <;> omega⟩
              · have hje : j = U.length := by omega
                have HS1 : Hid (bndP (bs.take (k + 1)) rs = true) := Lib.hid (by
                  have h := HAL.out
                  rw [hje, List.take_length] at h
                  rw [HSU.out, HBP.out, HON.out, h]; rfl)
                clear hje
                go_wp2_with (at_builtin; fail)
                exact ⟨⟨k + 1, by omega, by go_num, HS1.out, HBA.out⟩, by simp [intOf] <;> omega⟩
        · have hkl : k = bs.length := by omega
          have HR1 : Hid (bndP bs rs = true) := Lib.hid (by have h := HBP.out; rw [hkl, List.take_length] at h; exact h)
          clear hkl hbw
          go_wp2_with (at_builtin; fail)
          go_ret
          exact ⟨by rw [HRES.out, HR1.out]; rfl, HB4.out.trans (HBW.out.mono hs4)⟩
    · have hne : ((rs.length : Int) != (ts.length : Int)) = true := by simp; omega
      have HRES : Hid (bhRes ts l rs = false) := Lib.hid (by rw [HRB.out, show (rs.length == ts.length) = false by simpa using hlen]; rfl)
      clear hlen
      go_wp2_with (at_builtin; fail)
      go_ret
      exact ⟨by rw [HRES.out]; rfl, HB3.out⟩
set_option maxHeartbeats 4000000 in
set_option maxRecDepth 100000 in
theorem sBoundsHold_any (vt vb vr : Value) (ts : List Int) (l : List St) (rs : List (List Int)) (B : Nat) (w : World) (ht : IntS w B vt ts) (hl : StS w B vb l) (hr : IRw w B vr rs) (hB : B ≤ w.heap.size) (hsz : szL l ≤ 4194300) :
    Calls Try.prog 18 #[.agg #[vt, vb], vr] w (fun e w' => e = .returned (.bool (bhRes ts l rs)) ∧ Below w.heap.size w w') := by
  have HR := Lib.hid hr
  obtain ⟨Ar, cr, rfl, hcr⟩ := hr.slice
  have HBX := Lib.hid (Boxed.new ht hl hB 26)
  have ht0 := ht
  obtain ⟨At, ct, rfl, hct, -, -⟩ := ht0
  obtain ⟨Ab, cb, rfl, hcb⟩ := hl.slice
  have HC : Hid (∀ w', Below w.heap.size w w' → Calls Try.prog 61 #[.agg #[.slice At ts.length ct, .slice Ab l.length cb]] w' fun e w'' => e = .returned (.bool (validP ts l)) ∧ Below w'.heap.size w' w'') := Lib.hid fun w' h => sProgramValid_any _ _ ts l B w' (ht.low h hB) (hl.low h hB) (Nat.le_trans hB h.size) (by omega)
  have HCB : Hid (validP ts l = true → ∀ w', Below w.heap.size w w' → Calls Try.prog 62 #[.agg #[.slice At ts.length ct, .slice Ab l.length cb]] w' (BdRet w' (bds ts (ptsP l)))) := Lib.hid fun hv w' h => sBounds_any _ _ ts l B w' (ht.low h hB) (hl.low h hB) (Nat.le_trans hB h.size) hsz (Good.of_valid hv)
  clear hr ht hl
  go_enter Try.func18, Try.ntmps18
  go_wp2_with (at_builtin; fail)
  refine (HC.out _ HBX.out.bel).mono ?_
  rintro e w1 ⟨rfl, hb1⟩
  have HB1 := Lib.hid (HBX.out.bels hb1 hB)
  have c0 := HB1.out.c0
  have c1 := HB1.out.c1
  have HB3 := Lib.hid HB1.out.bel
  have hs3 := HB3.out.size
  clear hb1
  cases hok : validP ts l
  · have HRES : Hid (bhRes ts l rs = false) := Lib.hid (by unfold bhRes; rw [hok]; rfl)
    clear hok
    go_wp2_with (at_builtin; fail)
    go_ret
    exact ⟨by rw [HRES.out]; rfl, HB3.out⟩
  · have G := Good.of_valid hok
    have HCC := Lib.hid (HCB.out hok)
    have HOK := Lib.hid (bds_ok G)
    have hpl := G.len
    have h6 := G.h6
    have hbl : (bds ts (ptsP l)).length ≤ 2 * (ptsP l).length := bdsL_len ts 0 (ptsP l)
    have hrb : bhRes ts l rs = ((rs.length == ts.length) && bndP (bds ts (ptsP l)) rs) := by unfold bhRes; rw [hok, Bool.true_and]
    have HRB := Lib.hid hrb
    clear hok G hrb HCB HC
    by_cases hlen : rs.length = ts.length
    · have hne : ((rs.length : Int) != (ts.length : Int)) = false := by simp; omega
      have HRES : Hid (bhRes ts l rs = bndP (bds ts (ptsP l)) rs) := Lib.hid (by rw [HRB.out, hlen]; simp)
      have HLEN := Lib.hid hlen
      have hlen1 : ts.length ≤ rs.length := by omega
      clear hlen
      generalize bds ts (ptsP l) = bs at *
      generalize (ptsP l).length = m at *
      go_wp2_with (at_builtin; fail)
      refine (HCC.out _ HB1.out.bel).mono ?_
      rintro e w2 ⟨v2, rfl, hbx, hb4⟩
      have HBS := Lib.hid hbx
      obtain ⟨A2, c2, rfl, hc2⟩ := hbx.slice
      have HB4 := Lib.hid (HB3.out.trans (hb4.mono hs3))
      have HRW := Lib.hid (HR.out.low HB4.out hB)
      have hs4 := HB4.out.size
      clear hbx hb4 HR c0 c1
      go_wp2_with (at_builtin; fail)
      go_loopw [6] (fun i wr => ∃ k : Nat, k ≤ bs.length ∧ i = .int .i64 k ∧ bndP (bs.take k) rs = true ∧ Below w2.heap.size w2 wr) (fun i _ => bs.length - (intOf i).toNat)
      case atStart => exact ⟨0, Nat.zero_le _, rfl, rfl, Below.refl _ _⟩
      case round =>
        obtain ⟨k, hk, rfl, hbp, hbw⟩ := hrel
        have HBP := Lib.hid hbp
        have HBW := Lib.hid hbw
        have hsw := hbw.size
        clear hbp
        by_cases hlt : k < bs.length
        · obtain ⟨bb, ob, rfl, hP, hbb, z0, z1, z2⟩ := (HBS.out.bel hbw).get hlt
          have HXO := Lib.hid (HOK.out _ (List.getElem_mem hlt))
          have HSU := Lib.hid (bndP_succ (rs := rs) hlt)
          have HNO := Lib.hid (bndP_no (rs := rs) hlt)
          clear hP hbw
          have HONE : Hid (bnd1 rs bs[k] = if bs[k].src < 0 then hasP (rs.getD bs[k].v.toNat []) bs[k].loan else (rs.getD bs[k].src.toNat []).all fun n => hasP (rs.getD bs[k].v.toNat []) n) := Lib.hid rfl
          generalize bs[k] = X at *
          have HRA := Lib.hid (heap_alloc_new wr (.cells #[.int .i64 X.v, .int .i64 X.loan, .int .i64 X.src] 76))
          have HBA := Lib.hid (HBW.out.trans ((bel_a wr (.cells #[.int .i64 X.v, .int .i64 X.loan, .int .i64 X.src] 76)).mono hsw))
          obtain ⟨v, hv⟩ : ∃ v : Nat, X.v = v := ⟨X.v.toNat, by have := HXO.out.v0; omega⟩
          have hvn : v < ts.length := by have := HXO.out.v1; omega
          have hvr : v < rs.length := by omega
          rw [hv] at z0 HRA HBA HONE
          rw [Int.toNat_natCast] at HONE
          have HRX := Lib.hid (HRW.out.low (HBA.out.mono hs4) hB)
          obtain ⟨gr, og, rfl, hgrB, -, hrat⟩ := HRX.out.at_ (by omega)
          obtain ⟨Av, cv, dv, hVS⟩ := hrat v hvr
          have HRAT := Lib.hid hrat
          have HVS := Lib.hid hVS
          generalize rs.getD v [] = V at *
          have hVl := hVS
          obtain ⟨-, -, -, hVc, hVm, -⟩ := hVl
          clear hVS hrat hv
          have hgrw : gr < w.heap.size := by omega
          rcases HXO.out.alt with ⟨hsr', hl0, hl1⟩ | ⟨hlo, hs0, hs1⟩
          · obtain ⟨e, he⟩ : ∃ e : Nat, X.loan = e := ⟨X.loan.toNat, by omega⟩
            rw [he] at z1 HRA HBA HRX HRAT HONE dv HVS
            rw [hsr'] at z2 HRA HBA HRX HRAT HONE dv HVS
            have hon : bnd1 rs X = hasP V (e : Nat) := by rw [HONE.out, if_pos (by omega)]
            have HON := Lib.hid hon
            clear hsr' hl0 hl1 he HXO hon HONE
            go_upto_region 8 with (at_builtin; fail)
            generalize wr.alloc (.cells #[.int .i64 (v : Nat), .int .i64 (e : Nat), .int .i64 (-1)] 76) = wb at *
            have x0 : wb.cell? ⟨wr.heap.size, 0, none⟩ = some (.int .i64 (v : Nat)) := (cell_of_row _ _ _ _ _ _ HRA.out).trans rfl
            have x1 : wb.cell? ⟨wr.heap.size, 1, none⟩ = some (.int .i64 (e : Nat)) := (cell_of_row _ _ _ _ _ _ HRA.out).trans rfl
            have x2 : wb.cell? ⟨wr.heap.size, 2, none⟩ = some (.int .i64 (-1)) := (cell_of_row _ _ _ _ _ _ HRA.out).trans rfl
            have hbxl : wr.heap.size < wb.heap.size := row_lt HRA.out
            have hgrl : gr < wb.heap.size := by omega
            have hge : decide ((e : Int) ≥ 0) = true := by simp
            clear z0 z1 z2
            obtain ⟨q, hq⟩ : ∃ q, q = hasP V (e : Nat) := ⟨_, rfl⟩
            have HQ := Lib.hid hq
            clear hq
            have HCN : Hid (∀ wq, Below wb.heap.size wb wq → Calls Try.prog 63 #[.slice Av V.length cv, .int .i64 (e : Nat)] wq fun e' w'' => e' = .returned (.bool q) ∧ Below wb.heap.size wb w'') := Lib.hid fun wq hS => (l2Has_any _ V _ _ wq (HVS.out.low hS (by omega))).mono fun e' w'' ⟨h1, h2⟩ => ⟨by rw [h1, HQ.out], by rw [← h2]; exact hS⟩
            cases q
            · have HR0 := Lib.hid (HNO.out (by rw [HON.out, ← HQ.out]))
              refine wp_region_seq (Below wb.heap.size wb) (by kernel_rfl) (by kernel_rfl) (Below.refl _ _).drew ?_
              repeat (first
                | (refine SeqS.skip (by rfl) ?_; (try simp only [Act.put, List.setIfInBounds_toArray, List.set_cons_zero, List.set_cons_succ]))
                | (refine SeqS.pure (v := ?_) (by rfl) (fun w' hSw => ?_) ?_; rotate_left; (obtain ⟨hc9, hf9⟩ := bcell hSw; go_simp; with_reducible rfl); (try simp only [Act.put, List.setIfInBounds_toArray, List.set_cons_zero, List.set_cons_succ]))
                | (refine SeqS.call (f := ?_) (args := ?_) (v := ?_) (by rfl) (fun w' => ?_) (fun w' hSw => ?_) ?_; rotate_left 3; (go_simp; constructor; (with_reducible rfl); (with_reducible rfl)); (first | exact HCN.out _ hSw | fail); (try simp only [Act.put, List.setIfInBounds_toArray, List.set_cons_zero, List.set_cons_succ]))
                | fail)
              intro w7 hb7
              go_wp2_with (at_builtin; fail)
              go_ret
              exact ⟨by rw [HRES.out, HR0.out]; rfl, (HB4.out.trans (HBA.out.mono hs4)).trans (hb7.mono (by omega))⟩
            · have HS1 : Hid (bndP (bs.take (k + 1)) rs = true) := Lib.hid (by rw [HSU.out, HBP.out, HON.out, ← HQ.out]; rfl)
              refine wp_region_seq (Below wb.heap.size wb) (by kernel_rfl) (by kernel_rfl) (Below.refl _ _).drew ?_
              repeat (first
                | (refine SeqS.skip (by rfl) ?_; (try simp only [Act.put, List.setIfInBounds_toArray, List.set_cons_zero, List.set_cons_succ]))
                | (refine SeqS.pure (v := ?_) (by rfl) (fun w' hSw => ?_) ?_; rotate_left; (obtain ⟨hc9, hf9⟩ := bcell hSw; go_simp; with_reducible rfl); (try simp only [Act.put, List.setIfInBounds_toArray, List.set_cons_zero, List.set_cons_succ]))
                | (refine SeqS.call (f := ?_) (args := ?_) (v := ?_) (by rfl) (fun w' => ?_) (fun w' hSw => ?_) ?_; rotate_left 3; (go_simp; constructor; (with_reducible rfl); (with_reducible rfl)); (first | exact HCN.out _ hSw | fail); (try simp only [Act.put, List.setIfInBounds_toArray, List.set_cons_zero, List.set_cons_succ]))
                | fail)
              intro w7 hb7
              have x2' := (hb7.cell (p := ⟨wr.heap.size, 2, none⟩) hbxl).trans x2
              have HB7 := Lib.hid (HBA.out.trans (hb7.mono (by omega)))
              clear hb7 x0 x1 x2
              go_wp2_with (at_builtin; fail)
              refine wp_loop_rounds 1 ?_; rw [rounds_succ]
              go_wp2_with (at_builtin; fail)
              exact ⟨⟨k + 1, by omega, by go_num, HS1.out, HB7.out⟩, by simp [intOf] <;> omega⟩
          · obtain ⟨u, hu⟩ : ∃ u : Nat, X.src = u := ⟨X.src.toNat, by omega⟩
            have hun : u < rs.length := by omega
            rw [hu] at z2 HRA HBA HRX HRAT HONE dv HVS
            rw [hlo] at z1 HRA HBA HRX HRAT HONE dv HVS
            have hon : bnd1 rs X = (rs.getD u []).all fun n => hasP V n := by rw [HONE.out, if_neg (by omega), Int.toNat_natCast]
            have HON := Lib.hid hon
            obtain ⟨Au, cu, du, hUS⟩ := HRAT.out u hun
            have HUS := Lib.hid hUS
            clear hu hlo hs0 hs1 HXO hon HONE
            generalize rs.getD u [] = U at *
            have hUl := hUS
            obtain ⟨-, -, -, hUc, hUm, -⟩ := hUl
            clear hUS
            have hge : decide ((u : Int) ≥ 0) = true := by simp
            have hlneg : decide ((-1 : Int) ≥ 0) = false := by decide
            go_upto_region 8 with (at_builtin; fail)
            generalize wr.alloc (.cells #[.int .i64 (v : Nat), .int .i64 (-1), .int .i64 (u : Nat)] 76) = wb at *
            have x0 : wb.cell? ⟨wr.heap.size, 0, none⟩ = some (.int .i64 (v : Nat)) := (cell_of_row _ _ _ _ _ _ HRA.out).trans rfl
            have x1 : wb.cell? ⟨wr.heap.size, 1, none⟩ = some (.int .i64 (-1)) := (cell_of_row _ _ _ _ _ _ HRA.out).trans rfl
            have x2 : wb.cell? ⟨wr.heap.size, 2, none⟩ = some (.int .i64 (u : Nat)) := (cell_of_row _ _ _ _ _ _ HRA.out).trans rfl
            have hbxl : wr.heap.size < wb.heap.size := row_lt HRA.out
            have hgrl : gr < wb.heap.size := by omega
            have hsb := HBA.out.size
            clear z0 z1 z2
            obtain ⟨bx, hbx⟩ : ∃ bx, bx = wr.heap.size := ⟨_, rfl⟩
            rw [← hbx] at x0 x1 x2 hbxl ⊢
            clear hbx
            refine wp_region_seq (Below wb.heap.size wb) (by kernel_rfl) (by kernel_rfl) (Below.refl _ _).drew ?_
            repeat (first
              | (refine SeqS.skip (by rfl) ?_; (try simp only [Act.put, List.setIfInBounds_toArray, List.set_cons_zero, List.set_cons_succ]))
              | (refine SeqS.pure (v := ?_) (by rfl) (fun w' hSw => ?_) ?_; rotate_left; (obtain ⟨hc9, hf9⟩ := bcell hSw; go_simp; with_reducible rfl); (try simp only [Act.put, List.setIfInBounds_toArray, List.set_cons_zero, List.set_cons_succ]))
              | fail)
            intro w7 hb7
            have x0' := (hb7.cell (p := ⟨bx, 0, none⟩) hbxl).trans x0
            have x2' := (hb7.cell (p := ⟨bx, 2, none⟩) hbxl).trans x2
            have dv' := (hb7.cell (p := ⟨gr, og + v, none⟩) hgrl).trans dv
            have du' := (hb7.cell (p := ⟨gr, og + u, none⟩) hgrl).trans du
            have hs7 := hb7.size
            have HB7 := Lib.hid (HBA.out.trans (hb7.mono (by omega)))
            have HV7 := Lib.hid (HVS.out.low hb7 (by omega))
            have HU7 := Lib.hid (HUS.out.low hb7 (by omega))
            clear hb7 x0 x1 x2 dv du
            go_wp2_with (at_builtin; fail)
            go_loopw [8] (fun i wr => ∃ j : Nat, j ≤ U.length ∧ i = .int .i64 j ∧ ((U.take j).all fun n => hasP V n) = true ∧ Below w7.heap.size w7 wr) (fun i _ => U.length - (intOf i).toNat)
            case atStart => exact ⟨0, Nat.zero_le _, rfl, rfl, Below.refl _ _⟩
            case round =>
              obtain ⟨j, hj, rfl, hal, hbj⟩ := hrel
              have HAL := Lib.hid hal
              have HBJ := Lib.hid hbj
              have hsj := hbj.size
              have y0 := (hbj.cell (p := ⟨bx, 0, none⟩) (by show bx < _; omega)).trans x0'
              have y2 := (hbj.cell (p := ⟨bx, 2, none⟩) (by show bx < _; omega)).trans x2'
              have yv := (hbj.cell (p := ⟨gr, og + v, none⟩) (by show gr < _; omega)).trans dv'
              have yu := (hbj.cell (p := ⟨gr, og + u, none⟩) (by show gr < _; omega)).trans du'
              have HUJ := Lib.hid (HU7.out.low hbj (by omega))
              clear hal hbj
              by_cases hjl : j < U.length
              · obtain ⟨An, cn, en, -, -, hrn⟩ := HUJ.out
                injection en with en1 en9 en2
                subst en1 en2
                clear en9
                obtain ⟨bu, ou, rfl, hbu, hcu⟩ := hrn.int_at hjl
                have hcj := hcu j hjl
                have hbuw : bu < wr.heap.size := by omega
                have hgrj : gr < wr.heap.size := by omega
                have hbxj : bx < wr.heap.size := by omega
                have HTK : Hid (((U.take (j + 1)).all fun n => hasP V n) = (((U.take j).all fun n => hasP V n) && hasP V (U.getD j 0))) := Lib.hid (by
                  rw [List.take_succ_eq_append_getElem hjl, List.all_append, getD_lt hjl]; simp)
                have HNOT : Hid (hasP V (U.getD j 0) = false → (U.all fun n => hasP V n) = false) := Lib.hid fun h => by
                  rw [List.all_eq_false]
                  exact ⟨U[j], List.getElem_mem hjl, by rw [getD_lt hjl] at h; rw [h]; simp⟩
                generalize U.getD j 0 = y at *
                clear hcu hrn
                go_upto_region 13 with (at_builtin; fail)
                obtain ⟨q, hq⟩ : ∃ q, q = hasP V y := ⟨_, rfl⟩
                have HQ := Lib.hid hq
                clear hq
                have HCN : Hid (∀ wq, Below wr.heap.size wr wq → Calls Try.prog 63 #[.slice Av V.length cv, .int .i64 y] wq fun e' w'' => e' = .returned (.bool q) ∧ Below wr.heap.size wr w'') := Lib.hid fun wq hS => (l2Has_any _ V _ _ wq ((HV7.out.low HBJ.out (by omega)).low hS (by omega))).mono fun e' w'' ⟨h1, h2⟩ => ⟨by rw [h1, HQ.out], by rw [← h2]; exact hS⟩
                cases q
                · have HR0 := Lib.hid (HNO.out (by rw [HON.out, HNOT.out HQ.out.symm]))
                  refine wp_region_seq (Below wr.heap.size wr) (by kernel_rfl) (by kernel_rfl) (Below.refl _ _).drew ?_
                  repeat (first
                    | (refine SeqS.skip (by rfl) ?_; (try simp only [Act.put, List.setIfInBounds_toArray, List.set_cons_zero, List.set_cons_succ]))
                    | (refine SeqS.pure (v := ?_) (by rfl) (fun w' hSw => ?_) ?_; rotate_left; (obtain ⟨hc9, hf9⟩ := bcell hSw; go_simp; with_reducible rfl); (try simp only [Act.put, List.setIfInBounds_toArray, List.set_cons_zero, List.set_cons_succ]))
                    | (refine SeqS.call (f := ?_) (args := ?_) (v := ?_) (by rfl) (fun w' => ?_) (fun w' hSw => ?_) ?_; rotate_left 3; (go_simp; constructor; (with_reducible rfl); (with_reducible rfl)); (first | exact HCN.out _ hSw | fail); (try simp only [Act.put, List.setIfInBounds_toArray, List.set_cons_zero, List.set_cons_succ]))
                    | fail)
                  intro w9 hb9
                  go_wp2_with (at_builtin; fail)
                  go_ret
                  exact ⟨by rw [HRES.out, HR0.out]; rfl, (HB4.out.trans (HB7.out.mono hs4)).trans ((HBJ.out.trans (hb9.mono hsj)).mono (by omega))⟩
                · have HA1 : Hid (((U.take (j + 1)).all fun n => hasP V n) = true) := Lib.hid (by rw [HTK.out, HAL.out, ← HQ.out]; rfl)
                  refine wp_region_seq (Below wr.heap.size wr) (by kernel_rfl) (by kernel_rfl) (Below.refl _ _).drew ?_
                  repeat (first
                    | (refine SeqS.skip (by rfl) ?_; (try simp only [Act.put, List.setIfInBounds_toArray, List.set_cons_zero, List.set_cons_succ]))
                    | (refine SeqS.pure (v := ?_) (by rfl) (fun w' hSw => ?_) ?_; rotate_left; (obtain ⟨hc9, hf9⟩ := bcell hSw; go_simp; with_reducible rfl); (try simp only [Act.put, List.setIfInBounds_toArray, List.set_cons_zero, List.set_cons_succ]))
                    | (refine SeqS.call (f := ?_) (args := ?_) (v := ?_) (by rfl) (fun w' => ?_) (fun w' hSw => ?_) ?_; rotate_left 3; (go_simp; constructor; (with_reducible rfl); (with_reducible rfl)); (first | exact HCN.out _ hSw | fail); (try simp only [Act.put, List.setIfInBounds_toArray, List.set_cons_zero, List.set_cons_succ]))
                    | fail)
                  intro w9 hb9
                  go_wp2_with (at_builtin; fail)
                  exact ⟨⟨j + 1, by omega, by go_num, HA1.out, HBJ.out.trans (hb9.mono hsj)⟩, by simp [intOf] <;> omega⟩
              · have hje : j = U.length := by omega
                have HS1 : Hid (bndP (bs.take (k + 1)) rs = true) := Lib.hid (by
                  have h := HAL.out
                  rw [hje, List.take_length] at h
                  rw [HSU.out, HBP.out, HON.out, h]; rfl)
                clear hje
                go_wp2_with (at_builtin; fail)
                exact ⟨⟨k + 1, by omega, by go_num, HS1.out, HB7.out.trans (HBJ.out.mono (by omega))⟩, by simp [intOf] <;> omega⟩
        · have hkl : k = bs.length := by omega
          have HR1 : Hid (bndP bs rs = true) := Lib.hid (by have h := HBP.out; rw [hkl, List.take_length] at h; exact h)
          clear hkl hbw
          go_wp2_with (at_builtin; fail)
          go_ret
          exact ⟨by rw [HRES.out, HR1.out]; rfl, HB4.out.trans (HBW.out.mono hs4)⟩
    · have hne : ((rs.length : Int) != (ts.length : Int)) = true := by simp; omega
      have HRES : Hid (bhRes ts l rs = false) := Lib.hid (by rw [HRB.out, show (rs.length == ts.length) = false by simpa using hlen]; rfl)
      clear hlen
      go_wp2_with (at_builtin; fail)
      go_ret
      exact ⟨by rw [HRES.out]; rfl, HB3.out⟩

end Go.Proofs.Ytmaaaiccmllnlaa

/- rows of rows of ints that a call owns. -/
namespace Go.Proofs.Ytmaaaiccmllnlaa
open Go.RowKit

/-- the slice v reads as the rows of ints, its blocks meet P -/
def IRx (w : World) (P : Nat → Prop) (v : Value) (rs : List (List Int)) : Prop :=
  ∃ A c, ∃ rv : Nat → Value, v = .slice A rs.length c ∧ rs.length ≤ c ∧ rs.length ≤ 100000 ∧ (0 < rs.length → ∃ b off, A = some ⟨b, off, none⟩ ∧ P b ∧ b < w.heap.size ∧ ∀ i, i < rs.length → w.cell? ⟨b, off + i, none⟩ = some (rv i)) ∧
    ∀ i, i < rs.length → IntX w P (rv i) (rs.getD i [])
theorem IRx.frame {w w' : World} {P P' : Nat → Prop} {v : Value} {l : List (List Int)} (h : IRx w P v l) (hs : w.heap.size ≤ w'.heap.size) (hk : ∀ b, P b → b < w.heap.size → P' b ∧ w'.heap[b]? = w.heap[b]?) : IRx w' P' v l := by
  obtain ⟨A, c, rv, e, h1, h2, h3, h4⟩ := h
  refine ⟨A, c, rv, e, h1, h2, fun hn => ?_, fun i hi => (h4 i hi).frame hs hk⟩
  obtain ⟨b, off, e, hp, hb, hc⟩ := h3 hn
  have k := hk b hp hb
  exact ⟨b, off, e, k.1, by omega, fun i hi => (World.cell?_of_block (w := w) (a := ⟨b, off + i, none⟩) k.2).trans (hc i hi)⟩
theorem IRx.toS {w : World} {P : Nat → Prop} {v : Value} {l : List (List Int)} (h : IRx w P v l) : IRw w w.heap.size v l := by
  obtain ⟨A, c, rv, e, h1, h2, h3, h4⟩ := h
  refine ⟨A, c, rv, e, h1, h2, fun hn => ?_, fun i hi => (h4 i hi).toS⟩
  obtain ⟨b, off, e, hp, hb, hc⟩ := h3 hn
  exact ⟨b, off, e, hb, hc⟩
theorem IRx.slice {w : World} {P : Nat → Prop} {v : Value} {l : List (List Int)} (h : IRx w P v l) : ∃ A c, v = .slice A l.length c ∧ l.length ≤ c := by
  obtain ⟨A, c, rv, e, h1, _⟩ := h
  exact ⟨A, c, e, h1⟩
theorem IRx.tail {w : World} {P : Nat → Prop} {b off n c : Nat} {r : List Int} {l : List (List Int)} (h : IRx w P (.slice (some ⟨b, off, none⟩) n c) (r :: l)) (off' c' : Nat) (ho : (off' = off + 1) ∨ l.length = 0) (hc' : l.length ≤ c') : IRx w P (.slice (some ⟨b, off', none⟩) l.length c') l := by
  obtain ⟨A, c, rv, e, h1, h2, h3, h4⟩ := h
  injection e with e1 e2 e3
  subst e1
  refine ⟨_, c', fun i => rv (i + 1), rfl, hc', by simp at h2; omega, fun hn => ?_, fun i hi => ?_⟩
  · obtain ⟨b', off2, e, hp, hb, hc⟩ := h3 (by simp)
    have e4 := Option.some.inj e
    injection e4 with e5 e6 e7
    have ho' : off' = off + 1 := by
      rcases ho with h | h
      · exact h
      · exact absurd h (Nat.pos_iff_ne_zero.1 hn)
    subst e5 e6
    refine ⟨_, _, rfl, hp, hb, fun i hi => ?_⟩
    have := hc (i + 1) (by simpa using hi)
    rw [ho', Nat.add_assoc, Nat.add_comm 1]
    exact this
  · have := h4 (i + 1) (by simpa using hi)
    simpa [List.getD] using this

structure RwO (w : World) (base : Nat) (v : Value) (vs : List Value) (rs : List (List Int)) : Prop where
  own : w.ownsRow base 23 1 v rs.length vs
  len : vs.length = rs.length
  row : ∀ i, i < rs.length → OInts w base (vs.getD i (.slice none 0 0)) (rs.getD i [])
  inj : ∀ i j, i < rs.length → j < rs.length → i ≠ j → ∀ g, (vs.getD i (.slice none 0 0)).ownBlock = some g → (vs.getD j (.slice none 0 0)).ownBlock ≠ some g
theorem own_type {w : World} {b1 b2 s1 s2 n1 n2 : Nat} {t1 t2 : TypeId} {v1 v2 : Value} {x1 x2 : List Value} (h1 : w.ownsRow b1 t1 s1 v1 n1 x1) (h2 : w.ownsRow b2 t2 s2 v2 n2 x2) (ht : t1 ≠ t2) : v1.ownBlock = none ∨ v1.ownBlock ≠ v2.ownBlock := by
  rcases h1.2 with ⟨rfl, _⟩ | ⟨g1, cap1, cur1, rfl, _, hh1, _⟩
  · exact .inl rfl
  · rcases h2.2 with ⟨rfl, _⟩ | ⟨g2, cap2, cur2, rfl, _, hh2, _⟩
    · exact .inr (by simp [Value.ownBlock])
    · refine .inr fun e => ?_
      have e' : g1 = g2 := Option.some.inj e
      subst e'
      rw [hh1] at hh2
      injection hh2 with hh2
      injection hh2 with _ hT
      exact ht hT
theorem RwO.empty (w : World) (base : Nat) (hb : base ≤ w.heap.size) : RwO (w.alloc (.cells #[] 23)) base (.slice (some ⟨w.heap.size, 0, none⟩) 0 0) [] [] :=
  ⟨World.ownsRow_lit (base := base) (e := 23) (size := 1) w #[] 0 hb (by simp [maxLen]) rfl, rfl, fun i h => by simp at h, fun i j h => by simp at h⟩
theorem RwO.slice {w : World} {base : Nat} {v : Value} {vs : List Value} {rs : List (List Int)} (h : RwO w base v vs rs) : ∃ A c, v = .slice A rs.length c ∧ rs.length ≤ c := by
  rcases h.own.2 with ⟨rfl, h0⟩ | ⟨g, cap, cur, rfl, _, _, hc, _⟩
  · exact ⟨none, 0, by rw [h0], by omega⟩
  · exact ⟨_, cap, rfl, hc⟩
theorem RwO.grown {w w' : World} {base g : Nat} {v : Value} {vs : List Value} {rs : List (List Int)} (h : RwO w base v vs rs) (hg : w.grownBy w' (some g)) (hlt : g < base) : RwO w' base v vs rs :=
  ⟨h.own.kept hg (.inr fun e => by have := (h.own.lt g e).1; omega), h.len, fun i hi => World.ownsRow.kept (h.row i hi) hg (.inr fun e => by have := (World.ownsRow.lt (h.row i hi) g e).1; omega), h.inj⟩
theorem RwO.bel {w w' : World} {base : Nat} {v : Value} {vs : List Value} {rs : List (List Int)} (h : RwO w base v vs rs) (hb : Below w.heap.size w w') : RwO w' base v vs rs :=
  ⟨h.own.kept (grown_bel hb (Nat.le_refl _) none) (by cases v.ownBlock <;> simp), h.len, fun i hi => (h.row i hi).bel hb, h.inj⟩
theorem Try.infoIs : (Try.prog.info? 23).map (fun i => (i.zero, i.size, i.bytes)) = some (some (.slice none 0 0), 1, 24) := by kernel_rfl
theorem getD_snoc {α : Type} (l : List α) (x d : α) (i : Nat) : (l ++ [x]).getD i d = if i < l.length then l.getD i d else if i = l.length then x else d := by
  by_cases h : i < l.length
  · rw [if_pos h, getD_lt (by simp; omega), getD_lt h, List.getElem_append_left h]
  · rw [if_neg h]
    by_cases h2 : i = l.length
    · subst h2; rw [if_pos rfl, getD_lt (by simp), List.getElem_append_right (Nat.le_refl _)]; simp
    · rw [if_neg h2, getD_ge (by simp; omega)]
/-- append(out, u) -/
theorem wpList_push_rwo {ops : Array Oper} {rest : List Oper} {o : Oper} {a : Act} {Q : Exit → Act → World → Prop} {w : World} {base lo : Nat} {vo u : Value} {vs : List Value} {rs : List (List Int)} {l : List Int} (hgd : o.guard = none) (s x : Operand)
    (ho : o.op = .call { callee := .builtin .append, args := #[s, x], argTypes := #[27, 27] })
    (hP : RwO w base vo vs rs) (hlo : ∀ i, i < rs.length → ∀ g, (vs.getD i (.slice none 0 0)).ownBlock = some g → g < lo) (hu : OInts w lo u l) (hbl : base ≤ lo) (hb : base ≤ w.heap.size) (hn : rs.length + 1 ≤ 100000)
    (hs : a.eval s = vo) (hx : a.eval x = .slice (some ⟨w.heap.size, 0, none⟩) 1 1)
    (h : ∀ (v' : Value) (w' : World), RwO w' base v' (vs ++ [u]) (rs ++ [l]) → Below base w w' → wpList Try.prog ops Q rest (a.put o.dst v') w') :
    wpList Try.prog ops Q (o :: rest) a (w.alloc (.cells #[u] 23)) := by
  obtain ⟨i0, hi0, hz0, hz1, hz2⟩ := info_parts Try.infoIs
  have hA := bel_a w (.cells #[u] 23)
  have hr := heap_alloc_new w (.cells #[u] 23)
  have hP2 := hP.bel hA
  have hu2 := hu.bel hA
  have hu1 : u.oneCell' = true := by
    obtain ⟨A, c, rfl, _⟩ := hu.slice
    rfl
  have hsW : (w.alloc (.cells #[u] 23)).heap.size = w.heap.size + 1 := by simp
  generalize w.alloc (.cells #[u] 23) = W at *
  refine wpList_append_own_at _ hgd s x 27 ho base 23 i0 _ 1 24 Try.underlying27 hi0 hz0 hz1 hz2 rfl (by omega) vo rs.length vs hs hP2.own ⟨w.heap.size, 0, none⟩ 1 1 [u] hx rfl ?_ ?_ (by simp only [maxLen]; omega) (by omega) (by omega) ?_
  · intro j u' hu'
    have hj : j = 0 := by
      rcases Nat.eq_zero_or_pos j with h | h
      · exact h
      · rw [List.getElem?_eq_none (by simp; omega)] at hu'; cases hu'
    subst hj
    have : W.cell? ⟨w.heap.size, 0, none⟩ = some u' := by
      rw [cell_of_row _ _ _ _ _ _ hr]
      simpa using hu'
    simpa [Addr.add] using this
  · intro u' hu'
    simp at hu'
    subst hu'; exact hu1
  · intro v' w' k1 k2 k3 k4
    have hkeep : ∀ {b v l}, OInts W b v l → OInts w' b v l := fun {b v l} h => World.ownsRow.kept h k2 (own_type h hP2.own (by decide))
    refine h v' w' ⟨by rw [List.length_append]; exact k1, by simp [hP.len], fun i hi => ?_, fun i j hi hj hij g => ?_⟩ ?_
    · rw [getD_snoc, getD_snoc, hP.len]
      simp only [List.length_append, List.length_cons, List.length_nil] at hi
      by_cases hil : i < rs.length
      · rw [if_pos hil, if_pos hil]; exact hkeep (hP2.row i hil)
      · rw [if_neg hil, if_neg hil, if_pos (by omega), if_pos (by omega)]; exact (hkeep hu2).base hbl
    · simp only [List.length_append, List.length_cons, List.length_nil] at hi hj
      rw [getD_snoc, getD_snoc, hP.len]
      by_cases hil : i < rs.length
      · rw [if_pos hil]
        by_cases hjl : j < rs.length
        · rw [if_pos hjl]; exact hP.inj i j hil hjl hij g
        · rw [if_neg hjl, if_pos (by omega)]
          intro h1 h2
          have := hlo i hil g h1
          have := (hu.own_lt h2).1
          omega
      · rw [if_neg hil, if_pos (by omega)]
        by_cases hjl : j < rs.length
        · rw [if_pos hjl]
          intro h1 h2
          have := hlo j hjl g h2
          have := (hu.own_lt h1).1
          omega
        · omega
    · refine (hA.mono hb).trans ⟨k2.os, k2.tape, k2.output, k2.size, fun k hk => k2.block k (by omega) fun e => ?_⟩
      have := (hP2.own.lt k e.symm).1
      omega
/-- row k grows and is stored: what can be read then -/
theorem RwO.store {w w' : World} {base g c k : Nat} {u : Value} {vs : List Value} {rs : List (List Int)} {l : List Int} (h : RwO w base (.slice (some ⟨g, 0, none⟩) rs.length c) vs rs) (hk : k < rs.length) (hg : w.grownBy w' (vs.getD k (.slice none 0 0)).ownBlock) (hu : OInts w' base u l) (hl : l.length ≤ 4194304) (hrl : ∀ i, i < rs.length → (rs.getD i []).length ≤ 4194304) (hn : rs.length ≤ 100000) :
    IRx (w'.setCell ⟨g, k, none⟩ u) (fun b => base ≤ b) (.slice (some ⟨g, 0, none⟩) rs.length c) (rs.set k l) := by
  have own' := h.own.kept hg (own_type h.own (h.row k hk) (by decide))
  rcases own'.2 with ⟨e, _⟩ | ⟨g', cap, cur, e, hb, hh, hc1, _, hc2, hc3⟩
  · cases e
  · injection e with e1 e2 e3
    have e1 := Option.some.inj e1
    injection e1 with e1
    subst e1 e3
    have hgl : g < w'.heap.size := row_lt hh
    have hvl : vs.length = rs.length := h.len
    have hcell : ∀ i, i < rs.length → cur[i]? = vs[i]? := fun i hi => by
      have : (cur.toList.take (rs.length * 1))[i]? = cur[i]? := by
        rw [List.getElem?_take, if_pos (by omega)]; simp
      rw [← this, hc3]
    have hset := heap_setCell_same w' g k _ _ u hh
    have hkeep : ∀ {v l}, OInts w' base v l → OInts (w'.setCell ⟨g, k, none⟩ u) base v l := fun {v l} h => h.otherT hh (by decide) k u
    refine ⟨_, c, fun i => (vs.set k u).getD i (.slice none 0 0), by rw [List.length_set], by rw [List.length_set]; exact hc1, by rw [List.length_set]; exact hn, fun _ => ⟨g, 0, rfl, hb, by rw [size_set]; exact hgl, fun i hi => ?_⟩, fun i hi => ?_⟩
    · rw [List.length_set] at hi
      rw [Nat.zero_add, cell_of_row _ _ _ _ _ _ hset]
      show _ = some ((vs.set k u).getD i (.slice none 0 0))
      rw [getD_setL (by rw [hvl]; exact hk)]
      simp only [Array.getElem?_setIfInBounds]
      by_cases e : i = k
      · subst e; rw [if_pos rfl, if_pos rfl, if_pos (by have := hc2; omega)]
      · rw [if_neg (fun h => e h.symm), if_neg e, hcell i hi, getD_lt (by rw [hvl]; exact hi)]
        exact List.getElem?_eq_getElem _
    · rw [List.length_set] at hi
      show IntX _ _ ((vs.set k u).getD i (.slice none 0 0)) _
      rw [getD_setL (by rw [hvl]; exact hk), getD_setL hk]
      by_cases e : i = k
      · rw [if_pos e, if_pos e]
        exact (hkeep hu).toX hl
      · rw [if_neg e, if_neg e]
        exact (hkeep (World.ownsRow.kept (h.row i hi) hg (by
          rcases ho : (vs.getD i (.slice none 0 0)).ownBlock with _ | gi
          · exact .inl rfl
          · exact .inr fun e2 => h.inj i k hi hk e gi ho e2.symm))).toX (hrl i hi)
theorem RwO.toX {w : World} {base : Nat} {v : Value} {vs : List Value} {rs : List (List Int)} (h : RwO w base v vs rs) (hrl : ∀ i, i < rs.length → (rs.getD i []).length ≤ 4194304) (hn : rs.length ≤ 100000) : IRx w (fun b => base ≤ b) v rs := by
  rcases h.own.2 with ⟨rfl, h0⟩ | ⟨g, cap, cur, rfl, hb, hh, hc1, _, hc2, hc3⟩
  · exact ⟨none, 0, fun _ => .slice none 0 0, by rw [h0], by omega, hn, fun h => by omega, fun i hi => by omega⟩
  · refine ⟨_, cap, fun i => vs.getD i (.slice none 0 0), rfl, hc1, hn, fun _ => ⟨g, 0, rfl, hb, row_lt hh, fun i hi => ?_⟩, fun i hi => (h.row i hi).toX (hrl i hi)⟩
    rw [Nat.zero_add, cell_of_row _ _ _ _ _ _ hh]
    have : (cur.toList.take (rs.length * 1))[i]? = cur[i]? := by
      rw [List.getElem?_take, if_pos (by omega)]; simp
    rw [← this, hc3]
    show _ = some (vs.getD i (.slice none 0 0))
    rw [getD_lt (by rw [h.len]; exact hi)]
    exact List.getElem?_eq_getElem _

end Go.Proofs.Ytmaaaiccmllnlaa
