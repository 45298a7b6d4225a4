import Derived.Test.YtfioaohadanjmaaC35
import Derived.Test.YtfioaohadanjmaaC37
set_option linter.unusedVariables false

/- Issues by regions: spec.CheckRegions. -/
namespace Go.Proofs.Ytfioaohadanjmaa
open Go.RowKit

theorem lvA_kpr {ts : List Int} {pts : List Pt} {LV : Nat → Nat → Prop} {k : Nat} {p : Pt} {F : List (List Bool)} {LR : List Bool} {e : Nat} (hp : pts[k]? = some p) (hF : ∀ v e, (F.getD v []).getD e false = true ↔ Rg (bds ts pts) v e) (hL : ∀ v, v < ts.length → (LR.getD v false = true ↔ LV k v)) : lvA ts p.op p.x p.y F LR ts.length e = dec (KpR ts pts LV k e) := by
  rw [Bool.eq_iff_iff, dec_iff]
  unfold lvA
  simp only [List.any_eq_true, List.mem_range, lvB, Bool.and_eq_true, decide_eq_true_eq]
  constructor
  · rintro ⟨v, hv, h1, h2, h3, h4⟩
    exact ⟨p, v, hp, hv, (hL v hv).1 h1, fun h => h2 h.symm, h3, (hF v e).1 h4⟩
  · rintro ⟨p', v, hp', hv, hn, h2, h3, h4⟩
    rw [hp] at hp'
    injection hp' with hp'
    subst hp'
    exact ⟨v, hv, (hL v hv).2 hn, fun h => h2 h.symm, h3, (hF v e).2 h4⟩
theorem cfS_cfR {ts : List Int} {pts : List Pt} {LV : Nat → Nat → Prop} {k : Nat} {L Q : List Bool} (g : Good ts pts) (hk : k < pts.length) (hL : ∀ e, e < pts.length → L.getD e false = dec (KpR ts pts LV k e)) (hQ : ∀ e, Q.getD e false = true ↔ Pld ts pts k e) {e : Nat} (he : e < pts.length) : cfS pts L Q (accL ts pts[k].op pts[k].x pts[k].y fun v => dec (Ac false ts pts 0 k v)) e = cfR ts pts LV k e := by
  have ha : ∀ a ∈ accL ts pts[k].op pts[k].x pts[k].y (fun v => dec (Ac false ts pts 0 k v)), 0 ≤ a.vr := fun a ha => (acc_range g hk ha).1
  unfold cfR
  rw [ptD_get hk]
  generalize (accL ts pts[k].op pts[k].x pts[k].y fun v => dec (Ac false ts pts 0 k v)) = ac at *
  have hq : Q.getD e false = dec (Pld ts pts k e) := by rw [Bool.eq_iff_iff, dec_iff]; exact hQ e
  unfold cfS nearB
  rw [hL e he, hq]
  cases hp : dec (Pld ts pts k e)
  · simp
  · obtain ⟨⟨q, hq1, hql⟩, -⟩ := (dec_iff.1 hp).loan
    have hy := (g.y hq1 (by rcases lonB_iff.1 hql with h | h <;> omega)).1
    rw [acB_eq (ts := ts) hq1 hql hy ha]
    have hqd : ptD pts e = q := by unfold ptD; rw [List.getD_eq_getElem?_getD, hq1]; rfl
    rw [hqd]
    cases dec (KpR ts pts LV k e)
    · simp
    · simp only [Bool.true_and, Bool.and_true]
      rfl

set_option maxHeartbeats 16000000 in
set_option maxRecDepth 100000 in
theorem sCheckRegions_any (vt vb : Value) (ts : List Int) (l : List St) (B : Nat) (w : World) (ht : IntS w B vt ts) (hl : StS w B vb l) (hB : B ≤ w.heap.size) (hsz : szL l ≤ 4194300) :
    Calls Try.prog 32 #[.agg #[vt, vb]] w (CkRet w (regIss ts l)) := by
  have HBX := Lib.hid (Boxed.new ht hl hB 30)
  obtain ⟨At, ct, rfl, hct, -, -⟩ := ht
  obtain ⟨Ab, cb, rfl, hcb⟩ := hl.slice
  clear hl
  go_enter Try.func32, Try.ntmps32
  have HBE := Lib.hid (HBX.out.bels (bel_a _ (.cells #[] 35)) hB)
  have HOE := Lib.hid (OIs.empty (w.alloc (.cells #[.slice At ts.length ct, .slice Ab l.length cb] 30)) w.heap.size (by simp))
  have HS1 : Hid ((w.alloc (.cells #[.slice At ts.length ct, .slice Ab l.length cb] 30)).heap.size = w.heap.size + 1) := Lib.hid (by simp)
  go_upto_region 2 with (at_builtin; fail)
  generalize w.alloc (.cells #[.slice At ts.length ct, .slice Ab l.length cb] 30) = W0 at *
  generalize W0.alloc (.cells #[] 35) = W1 at *
  have hs1 := HS1.out
  rw [hs1] at HOE
  have c0 := HBE.out.c0
  have c1 := HBE.out.c1
  clear hs1
  go_wp2_with (at_builtin; fail)
  refine (sProgramValid_any _ _ ts l B W1 HBE.out.ht HBE.out.hl (by have := HBE.out.lt; omega) (by omega)).mono ?_
  rintro e w1 ⟨rfl, hb1⟩
  have HBV := Lib.hid (HBE.out.bels hb1 hB)
  have HOV := Lib.hid (HOE.out.bel hb1)
  clear hb1 c0 c1
  have c0 := HBV.out.c0
  have c1 := HBV.out.c1
  cases hok : validP ts l
  · have HRES : Hid (regIss ts l = []) := Lib.hid (by unfold regIss; rw [hok]; rfl)
    clear hok
    go_wp2_with (at_builtin; fail)
    go_ret
    exact ⟨_, rfl, by rw [HRES.out]; exact HOV.out, HBV.out.bel⟩
  have HV := Lib.hid hok
  have G := Good.of_valid hok
  have h6 := G.h6
  have hlen := G.len
  have GD := Lib.hid G
  obtain ⟨LV, hLV⟩ : ∃ LV, LV = LvN ts (ptsP l) := ⟨_, rfl⟩
  have HRES : Hid (regIss ts l = chrL ts (ptsP l) LV (ptsP l).length) := Lib.hid (by unfold regIss; rw [if_pos hok, hLV])
  have HLVE := Lib.hid hLV
  clear hok G hLV
  go_wp2_with (at_builtin; fail)
  refine (l2Points_any _ _ l B w1 HBV.out.hl (by have := HBV.out.lt; omega) hsz).mono ?_
  rintro e w2 ⟨vp, rfl, hps, hb2⟩
  have HB2 := Lib.hid (HBV.out.bels hb2 hB)
  have HO2 := Lib.hid (HOV.out.bel hb2)
  have HPS := Lib.hid hps
  obtain ⟨Ap, cp, rfl, hcp, -⟩ := hps.slice
  have HPN := Lib.hid hps
  generalize hpts : ptsP l = pts at *
  have HPE := Lib.hid hpts
  clear hb2 hps c0 c1 hpts
  have c0 := HB2.out.c0
  have c1 := HB2.out.c1
  go_wp2_with (at_builtin; fail)
  refine (l3Forward_any _ _ true ts l B w2 HB2.out.ht HB2.out.hl (by have := HB2.out.lt; omega) HV.out).mono ?_
  rintro e w3 ⟨G3, S3, vs3, rows3, seen3, vq3, rfl, hG3, hfq3, hrl3, hac3, hb3⟩
  rw [HPE.out] at hrl3 hac3 ⊢
  have HR3 := Lib.hid (hfq3.toR (fun i hi => by rw [(hac3 i (by omega)).1]; omega))
  rw [hrl3] at HR3
  have HA3 := Lib.hid hac3
  have HRL3 := Lib.hid hrl3
  have HB3 := Lib.hid (HB2.out.bels hb3 hB)
  have HO3 := Lib.hid (HO2.out.bel hb3)
  have HPS3 := Lib.hid ((HPS.out.imp (Kp.of_bel hb3)).more hb3.size)
  clear hfq3 hac3 hb3 c0 c1 hG3 hrl3
  have c0 := HB3.out.c0
  have c1 := HB3.out.c1
  go_wp2_with (at_builtin; fail)
  refine (l3Forward_any _ _ false ts l B w3 HB3.out.ht HB3.out.hl (by have := HB3.out.lt; omega) HV.out).mono ?_
  rintro e w4 ⟨G4, S4', vs4, rows4, seen4, vq4, rfl, hG4, hfq4, hrl4, hac4, hb4⟩
  rw [HPE.out] at hrl4 hac4 ⊢
  have HR4 := Lib.hid (hfq4.toR (fun i hi => by rw [(hac4 i (by omega)).1]; omega))
  rw [hrl4] at HR4
  have HA4 := Lib.hid hac4
  have HRL4 := Lib.hid hrl4
  have HR34 := Lib.hid (HR3.out.kp (Kp.of_bel hb4))
  have HB4 := Lib.hid (HB3.out.bels hb4 hB)
  have HO4 := Lib.hid (HO3.out.bel hb4)
  have HPS4 := Lib.hid ((HPS3.out.imp (Kp.of_bel hb4)).more hb4.size)
  clear hfq4 hac4 hb4 c0 c1 hG4 hrl4
  have c0 := HB4.out.c0
  have c1 := HB4.out.c1
  go_wp2_with (at_builtin; fail)
  refine (l3Live_any _ _ ts l B w4 HB4.out.ht HB4.out.hl (by have := HB4.out.lt; omega) HV.out).mono ?_
  rintro e wl ⟨v2, rb2, LR, base2, rfl, -, hbr2, hrl2, hri2, hlv2, hb2⟩
  rw [HPE.out] at hrl2 hlv2
  have HLR := Lib.hid ((hbr2.toX hri2 (by omega)).frame (P' := Any) (Nat.le_refl _) (fun b _ _ => ⟨trivial, rfl⟩))
  obtain ⟨Al, cl, rfl, hcl⟩ := HLR.out.slice
  rw [hrl2] at hcl HLR ⊢
  have HLL := Lib.hid hrl2
  have HLV : Hid (∀ k, k < pts.length → (LR.getD k []).length = ts.length ∧ ∀ v, v < ts.length → ((LR.getD k []).getD v false = true ↔ LV k v)) := Lib.hid fun k hk => ⟨hri2 k (by rw [hrl2]; exact hk), fun v _ => by rw [HLVE.out]; exact hlv2 k v⟩
  have HR34 := Lib.hid (HR34.out.kp (Kp.of_bel hb2))
  have HR4 := Lib.hid (HR4.out.kp (Kp.of_bel hb2))
  have HBL := Lib.hid (HB4.out.bels hb2 hB)
  have HOL := Lib.hid (HO4.out.bel hb2)
  have HPSL := Lib.hid ((HPS4.out.imp (Kp.of_bel hb2)).more hb2.size)
  clear hbr2 hrl2 hri2 hlv2 hb2 c0 c1
  have c0 := HBL.out.c0
  have c1 := HBL.out.c1
  go_wp2_with (at_builtin; fail)
  refine (l4Flow_any _ _ ts l B wl HBL.out.ht HBL.out.hl (by have := HBL.out.lt; omega) HV.out).mono ?_
  rintro e wf ⟨v5, ps, rbs, R, Q, base, rfl, hbase, hb4', hri, hst, hpq, hb5⟩
  rw [HPE.out] at hri hst hpq hb4'
  have HS4 := Lib.hid (hb4'.toS4 hri rfl (by omega))
  have HRI := Lib.hid hri
  have HPQ := Lib.hid hpq
  have HR34 := Lib.hid (HR34.out.kp (Kp.of_bel hb5))
  have HR4 := Lib.hid (HR4.out.kp (Kp.of_bel hb5))
  have HLR := Lib.hid (HLR.out.kp (Kp.of_bel hb5))
  have HBF := Lib.hid (HBL.out.bels hb5 hB)
  have HOF := Lib.hid (HOL.out.bel hb5)
  have HPSF := Lib.hid ((HPSL.out.imp (Kp.of_bel hb5)).more hb5.size)
  obtain ⟨A5, c5, rfl, hc5, -⟩ := HS4.out
  clear hb4' hri hst hpq hb5 c0 c1 hbase
  have c0 := HBF.out.c0
  have c1 := HBF.out.c1
  go_wp2_with (at_builtin; fail)
  refine (sRegions_any _ _ ts l B wf HBF.out.ht HBF.out.hl (by have := HBF.out.lt; omega) hsz (by rw [HPE.out]; exact GD.out)).mono ?_
  rintro e w5 ⟨v6, rb6, RG, rfl, hbr6, hrw6, hrg6, hb5⟩
  rw [HPE.out] at hbr6 hrw6 hrg6
  have HRG := Lib.hid ((hbr6.toX (fun i hi => hrw6.2 i (by rw [← hrw6.1]; exact hi)) (by omega)).frame (P' := Any) (Nat.le_refl _) (fun b _ _ => ⟨trivial, rfl⟩))
  obtain ⟨Ag, cg, rfl, hcg⟩ := HRG.out.slice
  rw [hrw6.1] at hcg HRG ⊢
  have HRW := Lib.hid hrw6
  have HRGE : Hid (∀ v e, (RG.getD v []).getD e false = true ↔ Rg (bds ts pts) v e) := Lib.hid hrg6
  have HR3 := Lib.hid (HR34.out.kp (Kp.of_bel hb5))
  have HR4 := Lib.hid (HR4.out.kp (Kp.of_bel hb5))
  have HLR := Lib.hid (HLR.out.kp (Kp.of_bel hb5))
  have HS4 := Lib.hid (HS4.out.kp (Kp.of_bel hb5))
  have HB5 := Lib.hid (HBF.out.bels hb5 hB)
  have HO5 := Lib.hid (HOF.out.bel hb5)
  have HPS5 := Lib.hid ((HPSF.out.imp (Kp.of_bel hb5)).more hb5.size)
  clear hbr6 hrw6 hrg6 hb5 c0 c1
  have HBW := Lib.hid HB5.out.bel
  have HOS : Hid (OutS w5 w5 w.heap.size (.slice (some ⟨w.heap.size + 1, 0, none⟩) 0 0) (chrL ts pts LV 0)) := Lib.hid (Out.start HO5.out HBW.out.size)
  have HT5 := Lib.hid HB5.out.ht
  have c0 := HB5.out.c0
  have c1 := HB5.out.c1
  have hB5 : B ≤ w5.heap.size := by have := HBW.out.size; omega
  clear HB2 HB3 HB4 HO2 HO3 HO4 HO5 HPS HPS3 HPS4 HR34 HBE HOE HBX HPN HBV HOV HBL HOL HPSL HBF HOF HPSF
  go_wp2_with (at_builtin; fail)
  go_loopw [3, 10] (fun v i wr => ∃ (k : Nat), k ≤ pts.length ∧ i = .int .i64 k ∧ OutS w5 wr w.heap.size v (chrL ts pts LV k)) (fun _ i _ => pts.length - (intOf i).toNat)
  case atStart => exact ⟨0, Nat.zero_le _, rfl, HOS.out⟩
  case round =>
    obtain ⟨k, hk, rfl, hO⟩ := hrel
    have HO := Lib.hid hO
    obtain ⟨Ao, co, rfl, hco⟩ := hO.slice
    clear hO
    by_cases hlt : k < pts.length
    · have HLT := Lib.hid hlt
      obtain ⟨L0, hL0⟩ : ∃ L, L = chrL ts pts LV k := ⟨_, rfl⟩
      have HL0L : Hid (L0.length ≤ 5000) := Lib.hid (by
        rw [hL0]
        have h1 := chrL_le ts pts LV k
        have h2 : k * (ts.length + pts.length) ≤ 61 * 67 := Nat.mul_le_mul (by omega) (by omega)
        omega)
      have HSUC : Hid (chrL ts pts LV (k + 1) = L0 ++ isU k (lst ts.length (unB ts pts k)) ++ isC pts k (lst pts.length (cfR ts pts LV k))) := Lib.hid (by rw [chrL_succ, hL0, List.append_assoc]; rfl)
      rw [← hL0] at HO ⊢
      clear hL0
      have HU0 : Hid (OutS w5 wr w.heap.size (.slice Ao L0.length co) (L0 ++ isU k (lst 0 (unB ts pts k)))) := Lib.hid (by simpa [isU, lst] using HO.out)
      have HUB : Hid (∀ v, v < ts.length → unB ts pts k v = (useP ts pts[k].op pts[k].x pts[k].y (v : Nat) != 0 && !((rows3.getD k []).getD v false))) := Lib.hid fun v hv => by
        unfold unB
        rw [ptD_get hlt]
        have := (HA3.out k hlt).2 v hv
        unfold rget at this
        rw [this]
        cases dec (Ac true ts pts 0 k v)
        · simp
        · simp; rfl
      have HCB := Lib.hid (fun (L : List Bool) (hL : ∀ e, e < pts.length → L.getD e false = dec (KpR ts pts LV k e)) e (he : e < pts.length) => cfS_cfR (Q := Q.getD k []) GD.out hlt hL (fun e => HPQ.out k e) he)
      have HAC := Lib.hid (accL_congr (op := pts[k].op) (x := pts[k].x) (y := pts[k].y) (ts := ts) (f := fun v => (rows4.getD k []).getD v false) (h := fun v => dec (Ac false ts pts 0 k v)) (fun _ => (GD.out.ok _ (List.getElem_mem hlt)).sets) (fun v hv => by
        have := (HA4.out k hlt).2 v hv
        unfold rget at this
        rw [this]; cases dec (Ac false ts pts 0 k v) <;> rfl))
      have HSL := Lib.hid (fun (_ : 0 ≤ setsP pts[k].op pts[k].x) => (GD.out.ok _ (List.getElem_mem hlt)).sets)
      have HYL := Lib.hid (fun (ho : pts[k].op = 3) => GD.out.y (List.getElem?_eq_getElem hlt) (by omega))
      have HPKG := Lib.hid (List.getElem?_eq_getElem hlt)
      have HR3L : Hid ((rows3.getD k []).length = ts.length) := Lib.hid (HA3.out k hlt).1
      have HR4L : Hid ((rows4.getD k []).length = ts.length) := Lib.hid (HA4.out k hlt).1
      obtain ⟨bp, op, cp9, nv, e, hbp, -, -, hnx, p0, p1, p2, p3, p4⟩ := HPS5.out.get hlt
      injection e with e1 e9 e2
      subst e1 e2
      obtain ⟨An, cn, rfl, hcn, hln, -⟩ := hnx
      simp only [List.length_map] at p4 hcn hln
      have HALLP := Lib.hid (fun (j : Nat) (hj : j < pts.length) => HPS5.out.get hj)
      generalize hPk : pts[k] = P at *
      have HPK := Lib.hid hPk
      clear hPk e9
      obtain ⟨bo3, oo3, rv3, e3, -, hbo3, -, d3, hrow3⟩ := HR3.out.at_ (i := k) (by rw [HRL3.out]; exact hlt)
      injection e3 with e3
      injection e3 with e3 e4
      subst e3 e4
      obtain ⟨A3, c3, rfl, hc3⟩ := hrow3.slice
      have HROW3 := Lib.hid hrow3
      rw [HR3L.out] at hc3 d3 HROW3
      obtain ⟨bo4, oo4, rv4, e3, -, hbo4, -, d4, hrow4⟩ := HR4.out.at_ (i := k) (by rw [HRL4.out]; exact hlt)
      injection e3 with e3
      injection e3 with e3 e4
      subst e3 e4
      obtain ⟨A4, c4, rfl, hc4⟩ := hrow4.slice
      have HROW4 := Lib.hid hrow4
      rw [HR4L.out] at hc4 d4 HROW4
      rw [Nat.zero_add] at d3 d4
      clear hrow3 hrow4
      go_wp2_with (at_builtin; fail)
      go_loopw [3, 11] (fun v i wx => ∃ (j : Nat), j ≤ ts.length ∧ i = .int .i64 j ∧ OutS w5 wx w.heap.size v (L0 ++ isU k (lst j (unB ts pts k)))) (fun _ i _ => ts.length - (intOf i).toNat)
      case atStart => exact ⟨0, Nat.zero_le _, rfl, HU0.out⟩
      case round =>
        obtain ⟨j, hj, rfl, hOj⟩ := hrel
        have HOJ := Lib.hid hOj
        obtain ⟨Aj, cj, rfl, hcj⟩ := hOj.slice
        have HKP := Lib.hid hOj.kp
        have HLE := Lib.hid hOj.bel
        have x0 := hOj.kp.1 _ _ _ c0
        have x1 := hOj.kp.1 _ _ _ c1
        have q0 := hOj.kp.1 _ _ _ p0
        have q1 := hOj.kp.1 _ _ _ p1
        have q2 := hOj.kp.1 _ _ _ p2
        have q3 := hOj.kp.1 _ _ _ p3
        have q4 := hOj.kp.1 _ _ _ p4
        have r3 := hOj.kp.1 _ _ _ d3
        have r4 := hOj.kp.1 _ _ _ d4
        have hwl : w5.heap.size ≤ wr.heap.size := hOj.kp.2
        clear hOj
        by_cases hjl : j < ts.length
        · have HJL := Lib.hid hjl
          obtain ⟨b3, o3, e3, -, hb3, -, s3⟩ := (HROW3.out.kp HKP.out).at_ (k := j) (by rw [HR3L.out]; exact hjl)
          subst e3
          have HLN : Hid ((L0 ++ isU k (lst j (unB ts pts k))).length ≤ 5010) := Lib.hid (by rw [List.length_append, isU_len]; have := HL0L.out; have := lst_len j (unB ts pts k); omega)
          have HNO : Hid (unB ts pts k j = false → OutS w5 wr w.heap.size (.slice Aj (L0 ++ isU k (lst j (unB ts pts k))).length cj) (L0 ++ isU k (lst (j + 1) (unB ts pts k)))) := Lib.hid fun h => by rw [lst_succ_false h]; exact HOJ.out
          have HYES : Hid (unB ts pts k j = true → L0 ++ isU k (lst (j + 1) (unB ts pts k)) = L0 ++ isU k (lst j (unB ts pts k)) ++ [⟨((k : Nat) : Int), 1, ((j : Nat) : Int)⟩]) := Lib.hid fun h => by rw [lst_succ_true h, isU_snoc, List.append_assoc]
          have HUJ := Lib.hid (HUB.out j hjl)
          have hs0 : w.heap.size < wr.heap.size := by have := cell_lt x0; exact this
          have hbpw : bp < wr.heap.size := cell_lt q0
          have hG3w : G3 < wr.heap.size := cell_lt r3
          have HUS := Lib.hid (fun w' (hb : Below wr.heap.size wr w') => (l3Use_any (.slice At ts.length ct) ts B P.op P.x P.y P.n (j : Nat) (.slice An P.next.length cn) w' ((HT5.out.imp HKP.out).low hb (by omega)) (by have := hb.size; omega) (by omega) (by omega)).mono fun e w'' (h : e = .returned (.int .i64 (useP ts P.op P.x P.y (j : Nat))) ∧ Below w'.heap.size w' w'') => (⟨h.1, hb.trans (h.2.mono hb.size)⟩ : e = .returned (.int .i64 (useP ts P.op P.x P.y (j : Nat))) ∧ Below wr.heap.size wr w''))
          generalize (rows3.getD k []).getD j false = al at *
          generalize useP ts P.op P.x P.y (j : Nat) = us at *
          generalize hLJ : L0 ++ isU k (lst j (unB ts pts k)) = LJ at *
          clear hLJ
          cases hu : (us != 0)
          · have HN := Lib.hid (HNO.out (by rw [HUJ.out, hu]; rfl))
            go_upto_region 16 with (at_builtin; fail)
            refine wp_region_seq (Below wr.heap.size wr) (by kernel_rfl) (by kernel_rfl) (Below.refl _ _).drew ?_
            repeat (first
              | (refine SeqS.skip (by rfl) ?_; (try simp only [Act.put, List.setIfInBounds_toArray, List.set_cons_zero, List.set_cons_succ]))
              | (refine SeqS.pure (v := ?_) (by rfl) (fun w' hSw => ?_) ?_; rotate_left; (obtain ⟨hc9, hf9⟩ := bcell hSw; go_simp; with_reducible rfl); (try simp only [Act.put, List.setIfInBounds_toArray, List.set_cons_zero, List.set_cons_succ]))
              | (refine SeqS.call (f := ?_) (args := ?_) (v := ?_) (by rfl) (fun w' => ?_) (fun w' hSw => ?_) ?_; rotate_left 3; (go_simp; constructor; (with_reducible rfl); (with_reducible rfl)); (first | exact HUS.out _ hSw | fail); (try simp only [Act.put, List.setIfInBounds_toArray, List.set_cons_zero, List.set_cons_succ]))
              | fail)
            intro w2 hb2
            have HN2 := Lib.hid (Out.belc HN.out hb2)
            clear hb2
            go_wp2_with (at_builtin; fail)
            have hjl := HJL.out
            exact ⟨⟨j + 1, by omega, by go_num, HN2.out⟩, by simp [intOf] <;> omega⟩
          · cases al
            · have HY := Lib.hid (HYES.out (by rw [HUJ.out, hu]; rfl))
              go_upto_region 16 with (at_builtin; fail)
              refine wp_region_seq (Below wr.heap.size wr) (by kernel_rfl) (by kernel_rfl) (Below.refl _ _).drew ?_
              repeat (first
                | (refine SeqS.skip (by rfl) ?_; (try simp only [Act.put, List.setIfInBounds_toArray, List.set_cons_zero, List.set_cons_succ]))
                | (refine SeqS.pure (v := ?_) (by rfl) (fun w' hSw => ?_) ?_; rotate_left; (obtain ⟨hc9, hf9⟩ := bcell hSw; go_simp; with_reducible rfl); (try simp only [Act.put, List.setIfInBounds_toArray, List.set_cons_zero, List.set_cons_succ]))
                | (refine SeqS.call (f := ?_) (args := ?_) (v := ?_) (by rfl) (fun w' => ?_) (fun w' hSw => ?_) ?_; rotate_left 3; (go_simp; constructor; (with_reducible rfl); (with_reducible rfl)); (first | exact HUS.out _ hSw | fail); (try simp only [Act.put, List.setIfInBounds_toArray, List.set_cons_zero, List.set_cons_succ]))
                | fail)
              intro w2 hb2
              have HO2 : Hid (OutS w5 w2 w.heap.size (.slice Aj LJ.length cj) LJ) := Lib.hid (Out.belc HOJ.out hb2)
              clear hb2
              go_wp2_with (at_builtin; go_must (refine wpList_push_outS rfl (.tmp 64) (.tmp 68) rfl HO2.out (by have := HLN.out; omega) _ _ _ rfl rfl ?_); intro v' w' hP' hK')
              have hjl := HJL.out
              exact ⟨⟨j + 1, by omega, by go_num, by rw [HY.out]; exact hP'⟩, by simp [intOf] <;> omega⟩
            · have HN := Lib.hid (HNO.out (by rw [HUJ.out, hu]; rfl))
              go_upto_region 16 with (at_builtin; fail)
              refine wp_region_seq (Below wr.heap.size wr) (by kernel_rfl) (by kernel_rfl) (Below.refl _ _).drew ?_
              repeat (first
                | (refine SeqS.skip (by rfl) ?_; (try simp only [Act.put, List.setIfInBounds_toArray, List.set_cons_zero, List.set_cons_succ]))
                | (refine SeqS.pure (v := ?_) (by rfl) (fun w' hSw => ?_) ?_; rotate_left; (obtain ⟨hc9, hf9⟩ := bcell hSw; go_simp; with_reducible rfl); (try simp only [Act.put, List.setIfInBounds_toArray, List.set_cons_zero, List.set_cons_succ]))
                | (refine SeqS.call (f := ?_) (args := ?_) (v := ?_) (by rfl) (fun w' => ?_) (fun w' hSw => ?_) ?_; rotate_left 3; (go_simp; constructor; (with_reducible rfl); (with_reducible rfl)); (first | exact HUS.out _ hSw | fail); (try simp only [Act.put, List.setIfInBounds_toArray, List.set_cons_zero, List.set_cons_succ]))
                | fail)
              intro w2 hb2
              have HN2 := Lib.hid (Out.belc HN.out hb2)
              clear hb2
              go_wp2_with (at_builtin; fail)
              have hjl := HJL.out
              exact ⟨⟨j + 1, by omega, by go_num, HN2.out⟩, by simp [intOf] <;> omega⟩
        · have hje : j = ts.length := by omega
          rw [hje] at HOJ ⊢
          clear hje hcj
          obtain ⟨L1, hL1⟩ : ∃ L1, L1 = L0 ++ isU k (lst ts.length (unB ts pts k)) := ⟨_, rfl⟩
          have HL1L : Hid (L1.length ≤ 5010) := Lib.hid (by rw [hL1, List.length_append, isU_len]; have := HL0L.out; have := lst_len ts.length (unB ts pts k); omega)
          have HSUC2 : Hid (chrL ts pts LV (k + 1) = L1 ++ isC pts k (lst pts.length (cfR ts pts LV k))) := Lib.hid (by rw [HSUC.out, hL1])
          rw [← hL1] at HOJ ⊢
          clear hL1 r3
          have hs0 : w.heap.size < wr.heap.size := cell_lt x0
          have hbpw : bp < wr.heap.size := cell_lt q0
          have hG4w : G4 < wr.heap.size := cell_lt r4
          have HTW := Lib.hid ((HT5.out.imp HKP.out).more (B' := wr.heap.size) (by omega))
          have HRW4 := Lib.hid (HROW4.out.kp HKP.out).toS
          have HPSW := Lib.hid (HPS5.out.imp HKP.out)
          have HLRW := Lib.hid (HLR.out.kp HKP.out)
          have HRGW := Lib.hid (HRG.out.kp HKP.out)
          have HS4W := Lib.hid (HS4.out.kp HKP.out)
          obtain ⟨g5, Av, cv, pk, eg5, hg5, f0, f1, hcv, hrf, hqf⟩ : ∃ g Av cv pk, A5 = some ⟨g, 0, none⟩ ∧ g < wr.heap.size ∧ wr.cell? ⟨g, k * 2, none⟩ = some (.slice Av ts.length cv) ∧ wr.cell? ⟨g, k * 2 + 1, none⟩ = some (.slice (some ⟨pk, 0, none⟩) pts.length pts.length) ∧ ts.length ≤ cv ∧ RwX wr Any (.slice Av ts.length cv) (R.getD k []) ∧ BoolX wr Any (.slice (some ⟨pk, 0, none⟩) pts.length pts.length) (Q.getD k []) := by
            obtain ⟨A9, c9, e9, -, h9⟩ := HS4W.out
            injection e9 with e91 _ e92
            subst e91 e92
            exact h9 k (HLT.out)
          subst eg5
          go_upto_region 19 with (at_builtin; fail)
          have HXW := Lib.hid (RowB.new wr [.slice Ag ts.length cg, .slice (some ⟨pk, 0, none⟩) pts.length pts.length] 99)
          have HAL := Lib.hid (bel_a wr (.cells #[.slice Ag ts.length cg, .slice (some ⟨pk, 0, none⟩) pts.length pts.length] 99))
          have HO11 : Hid (OutS w5 (wr.alloc (.cells #[.slice Ag ts.length cg, .slice (some ⟨pk, 0, none⟩) pts.length pts.length] 99)) w.heap.size (.slice Aj L1.length cj) L1) := Lib.hid (Out.belc HOJ.out HAL.out)
          have x0 := belC2 HAL.out x0 hs0
          have q0 := belC2 HAL.out q0 hbpw
          have q1 := belC2 HAL.out q1 hbpw
          have q2 := belC2 HAL.out q2 hbpw
          have q3 := belC2 HAL.out q3 hbpw
          have q4 := belC2 HAL.out q4 hbpw
          have r4 := belC2 HAL.out r4 hG4w
          have HTW := Lib.hid ((HTW.out.low HAL.out (Nat.le_refl _)).more HAL.out.size)
          have HRW4 := Lib.hid (HROW4.out.kp (HKP.out.trans (Kp.of_bel HAL.out))).toS
          have HPSW := Lib.hid (HPSW.out.imp (Kp.of_bel HAL.out))
          have HQF := Lib.hid (hqf.kp (Kp.of_bel HAL.out))
          have HRF := Lib.hid (HRGW.out.kp (Kp.of_bel HAL.out))
          obtain ⟨bl, ol, rvl, ebl, -, hbl, -, dl, hrl⟩ := (HLRW.out.kp (Kp.of_bel HAL.out)).at_ (i := k) (by rw [HLL.out]; exact HLT.out)
          subst ebl
          obtain ⟨Arl, crl, rfl, hcrl⟩ := hrl.slice
          have HRLX := Lib.hid hrl
          have HLVK := Lib.hid (HLV.out k HLT.out)
          rw [HLVK.out.1] at dl hcrl HRLX
          have HQLN := Lib.hid (HRI.out.innQ k HLT.out)
          have hsal := HAL.out.size
          have hs0 : w.heap.size < (wr.alloc (.cells #[.slice Ag ts.length cg, .slice (some ⟨pk, 0, none⟩) pts.length pts.length] 99)).heap.size := by omega
          have hbpw : bp < (wr.alloc (.cells #[.slice Ag ts.length cg, .slice (some ⟨pk, 0, none⟩) pts.length pts.length] 99)).heap.size := by omega
          have hG4w : G4 < (wr.alloc (.cells #[.slice Ag ts.length cg, .slice (some ⟨pk, 0, none⟩) pts.length pts.length] 99)).heap.size := by omega
          have hwrl : wr.heap.size ≤ (wr.alloc (.cells #[.slice Ag ts.length cg, .slice (some ⟨pk, 0, none⟩) pts.length pts.length] 99)).heap.size := HAL.out.size
          clear hrf hqf hrl f0 f1 HAL hsal
          generalize wr.alloc (.cells #[.slice Ag ts.length cg, .slice (some ⟨pk, 0, none⟩) pts.length pts.length] 99) = w11 at *
          obtain ⟨bw, hbw⟩ : ∃ bw, bw = wr.heap.size := ⟨_, rfl⟩
          rw [← hbw] at HXW ⊢
          clear hbw
          have y0 := HXW.out.cell 0
          have y1 := HXW.out.cell 1
          simp only [List.getElem?_cons_zero, List.getElem?_cons_succ] at y0 y1
          have hbw := HXW.out.lt
          have BEL : Hid (∀ w', w'.cell? ⟨w.heap.size, 0, none⟩ = some (.slice At ts.length ct) ∧ w'.cell? ⟨bp, op + k * 5, none⟩ = some (.int .i64 P.op) ∧ w'.cell? ⟨bp, op + k * 5 + 1, none⟩ = some (.int .i64 P.x) ∧ w'.cell? ⟨bp, op + k * 5 + 2, none⟩ = some (.int .i64 P.y) ∧ w'.cell? ⟨bp, op + k * 5 + 3, none⟩ = some (.int .i64 P.n) ∧ w'.cell? ⟨bp, op + k * 5 + 4, none⟩ = some (.slice An P.next.length cn) ∧ w'.cell? ⟨G4, k, none⟩ = some (.slice A4 ts.length c4) ∧ w'.cell? ⟨bw, 0, none⟩ = some (.slice Ag ts.length cg) ∧ w'.cell? ⟨bw, 1, none⟩ = some (.slice (some ⟨pk, 0, none⟩) pts.length pts.length) ∧ w'.cell? ⟨bl, ol + k, none⟩ = some (.slice Arl ts.length crl) ∧ Below w11.heap.size w11 w' → Below w11.heap.size w11 w') := Lib.hid fun _ h => h.2.2.2.2.2.2.2.2.2.2
          go_wp2_with (at_builtin; fail)
          refine wp_region_held_drew (S := (fun w' => w'.cell? ⟨w.heap.size, 0, none⟩ = some (.slice At ts.length ct) ∧ w'.cell? ⟨bp, op + k * 5, none⟩ = some (.int .i64 P.op) ∧ w'.cell? ⟨bp, op + k * 5 + 1, none⟩ = some (.int .i64 P.x) ∧ w'.cell? ⟨bp, op + k * 5 + 2, none⟩ = some (.int .i64 P.y) ∧ w'.cell? ⟨bp, op + k * 5 + 3, none⟩ = some (.int .i64 P.n) ∧ w'.cell? ⟨bp, op + k * 5 + 4, none⟩ = some (.slice An P.next.length cn) ∧ w'.cell? ⟨G4, k, none⟩ = some (.slice A4 ts.length c4) ∧ w'.cell? ⟨bw, 0, none⟩ = some (.slice Ag ts.length cg) ∧ w'.cell? ⟨bw, 1, none⟩ = some (.slice (some ⟨pk, 0, none⟩) pts.length pts.length) ∧ w'.cell? ⟨bl, ol + k, none⟩ = some (.slice Arl ts.length crl) ∧ Below w11.heap.size w11 w')) (by kernel_rfl) ?_ (fun hHeld => ?_)
          · exact ⟨x0, q0, q1, q2, q3, q4, r4, y0, y1, dl, (Below.refl _ _).drew⟩
          refine wpAnyH_take (i := 0) (oi := ⟨some 77, _, _, _, _, _⟩) (v := ?_) rfl (by kernel_rfl) (by kernel_rfl) (by kernel_rfl) (fun _ _ _ h => h) (Or.inl ⟨by rfl, fun w' hSw => ?_⟩) (by assumption) ?_
          rotate_left
          · (try dsimp only at hSw); go_simp; (try with_reducible rfl)
          (try simp only [Act.put, List.setIfInBounds_toArray, List.set_cons_zero, List.set_cons_succ])
          refine wpAnyH_take (i := 1) (oi := ⟨some 78, _, _, _, _, _⟩) (v := ?_) rfl (by kernel_rfl) (by kernel_rfl) (by kernel_rfl) (fun _ _ _ h => h) (Or.inl ⟨by rfl, fun w' hSw => ?_⟩) (by assumption) ?_
          rotate_left
          · (try dsimp only at hSw); go_simp; (try with_reducible rfl)
          (try simp only [Act.put, List.setIfInBounds_toArray, List.set_cons_zero, List.set_cons_succ])
          refine wpAnyH_take (i := 2) (oi := ⟨some 79, _, _, _, _, _⟩) (v := ?_) rfl (by kernel_rfl) (by kernel_rfl) (by kernel_rfl) (fun _ _ _ h => h) (Or.inl ⟨by rfl, fun w' hSw => ?_⟩) (by assumption) ?_
          rotate_left
          · (try dsimp only at hSw); go_simp; (try with_reducible rfl)
          (try simp only [Act.put, List.setIfInBounds_toArray, List.set_cons_zero, List.set_cons_succ])
          refine wpAnyH_take (i := 3) (oi := ⟨some 80, _, _, _, _, _⟩) (v := ?_) rfl (by kernel_rfl) (by kernel_rfl) (by kernel_rfl) (fun _ _ _ h => h) (Or.inl ⟨by rfl, fun w' hSw => ?_⟩) (by assumption) ?_
          rotate_left
          · (try dsimp only at hSw); go_simp; (try with_reducible rfl)
          (try simp only [Act.put, List.setIfInBounds_toArray, List.set_cons_zero, List.set_cons_succ])
          refine wpAnyH_take (i := 4) (oi := ⟨some 81, _, _, _, _, _⟩) (v := ?_) rfl (by kernel_rfl) (by kernel_rfl) (by kernel_rfl) (fun _ _ _ h => h) (Or.inl ⟨by rfl, fun w' hSw => ?_⟩) (by assumption) ?_
          rotate_left
          · (try dsimp only at hSw); go_simp; (try with_reducible rfl)
          (try simp only [Act.put, List.setIfInBounds_toArray, List.set_cons_zero, List.set_cons_succ])
          refine wpAnyH_take (i := 5) (oi := ⟨some 82, _, _, _, _, _⟩) (v := ?_) rfl (by kernel_rfl) (by kernel_rfl) (by kernel_rfl) (fun _ _ _ h => h) (Or.inl ⟨by rfl, fun w' hSw => ?_⟩) (by assumption) ?_
          rotate_left
          · (try dsimp only at hSw); go_simp; (try with_reducible rfl)
          (try simp only [Act.put, List.setIfInBounds_toArray, List.set_cons_zero, List.set_cons_succ])
          refine wpAnyH_take (i := 6) (oi := ⟨some 83, _, _, _, _, _⟩) (v := ?_) rfl (by kernel_rfl) (by kernel_rfl) (by kernel_rfl) (fun _ _ _ h => h) (Or.inl ⟨by rfl, fun w' hSw => ?_⟩) (by assumption) ?_
          rotate_left
          · (try dsimp only at hSw); go_simp; (try with_reducible rfl)
          (try simp only [Act.put, List.setIfInBounds_toArray, List.set_cons_zero, List.set_cons_succ])
          refine wpAnyH_take (i := 7) (oi := ⟨some 84, _, _, _, _, _⟩) (v := ?_) rfl (by kernel_rfl) (by kernel_rfl) (by kernel_rfl) (fun _ _ _ h => h) (Or.inl ⟨by rfl, fun w' hSw => ?_⟩) (by assumption) ?_
          rotate_left
          · (try dsimp only at hSw); go_simp; (try with_reducible rfl)
          (try simp only [Act.put, List.setIfInBounds_toArray, List.set_cons_zero, List.set_cons_succ])
          refine wpAnyH_take (i := 8) (oi := ⟨some 85, _, _, _, _, _⟩) (v := ?_) rfl (by kernel_rfl) (by kernel_rfl) (by kernel_rfl) (fun _ _ _ h => h) (Or.inl ⟨by rfl, fun w' hSw => ?_⟩) (by assumption) ?_
          rotate_left
          · (try dsimp only at hSw); go_simp; (try with_reducible rfl)
          (try simp only [Act.put, List.setIfInBounds_toArray, List.set_cons_zero, List.set_cons_succ])
          refine wpAnyH_take (i := 9) (oi := ⟨some 86, _, _, _, _, _⟩) (v := ?_) rfl (by kernel_rfl) (by kernel_rfl) (by kernel_rfl) (fun _ _ _ h => h) (Or.inl ⟨by rfl, fun w' hSw => ?_⟩) (by assumption) ?_
          rotate_left
          · (try dsimp only at hSw); go_simp; (try with_reducible rfl)
          (try simp only [Act.put, List.setIfInBounds_toArray, List.set_cons_zero, List.set_cons_succ])
          refine wpAnyH_take (i := 10) (oi := ⟨some 87, _, _, _, _, _⟩) (v := ?_) rfl (by kernel_rfl) (by kernel_rfl) (by kernel_rfl) (fun _ _ _ h => h) (Or.inl ⟨by rfl, fun w' hSw => ?_⟩) (by assumption) ?_
          rotate_left
          · (try dsimp only at hSw); go_simp; (try with_reducible rfl)
          (try simp only [Act.put, List.setIfInBounds_toArray, List.set_cons_zero, List.set_cons_succ])
          refine wpAnyH_take (i := 12) (oi := ⟨some 89, _, _, _, _, _⟩) (v := ?_) rfl (by kernel_rfl) (by kernel_rfl) (by kernel_rfl) (fun _ _ _ h => h) (Or.inl ⟨by rfl, fun w' hSw => ?_⟩) (by assumption) ?_
          rotate_left
          · (try dsimp only at hSw); go_simp; (try with_reducible rfl)
          (try simp only [Act.put, List.setIfInBounds_toArray, List.set_cons_zero, List.set_cons_succ])
          refine wpAnyH_take (i := 13) (oi := ⟨some 90, _, _, _, _, _⟩) (v := ?_) rfl (by kernel_rfl) (by kernel_rfl) (by kernel_rfl) (fun _ _ _ h => h) (Or.inl ⟨by rfl, fun w' hSw => ?_⟩) (by assumption) ?_
          rotate_left
          · (try dsimp only at hSw); go_simp; (try with_reducible rfl)
          (try simp only [Act.put, List.setIfInBounds_toArray, List.set_cons_zero, List.set_cons_succ])
          refine wpAnyH_take (i := 14) (oi := ⟨some 91, _, _, _, _, _⟩) (v := ?_) rfl (by kernel_rfl) (by kernel_rfl) (by kernel_rfl) (fun _ _ _ h => h) (Or.inl ⟨by rfl, fun w' hSw => ?_⟩) (by assumption) ?_
          rotate_left
          · (try dsimp only at hSw); go_simp; (try with_reducible rfl)
          (try simp only [Act.put, List.setIfInBounds_toArray, List.set_cons_zero, List.set_cons_succ])
          refine wpAnyH_take (i := 15) (oi := ⟨some 92, _, _, _, _, _⟩) (v := ?_) rfl (by kernel_rfl) (by kernel_rfl) (by kernel_rfl) (fun _ _ _ h => h) (Or.inl ⟨by rfl, fun w' hSw => ?_⟩) (by assumption) ?_
          rotate_left
          · (try dsimp only at hSw); go_simp; (try with_reducible rfl)
          (try simp only [Act.put, List.setIfInBounds_toArray, List.set_cons_zero, List.set_cons_succ])
          refine wpAnyH_take (i := 16) (oi := ⟨some 93, _, _, _, _, _⟩) (v := ?_) rfl (by kernel_rfl) (by kernel_rfl) (by kernel_rfl) (fun _ _ _ h => h) (Or.inl ⟨by rfl, fun w' hSw => ?_⟩) (by assumption) ?_
          rotate_left
          · (try dsimp only at hSw); go_simp; (try with_reducible rfl)
          (try simp only [Act.put, List.setIfInBounds_toArray, List.set_cons_zero, List.set_cons_succ])
          refine wpAnyH_take (i := 17) (oi := ⟨some 94, _, _, _, _, _⟩) (v := ?_) rfl (by kernel_rfl) (by kernel_rfl) (by kernel_rfl) (fun _ _ _ h => h) (Or.inl ⟨by rfl, fun w' hSw => ?_⟩) (by assumption) ?_
          rotate_left
          · (try dsimp only at hSw); go_simp; (try with_reducible rfl)
          (try simp only [Act.put, List.setIfInBounds_toArray, List.set_cons_zero, List.set_cons_succ])
          refine wpAnyH_take (i := 18) (oi := ⟨some 95, _, _, _, _, _⟩) (v := ?_) rfl (by kernel_rfl) (by kernel_rfl) (by kernel_rfl) (fun _ _ _ h => h) (Or.inl ⟨by rfl, fun w' hSw => ?_⟩) (by assumption) ?_
          rotate_left
          · (try dsimp only at hSw); go_simp; (try with_reducible rfl)
          (try simp only [Act.put, List.setIfInBounds_toArray, List.set_cons_zero, List.set_cons_succ])
          refine wpAnyH_take (i := 19) (oi := ⟨some 96, _, _, _, _, _⟩) (v := ?_) rfl (by kernel_rfl) (by kernel_rfl) (by kernel_rfl) (fun _ _ _ h => h) (Or.inl ⟨by rfl, fun w' hSw => ?_⟩) (by assumption) ?_
          rotate_left
          · (try dsimp only at hSw); go_simp; (try with_reducible rfl)
          (try simp only [Act.put, List.setIfInBounds_toArray, List.set_cons_zero, List.set_cons_succ])
          refine wpAnyH_take (i := 20) (oi := ⟨some 97, _, _, _, _, _⟩) (v := ?_) rfl (by kernel_rfl) (by kernel_rfl) (by kernel_rfl) (fun _ _ _ h => h) (Or.inl ⟨by rfl, fun w' hSw => ?_⟩) (by assumption) ?_
          rotate_left
          · (try dsimp only at hSw); go_simp; (try with_reducible rfl)
          (try simp only [Act.put, List.setIfInBounds_toArray, List.set_cons_zero, List.set_cons_succ])
          refine wpAnyH_take (i := 21) (oi := ⟨some 98, _, _, _, _, _⟩) (v := ?_) rfl (by kernel_rfl) (by kernel_rfl) (by kernel_rfl) (fun _ _ _ h => h) (Or.inl ⟨by rfl, fun w' hSw => ?_⟩) (by assumption) ?_
          rotate_left
          · (try dsimp only at hSw); go_simp; (try with_reducible rfl)
          (try simp only [Act.put, List.setIfInBounds_toArray, List.set_cons_zero, List.set_cons_succ])
          refine wpAnyH_take (i := 22) (oi := ⟨some 99, _, _, _, _, _⟩) (v := ?_) rfl (by kernel_rfl) (by kernel_rfl) (by kernel_rfl) (fun _ _ _ h => h) (Or.inl ⟨by rfl, fun w' hSw => ?_⟩) (by assumption) ?_
          rotate_left
          · (try dsimp only at hSw); go_simp; (try with_reducible rfl)
          (try simp only [Act.put, List.setIfInBounds_toArray, List.set_cons_zero, List.set_cons_succ])
          refine wpAnyH_take (i := 23) (oi := ⟨some 100, _, _, _, _, _⟩) (v := ?_) rfl (by kernel_rfl) (by kernel_rfl) (by kernel_rfl) (fun _ _ _ h => h) (Or.inl ⟨by rfl, fun w' hSw => ?_⟩) (by assumption) ?_
          rotate_left
          · (try dsimp only at hSw); go_simp; (try with_reducible rfl)
          (try simp only [Act.put, List.setIfInBounds_toArray, List.set_cons_zero, List.set_cons_succ])
          refine wpAnyH_ready (rs := [11]) (by kernel_rfl) (by simp) ?_
          refine (AllReadyH.cons (o := ⟨some 88, _, _, _, _, _⟩) rfl (fun K hK => ?_) AllReadyH.nil)
          go_simp
          (refine (l4Accesses_any At ct ts w11.heap.size P.op P.x P.y P.n An P.next.length cn A4 c4 (rows4.getD k []) _ (HTW.out.low (BEL.out _ (by assumption)) (Nat.le_refl _)) (HRW4.out.low (BEL.out _ (by assumption)) (Nat.le_refl _)) HR4L.out (BEL.out _ (by assumption)).size h6 HSL.out HYL.out).mono ?_)
          (rintro e wa ⟨v11, rfl, hv11, hb11⟩)
          (rw [HAC.out] at hv11)
          (have HV11 := Lib.hid hv11)
          (obtain ⟨Aa, ca, rfl, hca⟩ := hv11.slice)
          (have BX11 := Lib.hid ((BEL.out _ (by assumption)).trans (hb11.mono (BEL.out _ (by assumption)).size)))
          clear hv11 hb11
          go_simp
          refine hK.out _ _ ?_ (fun hHeld => ?_)
          · exact ⟨belC2 BX11.out x0 hs0, belC2 BX11.out q0 hbpw, belC2 BX11.out q1 hbpw, belC2 BX11.out q2 hbpw, belC2 BX11.out q3 hbpw, belC2 BX11.out q4 hbpw, belC2 BX11.out r4 hG4w, belC2 BX11.out y0 hbw, belC2 BX11.out y1 hbw, belC2 BX11.out dl hbl, BX11.out⟩
          clear hK K
          (try simp only [Act.put, List.setIfInBounds_toArray, List.set_cons_zero, List.set_cons_succ])
          refine wpAnyH_ready (rs := [24]) (by kernel_rfl) (by simp) ?_
          refine (AllReadyH.cons (o := ⟨some 101, _, _, _, _, _⟩) rfl (fun K hK => ?_) AllReadyH.nil)
          go_simp
          (have hs11 := BX11.out.size)
          (refine (l4Live_any (.slice At ts.length ct) (.slice Ag ts.length cg) (.slice Arl ts.length crl) (some ⟨pk, 0, none⟩) pts.length ts P.op P.x P.y P.n (.slice An P.next.length cn) w11.heap.size pts.length RG (LR.getD k []) Any Any _ (HTW.out.low BX11.out (Nat.le_refl _)) hs11 (HRF.out.kp (Kp.of_bel BX11.out)) (HRLX.out.kp (Kp.of_bel BX11.out)) HRW.out.1 HRW.out.2 (Nat.le_refl _) HLVK.out.1 h6 (by omega)).mono ?_)
          (rintro e w12 ⟨g12, L12, rfl, hr12, hl12, hL12, hb12⟩)
          (have BX12 := Lib.hid (BX11.out.trans (hb12.mono hs11)))
          (have BXA := Lib.hid hb12)
          (have HR12 := Lib.hid hr12)
          (have HL12 := Lib.hid hl12)
          (have HLK : Hid (∀ e, e < pts.length → L12.getD e false = dec (KpR ts pts LV k e)) := Lib.hid (fun e he => (hL12 e he).trans (lvA_kpr HPKG.out (fun v e => HRGE.out v e) HLVK.out.2)))
          clear hr12 hl12 hL12 hb12
          go_simp
          refine hK.out _ _ ?_ (fun hHeld => ?_)
          · exact ⟨belC2 BX12.out x0 hs0, belC2 BX12.out q0 hbpw, belC2 BX12.out q1 hbpw, belC2 BX12.out q2 hbpw, belC2 BX12.out q3 hbpw, belC2 BX12.out q4 hbpw, belC2 BX12.out r4 hG4w, belC2 BX12.out y0 hbw, belC2 BX12.out y1 hbw, belC2 BX12.out dl hbl, BX12.out⟩
          clear hK K
          (try simp only [Act.put, List.setIfInBounds_toArray, List.set_cons_zero, List.set_cons_succ])
          refine wpAnyH_ready (rs := [25]) (by kernel_rfl) (by simp) ?_
          refine (AllReadyH.cons (o := ⟨some 102, _, _, _, _, _⟩) rfl (fun K hK => ?_) AllReadyH.nil)
          go_simp
          (have hs12 := BX12.out.size)
          (have HLS12 := Lib.hid (HR12.out.bools (c := pts.length) (by rw [HL12.out]; omega) (by rw [HL12.out]; exact Nat.le_refl _)))
          (rw [HL12.out] at HLS12)
          (refine (l4Conflicts_any _ _ _ _ _ _ _ _ _ w12.heap.size pts _ L12 (Q.getD k []) w12 ((HPSW.out.imp (Kp.of_bel BX12.out)).more (by omega)) (HV11.out.bel BXA.out) (HQF.out.kp (Kp.of_bel BX12.out)).toS HLS12.out (Nat.le_refl _) HQLN.out HL12.out (by omega)).mono ?_)
          (rintro e w13 ⟨g13, L13, rfl, hr13, hl13, hL13, hb13⟩)
          (have BX13 := Lib.hid (BX12.out.trans (hb13.mono hs12)))
          (have HR13 := Lib.hid hr13)
          (have HL13 := Lib.hid hl13)
          (have HCF : Hid (∀ e, e < pts.length → L13.getD e false = cfR ts pts LV k e) := Lib.hid (fun e he => (hL13 e he).trans (HCB.out L12 HLK.out e he)))
          clear hr13 hl13 hL13 hb13
          go_simp
          refine hK.out _ _ ?_ (fun hHeld => ?_)
          · exact ⟨belC2 BX13.out x0 hs0, belC2 BX13.out q0 hbpw, belC2 BX13.out q1 hbpw, belC2 BX13.out q2 hbpw, belC2 BX13.out q3 hbpw, belC2 BX13.out q4 hbpw, belC2 BX13.out r4 hG4w, belC2 BX13.out y0 hbw, belC2 BX13.out y1 hbw, belC2 BX13.out dl hbl, BX13.out⟩
          clear hK K
          (try simp only [Act.put, List.setIfInBounds_toArray, List.set_cons_zero, List.set_cons_succ])
          refine wpAnyH_take (i := 26) (oi := ⟨some 13, _, _, _, _, _⟩) (v := ?_) rfl (by kernel_rfl) (by kernel_rfl) (by kernel_rfl) (fun _ _ _ h => h) (Or.inl ⟨by rfl, fun w' hSw => ?_⟩) (by assumption) ?_
          rotate_left
          · (try dsimp only at hSw); go_simp; (try with_reducible rfl)
          (try simp only [Act.put, List.setIfInBounds_toArray, List.set_cons_zero, List.set_cons_succ])
          refine wpAnyH_done (by kernel_rfl) ?_ _
          have HO13 : Hid (OutS w5 w13 w.heap.size (.slice Aj L1.length cj) (L1 ++ isC pts k (lst 0 (cfR ts pts LV k)))) := Lib.hid (by simpa [isC, lst] using (show OutS w5 w13 w.heap.size (.slice Aj L1.length cj) L1 from Out.belc HO11.out BX13.out))
          clear x0 x1 q0 q1 q2 q3 q4 r4 y0 y1 dl BEL
          go_wp2_with (at_builtin; fail)
          go_loopw [3, 14] (fun v i wx => ∃ (j : Nat), j ≤ pts.length ∧ i = .int .i64 j ∧ OutS w5 wx w.heap.size v (L1 ++ isC pts k (lst j (cfR ts pts LV k))) ∧ RowB wx g13 4 (bv L13)) (fun _ i _ => pts.length - (intOf i).toNat)
          case atStart => exact ⟨0, Nat.zero_le _, rfl, HO13.out, HR13.out⟩
          case round =>
            obtain ⟨j, hj, rfl, hOk, hrk⟩ := hrel
            have HOK := Lib.hid hOk
            have HRK := Lib.hid hrk
            obtain ⟨Aj2, cj2, rfl, hcj2⟩ := hOk.slice
            by_cases hjl : j < pts.length
            · have HJL := Lib.hid hjl
              have z0 := hrk.cell j
              rw [bv_get (by rw [HL13.out]; exact hjl), HCF.out j hjl] at z0
              have HLN : Hid ((L1 ++ isC pts k (lst j (cfR ts pts LV k))).length ≤ 5100) := Lib.hid (by rw [List.length_append, isC_len]; have := HL1L.out; have := lst_len j (cfR ts pts LV k); omega)
              have HNO : Hid (cfR ts pts LV k j = false → OutS w5 wr w.heap.size (.slice Aj2 (L1 ++ isC pts k (lst j (cfR ts pts LV k))).length cj2) (L1 ++ isC pts k (lst (j + 1) (cfR ts pts LV k)))) := Lib.hid fun h => by rw [lst_succ_false h]; exact HOK.out
              have HYES : Hid (cfR ts pts LV k j = true → L1 ++ isC pts k (lst (j + 1) (cfR ts pts LV k)) = L1 ++ isC pts k (lst j (cfR ts pts LV k)) ++ [⟨((k : Nat) : Int), kindP pts ((j : Nat) : Int), ((j : Nat) : Int)⟩]) := Lib.hid fun h => by rw [lst_succ_true h, isC_snoc, List.append_assoc]
              obtain ⟨b', off', c', nv', e', hb', -, -, -, u0, u1, u2, u3, u4⟩ := HALLP.out j hjl
              injection e' with e1 e9 e2
              injection e1 with e1
              injection e1 with e1 e3
              subst e1 e2 e3
              clear e9
              have r0 := hOk.kp.1 _ _ _ u0
              have HKD : Hid (kindP pts ((j : Nat) : Int) = if (pts[j]'hjl).op = 5 then (3 : Int) else 2) := Lib.hid (by unfold kindP; rw [Int.toNat_natCast, ptD_get hjl])
              generalize pts[j] = P2 at *
              generalize cfR ts pts LV k j = cb at *
              generalize hLJ : L1 ++ isC pts k (lst j (cfR ts pts LV k)) = LJ at *
              clear hLJ u0 u1 u2 u3 u4 hOk hrk
              cases cb
              · have HN := Lib.hid (HNO.out rfl)
                go_wp2_with (at_builtin; fail)
                have hjl := HJL.out
                exact ⟨⟨j + 1, by omega, by go_num, HN.out, HRK.out⟩, by simp [intOf] <;> omega⟩
              · have HY := Lib.hid (HYES.out rfl)
                by_cases h5 : P2.op = 5
                · have hq : (P2.op == 5) = true := by simpa using h5
                  have HK3 : Hid (kindP pts ((j : Nat) : Int) = 3) := Lib.hid (by rw [HKD.out, if_pos h5])
                  clear h5
                  go_wp2_with (at_builtin; go_must (refine wpList_push_outS rfl (.tmp 121) (.tmp 125) rfl HOK.out (by have := HLN.out; omega) _ _ _ rfl rfl ?_); intro v' w' hP' hK')
                  have hjl := HJL.out
                  exact ⟨⟨j + 1, by omega, by go_num, by rw [HY.out, HK3.out]; exact hP', hK' _ _ _ HRK.out (by decide)⟩, by simp [intOf] <;> omega⟩
                · have hq : (P2.op == 5) = false := by simpa using h5
                  have HK3 : Hid (kindP pts ((j : Nat) : Int) = 2) := Lib.hid (by rw [HKD.out, if_neg h5])
                  clear h5
                  go_wp2_with (at_builtin; go_must (refine wpList_push_outS rfl (.tmp 131) (.tmp 135) rfl HOK.out (by have := HLN.out; omega) _ _ _ rfl rfl ?_); intro v' w' hP' hK')
                  have hjl := HJL.out
                  exact ⟨⟨j + 1, by omega, by go_num, by rw [HY.out, HK3.out]; exact hP', hK' _ _ _ HRK.out (by decide)⟩, by simp [intOf] <;> omega⟩
            · have hje : j = pts.length := by omega
              rw [hje] at HOK ⊢
              rw [← HSUC2.out] at HOK ⊢
              clear hje hcj2 hOk hrk
              go_wp2_with (at_builtin; fail)
              have hlt := HLT.out
              exact ⟨⟨k + 1, by omega, by go_num, HOK.out⟩, by simp [intOf] <;> omega⟩
    · have hke : k = pts.length := by omega
      subst hke
      go_wp2_with (at_builtin; fail)
      go_ret
      exact ⟨_, rfl, by rw [HRES.out]; exact HO.out.own, HBW.out.trans HO.out.bel⟩

end Go.Proofs.Ytfioaohadanjmaa
