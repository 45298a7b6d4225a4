import Derived.Test.YteaddodjijlpjaaG32
import Derived.StillTailTactics
set_option linter.unusedVariables false

/- spec.l10Flow. -/
namespace Go.Proofs.Yteaddodjijlpjaa
open Go.RowKit

/-- what l10Flow answers -/
def FloRet (w : World) (ts : List Int) (pts : List Pt) (G : Nat → Pt → Nat → Bool) (C : Pt → Bool) (s : Nat) (e : Ending) (w' : World) : Prop :=
  ∃ v mv rbs R base, e = .returned v ∧ w.heap.size ≤ base ∧ B3 w' base v mv rbs s R ∧ RwI ts pts G C s R ∧ (∀ i v e, get3 R i v e = true ↔ Fl ts pts G C i v e) ∧ Below w.heap.size w w'
def rep3 (n m s : Nat) : List (List (List Bool)) := List.replicate n (List.replicate m (List.replicate s false))
set_option maxHeartbeats 8000000 in
set_option maxRecDepth 100000 in
theorem l10Flow_any (vt vb : Value) (kd : Int) (s : Nat) (ts : List Int) (l : List St) (G : Nat → Pt → Nat → Bool) (C : Pt → Bool) (B : Nat) (w : World) (ht : IntS w B vt ts) (hl : StS w B vb l) (hB : B ≤ w.heap.size) (hv : validP ts l = true) (hk : KdOk kd s ts (ptsP l) G C) (hG : ∀ i p e, (ptsP l)[i]? = some p → G i p e = true → e < s) (hs : s ≤ 100) :
    Calls Try.prog 57 #[.agg #[vt, vb], .int .i64 kd, .int .i64 (s : Nat)] w (FloRet w ts (ptsP l) G C s) := by
  have GD := Good.of_valid hv
  have hsz : szL l ≤ 4194300 := by have := (valid_parts hv).2.2; omega
  have h6 := GD.h6
  have hlen := GD.len
  have hpos := GD.pos
  have HG := Lib.hid GD
  have HKD := Lib.hid hk
  have HGS := Lib.hid hG
  clear GD hv hk hG
  have ht0 := ht
  obtain ⟨At, ct, rfl, hct, -, -⟩ := ht0
  have H1 := Lib.hid (RowB.new w [.slice At ts.length ct, vb] 26)
  go_enter Try.func57, Try.ntmps57
  go_wp2_with fail
  refine (l2Points_any _ vb l B _ (hl.low (bel_a _ _) hB) (by simp; omega) hsz).mono ?_
  rintro e w1 ⟨vp, rfl, hps, hb1⟩
  have hs1 : w.heap.size < w1.heap.size := by have := hb1.size; simp at this; omega
  have c0 : w1.cell? ⟨w.heap.size, 0, none⟩ = some (.slice At ts.length ct) := box_kept hb1 (by simp) 0
  have c1 : w1.cell? ⟨w.heap.size, 1, none⟩ = some vb := box_kept hb1 (by simp) 1
  have HT1 := Lib.hid ((ht.low (bel_a w _) hB).low hb1 (by simp; omega))
  have HB1 := Lib.hid ((bel_a w _).trans (hb1.mono (by simp)))
  have HPS := Lib.hid hps
  obtain ⟨Ap, cp, rfl, hcp, -⟩ := hps.slice
  generalize hpts : ptsP l = pts at *
  clear hpts hps hb1 ht hl
  have hmk := make_bools s (by omega)
  have HMK := Lib.hid hmk
  clear hmk
  have HB0 : Hid (B3 (w1.alloc (.cells #[] 72)) w1.heap.size (.slice (some ⟨w1.heap.size, 0, none⟩) 0 0) [] [] s (rep3 0 ts.length s)) := Lib.hid (B3.empty w1 w1.heap.size s (Nat.le_refl _))
  go_wp2_with (at_builtin; fail)
  go_loopw [8, 9] (fun v i wr => ∃ (k : Nat) (mv : List Value) (rbs : List (List Nat)), k ≤ pts.length ∧ i = .int .i64 k ∧ B3 wr w1.heap.size v mv rbs s (rep3 k ts.length s) ∧ Below w1.heap.size w1 wr) (fun _ i _ => pts.length - (intOf i).toNat)
  case atStart => exact ⟨0, [], [], Nat.zero_le _, rfl, HB0.out, bel_a w1 _⟩
  case round =>
    obtain ⟨k, mv, rbs, hk, rfl, hbr, hbw⟩ := hrel
    have HBR := Lib.hid hbr
    have HBW := Lib.hid hbw
    have hsr := hbw.size
    obtain ⟨A4, c4, rfl, hc4⟩ := hbr.slice
    have HRL : Hid ((rep3 k ts.length s).length = k) := Lib.hid (by simp [rep3])
    have d0 := (hbw.cell (p := ⟨w.heap.size, 0, none⟩) hs1).trans c0
    clear hbr hbw
    by_cases hlt : k < pts.length
    · have HRS : Hid (rep3 (k + 1) ts.length s = rep3 k ts.length s ++ [List.replicate ts.length (List.replicate s false)]) := Lib.hid (by simp [rep3, List.replicate_succ'])
      have HLOW : Hid (∀ i u, i < (rep3 k ts.length s).length → u < ((rep3 k ts.length s).getD i []).length → (rbs.getD i []).getD u 0 < wr.heap.size) := Lib.hid fun i u hi hu => ((HBR.out.mid i hi).row u hu).1.lt
      have hrl2 : (rep3 k ts.length s).length ≤ 61 := by rw [HRL.out]; omega
      generalize rep3 k ts.length s = R0 at *
      obtain ⟨wo, rfl⟩ : ∃ wo : World, wo = wr := ⟨_, rfl⟩
      have HE0 := Lib.hid (BRow.empty wo wo.heap.size s (Nat.le_refl _))
      have HEB := Lib.hid (bel_a wo (.cells #[] 54))
      go_wp2_with (at_builtin; fail)
      go_loopw [10, 11] (fun v i wy => ∃ (j : Nat) (rb : List Nat), j ≤ ts.length ∧ i = .int .i64 j ∧ BRow wy wo.heap.size v rb s (List.replicate j (List.replicate s false)) ∧ Below wo.heap.size wo wy) (fun _ i _ => ts.length - (intOf i).toNat)
      case atStart => exact ⟨0, [], Nat.zero_le _, rfl, HE0.out, HEB.out⟩
      case round =>
        obtain ⟨j, rb, hj, rfl, hbr, hby⟩ := hrel
        have HBRY := Lib.hid hbr
        have HBY := Lib.hid hby
        have hsy := hby.size
        have e0 := (hby.cell (p := ⟨w.heap.size, 0, none⟩) (by show w.heap.size < wo.heap.size; omega)).trans d0
        obtain ⟨A5, c5, rfl, hc5⟩ := hbr.slice
        have HRL2 : Hid ((List.replicate j (List.replicate s false)).length = j) := Lib.hid (by simp)
        have hrl3 : (List.replicate j (List.replicate s false)).length ≤ 6 := by rw [HRL2.out]; omega
        clear hbr hby
        by_cases hjl : j < ts.length
        · have HRS2 : Hid (List.replicate (j + 1) (List.replicate s false) = List.replicate j (List.replicate s false) ++ [List.replicate s false]) := Lib.hid (by simp [List.replicate_succ'])
          have hmk := HMK.out
          generalize List.replicate j (List.replicate s false) = rws at *
          generalize List.replicate s false = rz at *
          go_wp2_with (at_builtin; go_must (refine wpList_push_row rfl (.tmp 33) (.tmp 36) rfl HBRY.out hsy (by omega) rz rfl rfl ?_); intro v' w' hP' hE')
          exact ⟨⟨j + 1, _, by omega, by go_num, by rw [HRS2.out]; exact hP', HBY.out.trans hE'⟩, by simp [intOf] <;> omega⟩
        · have hje : j = ts.length := by omega
          have HROW : Hid (BRow wr wo.heap.size (.slice A5 (List.replicate j (List.replicate s false)).length c5) rb s (List.replicate ts.length (List.replicate s false))) := Lib.hid (by rw [← hje]; exact HBRY.out)
          have HBR2 := Lib.hid (HBR.out.low HBY.out)
          clear hje
          generalize List.replicate j (List.replicate s false) = rws at *
          generalize List.replicate ts.length (List.replicate s false) = rwt at *
          go_wp2_with (at_builtin; go_must (refine wpList_push_b3 rfl (.tmp 38) (.tmp 40) rfl HBR2.out (by omega) (by omega) _ rb rwt HROW.out (by omega) HLOW.out rfl rfl ?_); intro v' w' hP' hE')
          exact ⟨⟨k + 1, _, _, by omega, by go_num, by rw [HRS.out]; exact hP', (HBW.out.trans (HBY.out.mono hsr)).trans hE'⟩, by simp [intOf] <;> omega⟩
    · have hkl : k = pts.length := by omega
      have HLI : Hid (RwI ts pts G C s (rep3 k ts.length s)) := Lib.hid (by rw [hkl]; exact RwI.init ts pts G C s)
      clear hkl
      generalize rep3 k ts.length s = R0 at *
      obtain ⟨wo, rfl⟩ : ∃ wo : World, wo = wr := ⟨_, rfl⟩
      go_wp2_with (at_builtin; fail)
      go_loopg [12] (1 + muB pts.length ts.length s (get3 R0)) (fun gk c wr => ∃ (b : Bool) (R : List (List (List Bool))), c = .bool b ∧ B3 wr w1.heap.size (.slice A4 R0.length c4) mv rbs s R ∧ R.length = R0.length ∧ RwI ts pts G C s R ∧ (b = true → muB pts.length ts.length s (get3 R) < gk) ∧ (b = false → ∀ i, i < pts.length → ClR ts pts G C s R i) ∧ Below w1.heap.size w1 wr)
      case atStart => exact ⟨true, R0, rfl, HBR.out, rfl, HLI.out, fun _ => by omega, fun h => (by cases h), HBW.out⟩
      case round =>
        obtain ⟨b, R, rfl, hbr, hlr, hli, hmu, hcl, hbw⟩ := hrel
        have HBR2 := Lib.hid hbr
        have HLR := Lib.hid hlr
        have HLI2 := Lib.hid hli
        have HMU := Lib.hid hmu
        have HCL := Lib.hid hcl
        have HBW2 := Lib.hid hbw
        clear hbr hlr hli hmu hcl hbw
        cases b
        · go_wp2_with (at_builtin; fail)
          go_ret
          exact ⟨_, mv, rbs, R, w1.heap.size, rfl, by omega, HBR2.out, HLI2.out, HLI2.out.done HGS.out (HCL.out (by simp)), HB1.out.trans (HBW2.out.mono (by omega))⟩
        · go_wp2_with (at_builtin; fail)
          go_loopw [12, 13] (fun c i wx => ∃ (b : Bool) (k : Nat) (rs : List (List (List Bool))), c = .bool b ∧ i = .int .i64 k ∧ k ≤ pts.length ∧ (B3 wx w1.heap.size (.slice A4 R0.length c4) mv rbs s rs ∧ rs.length = R0.length) ∧ RwI ts pts G C s rs ∧ (b = true → muB pts.length ts.length s (get3 rs) < muB pts.length ts.length s (get3 R)) ∧ (b = false → rs = R ∧ ∀ i, i < k → ClR ts pts G C s R i) ∧ Below w1.heap.size w1 wx) (fun _ i _ => pts.length - (intOf i).toNat)
          case atStart => exact ⟨false, 0, R, rfl, rfl, by omega, ⟨HBR2.out, HLR.out⟩, HLI2.out, fun h => (by cases h), fun _ => ⟨rfl, fun i hi => by omega⟩, HBW2.out⟩
          case round =>
            obtain ⟨b, k, rs, rfl, rfl, hk, hbr, hpp, hmu, hcl, hbx⟩ := hrel
            have HBRX := Lib.hid hbr
            have HPP := Lib.hid hpp
            have HMX := Lib.hid hmu
            have HCX := Lib.hid hcl
            have HBX := Lib.hid hbx
            have hsx := hbx.size
            clear hbr hpp hmu hcl hbx
            by_cases hlt : k < pts.length
            · obtain ⟨bp, op, cp', nv, e, hbp, hcp', hlp, hnx, p0, p1, p2, p3, p4⟩ := HPS.out.get hlt
              injection e with e1 e9 e2
              subst e1 e2
              clear e9
              have HNI := Lib.hid hnx
              obtain ⟨An, cn, rfl, hcn, hln, -⟩ := hnx
              simp only [List.length_map] at hcn hln p4 HNI
              have HPG : Hid (pts[k]? = some pts[k]) := Lib.hid (List.getElem?_eq_getElem hlt)
              have HNX := Lib.hid (HG.out.next _ (List.getElem_mem hlt))
              have hsk := (HG.out.ok _ (List.getElem_mem hlt)).sets
              generalize hP : pts[k] = P at *
              have HP4 := Lib.hid p4
              have hr0 : rs.length = pts.length := HPP.out.len
              obtain ⟨go, ego, hgo, hgl, e9, hgk⟩ := HBRX.out.1.at_ (k := k) (by omega)
              subst ego
              have hmid := HBRX.out.1.mid k (by omega)
              have hrk : (rs.getD k []).length = ts.length := HPP.out.row k (by omega)
              have hri : ∀ v, v < ts.length → ((rs.getD k []).getD v []).length = s := fun v hv => HPP.out.inn k v (by omega) hv
              have HMX2 := Lib.hid (hmid.toX (fun i hi => hri i (by omega)) (by omega))
              have HRK := Lib.hid hrk
              have HRI := Lib.hid hri
              obtain ⟨Am, cm, em, hcm⟩ := hmid.slice
              rw [em] at hgk HMX2
              rw [hrk] at hgk HMX2 hcm
              have hkr : ((k : Nat) : Int) < (R0.length : Int) := by have := HBRX.out.2; omega
              have hkr2 : k < R0.length := by have := HBRX.out.2; omega
              have q0 := (HBX.out.cell (p := ⟨bp, op + k * 5, none⟩) hbp).trans p0
              have q1 := (HBX.out.cell (p := ⟨bp, op + k * 5 + 1, none⟩) hbp).trans p1
              have q2 := (HBX.out.cell (p := ⟨bp, op + k * 5 + 2, none⟩) hbp).trans p2
              have q3 := (HBX.out.cell (p := ⟨bp, op + k * 5 + 3, none⟩) hbp).trans p3
              have q4 := (HBX.out.cell (p := ⟨bp, op + k * 5 + 4, none⟩) hbp).trans p4
              have g0 := (HBX.out.cell (p := ⟨w.heap.size, 0, none⟩) hs1).trans c0
              have g1 := (HBX.out.cell (p := ⟨w.heap.size, 1, none⟩) hs1).trans c1
              have HRBL : Hid (∀ i u, i < rs.length → u < (rs.getD i []).length → (rbs.getD i []).getD u 0 < wr.heap.size) := Lib.hid fun i u hi hu => ((HBRX.out.1.mid i hi).row u hu).1.lt
              have HR0 := Lib.hid hr0
              clear hmid hrk hri em p0 p1 p2 p3 p4 e9 hr0
              go_wp2_with (at_builtin; fail)
              go_still_tail 12, (by kernel_rfl)
              change wpList _ _ _ _ _ wr.drew
              have hbd := (Below.refl wr.heap.size wr).drew
              have hsd := hbd.size
              generalize wr.drew = w2 at *
              go_wp2_with (at_builtin; fail)
              refine (l10After_any _ vb _ _ kd ts pts G C k s B P (rs.getD k []) _ w2 (HT1.out.low (HBX.out.trans (hbd.mono hsx)) (by omega)) (by omega) HPG.out (HMX2.out.bel hbd) HRK.out HRI.out HKD.out hsk hs h6).mono ?_
              rintro e w3 ⟨va, af, rfl, hax, har, hb3⟩
              have HBD := Lib.hid (hbd.trans (hb3.mono hsd))
              have HAX : Hid (RwX w3 (fun b => wr.heap.size ≤ b) va af) := Lib.hid (hax.frame (Nat.le_refl _) fun b hb _ => ⟨by have hb' : w2.heap.size ≤ b := hb; show wr.heap.size ≤ b; omega, rfl⟩)
              have HAR := Lib.hid har
              have hs3 := HBD.out.size
              have HB3 := Lib.hid (HBX.out.trans (HBD.out.mono hsx))
              have HBR3 := Lib.hid (HBRX.out.1.low HBD.out)
              have HSND : Hid (∀ n ∈ P.next, ∀ v e, v < ts.length → e < s → rget af v e = true → Fl ts pts G C n v e) := Lib.hid fun n hn v e hv he ha => AfR.snd HPP.out HAR.out HPG.out hn hv he ha
              obtain ⟨Aa, ca, rfl, hca⟩ := hax.slice
              clear hax har hb3 hbd q0 q1 q2 q3 q4 g0 g1 hgk HMX2
              generalize hnxt : P.next = nx at *
              have HNXT := Lib.hid hnxt
              clear hnxt
              obtain ⟨wo2, rfl⟩ : ∃ wo2 : World, wo2 = wr := ⟨_, rfl⟩
              go_wp2_with (at_builtin; fail)
              go_loopw [12, 15] (fun c i wy => ∃ (d : Bool) (j : Nat) (rs2 : List (List (List Bool))), c = .bool d ∧ i = .int .i64 j ∧ j ≤ nx.length ∧ (B3 wy w1.heap.size (.slice (some ⟨go, 0, none⟩) R0.length c4) mv rbs s rs2 ∧ rs2.length = R0.length) ∧ RwI ts pts G C s rs2 ∧ (d = true → muB pts.length ts.length s (get3 rs2) < muB pts.length ts.length s (get3 R)) ∧ (d = false → (b = false ∧ rs2 = rs) ∧ ∀ n ∈ nx.take j, ClE ts G C s rs k P n) ∧ RwX wy (fun b => wo2.heap.size ≤ b) (.slice Aa af.length ca) af ∧ Below w1.heap.size w1 wy) (fun _ i _ => nx.length - (intOf i).toNat)
              case atStart => exact ⟨b, 0, rs, rfl, rfl, Nat.zero_le _, ⟨HBR3.out, HBRX.out.2⟩, HPP.out, HMX.out, fun h => ⟨⟨h, rfl⟩, fun n hn => by simp at hn⟩, HAX.out, HB3.out⟩
              case round =>
                obtain ⟨d, j, rs2, rfl, rfl, hj, hbr, hpp, hmu, hcl, hax, hby⟩ := hrel
                have HBRY := Lib.hid hbr
                have HPY := Lib.hid hpp
                have HMY := Lib.hid hmu
                have HCY := Lib.hid hcl
                have HAY := Lib.hid hax
                have HBY := Lib.hid hby
                have hsy := hby.size
                have q4 := (hby.cell (p := ⟨bp, op + k * 5 + 4, none⟩) hbp).trans HP4.out
                clear hbr hpp hmu hcl hax hby
                by_cases hjl : j < nx.length
                · obtain ⟨An', cn', en, -, -, hrd⟩ := HNI.out.low HBY.out (Nat.le_refl _)
                  simp only [List.length_map] at en
                  injection en with e1 e9 e2
                  subst e1 e2
                  clear e9
                  obtain ⟨bn, on, rfl, hbn, hcn2⟩ := hrd.int_at (k := j) (by simpa using hjl)
                  have hcj := hcn2 j (by simpa using hjl)
                  rw [getD_lt (by simpa using hjl), List.getElem_map] at hcj
                  have hmem : nx[j] ∈ nx := List.getElem_mem hjl
                  have HTK := Lib.hid (take_succ_get nx j hjl)
                  generalize hnn : nx[j] = n at *
                  have hnl : n < pts.length := HNX.out n hmem
                  have HMEM := Lib.hid hmem
                  clear hnn hmem hcn2 hrd
                  have hr2 : rs2.length = pts.length := HPY.out.len
                  obtain ⟨go', ego, hgo', hgl', e9, hgn⟩ := HBRY.out.1.at_ (k := n) (by omega)
                  injection ego with e1
                  injection e1 with e1
                  subst e1
                  clear e9
                  have hmid := HBRY.out.1.mid n (by omega)
                  have hrn : (rs2.getD n []).length = ts.length := HPY.out.row n (by omega)
                  have hri : ∀ v, v < ts.length → ((rs2.getD n []).getD v []).length = s := fun v hv => HPY.out.inn n v (by omega) hv
                  obtain ⟨Am2, cm2, em, hcm2⟩ := hmid.slice
                  rw [em] at hgn
                  rw [hrn] at hgn
                  have hrs0 : rs.length = pts.length := HR0.out
                  have HPX : Hid (∀ b u, wo2.heap.size ≤ b → u < ts.length → b ≠ (rbs.getD n []).getD u 0) := Lib.hid fun b u hb hu e => by
                    have := HRBL.out n u (by omega) (by rw [HPP.out.row n (by omega)]; exact hu)
                    omega
                  have HMG := Lib.hid (l10Merge_any _ _ _ ts.length s (rbs.getD n []) (rs2.getD n []) af _ wr hmid hrn hri HAY.out HAR.out.len HAR.out.inn HPX.out (by omega) hs)
                  rw [em, hrn] at HMG
                  have HEM := Lib.hid em
                  have HRN := Lib.hid hrn
                  have HR2 := Lib.hid hr2
                  have hnr : ((n : Nat) : Int) < (R0.length : Int) := by have := HBRY.out.2; omega
                  have hnr2 : n < R0.length := by have := HBRY.out.2; omega
                  clear hmid hrn hri em hr2
                  go_wp2_with (at_builtin; fail)
                  refine HMG.out.mono ?_
                  rintro e w5 ⟨c, r', rfl, hbr5, hmg, hyes, hno, hon⟩
                  have hn2 : n < rs2.length := by have := HR2.out; omega
                  have HB5 : Hid (B3 w5 w1.heap.size (.slice (some ⟨go, 0, none⟩) R0.length c4) mv rbs s (rs2.set n r')) := Lib.hid (HBRY.out.1.merge hn2 (by rw [hmg.len, HRN.out]) (by rw [HEM.out, HRN.out]; exact hbr5) (hon.mono fun b hb => by obtain ⟨u, hu, e⟩ := hb; exact ⟨u, by rw [HRN.out]; exact hu, e⟩))
                  have HLB : Hid (Below w1.heap.size w1 w5) := Lib.hid (HBY.out.trans (hon.below hsy (fun b hb => by
                    obtain ⟨u, hu, e⟩ := hb
                    rw [e]
                    exact ((HBRY.out.1.mid n hn2).row u (by rw [HRN.out]; exact hu)).2)))
                  have HA5 := Lib.hid (HAY.out.onl hon fun b hb => fun ⟨u, hu, e⟩ => HPX.out b u hb hu e)
                  have HMG2 := Lib.hid hmg
                  have HUP : Hid (RwI ts pts G C s (rs2.set n r')) := Lib.hid (HPY.out.upd hn2 hmg fun v e hv he ha => HSND.out n (by first | exact HMEM.out | (rw [HNXT.out]; exact HMEM.out)) v e hv he ha)
                  have HYES : Hid (c = true → muB pts.length ts.length s (get3 (rs2.set n r')) < muB pts.length ts.length s (get3 rs2)) := Lib.hid fun h => by
                    obtain ⟨v, e, hv, he, h0, h1⟩ := hyes h
                    exact HPY.out.mu hn2 hmg hv he h0 h1
                  have HNO : Hid (c = false → rs2.set n r' = rs2 ∧ ∀ v e, v < ts.length → e < s → rget af v e = true → rget (rs2.getD n []) v e = true) := Lib.hid fun h => by
                    have e0 := hno h
                    refine ⟨by rw [e0, getD_lt hn2]; exact List.set_getElem_self hn2, fun v e hv he ha => ?_⟩
                    have := hmg.get v e hv he
                    rw [e0, ha, Bool.or_true] at this
                    exact this
                  have HLL : Hid ((rs2.set n r').length = R0.length) := Lib.hid (by rw [List.length_set]; exact HBRY.out.2)
                  clear hbr5 hmg hyes hno hon hn2 q4
                  cases c
                  · obtain ⟨e7, e8⟩ := HNO.out rfl
                    have HE7 := Lib.hid e7
                    have HE8 := Lib.hid e8
                    rw [e7] at HB5
                    clear e7 e8
                    go_wp2_with (at_builtin; fail)
                    refine ⟨⟨d, j + 1, rs2, rfl, by go_num, by omega, ⟨HB5.out, HBRY.out.2⟩, HPY.out, HMY.out, fun h => ⟨(HCY.out h).1, fun n' hn' => ?_⟩, HA5.out, HLB.out⟩, by simp [intOf] <;> omega⟩
                    obtain ⟨⟨e0, e1⟩, e2⟩ := HCY.out h
                    rw [HTK.out, List.mem_append, List.mem_singleton] at hn'
                    rcases hn' with hn' | hn'
                    · exact e2 n' hn'
                    · subst hn'
                      intro v e hv he ha
                      rw [← HAR.out.get v e hv he] at ha
                      have := HE8.out v e hv he ha
                      rw [e1] at this
                      exact this
                  · go_wp2_with (at_builtin; fail)
                    refine ⟨⟨true, j + 1, rs2.set n r', rfl, by go_num, by omega, ⟨HB5.out, HLL.out⟩, HUP.out, fun _ => ?_, fun h => (by cases h), HA5.out, HLB.out⟩, by simp [intOf] <;> omega⟩
                    have h1 := HYES.out (by simp)
                    cases d
                    · obtain ⟨⟨e0, e1⟩, _⟩ := HCY.out rfl
                      have e3 := (HCX.out e0).1
                      rw [← e3, ← e1]; exact h1
                    · exact Nat.lt_trans h1 (HMY.out rfl)
                · have hje : j = nx.length := by omega
                  have HE : Hid (d = false → rs2 = R ∧ ∀ i, i < k + 1 → ClR ts pts G C s R i) := Lib.hid fun h => by
                    obtain ⟨⟨e0, e1⟩, e2⟩ := HCY.out h
                    obtain ⟨e3, e4⟩ := HCX.out e0
                    refine ⟨e1.trans e3, fun i hi => ?_⟩
                    by_cases hik : i = k
                    · subst hik
                      intro p hp n hn
                      rw [HPG.out] at hp
                      injection hp with hp
                      subst hp
                      rw [HNXT.out] at hn
                      rw [hje, List.take_length] at e2
                      rw [← e3]
                      exact e2 n hn
                    · exact e4 i (by omega)
                  clear hje
                  go_wp2_with (at_builtin; fail)
                  exact ⟨⟨d, k + 1, rs2, rfl, by go_num, by omega, HBRY.out, HPY.out, HMY.out, HE.out, HBY.out⟩, by simp [intOf] <;> omega⟩
            · have hke : k = pts.length := by omega
              have HCE : Hid (b = false → rs = R ∧ ∀ i, i < pts.length → ClR ts pts G C s R i) := Lib.hid (by rw [← hke]; exact HCX.out)
              clear hke
              go_wp2_with (at_builtin; fail)
              cases b
              · obtain ⟨e1, e2⟩ := HCE.out rfl
                go_roundg 0
                case measure => have := HMU.out (by simp); omega
                case rel => exact ⟨false, rs, rfl, HBRX.out.1, HBRX.out.2, HPP.out, fun h => (by cases h), fun _ => (by rw [e1]; exact e2), HBX.out⟩
              · go_roundg (muB pts.length ts.length s (get3 rs) + 1)
                case measure => have := HMU.out (by simp); have := HMX.out rfl; omega
                case rel => exact ⟨true, rs, rfl, HBRX.out.1, HBRX.out.2, HPP.out, fun _ => (by omega), fun h => (by cases h), HBX.out⟩

end Go.Proofs.Yteaddodjijlpjaa
