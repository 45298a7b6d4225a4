import Derived.Test.YtfioaohadanjmaaC11
import Derived.Deep.RegionHeld3
set_option linter.unusedVariables false

/- spec.l3Live. -/
namespace Go.Proofs.Ytfioaohadanjmaa
open Go.RowKit

/-- what spec.l3Live answers, for the points pts -/
def LvRet (w : World) (ts : List Int) (pts : List Pt) (e : Ending) (w' : World) : Prop :=
  ∃ v rb rows base, e = .returned v ∧ w.heap.size ≤ base ∧ BRow w' base v rb ts.length rows ∧ rows.length = pts.length ∧ (∀ i, i < rows.length → (rows.getD i []).length = ts.length) ∧
    (∀ i v, rget rows i v = true ↔ ∃ p, pts[i]? = some p ∧ ∃ k ∈ p.next, Nd ts pts k v) ∧ Below w.heap.size w w'
/-- the rows within one pass: b says that something has turned since the pass began, with the rows r0 -/
def LvP (ts : List Int) (pts : List Pt) (r0 : List (List Bool)) (b : Bool) (rows : List (List Bool)) : Prop :=
  LvI ts pts rows ∧ muR rows ≤ muR r0 ∧ (b = true → muR rows < muR r0) ∧ (b = false → rows = r0)
/-- the rows r0 are closed from point i on -/
def LvC (ts : List Int) (pts : List Pt) (r0 : List (List Bool)) (i : Nat) : Prop := ∀ j p, i ≤ j → pts[j]? = some p → ∀ n ∈ p.next, ∀ q, pts[n]? = some q → ∀ v, v < ts.length → needB ts q (rget r0 n v) v = true → rget r0 j v = true
/-- .. and at point i, along its first k edges -/
def LvE (ts : List Int) (pts : List Pt) (r0 : List (List Bool)) (i k : Nat) (nx : List Nat) : Prop := ∀ n ∈ nx.take k, ∀ q, pts[n]? = some q → ∀ v, v < ts.length → needB ts q (rget r0 n v) v = true → rget r0 i v = true
/-- .. and along the edge to n for the first u variables -/
def LvV (ts : List Int) (pts : List Pt) (r0 : List (List Bool)) (i n u : Nat) : Prop := ∀ q, pts[n]? = some q → ∀ v, v < u → needB ts q (rget r0 n v) v = true → rget r0 i v = true

set_option maxHeartbeats 8000000
set_option maxRecDepth 100000
theorem l3Live_any (vt vb : Value) (ts : List Int) (l : List St) (B : Nat) (w : World) (ht : IntS w B vt ts) (hl : StS w B vb l) (hB : B ≤ w.heap.size) (hv : validP ts l = true) :
    Calls Try.prog 56 #[.agg #[vt, vb]] w (LvRet w ts (ptsP l)) := by
  have G := Good.of_valid hv
  have hsz : szL l ≤ 4194300 := by have := (valid_parts hv).2.2; omega
  have h6 := G.h6
  have hlen := G.len
  have HG := Lib.hid G
  clear G hv
  have ht0 := ht
  obtain ⟨At, ct, rfl, hct, -, -⟩ := ht0
  go_enter Try.func56, Try.ntmps56
  go_wp2_with fail
  refine (l2Points_any _ vb l B _ (hl.low (bel_a _ _) hB) (by simp; omega) hsz).mono ?_
  rintro e w1 ⟨vp, rfl, hps, hb1⟩
  have hs1 : w.heap.size < w1.heap.size := by have := hb1.size; simp at this; omega
  have c0 : w1.cell? ⟨w.heap.size, 0, none⟩ = some (.slice At ts.length ct) := box_kept hb1 (by simp) 0
  have HT1 := Lib.hid ((ht.low (bel_a w _) hB).low hb1 (by simp; omega))
  have HB1 := Lib.hid ((bel_a w _).trans (hb1.mono (by simp)))
  have HPS := Lib.hid hps
  obtain ⟨Ap, cp, rfl, hcp, -⟩ := hps.slice
  have hpos := HG.out.pos
  generalize hpts : ptsP l = pts at *
  clear hpts hps hb1 ht hl
  have hmk := make_bools ts.length (by omega)
  go_wp2_with fail
  have HB0 : Hid (BRow (w1.alloc (.cells #[] 59)) w1.heap.size (.slice (some ⟨w1.heap.size, 0, none⟩) 0 0) [] ts.length (List.replicate 0 (List.replicate ts.length false))) := Lib.hid (BRow.empty w1 w1.heap.size ts.length (Nat.le_refl _))
  go_loopw [4, 5] (fun v i wr => ∃ (k : Nat) (rb : List Nat), k ≤ pts.length ∧ i = .int .i64 k ∧ BRow wr w1.heap.size v rb ts.length (List.replicate k (List.replicate ts.length false)) ∧ Below w1.heap.size w1 wr) (fun _ i _ => pts.length - (intOf i).toNat)
  case atStart => exact ⟨0, [], Nat.zero_le _, rfl, HB0.out, bel_a w1 _⟩
  case round =>
    obtain ⟨k, rb, hk, rfl, hbr, hbw⟩ := hrel
    have HBR := Lib.hid hbr
    have HBW := Lib.hid hbw
    have hsr := hbw.size
    obtain ⟨A4, c4, rfl, hc4⟩ := hbr.slice
    have d0 := (hbw.cell (p := ⟨w.heap.size, 0, none⟩) hs1).trans c0
    clear hbr hbw
    by_cases hlt : k < pts.length
    · have HRL : Hid ((List.replicate k (List.replicate ts.length false)).length = k) := Lib.hid (by simp)
      have HRS : Hid (List.replicate (k + 1) (List.replicate ts.length false) = List.replicate k (List.replicate ts.length false) ++ [List.replicate ts.length false]) := Lib.hid (by rw [List.replicate_succ'])
      generalize List.replicate k (List.replicate ts.length false) = rws at *
      have hrl : rws.length ≤ 61 := by rw [HRL.out]; omega
      generalize hR : List.replicate ts.length false = row at *
      have HR := Lib.hid hR
      clear hR
      go_wp2_with (at_builtin; go_must (refine wpList_push_row rfl (.tmp 21) (.tmp 26) rfl HBR.out (by omega) (by omega) row rfl rfl ?_); intro v' w' hP' hE')
      case roundEnd =>
        refine ⟨⟨k + 1, rb ++ [wr.heap.size], by omega, by go_num, ?_, HBW.out.trans (hE'.mono (by omega))⟩, by simp [intOf] <;> omega⟩
        rw [HRS.out]
        exact hP'
    · have hkl : k = pts.length := by omega
      have HLI : Hid (LvI ts pts (List.replicate k (List.replicate ts.length false))) := Lib.hid (by rw [hkl]; exact LvI.init ts pts)
      clear hkl
      generalize List.replicate k (List.replicate ts.length false) = rows0 at *
      obtain ⟨wo, rfl⟩ : ∃ wo : World, wo = wr := ⟨_, rfl⟩
      go_wp2_with fail
      go_loopg [6] (1 + muR rows0) (fun gk c wr => ∃ (b : Bool) (rows : List (List Bool)), c = .bool b ∧ BRow wr w1.heap.size (.slice A4 rows0.length c4) rb ts.length rows ∧ rows.length = rows0.length ∧ LvI ts pts rows ∧ (b = true → muR rows < gk) ∧ (b = false → LvC ts pts rows 0) ∧ Below w1.heap.size w1 wr)
      case atStart => exact ⟨true, rows0, rfl, HBR.out, rfl, HLI.out, fun _ => by omega, fun h => (by cases h), HBW.out⟩
      case round =>
        obtain ⟨b, rows, rfl, hbr, hlr, hli, hmu, hcl, hbw⟩ := hrel
        have HBR2 := Lib.hid hbr
        have HLR := Lib.hid hlr
        have HLI2 := Lib.hid hli
        have HMU := Lib.hid hmu
        have HCL := Lib.hid hcl
        have HBW2 := Lib.hid hbw
        clear hbr hlr hli hmu hcl hbw
        cases b
        · go_wp2_with fail
          go_ret
          exact ⟨_, rb, rows, w1.heap.size, rfl, by omega, HBR2.out, by rw [HLR.out]; exact HLI.out.len, HLI2.out.row, HLI2.out.done HG.out.next fun i p hp n hn q hq v hv => HCL.out (by simp) i p (Nat.zero_le _) hp n hn q hq v hv, HB1.out.trans (HBW2.out.mono (by omega))⟩
        · go_wp2_with fail
          go_loopw [6, 7] (fun c i wx => ∃ (b : Bool) (k : Nat) (z : Int) (rs : List (List Bool)), c = .bool b ∧ i = .int .i64 z ∧ z ≤ (k : Int) - 1 ∧ (k : Int) - 1 ≤ z ∧ k ≤ pts.length ∧ (BRow wx w1.heap.size (.slice A4 rows0.length c4) rb ts.length rs ∧ rs.length = rows0.length) ∧ LvP ts pts rows b rs ∧ (b = false → LvC ts pts rows k) ∧ Below w1.heap.size w1 wx) (fun _ i _ => (intOf i + 1).toNat)
          case atStart => exact ⟨false, pts.length, _, rows, rfl, rfl, by omega, by omega, by omega, ⟨HBR2.out, HLR.out⟩, ⟨HLI2.out, Nat.le_refl _, fun h => (by cases h), fun _ => rfl⟩, (fun _ j p hj hp => by rw [List.getElem?_eq_none hj] at hp; cases hp), HBW2.out⟩
          case round =>
            obtain ⟨b, k, z, rs, rfl, rfl, hz1, hz2, hk, hbr, hpp, hcl, hbx⟩ := hrel
            have HBRX := Lib.hid hbr
            have HPP := Lib.hid hpp
            have HCX := Lib.hid hcl
            have HBX := Lib.hid hbx
            have hsx := hbx.size
            clear hbr hpp hcl hbx
            cases k with
            | zero =>
              have hzn : z < 0 := by omega
              go_wp2_with fail
              cases b
              · go_roundg 0
                case measure => have := HMU.out (by simp); omega
                case rel => exact ⟨false, rs, rfl, HBRX.out.1, HBRX.out.2, HPP.out.1, fun h => (by cases h), fun _ => by rw [HPP.out.2.2.2 (by simp)]; exact HCX.out (by simp), HBX.out⟩
              · go_roundg (muR rs + 1)
                case measure => have := HMU.out (by simp); have := HPP.out.2.2.1 (by simp); omega
                case rel => exact ⟨true, rs, rfl, HBRX.out.1, HBRX.out.2, HPP.out.1, fun _ => by omega, fun h => (by cases h), HBX.out⟩
            | succ k =>
              obtain rfl : z = (k : Int) := by omega
              have hlt : k < pts.length := by omega
              obtain ⟨bp, op, cp', nv, e, hbp, hcp', hlp, hnx, p0, p1, p2, p3, p4⟩ := HPS.out.get hlt
              injection e with e1 _ e2
              subst e1 e2
              have hnx0 := hnx
              obtain ⟨An, cn, rfl, hcn, hln, hrn⟩ := hnx
              have HNI := Lib.hid hnx0
              clear hnx0 hrn
              simp only [List.length_map] at hcn hln p4 HNI
              have HPG : Hid (pts[k]? = some pts[k]) := Lib.hid (List.getElem?_eq_getElem hlt)
              have HNX := Lib.hid (HG.out.next _ (List.getElem_mem hlt))
              have hn2 := HG.out.next2 _ (List.getElem_mem hlt)
              have hbp1 : bp < w1.heap.size := hbp
              have HP4 := Lib.hid p4
              clear p0 p1 p2 p3 p4
              generalize hnxt : pts[k].next = nx at *
              have HNXT := Lib.hid hnxt
              clear hnxt
              obtain ⟨wo2, rfl⟩ : ∃ wo2 : World, wo2 = wr := ⟨_, rfl⟩
              go_wp2_with fail
              go_loopw [6, 8] (fun c i wy => ∃ (b2 : Bool) (j : Nat) (rs2 : List (List Bool)), c = .bool b2 ∧ i = .int .i64 j ∧ j ≤ nx.length ∧ (BRow wy w1.heap.size (.slice A4 rows0.length c4) rb ts.length rs2 ∧ rs2.length = rows0.length) ∧ LvP ts pts rows b2 rs2 ∧ (b2 = false → LvC ts pts rows (k + 1) ∧ LvE ts pts rows k j nx) ∧ Below w1.heap.size w1 wy) (fun _ i _ => nx.length - (intOf i).toNat)
              case atStart => exact ⟨b, 0, rs, rfl, rfl, Nat.zero_le _, HBRX.out, HPP.out, fun h => ⟨HCX.out h, fun n hn => by simp at hn⟩, HBX.out⟩
              case round =>
                obtain ⟨b2, j, rs2, rfl, rfl, hj, hbr, hpp, hcl, hby⟩ := hrel
                have HBRY := Lib.hid hbr
                have HPY := Lib.hid hpp
                have HCY := Lib.hid hcl
                have HBY := Lib.hid hby
                have hsy := hby.size
                have q4 := (hby.cell (p := ⟨bp, op + k * 5 + 4, none⟩) hbp1).trans HP4.out
                clear hbr hpp hcl hby
                by_cases hjl : j < nx.length
                · have hnx2 := (HNI.out.low HBY.out (Nat.le_refl _))
                  obtain ⟨An', cn', en, _, _, hrd⟩ := hnx2
                  simp only [List.length_map] at en
                  injection en with e1 _ e2
                  subst e1 e2
                  obtain ⟨bn, on, rfl, hbn, hcn2⟩ := hrd.int_at (k := j) (by simpa using hjl)
                  have hcj := hcn2 j (by simpa using hjl)
                  rw [getD_lt (by simpa using hjl), List.getElem_map] at hcj
                  have hmem : nx[j] ∈ nx := List.getElem_mem hjl
                  have HTK := Lib.hid (take_succ_get nx j hjl)
                  generalize hnn : nx[j] = n at *
                  have hnl : n < pts.length := HNX.out n hmem
                  have HMEM := Lib.hid hmem
                  clear hnn hmem hcn2 hrd
                  obtain ⟨bq, oq, cq, nvq, eq, hbq, -, -, hnvq, q0, q1, q2, q3, q5⟩ := HPS.out.get hnl
                  injection eq with e1 _ e3
                  injection e1 with e1
                  injection e1 with e1 e2
                  subst e1 e2 e3
                  obtain ⟨Aq, cq', rfl, -, -, -⟩ := hnvq
                  simp only [List.length_map] at q5
                  have HQ0 := Lib.hid q0
                  have HQ1 := Lib.hid q1
                  have HQ2 := Lib.hid q2
                  have HQ3 := Lib.hid q3
                  have HQ5 := Lib.hid q5
                  have HPQ : Hid (pts[n]? = some pts[n]) := Lib.hid (List.getElem?_eq_getElem hnl)
                  clear q0 q1 q2 q3 q5
                  obtain ⟨wo3, rfl⟩ : ∃ wo3 : World, wo3 = wr := ⟨_, rfl⟩
                  go_wp2_with fail
                  go_loopw [6, 10] (fun c i wz => ∃ (b3 : Bool) (u : Nat) (rs3 : List (List Bool)), c = .bool b3 ∧ i = .int .i64 u ∧ u ≤ ts.length ∧ (BRow wz w1.heap.size (.slice A4 rows0.length c4) rb ts.length rs3 ∧ rs3.length = rows0.length) ∧ LvP ts pts rows b3 rs3 ∧ (b3 = false → (LvC ts pts rows (k + 1) ∧ LvE ts pts rows k j nx) ∧ LvV ts pts rows k n u) ∧ Below w1.heap.size w1 wz) (fun _ i _ => ts.length - (intOf i).toNat)
                  case atStart => exact ⟨b2, 0, rs2, rfl, rfl, Nat.zero_le _, HBRY.out, HPY.out, fun h => ⟨HCY.out h, fun q hq v hv => by omega⟩, HBY.out⟩
                  case round =>
                    obtain ⟨b3, u, rs3, rfl, rfl, hu, hbr, hpp, hcl, hbz⟩ := hrel
                    have HBRZ := Lib.hid hbr
                    have HPZ := Lib.hid hpp
                    have HCZ := Lib.hid hcl
                    have HBZ := Lib.hid hbz
                    have hsz' := hbz.size
                    have g0 := (hbz.cell (p := ⟨w.heap.size, 0, none⟩) hs1).trans c0
                    clear hbr hpp hcl hbz
                    by_cases hul : u < ts.length
                    · have hq0 := (HBZ.out.cell (p := ⟨bp, op + n * 5, none⟩) hbp1).trans HQ0.out
                      have hq1 := (HBZ.out.cell (p := ⟨bp, op + n * 5 + 1, none⟩) hbp1).trans HQ1.out
                      have hq2 := (HBZ.out.cell (p := ⟨bp, op + n * 5 + 2, none⟩) hbp1).trans HQ2.out
                      have hq3 := (HBZ.out.cell (p := ⟨bp, op + n * 5 + 3, none⟩) hbp1).trans HQ3.out
                      have hq5 := (HBZ.out.cell (p := ⟨bp, op + n * 5 + 4, none⟩) hbp1).trans HQ5.out
                      have hr0 : rs3.length = pts.length := HPZ.out.1.len
                      obtain ⟨go, c4', ego, hgo, hgo2, hgo3, hgc, -⟩ := HBRZ.out.1.form (by omega)
                      injection ego with e1 _ e2
                      subst e1 e2
                      have hnr : ((n : Nat) : Int) < (rs3.length : Int) := by omega
                      have hkr : ((k : Nat) : Int) < (rs3.length : Int) := by omega
                      have hgn := hgc n (by omega)
                      have hgk := hgc k (by omega)
                      have hrn := (HBRZ.out.1.row n (by omega)).1
                      have hrk := (HBRZ.out.1.row k (by omega)).1
                      have hln : (rs3.getD n []).length = ts.length := HPZ.out.1.row n (by omega)
                      have hlk : (rs3.getD k []).length = ts.length := HPZ.out.1.row k (by omega)
                      have hcn' : wr.cell? ⟨rb.getD n 0, u, none⟩ = some (.bool (rget rs3 n u)) := by rw [hrn.cell, bv_get (by omega)]; rfl
                      have hck' : wr.cell? ⟨rb.getD k 0, u, none⟩ = some (.bool (rget rs3 k u)) := by rw [hrk.cell, bv_get (by omega)]; rfl
                      have hfk := hrk.frozen u
                      have hrnl := hrn.lt
                      have hrkl := hrk.lt
                      have HLK := Lib.hid hlk
                      have HR0 := Lib.hid hr0
                      obtain ⟨bnu, hbnu⟩ : ∃ bnu, bnu = rget rs3 n u := ⟨_, rfl⟩
                      obtain ⟨bku, hbku⟩ : ∃ bku, bku = rget rs3 k u := ⟨_, rfl⟩
                      rw [← hbnu] at hcn'
                      rw [← hbku] at hck'
                      have HBNU := Lib.hid hbnu
                      have HBKU := Lib.hid hbku
                      obtain ⟨rn, ern⟩ : ∃ rn, rn = rb.getD n 0 := ⟨_, rfl⟩
                      obtain ⟨rk, erk⟩ : ∃ rk, rk = rb.getD k 0 := ⟨_, rfl⟩
                      rw [← ern] at hgn hcn' hrnl
                      rw [← erk] at hgk hck' hfk hrkl
                      have HRK := Lib.hid erk
                      have HRKB : Hid (w1.heap.size ≤ rk) := Lib.hid (by rw [erk]; exact (HBRZ.out.1.row k (by omega)).2)
                      have HSW := Lib.hid hsz'
                      have hwz : w.heap.size < wr.heap.size := by omega
                      have hbpz : bp < wr.heap.size := by omega
                      have HCU : Hid (∀ w', Below wr.heap.size wr w' → Calls Try.prog 60 #[.slice At ts.length ct, .agg #[.int .i64 pts[n].op, .int .i64 pts[n].x, .int .i64 pts[n].y, .int .i64 pts[n].n, .slice Aq pts[n].next.length cq'], .int .i64 (u : Nat)] w' fun e w'' => e = .returned (.int .i64 (useP ts pts[n].op pts[n].x pts[n].y (u : Nat))) ∧ Below wr.heap.size wr w'') :=
                        Lib.hid fun w' h => (l3Use_any _ ts B _ _ _ _ _ _ _ (HT1.out.low (HBZ.out.trans (h.mono hsz')) (by omega)) (by have := h.size; omega) (by omega) (by omega)).mono fun e w'' ⟨he, hb⟩ => ⟨he, h.trans (hb.mono h.size)⟩
                      have HCS : Hid (∀ w', Below wr.heap.size wr w' → Calls Try.prog 78 #[.agg #[.int .i64 pts[n].op, .int .i64 pts[n].x, .int .i64 pts[n].y, .int .i64 pts[n].n, .slice Aq pts[n].next.length cq']] w' fun e w'' => e = .returned (.int .i64 (setsP pts[n].op pts[n].x)) ∧ Below wr.heap.size wr w'') :=
                        Lib.hid fun w' h => (l3Set_any _ _ _ _ _ w').mono fun e w'' ⟨he, hb⟩ => ⟨he, h.trans (hb.mono h.size)⟩
                      clear hgc hrn hrk hln hlk hr0 hbnu hbku ern erk
                      go_wp2_with fail
                      cases hu : (useP ts pts[n].op pts[n].x pts[n].y (u : Nat) != 0)
                      · cases bnu
                        · have HND : Hid (needB ts pts[n] false u = false) := Lib.hid (by unfold needB; rw [hu]; rfl)
                          refine wp_region_seq (Below wr.heap.size wr) (by kernel_rfl) (by kernel_rfl) (Below.refl _ _).drew ?_
                          repeat (first
                            | (refine SeqS.skip (by rfl) ?_; (try simp only [Act.put, List.setIfInBounds_toArray, List.set_cons_zero, List.set_cons_succ]))
                            | (refine SeqS.pure (v := ?_) (by rfl) (fun w' hSw => ?_) ?_; rotate_left; (obtain ⟨hc9, hf9⟩ := bcell hSw; go_simp; with_reducible rfl); (try simp only [Act.put, List.setIfInBounds_toArray, List.set_cons_zero, List.set_cons_succ]))
                            | (refine SeqS.call (f := ?_) (args := ?_) (v := ?_) (by rfl) (fun w' => ?_) (fun w' hSw => ?_) ?_; rotate_left 3; (go_simp; constructor; (with_reducible rfl); (with_reducible rfl)); (first | exact HCU.out _ hSw | exact HCS.out _ hSw | fail); (try simp only [Act.put, List.setIfInBounds_toArray, List.set_cons_zero, List.set_cons_succ]))
                            | fail)
                          intro w2 hb2
                          have kg := (hb2.cell (p := ⟨go, k, none⟩) hgo2).trans hgk
                          have kc := (hb2.cell (p := ⟨rk, u, none⟩) hrkl).trans hck'
                          have kf := (hb2.frozen (p := ⟨rk, u, none⟩) hrkl).trans hfk
                          have HBX9 := Lib.hid hb2
                          have hsx9 := hb2.size
                          clear hb2
                          go_wp2_with fail
                          case roundEnd =>
                            refine ⟨⟨b3, u + 1, rs3, rfl, by go_num, by omega, ⟨HBRZ.out.1.low HBX9.out, HBRZ.out.2⟩, HPZ.out, fun h => ⟨(HCZ.out h).1, fun q hq v hv hnd => ?_⟩, HBZ.out.trans (HBX9.out.mono HSW.out)⟩, by simp [intOf] <;> omega⟩
                            by_cases hvu : v = u
                            · subst hvu
                              rw [HPQ.out] at hq
                              injection hq with hq
                              subst hq
                              rw [← HPZ.out.2.2.2 h, ← HBNU.out, HND.out] at hnd
                              cases hnd
                            · exact (HCZ.out h).2 q hq v (by omega) hnd
                        · cases hse : (setsP pts[n].op pts[n].x != (u : Nat))
                          · have HND : Hid (needB ts pts[n] true u = false) := Lib.hid (by unfold needB; rw [hu]; simp at hse; simp [hse])
                            refine wp_region_seq (Below wr.heap.size wr) (by kernel_rfl) (by kernel_rfl) (Below.refl _ _).drew ?_
                            repeat (first
                              | (refine SeqS.skip (by rfl) ?_; (try simp only [Act.put, List.setIfInBounds_toArray, List.set_cons_zero, List.set_cons_succ]))
                              | (refine SeqS.pure (v := ?_) (by rfl) (fun w' hSw => ?_) ?_; rotate_left; (obtain ⟨hc9, hf9⟩ := bcell hSw; go_simp; with_reducible rfl); (try simp only [Act.put, List.setIfInBounds_toArray, List.set_cons_zero, List.set_cons_succ]))
                              | (refine SeqS.call (f := ?_) (args := ?_) (v := ?_) (by rfl) (fun w' => ?_) (fun w' hSw => ?_) ?_; rotate_left 3; (go_simp; constructor; (with_reducible rfl); (with_reducible rfl)); (first | exact HCU.out _ hSw | exact HCS.out _ hSw | fail); (try simp only [Act.put, List.setIfInBounds_toArray, List.set_cons_zero, List.set_cons_succ]))
                              | fail)
                            intro w2 hb2
                            have kg := (hb2.cell (p := ⟨go, k, none⟩) hgo2).trans hgk
                            have kc := (hb2.cell (p := ⟨rk, u, none⟩) hrkl).trans hck'
                            have kf := (hb2.frozen (p := ⟨rk, u, none⟩) hrkl).trans hfk
                            have HBX9 := Lib.hid hb2
                            have hsx9 := hb2.size
                            clear hb2
                            go_wp2_with fail
                            case roundEnd =>
                              refine ⟨⟨b3, u + 1, rs3, rfl, by go_num, by omega, ⟨HBRZ.out.1.low HBX9.out, HBRZ.out.2⟩, HPZ.out, fun h => ⟨(HCZ.out h).1, fun q hq v hv hnd => ?_⟩, HBZ.out.trans (HBX9.out.mono HSW.out)⟩, by simp [intOf] <;> omega⟩
                              by_cases hvu : v = u
                              · subst hvu
                                rw [HPQ.out] at hq
                                injection hq with hq
                                subst hq
                                rw [← HPZ.out.2.2.2 h, ← HBNU.out, HND.out] at hnd
                                cases hnd
                              · exact (HCZ.out h).2 q hq v (by omega) hnd
                          · have HND : Hid (needB ts pts[n] true u = true) := Lib.hid (by unfold needB; rw [hu]; simp at hse; simp [hse])
                            refine wp_region_seq (Below wr.heap.size wr) (by kernel_rfl) (by kernel_rfl) (Below.refl _ _).drew ?_
                            repeat (first
                              | (refine SeqS.skip (by rfl) ?_; (try simp only [Act.put, List.setIfInBounds_toArray, List.set_cons_zero, List.set_cons_succ]))
                              | (refine SeqS.pure (v := ?_) (by rfl) (fun w' hSw => ?_) ?_; rotate_left; (obtain ⟨hc9, hf9⟩ := bcell hSw; go_simp; with_reducible rfl); (try simp only [Act.put, List.setIfInBounds_toArray, List.set_cons_zero, List.set_cons_succ]))
                              | (refine SeqS.call (f := ?_) (args := ?_) (v := ?_) (by rfl) (fun w' => ?_) (fun w' hSw => ?_) ?_; rotate_left 3; (go_simp; constructor; (with_reducible rfl); (with_reducible rfl)); (first | exact HCU.out _ hSw | exact HCS.out _ hSw | fail); (try simp only [Act.put, List.setIfInBounds_toArray, List.set_cons_zero, List.set_cons_succ]))
                              | fail)
                            intro w2 hb2
                            have kg := (hb2.cell (p := ⟨go, k, none⟩) hgo2).trans hgk
                            have kc := (hb2.cell (p := ⟨rk, u, none⟩) hrkl).trans hck'
                            have kf := (hb2.frozen (p := ⟨rk, u, none⟩) hrkl).trans hfk
                            have HBX9 := Lib.hid hb2
                            have hsx9 := hb2.size
                            clear hb2
                            cases bku
                            · go_wp2_with fail
                              case roundEnd =>
                                have hset := (HBRZ.out.1.low HBX9.out).set (i := k) (u := u) (by have := HR0.out; omega) true
                                rw [← HRK.out] at hset
                                have hmu := muR_set (rows := rs3) (i := k) (v := u) (by have := HR0.out; omega) (by rw [HLK.out]; exact hul) HBKU.out.symm
                                refine ⟨⟨true, u + 1, _, rfl, by go_num, by omega, ⟨hset, by rw [rset_len]; exact HBRZ.out.2⟩, ⟨HPZ.out.1.upd HPG.out (by first | exact HMEM.out | (rw [HNXT.out]; exact HMEM.out)) HPQ.out hul (by have := HR0.out; omega) (by rw [← HBNU.out]; exact HND.out), by have := HPZ.out.2.1; omega, fun _ => by have := HPZ.out.2.1; omega, fun h => (by cases h)⟩, fun h => (by cases h), ?_⟩, by simp [intOf] <;> omega⟩
                                exact (HBZ.out.trans (HBX9.out.mono HSW.out)).setCell (p := ⟨rk, u, none⟩) (by show w1.heap.size ≤ rk; exact HRKB.out) _
                            · go_wp2_with fail
                              case roundEnd =>
                                refine ⟨⟨b3, u + 1, rs3, rfl, by go_num, by omega, ⟨HBRZ.out.1.low HBX9.out, HBRZ.out.2⟩, HPZ.out, fun h => ⟨(HCZ.out h).1, fun q hq v hv hnd => ?_⟩, HBZ.out.trans (HBX9.out.mono HSW.out)⟩, by simp [intOf] <;> omega⟩
                                by_cases hvu : v = u
                                · subst hvu
                                  rw [← HPZ.out.2.2.2 h]
                                  exact HBKU.out.symm
                                · exact (HCZ.out h).2 q hq v (by omega) hnd
                      · have HND : Hid (needB ts pts[n] bnu u = true) := Lib.hid (by unfold needB; rw [hu]; rfl)
                        refine wp_region_seq (Below wr.heap.size wr) (by kernel_rfl) (by kernel_rfl) (Below.refl _ _).drew ?_
                        repeat (first
                          | (refine SeqS.skip (by rfl) ?_; (try simp only [Act.put, List.setIfInBounds_toArray, List.set_cons_zero, List.set_cons_succ]))
                          | (refine SeqS.pure (v := ?_) (by rfl) (fun w' hSw => ?_) ?_; rotate_left; (obtain ⟨hc9, hf9⟩ := bcell hSw; go_simp; with_reducible rfl); (try simp only [Act.put, List.setIfInBounds_toArray, List.set_cons_zero, List.set_cons_succ]))
                          | (refine SeqS.call (f := ?_) (args := ?_) (v := ?_) (by rfl) (fun w' => ?_) (fun w' hSw => ?_) ?_; rotate_left 3; (go_simp; constructor; (with_reducible rfl); (with_reducible rfl)); (first | exact HCU.out _ hSw | exact HCS.out _ hSw | fail); (try simp only [Act.put, List.setIfInBounds_toArray, List.set_cons_zero, List.set_cons_succ]))
                          | fail)
                        intro w2 hb2
                        have kg := (hb2.cell (p := ⟨go, k, none⟩) hgo2).trans hgk
                        have kc := (hb2.cell (p := ⟨rk, u, none⟩) hrkl).trans hck'
                        have kf := (hb2.frozen (p := ⟨rk, u, none⟩) hrkl).trans hfk
                        have HBX9 := Lib.hid hb2
                        have hsx9 := hb2.size
                        clear hb2
                        cases bku
                        · go_wp2_with fail
                          case roundEnd =>
                            have hset := (HBRZ.out.1.low HBX9.out).set (i := k) (u := u) (by have := HR0.out; omega) true
                            rw [← HRK.out] at hset
                            have hmu := muR_set (rows := rs3) (i := k) (v := u) (by have := HR0.out; omega) (by rw [HLK.out]; exact hul) HBKU.out.symm
                            refine ⟨⟨true, u + 1, _, rfl, by go_num, by omega, ⟨hset, by rw [rset_len]; exact HBRZ.out.2⟩, ⟨HPZ.out.1.upd HPG.out (by first | exact HMEM.out | (rw [HNXT.out]; exact HMEM.out)) HPQ.out hul (by have := HR0.out; omega) (by rw [← HBNU.out]; exact HND.out), by have := HPZ.out.2.1; omega, fun _ => by have := HPZ.out.2.1; omega, fun h => (by cases h)⟩, fun h => (by cases h), ?_⟩, by simp [intOf] <;> omega⟩
                            exact (HBZ.out.trans (HBX9.out.mono HSW.out)).setCell (p := ⟨rk, u, none⟩) (by show w1.heap.size ≤ rk; exact HRKB.out) _
                        · go_wp2_with fail
                          case roundEnd =>
                            refine ⟨⟨b3, u + 1, rs3, rfl, by go_num, by omega, ⟨HBRZ.out.1.low HBX9.out, HBRZ.out.2⟩, HPZ.out, fun h => ⟨(HCZ.out h).1, fun q hq v hv hnd => ?_⟩, HBZ.out.trans (HBX9.out.mono HSW.out)⟩, by simp [intOf] <;> omega⟩
                            by_cases hvu : v = u
                            · subst hvu
                              rw [← HPZ.out.2.2.2 h]
                              exact HBKU.out.symm
                            · exact (HCZ.out h).2 q hq v (by omega) hnd
                    · have hue : u = ts.length := by omega
                      have HE : Hid (b3 = false → LvC ts pts rows (k + 1) ∧ LvE ts pts rows k (j + 1) nx) := Lib.hid fun h => by
                        obtain ⟨⟨e1, e2⟩, e3⟩ := HCZ.out h
                        refine ⟨e1, fun n' hn q hq v hv hnd => ?_⟩
                        rw [HTK.out, List.mem_append, List.mem_singleton] at hn
                        rcases hn with hn | hn
                        · exact e2 n' hn q hq v hv hnd
                        · subst hn
                          exact e3 q hq v (by omega) hnd
                      clear hue
                      go_wp2_with fail
                      exact ⟨⟨b3, j + 1, rs3, rfl, by go_num, by omega, HBRZ.out, HPZ.out, HE.out, HBZ.out⟩, by simp [intOf] <;> omega⟩
                · have hje : j = nx.length := by omega
                  have HE : Hid (b2 = false → LvC ts pts rows k) := Lib.hid fun h => by
                    obtain ⟨e1, e2⟩ := HCY.out h
                    intro i p hi hp n hn q hq v hv
                    by_cases hik : i = k
                    · subst hik
                      rw [HPG.out] at hp
                      injection hp with hp
                      subst hp
                      have hn' : n ∈ nx := by first | exact hn | (rw [HNXT.out] at hn; exact hn)
                      exact e2 n (by rw [hje, List.take_length]; exact hn') q hq v hv
                    · exact e1 i p (by omega) hp n hn q hq v hv
                  clear hje
                  go_wp2_with fail
                  exact ⟨⟨b2, k, _, rs2, rfl, rfl, by omega, by omega, by omega, HBRY.out, HPY.out, HE.out, HBY.out⟩, by simp [intOf] <;> omega⟩

end Go.Proofs.Ytfioaohadanjmaa
