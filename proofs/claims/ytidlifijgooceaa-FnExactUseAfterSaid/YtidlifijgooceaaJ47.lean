import Derived.Test.YtidlifijgooceaaJ34
import Derived.Test.YtidlifijgooceaaJ36
import Derived.Test.YtidlifijgooceaaJ38
import Derived.Test.YtidlifijgooceaaJ46
set_option linter.unusedVariables false

/- spec.UseAfter. -/
namespace Go.Proofs.Ytidlifijgooceaa
open Go.RowKit

/-- the best way so far -/
noncomputable def bestL (pts : List Pt) (a : Nat) : Option Nat → List Int
  | none => []
  | some b => msk (wayN pts a b)
def UaRet (w : World) (o : Option Nat) (e : Ending) (w' : World) : Prop := e = .returned (.tuple #[.int .i64 (uaV o), .bool o.isSome]) ∧ Below w.heap.size w w'
theorem msk_last {pts : List Pt} {a b : Nat} (h : (wayC pts a b).isSome = true) : (msk (wayN pts a b)).getD ((msk (wayN pts a b)).length - 1) 0 = (b : Nat) := by
  obtain ⟨h1, h2⟩ := wayN_len h
  rw [List.getLast?_eq_getElem?] at h2
  rw [msk_len]
  simp only [msk, List.getD, List.getElem?_map, h2]
  rfl

set_option maxHeartbeats 16000000 in
set_option maxRecDepth 100000 in
theorem sUseAfter_any (vt vb : Value) (ts : List Int) (l : List St) (a b : Int) (B : Nat) (w : World) (ht : IntS w B vt ts) (hl : StS w B vb l) (hB : B ≤ w.heap.size) (hsz : szL l ≤ 4194300) :
    Calls Try.prog 37 #[.agg #[vt, vb], .int .i64 a, .int .i64 b] w (UaRet w (uaB ts l a b)) := by
  have HBX := Lib.hid (Boxed.new ht hl hB 26)
  have ht0 := ht
  obtain ⟨At, ct, rfl, hct, -, -⟩ := ht0
  obtain ⟨Ab, cb, rfl, hcb⟩ := hl.slice
  clear ht hl
  go_enter Try.func37, Try.ntmps37
  go_upto_region 1 with (at_builtin; fail)
  generalize w.alloc (.cells #[.slice At ts.length ct, .slice Ab l.length cb] 26) = W0 at *
  obtain ⟨gx, hgx⟩ : ∃ gx, gx = w.heap.size := ⟨_, rfl⟩
  have c0 := HBX.out.c0
  have c1 := HBX.out.c1
  go_wp2_with (at_builtin; fail)
  refine (sPointsOf_any _ _ ts l B _ HBX.out.ht HBX.out.hl (by have := HBX.out.lt; omega) hsz).mono ?_
  rintro e w1 ⟨vp, rfl, hps, hb1⟩
  have HX1 := Lib.hid (HBX.out.bels hb1 hB)
  have HB1 := Lib.hid HX1.out.bel
  have HPS := Lib.hid hps
  obtain ⟨Ap, cp, rfl, hcp, hpl⟩ := hps.slice
  have hs1 := HB1.out.size
  have HN2 := Lib.hid (graphOk2_no (ts := ts) (l := l) (a := a) (b := b))
  have HNO : Hid (graphOk ts l [a, b] = false → uaB ts l a b = none) := Lib.hid fun h => by unfold uaB; rw [h]; rfl
  clear hps hb1 c0 c1 HBX hgx gx
  by_cases ha : a < 0
  · have ha1 : decide (a < 0) = true := decide_eq_true ha
    have HRES := Lib.hid (HNO.out (HN2.out (.inl ha)))
    generalize (pointsP ts l).length = np at *
    clear HN2 HNO
    go_wp2_with (at_builtin; fail)
    go_ret2
    exact ⟨by rw [HRES.out]; rfl, HB1.out⟩
  · have ha1 : decide (a < 0) = false := decide_eq_false ha
    by_cases hal : a < (pointsP ts l).length
    · have hal1 : decide (a ≥ ((pointsP ts l).length : Int)) = false := decide_eq_false (by omega)
      by_cases hb : b < 0
      · have hb1 : decide (b < 0) = true := decide_eq_true hb
        have HRES := Lib.hid (HNO.out (HN2.out (.inr (.inr (.inl hb)))))
        generalize (pointsP ts l).length = np at *
        clear HN2 HNO
        go_wp2_with (at_builtin; fail)
        go_ret2
        exact ⟨by rw [HRES.out]; rfl, HB1.out⟩
      · have hb1 : decide (b < 0) = false := decide_eq_false hb
        by_cases hbl : b < (pointsP ts l).length
        · have hbl1 : decide (b ≥ ((pointsP ts l).length : Int)) = false := decide_eq_false (by omega)
          obtain ⟨hv, hpe, hok⟩ := graphOk2_yes (by omega) hal (by omega) hbl
          have hpe2 : (pointsP ts l).length = (ptsP l).length := by rw [hpe]
          rw [hpe] at HPS hcp hpl hal hbl hal1 hbl1 ⊢
          obtain ⟨k, rfl⟩ : ∃ k : Nat, a = k := ⟨a.toNat, by omega⟩
          obtain ⟨n, rfl⟩ : ∃ j : Nat, b = j := ⟨b.toNat, by omega⟩
          have HRES : Hid (uaB ts l (k : Nat) (n : Nat) = nearF (ptsP l) k (usF ts (ptsP l) n) (ptsP l).length) := Lib.hid (by unfold uaB; rw [hok]; rfl)
          have GD := Lib.hid (Good.of_valid hv)
          have HV := Lib.hid hv
          have hal2 : ¬ ((k : Int) ≥ ((ptsP l).length : Int)) := by omega
          have hbl2 : ¬ ((n : Int) ≥ ((ptsP l).length : Int)) := by omega
          have h6 := GD.out.h6
          have hlen := GD.out.len
          have hkl : k < (ptsP l).length := by omega
          have hnl : n < (ptsP l).length := by omega
          clear hv hpe hok HN2 HNO hpe2
          have c0 := HX1.out.c0
          have c1 := HX1.out.c1
          generalize hpts : ptsP l = pts at *
          have HPE := Lib.hid hpts
          clear hpts
          go_wp2_with (at_builtin; fail)
          refine (l4Flow_any _ _ ts l B w1 HX1.out.ht HX1.out.hl (by have := HX1.out.lt; omega) HV.out).mono ?_
          rintro e w2 ⟨v2, ps, rbs, R, Q, base, rfl, -, hb4, hri, hst, -, hb2⟩
          rw [HPE.out] at hb4 hri hst
          have HX2 := Lib.hid (HX1.out.bels hb2 hB)
          have HPS2 := Lib.hid ((HPS.out.low hb2 (Nat.le_refl _)).more hb2.size)
          have HB4 := Lib.hid hb4
          have HRI := Lib.hid hri
          have HST := Lib.hid hst
          have HRL := Lib.hid hri.len
          obtain ⟨A2, c2, rfl, hc2⟩ := hb4.slice
          rw [HRL.out]
          rw [HRL.out] at hc2
          clear hb2 hb4 hri hst c0 c1 HX1 HPS
          go_wp2_with (at_builtin; fail)
          refine (l2From_any _ pts _ k w2 HPS2.out (Nat.le_refl _) hlen GD.out.next GD.out.next2 hkl).mono ?_
          rintro e w3 ⟨gf, rfl, hfr, hb3⟩
          have HF4 := Lib.hid (hfr.alloc (.cells #[] 3))
          have hb34 := hb3.trans ((bel_a w3 (.cells #[] 3)).mono hb3.size)
          have HX4 := Lib.hid (HX2.out.bels hb34 hB)
          have HPS4 := Lib.hid ((HPS2.out.low hb34 (Nat.le_refl _)).more hb34.size)
          have HB5 := Lib.hid (HB4.out.low hb34)
          clear hfr hb3 hb34 HX2 HPS2 HB4
          go_upto_region 7 with (at_builtin; fail)
          have HNIL : Hid (IntS (w3.alloc (.cells #[] 3)) (w3.alloc (.cells #[] 3)).heap.size (.slice (some ⟨w3.heap.size, 0, none⟩) 0 0) []) := Lib.hid ((OInts.empty w3 0 (Nat.zero_le _)).toS (by simp))
          generalize hW4 : w3.alloc (.cells #[] 3) = W4 at *
          clear hW4
          go_wp2_with (at_builtin; fail)
          have hgf := HF4.out.lt
          have HF5 := Lib.hid HF4.out
          clear HF4
          go_loopw [11, 12, 13, 14] (fun v i _ _ wr => ∃ j : Nat, j ≤ pts.length ∧ i = .int .i64 j ∧ IntS wr wr.heap.size v (bestL pts k (nearF pts k (usF ts pts n) j)) ∧ Below W4.heap.size W4 wr) (fun _ i _ _ _ => pts.length - (intOf i).toNat)
          case atStart => exact ⟨0, Nat.zero_le _, rfl, HNIL.out, Below.refl _ _⟩
          case round =>
            obtain ⟨j, hj, rfl, hbest, hbw⟩ := hrel
            have HBW := Lib.hid hbw
            have hsw := hbw.size
            have HO : Hid (∃ o, o = nearF pts k (usF ts pts n) j) := Lib.hid ⟨_, rfl⟩
            obtain ⟨o, ho⟩ := HO.out
            rw [← ho] at hbest
            have HBE := Lib.hid hbest
            have HOE := Lib.hid ho
            have HOK := Lib.hid (fun b0 (h : o = some b0) => nearF_ok (pts := pts) (a := k) (U := usF ts pts n) (j := j) (b := b0) (by rw [← ho, h]))
            obtain ⟨Ao, co, rfl, hco, hol, hread⟩ := hbest
            have HRD := Lib.hid hread
            have HL0 : Hid (o = none → (bestL pts k o).length = 0) := Lib.hid fun h => by rw [h]; rfl
            have HL1 : Hid (∀ b0, o = some b0 → 0 < (bestL pts k o).length ∧ (bestL pts k o).length = (wayN pts k b0).length) := Lib.hid fun b0 h => by
              have h1 := wayN_len (HOK.out b0 h).2.2
              rw [h]
              simp only [bestL, msk_len]
              exact ⟨h1.1, trivial⟩
            have HLL : Hid (∀ b0, o = some b0 → (bestL pts k o).getD ((bestL pts k o).length - 1) 0 = (b0 : Nat)) := Lib.hid fun b0 h => by
              have h1 := msk_last (HOK.out b0 h).2.2
              rw [h]
              exact h1
            obtain ⟨L, hL⟩ : ∃ L, L = bestL pts k o := ⟨_, rfl⟩
            rw [← hL] at HBE HL0 HL1 HLL HRD hco hol ⊢
            have HLE := Lib.hid hL
            generalize hlb : L.length = lb at *
            have HLB := Lib.hid hlb
            clear hbw ho hread hL hlb HO
            by_cases hlt : j < pts.length
            · have HLDS := Lib.hid (wayC_lds (a := k) (t := j) hkl hlt GD.out.next GD.out.next2)
              have hrow := HF5.out.low HBW.out hgf
              have f0 : wr.cell? ⟨gf, j, none⟩ = some (.bool (dec (Lds pts k j))) := by rw [hrow.cell, bv_get (by rw [ldsL_len]; exact hlt), ldsL_get hlt]
              have hb5 := HB5.out.low HBW.out
              obtain ⟨g5, e, -, -, -, q0, q1⟩ := hb5.at_ (k := j) (by rw [HRL.out]; exact hlt)
              subst e
              have hmid := hb5.mid j (by rw [HRL.out]; exact hlt)
              have hrl := HRI.out.row j hlt
              generalize (ps.getD j dq).2 = pq at *
              generalize (ps.getD j dq).1 = vf at *
              obtain ⟨Af, cf, rfl, hcf⟩ := hmid.slice
              have HMID := Lib.hid hmid
              rw [hrl] at HMID q0 hcf
              obtain ⟨bp, op, cp9, nv, e, hbp, -, -, hnx, p0, p1, p2, p3, p4⟩ := (HPS4.out.low HBW.out (Nat.le_refl _)).get hlt
              injection e with e1 e9 e2
              subst e1 e2
              obtain ⟨An, cn, rfl, hcn, hln, -⟩ := hnx
              simp only [List.length_map] at p4 hcn hln
              have HUS : Hid (usesP (fun v => ((R.getD j []).getD v []).getD n false) ts pts[j].op pts[j].x pts[j].y = usF ts pts n j) := Lib.hid (by
                rw [usF_at hlt]
                refine usesP_congr fun v hv => ?_
                rw [Bool.eq_iff_iff, dec_iff, ← HST.out j v n]
                rfl)
              have HUSE := Lib.hid (fun wx (hx : Below wr.heap.size wr wx) => l13Uses_any (.slice At ts.length ct) ts wr.heap.size pts[j].op pts[j].x pts[j].y pts[j].n An pts[j].next.length cn (.slice Af ts.length cf) (some ⟨pq, 0, none⟩) pts.length pts.length (rbs.getD j []) pts.length (R.getD j []) base n wx (((HX4.out.ht.low HBW.out (by have := HX4.out.bel.size; omega)).low hx (by have := HX4.out.bel.size; omega)).more (by have := HX4.out.bel.size; omega)) hx.size (HMID.out.low hx) hrl (fun v hv => HRI.out.inn j v hlt hv) hnl hlen)
              rw [HUS.out] at HUSE
              have x0 := (HBW.out.cell (p := ⟨w.heap.size, 0, none⟩) HX4.out.lt).trans HX4.out.c0
              have hf1 : gf < wr.heap.size := by omega
              have hf2 : w.heap.size < wr.heap.size := by have := HX4.out.lt; omega
              have hf3 : g5 < wr.heap.size := cell_lt q0
              have hf4 : bp < wr.heap.size := cell_lt p0
              generalize pts[j].op = P0 at *
              generalize pts[j].x = P1 at *
              generalize pts[j].y = P2 at *
              generalize pts[j].n = P3 at *
              generalize pts[j].next.length = nl at *
              obtain ⟨u, hu⟩ : ∃ u, u = usF ts pts n j := ⟨_, rfl⟩
              rw [← hu] at HUSE
              have HUE := Lib.hid hu
              obtain ⟨d, hd⟩ : ∃ d, d = dec (Lds pts k j) := ⟨_, rfl⟩
              rw [← hd] at f0
              have HDE := Lib.hid hd
              clear hrow hb5 hmid hrl hu hd e9
              have HNN : Hid ((u = false ∨ d = false) → nearF pts k (usF ts pts n) (j + 1) = o) := Lib.hid fun h => by
                rw [nearF_no, ← HOE.out]
                rcases h with h | h
                · rw [← HUE.out, h]; rfl
                · have : (wayC pts k j).isSome = false := by
                    cases hw : (wayC pts k j).isSome
                    · rfl
                    · have := HLDS.out.1 hw
                      rw [HDE.out] at h
                      rw [dec_iff.2 this] at h
                      cases h
                  rw [this, Bool.and_false]
              have HSS : Hid (d = true → (wayC pts k j).isSome = true) := Lib.hid fun h => HLDS.out.2 (dec_iff.1 (HDE.out ▸ h))
              cases d
              · go_wp2_with (at_builtin; fail)
                have BEL : Hid (∀ w', w'.cell? ⟨gf, j, none⟩ = some (.bool false) ∧ w'.cell? ⟨w.heap.size, 0, none⟩ = some (.slice At ts.length ct) ∧ w'.cell? ⟨bp, op + j * 5, none⟩ = some (.int .i64 P0) ∧ w'.cell? ⟨bp, op + j * 5 + 1, none⟩ = some (.int .i64 P1) ∧ w'.cell? ⟨bp, op + j * 5 + 2, none⟩ = some (.int .i64 P2) ∧ w'.cell? ⟨bp, op + j * 5 + 3, none⟩ = some (.int .i64 P3) ∧ w'.cell? ⟨bp, op + j * 5 + 4, none⟩ = some (.slice An nl cn) ∧ w'.cell? ⟨g5, j * 2, none⟩ = some (.slice Af ts.length cf) ∧ w'.cell? ⟨g5, j * 2 + 1, none⟩ = some (.slice (some ⟨pq, 0, none⟩) pts.length pts.length) ∧ Below wr.heap.size wr w' → Below wr.heap.size wr w') := Lib.hid fun _ h => h.2.2.2.2.2.2.2.2.2
                refine wp_region_held_drew (S := (fun w' => w'.cell? ⟨gf, j, none⟩ = some (.bool false) ∧ w'.cell? ⟨w.heap.size, 0, none⟩ = some (.slice At ts.length ct) ∧ w'.cell? ⟨bp, op + j * 5, none⟩ = some (.int .i64 P0) ∧ w'.cell? ⟨bp, op + j * 5 + 1, none⟩ = some (.int .i64 P1) ∧ w'.cell? ⟨bp, op + j * 5 + 2, none⟩ = some (.int .i64 P2) ∧ w'.cell? ⟨bp, op + j * 5 + 3, none⟩ = some (.int .i64 P3) ∧ w'.cell? ⟨bp, op + j * 5 + 4, none⟩ = some (.slice An nl cn) ∧ w'.cell? ⟨g5, j * 2, none⟩ = some (.slice Af ts.length cf) ∧ w'.cell? ⟨g5, j * 2 + 1, none⟩ = some (.slice (some ⟨pq, 0, none⟩) pts.length pts.length) ∧ Below wr.heap.size wr w')) (by kernel_rfl) ?_ (fun hHeld => ?_)
                · exact ⟨f0, x0, p0, p1, p2, p3, p4, q0, q1, (Below.refl _ _).drew⟩
                refine wpAnyH_take (i := 0) (oi := ⟨some 47, _, _, _, _, _⟩) (v := ?_) rfl (by kernel_rfl) (by kernel_rfl) (by kernel_rfl) (fun _ _ _ h => h) (Or.inl ⟨by rfl, fun w' hSw => ?_⟩) (by assumption) ?_
                rotate_left
                · (try dsimp only at hSw); go_simp; (try with_reducible rfl)
                (try simp only [Act.put, List.setIfInBounds_toArray, List.set_cons_zero, List.set_cons_succ])
                refine wpAnyH_take (i := 1) (oi := ⟨some 48, _, _, _, _, _⟩) (v := ?_) rfl (by kernel_rfl) (by kernel_rfl) (by kernel_rfl) (fun _ _ _ h => h) (Or.inl ⟨by rfl, fun w' hSw => ?_⟩) (by assumption) ?_
                rotate_left
                · (try dsimp only at hSw); go_simp; (try with_reducible rfl)
                (try simp only [Act.put, List.setIfInBounds_toArray, List.set_cons_zero, List.set_cons_succ])
                refine wpAnyH_take (i := 2) (oi := ⟨some 49, _, _, _, _, _⟩) (v := ?_) rfl (by kernel_rfl) (by kernel_rfl) (by kernel_rfl) (fun _ _ _ h => h) (Or.inl ⟨by rfl, fun w' hSw => ?_⟩) (by assumption) ?_
                rotate_left
                · (try dsimp only at hSw); go_simp; (try with_reducible rfl)
                (try simp only [Act.put, List.setIfInBounds_toArray, List.set_cons_zero, List.set_cons_succ])
                refine wpAnyH_take (i := 3) (oi := ⟨some 50, _, _, _, _, _⟩) (v := ?_) rfl (by kernel_rfl) (by kernel_rfl) (by kernel_rfl) (fun _ _ _ h => h) (Or.inl ⟨by rfl, fun w' hSw => ?_⟩) (by assumption) ?_
                rotate_left
                · (try dsimp only at hSw); go_simp; (try with_reducible rfl)
                (try simp only [Act.put, List.setIfInBounds_toArray, List.set_cons_zero, List.set_cons_succ])
                refine wpAnyH_take (i := 4) (oi := ⟨some 51, _, _, _, _, _⟩) (v := ?_) rfl (by kernel_rfl) (by kernel_rfl) (by kernel_rfl) (fun _ _ _ h => h) (Or.inl ⟨by rfl, fun w' hSw => ?_⟩) (by assumption) ?_
                rotate_left
                · (try dsimp only at hSw); go_simp; (try with_reducible rfl)
                (try simp only [Act.put, List.setIfInBounds_toArray, List.set_cons_zero, List.set_cons_succ])
                refine wpAnyH_take (i := 5) (oi := ⟨some 52, _, _, _, _, _⟩) (v := ?_) rfl (by kernel_rfl) (by kernel_rfl) (by kernel_rfl) (fun _ _ _ h => h) (Or.inl ⟨by rfl, fun w' hSw => ?_⟩) (by assumption) ?_
                rotate_left
                · (try dsimp only at hSw); go_simp; (try with_reducible rfl)
                (try simp only [Act.put, List.setIfInBounds_toArray, List.set_cons_zero, List.set_cons_succ])
                refine wpAnyH_take (i := 6) (oi := ⟨some 53, _, _, _, _, _⟩) (v := undef) rfl (by kernel_rfl) (by kernel_rfl) (by kernel_rfl) (fun _ _ _ h => h) (Or.inr ⟨by rfl, rfl⟩) (by assumption) ?_
                (try simp only [Act.put, List.setIfInBounds_toArray, List.set_cons_zero, List.set_cons_succ])
                refine wpAnyH_take (i := 7) (oi := ⟨some 54, _, _, _, _, _⟩) (v := undef) rfl (by kernel_rfl) (by kernel_rfl) (by kernel_rfl) (fun _ _ _ h => h) (Or.inr ⟨by rfl, rfl⟩) (by assumption) ?_
                (try simp only [Act.put, List.setIfInBounds_toArray, List.set_cons_zero, List.set_cons_succ])
                refine wpAnyH_take (i := 8) (oi := ⟨some 55, _, _, _, _, _⟩) (v := undef) rfl (by kernel_rfl) (by kernel_rfl) (by kernel_rfl) (fun _ _ _ h => h) (Or.inr ⟨by rfl, rfl⟩) (by assumption) ?_
                (try simp only [Act.put, List.setIfInBounds_toArray, List.set_cons_zero, List.set_cons_succ])
                refine wpAnyH_take (i := 9) (oi := ⟨some 56, _, _, _, _, _⟩) (v := undef) rfl (by kernel_rfl) (by kernel_rfl) (by kernel_rfl) (fun _ _ _ h => h) (Or.inr ⟨by rfl, rfl⟩) (by assumption) ?_
                (try simp only [Act.put, List.setIfInBounds_toArray, List.set_cons_zero, List.set_cons_succ])
                refine wpAnyH_take (i := 10) (oi := ⟨some 57, _, _, _, _, _⟩) (v := undef) rfl (by kernel_rfl) (by kernel_rfl) (by kernel_rfl) (fun _ _ _ h => h) (Or.inr ⟨by rfl, rfl⟩) (by assumption) ?_
                (try simp only [Act.put, List.setIfInBounds_toArray, List.set_cons_zero, List.set_cons_succ])
                refine wpAnyH_take (i := 11) (oi := ⟨some 58, _, _, _, _, _⟩) (v := undef) rfl (by kernel_rfl) (by kernel_rfl) (by kernel_rfl) (fun _ _ _ h => h) (Or.inr ⟨by rfl, rfl⟩) (by assumption) ?_
                (try simp only [Act.put, List.setIfInBounds_toArray, List.set_cons_zero, List.set_cons_succ])
                refine wpAnyH_take (i := 12) (oi := ⟨some 59, _, _, _, _, _⟩) (v := undef) rfl (by kernel_rfl) (by kernel_rfl) (by kernel_rfl) (fun _ _ _ h => h) (Or.inr ⟨by rfl, rfl⟩) (by assumption) ?_
                (try simp only [Act.put, List.setIfInBounds_toArray, List.set_cons_zero, List.set_cons_succ])
                refine wpAnyH_take (i := 13) (oi := ⟨some 60, _, _, _, _, _⟩) (v := undef) rfl (by kernel_rfl) (by kernel_rfl) (by kernel_rfl) (fun _ _ _ h => h) (Or.inr ⟨by rfl, rfl⟩) (by assumption) ?_
                (try simp only [Act.put, List.setIfInBounds_toArray, List.set_cons_zero, List.set_cons_succ])
                refine wpAnyH_take (i := 14) (oi := ⟨some 61, _, _, _, _, _⟩) (v := undef) rfl (by kernel_rfl) (by kernel_rfl) (by kernel_rfl) (fun _ _ _ h => h) (Or.inr ⟨by rfl, rfl⟩) (by assumption) ?_
                (try simp only [Act.put, List.setIfInBounds_toArray, List.set_cons_zero, List.set_cons_succ])
                refine wpAnyH_take (i := 15) (oi := ⟨some 62, _, _, _, _, _⟩) (v := undef) rfl (by kernel_rfl) (by kernel_rfl) (by kernel_rfl) (fun _ _ _ h => h) (Or.inr ⟨by rfl, rfl⟩) (by assumption) ?_
                (try simp only [Act.put, List.setIfInBounds_toArray, List.set_cons_zero, List.set_cons_succ])
                refine wpAnyH_take (i := 16) (oi := ⟨some 63, _, _, _, _, _⟩) (v := undef) rfl (by kernel_rfl) (by kernel_rfl) (by kernel_rfl) (fun _ _ _ h => h) (Or.inr ⟨by rfl, rfl⟩) (by assumption) ?_
                (try simp only [Act.put, List.setIfInBounds_toArray, List.set_cons_zero, List.set_cons_succ])
                refine wpAnyH_take (i := 17) (oi := ⟨some 64, _, _, _, _, _⟩) (v := undef) rfl (by kernel_rfl) (by kernel_rfl) (by kernel_rfl) (fun _ _ _ h => h) (Or.inr ⟨by rfl, rfl⟩) (by assumption) ?_
                (try simp only [Act.put, List.setIfInBounds_toArray, List.set_cons_zero, List.set_cons_succ])
                refine wpAnyH_take (i := 18) (oi := ⟨some 65, _, _, _, _, _⟩) (v := undef) rfl (by kernel_rfl) (by kernel_rfl) (by kernel_rfl) (fun _ _ _ h => h) (Or.inr ⟨by rfl, rfl⟩) (by assumption) ?_
                (try simp only [Act.put, List.setIfInBounds_toArray, List.set_cons_zero, List.set_cons_succ])
                refine wpAnyH_take (i := 19) (oi := ⟨some 66, _, _, _, _, _⟩) (v := ?_) rfl (by kernel_rfl) (by kernel_rfl) (by kernel_rfl) (fun _ _ _ h => h) (Or.inl ⟨by rfl, fun w' hSw => ?_⟩) (by assumption) ?_
                rotate_left
                · (try dsimp only at hSw); go_simp; (try with_reducible rfl)
                (try simp only [Act.put, List.setIfInBounds_toArray, List.set_cons_zero, List.set_cons_succ])
                refine wpAnyH_done (by kernel_rfl) ?_ _
                have BX9 := Lib.hid (BEL.out _ (by assumption))
                clear x0 f0 q0 q1 p0 p1 p2 p3 p4 BEL
                go_wp2_with (at_builtin; fail)
                refine ⟨⟨j + 1, by omega, by go_num, ?_, HBW.out.trans (BX9.out.mono hsw)⟩, by simp [intOf] <;> omega⟩
                rw [HNN.out (.inr (by first | trivial | rfl)), ← HLE.out]
                exact HBE.out.bel BX9.out
              · go_wp2_with (at_builtin; fail)
                have BEL : Hid (∀ w', w'.cell? ⟨gf, j, none⟩ = some (.bool true) ∧ w'.cell? ⟨w.heap.size, 0, none⟩ = some (.slice At ts.length ct) ∧ w'.cell? ⟨bp, op + j * 5, none⟩ = some (.int .i64 P0) ∧ w'.cell? ⟨bp, op + j * 5 + 1, none⟩ = some (.int .i64 P1) ∧ w'.cell? ⟨bp, op + j * 5 + 2, none⟩ = some (.int .i64 P2) ∧ w'.cell? ⟨bp, op + j * 5 + 3, none⟩ = some (.int .i64 P3) ∧ w'.cell? ⟨bp, op + j * 5 + 4, none⟩ = some (.slice An nl cn) ∧ w'.cell? ⟨g5, j * 2, none⟩ = some (.slice Af ts.length cf) ∧ w'.cell? ⟨g5, j * 2 + 1, none⟩ = some (.slice (some ⟨pq, 0, none⟩) pts.length pts.length) ∧ Below wr.heap.size wr w' → Below wr.heap.size wr w') := Lib.hid fun _ h => h.2.2.2.2.2.2.2.2.2
                refine wp_region_held_drew (S := (fun w' => w'.cell? ⟨gf, j, none⟩ = some (.bool true) ∧ w'.cell? ⟨w.heap.size, 0, none⟩ = some (.slice At ts.length ct) ∧ w'.cell? ⟨bp, op + j * 5, none⟩ = some (.int .i64 P0) ∧ w'.cell? ⟨bp, op + j * 5 + 1, none⟩ = some (.int .i64 P1) ∧ w'.cell? ⟨bp, op + j * 5 + 2, none⟩ = some (.int .i64 P2) ∧ w'.cell? ⟨bp, op + j * 5 + 3, none⟩ = some (.int .i64 P3) ∧ w'.cell? ⟨bp, op + j * 5 + 4, none⟩ = some (.slice An nl cn) ∧ w'.cell? ⟨g5, j * 2, none⟩ = some (.slice Af ts.length cf) ∧ w'.cell? ⟨g5, j * 2 + 1, none⟩ = some (.slice (some ⟨pq, 0, none⟩) pts.length pts.length) ∧ Below wr.heap.size wr w')) (by kernel_rfl) ?_ (fun hHeld => ?_)
                · exact ⟨f0, x0, p0, p1, p2, p3, p4, q0, q1, (Below.refl _ _).drew⟩
                refine wpAnyH_take (i := 0) (oi := ⟨some 47, _, _, _, _, _⟩) (v := ?_) rfl (by kernel_rfl) (by kernel_rfl) (by kernel_rfl) (fun _ _ _ h => h) (Or.inl ⟨by rfl, fun w' hSw => ?_⟩) (by assumption) ?_
                rotate_left
                · (try dsimp only at hSw); go_simp; (try with_reducible rfl)
                (try simp only [Act.put, List.setIfInBounds_toArray, List.set_cons_zero, List.set_cons_succ])
                refine wpAnyH_take (i := 1) (oi := ⟨some 48, _, _, _, _, _⟩) (v := ?_) rfl (by kernel_rfl) (by kernel_rfl) (by kernel_rfl) (fun _ _ _ h => h) (Or.inl ⟨by rfl, fun w' hSw => ?_⟩) (by assumption) ?_
                rotate_left
                · (try dsimp only at hSw); go_simp; (try with_reducible rfl)
                (try simp only [Act.put, List.setIfInBounds_toArray, List.set_cons_zero, List.set_cons_succ])
                refine wpAnyH_take (i := 2) (oi := ⟨some 49, _, _, _, _, _⟩) (v := ?_) rfl (by kernel_rfl) (by kernel_rfl) (by kernel_rfl) (fun _ _ _ h => h) (Or.inl ⟨by rfl, fun w' hSw => ?_⟩) (by assumption) ?_
                rotate_left
                · (try dsimp only at hSw); go_simp; (try with_reducible rfl)
                (try simp only [Act.put, List.setIfInBounds_toArray, List.set_cons_zero, List.set_cons_succ])
                refine wpAnyH_take (i := 3) (oi := ⟨some 50, _, _, _, _, _⟩) (v := ?_) rfl (by kernel_rfl) (by kernel_rfl) (by kernel_rfl) (fun _ _ _ h => h) (Or.inl ⟨by rfl, fun w' hSw => ?_⟩) (by assumption) ?_
                rotate_left
                · (try dsimp only at hSw); go_simp; (try with_reducible rfl)
                (try simp only [Act.put, List.setIfInBounds_toArray, List.set_cons_zero, List.set_cons_succ])
                refine wpAnyH_take (i := 4) (oi := ⟨some 51, _, _, _, _, _⟩) (v := ?_) rfl (by kernel_rfl) (by kernel_rfl) (by kernel_rfl) (fun _ _ _ h => h) (Or.inl ⟨by rfl, fun w' hSw => ?_⟩) (by assumption) ?_
                rotate_left
                · (try dsimp only at hSw); go_simp; (try with_reducible rfl)
                (try simp only [Act.put, List.setIfInBounds_toArray, List.set_cons_zero, List.set_cons_succ])
                refine wpAnyH_take (i := 5) (oi := ⟨some 52, _, _, _, _, _⟩) (v := ?_) rfl (by kernel_rfl) (by kernel_rfl) (by kernel_rfl) (fun _ _ _ h => h) (Or.inl ⟨by rfl, fun w' hSw => ?_⟩) (by assumption) ?_
                rotate_left
                · (try dsimp only at hSw); go_simp; (try with_reducible rfl)
                (try simp only [Act.put, List.setIfInBounds_toArray, List.set_cons_zero, List.set_cons_succ])
                refine wpAnyH_take (i := 6) (oi := ⟨some 53, _, _, _, _, _⟩) (v := ?_) rfl (by kernel_rfl) (by kernel_rfl) (by kernel_rfl) (fun _ _ _ h => h) (Or.inl ⟨by rfl, fun w' hSw => ?_⟩) (by assumption) ?_
                rotate_left
                · (try dsimp only at hSw); go_simp; (try with_reducible rfl)
                (try simp only [Act.put, List.setIfInBounds_toArray, List.set_cons_zero, List.set_cons_succ])
                refine wpAnyH_take (i := 7) (oi := ⟨some 54, _, _, _, _, _⟩) (v := ?_) rfl (by kernel_rfl) (by kernel_rfl) (by kernel_rfl) (fun _ _ _ h => h) (Or.inl ⟨by rfl, fun w' hSw => ?_⟩) (by assumption) ?_
                rotate_left
                · (try dsimp only at hSw); go_simp; (try with_reducible rfl)
                (try simp only [Act.put, List.setIfInBounds_toArray, List.set_cons_zero, List.set_cons_succ])
                refine wpAnyH_take (i := 8) (oi := ⟨some 55, _, _, _, _, _⟩) (v := ?_) rfl (by kernel_rfl) (by kernel_rfl) (by kernel_rfl) (fun _ _ _ h => h) (Or.inl ⟨by rfl, fun w' hSw => ?_⟩) (by assumption) ?_
                rotate_left
                · (try dsimp only at hSw); go_simp; (try with_reducible rfl)
                (try simp only [Act.put, List.setIfInBounds_toArray, List.set_cons_zero, List.set_cons_succ])
                refine wpAnyH_take (i := 9) (oi := ⟨some 56, _, _, _, _, _⟩) (v := ?_) rfl (by kernel_rfl) (by kernel_rfl) (by kernel_rfl) (fun _ _ _ h => h) (Or.inl ⟨by rfl, fun w' hSw => ?_⟩) (by assumption) ?_
                rotate_left
                · (try dsimp only at hSw); go_simp; (try with_reducible rfl)
                (try simp only [Act.put, List.setIfInBounds_toArray, List.set_cons_zero, List.set_cons_succ])
                refine wpAnyH_take (i := 10) (oi := ⟨some 57, _, _, _, _, _⟩) (v := ?_) rfl (by kernel_rfl) (by kernel_rfl) (by kernel_rfl) (fun _ _ _ h => h) (Or.inl ⟨by rfl, fun w' hSw => ?_⟩) (by assumption) ?_
                rotate_left
                · (try dsimp only at hSw); go_simp; (try with_reducible rfl)
                (try simp only [Act.put, List.setIfInBounds_toArray, List.set_cons_zero, List.set_cons_succ])
                refine wpAnyH_take (i := 11) (oi := ⟨some 58, _, _, _, _, _⟩) (v := ?_) rfl (by kernel_rfl) (by kernel_rfl) (by kernel_rfl) (fun _ _ _ h => h) (Or.inl ⟨by rfl, fun w' hSw => ?_⟩) (by assumption) ?_
                rotate_left
                · (try dsimp only at hSw); go_simp; (try with_reducible rfl)
                (try simp only [Act.put, List.setIfInBounds_toArray, List.set_cons_zero, List.set_cons_succ])
                refine wpAnyH_take (i := 12) (oi := ⟨some 59, _, _, _, _, _⟩) (v := ?_) rfl (by kernel_rfl) (by kernel_rfl) (by kernel_rfl) (fun _ _ _ h => h) (Or.inl ⟨by rfl, fun w' hSw => ?_⟩) (by assumption) ?_
                rotate_left
                · (try dsimp only at hSw); go_simp; (try with_reducible rfl)
                (try simp only [Act.put, List.setIfInBounds_toArray, List.set_cons_zero, List.set_cons_succ])
                refine wpAnyH_take (i := 13) (oi := ⟨some 60, _, _, _, _, _⟩) (v := ?_) rfl (by kernel_rfl) (by kernel_rfl) (by kernel_rfl) (fun _ _ _ h => h) (Or.inl ⟨by rfl, fun w' hSw => ?_⟩) (by assumption) ?_
                rotate_left
                · (try dsimp only at hSw); go_simp; (try with_reducible rfl)
                (try simp only [Act.put, List.setIfInBounds_toArray, List.set_cons_zero, List.set_cons_succ])
                refine wpAnyH_take (i := 14) (oi := ⟨some 61, _, _, _, _, _⟩) (v := ?_) rfl (by kernel_rfl) (by kernel_rfl) (by kernel_rfl) (fun _ _ _ h => h) (Or.inl ⟨by rfl, fun w' hSw => ?_⟩) (by assumption) ?_
                rotate_left
                · (try dsimp only at hSw); go_simp; (try with_reducible rfl)
                (try simp only [Act.put, List.setIfInBounds_toArray, List.set_cons_zero, List.set_cons_succ])
                refine wpAnyH_take (i := 15) (oi := ⟨some 62, _, _, _, _, _⟩) (v := ?_) rfl (by kernel_rfl) (by kernel_rfl) (by kernel_rfl) (fun _ _ _ h => h) (Or.inl ⟨by rfl, fun w' hSw => ?_⟩) (by assumption) ?_
                rotate_left
                · (try dsimp only at hSw); go_simp; (try with_reducible rfl)
                (try simp only [Act.put, List.setIfInBounds_toArray, List.set_cons_zero, List.set_cons_succ])
                refine wpAnyH_take (i := 16) (oi := ⟨some 63, _, _, _, _, _⟩) (v := ?_) rfl (by kernel_rfl) (by kernel_rfl) (by kernel_rfl) (fun _ _ _ h => h) (Or.inl ⟨by rfl, fun w' hSw => ?_⟩) (by assumption) ?_
                rotate_left
                · (try dsimp only at hSw); go_simp; (try with_reducible rfl)
                (try simp only [Act.put, List.setIfInBounds_toArray, List.set_cons_zero, List.set_cons_succ])
                refine wpAnyH_ready (rs := [17]) (by kernel_rfl) (by simp) ?_
                refine AllReadyH.cons (o := ⟨some 64, _, _, _, _, _⟩) rfl (fun K hK => ?_) AllReadyH.nil
                go_simp
                (refine (HUSE.out _ (BEL.out _ (by assumption))).mono ?_)
                (rintro e w8 ⟨rfl, hb8⟩)
                (have BX9 := Lib.hid ((BEL.out _ (by assumption)).trans (hb8.mono (BEL.out _ (by assumption)).size)))
                clear hb8
                go_simp
                refine hK.out _ _ ?_ (fun hHeld => ?_)
                · exact ⟨(BX9.out.cell (p := ⟨gf, j, none⟩) hf1).trans f0, (BX9.out.cell (p := ⟨w.heap.size, 0, none⟩) hf2).trans x0, (BX9.out.cell (p := ⟨bp, op + j * 5, none⟩) hf4).trans p0, (BX9.out.cell (p := ⟨bp, op + j * 5 + 1, none⟩) hf4).trans p1, (BX9.out.cell (p := ⟨bp, op + j * 5 + 2, none⟩) hf4).trans p2, (BX9.out.cell (p := ⟨bp, op + j * 5 + 3, none⟩) hf4).trans p3, (BX9.out.cell (p := ⟨bp, op + j * 5 + 4, none⟩) hf4).trans p4, (BX9.out.cell (p := ⟨g5, j * 2, none⟩) hf3).trans q0, (BX9.out.cell (p := ⟨g5, j * 2 + 1, none⟩) hf3).trans q1, BX9.out⟩
                clear hK K
                (try simp only [Act.put, List.setIfInBounds_toArray, List.set_cons_zero, List.set_cons_succ])
                refine wpAnyH_take (i := 18) (oi := ⟨some 65, _, _, _, _, _⟩) (v := ?_) rfl (by kernel_rfl) (by kernel_rfl) (by kernel_rfl) (fun _ _ _ h => h) (Or.inl ⟨by rfl, fun w' hSw => ?_⟩) (by assumption) ?_
                rotate_left
                · (try dsimp only at hSw); go_simp; (try with_reducible rfl)
                (try simp only [Act.put, List.setIfInBounds_toArray, List.set_cons_zero, List.set_cons_succ])
                refine wpAnyH_take (i := 19) (oi := ⟨some 66, _, _, _, _, _⟩) (v := ?_) rfl (by kernel_rfl) (by kernel_rfl) (by kernel_rfl) (fun _ _ _ h => h) (Or.inl ⟨by rfl, fun w' hSw => ?_⟩) (by assumption) ?_
                rotate_left
                · (try dsimp only at hSw); go_simp; (try with_reducible rfl)
                (try simp only [Act.put, List.setIfInBounds_toArray, List.set_cons_zero, List.set_cons_succ])
                refine wpAnyH_done (by kernel_rfl) ?_ _
                have HBn := Lib.hid (HBE.out.bel BX9.out)
                have HB9 := Lib.hid (HBW.out.trans (BX9.out.mono hsw))
                have HPS9 := Lib.hid (((HPS4.out.low HBW.out (Nat.le_refl _)).more hsw).low BX9.out (Nat.le_refl _))
                clear x0 f0 q0 q1 p0 p1 p2 p3 p4 BEL hHeld
                cases u
                · go_wp2_with (at_builtin; fail)
                  refine ⟨⟨j + 1, by omega, by go_num, ?_, HB9.out⟩, by simp [intOf] <;> omega⟩
                  rw [HNN.out (.inl (by first | trivial | rfl)), ← HLE.out]
                  exact HBn.out
                · have hway := HSS.out (by first | trivial | rfl)
                  have HWL := Lib.hid (wayN_len hway).1
                  have HUT : Hid ((usF ts pts n j && (wayC pts k j).isSome) = true) := Lib.hid (by rw [← HUE.out, hway]; rfl)
                  have HWAY := Lib.hid (l13Way_any _ pts _ k j w8 HPS9.out BX9.out.size hlen GD.out.next GD.out.next2 hkl hlt)
                  clear hway
                  go_wp2_with (at_builtin; fail)
                  refine HWAY.out.mono ?_
                  rintro e w10 ⟨v10, rfl, hi10, hb10⟩
                  have HI10 := Lib.hid hi10
                  have HBm := Lib.hid (HBn.out.bel hb10)
                  have HB10 := Lib.hid (HB9.out.trans (hb10.mono HB9.out.size))
                  obtain ⟨A10, c10, rfl, hc10, hl10, -⟩ := hi10
                  rw [msk_len] at hc10 hl10
                  have HWL2 : Hid ((msk (wayN pts k j)).length = (wayN pts k j).length) := Lib.hid (msk_len _)
                  rw [HWL2.out]
                  rw [HWL2.out] at HI10
                  generalize hlw : (wayN pts k j).length = lw at *
                  have HLW := Lib.hid hlw
                  have hlw0 : 0 < lw := HWL.out
                  clear hb10 hlw HWAY
                  obtain ⟨ws, hws⟩ : ∃ ws, ws = (wayC pts k j).isSome := ⟨_, rfl⟩
                  rw [← hws]
                  clear hws
                  rcases o with _ | b0
                  · obtain rfl : lb = 0 := HL0.out rfl
                    go_wp2_with (at_builtin; fail)
                    refine ⟨⟨j + 1, by omega, by go_num, ?_, HB10.out⟩, by simp [intOf] <;> omega⟩
                    rw [nearF_first HUT.out HOE.out.symm]
                    exact HI10.out
                  · have h1 := HL1.out b0 rfl
                    have HH1 := Lib.hid h1
                    have hlb0 : 0 < lb := h1.1
                    have hz : (((lb : Nat) : Int) == 0) = false := by rw [beq_eq_false_iff_ne]; omega
                    clear h1
                    by_cases hlw1 : lw < lb
                    · have hlw2 : decide (((lw : Nat) : Int) < ((lb : Nat) : Int)) = true := decide_eq_true (by omega)
                      go_wp2_with (at_builtin; fail)
                      refine ⟨⟨j + 1, by omega, by go_num, ?_, HB10.out⟩, by simp [intOf] <;> omega⟩
                      rw [nearF_less HUT.out HOE.out.symm (by rw [HLW.out, ← HH1.out.2]; exact hlw1)]
                      exact HI10.out
                    · have hlw2 : decide (((lw : Nat) : Int) < ((lb : Nat) : Int)) = false := decide_eq_false (by omega)
                      go_wp2_with (at_builtin; fail)
                      refine ⟨⟨j + 1, by omega, by go_num, ?_, HB10.out⟩, by simp [intOf] <;> omega⟩
                      rw [nearF_keep HOE.out.symm (by rw [HLW.out, ← HH1.out.2]; exact hlw1), ← HLE.out]
                      exact HBm.out
            · have hje : j = pts.length := by omega
              have HRES2 : Hid (uaB ts l (k : Nat) (n : Nat) = o) := Lib.hid (by rw [HRES.out, ← hje, HOE.out])
              have HBB := Lib.hid (HX4.out.bel.trans (HBW.out.mono HX4.out.bel.size))
              clear hje
              rcases o with _ | b0
              · obtain rfl : lb = 0 := HL0.out rfl
                go_wp2_with (at_builtin; fail)
                go_ret2
                exact ⟨by rw [HRES2.out]; rfl, HBB.out⟩
              · have h1 := HL1.out b0 rfl
                obtain ⟨m, rfl⟩ : ∃ m, lb = m + 1 := ⟨lb - 1, by omega⟩
                have hlast := HLL.out b0 rfl
                have hrd := HRD.out
                rw [← HLB.out] at hrd
                obtain ⟨bb, ob, rfl, hbb, hcell⟩ := hrd.int_at (k := m) (by rw [HLB.out]; omega)
                have hck := hcell m (by rw [HLB.out]; omega)
                rw [show m + 1 - 1 = m by omega] at hlast
                rw [hlast] at hck
                clear h1 hlast hcell hrd
                go_wp2_with (at_builtin; fail)
                go_ret2
                exact ⟨by rw [HRES2.out]; rfl, HBB.out⟩
        · have hbl1 : decide (b ≥ ((pointsP ts l).length : Int)) = true := decide_eq_true (by omega)
          have HRES := Lib.hid (HNO.out (HN2.out (.inr (.inr (.inr (by omega))))))
          generalize (pointsP ts l).length = np at *
          clear HN2 HNO
          go_wp2_with (at_builtin; fail)
          go_ret2
          exact ⟨by rw [HRES.out]; rfl, HB1.out⟩
    · have hal1 : decide (a ≥ ((pointsP ts l).length : Int)) = true := decide_eq_true (by omega)
      have HRES := Lib.hid (HNO.out (HN2.out (.inr (.inl (by omega)))))
      generalize (pointsP ts l).length = np at *
      clear HN2 HNO
      go_wp2_with (at_builtin; fail)
      go_ret2
      exact ⟨by rw [HRES.out]; rfl, HB1.out⟩

end Go.Proofs.Ytidlifijgooceaa
