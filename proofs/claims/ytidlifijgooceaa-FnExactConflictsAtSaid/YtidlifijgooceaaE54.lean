import Derived.Test.YtidlifijgooceaaE50
import Derived.Test.YtidlifijgooceaaE51
import Derived.Test.YtidlifijgooceaaE46
import Derived.Test.YtidlifijgooceaaE53
set_option linter.unusedVariables false

/- spec.ConflictsAt. -/
namespace Go.Proofs.Ytidlifijgooceaa
open Go.RowKit

theorem cfS_cfL {ts : List Int} {pts : List Pt} {k : Nat} {L Q : List Bool} {ac : List Acc} (g : Good ts pts) (hL : ∀ e, e < pts.length → L.getD e false = dec (KpL ts pts k e)) (hQ : ∀ e, Q.getD e false = true ↔ Pld ts pts k e) (ha : ∀ a ∈ ac, 0 ≤ a.vr) : lst pts.length (cfS pts L Q ac) = cfL ts pts k ac := by
  unfold cfL
  refine lst_congr fun e he => ?_
  have hq : Q.getD e false = dec (Pld ts pts k e) := by rw [Bool.eq_iff_iff, dec_iff]; exact hQ e
  unfold cfS nearB
  rw [hL e he, hq]
  cases hp : dec (Pld ts pts k e)
  · simp
  · obtain ⟨⟨q, hq1, hql⟩, -⟩ := (dec_iff.1 hp).loan
    have hy := (g.y hq1 (by rcases lonB_iff.1 hql with h | h <;> omega)).1
    rw [acB_eq (ts := ts) hq1 hql hy ha]
    have hqd : ptD pts e = q := by unfold ptD; rw [List.getD_eq_getElem?_getD, hq1]; rfl
    rw [hqd]
    cases dec (KpL ts pts k e)
    · simp
    · simp only [Bool.true_and, Bool.and_true]
      rfl
set_option maxHeartbeats 8000000 in
set_option maxRecDepth 100000 in
theorem sConflictsAt_any (vt vb : Value) (ts : List Int) (l : List St) (a : Int) (B : Nat) (w : World) (ht : IntS w B vt ts) (hl : StS w B vb l) (hB : B ≤ w.heap.size) (hsz : szL l ≤ 4194300) :
    Calls Try.prog 44 #[.agg #[vt, vb], .int .i64 a] w (IntsRet w (cfRes ts l a)) := by
  have HBX := Lib.hid (Boxed.new ht hl hB 26)
  obtain ⟨At, ct, rfl, hct, -, -⟩ := ht
  obtain ⟨Ab, cb, rfl, hcb⟩ := hl.slice
  clear hl
  by_cases ha : a < 0
  · have HRES : Hid (cfRes ts l a = []) := Lib.hid (by unfold cfRes; rw [graphOk_no (.inl ha)]; rfl)
    go_enter Try.func44, Try.ntmps44
    go_wp2_with fail
    refine (sPointsOf_any _ _ ts l B _ HBX.out.ht HBX.out.hl (by have := HBX.out.lt; omega) hsz).mono ?_
    rintro e w1 ⟨vp, rfl, hps, hb1⟩
    have HB1 := Lib.hid (HBX.out.bels hb1 hB)
    obtain ⟨Ap, cp, rfl, hcp, hpl⟩ := hps.slice
    clear hps hb1
    go_wp2_with fail
    go_ret
    exact ⟨_, rfl, by rw [HRES.out]; exact IntS.nil' _ _ _ _, HB1.out.bel.trans ((bel_a _ _).mono HB1.out.bel.size)⟩
  · go_enter Try.func44, Try.ntmps44
    go_wp2_with fail
    refine (sPointsOf_any _ _ ts l B _ HBX.out.ht HBX.out.hl (by have := HBX.out.lt; omega) hsz).mono ?_
    rintro e w1 ⟨vp, rfl, hps, hb1⟩
    have HB1 := Lib.hid (HBX.out.bels hb1 hB)
    have c0 := HB1.out.c0
    have c1 := HB1.out.c1
    obtain ⟨Ap, cp, rfl, hcp, hpl⟩ := hps.slice
    have HPS := Lib.hid hps
    clear hps hb1
    have HGY : Hid (a < (pointsP ts l).length → validP ts l = true ∧ pointsP ts l = ptsP l ∧ graphOk ts l [a] = true) := Lib.hid fun h => graphOk_yes (by omega) h
    have HGN : Hid ((pointsP ts l).length ≤ a → graphOk ts l [a] = false) := Lib.hid fun h => graphOk_no (.inr h)
    obtain ⟨np, hnp⟩ : ∃ np, np = (pointsP ts l).length := ⟨_, rfl⟩
    rw [← hnp] at hcp hpl HGY HGN ⊢
    by_cases hlt : a < (np : Int)
    · obtain ⟨hv, hpe, hok⟩ := HGY.out hlt
      rw [hpe] at hnp
      obtain ⟨k, rfl⟩ : ∃ k : Nat, a = k := ⟨a.toNat, by omega⟩
      have HV := Lib.hid hv
      have HRES : Hid (cfRes ts l (k : Int) = cfL ts (ptsP l) k (accL ts (ptAt (ptsP l) (k : Int)).op (ptAt (ptsP l) (k : Int)).x (ptAt (ptsP l) (k : Int)).y fun v => dec (Ac false ts (ptsP l) 0 k v))) := Lib.hid (by unfold cfRes accRes; rw [if_pos hok, if_pos hok, Int.toNat_natCast])
      have hk : k < (ptsP l).length := by omega
      have hplen := (Good.of_valid hv).len
      have hpt := HPS.out
      rw [hpe] at hpt
      obtain ⟨bp, op, cp', nv, e, hbp, hcp', hlp, hnx, p0, p1, p2, p3, p4⟩ := hpt.get hk
      injection e with e1 e9 e2
      subst e1 e2
      obtain ⟨An, cn, rfl, hcn, hln, -⟩ := hnx
      simp only [List.length_map] at p4 hcn hln
      have HPK := Lib.hid (List.getElem?_eq_getElem hk)
      rw [ptAt_nat hk] at HRES
      have G := Good.of_valid hv
      have HGD := Lib.hid G
      have HSL := Lib.hid (fun (_ : 0 ≤ setsP (ptsP l)[k].op (ptsP l)[k].x) => (G.ok _ (List.getElem_mem hk)).sets)
      have HYL := Lib.hid (fun (ho : (ptsP l)[k].op = 3) => G.y (List.getElem?_eq_getElem hk) (by omega))
      have HARG := Lib.hid (fun (f : Nat → Bool) (a : Acc) (ha : a ∈ accL ts (ptsP l)[k].op (ptsP l)[k].x (ptsP l)[k].y f) => acc_range G hk ha)
      have HKP := Lib.hid hk
      have HPTS := Lib.hid hpt
      clear G
      have h6 := (Good.of_valid hv).h6
      generalize (ptsP l)[k] = P at *
      clear hv hpe hok e9 hpt
      obtain ⟨np2, hnp2⟩ : ∃ n, n = (ptsP l).length := ⟨_, rfl⟩
      have HNP := Lib.hid hnp2
      rw [← hnp2] at hk hplen hnp hlp hcp'
      subst hnp
      clear hnp2
      have hs0 := HB1.out.lt
      go_wp2_with fail
      refine (l4Flow_any (.slice At ts.length ct) (.slice Ab l.length cb) ts l B w1 HB1.out.ht HB1.out.hl (by omega) HV.out).mono ?_
      rintro e w2 ⟨v6, ps, rbs, R, Q, base, rfl, hbase, hb4, hri, hst, hpq, hb6⟩
      have HB2 := Lib.hid hb6
      have hs2 := hb6.size
      have hRl := hri.len
      rw [HNP.out.symm] at hRl
      have hkR : k < R.length := by omega
      have hkP := HKP.out
      have hrk := hri.row k hkP
      obtain ⟨A6, c6, rfl, -⟩ := hb4.slice
      obtain ⟨g, ea, hg, hgl, -, hgk, hgk2⟩ := hb4.at_ hkR
      subst ea
      have HRX := Lib.hid ((hb4.mid k hkR).toX (fun i hi => hri.inn k i hkP (by rw [← hrk]; exact hi)) (by rw [← HNP.out]; omega))
      have HPLC := Lib.hid (hb4.plc k hkR).1
      have HQLN : Hid ((Q.getD k []).length = np) := Lib.hid (by rw [HNP.out]; exact hri.innQ k hkP)
      have HPQ := Lib.hid (fun e => hpq k e)
      have HRK := Lib.hid hrk
      have HIN := Lib.hid (fun v hv => hri.inn k v hkP hv)
      have HST := Lib.hid hst
      rw [← HNP.out] at hgk2 HIN
      generalize (ps.getD k dq).1 = vf at *
      generalize (ps.getD k dq).2 = pk at *
      obtain ⟨Av, cv, rfl, hcv⟩ := HRX.out.slice
      rw [hrk] at hcv hgk HRX
      have p0 := belC2 HB2.out p0 hbp
      have p1 := belC2 HB2.out p1 hbp
      have p2 := belC2 HB2.out p2 hbp
      have p3 := belC2 HB2.out p3 hbp
      have p4 := belC2 HB2.out p4 hbp
      have c0 := belC2 HB2.out c0 hs0
      have c1 := belC2 HB2.out c1 hs0
      have HRB := Lib.hid (RowB.new w2 [.slice Av ts.length cv, .slice (some ⟨pk, 0, none⟩) np np] 102)
      have HBB := Lib.hid (bel_a w2 (.cells #[.slice Av ts.length cv, .slice (some ⟨pk, 0, none⟩) np np] 102))
      obtain ⟨sb, hsb'⟩ : ∃ sb, sb = w2.heap.size := ⟨_, rfl⟩
      clear hb4 hri hst hpq hb6 hrk hbase
      go_wp2_with fail
      generalize w2.alloc (.cells #[.slice Av ts.length cv, .slice (some ⟨pk, 0, none⟩) np np] 102) = w3 at *
      rw [← hsb'] at HRB ⊢
      have HB3 := Lib.hid (HB2.out.trans (HBB.out.mono hs2))
      have hs3 := HB3.out.size
      have hsb := HRB.out.lt
      have HRX := Lib.hid (HRX.out.bel HBB.out)
      have HPLC := Lib.hid (HPLC.out.low HBB.out HPLC.out.lt)
      have hs23 : w2.heap.size ≤ w3.heap.size := HBB.out.size
      have hs0 : w.heap.size < w3.heap.size := by omega
      have hbp : bp < w3.heap.size := by omega
      have p0 := belC2 HBB.out p0 (by omega)
      have p1 := belC2 HBB.out p1 (by omega)
      have p2 := belC2 HBB.out p2 (by omega)
      have p3 := belC2 HBB.out p3 (by omega)
      have p4 := belC2 HBB.out p4 (by omega)
      have c0 := belC2 HBB.out c0 (by omega)
      have c1 := belC2 HBB.out c1 (by omega)
      have s0 : w3.cell? ⟨sb, 0, none⟩ = some (.slice Av ts.length cv) := HRB.out.cell 0
      have s1 : w3.cell? ⟨sb, 1, none⟩ = some (.slice (some ⟨pk, 0, none⟩) np np) := HRB.out.cell 1
      clear hsb' hgk hgk2 hgl
      have BEL : Hid (∀ w', w'.cell? ⟨w.heap.size, 0, none⟩ = some (.slice At ts.length ct) ∧ w'.cell? ⟨w.heap.size, 1, none⟩ = some (.slice Ab l.length cb) ∧ w'.cell? ⟨bp, op + k * 5, none⟩ = some (.int .i64 P.op) ∧ w'.cell? ⟨bp, op + k * 5 + 1, none⟩ = some (.int .i64 P.x) ∧ w'.cell? ⟨bp, op + k * 5 + 2, none⟩ = some (.int .i64 P.y) ∧ w'.cell? ⟨bp, op + k * 5 + 3, none⟩ = some (.int .i64 P.n) ∧ w'.cell? ⟨bp, op + k * 5 + 4, none⟩ = some (.slice An P.next.length cn) ∧ w'.cell? ⟨sb, 0, none⟩ = some (.slice Av ts.length cv) ∧ w'.cell? ⟨sb, 1, none⟩ = some (.slice (some ⟨pk, 0, none⟩) np np) ∧ Below w3.heap.size w3 w' → Below w3.heap.size w3 w') := Lib.hid fun _ h => h.2.2.2.2.2.2.2.2.2
      go_wp2_with fail
      refine wp_region_held_drew (S := (fun w' => w'.cell? ⟨w.heap.size, 0, none⟩ = some (.slice At ts.length ct) ∧ w'.cell? ⟨w.heap.size, 1, none⟩ = some (.slice Ab l.length cb) ∧ w'.cell? ⟨bp, op + k * 5, none⟩ = some (.int .i64 P.op) ∧ w'.cell? ⟨bp, op + k * 5 + 1, none⟩ = some (.int .i64 P.x) ∧ w'.cell? ⟨bp, op + k * 5 + 2, none⟩ = some (.int .i64 P.y) ∧ w'.cell? ⟨bp, op + k * 5 + 3, none⟩ = some (.int .i64 P.n) ∧ w'.cell? ⟨bp, op + k * 5 + 4, none⟩ = some (.slice An P.next.length cn) ∧ w'.cell? ⟨sb, 0, none⟩ = some (.slice Av ts.length cv) ∧ w'.cell? ⟨sb, 1, none⟩ = some (.slice (some ⟨pk, 0, none⟩) np np) ∧ Below w3.heap.size w3 w')) (by kernel_rfl) ?_ (fun hHeld => ?_)
      · exact ⟨c0, c1, p0, p1, p2, p3, p4, s0, s1, (Below.refl _ _).drew⟩
      refine wpAnyH_take (i := 0) (oi := ⟨some 24, _, _, _, _, _⟩) (v := ?_) rfl (by kernel_rfl) (by kernel_rfl) (by kernel_rfl) (fun _ _ _ h => h) (Or.inl ⟨by rfl, fun w' hSw => ?_⟩) (by assumption) ?_
      rotate_left
      · (try dsimp only at hSw); go_simp; (try with_reducible rfl)
      (try simp only [Act.put, List.setIfInBounds_toArray, List.set_cons_zero, List.set_cons_succ])
      refine wpAnyH_take (i := 1) (oi := ⟨some 25, _, _, _, _, _⟩) (v := ?_) rfl (by kernel_rfl) (by kernel_rfl) (by kernel_rfl) (fun _ _ _ h => h) (Or.inl ⟨by rfl, fun w' hSw => ?_⟩) (by assumption) ?_
      rotate_left
      · (try dsimp only at hSw); go_simp; (try with_reducible rfl)
      (try simp only [Act.put, List.setIfInBounds_toArray, List.set_cons_zero, List.set_cons_succ])
      refine wpAnyH_take (i := 2) (oi := ⟨some 26, _, _, _, _, _⟩) (v := ?_) rfl (by kernel_rfl) (by kernel_rfl) (by kernel_rfl) (fun _ _ _ h => h) (Or.inl ⟨by rfl, fun w' hSw => ?_⟩) (by assumption) ?_
      rotate_left
      · (try dsimp only at hSw); go_simp; (try with_reducible rfl)
      (try simp only [Act.put, List.setIfInBounds_toArray, List.set_cons_zero, List.set_cons_succ])
      refine wpAnyH_take (i := 3) (oi := ⟨some 27, _, _, _, _, _⟩) (v := ?_) rfl (by kernel_rfl) (by kernel_rfl) (by kernel_rfl) (fun _ _ _ h => h) (Or.inl ⟨by rfl, fun w' hSw => ?_⟩) (by assumption) ?_
      rotate_left
      · (try dsimp only at hSw); go_simp; (try with_reducible rfl)
      (try simp only [Act.put, List.setIfInBounds_toArray, List.set_cons_zero, List.set_cons_succ])
      refine wpAnyH_take (i := 4) (oi := ⟨some 28, _, _, _, _, _⟩) (v := ?_) rfl (by kernel_rfl) (by kernel_rfl) (by kernel_rfl) (fun _ _ _ h => h) (Or.inl ⟨by rfl, fun w' hSw => ?_⟩) (by assumption) ?_
      rotate_left
      · (try dsimp only at hSw); go_simp; (try with_reducible rfl)
      (try simp only [Act.put, List.setIfInBounds_toArray, List.set_cons_zero, List.set_cons_succ])
      refine wpAnyH_take (i := 5) (oi := ⟨some 29, _, _, _, _, _⟩) (v := ?_) rfl (by kernel_rfl) (by kernel_rfl) (by kernel_rfl) (fun _ _ _ h => h) (Or.inl ⟨by rfl, fun w' hSw => ?_⟩) (by assumption) ?_
      rotate_left
      · (try dsimp only at hSw); go_simp; (try with_reducible rfl)
      (try simp only [Act.put, List.setIfInBounds_toArray, List.set_cons_zero, List.set_cons_succ])
      refine wpAnyH_take (i := 6) (oi := ⟨some 30, _, _, _, _, _⟩) (v := ?_) rfl (by kernel_rfl) (by kernel_rfl) (by kernel_rfl) (fun _ _ _ h => h) (Or.inl ⟨by rfl, fun w' hSw => ?_⟩) (by assumption) ?_
      rotate_left
      · (try dsimp only at hSw); go_simp; (try with_reducible rfl)
      (try simp only [Act.put, List.setIfInBounds_toArray, List.set_cons_zero, List.set_cons_succ])
      refine wpAnyH_take (i := 7) (oi := ⟨some 31, _, _, _, _, _⟩) (v := ?_) rfl (by kernel_rfl) (by kernel_rfl) (by kernel_rfl) (fun _ _ _ h => h) (Or.inl ⟨by rfl, fun w' hSw => ?_⟩) (by assumption) ?_
      rotate_left
      · (try dsimp only at hSw); go_simp; (try with_reducible rfl)
      (try simp only [Act.put, List.setIfInBounds_toArray, List.set_cons_zero, List.set_cons_succ])
      refine wpAnyH_take (i := 9) (oi := ⟨some 33, _, _, _, _, _⟩) (v := ?_) rfl (by kernel_rfl) (by kernel_rfl) (by kernel_rfl) (fun _ _ _ h => h) (Or.inl ⟨by rfl, fun w' hSw => ?_⟩) (by assumption) ?_
      rotate_left
      · (try dsimp only at hSw); go_simp; (try with_reducible rfl)
      (try simp only [Act.put, List.setIfInBounds_toArray, List.set_cons_zero, List.set_cons_succ])
      refine wpAnyH_ready (rs := [8]) (by kernel_rfl) (by simp) ?_
      refine (AllReadyH.cons (o := ⟨some 32, _, _, _, _, _⟩) rfl (fun K hK => ?_) AllReadyH.nil)
      go_simp
      (refine (l3Live_any (.slice At ts.length ct) (.slice Ab l.length cb) ts l B _ (HB1.out.ht.low (HB3.out.trans (((BEL.out _ (by assumption))).mono HB3.out.size)) (by omega)) (HB1.out.hl.low (HB3.out.trans (((BEL.out _ (by assumption))).mono HB3.out.size)) (by omega)) (by have := ((BEL.out _ (by assumption))).size; omega) HV.out).mono ?_)
      (rintro e w8 ⟨v8, rb8, rows8, base8, rfl, hbs8, hbr8, hl8, hi8, hrg8, hb8⟩)
      (have BX8 := Lib.hid ((BEL.out _ (by assumption)).trans (hb8.mono (BEL.out _ (by assumption)).size)))
      (rw [← HNP.out] at hl8)
      (have hk8 : k < rows8.length := by omega)
      (obtain ⟨A8, c8, rfl, hc8'⟩ := hbr8.slice)
      (obtain ⟨b8, o8, rv8, rfl, -, hbl8, -, hc8, hrow8⟩ := (hbr8.toX (fun i hi => hi8 i hi) (by omega)).at_ hk8)
      (have HRW8 := Lib.hid hrow8)
      (have HLN8 := Lib.hid (hi8 k hk8))
      (have HRG8 := Lib.hid hrg8)
      (have HRX8 := Lib.hid (HRX.out.bel BX8.out))
      (have hs8 := BX8.out.size)
      clear hb8 hbr8 hi8 hrg8 hrow8
      go_simp
      refine hK.out _ _ ?_ (fun hHeld => ?_)
      · exact ⟨belC2 BX8.out c0 hs0, belC2 BX8.out c1 hs0, belC2 BX8.out p0 hbp, belC2 BX8.out p1 hbp, belC2 BX8.out p2 hbp, belC2 BX8.out p3 hbp, belC2 BX8.out p4 hbp, belC2 BX8.out s0 hsb, belC2 BX8.out s1 hsb, BX8.out⟩
      clear hK K
      (try simp only [Act.put, List.setIfInBounds_toArray, List.set_cons_zero, List.set_cons_succ])
      refine wpAnyH_take (i := 10) (oi := ⟨some 34, _, _, _, _, _⟩) (v := ?_) rfl (by kernel_rfl) (by kernel_rfl) (by kernel_rfl) (fun _ _ _ h => h) (Or.inl ⟨by rfl, fun w' hSw => ?_⟩) (by assumption) ?_
      rotate_left
      · (try dsimp only at hSw); go_simp; (try with_reducible rfl)
      (try simp only [Act.put, List.setIfInBounds_toArray, List.set_cons_zero, List.set_cons_succ])
      refine wpAnyH_ready (rs := [11]) (by kernel_rfl) (by simp) ?_
      refine (AllReadyH.cons (o := ⟨some 35, _, _, _, _, _⟩) rfl (fun K hK => ?_) AllReadyH.nil)
      go_simp
      refine hK.out _ _ ?_ (fun hHeld => ?_)
      · assumption
      clear hK K
      (try simp only [Act.put, List.setIfInBounds_toArray, List.set_cons_zero, List.set_cons_succ])
      refine wpAnyH_ready (rs := [12]) (by kernel_rfl) (by simp) ?_
      refine (AllReadyH.cons (o := ⟨some 36, _, _, _, _, _⟩) rfl (fun K hK => ?_) AllReadyH.nil)
      go_simp
      (refine (l4Live_any (.slice At ts.length ct) (.slice Av ts.length cv) rv8 (some ⟨pk, 0, none⟩) np ts P.op P.x P.y P.n (.slice An P.next.length cn) B np (R.getD k []) (rows8.getD k []) _ _ w8 (HB1.out.ht.low (HB3.out.trans (BX8.out.mono HB3.out.size)) (by omega)) (by omega) HRX8.out HRW8.out HRK.out HIN.out (Nat.le_refl _) HLN8.out h6 (by omega)).mono ?_)
      (rintro e w9 ⟨g9, L9, rfl, hr9, hl9, hL9, hb9⟩)
      (have BX9 := Lib.hid (BX8.out.trans (hb9.mono hs8)))
      (have HR9 := Lib.hid hr9)
      (have HLL := Lib.hid hl9)
      (have HLK := Lib.hid (fun e he => (hL9 e he).trans (lvA_kpl HPK.out (fun v e => HST.out k v e) (fun v => HRG8.out k v))))
      clear hr9 hl9 hL9 hb9
      go_simp
      refine hK.out _ _ ?_ (fun hHeld => ?_)
      · exact ⟨belC2 BX9.out c0 hs0, belC2 BX9.out c1 hs0, belC2 BX9.out p0 hbp, belC2 BX9.out p1 hbp, belC2 BX9.out p2 hbp, belC2 BX9.out p3 hbp, belC2 BX9.out p4 hbp, belC2 BX9.out s0 hsb, belC2 BX9.out s1 hsb, BX9.out⟩
      clear hK K
      (try simp only [Act.put, List.setIfInBounds_toArray, List.set_cons_zero, List.set_cons_succ])
      refine wpAnyH_take (i := 13) (oi := ⟨some 7, _, _, _, _, _⟩) (v := ?_) rfl (by kernel_rfl) (by kernel_rfl) (by kernel_rfl) (fun _ _ _ h => h) (Or.inl ⟨by rfl, fun w' hSw => ?_⟩) (by assumption) ?_
      rotate_left
      · (try dsimp only at hSw); go_simp; (try with_reducible rfl)
      (try simp only [Act.put, List.setIfInBounds_toArray, List.set_cons_zero, List.set_cons_succ])
      refine wpAnyH_done (by kernel_rfl) ?_ _
      have hs9 := BX9.out.size
      have c09 := belC2 BX9.out c0 hs0
      have c19 := belC2 BX9.out c1 hs0
      have p09 := belC2 BX9.out p0 hbp
      have p19 := belC2 BX9.out p1 hbp
      have p29 := belC2 BX9.out p2 hbp
      have p39 := belC2 BX9.out p3 hbp
      have p49 := belC2 BX9.out p4 hbp
      have s09 := belC2 BX9.out s0 hsb
      have s19 := belC2 BX9.out s1 hsb
      have HB9 := Lib.hid (HB3.out.trans (BX9.out.mono hs3))
      have hs0 : w.heap.size < w9.heap.size := by omega
      have hbp : bp < w9.heap.size := by omega
      have hsb : sb < w9.heap.size := by omega
      have BEL9 : Hid (∀ w', w'.cell? ⟨w.heap.size, 0, none⟩ = some (.slice At ts.length ct) ∧ w'.cell? ⟨w.heap.size, 1, none⟩ = some (.slice Ab l.length cb) ∧ w'.cell? ⟨bp, op + k * 5, none⟩ = some (.int .i64 P.op) ∧ w'.cell? ⟨bp, op + k * 5 + 1, none⟩ = some (.int .i64 P.x) ∧ w'.cell? ⟨bp, op + k * 5 + 2, none⟩ = some (.int .i64 P.y) ∧ w'.cell? ⟨bp, op + k * 5 + 3, none⟩ = some (.int .i64 P.n) ∧ w'.cell? ⟨bp, op + k * 5 + 4, none⟩ = some (.slice An P.next.length cn) ∧ w'.cell? ⟨sb, 0, none⟩ = some (.slice Av ts.length cv) ∧ w'.cell? ⟨sb, 1, none⟩ = some (.slice (some ⟨pk, 0, none⟩) np np) ∧ Below w9.heap.size w9 w' → Below w9.heap.size w9 w') := Lib.hid fun _ h => h.2.2.2.2.2.2.2.2.2
      clear c0 c1 p0 p1 p2 p3 p4 s0 s1 BEL
      go_wp2_with fail
      refine wp_region_held_drew (S := (fun w' => w'.cell? ⟨w.heap.size, 0, none⟩ = some (.slice At ts.length ct) ∧ w'.cell? ⟨w.heap.size, 1, none⟩ = some (.slice Ab l.length cb) ∧ w'.cell? ⟨bp, op + k * 5, none⟩ = some (.int .i64 P.op) ∧ w'.cell? ⟨bp, op + k * 5 + 1, none⟩ = some (.int .i64 P.x) ∧ w'.cell? ⟨bp, op + k * 5 + 2, none⟩ = some (.int .i64 P.y) ∧ w'.cell? ⟨bp, op + k * 5 + 3, none⟩ = some (.int .i64 P.n) ∧ w'.cell? ⟨bp, op + k * 5 + 4, none⟩ = some (.slice An P.next.length cn) ∧ w'.cell? ⟨sb, 0, none⟩ = some (.slice Av ts.length cv) ∧ w'.cell? ⟨sb, 1, none⟩ = some (.slice (some ⟨pk, 0, none⟩) np np) ∧ Below w9.heap.size w9 w')) (by kernel_rfl) ?_ (fun hHeld => ?_)
      · exact ⟨c09, c19, p09, p19, p29, p39, p49, s09, s19, (Below.refl _ _).drew⟩
      refine wpAnyH_take (i := 0) (oi := ⟨some 37, _, _, _, _, _⟩) (v := ?_) rfl (by kernel_rfl) (by kernel_rfl) (by kernel_rfl) (fun _ _ _ h => h) (Or.inl ⟨by rfl, fun w' hSw => ?_⟩) (by assumption) ?_
      rotate_left
      · (try dsimp only at hSw); go_simp; (try with_reducible rfl)
      (try simp only [Act.put, List.setIfInBounds_toArray, List.set_cons_zero, List.set_cons_succ])
      refine wpAnyH_take (i := 1) (oi := ⟨some 38, _, _, _, _, _⟩) (v := ?_) rfl (by kernel_rfl) (by kernel_rfl) (by kernel_rfl) (fun _ _ _ h => h) (Or.inl ⟨by rfl, fun w' hSw => ?_⟩) (by assumption) ?_
      rotate_left
      · (try dsimp only at hSw); go_simp; (try with_reducible rfl)
      (try simp only [Act.put, List.setIfInBounds_toArray, List.set_cons_zero, List.set_cons_succ])
      refine wpAnyH_take (i := 2) (oi := ⟨some 39, _, _, _, _, _⟩) (v := ?_) rfl (by kernel_rfl) (by kernel_rfl) (by kernel_rfl) (fun _ _ _ h => h) (Or.inl ⟨by rfl, fun w' hSw => ?_⟩) (by assumption) ?_
      rotate_left
      · (try dsimp only at hSw); go_simp; (try with_reducible rfl)
      (try simp only [Act.put, List.setIfInBounds_toArray, List.set_cons_zero, List.set_cons_succ])
      refine wpAnyH_take (i := 3) (oi := ⟨some 40, _, _, _, _, _⟩) (v := ?_) rfl (by kernel_rfl) (by kernel_rfl) (by kernel_rfl) (fun _ _ _ h => h) (Or.inl ⟨by rfl, fun w' hSw => ?_⟩) (by assumption) ?_
      rotate_left
      · (try dsimp only at hSw); go_simp; (try with_reducible rfl)
      (try simp only [Act.put, List.setIfInBounds_toArray, List.set_cons_zero, List.set_cons_succ])
      refine wpAnyH_take (i := 4) (oi := ⟨some 41, _, _, _, _, _⟩) (v := ?_) rfl (by kernel_rfl) (by kernel_rfl) (by kernel_rfl) (fun _ _ _ h => h) (Or.inl ⟨by rfl, fun w' hSw => ?_⟩) (by assumption) ?_
      rotate_left
      · (try dsimp only at hSw); go_simp; (try with_reducible rfl)
      (try simp only [Act.put, List.setIfInBounds_toArray, List.set_cons_zero, List.set_cons_succ])
      refine wpAnyH_take (i := 5) (oi := ⟨some 42, _, _, _, _, _⟩) (v := ?_) rfl (by kernel_rfl) (by kernel_rfl) (by kernel_rfl) (fun _ _ _ h => h) (Or.inl ⟨by rfl, fun w' hSw => ?_⟩) (by assumption) ?_
      rotate_left
      · (try dsimp only at hSw); go_simp; (try with_reducible rfl)
      (try simp only [Act.put, List.setIfInBounds_toArray, List.set_cons_zero, List.set_cons_succ])
      refine wpAnyH_take (i := 6) (oi := ⟨some 43, _, _, _, _, _⟩) (v := ?_) rfl (by kernel_rfl) (by kernel_rfl) (by kernel_rfl) (fun _ _ _ h => h) (Or.inl ⟨by rfl, fun w' hSw => ?_⟩) (by assumption) ?_
      rotate_left
      · (try dsimp only at hSw); go_simp; (try with_reducible rfl)
      (try simp only [Act.put, List.setIfInBounds_toArray, List.set_cons_zero, List.set_cons_succ])
      refine wpAnyH_take (i := 7) (oi := ⟨some 44, _, _, _, _, _⟩) (v := ?_) rfl (by kernel_rfl) (by kernel_rfl) (by kernel_rfl) (fun _ _ _ h => h) (Or.inl ⟨by rfl, fun w' hSw => ?_⟩) (by assumption) ?_
      rotate_left
      · (try dsimp only at hSw); go_simp; (try with_reducible rfl)
      (try simp only [Act.put, List.setIfInBounds_toArray, List.set_cons_zero, List.set_cons_succ])
      refine wpAnyH_take (i := 9) (oi := ⟨some 46, _, _, _, _, _⟩) (v := ?_) rfl (by kernel_rfl) (by kernel_rfl) (by kernel_rfl) (fun _ _ _ h => h) (Or.inl ⟨by rfl, fun w' hSw => ?_⟩) (by assumption) ?_
      rotate_left
      · (try dsimp only at hSw); go_simp; (try with_reducible rfl)
      (try simp only [Act.put, List.setIfInBounds_toArray, List.set_cons_zero, List.set_cons_succ])
      refine wpAnyH_take (i := 13) (oi := ⟨some 50, _, _, _, _, _⟩) (v := ?_) rfl (by kernel_rfl) (by kernel_rfl) (by kernel_rfl) (fun _ _ _ h => h) (Or.inl ⟨by rfl, fun w' hSw => ?_⟩) (by assumption) ?_
      rotate_left
      · (try dsimp only at hSw); go_simp; (try with_reducible rfl)
      (try simp only [Act.put, List.setIfInBounds_toArray, List.set_cons_zero, List.set_cons_succ])
      refine wpAnyH_take (i := 14) (oi := ⟨some 51, _, _, _, _, _⟩) (v := ?_) rfl (by kernel_rfl) (by kernel_rfl) (by kernel_rfl) (fun _ _ _ h => h) (Or.inl ⟨by rfl, fun w' hSw => ?_⟩) (by assumption) ?_
      rotate_left
      · (try dsimp only at hSw); go_simp; (try with_reducible rfl)
      (try simp only [Act.put, List.setIfInBounds_toArray, List.set_cons_zero, List.set_cons_succ])
      refine wpAnyH_ready (rs := [8]) (by kernel_rfl) (by simp) ?_
      refine (AllReadyH.cons (o := ⟨some 45, _, _, _, _, _⟩) rfl (fun K hK => ?_) AllReadyH.nil)
      go_simp
      (refine (l3Forward_any _ _ false ts l B _ (HB1.out.ht.low (HB9.out.trans (((BEL9.out _ (by assumption))).mono HB9.out.size)) (by omega)) (HB1.out.hl.low (HB9.out.trans (((BEL9.out _ (by assumption))).mono HB9.out.size)) (by omega)) (by have := ((BEL9.out _ (by assumption))).size; omega) HV.out).mono ?_)
      (rintro e w10 ⟨G, S, vs, rows, seen, vq, rfl, hG, hfq, hrl, hac, hb10⟩)
      (have BX10 := Lib.hid ((BEL9.out _ (by assumption)).trans (hb10.mono (BEL9.out _ (by assumption)).size)))
      (have hkl : k < rows.length := by (rw [hrl]; exact HKP.out))
      (obtain ⟨hlk, hval⟩ := hac k HKP.out)
      (obtain ⟨Ak, ck, evk, -⟩ := (hfq.row k hkl).slice)
      (have hold := hfq.old hkl (by omega) evk)
      (rw [hlk] at evk hold)
      (have d7 := hfq.cellG hkl evk)
      (have HBO := Lib.hid hold)
      (have HLKF := Lib.hid hlk)
      (have HAC := Lib.hid (accL_congr (op := P.op) (x := P.x) (y := P.y) (ts := ts) (f := fun v => (rows.getD k []).getD v false) (h := fun v => dec (Ac false ts (ptsP l) 0 k v)) HSL.out (fun v hv => by have := hval v hv; unfold rget at this; rw [this]; cases dec (Ac false ts (ptsP l) 0 k v) <;> rfl)))
      (rw [← HNP.out])
      clear evk hval hac hfq hrl hlk hold hkl hb10
      go_simp
      refine hK.out _ _ ?_ (fun hHeld => ?_)
      · exact ⟨belC2 BX10.out c09 hs0, belC2 BX10.out c19 hs0, belC2 BX10.out p09 hbp, belC2 BX10.out p19 hbp, belC2 BX10.out p29 hbp, belC2 BX10.out p39 hbp, belC2 BX10.out p49 hbp, belC2 BX10.out s09 hsb, belC2 BX10.out s19 hsb, BX10.out⟩
      clear hK K
      (try simp only [Act.put, List.setIfInBounds_toArray, List.set_cons_zero, List.set_cons_succ])
      refine wpAnyH_take (i := 10) (oi := ⟨some 47, _, _, _, _, _⟩) (v := ?_) rfl (by kernel_rfl) (by kernel_rfl) (by kernel_rfl) (fun _ _ _ h => h) (Or.inl ⟨by rfl, fun w' hSw => ?_⟩) (by assumption) ?_
      rotate_left
      · (try dsimp only at hSw); go_simp; (try with_reducible rfl)
      (try simp only [Act.put, List.setIfInBounds_toArray, List.set_cons_zero, List.set_cons_succ])
      refine wpAnyH_ready (rs := [11]) (by kernel_rfl) (by simp) ?_
      refine (AllReadyH.cons (o := ⟨some 48, _, _, _, _, _⟩) rfl (fun K hK => ?_) AllReadyH.nil)
      go_simp
      refine hK.out _ _ ?_ (fun hHeld => ?_)
      · assumption
      clear hK K
      (try simp only [Act.put, List.setIfInBounds_toArray, List.set_cons_zero, List.set_cons_succ])
      refine wpAnyH_ready (rs := [12]) (by kernel_rfl) (by simp) ?_
      refine (AllReadyH.cons (o := ⟨some 49, _, _, _, _, _⟩) rfl (fun K hK => ?_) AllReadyH.nil)
      go_simp
      (refine (l4Accesses_any At ct ts _ P.op P.x P.y P.n An P.next.length cn Ak ck (rows.getD k []) _ ((HB1.out.ht.low (HB9.out.trans (BX10.out.mono HB9.out.size)) (by omega)).more (B' := w10.heap.size) (by have := BX10.out.size; omega)) HBO.out HLKF.out (Nat.le_refl _) h6 HSL.out HYL.out).mono ?_)
      (rintro e w11 ⟨v11, rfl, hv11, hb11⟩)
      (rw [HAC.out] at hv11)
      (have HV11 := Lib.hid hv11)
      (obtain ⟨Aa, ca, rfl, hca⟩ := hv11.slice)
      (have BX11 := Lib.hid (BX10.out.trans (hb11.mono BX10.out.size)))
      clear hv11 hb11
      go_simp
      refine hK.out _ _ ?_ (fun hHeld => ?_)
      · exact ⟨belC2 BX11.out c09 hs0, belC2 BX11.out c19 hs0, belC2 BX11.out p09 hbp, belC2 BX11.out p19 hbp, belC2 BX11.out p29 hbp, belC2 BX11.out p39 hbp, belC2 BX11.out p49 hbp, belC2 BX11.out s09 hsb, belC2 BX11.out s19 hsb, BX11.out⟩
      clear hK K
      (try simp only [Act.put, List.setIfInBounds_toArray, List.set_cons_zero, List.set_cons_succ])
      refine wpAnyH_ready (rs := [15]) (by kernel_rfl) (by simp) ?_
      refine (AllReadyH.cons (o := ⟨some 52, _, _, _, _, _⟩) rfl (fun K hK => ?_) AllReadyH.nil)
      go_simp
      (have hs11 := BX11.out.size)
      (have HPT11 := Lib.hid (HPTS.out.low (HB9.out.trans (BX11.out.mono HB9.out.size)) (Nat.le_refl _)))
      (have HLS11 := Lib.hid ((HR9.out.low BX11.out HR9.out.lt).bools (c := np) (by have := HLL.out; omega) (by have := HLL.out; omega)))
      (have HQS11 := Lib.hid ((HPLC.out.low (BX9.out.trans (BX11.out.mono hs9)) HPLC.out.lt).bools (c := np) (by have := HQLN.out; omega) (by have := HQLN.out; omega)))
      (rw [HLL.out] at HLS11)
      (rw [HQLN.out] at HQS11)
      (rw [HNP.out] at HLS11 HQS11 ⊢)
      (refine (l4Conflicts_any _ _ _ _ _ _ _ _ _ w11.heap.size (ptsP l) _ L9 (Q.getD k []) w11 (HPT11.out.more (by omega)) HV11.out HQS11.out HLS11.out (Nat.le_refl _) (by rw [HQLN.out]; exact HNP.out) (by rw [HLL.out]; exact HNP.out) (by rw [← HNP.out]; omega)).mono ?_)
      (rintro e w12 ⟨g12, L12, rfl, hr12, hl12, hL12, hb12⟩)
      (have BX12 := Lib.hid (BX11.out.trans (hb12.mono hs11)))
      (have HBO12 := Lib.hid (hr12.bools (c := (ptsP l).length) (by rw [hl12, ← HNP.out]; omega) (by rw [hl12]; exact Nat.le_refl _)))
      (rw [hl12] at HBO12)
      (have HL12 := Lib.hid hL12)
      (have HLL12 := Lib.hid hl12)
      clear hr12 hl12 hL12 hb12
      go_simp
      refine hK.out _ _ ?_ (fun hHeld => ?_)
      · exact ⟨belC2 BX12.out c09 hs0, belC2 BX12.out c19 hs0, belC2 BX12.out p09 hbp, belC2 BX12.out p19 hbp, belC2 BX12.out p29 hbp, belC2 BX12.out p39 hbp, belC2 BX12.out p49 hbp, belC2 BX12.out s09 hsb, belC2 BX12.out s19 hsb, BX12.out⟩
      clear hK K
      (try simp only [Act.put, List.setIfInBounds_toArray, List.set_cons_zero, List.set_cons_succ])
      refine wpAnyH_ready (rs := [16]) (by kernel_rfl) (by simp) ?_
      refine (AllReadyH.cons (o := ⟨some 53, _, _, _, _, _⟩) rfl (fun K hK => ?_) AllReadyH.nil)
      go_simp
      (refine (l3Numbers_any _ _ _ _ HBO12.out (Nat.le_refl _)).mono ?_)
      (rintro e w13 ⟨v13, rfl, hi13, hb13⟩)
      (have BX13 := Lib.hid (BX12.out.trans (hb13.mono BX12.out.size)))
      (have HI13 := Lib.hid hi13)
      clear hi13 hb13
      go_simp
      refine hK.out _ _ ?_ (fun hHeld => ?_)
      · exact ⟨belC2 BX13.out c09 hs0, belC2 BX13.out c19 hs0, belC2 BX13.out p09 hbp, belC2 BX13.out p19 hbp, belC2 BX13.out p29 hbp, belC2 BX13.out p39 hbp, belC2 BX13.out p49 hbp, belC2 BX13.out s09 hsb, belC2 BX13.out s19 hsb, BX13.out⟩
      clear hK K
      (try simp only [Act.put, List.setIfInBounds_toArray, List.set_cons_zero, List.set_cons_succ])
      refine wpAnyH_take (i := 17) (oi := ⟨some 4, _, _, _, _, _⟩) (v := ?_) rfl (by kernel_rfl) (by kernel_rfl) (by kernel_rfl) (fun _ _ _ h => h) (Or.inl ⟨by rfl, fun w' hSw => ?_⟩) (by assumption) ?_
      rotate_left
      · (try dsimp only at hSw); go_simp; (try with_reducible rfl)
      (try simp only [Act.put, List.setIfInBounds_toArray, List.set_cons_zero, List.set_cons_succ])
      refine wpAnyH_done (by kernel_rfl) ?_ _
      go_wp2_with fail
      go_ret
      have hfin := HI13.out
      rw [HLL12.out] at hfin
      refine ⟨_, rfl, ?_, HB1.out.bel.trans ((HB9.out.trans (BX13.out.mono HB9.out.size)).mono HB1.out.bel.size)⟩
      rw [HRES.out, ← cfS_cfL (L := L9) (Q := Q.getD k []) HGD.out (fun e he => HLK.out e (by rw [HNP.out]; exact he)) (fun e => HPQ.out e) (fun a ha => (HARG.out _ a ha).1), ← lst_congr HL12.out]
      exact hfin
    · have HRES : Hid (cfRes ts l a = []) := Lib.hid (by unfold cfRes; rw [HGN.out (by omega)]; rfl)
      go_wp2_with fail
      go_ret
      exact ⟨_, rfl, by rw [HRES.out]; exact IntS.nil' _ _ _ _, HB1.out.bel.trans ((bel_a _ _).mono HB1.out.bel.size)⟩

end Go.Proofs.Ytidlifijgooceaa
