import Derived.Test.YteaddodjijlpjaaG49
import Derived.Test.YteaddodjijlpjaaG50
import Derived.Test.YteaddodjijlpjaaG51
set_option linter.unusedVariables false

/- spec.l3Point, CellsOf, SettersOf, NumbersOf, MayAlias, UsersOf. -/
namespace Go.Proofs.Yteaddodjijlpjaa
open Go.RowKit

def pointB (ts : List Int) (l : List St) (a v : Int) : Bool := graphOk ts l [a] && withinP v 0 ((ts.length : Int) - 1)
theorem graphOk_a (ts : List Int) (l : List St) (a : Int) (hv : validP ts l = true) : graphOk ts l [a] = (decide (0 ≤ a) && decide (a < ((ptsP l).length : Int))) := by
  simp only [graphOk, hv, Bool.true_and, List.all_cons, List.all_nil, Bool.and_true, withinP]
  rw [Bool.eq_iff_iff]; simp; omega
set_option maxHeartbeats 2000000 in
theorem l3Point_any (vt vb : Value) (ts : List Int) (l : List St) (a v : Int) (B : Nat) (w : World) (ht : IntS w B vt ts) (hl : StS w B vb l) (hB : B ≤ w.heap.size) (hsz : szL l ≤ 4194300) :
    Calls Try.prog 56 #[.agg #[vt, vb], .int .i64 a, .int .i64 v] w fun e w' => e = .returned (.bool (pointB ts l a v)) ∧ Below w.heap.size w w' := by
  have HBX := Lib.hid (Boxed.new ht hl hB 26)
  obtain ⟨At, ct, rfl, hct, -, -⟩ := ht
  obtain ⟨Ab, cb, rfl, hcb⟩ := hl.slice
  clear hl
  go_enter Try.func56, Try.ntmps56
  go_wp2_with fail
  refine (sProgramValid_any _ _ ts l B _ HBX.out.ht HBX.out.hl (by simp; omega) (by omega)).mono ?_
  rintro e w1 ⟨rfl, hb1⟩
  have HB1 := Lib.hid (HBX.out.bels hb1 hB)
  have c0 := HB1.out.c0
  have c1 := HB1.out.c1
  have hs1 := HB1.out.lt
  clear hb1
  cases hv : validP ts l
  · have HRES : Hid (pointB ts l a v = false) := Lib.hid (by unfold pointB graphOk; rw [hv]; rfl)
    clear hv
    go_wp2_with fail
    go_ret
    exact ⟨ret_bool HRES.out.symm, HB1.out.bel⟩
  · have HRES := Lib.hid (graphOk_a ts l a hv)
    clear hv
    by_cases ha : 0 ≤ a
    · go_wp2_with fail
      refine (l2Points_any _ _ l B _ HB1.out.hl (by omega) hsz).mono ?_
      rintro e w2 ⟨vp, rfl, hps, hb2⟩
      have HB2 := Lib.hid (HB1.out.bels hb2 hB)
      have d0 := HB2.out.c0
      obtain ⟨Ap, cp, rfl, hcp, hpl⟩ := hps.slice
      generalize (ptsP l).length = np at *
      clear hps hb2 c0 c1
      by_cases hap : a < (np : Int)
      · by_cases hv0 : 0 ≤ v
        · by_cases hvl : v < (ts.length : Int)
          · have HR : Hid (pointB ts l a v = true) := Lib.hid (by unfold pointB withinP; rw [HRES.out]; simp; omega)
            go_wp2_with fail
            go_ret
            exact ⟨ret_bool HR.out.symm, HB2.out.bel⟩
          · have HR : Hid (pointB ts l a v = false) := Lib.hid (by unfold pointB withinP; rw [HRES.out]; simp; omega)
            go_wp2_with fail
            go_ret
            exact ⟨ret_bool (by rw [HR.out]; simpa using hvl), HB2.out.bel⟩
        · have HR : Hid (pointB ts l a v = false) := Lib.hid (by unfold pointB withinP; rw [HRES.out]; simp; omega)
          have hv1 : decide (0 ≤ v) = false := by simpa using hv0
          go_wp2_with fail
          go_ret
          exact ⟨ret_bool HR.out.symm, HB2.out.bel⟩
      · have HR : Hid (pointB ts l a v = false) := Lib.hid (by unfold pointB withinP; rw [HRES.out]; simp; omega)
        have hap1 : decide (a < (np : Int)) = false := by simpa using hap
        go_wp2_with fail
        go_ret
        exact ⟨ret_bool HR.out.symm, HB2.out.bel⟩
    · have HR : Hid (pointB ts l a v = false) := Lib.hid (by unfold pointB; rw [HRES.out]; simp; omega)
      have ha1 : decide (0 ≤ a) = false := by simpa using ha
      go_wp2_with fail
      go_ret
      exact ⟨ret_bool HR.out.symm, HB1.out.bel⟩

/-- the row of a point and a variable in a flow -/
theorem B3.get {w : World} {base s n c k v m : Nat} {A : Option Addr} {mv : List Value} {rbs : List (List Nat)} {R : List (List (List Bool))} (h : B3 w base (.slice A n c) mv rbs s R) (hk : k < R.length) (hm : (R.getD k []).length = m) (hv : v < m) (hl : ((R.getD k []).getD v []).length = s) (hs : s ≤ 100) :
    ∃ g g2 r c2, A = some ⟨g, 0, none⟩ ∧ n = R.length ∧ w.cell? ⟨g, k, none⟩ = some (.slice (some ⟨g2, 0, none⟩) m c2) ∧ m ≤ c2 ∧ w.cell? ⟨g2, v, none⟩ = some (.slice (some ⟨r, 0, none⟩) s s) ∧ RowB w r 4 (bv ((R.getD k []).getD v [])) := by
  obtain ⟨g, e, _, _, hn, hc⟩ := h.at_ hk
  have hb := h.mid k hk
  obtain ⟨g2, c2, e2, _, _, hc2, hcell, _⟩ := hb.form (by omega)
  rw [e2, hm] at hc
  exact ⟨g, g2, (rbs.getD k []).getD v 0, c2, e, hn, hc, by omega, hcell v (by omega), (hb.row v (by omega)).1⟩
theorem row_flS {ts : List Int} {pts : List Pt} {G : Nat → Pt → Nat → Bool} {C : Pt → Bool} {s k v : Nat} {R : List (List (List Bool))} (h : ∀ i v e, get3 R i v e = true ↔ Fl ts pts G C i v e) (hl : ((R.getD k []).getD v []).length = s) :
    lst s (fun e => ((R.getD k []).getD v []).getD e false) = flS s ts pts G C k v := by
  unfold flS
  refine lst_congr fun e _ => ?_
  rw [Bool.eq_iff_iff, dec_iff, ← h k v e]
  rfl

set_option maxHeartbeats 4000000 in
set_option maxRecDepth 100000 in
theorem sCellsOf_any (vt vb : Value) (ts : List Int) (l : List St) (a v : Int) (B : Nat) (w : World) (ht : IntS w B vt ts) (hl : StS w B vb l) (hB : B ≤ w.heap.size) (hsz : szL l ≤ 4194300) :
    Calls Try.prog 23 #[.agg #[vt, vb], .int .i64 a, .int .i64 v] w (IntsRet w (flRes ts l Gcell Ccell a v)) := by
  have HBX := Lib.hid (Boxed.new ht hl hB 26)
  obtain ⟨At, ct, rfl, hct, -, -⟩ := ht
  obtain ⟨Ab, cb, rfl, hcb⟩ := hl.slice
  clear hl
  go_enter Try.func23, Try.ntmps23
  go_wp2_with fail
  refine (l3Point_any _ _ ts l a v B _ HBX.out.ht HBX.out.hl (by simp; omega) hsz).mono ?_
  rintro e w1 ⟨rfl, hb1⟩
  have HB1 := Lib.hid (HBX.out.bels hb1 hB)
  have c0 := HB1.out.c0
  have c1 := HB1.out.c1
  have hs1 := HB1.out.lt
  clear hb1
  cases hpb : pointB ts l a v
  · have HRES : Hid (flRes ts l Gcell Ccell a v = []) := Lib.hid (by unfold flRes; unfold pointB at hpb; rw [if_neg]; rintro ⟨h1, h2⟩; rw [h1, h2] at hpb; cases hpb)
    clear hpb
    go_wp2_with fail
    go_ret
    exact ⟨_, rfl, by rw [HRES.out]; exact IntS.nil' _ _ _ _, HB1.out.bel.trans ((bel_a _ _).mono HB1.out.bel.size)⟩
  · have hpb' : graphOk ts l [a] = true ∧ withinP v 0 ((ts.length : Int) - 1) = true := by unfold pointB at hpb; simpa using hpb
    obtain ⟨hok, hwv⟩ := hpb'
    obtain ⟨hv, k, rfl, hk⟩ := graphOk_one hok
    have hv0 : 0 ≤ v ∧ v < ts.length := by simp [withinP] at hwv; omega
    obtain ⟨x, rfl⟩ : ∃ x : Nat, v = x := ⟨v.toNat, by omega⟩
    have hx : x < ts.length := by omega
    have HRES : Hid (flRes ts l Gcell Ccell (k : Nat) (x : Nat) = flS (ptsP l).length ts (ptsP l) Gcell Ccell k x) := Lib.hid (by unfold flRes; rw [if_pos ⟨hok, hwv⟩]; rfl)
    have GD := Lib.hid (Good.of_valid hv)
    have HV := Lib.hid hv
    have hplen := GD.out.len
    clear hpb hok hwv hv hv0
    go_wp2_with fail
    have BEL : Hid (∀ w', w'.cell? ⟨w.heap.size, 0, none⟩ = some (.slice At ts.length ct) ∧ w'.cell? ⟨w.heap.size, 1, none⟩ = some (.slice Ab l.length cb) ∧ Below w1.heap.size w1 w' → Below w1.heap.size w1 w') := Lib.hid fun _ h => h.2.2
    refine wp_region_held_drew (S := (fun w' => w'.cell? ⟨w.heap.size, 0, none⟩ = some (.slice At ts.length ct) ∧ w'.cell? ⟨w.heap.size, 1, none⟩ = some (.slice Ab l.length cb) ∧ Below w1.heap.size w1 w')) (by kernel_rfl) ?_ (fun hHeld => ?_)
    · exact ⟨c0, c1, (Below.refl _ _).drew⟩
    refine wpAnyH_take (i := 0) (oi := ⟨some 13, _, _, _, _, _⟩) (v := ?_) rfl (by kernel_rfl) (by kernel_rfl) (by kernel_rfl) (fun _ _ _ h => h) (Or.inl ⟨by rfl, fun w' hSw => ?_⟩) (by assumption) ?_
    rotate_left
    · (try dsimp only at hSw); go_simp; (try with_reducible rfl)
    (try simp only [Act.put, List.setIfInBounds_toArray, List.set_cons_zero, List.set_cons_succ])
    refine wpAnyH_take (i := 1) (oi := ⟨some 14, _, _, _, _, _⟩) (v := ?_) rfl (by kernel_rfl) (by kernel_rfl) (by kernel_rfl) (fun _ _ _ h => h) (Or.inl ⟨by rfl, fun w' hSw => ?_⟩) (by assumption) ?_
    rotate_left
    · (try dsimp only at hSw); go_simp; (try with_reducible rfl)
    (try simp only [Act.put, List.setIfInBounds_toArray, List.set_cons_zero, List.set_cons_succ])
    refine wpAnyH_take (i := 5) (oi := ⟨some 18, _, _, _, _, _⟩) (v := ?_) rfl (by kernel_rfl) (by kernel_rfl) (by kernel_rfl) (fun _ _ _ h => h) (Or.inl ⟨by rfl, fun w' hSw => ?_⟩) (by assumption) ?_
    rotate_left
    · (try dsimp only at hSw); go_simp; (try with_reducible rfl)
    (try simp only [Act.put, List.setIfInBounds_toArray, List.set_cons_zero, List.set_cons_succ])
    refine wpAnyH_take (i := 8) (oi := ⟨some 21, _, _, _, _, _⟩) (v := ?_) rfl (by kernel_rfl) (by kernel_rfl) (by kernel_rfl) (fun _ _ _ h => h) (Or.inl ⟨by rfl, fun w' hSw => ?_⟩) (by assumption) ?_
    rotate_left
    · (try dsimp only at hSw); go_simp; (try with_reducible rfl)
    (try simp only [Act.put, List.setIfInBounds_toArray, List.set_cons_zero, List.set_cons_succ])
    refine wpAnyH_ready (rs := [2]) (by kernel_rfl) (by simp) ?_
    refine AllReadyH.cons (o := ⟨some 15, _, _, _, _, _⟩) rfl (fun K hK => ?_) AllReadyH.nil
    go_simp
    (refine (l2Points_any _ _ l B _ (HB1.out.hl.low (BEL.out _ (by assumption)) (by omega)) (by have := (BEL.out _ (by assumption)).size; omega) hsz).mono ?_)
    (rintro e w5 ⟨v5, rfl, hps, hb5⟩)
    (have BX5 := Lib.hid ((BEL.out _ (by assumption)).trans (hb5.mono (BEL.out _ (by assumption)).size)))
    (have HP5 := Lib.hid (HB1.out.bels BX5.out hB))
    (obtain ⟨Ap, cp, rfl, hcp, hpl⟩ := hps.slice)
    clear hps hb5
    go_simp
    refine hK.out _ _ ?_ (fun hHeld => ?_)
    · exact ⟨HP5.out.c0, HP5.out.c1, BX5.out⟩
    clear hK K
    (try simp only [Act.put, List.setIfInBounds_toArray, List.set_cons_zero, List.set_cons_succ])
    refine wpAnyH_take (i := 3) (oi := ⟨some 16, _, _, _, _, _⟩) (v := ?_) rfl (by kernel_rfl) (by kernel_rfl) (by kernel_rfl) (fun _ _ _ h => h) (Or.inl ⟨by rfl, fun w' hSw => ?_⟩) (by assumption) ?_
    rotate_left
    · (try dsimp only at hSw); go_simp; (try with_reducible rfl)
    (try simp only [Act.put, List.setIfInBounds_toArray, List.set_cons_zero, List.set_cons_succ])
    refine wpAnyH_ready (rs := [4]) (by kernel_rfl) (by simp) ?_
    refine AllReadyH.cons (o := ⟨some 17, _, _, _, _, _⟩) rfl (fun K hK => ?_) AllReadyH.nil
    go_simp
    (refine (l10Flow_any _ _ 0 (ptsP l).length ts l Gcell Ccell B w5 (HB1.out.ht.low BX5.out (by omega)) (HB1.out.hl.low BX5.out (by omega)) (by have := BX5.out.size; omega) HV.out (kd_cell GD.out) (Gcell_lt hplen) (by omega)).mono ?_)
    (rintro e w6 ⟨v6, mv, rbs, R, base, rfl, hbase, hb3, hri, hst, hb6⟩)
    (have BX6 := Lib.hid (BX5.out.trans (hb6.mono BX5.out.size)))
    (have HP6 := Lib.hid (HB1.out.bels BX6.out hB))
    (have hRl := hri.len)
    (obtain ⟨A6, c6, rfl, hc6⟩ := hb3.slice)
    (obtain ⟨g6, g7, r7, c7, rfl, -, y6, hc7, y7, hrow⟩ := hb3.get (k := k) (v := x) (by omega) (hri.row k (by omega)) hx (hri.inn k x (by omega) hx) (by omega))
    (have HBO := Lib.hid (hrow.bools (c := (ptsP l).length) (by rw [hri.inn k x (by omega) hx]; omega) (by rw [hri.inn k x (by omega) hx]; omega)))
    (have HLR := Lib.hid (row_flS hst (hri.inn k x (by omega) hx)))
    (have HLN := Lib.hid (hri.inn k x (by omega) hx))
    (rw [HLN.out] at HBO)
    (rw [hRl] at hc6 ⊢)
    clear hbase hb3 hri hst hb6 hrow hRl
    go_simp
    refine hK.out _ _ ?_ (fun hHeld => ?_)
    · exact ⟨HP6.out.c0, HP6.out.c1, BX6.out⟩
    clear hK K
    (try simp only [Act.put, List.setIfInBounds_toArray, List.set_cons_zero, List.set_cons_succ])
    refine wpAnyH_take (i := 6) (oi := ⟨some 19, _, _, _, _, _⟩) (v := ?_) rfl (by kernel_rfl) (by kernel_rfl) (by kernel_rfl) (fun _ _ _ h => h) (Or.inl ⟨by rfl, fun w' hSw => ?_⟩) (by assumption) ?_
    rotate_left
    · (try dsimp only at hSw); go_simp; (try with_reducible rfl)
    (try simp only [Act.put, List.setIfInBounds_toArray, List.set_cons_zero, List.set_cons_succ])
    refine wpAnyH_ready (rs := [7]) (by kernel_rfl) (by simp) ?_
    refine AllReadyH.cons (o := ⟨some 20, _, _, _, _, _⟩) rfl (fun K hK => ?_) AllReadyH.nil
    go_simp
    refine hK.out _ _ ?_ (fun hHeld => ?_)
    · exact ⟨HP6.out.c0, HP6.out.c1, BX6.out⟩
    clear hK K
    (try simp only [Act.put, List.setIfInBounds_toArray, List.set_cons_zero, List.set_cons_succ])
    refine wpAnyH_take (i := 9) (oi := ⟨some 22, _, _, _, _, _⟩) (v := ?_) rfl (by kernel_rfl) (by kernel_rfl) (by kernel_rfl) (fun _ _ _ h => h) (Or.inl ⟨by rfl, fun w' hSw => ?_⟩) (by assumption) ?_
    rotate_left
    · (try dsimp only at hSw); go_simp; (try with_reducible rfl)
    (try simp only [Act.put, List.setIfInBounds_toArray, List.set_cons_zero, List.set_cons_succ])
    refine wpAnyH_ready (rs := [10]) (by kernel_rfl) (by simp) ?_
    refine AllReadyH.cons (o := ⟨some 23, _, _, _, _, _⟩) rfl (fun K hK => ?_) AllReadyH.nil
    go_simp
    refine hK.out _ _ ?_ (fun hHeld => ?_)
    · exact ⟨HP6.out.c0, HP6.out.c1, BX6.out⟩
    clear hK K
    (try simp only [Act.put, List.setIfInBounds_toArray, List.set_cons_zero, List.set_cons_succ])
    refine wpAnyH_ready (rs := [11]) (by kernel_rfl) (by simp) ?_
    refine AllReadyH.cons (o := ⟨some 24, _, _, _, _, _⟩) rfl (fun K hK => ?_) AllReadyH.nil
    go_simp
    (refine (l3Numbers_any _ _ _ _ HBO.out (Nat.le_refl _)).mono ?_)
    (rintro e w7 ⟨v7, rfl, hi7, hb7⟩)
    (have BX7 := Lib.hid (BX6.out.trans (hb7.mono BX6.out.size)))
    (have HP7 := Lib.hid (HB1.out.bels BX7.out hB))
    (have HI7 := Lib.hid hi7)
    clear hi7 hb7
    go_simp
    refine hK.out _ _ ?_ (fun hHeld => ?_)
    · exact ⟨HP7.out.c0, HP7.out.c1, BX7.out⟩
    clear hK K
    (try simp only [Act.put, List.setIfInBounds_toArray, List.set_cons_zero, List.set_cons_succ])
    refine wpAnyH_take (i := 12) (oi := ⟨some 6, _, _, _, _, _⟩) (v := ?_) rfl (by kernel_rfl) (by kernel_rfl) (by kernel_rfl) (fun _ _ _ h => h) (Or.inl ⟨by rfl, fun w' hSw => ?_⟩) (by assumption) ?_
    rotate_left
    · (try dsimp only at hSw); go_simp; (try with_reducible rfl)
    (try simp only [Act.put, List.setIfInBounds_toArray, List.set_cons_zero, List.set_cons_succ])
    refine wpAnyH_done (by kernel_rfl) ?_ _
    go_wp2_with fail
    go_ret
    have hfin := HI7.out
    rw [HLN.out, HLR.out, ← HRES.out] at hfin
    exact ⟨_, rfl, hfin, HB1.out.bel.trans (BX7.out.mono HB1.out.bel.size)⟩

set_option maxHeartbeats 4000000 in
set_option maxRecDepth 100000 in
theorem sSettersOf_any (vt vb : Value) (ts : List Int) (l : List St) (a v : Int) (B : Nat) (w : World) (ht : IntS w B vt ts) (hl : StS w B vb l) (hB : B ≤ w.heap.size) (hsz : szL l ≤ 4194300) :
    Calls Try.prog 37 #[.agg #[vt, vb], .int .i64 a, .int .i64 v] w (IntsRet w (flRes ts l Gset Cset a v)) := by
  have HBX := Lib.hid (Boxed.new ht hl hB 26)
  obtain ⟨At, ct, rfl, hct, -, -⟩ := ht
  obtain ⟨Ab, cb, rfl, hcb⟩ := hl.slice
  clear hl
  go_enter Try.func37, Try.ntmps37
  go_wp2_with fail
  refine (l3Point_any _ _ ts l a v B _ HBX.out.ht HBX.out.hl (by simp; omega) hsz).mono ?_
  rintro e w1 ⟨rfl, hb1⟩
  have HB1 := Lib.hid (HBX.out.bels hb1 hB)
  have c0 := HB1.out.c0
  have c1 := HB1.out.c1
  have hs1 := HB1.out.lt
  clear hb1
  cases hpb : pointB ts l a v
  · have HRES : Hid (flRes ts l Gset Cset a v = []) := Lib.hid (by unfold flRes; unfold pointB at hpb; rw [if_neg]; rintro ⟨h1, h2⟩; rw [h1, h2] at hpb; cases hpb)
    clear hpb
    go_wp2_with fail
    go_ret
    exact ⟨_, rfl, by rw [HRES.out]; exact IntS.nil' _ _ _ _, HB1.out.bel.trans ((bel_a _ _).mono HB1.out.bel.size)⟩
  · have hpb' : graphOk ts l [a] = true ∧ withinP v 0 ((ts.length : Int) - 1) = true := by unfold pointB at hpb; simpa using hpb
    obtain ⟨hok, hwv⟩ := hpb'
    obtain ⟨hv, k, rfl, hk⟩ := graphOk_one hok
    have hv0 : 0 ≤ v ∧ v < ts.length := by simp [withinP] at hwv; omega
    obtain ⟨x, rfl⟩ : ∃ x : Nat, v = x := ⟨v.toNat, by omega⟩
    have hx : x < ts.length := by omega
    have HRES : Hid (flRes ts l Gset Cset (k : Nat) (x : Nat) = flS (ptsP l).length ts (ptsP l) Gset Cset k x) := Lib.hid (by unfold flRes; rw [if_pos ⟨hok, hwv⟩]; rfl)
    have GD := Lib.hid (Good.of_valid hv)
    have HV := Lib.hid hv
    have hplen := GD.out.len
    clear hpb hok hwv hv hv0
    go_wp2_with fail
    have BEL : Hid (∀ w', w'.cell? ⟨w.heap.size, 0, none⟩ = some (.slice At ts.length ct) ∧ w'.cell? ⟨w.heap.size, 1, none⟩ = some (.slice Ab l.length cb) ∧ Below w1.heap.size w1 w' → Below w1.heap.size w1 w') := Lib.hid fun _ h => h.2.2
    refine wp_region_held_drew (S := (fun w' => w'.cell? ⟨w.heap.size, 0, none⟩ = some (.slice At ts.length ct) ∧ w'.cell? ⟨w.heap.size, 1, none⟩ = some (.slice Ab l.length cb) ∧ Below w1.heap.size w1 w')) (by kernel_rfl) ?_ (fun hHeld => ?_)
    · exact ⟨c0, c1, (Below.refl _ _).drew⟩
    refine wpAnyH_take (i := 0) (oi := ⟨some 13, _, _, _, _, _⟩) (v := ?_) rfl (by kernel_rfl) (by kernel_rfl) (by kernel_rfl) (fun _ _ _ h => h) (Or.inl ⟨by rfl, fun w' hSw => ?_⟩) (by assumption) ?_
    rotate_left
    · (try dsimp only at hSw); go_simp; (try with_reducible rfl)
    (try simp only [Act.put, List.setIfInBounds_toArray, List.set_cons_zero, List.set_cons_succ])
    refine wpAnyH_take (i := 1) (oi := ⟨some 14, _, _, _, _, _⟩) (v := ?_) rfl (by kernel_rfl) (by kernel_rfl) (by kernel_rfl) (fun _ _ _ h => h) (Or.inl ⟨by rfl, fun w' hSw => ?_⟩) (by assumption) ?_
    rotate_left
    · (try dsimp only at hSw); go_simp; (try with_reducible rfl)
    (try simp only [Act.put, List.setIfInBounds_toArray, List.set_cons_zero, List.set_cons_succ])
    refine wpAnyH_take (i := 5) (oi := ⟨some 18, _, _, _, _, _⟩) (v := ?_) rfl (by kernel_rfl) (by kernel_rfl) (by kernel_rfl) (fun _ _ _ h => h) (Or.inl ⟨by rfl, fun w' hSw => ?_⟩) (by assumption) ?_
    rotate_left
    · (try dsimp only at hSw); go_simp; (try with_reducible rfl)
    (try simp only [Act.put, List.setIfInBounds_toArray, List.set_cons_zero, List.set_cons_succ])
    refine wpAnyH_take (i := 8) (oi := ⟨some 21, _, _, _, _, _⟩) (v := ?_) rfl (by kernel_rfl) (by kernel_rfl) (by kernel_rfl) (fun _ _ _ h => h) (Or.inl ⟨by rfl, fun w' hSw => ?_⟩) (by assumption) ?_
    rotate_left
    · (try dsimp only at hSw); go_simp; (try with_reducible rfl)
    (try simp only [Act.put, List.setIfInBounds_toArray, List.set_cons_zero, List.set_cons_succ])
    refine wpAnyH_ready (rs := [2]) (by kernel_rfl) (by simp) ?_
    refine AllReadyH.cons (o := ⟨some 15, _, _, _, _, _⟩) rfl (fun K hK => ?_) AllReadyH.nil
    go_simp
    (refine (l2Points_any _ _ l B _ (HB1.out.hl.low (BEL.out _ (by assumption)) (by omega)) (by have := (BEL.out _ (by assumption)).size; omega) hsz).mono ?_)
    (rintro e w5 ⟨v5, rfl, hps, hb5⟩)
    (have BX5 := Lib.hid ((BEL.out _ (by assumption)).trans (hb5.mono (BEL.out _ (by assumption)).size)))
    (have HP5 := Lib.hid (HB1.out.bels BX5.out hB))
    (obtain ⟨Ap, cp, rfl, hcp, hpl⟩ := hps.slice)
    clear hps hb5
    go_simp
    refine hK.out _ _ ?_ (fun hHeld => ?_)
    · exact ⟨HP5.out.c0, HP5.out.c1, BX5.out⟩
    clear hK K
    (try simp only [Act.put, List.setIfInBounds_toArray, List.set_cons_zero, List.set_cons_succ])
    refine wpAnyH_take (i := 3) (oi := ⟨some 16, _, _, _, _, _⟩) (v := ?_) rfl (by kernel_rfl) (by kernel_rfl) (by kernel_rfl) (fun _ _ _ h => h) (Or.inl ⟨by rfl, fun w' hSw => ?_⟩) (by assumption) ?_
    rotate_left
    · (try dsimp only at hSw); go_simp; (try with_reducible rfl)
    (try simp only [Act.put, List.setIfInBounds_toArray, List.set_cons_zero, List.set_cons_succ])
    refine wpAnyH_ready (rs := [4]) (by kernel_rfl) (by simp) ?_
    refine AllReadyH.cons (o := ⟨some 17, _, _, _, _, _⟩) rfl (fun K hK => ?_) AllReadyH.nil
    go_simp
    (refine (l10Flow_any _ _ 1 (ptsP l).length ts l Gset Cset B w5 (HB1.out.ht.low BX5.out (by omega)) (HB1.out.hl.low BX5.out (by omega)) (by have := BX5.out.size; omega) HV.out (kd_set GD.out) (Gset_lt hplen) (by omega)).mono ?_)
    (rintro e w6 ⟨v6, mv, rbs, R, base, rfl, hbase, hb3, hri, hst, hb6⟩)
    (have BX6 := Lib.hid (BX5.out.trans (hb6.mono BX5.out.size)))
    (have HP6 := Lib.hid (HB1.out.bels BX6.out hB))
    (have hRl := hri.len)
    (obtain ⟨A6, c6, rfl, hc6⟩ := hb3.slice)
    (obtain ⟨g6, g7, r7, c7, rfl, -, y6, hc7, y7, hrow⟩ := hb3.get (k := k) (v := x) (by omega) (hri.row k (by omega)) hx (hri.inn k x (by omega) hx) (by omega))
    (have HBO := Lib.hid (hrow.bools (c := (ptsP l).length) (by rw [hri.inn k x (by omega) hx]; omega) (by rw [hri.inn k x (by omega) hx]; omega)))
    (have HLR := Lib.hid (row_flS hst (hri.inn k x (by omega) hx)))
    (have HLN := Lib.hid (hri.inn k x (by omega) hx))
    (rw [HLN.out] at HBO)
    (rw [hRl] at hc6 ⊢)
    clear hbase hb3 hri hst hb6 hrow hRl
    go_simp
    refine hK.out _ _ ?_ (fun hHeld => ?_)
    · exact ⟨HP6.out.c0, HP6.out.c1, BX6.out⟩
    clear hK K
    (try simp only [Act.put, List.setIfInBounds_toArray, List.set_cons_zero, List.set_cons_succ])
    refine wpAnyH_take (i := 6) (oi := ⟨some 19, _, _, _, _, _⟩) (v := ?_) rfl (by kernel_rfl) (by kernel_rfl) (by kernel_rfl) (fun _ _ _ h => h) (Or.inl ⟨by rfl, fun w' hSw => ?_⟩) (by assumption) ?_
    rotate_left
    · (try dsimp only at hSw); go_simp; (try with_reducible rfl)
    (try simp only [Act.put, List.setIfInBounds_toArray, List.set_cons_zero, List.set_cons_succ])
    refine wpAnyH_ready (rs := [7]) (by kernel_rfl) (by simp) ?_
    refine AllReadyH.cons (o := ⟨some 20, _, _, _, _, _⟩) rfl (fun K hK => ?_) AllReadyH.nil
    go_simp
    refine hK.out _ _ ?_ (fun hHeld => ?_)
    · exact ⟨HP6.out.c0, HP6.out.c1, BX6.out⟩
    clear hK K
    (try simp only [Act.put, List.setIfInBounds_toArray, List.set_cons_zero, List.set_cons_succ])
    refine wpAnyH_take (i := 9) (oi := ⟨some 22, _, _, _, _, _⟩) (v := ?_) rfl (by kernel_rfl) (by kernel_rfl) (by kernel_rfl) (fun _ _ _ h => h) (Or.inl ⟨by rfl, fun w' hSw => ?_⟩) (by assumption) ?_
    rotate_left
    · (try dsimp only at hSw); go_simp; (try with_reducible rfl)
    (try simp only [Act.put, List.setIfInBounds_toArray, List.set_cons_zero, List.set_cons_succ])
    refine wpAnyH_ready (rs := [10]) (by kernel_rfl) (by simp) ?_
    refine AllReadyH.cons (o := ⟨some 23, _, _, _, _, _⟩) rfl (fun K hK => ?_) AllReadyH.nil
    go_simp
    refine hK.out _ _ ?_ (fun hHeld => ?_)
    · exact ⟨HP6.out.c0, HP6.out.c1, BX6.out⟩
    clear hK K
    (try simp only [Act.put, List.setIfInBounds_toArray, List.set_cons_zero, List.set_cons_succ])
    refine wpAnyH_ready (rs := [11]) (by kernel_rfl) (by simp) ?_
    refine AllReadyH.cons (o := ⟨some 24, _, _, _, _, _⟩) rfl (fun K hK => ?_) AllReadyH.nil
    go_simp
    (refine (l3Numbers_any _ _ _ _ HBO.out (Nat.le_refl _)).mono ?_)
    (rintro e w7 ⟨v7, rfl, hi7, hb7⟩)
    (have BX7 := Lib.hid (BX6.out.trans (hb7.mono BX6.out.size)))
    (have HP7 := Lib.hid (HB1.out.bels BX7.out hB))
    (have HI7 := Lib.hid hi7)
    clear hi7 hb7
    go_simp
    refine hK.out _ _ ?_ (fun hHeld => ?_)
    · exact ⟨HP7.out.c0, HP7.out.c1, BX7.out⟩
    clear hK K
    (try simp only [Act.put, List.setIfInBounds_toArray, List.set_cons_zero, List.set_cons_succ])
    refine wpAnyH_take (i := 12) (oi := ⟨some 6, _, _, _, _, _⟩) (v := ?_) rfl (by kernel_rfl) (by kernel_rfl) (by kernel_rfl) (fun _ _ _ h => h) (Or.inl ⟨by rfl, fun w' hSw => ?_⟩) (by assumption) ?_
    rotate_left
    · (try dsimp only at hSw); go_simp; (try with_reducible rfl)
    (try simp only [Act.put, List.setIfInBounds_toArray, List.set_cons_zero, List.set_cons_succ])
    refine wpAnyH_done (by kernel_rfl) ?_ _
    go_wp2_with fail
    go_ret
    have hfin := HI7.out
    rw [HLN.out, HLR.out, ← HRES.out] at hfin
    exact ⟨_, rfl, hfin, HB1.out.bel.trans (BX7.out.mono HB1.out.bel.size)⟩

set_option maxHeartbeats 4000000 in
set_option maxRecDepth 100000 in
theorem sNumbersOf_any (vt vb : Value) (ts : List Int) (l : List St) (a v : Int) (B : Nat) (w : World) (ht : IntS w B vt ts) (hl : StS w B vb l) (hB : B ≤ w.heap.size) (hsz : szL l ≤ 4194300) :
    Calls Try.prog 27 #[.agg #[vt, vb], .int .i64 a, .int .i64 v] w (IntsRet w (numRes ts l a v)) := by
  have HBX := Lib.hid (Boxed.new ht hl hB 26)
  obtain ⟨At, ct, rfl, hct, -, -⟩ := ht
  obtain ⟨Ab, cb, rfl, hcb⟩ := hl.slice
  clear hl
  go_enter Try.func27, Try.ntmps27
  go_wp2_with fail
  refine (l3Point_any _ _ ts l a v B _ HBX.out.ht HBX.out.hl (by simp; omega) hsz).mono ?_
  rintro e w1 ⟨rfl, hb1⟩
  have HB1 := Lib.hid (HBX.out.bels hb1 hB)
  have c0 := HB1.out.c0
  have c1 := HB1.out.c1
  have hs1 := HB1.out.lt
  clear hb1
  cases hpb : pointB ts l a v
  · have HRES : Hid (numRes ts l a v = []) := Lib.hid (by unfold numRes; unfold pointB at hpb; rw [if_neg]; rintro ⟨h1, h2, _⟩; rw [h1, h2] at hpb; cases hpb)
    clear hpb
    go_wp2_with fail
    go_ret
    exact ⟨_, rfl, by rw [HRES.out]; exact IntS.nil' _ _ _ _, HB1.out.bel.trans ((bel_a _ _).mono HB1.out.bel.size)⟩
  · have hpb' : graphOk ts l [a] = true ∧ withinP v 0 ((ts.length : Int) - 1) = true := by unfold pointB at hpb; simpa using hpb
    obtain ⟨hok, hwv⟩ := hpb'
    obtain ⟨hv, k, rfl, hk⟩ := graphOk_one hok
    have hv0 : 0 ≤ v ∧ v < ts.length := by simp [withinP] at hwv; omega
    have hv1 := hv0.1
    have hv2 := hv0.2
    obtain ⟨bt, ot, ct2, e, hbt, -, -, hct2⟩ := HB1.out.ht.get hv1 hv2
    injection e with e1 e9 e2
    subst e1 e2
    clear e9
    by_cases hty : typeOfP ts v = 1
    · have HRES : Hid (numRes ts l (k : Nat) v = flS 10 ts (ptsP l) Gnum Cnum k v.toNat) := Lib.hid (by unfold numRes; rw [if_pos ⟨hok, hwv, hty⟩]; rfl)
      obtain ⟨x, rfl⟩ : ∃ x : Nat, v = x := ⟨v.toNat, by omega⟩
      have hx : x < ts.length := by omega
      rw [hty] at hct2
      simp only [Int.toNat_natCast] at hct2 HRES
      have GD := Lib.hid (Good.of_valid hv)
      have HFL := Lib.hid (l10Flow_any _ _ 2 10 ts l Gnum Cnum B w1 HB1.out.ht HB1.out.hl (by omega) hv (kd_num (Good.of_valid hv)) (Gnum_lt (Good.of_valid hv)) (by omega))
      clear hpb hok hwv hv hv0 hv1 hv2 hty
      go_wp2_with fail
      refine HFL.out.mono ?_
      rintro e w6 ⟨v6, mv, rbs, R, base, rfl, hbase, hb3, hri, hst, hb6⟩
      have HB6 := Lib.hid (HB1.out.bels hb6 hB)
      have hRl := hri.len
      obtain ⟨A6, c6, rfl, hc6⟩ := hb3.slice
      obtain ⟨g6, g7, r7, c7, rfl, -, y6, hc7, y7, hrow⟩ := hb3.get (k := k) (v := x) (by omega) (hri.row k (by omega)) hx (hri.inn k x (by omega) hx) (by omega)
      have HBO := Lib.hid (hrow.bools (c := 10) (by rw [hri.inn k x (by omega) hx]; omega) (by rw [hri.inn k x (by omega) hx]; omega))
      have HLR := Lib.hid (row_flS hst (hri.inn k x (by omega) hx))
      have HLN := Lib.hid (hri.inn k x (by omega) hx)
      rw [HLN.out] at HBO
      rw [hRl] at hc6 ⊢
      clear hbase hb3 hri hst hb6 hrow hRl
      go_wp2_with fail
      refine (l3Numbers_any _ _ _ _ HBO.out (Nat.le_refl _)).mono ?_
      rintro e w7 ⟨v7, rfl, hi7, hb7⟩
      have HI7 := Lib.hid hi7
      clear hi7
      go_wp2_with fail
      go_ret
      have hfin := HI7.out
      rw [HLN.out, HLR.out, ← HRES.out] at hfin
      exact ⟨_, rfl, hfin, HB6.out.bel.trans (hb7.mono HB6.out.bel.size)⟩
    · have HRES : Hid (numRes ts l (k : Nat) v = []) := Lib.hid (by unfold numRes; rw [if_neg (fun h => hty h.2.2)])
      have hty2 : ((typeOfP ts v) != 1) = true := by simpa using hty
      clear hpb hok hwv hv hv0
      go_wp2_with fail
      go_ret
      exact ⟨_, rfl, by rw [HRES.out]; exact IntS.nil' _ _ _ _, HB1.out.bel.trans ((bel_a _ _).mono HB1.out.bel.size)⟩

end Go.Proofs.Yteaddodjijlpjaa
