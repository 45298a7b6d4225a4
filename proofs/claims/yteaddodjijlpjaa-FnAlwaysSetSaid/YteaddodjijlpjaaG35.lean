import Derived.Test.YteaddodjijlpjaaG33
import Derived.Test.YteaddodjijlpjaaG29
import Derived.Test.YteaddodjijlpjaaG34
set_option linter.unusedVariables false

/- spec.l3Point, CellsOf, SettersOf, NumbersOf, MayAlias, UsersOf. -/
namespace Go.Proofs.Yteaddodjijlpjaa
open Go.RowKit

def pointB (ts : List Int) (l : List St) (a v : Int) : Bool := graphOk ts l [a] && withinP v 0 ((ts.length : Int) - 1)
theorem graphOk_a (ts : List Int) (l : List St) (a : Int) (hv : validP ts l = true) : graphOk ts l [a] = (decide (0 ≤ a) && decide (a < ((ptsP l).length : Int))) := by
  simp only [graphOk, hv, Bool.true_and, List.all_cons, List.all_nil, Bool.and_true, withinP]
  rw [Bool.eq_iff_iff]; simp; omega
set_option maxHeartbeats 2000000 in
theorem l3Point_any (vt vb : Value) (ts : List Int) (l : List St) (a v : Int) (B : Nat) (w : World) (ht : IntS w B vt ts) (hl : StS w B vb l) (hB : B ≤ w.heap.size) (hsz : szL l ≤ 4194300) :
    Calls Try.prog 56 #[.agg #[vt, vb], .int .i64 a, .int .i64 v] w fun e w' => e = .returned (.bool (pointB ts l a v)) ∧ Below w.heap.size w w' := by
  have HBX := Lib.hid (Boxed.new ht hl hB 26)
  obtain ⟨At, ct, rfl, hct, -, -⟩ := ht
  obtain ⟨Ab, cb, rfl, hcb⟩ := hl.slice
  clear hl
  go_enter Try.func56, Try.ntmps56
  go_wp2_with fail
  refine (sProgramValid_any _ _ ts l B _ HBX.out.ht HBX.out.hl (by simp; omega) (by omega)).mono ?_
  rintro e w1 ⟨rfl, hb1⟩
  have HB1 := Lib.hid (HBX.out.bels hb1 hB)
  have c0 := HB1.out.c0
  have c1 := HB1.out.c1
  have hs1 := HB1.out.lt
  clear hb1
  cases hv : validP ts l
  · have HRES : Hid (pointB ts l a v = false) := Lib.hid (by unfold pointB graphOk; rw [hv]; rfl)
    clear hv
    go_wp2_with fail
    go_ret
    exact ⟨ret_bool HRES.out.symm, HB1.out.bel⟩
  · have HRES := Lib.hid (graphOk_a ts l a hv)
    clear hv
    by_cases ha : 0 ≤ a
    · go_wp2_with fail
      refine (l2Points_any _ _ l B _ HB1.out.hl (by omega) hsz).mono ?_
      rintro e w2 ⟨vp, rfl, hps, hb2⟩
      have HB2 := Lib.hid (HB1.out.bels hb2 hB)
      have d0 := HB2.out.c0
      obtain ⟨Ap, cp, rfl, hcp, hpl⟩ := hps.slice
      generalize (ptsP l).length = np at *
      clear hps hb2 c0 c1
      by_cases hap : a < (np : Int)
      · by_cases hv0 : 0 ≤ v
        · by_cases hvl : v < (ts.length : Int)
          · have HR : Hid (pointB ts l a v = true) := Lib.hid (by unfold pointB withinP; rw [HRES.out]; simp; omega)
            go_wp2_with fail
            go_ret
            exact ⟨ret_bool HR.out.symm, HB2.out.bel⟩
          · have HR : Hid (pointB ts l a v = false) := Lib.hid (by unfold pointB withinP; rw [HRES.out]; simp; omega)
            go_wp2_with fail
            go_ret
            exact ⟨ret_bool (by rw [HR.out]; simpa using hvl), HB2.out.bel⟩
        · have HR : Hid (pointB ts l a v = false) := Lib.hid (by unfold pointB withinP; rw [HRES.out]; simp; omega)
          have hv1 : decide (0 ≤ v) = false := by simpa using hv0
          go_wp2_with fail
          go_ret
          exact ⟨ret_bool HR.out.symm, HB2.out.bel⟩
      · have HR : Hid (pointB ts l a v = false) := Lib.hid (by unfold pointB withinP; rw [HRES.out]; simp; omega)
        have hap1 : decide (a < (np : Int)) = false := by simpa using hap
        go_wp2_with fail
        go_ret
        exact ⟨ret_bool HR.out.symm, HB2.out.bel⟩
    · have HR : Hid (pointB ts l a v = false) := Lib.hid (by unfold pointB; rw [HRES.out]; simp; omega)
      have ha1 : decide (0 ≤ a) = false := by simpa using ha
      go_wp2_with fail
      go_ret
      exact ⟨ret_bool HR.out.symm, HB1.out.bel⟩

/-- the row of a point and a variable in a flow -/
theorem B3.get {w : World} {base s n c k v m : Nat} {A : Option Addr} {mv : List Value} {rbs : List (List Nat)} {R : List (List (List Bool))} (h : B3 w base (.slice A n c) mv rbs s R) (hk : k < R.length) (hm : (R.getD k []).length = m) (hv : v < m) (hl : ((R.getD k []).getD v []).length = s) (hs : s ≤ 100) :
    ∃ g g2 r c2, A = some ⟨g, 0, none⟩ ∧ n = R.length ∧ w.cell? ⟨g, k, none⟩ = some (.slice (some ⟨g2, 0, none⟩) m c2) ∧ m ≤ c2 ∧ w.cell? ⟨g2, v, none⟩ = some (.slice (some ⟨r, 0, none⟩) s s) ∧ RowB w r 4 (bv ((R.getD k []).getD v [])) := by
  obtain ⟨g, e, _, _, hn, hc⟩ := h.at_ hk
  have hb := h.mid k hk
  obtain ⟨g2, c2, e2, _, _, hc2, hcell, _⟩ := hb.form (by omega)
  rw [e2, hm] at hc
  exact ⟨g, g2, (rbs.getD k []).getD v 0, c2, e, hn, hc, by omega, hcell v (by omega), (hb.row v (by omega)).1⟩
theorem row_flS {ts : List Int} {pts : List Pt} {G : Nat → Pt → Nat → Bool} {C : Pt → Bool} {s k v : Nat} {R : List (List (List Bool))} (h : ∀ i v e, get3 R i v e = true ↔ Fl ts pts G C i v e) (hl : ((R.getD k []).getD v []).length = s) :
    lst s (fun e => ((R.getD k []).getD v []).getD e false) = flS s ts pts G C k v := by
  unfold flS
  refine lst_congr fun e _ => ?_
  rw [Bool.eq_iff_iff, dec_iff, ← h k v e]
  rfl

set_option maxHeartbeats 4000000 in
set_option maxRecDepth 100000 in
theorem sCellsOf_any (vt vb : Value) (ts : List Int) (l : List St) (a v : Int) (B : Nat) (w : World) (ht : IntS w B vt ts) (hl : StS w B vb l) (hB : B ≤ w.heap.size) (hsz : szL l ≤ 4194300) :
    Calls Try.prog 23 #[.agg #[vt, vb], .int .i64 a, .int .i64 v] w (IntsRet w (flRes ts l Gcell Ccell a v)) := by
  have HBX := Lib.hid (Boxed.new ht hl hB 26)
  obtain ⟨At, ct, rfl, hct, -, -⟩ := ht
  obtain ⟨Ab, cb, rfl, hcb⟩ := hl.slice
  clear hl
  go_enter Try.func23, Try.ntmps23
  go_wp2_with fail
  refine (l3Point_any _ _ ts l a v B _ HBX.out.ht HBX.out.hl (by simp; omega) hsz).mono ?_
  rintro e w1 ⟨rfl, hb1⟩
  have HB1 := Lib.hid (HBX.out.bels hb1 hB)
  have c0 := HB1.out.c0
  have c1 := HB1.out.c1
  have hs1 := HB1.out.lt
  clear hb1
  cases hpb : pointB ts l a v
  · have HRES : Hid (flRes ts l Gcell Ccell a v = []) := Lib.hid (by unfold flRes; unfold pointB at hpb; rw [if_neg]; rintro ⟨h1, h2⟩; rw [h1, h2] at hpb; cases hpb)
    clear hpb
    go_wp2_with fail
    go_ret
    exact ⟨_, rfl, by rw [HRES.out]; exact IntS.nil' _ _ _ _, HB1.out.bel.trans ((bel_a _ _).mono HB1.out.bel.size)⟩
  · have hpb' : graphOk ts l [a] = true ∧ withinP v 0 ((ts.length : Int) - 1) = true := by unfold pointB at hpb; simpa using hpb
    obtain ⟨hok, hwv⟩ := hpb'
    obtain ⟨hv, k, rfl, hk⟩ := graphOk_one hok
    have hv0 : 0 ≤ v ∧ v < ts.length := by simp [withinP] at hwv; omega
    obtain ⟨x, rfl⟩ : ∃ x : Nat, v = x := ⟨v.toNat, by omega⟩
    have hx : x < ts.length := by omega
    have HRES : Hid (flRes ts l Gcell Ccell (k : Nat) (x : Nat) = flS (ptsP l).length ts (ptsP l) Gcell Ccell k x) := Lib.hid (by unfold flRes; rw [if_pos ⟨hok, hwv⟩]; rfl)
    have GD := Lib.hid (Good.of_valid hv)
    have HV := Lib.hid hv
    have hplen := GD.out.len
    clear hpb hok hwv hv hv0
    go_wp2_with fail
    have BEL : Hid (∀ w', w'.cell? ⟨w.heap.size, 0, none⟩ = some (.slice At ts.length ct) ∧ w'.cell? ⟨w.heap.size, 1, none⟩ = some (.slice Ab l.length cb) ∧ Below w1.heap.size w1 w' → Below w1.heap.size w1 w') := Lib.hid fun _ h => h.2.2
    refine wp_region_held_drew (S := (fun w' => w'.cell? ⟨w.heap.size, 0, none⟩ = some (.slice At ts.length ct) ∧ w'.cell? ⟨w.heap.size, 1, none⟩ = some (.slice Ab l.length cb) ∧ Below w1.heap.size w1 w')) (by kernel_rfl) ?_ (fun hHeld => ?_)
    · exact ⟨c0, c1, (Below.refl _ _).drew⟩
    refine wpAnyH_take (i := 0) (oi := ⟨some 13, _, _, _, _, _⟩) (v := ?_) rfl (by kernel_rfl) (by kernel_rfl) (by kernel_rfl) (fun _ _ _ h => h) (Or.inl ⟨by rfl, fun w' hSw => ?_⟩) (by assumption) ?_
    rotate_left
    · (try dsimp only at hSw); go_simp; (try with_reducible rfl)
    (try simp only [Act.put, List.setIfInBounds_toArray, List.set_cons_zero, List.set_cons_succ])
    refine wpAnyH_take (i := 1) (oi := ⟨some 14, _, _, _, _, _⟩) (v := ?_) rfl (by kernel_rfl) (by kernel_rfl) (by kernel_rfl) (fun _ _ _ h => h) (Or.inl ⟨by rfl, fun w' hSw => ?_⟩) (by assumption) ?_
    rotate_left
    · (try dsimp only at hSw); go_simp; (try with_reducible rfl)
    (try simp only [Act.put, List.setIfInBounds_toArray, List.set_cons_zero, List.set_cons_succ])
    refine wpAnyH_take (i := 5) (oi := ⟨some 18, _, _, _, _, _⟩) (v := ?_) rfl (by kernel_rfl) (by kernel_rfl) (by kernel_rfl) (fun _ _ _ h => h) (Or.inl ⟨by rfl, fun w' hSw => ?_⟩) (by assumption) ?_
    rotate_left
    · (try dsimp only at hSw); go_simp; (try with_reducible rfl)
    (try simp only [Act.put, List.setIfInBounds_toArray, List.set_cons_zero, List.set_cons_succ])
    refine wpAnyH_take (i := 8) (oi := ⟨some 21, _, _, _, _, _⟩) (v := ?_) rfl (by kernel_rfl) (by kernel_rfl) (by kernel_rfl) (fun _ _ _ h => h) (Or.inl ⟨by rfl, fun w' hSw => ?_⟩) (by assumption) ?_
    rotate_left
    · (try dsimp only at hSw); go_simp; (try with_reducible rfl)
    (try simp only [Act.put, List.setIfInBounds_toArray, List.set_cons_zero, List.set_cons_succ])
    refine wpAnyH_ready (rs := [2]) (by kernel_rfl) (by simp) ?_
    refine AllReadyH.cons (o := ⟨some 15, _, _, _, _, _⟩) rfl (fun K hK => ?_) AllReadyH.nil
    go_simp
    (refine (l2Points_any _ _ l B _ (HB1.out.hl.low (BEL.out _ (by assumption)) (by omega)) (by have := (BEL.out _ (by assumption)).size; omega) hsz).mono ?_)
    (rintro e w5 ⟨v5, rfl, hps, hb5⟩)
    (have BX5 := Lib.hid ((BEL.out _ (by assumption)).trans (hb5.mono (BEL.out _ (by assumption)).size)))
    (have HP5 := Lib.hid (HB1.out.bels BX5.out hB))
    (obtain ⟨Ap, cp, rfl, hcp, hpl⟩ := hps.slice)
    clear hps hb5
    go_simp
    refine hK.out _ _ ?_ (fun hHeld => ?_)
    · exact ⟨HP5.out.c0, HP5.out.c1, BX5.out⟩
    clear hK K
    (try simp only [Act.put, List.setIfInBounds_toArray, List.set_cons_zero, List.set_cons_succ])
    refine wpAnyH_take (i := 3) (oi := ⟨some 16, _, _, _, _, _⟩) (v := ?_) rfl (by kernel_rfl) (by kernel_rfl) (by kernel_rfl) (fun _ _ _ h => h) (Or.inl ⟨by rfl, fun w' hSw => ?_⟩) (by assumption) ?_
    rotate_left
    · (try dsimp only at hSw); go_simp; (try with_reducible rfl)
    (try simp only [Act.put, List.setIfInBounds_toArray, List.set_cons_zero, List.set_cons_succ])
    refine wpAnyH_ready (rs := [4]) (by kernel_rfl) (by simp) ?_
    refine AllReadyH.cons (o := ⟨some 17, _, _, _, _, _⟩) rfl (fun K hK => ?_) AllReadyH.nil
    go_simp
    (refine (l10Flow_any _ _ 0 (ptsP l).length ts l Gcell Ccell B w5 (HB1.out.ht.low BX5.out (by omega)) (HB1.out.hl.low BX5.out (by omega)) (by have := BX5.out.size; omega) HV.out (kd_cell GD.out) (Gcell_lt hplen) (by omega)).mono ?_)
    (rintro e w6 ⟨v6, mv, rbs, R, base, rfl, hbase, hb3, hri, hst, hb6⟩)
    (have BX6 := Lib.hid (BX5.out.trans (hb6.mono BX5.out.size)))
    (have HP6 := Lib.hid (HB1.out.bels BX6.out hB))
    (have hRl := hri.len)
    (obtain ⟨A6, c6, rfl, hc6⟩ := hb3.slice)
    (obtain ⟨g6, g7, r7, c7, rfl, -, y6, hc7, y7, hrow⟩ := hb3.get (k := k) (v := x) (by omega) (hri.row k (by omega)) hx (hri.inn k x (by omega) hx) (by omega))
    (have HBO := Lib.hid (hrow.bools (c := (ptsP l).length) (by rw [hri.inn k x (by omega) hx]; omega) (by rw [hri.inn k x (by omega) hx]; omega)))
    (have HLR := Lib.hid (row_flS hst (hri.inn k x (by omega) hx)))
    (have HLN := Lib.hid (hri.inn k x (by omega) hx))
    (rw [HLN.out] at HBO)
    (rw [hRl] at hc6 ⊢)
    clear hbase hb3 hri hst hb6 hrow hRl
    go_simp
    refine hK.out _ _ ?_ (fun hHeld => ?_)
    · exact ⟨HP6.out.c0, HP6.out.c1, BX6.out⟩
    clear hK K
    (try simp only [Act.put, List.setIfInBounds_toArray, List.set_cons_zero, List.set_cons_succ])
    refine wpAnyH_take (i := 6) (oi := ⟨some 19, _, _, _, _, _⟩) (v := ?_) rfl (by kernel_rfl) (by kernel_rfl) (by kernel_rfl) (fun _ _ _ h => h) (Or.inl ⟨by rfl, fun w' hSw => ?_⟩) (by assumption) ?_
    rotate_left
    · (try dsimp only at hSw); go_simp; (try with_reducible rfl)
    (try simp only [Act.put, List.setIfInBounds_toArray, List.set_cons_zero, List.set_cons_succ])
    refine wpAnyH_ready (rs := [7]) (by kernel_rfl) (by simp) ?_
    refine AllReadyH.cons (o := ⟨some 20, _, _, _, _, _⟩) rfl (fun K hK => ?_) AllReadyH.nil
    go_simp
    refine hK.out _ _ ?_ (fun hHeld => ?_)
    · exact ⟨HP6.out.c0, HP6.out.c1, BX6.out⟩
    clear hK K
    (try simp only [Act.put, List.setIfInBounds_toArray, List.set_cons_zero, List.set_cons_succ])
    refine wpAnyH_take (i := 9) (oi := ⟨some 22, _, _, _, _, _⟩) (v := ?_) rfl (by kernel_rfl) (by kernel_rfl) (by kernel_rfl) (fun _ _ _ h => h) (Or.inl ⟨by rfl, fun w' hSw => ?_⟩) (by assumption) ?_
    rotate_left
    · (try dsimp only at hSw); go_simp; (try with_reducible rfl)
    (try simp only [Act.put, List.setIfInBounds_toArray, List.set_cons_zero, List.set_cons_succ])
    refine wpAnyH_ready (rs := [10]) (by kernel_rfl) (by simp) ?_
    refine AllReadyH.cons (o := ⟨some 23, _, _, _, _, _⟩) rfl (fun K hK => ?_) AllReadyH.nil
    go_simp
    refine hK.out _ _ ?_ (fun hHeld => ?_)
    · exact ⟨HP6.out.c0, HP6.out.c1, BX6.out⟩
    clear hK K
    (try simp only [Act.put, List.setIfInBounds_toArray, List.set_cons_zero, List.set_cons_succ])
    refine wpAnyH_ready (rs := [11]) (by kernel_rfl) (by simp) ?_
    refine AllReadyH.cons (o := ⟨some 24, _, _, _, _, _⟩) rfl (fun K hK => ?_) AllReadyH.nil
    go_simp
    (refine (l3Numbers_any _ _ _ _ HBO.out (Nat.le_refl _)).mono ?_)
    (rintro e w7 ⟨v7, rfl, hi7, hb7⟩)
    (have BX7 := Lib.hid (BX6.out.trans (hb7.mono BX6.out.size)))
    (have HP7 := Lib.hid (HB1.out.bels BX7.out hB))
    (have HI7 := Lib.hid hi7)
    clear hi7 hb7
    go_simp
    refine hK.out _ _ ?_ (fun hHeld => ?_)
    · exact ⟨HP7.out.c0, HP7.out.c1, BX7.out⟩
    clear hK K
    (try simp only [Act.put, List.setIfInBounds_toArray, List.set_cons_zero, List.set_cons_succ])
    refine wpAnyH_take (i := 12) (oi := ⟨some 6, _, _, _, _, _⟩) (v := ?_) rfl (by kernel_rfl) (by kernel_rfl) (by kernel_rfl) (fun _ _ _ h => h) (Or.inl ⟨by rfl, fun w' hSw => ?_⟩) (by assumption) ?_
    rotate_left
    · (try dsimp only at hSw); go_simp; (try with_reducible rfl)
    (try simp only [Act.put, List.setIfInBounds_toArray, List.set_cons_zero, List.set_cons_succ])
    refine wpAnyH_done (by kernel_rfl) ?_ _
    go_wp2_with fail
    go_ret
    have hfin := HI7.out
    rw [HLN.out, HLR.out, ← HRES.out] at hfin
    exact ⟨_, rfl, hfin, HB1.out.bel.trans (BX7.out.mono HB1.out.bel.size)⟩

set_option maxHeartbeats 4000000 in
set_option maxRecDepth 100000 in
theorem sSettersOf_any (vt vb : Value) (ts : List Int) (l : List St) (a v : Int) (B : Nat) (w : World) (ht : IntS w B vt ts) (hl : StS w B vb l) (hB : B ≤ w.heap.size) (hsz : szL l ≤ 4194300) :
    Calls Try.prog 37 #[.agg #[vt, vb], .int .i64 a, .int .i64 v] w (IntsRet w (flRes ts l Gset Cset a v)) := by
  have HBX := Lib.hid (Boxed.new ht hl hB 26)
  obtain ⟨At, ct, rfl, hct, -, -⟩ := ht
  obtain ⟨Ab, cb, rfl, hcb⟩ := hl.slice
  clear hl
  go_enter Try.func37, Try.ntmps37
  go_wp2_with fail
  refine (l3Point_any _ _ ts l a v B _ HBX.out.ht HBX.out.hl (by simp; omega) hsz).mono ?_
  rintro e w1 ⟨rfl, hb1⟩
  have HB1 := Lib.hid (HBX.out.bels hb1 hB)
  have c0 := HB1.out.c0
  have c1 := HB1.out.c1
  have hs1 := HB1.out.lt
  clear hb1
  cases hpb : pointB ts l a v
  · have HRES : Hid (flRes ts l Gset Cset a v = []) := Lib.hid (by unfold flRes; unfold pointB at hpb; rw [if_neg]; rintro ⟨h1, h2⟩; rw [h1, h2] at hpb; cases hpb)
    clear hpb
    go_wp2_with fail
    go_ret
    exact ⟨_, rfl, by rw [HRES.out]; exact IntS.nil' _ _ _ _, HB1.out.bel.trans ((bel_a _ _).mono HB1.out.bel.size)⟩
  · have hpb' : graphOk ts l [a] = true ∧ withinP v 0 ((ts.length : Int) - 1) = true := by unfold pointB at hpb; simpa using hpb
    obtain ⟨hok, hwv⟩ := hpb'
    obtain ⟨hv, k, rfl, hk⟩ := graphOk_one hok
    have hv0 : 0 ≤ v ∧ v < ts.length := by simp [withinP] at hwv; omega
    obtain ⟨x, rfl⟩ : ∃ x : Nat, v = x := ⟨v.toNat, by omega⟩
    have hx : x < ts.length := by omega
    have HRES : Hid (flRes ts l Gset Cset (k : Nat) (x : Nat) = flS (ptsP l).length ts (ptsP l) Gset Cset k x) := Lib.hid (by unfold flRes; rw [if_pos ⟨hok, hwv⟩]; rfl)
    have GD := Lib.hid (Good.of_valid hv)
    have HV := Lib.hid hv
    have hplen := GD.out.len
    clear hpb hok hwv hv hv0
    go_wp2_with fail
    have BEL : Hid (∀ w', w'.cell? ⟨w.heap.size, 0, none⟩ = some (.slice At ts.length ct) ∧ w'.cell? ⟨w.heap.size, 1, none⟩ = some (.slice Ab l.length cb) ∧ Below w1.heap.size w1 w' → Below w1.heap.size w1 w') := Lib.hid fun _ h => h.2.2
    refine wp_region_held_drew (S := (fun w' => w'.cell? ⟨w.heap.size, 0, none⟩ = some (.slice At ts.length ct) ∧ w'.cell? ⟨w.heap.size, 1, none⟩ = some (.slice Ab l.length cb) ∧ Below w1.heap.size w1 w')) (by kernel_rfl) ?_ (fun hHeld => ?_)
    · exact ⟨c0, c1, (Below.refl _ _).drew⟩
    refine wpAnyH_take (i := 0) (oi := ⟨some 13, _, _, _, _, _⟩) (v := ?_) rfl (by kernel_rfl) (by kernel_rfl) (by kernel_rfl) (fun _ _ _ h => h) (Or.inl ⟨by rfl, fun w' hSw => ?_⟩) (by assumption) ?_
    rotate_left
    · (try dsimp only at hSw); go_simp; (try with_reducible rfl)
    (try simp only [Act.put, List.setIfInBounds_toArray, List.set_cons_zero, List.set_cons_succ])
    refine wpAnyH_take (i := 1) (oi := ⟨some 14, _, _, _, _, _⟩) (v := ?_) rfl (by kernel_rfl) (by kernel_rfl) (by kernel_rfl) (fun _ _ _ h => h) (Or.inl ⟨by rfl, fun w' hSw => ?_⟩) (by assumption) ?_
    rotate_left
    · (try dsimp only at hSw); go_simp; (try with_reducible rfl)
    (try simp only [Act.put, List.setIfInBounds_toArray, List.set_cons_zero, List.set_cons_succ])
    refine wpAnyH_take (i := 5) (oi := ⟨some 18, _, _, _, _, _⟩) (v := ?_) rfl (by kernel_rfl) (by kernel_rfl) (by kernel_rfl) (fun _ _ _ h => h) (Or.inl ⟨by rfl, fun w' hSw => ?_⟩) (by assumption) ?_
    rotate_left
    · (try dsimp only at hSw); go_simp; (try with_reducible rfl)
    (try simp only [Act.put, List.setIfInBounds_toArray, List.set_cons_zero, List.set_cons_succ])
    refine wpAnyH_take (i := 8) (oi := ⟨some 21, _, _, _, _, _⟩) (v := ?_) rfl (by kernel_rfl) (by kernel_rfl) (by kernel_rfl) (fun _ _ _ h => h) (Or.inl ⟨by rfl, fun w' hSw => ?_⟩) (by assumption) ?_
    rotate_left
    · (try dsimp only at hSw); go_simp; (try with_reducible rfl)
    (try simp only [Act.put, List.setIfInBounds_toArray, List.set_cons_zero, List.set_cons_succ])
    refine wpAnyH_ready (rs := [2]) (by kernel_rfl) (by simp) ?_
    refine AllReadyH.cons (o := ⟨some 15, _, _, _, _, _⟩) rfl (fun K hK => ?_) AllReadyH.nil
    go_simp
    (refine (l2Points_any _ _ l B _ (HB1.out.hl.low (BEL.out _ (by assumption)) (by omega)) (by have := (BEL.out _ (by assumption)).size; omega) hsz).mono ?_)
    (rintro e w5 ⟨v5, rfl, hps, hb5⟩)
    (have BX5 := Lib.hid ((BEL.out _ (by assumption)).trans (hb5.mono (BEL.out _ (by assumption)).size)))
    (have HP5 := Lib.hid (HB1.out.bels BX5.out hB))
    (obtain ⟨Ap, cp, rfl, hcp, hpl⟩ := hps.slice)
    clear hps hb5
    go_simp
    refine hK.out _ _ ?_ (fun hHeld => ?_)
    · exact ⟨HP5.out.c0, HP5.out.c1, BX5.out⟩
    clear hK K
    (try simp only [Act.put, List.setIfInBounds_toArray, List.set_cons_zero, List.set_cons_succ])
    refine wpAnyH_take (i := 3) (oi := ⟨some 16, _, _, _, _, _⟩) (v := ?_) rfl (by kernel_rfl) (by kernel_rfl) (by kernel_rfl) (fun _ _ _ h => h) (Or.inl ⟨by rfl, fun w' hSw => ?_⟩) (by assumption) ?_
    rotate_left
    · (try dsimp only at hSw); go_simp; (try with_reducible rfl)
    (try simp only [Act.put, List.setIfInBounds_toArray, List.set_cons_zero, List.set_cons_succ])
    refine wpAnyH_ready (rs := [4]) (by kernel_rfl) (by simp) ?_
    refine AllReadyH.cons (o := ⟨some 17, _, _, _, _, _⟩) rfl (fun K hK => ?_) AllReadyH.nil
    go_simp
    (refine (l10Flow_any _ _ 1 (ptsP l).length ts l Gset Cset B w5 (HB1.out.ht.low BX5.out (by omega)) (HB1.out.hl.low BX5.out (by omega)) (by have := BX5.out.size; omega) HV.out (kd_set GD.out) (Gset_lt hplen) (by omega)).mono ?_)
    (rintro e w6 ⟨v6, mv, rbs, R, base, rfl, hbase, hb3, hri, hst, hb6⟩)
    (have BX6 := Lib.hid (BX5.out.trans (hb6.mono BX5.out.size)))
    (have HP6 := Lib.hid (HB1.out.bels BX6.out hB))
    (have hRl := hri.len)
    (obtain ⟨A6, c6, rfl, hc6⟩ := hb3.slice)
    (obtain ⟨g6, g7, r7, c7, rfl, -, y6, hc7, y7, hrow⟩ := hb3.get (k := k) (v := x) (by omega) (hri.row k (by omega)) hx (hri.inn k x (by omega) hx) (by omega))
    (have HBO := Lib.hid (hrow.bools (c := (ptsP l).length) (by rw [hri.inn k x (by omega) hx]; omega) (by rw [hri.inn k x (by omega) hx]; omega)))
    (have HLR := Lib.hid (row_flS hst (hri.inn k x (by omega) hx)))
    (have HLN := Lib.hid (hri.inn k x (by omega) hx))
    (rw [HLN.out] at HBO)
    (rw [hRl] at hc6 ⊢)
    clear hbase hb3 hri hst hb6 hrow hRl
    go_simp
    refine hK.out _ _ ?_ (fun hHeld => ?_)
    · exact ⟨HP6.out.c0, HP6.out.c1, BX6.out⟩
    clear hK K
    (try simp only [Act.put, List.setIfInBounds_toArray, List.set_cons_zero, List.set_cons_succ])
    refine wpAnyH_take (i := 6) (oi := ⟨some 19, _, _, _, _, _⟩) (v := ?_) rfl (by kernel_rfl) (by kernel_rfl) (by kernel_rfl) (fun _ _ _ h => h) (Or.inl ⟨by rfl, fun w' hSw => ?_⟩) (by assumption) ?_
    rotate_left
    · (try dsimp only at hSw); go_simp; (try with_reducible rfl)
    (try simp only [Act.put, List.setIfInBounds_toArray, List.set_cons_zero, List.set_cons_succ])
    refine wpAnyH_ready (rs := [7]) (by kernel_rfl) (by simp) ?_
    refine AllReadyH.cons (o := ⟨some 20, _, _, _, _, _⟩) rfl (fun K hK => ?_) AllReadyH.nil
    go_simp
    refine hK.out _ _ ?_ (fun hHeld => ?_)
    · exact ⟨HP6.out.c0, HP6.out.c1, BX6.out⟩
    clear hK K
    (try simp only [Act.put, List.setIfInBounds_toArray, List.set_cons_zero, List.set_cons_succ])
    refine wpAnyH_take (i := 9) (oi := ⟨some 22, _, _, _, _, _⟩) (v := ?_) rfl (by kernel_rfl) (by kernel_rfl) (by kernel_rfl) (fun _ _ _ h => h) (Or.inl ⟨by rfl, fun w' hSw => ?_⟩) (by assumption) ?_
    rotate_left
    · (try dsimp only at hSw); go_simp; (try with_reducible rfl)
    (try simp only [Act.put, List.setIfInBounds_toArray, List.set_cons_zero, List.set_cons_succ])
    refine wpAnyH_ready (rs := [10]) (by kernel_rfl) (by simp) ?_
    refine AllReadyH.cons (o := ⟨some 23, _, _, _, _, _⟩) rfl (fun K hK => ?_) AllReadyH.nil
    go_simp
    refine hK.out _ _ ?_ (fun hHeld => ?_)
    · exact ⟨HP6.out.c0, HP6.out.c1, BX6.out⟩
    clear hK K
    (try simp only [Act.put, List.setIfInBounds_toArray, List.set_cons_zero, List.set_cons_succ])
    refine wpAnyH_ready (rs := [11]) (by kernel_rfl) (by simp) ?_
    refine AllReadyH.cons (o := ⟨some 24, _, _, _, _, _⟩) rfl (fun K hK => ?_) AllReadyH.nil
    go_simp
    (refine (l3Numbers_any _ _ _ _ HBO.out (Nat.le_refl _)).mono ?_)
    (rintro e w7 ⟨v7, rfl, hi7, hb7⟩)
    (have BX7 := Lib.hid (BX6.out.trans (hb7.mono BX6.out.size)))
    (have HP7 := Lib.hid (HB1.out.bels BX7.out hB))
    (have HI7 := Lib.hid hi7)
    clear hi7 hb7
    go_simp
    refine hK.out _ _ ?_ (fun hHeld => ?_)
    · exact ⟨HP7.out.c0, HP7.out.c1, BX7.out⟩
    clear hK K
    (try simp only [Act.put, List.setIfInBounds_toArray, List.set_cons_zero, List.set_cons_succ])
    refine wpAnyH_take (i := 12) (oi := ⟨some 6, _, _, _, _, _⟩) (v := ?_) rfl (by kernel_rfl) (by kernel_rfl) (by kernel_rfl) (fun _ _ _ h => h) (Or.inl ⟨by rfl, fun w' hSw => ?_⟩) (by assumption) ?_
    rotate_left
    · (try dsimp only at hSw); go_simp; (try with_reducible rfl)
    (try simp only [Act.put, List.setIfInBounds_toArray, List.set_cons_zero, List.set_cons_succ])
    refine wpAnyH_done (by kernel_rfl) ?_ _
    go_wp2_with fail
    go_ret
    have hfin := HI7.out
    rw [HLN.out, HLR.out, ← HRES.out] at hfin
    exact ⟨_, rfl, hfin, HB1.out.bel.trans (BX7.out.mono HB1.out.bel.size)⟩

set_option maxHeartbeats 4000000 in
set_option maxRecDepth 100000 in
theorem sNumbersOf_any (vt vb : Value) (ts : List Int) (l : List St) (a v : Int) (B : Nat) (w : World) (ht : IntS w B vt ts) (hl : StS w B vb l) (hB : B ≤ w.heap.size) (hsz : szL l ≤ 4194300) :
    Calls Try.prog 27 #[.agg #[vt, vb], .int .i64 a, .int .i64 v] w (IntsRet w (numRes ts l a v)) := by
  have HBX := Lib.hid (Boxed.new ht hl hB 26)
  obtain ⟨At, ct, rfl, hct, -, -⟩ := ht
  obtain ⟨Ab, cb, rfl, hcb⟩ := hl.slice
  clear hl
  go_enter Try.func27, Try.ntmps27
  go_wp2_with fail
  refine (l3Point_any _ _ ts l a v B _ HBX.out.ht HBX.out.hl (by simp; omega) hsz).mono ?_
  rintro e w1 ⟨rfl, hb1⟩
  have HB1 := Lib.hid (HBX.out.bels hb1 hB)
  have c0 := HB1.out.c0
  have c1 := HB1.out.c1
  have hs1 := HB1.out.lt
  clear hb1
  cases hpb : pointB ts l a v
  · have HRES : Hid (numRes ts l a v = []) := Lib.hid (by unfold numRes; unfold pointB at hpb; rw [if_neg]; rintro ⟨h1, h2, _⟩; rw [h1, h2] at hpb; cases hpb)
    clear hpb
    go_wp2_with fail
    go_ret
    exact ⟨_, rfl, by rw [HRES.out]; exact IntS.nil' _ _ _ _, HB1.out.bel.trans ((bel_a _ _).mono HB1.out.bel.size)⟩
  · have hpb' : graphOk ts l [a] = true ∧ withinP v 0 ((ts.length : Int) - 1) = true := by unfold pointB at hpb; simpa using hpb
    obtain ⟨hok, hwv⟩ := hpb'
    obtain ⟨hv, k, rfl, hk⟩ := graphOk_one hok
    have hv0 : 0 ≤ v ∧ v < ts.length := by simp [withinP] at hwv; omega
    have hv1 := hv0.1
    have hv2 := hv0.2
    obtain ⟨bt, ot, ct2, e, hbt, -, -, hct2⟩ := HB1.out.ht.get hv1 hv2
    injection e with e1 e9 e2
    subst e1 e2
    clear e9
    by_cases hty : typeOfP ts v = 1
    · have HRES : Hid (numRes ts l (k : Nat) v = flS 10 ts (ptsP l) Gnum Cnum k v.toNat) := Lib.hid (by unfold numRes; rw [if_pos ⟨hok, hwv, hty⟩]; rfl)
      obtain ⟨x, rfl⟩ : ∃ x : Nat, v = x := ⟨v.toNat, by omega⟩
      have hx : x < ts.length := by omega
      rw [hty] at hct2
      simp only [Int.toNat_natCast] at hct2 HRES
      have GD := Lib.hid (Good.of_valid hv)
      have HFL := Lib.hid (l10Flow_any _ _ 2 10 ts l Gnum Cnum B w1 HB1.out.ht HB1.out.hl (by omega) hv (kd_num (Good.of_valid hv)) (Gnum_lt (Good.of_valid hv)) (by omega))
      clear hpb hok hwv hv hv0 hv1 hv2 hty
      go_wp2_with fail
      refine HFL.out.mono ?_
      rintro e w6 ⟨v6, mv, rbs, R, base, rfl, hbase, hb3, hri, hst, hb6⟩
      have HB6 := Lib.hid (HB1.out.bels hb6 hB)
      have hRl := hri.len
      obtain ⟨A6, c6, rfl, hc6⟩ := hb3.slice
      obtain ⟨g6, g7, r7, c7, rfl, -, y6, hc7, y7, hrow⟩ := hb3.get (k := k) (v := x) (by omega) (hri.row k (by omega)) hx (hri.inn k x (by omega) hx) (by omega)
      have HBO := Lib.hid (hrow.bools (c := 10) (by rw [hri.inn k x (by omega) hx]; omega) (by rw [hri.inn k x (by omega) hx]; omega))
      have HLR := Lib.hid (row_flS hst (hri.inn k x (by omega) hx))
      have HLN := Lib.hid (hri.inn k x (by omega) hx)
      rw [HLN.out] at HBO
      rw [hRl] at hc6 ⊢
      clear hbase hb3 hri hst hb6 hrow hRl
      go_wp2_with fail
      refine (l3Numbers_any _ _ _ _ HBO.out (Nat.le_refl _)).mono ?_
      rintro e w7 ⟨v7, rfl, hi7, hb7⟩
      have HI7 := Lib.hid hi7
      clear hi7
      go_wp2_with fail
      go_ret
      have hfin := HI7.out
      rw [HLN.out, HLR.out, ← HRES.out] at hfin
      exact ⟨_, rfl, hfin, HB6.out.bel.trans (hb7.mono HB6.out.bel.size)⟩
    · have HRES : Hid (numRes ts l (k : Nat) v = []) := Lib.hid (by unfold numRes; rw [if_neg (fun h => hty h.2.2)])
      have hty2 : ((typeOfP ts v) != 1) = true := by simpa using hty
      clear hpb hok hwv hv hv0
      go_wp2_with fail
      go_ret
      exact ⟨_, rfl, by rw [HRES.out]; exact IntS.nil' _ _ _ _, HB1.out.bel.trans ((bel_a _ _).mono HB1.out.bel.size)⟩

end Go.Proofs.Yteaddodjijlpjaa

/- spec.MayAlias, UsersOf. -/
namespace Go.Proofs.Yteaddodjijlpjaa
open Go.RowKit

theorem row_bit {ts : List Int} {pts : List Pt} {G : Nat → Pt → Nat → Bool} {C : Pt → Bool} {k v e : Nat} {R : List (List (List Bool))} (h : ∀ i v e, get3 R i v e = true ↔ Fl ts pts G C i v e) :
    ((R.getD k []).getD v []).getD e false = dec (Fl ts pts G C k v e) := by
  rw [Bool.eq_iff_iff, dec_iff, ← h k v e]; rfl
set_option maxHeartbeats 4000000 in
set_option maxRecDepth 100000 in
theorem sMayAlias_any (vt vb : Value) (ts : List Int) (l : List St) (a v u : Int) (B : Nat) (w : World) (ht : IntS w B vt ts) (hl : StS w B vb l) (hB : B ≤ w.heap.size) (hsz : szL l ≤ 4194300) :
    Calls Try.prog 17 #[.agg #[vt, vb], .int .i64 a, .int .i64 v, .int .i64 u] w fun e w' => e = .returned (.bool (aliasRes ts l a v u)) ∧ Below w.heap.size w w' := by
  have HBX := Lib.hid (Boxed.new ht hl hB 26)
  obtain ⟨At, ct, rfl, hct, -, -⟩ := ht
  obtain ⟨Ab, cb, rfl, hcb⟩ := hl.slice
  clear hl
  go_enter Try.func17, Try.ntmps17
  go_wp2_with fail
  refine (l3Point_any _ _ ts l a v B _ HBX.out.ht HBX.out.hl (by simp; omega) hsz).mono ?_
  rintro e w0 ⟨rfl, hb0⟩
  have HB0 := Lib.hid (HBX.out.bels hb0 hB)
  have c0 := HB0.out.c0
  have c1 := HB0.out.c1
  have hs0 := HB0.out.lt
  clear hb0
  cases hpv : pointB ts l a v
  · have HRES : Hid (aliasRes ts l a v u = false) := Lib.hid (by unfold aliasRes; unfold pointB at hpv; rw [hpv]; rfl)
    clear hpv
    go_wp2_with fail
    go_ret
    exact ⟨ret_bool HRES.out.symm, HB0.out.bel⟩
  · have HPV := Lib.hid hpv
    clear hpv
    go_wp2_with fail
    refine (l3Point_any _ _ ts l a u B _ HB0.out.ht HB0.out.hl (by omega) hsz).mono ?_
    rintro e w1 ⟨rfl, hb1⟩
    have HB1 := Lib.hid (HB0.out.bels hb1 hB)
    have hs1 := HB1.out.lt
    clear hb1 c0 c1
    have c0 := HB1.out.c0
    have c1 := HB1.out.c1
    cases hpu : pointB ts l a u
    · have HRES : Hid (aliasRes ts l a v u = false) := Lib.hid (by
        unfold aliasRes
        have h1 := HPV.out
        unfold pointB at h1 hpu
        rw [Bool.and_eq_true] at h1
        rw [h1.1, Bool.true_and] at hpu
        rw [h1.1, h1.2, hpu]; rfl)
      clear hpu
      go_wp2_with fail
      go_ret
      exact ⟨ret_bool HRES.out.symm, HB1.out.bel⟩
    · have hpb' : graphOk ts l [a] = true ∧ withinP v 0 ((ts.length : Int) - 1) = true := by have := HPV.out; unfold pointB at this; simpa using this
      have hpu' : graphOk ts l [a] = true ∧ withinP u 0 ((ts.length : Int) - 1) = true := by unfold pointB at hpu; simpa using hpu
      obtain ⟨hok, hwv⟩ := hpb'
      have hwu := hpu'.2
      obtain ⟨hv, k, rfl, hk⟩ := graphOk_one hok
      have hv0 : 0 ≤ v ∧ v < ts.length := by simp [withinP] at hwv; omega
      have hu0 : 0 ≤ u ∧ u < ts.length := by simp [withinP] at hwu; omega
      obtain ⟨x, rfl⟩ : ∃ x : Nat, v = x := ⟨v.toNat, by omega⟩
      obtain ⟨y, rfl⟩ : ∃ y : Nat, u = y := ⟨u.toNat, by omega⟩
      have hx : x < ts.length := by omega
      have hy : y < ts.length := by omega
      have HRES : Hid (aliasRes ts l (k : Nat) (x : Nat) (y : Nat) = (List.range (ptsP l).length).any fun e => dec (Fl ts (ptsP l) Gcell Ccell k x e) && dec (Fl ts (ptsP l) Gcell Ccell k y e)) := Lib.hid (by unfold aliasRes; rw [hwv, hok, hwu]; rfl)
      have GD := Lib.hid (Good.of_valid hv)
      have HV := Lib.hid hv
      have hplen := GD.out.len
      clear hpu hpu' hok hwv hv hv0 hu0 hwu
      go_wp2_with fail
      have BEL : Hid (∀ w', w'.cell? ⟨w.heap.size, 0, none⟩ = some (.slice At ts.length ct) ∧ w'.cell? ⟨w.heap.size, 1, none⟩ = some (.slice Ab l.length cb) ∧ Below w1.heap.size w1 w' → Below w1.heap.size w1 w') := Lib.hid fun _ h => h.2.2
      refine wp_region_held_drew (S := (fun w' => w'.cell? ⟨w.heap.size, 0, none⟩ = some (.slice At ts.length ct) ∧ w'.cell? ⟨w.heap.size, 1, none⟩ = some (.slice Ab l.length cb) ∧ Below w1.heap.size w1 w')) (by kernel_rfl) ?_ (fun hHeld => ?_)
      · exact ⟨c0, c1, (Below.refl _ _).drew⟩
      refine wpAnyH_take (i := 0) (oi := ⟨some 23, _, _, _, _, _⟩) (v := ?_) rfl (by kernel_rfl) (by kernel_rfl) (by kernel_rfl) (fun _ _ _ h => h) (Or.inl ⟨by rfl, fun w' hSw => ?_⟩) (by assumption) ?_
      rotate_left
      · (try dsimp only at hSw); go_simp; (try with_reducible rfl)
      (try simp only [Act.put, List.setIfInBounds_toArray, List.set_cons_zero, List.set_cons_succ])
      refine wpAnyH_take (i := 1) (oi := ⟨some 24, _, _, _, _, _⟩) (v := ?_) rfl (by kernel_rfl) (by kernel_rfl) (by kernel_rfl) (fun _ _ _ h => h) (Or.inl ⟨by rfl, fun w' hSw => ?_⟩) (by assumption) ?_
      rotate_left
      · (try dsimp only at hSw); go_simp; (try with_reducible rfl)
      (try simp only [Act.put, List.setIfInBounds_toArray, List.set_cons_zero, List.set_cons_succ])
      refine wpAnyH_take (i := 5) (oi := ⟨some 28, _, _, _, _, _⟩) (v := ?_) rfl (by kernel_rfl) (by kernel_rfl) (by kernel_rfl) (fun _ _ _ h => h) (Or.inl ⟨by rfl, fun w' hSw => ?_⟩) (by assumption) ?_
      rotate_left
      · (try dsimp only at hSw); go_simp; (try with_reducible rfl)
      (try simp only [Act.put, List.setIfInBounds_toArray, List.set_cons_zero, List.set_cons_succ])
      refine wpAnyH_ready (rs := [2]) (by kernel_rfl) (by simp) ?_
      refine AllReadyH.cons (o := ⟨some 25, _, _, _, _, _⟩) rfl (fun K hK => ?_) AllReadyH.nil
      go_simp
      (refine (l2Points_any _ _ l B _ (HB1.out.hl.low (BEL.out _ (by assumption)) (by omega)) (by have := (BEL.out _ (by assumption)).size; omega) hsz).mono ?_)
      (rintro e w5 ⟨v5, rfl, hps, hb5⟩)
      (have BX5 := Lib.hid ((BEL.out _ (by assumption)).trans (hb5.mono (BEL.out _ (by assumption)).size)))
      (have HP5 := Lib.hid (HB1.out.bels BX5.out hB))
      (obtain ⟨Ap, cp, rfl, hcp, hpl⟩ := hps.slice)
      clear hps hb5
      go_simp
      refine hK.out _ _ ?_ (fun hHeld => ?_)
      · exact ⟨HP5.out.c0, HP5.out.c1, BX5.out⟩
      clear hK K
      (try simp only [Act.put, List.setIfInBounds_toArray, List.set_cons_zero, List.set_cons_succ])
      refine wpAnyH_take (i := 3) (oi := ⟨some 26, _, _, _, _, _⟩) (v := ?_) rfl (by kernel_rfl) (by kernel_rfl) (by kernel_rfl) (fun _ _ _ h => h) (Or.inl ⟨by rfl, fun w' hSw => ?_⟩) (by assumption) ?_
      rotate_left
      · (try dsimp only at hSw); go_simp; (try with_reducible rfl)
      (try simp only [Act.put, List.setIfInBounds_toArray, List.set_cons_zero, List.set_cons_succ])
      refine wpAnyH_ready (rs := [4]) (by kernel_rfl) (by simp) ?_
      refine AllReadyH.cons (o := ⟨some 27, _, _, _, _, _⟩) rfl (fun K hK => ?_) AllReadyH.nil
      go_simp
      (refine (l10Flow_any _ _ 0 (ptsP l).length ts l Gcell Ccell B w5 (HB1.out.ht.low BX5.out (by omega)) (HB1.out.hl.low BX5.out (by omega)) (by have := BX5.out.size; omega) HV.out (kd_cell GD.out) (Gcell_lt hplen) (by omega)).mono ?_)
      (rintro e w6 ⟨v6, mv, rbs, R, base, rfl, hbase, hb3, hri, hst, hb6⟩)
      (have BX6 := Lib.hid (BX5.out.trans (hb6.mono BX5.out.size)))
      (have HP6 := Lib.hid (HB1.out.bels BX6.out hB))
      (have hRl := hri.len)
      (obtain ⟨A6, c6, rfl, hc6⟩ := hb3.slice)
      (obtain ⟨g6, g7, r7, c7, rfl, -, y6, hc7, y7, hrow⟩ := hb3.get (k := k) (v := x) (by omega) (hri.row k (by omega)) hx (hri.inn k x (by omega) hx) (by omega))
      (obtain ⟨g6', g7', r8, c7', e6, -, y6', hc7', y8, hrow'⟩ := hb3.get (k := k) (v := y) (by omega) (hri.row k (by omega)) hy (hri.inn k y (by omega) hy) (by omega))
      (injection e6 with e6)
      (injection e6 with e6)
      subst e6
      (rw [y6] at y6')
      (injection y6' with y6')
      (injection y6' with e7 e8 e9)
      (injection e7 with e7)
      (injection e7 with e7)
      subst e7 e9
      (have HRA := Lib.hid hrow)
      (have HRB := Lib.hid hrow')
      (have HLA := Lib.hid (hri.inn k x (by omega) hx))
      (have HLB := Lib.hid (hri.inn k y (by omega) hy))
      (have HGA := Lib.hid (fun e => row_bit (k := k) (v := x) (e := e) hst))
      (have HGB := Lib.hid (fun e => row_bit (k := k) (v := y) (e := e) hst))
      (rw [hRl] at hc6 ⊢)
      clear hbase hb3 hri hst hb6 hrow hrow' hRl e8 hc7'
      go_simp
      refine hK.out _ _ ?_ (fun hHeld => ?_)
      · exact ⟨HP6.out.c0, HP6.out.c1, BX6.out⟩
      clear hK K
      (try simp only [Act.put, List.setIfInBounds_toArray, List.set_cons_zero, List.set_cons_succ])
      refine wpAnyH_take (i := 6) (oi := ⟨some 29, _, _, _, _, _⟩) (v := ?_) rfl (by kernel_rfl) (by kernel_rfl) (by kernel_rfl) (fun _ _ _ h => h) (Or.inl ⟨by rfl, fun w' hSw => ?_⟩) (by assumption) ?_
      rotate_left
      · (try dsimp only at hSw); go_simp; (try with_reducible rfl)
      (try simp only [Act.put, List.setIfInBounds_toArray, List.set_cons_zero, List.set_cons_succ])
      refine wpAnyH_ready (rs := [7]) (by kernel_rfl) (by simp) ?_
      refine AllReadyH.cons (o := ⟨some 30, _, _, _, _, _⟩) rfl (fun K hK => ?_) AllReadyH.nil
      go_simp
      refine hK.out _ _ ?_ (fun hHeld => ?_)
      · exact ⟨HP6.out.c0, HP6.out.c1, BX6.out⟩
      clear hK K
      (try simp only [Act.put, List.setIfInBounds_toArray, List.set_cons_zero, List.set_cons_succ])
      refine wpAnyH_take (i := 8) (oi := ⟨some 9, _, _, _, _, _⟩) (v := ?_) rfl (by kernel_rfl) (by kernel_rfl) (by kernel_rfl) (fun _ _ _ h => h) (Or.inl ⟨by rfl, fun w' hSw => ?_⟩) (by assumption) ?_
      rotate_left
      · (try dsimp only at hSw); go_simp; (try with_reducible rfl)
      (try simp only [Act.put, List.setIfInBounds_toArray, List.set_cons_zero, List.set_cons_succ])
      refine wpAnyH_done (by kernel_rfl) ?_ _
      go_wp2_with fail
      go_loop [10] (fun i => ∃ j : Nat, j ≤ (ptsP l).length ∧ i = .int .i64 j ∧ ∀ e, e < j → (dec (Fl ts (ptsP l) Gcell Ccell k x e) && dec (Fl ts (ptsP l) Gcell Ccell k y e)) = false) (fun i => (ptsP l).length - (intOf i).toNat)
      case atStart => exact ⟨0, Nat.zero_le _, rfl, fun e he => by omega⟩
      case round =>
        obtain ⟨j, hj, rfl, hno⟩ := hrel
        have HNO := Lib.hid hno
        clear hno
        by_cases hjl : j < (ptsP l).length
        · have d7 : w6.cell? ⟨r7, j, none⟩ = some (.bool (dec (Fl ts (ptsP l) Gcell Ccell k x j))) := by rw [HRA.out.cell, bv_get (by rw [HLA.out]; exact hjl), HGA.out]
          have d8 : w6.cell? ⟨r8, j, none⟩ = some (.bool (dec (Fl ts (ptsP l) Gcell Ccell k y j))) := by rw [HRB.out.cell, bv_get (by rw [HLB.out]; exact hjl), HGB.out]
          cases h1 : dec (Fl ts (ptsP l) Gcell Ccell k x j)
          · rw [h1] at d7
            have HN : Hid (∀ e, e < j + 1 → (dec (Fl ts (ptsP l) Gcell Ccell k x e) && dec (Fl ts (ptsP l) Gcell Ccell k y e)) = false) := Lib.hid fun e he => by
              by_cases h : e = j
              · rw [h, h1]; rfl
              · exact HNO.out e (by omega)
            clear h1
            go_wp2_with fail
            exact ⟨⟨j + 1, by omega, by go_num, HN.out⟩, by simp [intOf] <;> omega⟩
          · cases h2 : dec (Fl ts (ptsP l) Gcell Ccell k y j)
            · rw [h1] at d7
              rw [h2] at d8
              have HN : Hid (∀ e, e < j + 1 → (dec (Fl ts (ptsP l) Gcell Ccell k x e) && dec (Fl ts (ptsP l) Gcell Ccell k y e)) = false) := Lib.hid fun e he => by
                by_cases h : e = j
                · rw [h, h1, h2]; rfl
                · exact HNO.out e (by omega)
              clear h1 h2
              go_wp2_with fail
              exact ⟨⟨j + 1, by omega, by go_num, HN.out⟩, by simp [intOf] <;> omega⟩
            · rw [h1] at d7
              rw [h2] at d8
              have HY : Hid (aliasRes ts l (k : Nat) (x : Nat) (y : Nat) = true) := Lib.hid (by
                rw [HRES.out, List.any_eq_true]
                exact ⟨j, List.mem_range.2 hjl, by rw [h1, h2]; rfl⟩)
              clear h1 h2
              go_wp2_with fail
              go_ret
              exact ⟨ret_bool HY.out.symm, HB1.out.bel.trans (BX6.out.mono HB1.out.bel.size)⟩
        · have hje : j = (ptsP l).length := by omega
          have HN : Hid (aliasRes ts l (k : Nat) (x : Nat) (y : Nat) = false) := Lib.hid (by
            rw [HRES.out, List.any_eq_false]
            intro e he
            rw [HNO.out e (by rw [hje]; exact List.mem_range.1 he)]; simp)
          clear hje
          go_wp2_with fail
          go_ret
          exact ⟨ret_bool HN.out.symm, HB1.out.bel.trans (BX6.out.mono HB1.out.bel.size)⟩

end Go.Proofs.Yteaddodjijlpjaa

/- spec.UsersOf. -/
namespace Go.Proofs.Yteaddodjijlpjaa
open Go.RowKit

set_option maxHeartbeats 8000000
set_option maxRecDepth 100000
theorem sUsersOf_any (vt vb : Value) (ts : List Int) (l : List St) (a : Int) (B : Nat) (w : World) (ht : IntS w B vt ts) (hl : StS w B vb l) (hB : B ≤ w.heap.size) (hsz : szL l ≤ 4194300) :
    Calls Try.prog 31 #[.agg #[vt, vb], .int .i64 a] w (IntsRet w (userRes ts l a)) := by
  have HBX := Lib.hid (Boxed.new ht hl hB 26)
  obtain ⟨At, ct, rfl, hct, -, -⟩ := ht
  obtain ⟨Ab, cb, rfl, hcb⟩ := hl.slice
  clear hl
  go_enter Try.func31, Try.ntmps31
  go_wp2_with fail
  have HO0 := Lib.hid (OInts.empty (w.alloc (.cells #[.slice At ts.length ct, .slice Ab l.length cb] 26)) w.heap.size (by simp))
  have HBY := Lib.hid (HBX.out.bels (bel_a _ (.cells #[] 3)) hB)
  have hlt0 : w.heap.size + 1 < ((w.alloc (.cells #[.slice At ts.length ct, .slice Ab l.length cb] 26)).alloc (.cells #[] 3)).heap.size := by simp
  have d0 := HBY.out.c0
  have d1 := HBY.out.c1
  generalize ((w.alloc (.cells #[.slice At ts.length ct, .slice Ab l.length cb] 26)).alloc (.cells #[] 3)) = W at *
  rw [show (w.alloc (.cells #[.slice At ts.length ct, .slice Ab l.length cb] 26)).heap.size = w.heap.size + 1 by simp] at HO0
  refine (sPointsOf_any _ _ ts l B _ HBY.out.ht HBY.out.hl (by omega) hsz).mono ?_
  rintro e w3 ⟨vp, rfl, hps, hb3⟩
  have HB3 := Lib.hid (HBY.out.bels hb3 hB)
  have hs3 := hb3.size
  have HO3 := Lib.hid (HO0.out.bel hb3)
  have HPS := Lib.hid hps
  have c0 := HB3.out.c0
  have c1 := HB3.out.c1
  obtain ⟨Ap, cp, rfl, hcp, hpl⟩ := hps.slice
  clear hps hb3 d0 d1
  by_cases ha : a < 0
  · have HRES : Hid (userRes ts l a = []) := Lib.hid (by unfold userRes; rw [graphOk_no (.inl ha)]; simp)
    have ha1 : decide (a < 0) = true := by simpa using ha
    generalize (pointsP ts l).length = np at *
    go_wp2_with fail
    go_ret
    refine ⟨_, rfl, ?_, HB3.out.bel⟩
    rw [HRES.out]
    exact (HO3.out.toS (by simp)).more (Nat.le_refl _)
  · have ha1 : decide (a < 0) = false := by simpa using ha
    by_cases hal : a < (pointsP ts l).length
    · obtain ⟨hv, hpe, hok⟩ := graphOk_yes (by omega) hal
      rw [hpe] at HPS hcp hpl hal ⊢
      obtain ⟨k, rfl⟩ : ∃ k : Nat, a = k := ⟨a.toNat, by omega⟩
      have hk : k < (ptsP l).length := by omega
      have G := Good.of_valid hv
      have hplen := G.len
      have hsr : setRes ts l (k : Nat) = setsP (ptsP l)[k].op (ptsP l)[k].x := by unfold setRes; rw [if_pos hok, ptAt_nat hk]
      have hlt := (G.ok _ (List.getElem_mem hk)).sets
      have HV := Lib.hid hv
      have GD := Lib.hid G
      have hal1 : decide ((k : Int) ≥ ((ptsP l).length : Nat)) = false := by simp; omega
      obtain ⟨bp, op, cp', nv, e, hbp, hcp', hlp, hnx, p0, p1, p2, p3, p4⟩ := HPS.out.get hk
      injection e with e1 e9 e2
      subst e1 e2
      obtain ⟨An, cn, rfl, hcn, hln, -⟩ := hnx
      simp only [List.length_map] at hcn hln p4
      have HNO : Hid (setsP (ptsP l)[k].op (ptsP l)[k].x < 0 → userRes ts l (k : Nat) = []) := Lib.hid fun h => by unfold userRes; rw [hsr, if_neg (by omega)]
      have HYS : Hid (∀ x : Nat, setsP (ptsP l)[k].op (ptsP l)[k].x = x → userRes ts l (k : Nat) = lst (ptsP l).length (fun i => usesB ts (ptsP l) x i && dec (Fl ts (ptsP l) Gset Cset i x k))) := Lib.hid fun x h => by
        unfold userRes
        rw [hsr, h, if_pos ⟨hok, by omega⟩]
        rfl
      generalize (ptsP l)[k] = P at *
      clear e9 hv hpe hok hal G hsr hcp' hlp
      obtain ⟨pts, hpts⟩ : ∃ pts, pts = ptsP l := ⟨_, rfl⟩
      have HPT := Lib.hid hpts
      rw [← hpts] at HPS HYS GD hcp hpl hk hplen hal1 ⊢
      clear hpts
      go_wp2_with (at_builtin; fail)
      refine (l3Set_any _ _ _ _ _ _).mono ?_
      rintro e w4 ⟨rfl, hb4⟩
      have HB4 := Lib.hid (HB3.out.bels hb4 hB)
      have HO4 := Lib.hid (HO3.out.bel hb4)
      have HPS4 := Lib.hid (HPS.out.bel hb4)
      have hs4 := hb4.size
      have q0 := (hb4.cell (p := ⟨bp, op + k * 5, none⟩) hbp).trans p0
      have q1 := (hb4.cell (p := ⟨bp, op + k * 5 + 1, none⟩) hbp).trans p1
      have q2 := (hb4.cell (p := ⟨bp, op + k * 5 + 2, none⟩) hbp).trans p2
      have q3 := (hb4.cell (p := ⟨bp, op + k * 5 + 3, none⟩) hbp).trans p3
      have q4 := (hb4.cell (p := ⟨bp, op + k * 5 + 4, none⟩) hbp).trans p4
      clear c0 c1 p0 p1 p2 p3 p4 hb4
      have c0 := HB4.out.c0
      have c1 := HB4.out.c1
      by_cases hs0 : setsP P.op P.x < 0
      · have HRES := Lib.hid (HNO.out hs0)
        have hs1 : decide (setsP P.op P.x < 0) = true := by simpa using hs0
        generalize setsP P.op P.x = s at *
        clear hs0
        go_wp2_with fail
        go_ret
        refine ⟨_, rfl, ?_, HB4.out.bel⟩
        rw [HRES.out]
        exact (HO4.out.toS (by simp)).more (by omega)
      · have hs1 : decide (setsP P.op P.x < 0) = false := by simpa using hs0
        obtain ⟨x, hx⟩ : ∃ x : Nat, setsP P.op P.x = x := ⟨(setsP P.op P.x).toNat, by omega⟩
        have hx6 : x < ts.length := by omega
        have HRES := Lib.hid (HYS.out x hx)
        have HX := Lib.hid hx
        rw [hx] at hs1 ⊢
        clear hs0 hlt hx
        go_wp2_with fail
        refine (l3Set_any _ _ _ _ _ _).mono ?_
        rintro e w5 ⟨rfl, hb5⟩
        rw [HX.out]
        have HB5 := Lib.hid (HB4.out.bels hb5 hB)
        have HO5 := Lib.hid (HO4.out.bel hb5)
        have HPS5 := Lib.hid (HPS4.out.bel hb5)
        have hs5 := hb5.size
        clear c0 c1 q0 q1 q2 q3 q4 hb5
        have c0 := HB5.out.c0
        have c1 := HB5.out.c1
        have HFL := Lib.hid (l10Flow_any _ _ 1 (ptsP l).length ts l Gset Cset B w5 HB5.out.ht HB5.out.hl (by omega) HV.out (kd_set (by rw [← HPT.out]; exact GD.out)) (Gset_lt (by rw [← HPT.out]; exact hplen)) (by rw [← HPT.out]; omega))
        rw [← HPT.out] at HFL
        go_wp2_with (at_builtin; fail)
        refine HFL.out.mono ?_
        rintro e w6 ⟨v6, mv, rbs, R, base, rfl, hbase, hf3, hri, hst, hb6⟩
        have HB6 := Lib.hid (HB5.out.bels hb6 hB)
        have HPS6 := Lib.hid (HPS5.out.low hb6 (by omega))
        have HO6 := Lib.hid (HO5.out.bel hb6)
        have hs6 := hb6.size
        have hRl := hri.len
        obtain ⟨A6, c6, rfl, hc6⟩ := hf3.slice
        have HF3 := Lib.hid hf3
        have HRI := Lib.hid hri
        have HST := Lib.hid hst
        have HOS := Lib.hid (OutI.start HO6.out (by omega))
        rw [hRl] at hc6 ⊢
        clear hbase hf3 hri hst hb6 c0 c1
        have c0 := HB6.out.c0
        go_wp2_with (at_builtin; fail)
        go_loopw [5, 9] (fun v i wr => ∃ (j : Nat) (o : List Int), j ≤ pts.length ∧ i = .int .i64 j ∧ o = lst j (fun i => usesB ts pts x i && dec (Fl ts pts Gset Cset i x k)) ∧ OutI w6 wr w.heap.size v o) (fun _ i _ => pts.length - (intOf i).toNat)
        case atStart => exact ⟨0, [], by omega, rfl, rfl, HOS.out⟩
        case round =>
          obtain ⟨j, o, hj, rfl, ho, hO⟩ := hrel
          have HO := Lib.hid hO
          have HOL := Lib.hid ho
          have hol : o.length ≤ j := by rw [ho]; exact lst_len _ _
          have hK := hO.kp
          have hsr := hK.2
          have HKP := Lib.hid hK
          have d0 := hK.1 _ _ _ c0
          obtain ⟨A', c', rfl, hc'⟩ := hO.lenc
          clear hO ho hK
          by_cases hjl : j < pts.length
          · obtain ⟨bq, oq, cq, nq, e, hbq, hcq, hlq, hnq, r0, r1, r2, r3, r4⟩ := HPS6.out.get hjl
            have hbqr : bq < wr.heap.size := by omega
            injection e with e1 e9 e2
            injection e1 with e1
            injection e1 with e1 e8
            subst e1 e2 e8
            obtain ⟨Aq, dq, rfl, hdq, hmq, -⟩ := hnq
            simp only [List.length_map] at hdq hmq r4
            have t0 := HKP.out.1 _ _ _ r0
            have t1 := HKP.out.1 _ _ _ r1
            have t2 := HKP.out.1 _ _ _ r2
            have t3 := HKP.out.1 _ _ _ r3
            have t4 := HKP.out.1 _ _ _ r4
            obtain ⟨g6, g7, r7, c7, rfl, -, y6, hc7, y7, hrow⟩ := HF3.out.get (k := j) (v := x) (by omega) (HRI.out.row j (by omega)) hx6 (HRI.out.inn j x (by omega) hx6) (by omega)
            have d7 : w6.cell? ⟨r7, k, none⟩ = some (.bool (dec (Fl ts pts Gset Cset j x k))) := by rw [hrow.cell, bv_get (by rw [HRI.out.inn j x (by omega) hx6]; exact hk), row_bit HST.out]
            have z6 := HKP.out.1 _ _ _ y6
            have z7 := HKP.out.1 _ _ _ y7
            have z8 := HKP.out.1 _ _ _ d7
            have hgr : g6 < wr.heap.size := cell_lt z6
            have hgr7 : g7 < wr.heap.size := cell_lt z7
            have hr7 : r7 < wr.heap.size := cell_lt z8
            have hwr : w.heap.size < wr.heap.size := by have := HB6.out.lt; omega
            have hjn : ((j : Nat) : Int) < (pts.length : Int) := by omega
            have HSZ := Lib.hid (show w6.heap.size ≤ wr.heap.size from hsr)
            have HT9 := Lib.hid (HB6.out.ht.imp HKP.out)
            have HUB : Hid ((useP ts pts[j].op pts[j].x pts[j].y (x : Nat) != 0) = usesB ts pts x j) := Lib.hid (by unfold usesB; rw [List.getElem?_eq_getElem hjl])
            generalize pts[j] = P2 at *
            have HCU : Hid (∀ w', Below wr.heap.size wr w' → Calls Try.prog 73 #[.slice At ts.length ct, .agg #[.int .i64 P2.op, .int .i64 P2.x, .int .i64 P2.y, .int .i64 P2.n, .slice Aq P2.next.length dq], .int .i64 (x : Nat)] w' fun e w'' => e = .returned (.int .i64 (useP ts P2.op P2.x P2.y (x : Nat))) ∧ Below wr.heap.size wr w'') :=
              Lib.hid fun w' h => (l3Use_any _ ts B P2.op P2.x P2.y P2.n (x : Nat) _ _ (HT9.out.low h (by omega)) (by have := h.size; omega) (by omega) (by omega)).mono fun e w'' ⟨he, hb⟩ => ⟨he, h.trans (hb.mono h.size)⟩
            clear e9 r0 r1 r2 r3 r4 y6 y7 d7 hrow hsr
            cases hfl : dec (Fl ts pts Gset Cset j x k)
            · rw [hfl] at z8
              have HN : Hid ((usesB ts pts x j && dec (Fl ts pts Gset Cset j x k)) = false) := Lib.hid (by rw [hfl]; simp)
              clear hfl HCU HUB
              go_wp2_with (at_builtin; fail)
              refine wp_region_seq (Below wr.heap.size wr) (by kernel_rfl) (by kernel_rfl) (Below.refl _ _).drew ?_
              repeat (first
                | (refine SeqS.skip (by rfl) ?_; (try simp only [Act.put, List.setIfInBounds_toArray, List.set_cons_zero, List.set_cons_succ]))
                | (refine SeqS.pure (v := ?_) (by rfl) (fun w' hSw => ?_) ?_; rotate_left; (obtain ⟨hc9, hf9⟩ := bcell hSw; go_simp; with_reducible rfl); (try simp only [Act.put, List.setIfInBounds_toArray, List.set_cons_zero, List.set_cons_succ]))
                | fail)
              intro w2 hb2
              have HO9 := Lib.hid (HO.out.belc hb2)
              clear hb2
              go_wp2_with (at_builtin; fail)
              exact ⟨⟨j + 1, o, by omega, by go_num, by rw [HOL.out, lst_succ_false HN.out], HO9.out⟩, by simp [intOf] <;> omega⟩
            · rw [hfl] at z8
              generalize useP ts P2.op P2.x P2.y (x : Nat) = us at *
              cases hus : (us != 0)
              · have HN : Hid ((usesB ts pts x j && dec (Fl ts pts Gset Cset j x k)) = false) := Lib.hid (by rw [← HUB.out, hus]; rfl)
                clear hfl HUB
                go_wp2_with (at_builtin; fail)
                refine wp_region_seq (Below wr.heap.size wr) (by kernel_rfl) (by kernel_rfl) (Below.refl _ _).drew ?_
                repeat (first
                  | (refine SeqS.skip (by rfl) ?_; (try simp only [Act.put, List.setIfInBounds_toArray, List.set_cons_zero, List.set_cons_succ]))
                  | (refine SeqS.pure (v := ?_) (by rfl) (fun w' hSw => ?_) ?_; rotate_left; (obtain ⟨hc9, hf9⟩ := bcell hSw; go_simp; with_reducible rfl); (try simp only [Act.put, List.setIfInBounds_toArray, List.set_cons_zero, List.set_cons_succ]))
                  | (refine SeqS.call (f := ?_) (args := ?_) (v := ?_) (by rfl) (fun w' => ?_) (fun w' hSw => ?_) ?_; rotate_left 3; (go_simp; constructor; (with_reducible rfl); (with_reducible rfl)); (first | exact HCU.out _ hSw | fail); (try simp only [Act.put, List.setIfInBounds_toArray, List.set_cons_zero, List.set_cons_succ]))
                  | fail)
                intro w2 hb2
                have HO9 := Lib.hid (HO.out.belc hb2)
                clear hb2
                go_wp2_with (at_builtin; fail)
                exact ⟨⟨j + 1, o, by omega, by go_num, by rw [HOL.out, lst_succ_false HN.out], HO9.out⟩, by simp [intOf] <;> omega⟩
              · have HN : Hid ((usesB ts pts x j && dec (Fl ts pts Gset Cset j x k)) = true) := Lib.hid (by rw [← HUB.out, hus, hfl]; rfl)
                clear hfl HUB
                go_wp2_with (at_builtin; fail)
                refine wp_region_seq (Below wr.heap.size wr) (by kernel_rfl) (by kernel_rfl) (Below.refl _ _).drew ?_
                repeat (first
                  | (refine SeqS.skip (by rfl) ?_; (try simp only [Act.put, List.setIfInBounds_toArray, List.set_cons_zero, List.set_cons_succ]))
                  | (refine SeqS.pure (v := ?_) (by rfl) (fun w' hSw => ?_) ?_; rotate_left; (obtain ⟨hc9, hf9⟩ := bcell hSw; go_simp; with_reducible rfl); (try simp only [Act.put, List.setIfInBounds_toArray, List.set_cons_zero, List.set_cons_succ]))
                  | (refine SeqS.call (f := ?_) (args := ?_) (v := ?_) (by rfl) (fun w' => ?_) (fun w' hSw => ?_) ?_; rotate_left 3; (go_simp; constructor; (with_reducible rfl); (with_reducible rfl)); (first | exact HCU.out _ hSw | fail); (try simp only [Act.put, List.setIfInBounds_toArray, List.set_cons_zero, List.set_cons_succ]))
                  | fail)
                intro w2 hb2
                have HO9 := Lib.hid (HO.out.belc hb2)
                clear hb2
                go_wp2_with (at_builtin; go_must (refine wpList_push_outI rfl (.tmp 66) (.tmp 68) rfl HO9.out (by omega) _ rfl rfl ?_); intro v' w' hP')
                exact ⟨⟨j + 1, _, by omega, by go_num, by rw [HOL.out, lst_succ_true HN.out], hP'⟩, by simp [intOf] <;> omega⟩
          · have hje : j = pts.length := by omega
            go_wp2_with (at_builtin; fail)
            go_ret
            refine ⟨_, rfl, ?_, HB6.out.bel.trans HO.out.bel⟩
            rw [HRES.out, ← hje, ← HOL.out]
            exact HO.out.toS (by omega)
    · have HRES : Hid (userRes ts l a = []) := Lib.hid (by unfold userRes; rw [graphOk_no (.inr (by omega))]; simp)
      generalize (pointsP ts l).length = np at *
      have hal1 : decide (a ≥ (np : Nat)) = true := by simpa using hal
      go_wp2_with fail
      go_ret
      refine ⟨_, rfl, ?_, HB3.out.bel⟩
      rw [HRES.out]
      exact (HO3.out.toS (by simp)).more (Nat.le_refl _)

end Go.Proofs.Yteaddodjijlpjaa
