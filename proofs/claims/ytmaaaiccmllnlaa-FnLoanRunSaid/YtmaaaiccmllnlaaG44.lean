import Derived.Test.YtmaaaiccmllnlaaG36
import Derived.Test.YtmaaaiccmllnlaaG39
import Derived.Test.YtmaaaiccmllnlaaG43
import Derived.Test.YtmaaaiccmllnlaaG24
set_option linter.unusedVariables false

/- spec.LoansIn, PlacedLoans, l4Live, LiveLoans. -/
namespace Go.Proofs.Ytmaaaiccmllnlaa
open Go.RowKit

/-- one row of one state -/
theorem B4.get {w : World} {base s : Nat} {vo : Value} {ps : List (Value × Nat)} {rbs : List (List Nat)} {R : List (List (List Bool))} {Q : List (List Bool)} (h : B4 w base vo ps rbs s R Q) {k v m : Nat} (hk : k < R.length) (hm : (R.getD k []).length = m) (hv : v < m) :
    ∃ g c g2 c2 r, vo = .slice (some ⟨g, 0, none⟩) R.length c ∧ g < w.heap.size ∧ w.cell? ⟨g, k * 2, none⟩ = some (.slice (some ⟨g2, 0, none⟩) m c2) ∧ g2 < w.heap.size ∧ w.cell? ⟨g2, v, none⟩ = some (.slice (some ⟨r, 0, none⟩) s s) ∧ RowB w r 4 (bv ((R.getD k []).getD v [])) := by
  subst hm
  obtain ⟨A, c, rfl, hc⟩ := h.slice
  obtain ⟨g, ea, hg, hgl, -, hgk, -⟩ := h.at_ hk
  subst ea
  have hmid := h.mid k hk
  obtain ⟨g2, c2, e2, hg2, hg2l, -, hcell, -⟩ := hmid.form (by omega)
  rw [e2] at hgk
  exact ⟨g, c, g2, c2, _, rfl, hgl, hgk, hg2l, hcell v hv, (hmid.row v hv).1⟩
set_option maxHeartbeats 4000000 in
set_option maxRecDepth 100000 in
theorem sLoansIn_any (vt vb : Value) (ts : List Int) (l : List St) (a v : Int) (B : Nat) (w : World) (ht : IntS w B vt ts) (hl : StS w B vb l) (hB : B ≤ w.heap.size) (hsz : szL l ≤ 4194300) :
    Calls Try.prog 40 #[.agg #[vt, vb], .int .i64 a, .int .i64 v] w (IntsRet w (flRes ts l Gloan (Cloan ts) a v)) := by
  have HBX := Lib.hid (Boxed.new ht hl hB 26)
  obtain ⟨At, ct, rfl, hct, -, -⟩ := ht
  obtain ⟨Ab, cb, rfl, hcb⟩ := hl.slice
  clear hl
  go_enter Try.func40, Try.ntmps40
  go_wp2_with fail
  refine (l3Point_any _ _ ts l a v B _ HBX.out.ht HBX.out.hl (by simp; omega) hsz).mono ?_
  rintro e w1 ⟨rfl, hb1⟩
  have HB1 := Lib.hid (HBX.out.bels hb1 hB)
  have c0 := HB1.out.c0
  have c1 := HB1.out.c1
  have hs1 := HB1.out.lt
  clear hb1
  cases hpb : pointB ts l a v
  · have HRES : Hid (flRes ts l Gloan (Cloan ts) a v = []) := Lib.hid (by unfold flRes; unfold pointB at hpb; rw [if_neg]; rintro ⟨h1, h2⟩; rw [h1, h2] at hpb; cases hpb)
    clear hpb
    go_wp2_with fail
    go_ret
    exact ⟨_, rfl, by rw [HRES.out]; exact IntS.nil' _ _ _ _, HB1.out.bel.trans ((bel_a _ _).mono HB1.out.bel.size)⟩
  · have hpb' : graphOk ts l [a] = true ∧ withinP v 0 ((ts.length : Int) - 1) = true := by unfold pointB at hpb; simpa using hpb
    obtain ⟨hok, hwv⟩ := hpb'
    obtain ⟨hv, k, rfl, hk⟩ := graphOk_one hok
    have hv0 : 0 ≤ v ∧ v < ts.length := by simp [withinP] at hwv; omega
    obtain ⟨x, rfl⟩ : ∃ x : Nat, v = x := ⟨v.toNat, by omega⟩
    have hx : x < ts.length := by omega
    have HRES : Hid (flRes ts l Gloan (Cloan ts) (k : Nat) (x : Nat) = flS (ptsP l).length ts (ptsP l) Gloan (Cloan ts) k x) := Lib.hid (by unfold flRes; rw [if_pos ⟨hok, hwv⟩]; rfl)
    have HV := Lib.hid hv
    have hplen := (Good.of_valid hv).len
    clear hpb hok hwv hv hv0
    go_wp2_with fail
    refine (l4Flow_any _ _ ts l B w1 HB1.out.ht HB1.out.hl (by omega) HV.out).mono ?_
    rintro e w6 ⟨v6, ps, rbs, R, Q, base, rfl, -, hb4, hri, hst, -, hb6⟩
    have hRl := hri.len
    have hrk := hri.row k hk
    have hrx := hri.inn k x hk hx
    obtain ⟨g, c, g2, c2, r, rfl, hgl, hy1, hg2l, hy2, hrow⟩ := hb4.get (k := k) (v := x) (by omega) hrk hx
    have HBO := Lib.hid (hrow.bools (c := (ptsP l).length) (by rw [hrx]; omega) (by rw [hrx]; omega))
    have HLR := Lib.hid (row_flS hst hrx)
    rw [hrx] at HBO
    have HLN := Lib.hid hrx
    have HB6 := Lib.hid (HB1.out.bel.trans (hb6.mono HB1.out.bel.size))
    rw [hRl]
    clear hb4 hri hst hb6 hrow hRl hrk hrx
    go_wp2_with fail
    refine (l3Numbers_any _ _ _ _ HBO.out (Nat.le_refl _)).mono ?_
    rintro e w7 ⟨v7, rfl, hi7, hb7⟩
    have HI7 := Lib.hid hi7
    clear hi7
    go_wp2_with fail
    go_ret
    have hfin := HI7.out
    rw [HLN.out, HLR.out, ← HRES.out] at hfin
    exact ⟨_, rfl, hfin, HB6.out.trans (hb7.mono HB6.out.size)⟩
theorem row_pld {ts : List Int} {pts : List Pt} {k : Nat} {Q : List (List Bool)} (h : ∀ i e, qget Q i e = true ↔ Pld ts pts i e) : lst pts.length (fun e => (Q.getD k []).getD e false) = pldL ts pts k := by
  unfold pldL
  refine lst_congr fun e _ => ?_
  rw [Bool.eq_iff_iff, dec_iff, ← h k e]
  rfl
set_option maxHeartbeats 4000000 in
set_option maxRecDepth 100000 in
theorem sPlacedLoans_any (vt vb : Value) (ts : List Int) (l : List St) (a : Int) (B : Nat) (w : World) (ht : IntS w B vt ts) (hl : StS w B vb l) (hB : B ≤ w.heap.size) (hsz : szL l ≤ 4194300) :
    Calls Try.prog 45 #[.agg #[vt, vb], .int .i64 a] w (IntsRet w (pldRes ts l a)) := by
  have HBX := Lib.hid (Boxed.new ht hl hB 26)
  obtain ⟨At, ct, rfl, hct, -, -⟩ := ht
  obtain ⟨Ab, cb, rfl, hcb⟩ := hl.slice
  clear hl
  by_cases ha : a < 0
  · have HRES : Hid (pldRes ts l a = []) := Lib.hid (by unfold pldRes; rw [graphOk_no (.inl ha)]; rfl)
    go_enter Try.func45, Try.ntmps45
    go_wp2_with fail
    go_ret
    exact ⟨_, rfl, by rw [HRES.out]; exact IntS.nil' _ _ _ _, (HBX.out.bel.trans ((bel_a _ _).mono (by simp)))⟩
  · go_enter Try.func45, Try.ntmps45
    go_wp2_with fail
    refine (sPointsOf_any _ _ ts l B _ HBX.out.ht HBX.out.hl (by have := HBX.out.lt; omega) hsz).mono ?_
    rintro e w1 ⟨vp, rfl, hps, hb1⟩
    have HB1 := Lib.hid (HBX.out.bels hb1 hB)
    have c0 := HB1.out.c0
    have c1 := HB1.out.c1
    obtain ⟨Ap, cp, rfl, hcp, hpl⟩ := hps.slice
    clear hps hb1
    have HGY : Hid (a < (pointsP ts l).length → validP ts l = true ∧ pointsP ts l = ptsP l ∧ graphOk ts l [a] = true) := Lib.hid fun h => graphOk_yes (by omega) h
    have HGN : Hid ((pointsP ts l).length ≤ a → graphOk ts l [a] = false) := Lib.hid fun h => graphOk_no (.inr h)
    obtain ⟨np, hnp⟩ : ∃ np, np = (pointsP ts l).length := ⟨_, rfl⟩
    rw [← hnp] at hcp hpl HGY HGN ⊢
    by_cases hlt : a < (np : Int)
    · obtain ⟨hv, hpe, hok⟩ := HGY.out hlt
      rw [hpe] at hnp
      obtain ⟨k, rfl⟩ : ∃ k : Nat, a = k := ⟨a.toNat, by omega⟩
      have HV := Lib.hid hv
      have HRES : Hid (pldRes ts l (k : Int) = pldL ts (ptsP l) k) := Lib.hid (by unfold pldRes; rw [if_pos hok]; rfl)
      have hk : k < (ptsP l).length := by omega
      have hplen := (Good.of_valid hv).len
      clear hv hpe hok hnp
      go_wp2_with fail
      refine (l4Flow_any _ _ ts l B w1 HB1.out.ht HB1.out.hl (by have := HB1.out.lt; omega) HV.out).mono ?_
      rintro e w6 ⟨v6, ps, rbs, R, Q, base, rfl, -, hb4, hri, -, hst, hb6⟩
      have hRl := hri.len
      have hqk := hri.innQ k hk
      obtain ⟨A6, c6, rfl, -⟩ := hb4.slice
      obtain ⟨g, ea, hg, hgl, -, -, hgk⟩ := hb4.at_ (k := k) (by omega)
      subst ea
      have hrow := (hb4.plc k (by omega)).1
      obtain ⟨pk, hpk⟩ : ∃ pk, pk = (ps.getD k dq).2 := ⟨_, rfl⟩
      rw [← hpk] at hrow hgk
      have HBO := Lib.hid (hrow.bools (c := (ptsP l).length) (by rw [hqk]; omega) (by rw [hqk]; omega))
      have HLR := Lib.hid (row_pld (k := k) hst)
      rw [hqk] at HBO
      have HLN := Lib.hid hqk
      have HB6 := Lib.hid (HB1.out.bel.trans (hb6.mono HB1.out.bel.size))
      rw [hRl]
      clear hb4 hri hst hb6 hrow hRl hqk hpk
      go_wp2_with fail
      refine (l3Numbers_any _ _ _ _ HBO.out (Nat.le_refl _)).mono ?_
      rintro e w7 ⟨v7, rfl, hi7, hb7⟩
      have HI7 := Lib.hid hi7
      clear hi7
      go_wp2_with fail
      go_ret
      have hfin := HI7.out
      rw [HLN.out, HLR.out, ← HRES.out] at hfin
      exact ⟨_, rfl, hfin, HB6.out.trans (hb7.mono HB6.out.size)⟩
    · have HRES : Hid (pldRes ts l a = []) := Lib.hid (by unfold pldRes; rw [HGN.out (by omega)]; rfl)
      go_wp2_with fail
      go_ret
      exact ⟨_, rfl, by rw [HRES.out]; exact IntS.nil' _ _ _ _, HB1.out.bel.trans ((bel_a _ _).mono HB1.out.bel.size)⟩

end Go.Proofs.Ytmaaaiccmllnlaa

/- the draws that only hand l3Place on; FnLiveStep. -/
namespace Go.Proofs.Ytmaaaiccmllnlaa
open Go.RowKit

set_option maxHeartbeats 4000000
set_option maxRecDepth 100000
theorem pl_end {w W : World} {vt vb : Value} {ts : List Int} {l : List St} {a : Int} (h3 : Below w.heap.size w W) (hT : IntX W (fun b => w.heap.size + 1 ≤ b) vt ts) (hB : StX W (fun b => w.heap.size + 1 ≤ b) vb l) (ht : ts.length ≤ 700) (hl : szL l ≤ 100000) (W' : World) (hW : W.grownBy W' (some w.heap.size)) : PlRet w (.returned (.tuple #[.agg #[vt, vb], .int .i64 a])) W' :=
  pl_close h3 hW hT hB (by omega) ht hl




end Go.Proofs.Ytmaaaiccmllnlaa
