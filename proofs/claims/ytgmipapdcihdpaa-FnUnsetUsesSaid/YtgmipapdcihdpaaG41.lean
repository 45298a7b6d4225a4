import Derived.Test.YtgmipapdcihdpaaG40
import Derived.Test.YtgmipapdcihdpaaG39
import Derived.Test.YtgmipapdcihdpaaG33
set_option linter.unusedVariables false

/- spec: l3Unset, l14Given, GivesOf, OpenIssues. -/
namespace Go.Proofs.Ytgmipapdcihdpaa
open Go.RowKit

def unsB (ts : List Int) (p : Pt) (bf : List Bool) : Bool := (List.range ts.length).any fun v => (useP ts p.op p.x p.y (v : Nat) != 0) && !bf.getD v false
theorem unsB_true {ts : List Int} {p : Pt} {bf : List Bool} {v : Nat} (hv : v < ts.length) (h : ((useP ts p.op p.x p.y (v : Nat) != 0) && !bf.getD v false) = true) : unsB ts p bf = true :=
  List.any_eq_true.2 ⟨v, List.mem_range.2 hv, h⟩
theorem unsB_false {ts : List Int} {p : Pt} {bf : List Bool} (h : ∀ v, v < ts.length → ((useP ts p.op p.x p.y (v : Nat) != 0) && !bf.getD v false) = false) : unsB ts p bf = false := by
  unfold unsB
  rw [List.any_eq_false]
  intro v hv
  rw [h v (List.mem_range.1 hv)]; simp

set_option maxHeartbeats 4000000
set_option maxRecDepth 100000
theorem l3Unset_any (vt vf nv : Value) (ts : List Int) (bf : List Bool) (p : Pt) (B B' : Nat) (w : World) (ht : IntS w B vt ts) (hf : BoolS w B' vf bf) (hB : B ≤ w.heap.size) (hB' : B' ≤ w.heap.size) (hlen : bf.length = ts.length) (h6 : ts.length ≤ 1000) :
    Calls Try.prog 72 #[vt, .agg #[.int .i64 p.op, .int .i64 p.x, .int .i64 p.y, .int .i64 p.n, nv], vf] w fun e w' => e = .returned (.bool (unsB ts p bf)) ∧ Below w.heap.size w w' := by
  have HT := Lib.hid ht
  have HF := Lib.hid hf
  have hlen1 : bf.length ≤ ts.length := by omega
  have hlen2 : ts.length ≤ bf.length := by omega
  clear hlen
  obtain ⟨Af, cf, rfl, hcf, -, -⟩ := hf
  obtain ⟨At, ct, rfl, hct, -, -⟩ := ht
  have HA := Lib.hid (bel_a w (.cells #[.int .i64 p.op, .int .i64 p.x, .int .i64 p.y, .int .i64 p.n, nv] 40))
  have HR := Lib.hid (heap_alloc_new w (.cells #[.int .i64 p.op, .int .i64 p.x, .int .i64 p.y, .int .i64 p.n, nv] 40))
  go_enter Try.func72, Try.ntmps72
  go_wp2_with fail
  go_loopw [7] (fun i wr => ∃ k : Nat, k ≤ ts.length ∧ i = .int .i64 k ∧ (∀ v, v < k → ((useP ts p.op p.x p.y (v : Nat) != 0) && !bf.getD v false) = false) ∧ Below w.heap.size w wr ∧ wr.heap[w.heap.size]? = some (.cells #[.int .i64 p.op, .int .i64 p.x, .int .i64 p.y, .int .i64 p.n, nv] 40 (0, 0))) (fun i _ => ts.length - (intOf i).toNat)
  case atStart => exact ⟨0, by omega, rfl, fun v hv => by omega, HA.out, HR.out⟩
  case round =>
    obtain ⟨k, hk, rfl, hno, hbw, hrow⟩ := hrel
    have HNO := Lib.hid hno
    have HBR := Lib.hid hbw
    have HRW := Lib.hid hrow
    have d0 : wr.cell? ⟨w.heap.size, 0, none⟩ = some (.int .i64 p.op) := by rw [cell_of_row _ _ _ _ _ _ hrow]; rfl
    have d1 : wr.cell? ⟨w.heap.size, 1, none⟩ = some (.int .i64 p.x) := by rw [cell_of_row _ _ _ _ _ _ hrow]; rfl
    have d2 : wr.cell? ⟨w.heap.size, 2, none⟩ = some (.int .i64 p.y) := by rw [cell_of_row _ _ _ _ _ _ hrow]; rfl
    have d3 : wr.cell? ⟨w.heap.size, 3, none⟩ = some (.int .i64 p.n) := by rw [cell_of_row _ _ _ _ _ _ hrow]; rfl
    have d4 : wr.cell? ⟨w.heap.size, 4, none⟩ = some nv := by rw [cell_of_row _ _ _ _ _ _ hrow]; rfl
    clear hno hbw hrow
    by_cases hlt : k < ts.length
    · go_wp2_with fail
      refine (l3Use_any _ ts B _ _ _ _ _ _ _ (HT.out.low HBR.out hB) (by have := HBR.out.size; omega) (by omega) (by omega)).mono ?_
      rintro e w2 ⟨rfl, hb2⟩
      have HB2 := Lib.hid (HBR.out.trans (hb2.mono HBR.out.size))
      have HR2 := Lib.hid (row_below HRW.out hb2)
      obtain ⟨A, c, e, _, _, hrd⟩ := HF.out.low HB2.out hB'
      injection e with e1 e9 e2
      subst e1 e2
      clear e9
      obtain ⟨b, off, rfl, hbl, hcell⟩ := hrd.bool_at (k := k) (by omega)
      have hck := hcell k (by omega)
      have hkb : k < bf.length := by omega
      obtain ⟨bk, hbk⟩ : ∃ bk, bk = bf.getD k false := ⟨_, rfl⟩
      rw [← hbk] at hck
      have HBK := Lib.hid hbk
      clear hb2 d0 d1 d2 d3 d4 hcell hbk hrd
      cases hu : (useP ts p.op p.x p.y (k : Nat) != 0)
      · have HU := Lib.hid hu
        go_wp2_with fail
        refine ⟨⟨k + 1, by omega, by go_num, fun v hv => ?_, HB2.out, HR2.out⟩, by simp [intOf] <;> omega⟩
        by_cases hvk : v = k
        · rw [hvk, HU.out]; rfl
        · exact HNO.out v (by omega)
      · have HU := Lib.hid hu
        cases bk
        · go_wp2_with fail
          go_ret
          exact ⟨ret_bool (unsB_true hlt (by rw [HU.out, ← HBK.out]; rfl)).symm, HB2.out⟩
        · go_wp2_with fail
          refine ⟨⟨k + 1, by omega, by go_num, fun v hv => ?_, HB2.out, HR2.out⟩, by simp [intOf] <;> omega⟩
          by_cases hvk : v = k
          · rw [hvk, HU.out, ← HBK.out]; rfl
          · exact HNO.out v (by omega)
    · have hke : k = ts.length := by omega
      go_wp2_with fail
      go_ret
      exact ⟨ret_bool (unsB_false (by rw [← hke]; exact HNO.out)).symm, HBR.out⟩

def GnRet (w : World) (ts gv : List Int) (e : Ending) (w' : World) : Prop :=
  ∃ v fl, e = .returned (.tuple #[v, .bool (givOk ts gv)]) ∧ (givOk ts gv = true → BoolS w' w'.heap.size v fl ∧ fl.length = ts.length ∧ ∀ u, u < ts.length → fl.getD u false = hasP gv (u : Nat)) ∧ Below w.heap.size w w'
theorem hasP_take {gv : List Int} {k : Nat} (hk : k < gv.length) (u : Int) : hasP (gv.take (k + 1)) u = (hasP (gv.take k) u || (u == gv[k])) := by rw [take_succ_get gv k hk, hasP_snoc]
theorem l14Given_any (vt vb va : Value) (ts gv : List Int) (B B' : Nat) (w : World) (ht : IntS w B vt ts) (ha : IntS w B' va gv) (hB : B ≤ w.heap.size) (hB' : B' ≤ w.heap.size) :
    Calls Try.prog 74 #[.agg #[vt, vb], va] w (GnRet w ts gv) := by
  obtain ⟨At, ct, rfl, hct, htl, -⟩ := ht
  obtain ⟨A, c, rfl, hc, hl, hr⟩ := ha
  have HA := Lib.hid (bel_a w (.cells #[.slice At ts.length ct, vb] 26))
  have HR := Lib.hid (heap_alloc_new w (.cells #[.slice At ts.length ct, vb] 26))
  have HRD := Lib.hid (hr.low HA.out hB')
  have hmk := make_bools ts.length (by omega)
  clear hr
  go_enter Try.func74, Try.ntmps74
  go_wp2_with fail
  have HRB : Hid (RowB ((w.alloc (.cells #[.slice At ts.length ct, vb] 26)).alloc (.cells (bv (List.replicate ts.length false)).toArray 4)) (w.heap.size + 1) 4 (bv (List.replicate ts.length false))) := Lib.hid (by
    have := RowB.new (w.alloc (.cells #[.slice At ts.length ct, vb] 26)) (bv (List.replicate ts.length false)) 4
    simpa using this)
  have HB := Lib.hid (bel_a (w.alloc (.cells #[.slice At ts.length ct, vb] 26)) (.cells (bv (List.replicate ts.length false)).toArray 4))
  have HZ : Hid ((List.replicate ts.length false).length = ts.length ∧ ∀ u, u < ts.length → (List.replicate ts.length false).getD u false = hasP (gv.take 0) (u : Nat)) := Lib.hid ⟨by simp, fun u hu => by rw [getD_lt (by simpa using hu)]; simp [hasP]⟩
  have hsA : (w.alloc (.cells #[.slice At ts.length ct, vb] 26)).heap.size = w.heap.size + 1 := by simp
  generalize List.replicate ts.length false = fl0 at *
  generalize hW : w.alloc (.cells #[.slice At ts.length ct, vb] 26) = W at *
  have HSA := Lib.hid hsA
  clear hW hmk hsA
  go_loopw [7] (fun i wr => ∃ (k : Nat) (fl : List Bool), k ≤ gv.length ∧ i = .int .i64 k ∧ RowB wr (w.heap.size + 1) 4 (bv fl) ∧ (fl.length = ts.length ∧ ∀ u, u < ts.length → fl.getD u false = hasP (gv.take k) (u : Nat)) ∧ givOk ts (gv.take k) = true ∧ Below W.heap.size W wr) (fun i _ => gv.length - (intOf i).toNat)
  case atStart => exact ⟨0, fl0, by omega, rfl, HRB.out, HZ.out, by simp [givOk], HB.out⟩
  case round =>
    obtain ⟨k, fl, hk, rfl, hrb, hfl, hok, hbw⟩ := hrel
    have HRW := Lib.hid hrb
    have HFL := Lib.hid hfl
    have HOK := Lib.hid hok
    have HBW := Lib.hid hbw
    have hrow := row_below HR.out hbw
    have d0 : wr.cell? ⟨w.heap.size, 0, none⟩ = some (.slice At ts.length ct) := by rw [cell_of_row _ _ _ _ _ _ hrow]; rfl
    clear hrb hfl hok hbw hrow
    by_cases hlt : k < gv.length
    · obtain ⟨b, off, rfl, hb, hcell⟩ := (HRD.out.low HBW.out (by rw [HSA.out]; omega)).int_at hlt
      have hck := hcell k hlt
      rw [getD_lt hlt] at hck
      have HTK := Lib.hid (take_succ_get gv k hlt)
      have HGT := Lib.hid (givOk_take (ts := ts) hlt)
      have HGN := Lib.hid (givOk_no (ts := ts) hlt)
      have HHT := Lib.hid (hasP_take hlt)
      clear hcell
      generalize gv[k] = x at *
      by_cases hx0 : x < 0
      · have HN : Hid (givOk ts gv = false) := Lib.hid (HGN.out (by unfold withinP; rw [decide_eq_false (by omega)]; rfl))
        go_wp2_with fail
        go_quiet (fail)
        go_wp2_with fail
        go_ret2
        exact ⟨_, [], by rw [HN.out]; rfl, (fun h => by rw [HN.out] at h; cases h), Below.drN (HA.out.trans (HBW.out.mono (by rw [HSA.out]; omega))) _⟩
      · have hx0' : decide (x < 0) = false := by simpa using hx0
        by_cases hx1 : (ts.length : Int) ≤ x
        · have HN : Hid (givOk ts gv = false) := Lib.hid (HGN.out (by unfold withinP; rw [decide_eq_false (p := x ≤ _) (by omega)]; simp))
          go_wp2_with fail
          go_quiet (fail)
          go_wp2_with fail
          go_ret2
          exact ⟨_, [], by rw [HN.out]; rfl, (fun h => by rw [HN.out] at h; cases h), Below.drN (HA.out.trans (HBW.out.mono (by rw [HSA.out]; omega))) _⟩
        · have hx1' : decide ((ts.length : Int) ≤ x) = false := by simpa using hx1
          obtain ⟨j, rfl⟩ := Int.eq_ofNat_of_zero_le (by omega : 0 ≤ x)
          have hjl : j < ts.length := by omega
          have hj0 : (0 : Int) ≤ (j : Int) := by omega
          have hj1 : (j : Int) < (ts.length : Int) := by omega
          have hcr : wr.cell? ⟨w.heap.size + 1, j, none⟩ = some (.bool (fl.getD j false)) := by rw [HRW.out.cell, bv_get (by rw [HFL.out.1]; exact hjl)]
          have hfr := HRW.out.frozen j
          have HX : Hid (withinP (j : Nat) 0 ((ts.length : Int) - 1) = true) := Lib.hid (by unfold withinP; simp; omega)
          have hj2 : decide (ts.length ≤ j) = false := by simp; omega
          have HFJ := Lib.hid (getD_lt (l := fl) (i := j) (d := false))
          go_wp2_with fail
          go_quiet (fail)
          go_wp2_with fail
          refine ⟨⟨k + 1, fl.set j true, by omega, by go_num, ?_, ⟨by rw [List.length_set]; exact HFL.out.1, fun u hu => ?_⟩, by rw [HGT.out, HOK.out, HX.out]; rfl, ?_⟩, by simp [intOf] <;> omega⟩
          · rw [← bv_set]; exact (HRW.out.low (below_of_drewN ⟨_, rfl⟩ (w.heap.size + 2)) (by omega)).set_ j _
          · rw [getD_setB (by rw [HFL.out.1]; exact hjl), HHT.out]
            by_cases huj : u = j
            · rw [if_pos huj, huj]; simp
            · rw [if_neg huj, HFL.out.2 u hu]
              have : (((u : Nat) : Int) == ((j : Nat) : Int)) = false := by simp; omega
              rw [this, Bool.or_false]
          · exact (Below.drN HBW.out _).setCell (p := ⟨w.heap.size + 1, j, none⟩) (by rw [HSA.out]; exact Nat.le_refl _) _
    · have hke : gv.take k = gv := List.take_of_length_le (by omega)
      have HKE := Lib.hid hke
      clear hke
      have HBO := Lib.hid (HRW.out.bools (c := ts.length) (by rw [HFL.out.1]; omega) (by rw [HFL.out.1]; omega))
      go_wp2_with fail
      go_ret2
      refine ⟨_, fl, by rw [← HKE.out, HOK.out]; rfl, fun _ => ⟨?_, HFL.out.1, by rw [← HKE.out]; exact HFL.out.2⟩, HA.out.trans (HBW.out.mono (by rw [HSA.out]; omega))⟩
      have := HBO.out
      rw [HFL.out.1] at this
      exact this

theorem sGivesOf_any (vt vb va : Value) (ts gv : List Int) (l : List St) (B : Nat) (w : World) (ht : IntS w B vt ts) (hl : StS w B vb l) (ha : IntS w B va gv) (hB : B ≤ w.heap.size) (hsz : szL l ≤ 4194300) :
    Calls Try.prog 43 #[.agg #[vt, vb], va] w (IntsRet w (givesRes ts l gv)) := by
  have HBX := Lib.hid (Boxed.new ht hl hB 26)
  have HVA := Lib.hid ha
  obtain ⟨At, ct, rfl, hct, -, -⟩ := ht
  obtain ⟨Ab, cb, rfl, hcb⟩ := hl.slice
  obtain ⟨Aa, ca, rfl, hca, -, -⟩ := ha
  clear hl
  go_enter Try.func43, Try.ntmps43
  go_wp2_with fail
  have HBY := HBX
  have d0 := HBY.out.c0
  have d1 := HBY.out.c1
  have hlt0 := HBY.out.lt
  generalize w.alloc (.cells #[.slice At ts.length ct, .slice Ab l.length cb] 26) = W at *
  refine (sProgramValid_any _ _ ts l B _ HBY.out.ht HBY.out.hl (by omega) (by omega)).mono ?_
  rintro e w1 ⟨rfl, hb1⟩
  have HB1 := Lib.hid (HBY.out.bels hb1 hB)
  have HA1 := Lib.hid (HVA.out.low HB1.out.bel hB)
  have hs1 := hb1.size
  have c0 := HB1.out.c0
  have c1 := HB1.out.c1

  clear hb1 d0 d1
  cases hv : validP ts l
  · have HRES : Hid (givesRes ts l gv = []) := Lib.hid (by unfold givesRes; rw [if_neg (by rw [hv]; simp)])
    clear hv
    go_wp2_with fail
    go_ret
    exact ⟨_, rfl, by rw [HRES.out]; exact IntS.nil' _ _ _ _, HB1.out.bel.trans ((bel_a _ _).mono HB1.out.bel.size)⟩
  · have HV := Lib.hid hv
    clear hv
    go_wp2_with fail
    refine (l14Given_any _ _ _ ts gv _ _ _ HB1.out.ht HA1.out (by omega) (by omega)).mono ?_
    rintro e w2 ⟨vf, fl, rfl, hfl, hb2⟩
    have HB2 := Lib.hid (HB1.out.bels hb2 hB)
    have hs2 := hb2.size

    have c0 := HB2.out.c0
    have c1 := HB2.out.c1
    clear hb2
    cases hgo : givOk ts gv
    · have HRES : Hid (givesRes ts l gv = []) := Lib.hid (by unfold givesRes; rw [if_neg (by rw [hgo]; simp)])
      clear hgo hfl
      go_wp2_with fail
      go_ret
      exact ⟨_, rfl, by rw [HRES.out]; exact IntS.nil' _ _ _ _, HB2.out.bel.trans ((bel_a _ _).mono HB2.out.bel.size)⟩
    · obtain ⟨hbf, hfll, hfg⟩ := hfl hgo
      have HBF := Lib.hid hbf
      have HFLL := Lib.hid hfll
      have HFG : Hid (∀ v, v < ts.length → (givM ts gv).testBit v = fl.getD v false) := Lib.hid fun v hv => by rw [hfg v hv, givM, bm_bit, decide_eq_true hv, Bool.true_and]
      have HRES := Lib.hid (show givesRes ts l gv = alwaysAt ts (ptsP l) (givM ts gv) ((ptsP l).length - 1) by unfold givesRes; rw [if_pos ⟨HV.out, hgo⟩])
      have G := Good.of_valid HV.out
      have h6 := G.h6
      have hpos := G.pos
      have hplen := G.len
      have HG := Lib.hid G
      clear hgo hfl hbf hfll hfg G
      go_wp2_with fail
      refine (l14Forward_any _ _ _ ts l fl (givM ts gv) w2.heap.size _ (HB2.out.ht.more (by omega)) (HB2.out.hl.more (by omega)) HBF.out (Nat.le_refl _) HV.out HFLL.out HFG.out).mono ?_
      rintro e w3 ⟨v, rb, rows, base, rfl, hbase, hbr, hrl, hrows, hac, hb3⟩
      have HB3 := Lib.hid (HB2.out.bels hb3 hB)
      have hs3 := hb3.size
      obtain ⟨k, hk⟩ : ∃ k, (ptsP l).length = k + 1 := ⟨(ptsP l).length - 1, by omega⟩
      have hrk : rows.length = k + 1 := by omega
      obtain ⟨g, c, rfl, hg1, hg2, hrc, hcell, -⟩ := hbr.form (by omega)
      have hck := hcell k (by omega)
      have hrow := (hbr.row k (by omega)).1
      have hlk := hrows k (by omega)
      have HBO : Hid (BoolS w3 w3.heap.size (.slice (some ⟨rb.getD k 0, 0, none⟩) ts.length ts.length) (rows.getD k [])) := Lib.hid (by
        have := hrow.bools (c := ts.length) (by omega) (by omega)
        rw [hlk] at this
        exact this)
      have HFIN : Hid (lst (rows.getD k []).length (fun i => (rows.getD k []).getD i false) = givesRes ts l gv) := Lib.hid (by
        rw [HRES.out, hlk, hk]
        unfold alwaysAt
        refine lst_congr fun u hu => ?_
        exact hac k u (by omega) hu)
      obtain ⟨rk, hrkb⟩ : ∃ rk, rk = rb.getD k 0 := ⟨_, rfl⟩
      rw [← hrkb] at hck HBO
      obtain ⟨nr, hnr⟩ : ∃ nr, nr = rows.length := ⟨_, rfl⟩
      rw [← hnr] at hrc ⊢
      have hnk : (k : Int) < (nr : Int) := by omega
      have hnk2 : k < nr := by omega
      have hnk3 : ((nr : Nat) : Int) - 1 = (k : Int) := by omega
      have hnk4 : IntKind.i64.wrap (k : Int) = (k : Int) := IntWalk.i64_in _ (by omega)
      clear hcell hrow hrows hac hbr hb3 hrl hlk hrkb hnr hrk
      go_wp2_with fail
      refine (l3Numbers_any _ _ _ _ HBO.out (Nat.le_refl _)).mono ?_
      rintro e w4 ⟨v4, rfl, hi4, hb4⟩
      go_wp2_with fail
      go_ret
      rw [HFIN.out] at hi4
      exact ⟨v4, rfl, hi4, HB3.out.bel.trans (hb4.mono HB3.out.bel.size)⟩

theorem sOpenIssues_any (vt vb va : Value) (ts gv : List Int) (l : List St) (B : Nat) (w : World) (ht : IntS w B vt ts) (hl : StS w B vb l) (ha : IntS w B va gv) (hB : B ≤ w.heap.size) (hsz : szL l ≤ 4194300) :
    Calls Try.prog 40 #[.agg #[vt, vb], va] w (IntsRet w (openRes ts l gv)) := by
  have HBX := Lib.hid (Boxed.new ht hl hB 26)
  have HVA := Lib.hid ha
  obtain ⟨At, ct, rfl, hct, -, -⟩ := ht
  obtain ⟨Ab, cb, rfl, hcb⟩ := hl.slice
  obtain ⟨Aa, ca, rfl, hca, -, -⟩ := ha
  clear hl
  go_enter Try.func40, Try.ntmps40
  go_wp2_with fail
  have HO0 := Lib.hid (OInts.empty (w.alloc (.cells #[.slice At ts.length ct, .slice Ab l.length cb] 26)) w.heap.size (by simp))
  have HBY := Lib.hid (HBX.out.bels (bel_a _ (.cells #[] 3)) hB)
  have hlt0 : w.heap.size + 1 < ((w.alloc (.cells #[.slice At ts.length ct, .slice Ab l.length cb] 26)).alloc (.cells #[] 3)).heap.size := by simp
  have d0 := HBY.out.c0
  have d1 := HBY.out.c1
  generalize ((w.alloc (.cells #[.slice At ts.length ct, .slice Ab l.length cb] 26)).alloc (.cells #[] 3)) = W at *
  rw [show (w.alloc (.cells #[.slice At ts.length ct, .slice Ab l.length cb] 26)).heap.size = w.heap.size + 1 by simp] at HO0
  refine (sProgramValid_any _ _ ts l B _ HBY.out.ht HBY.out.hl (by omega) (by omega)).mono ?_
  rintro e w1 ⟨rfl, hb1⟩
  have HB1 := Lib.hid (HBY.out.bels hb1 hB)
  have HA1 := Lib.hid (HVA.out.low HB1.out.bel hB)
  have hs1 := hb1.size
  have c0 := HB1.out.c0
  have c1 := HB1.out.c1
  have HO1 := Lib.hid (HO0.out.bel hb1)
  clear hb1 d0 d1
  cases hv : validP ts l
  · have HRES : Hid (openRes ts l gv = []) := Lib.hid (by unfold openRes; rw [if_neg (by rw [hv]; simp)])
    clear hv
    go_wp2_with fail
    go_ret
    exact ⟨_, rfl, by rw [HRES.out]; exact IntS.nil' _ _ _ _, HB1.out.bel⟩
  · have HV := Lib.hid hv
    clear hv
    go_wp2_with fail
    refine (l14Given_any _ _ _ ts gv _ _ _ HB1.out.ht HA1.out (by omega) (by omega)).mono ?_
    rintro e w2 ⟨vf, fl, rfl, hfl, hb2⟩
    have HB2 := Lib.hid (HB1.out.bels hb2 hB)
    have hs2 := hb2.size
    have HO2 := Lib.hid (HO1.out.bel hb2)
    have c0 := HB2.out.c0
    have c1 := HB2.out.c1
    clear hb2
    cases hgo : givOk ts gv
    · have HRES : Hid (openRes ts l gv = []) := Lib.hid (by unfold openRes; rw [if_neg (by rw [hgo]; simp)])
      clear hgo hfl
      go_wp2_with fail
      go_ret
      exact ⟨_, rfl, by rw [HRES.out]; exact IntS.nil' _ _ _ _, HB2.out.bel⟩
    · obtain ⟨hbf, hfll, hfg⟩ := hfl hgo
      have HBF := Lib.hid hbf
      have HFLL := Lib.hid hfll
      have HFG : Hid (∀ v, v < ts.length → (givM ts gv).testBit v = fl.getD v false) := Lib.hid fun v hv => by rw [hfg v hv, givM, bm_bit, decide_eq_true hv, Bool.true_and]
      have HRES := Lib.hid (show openRes ts l gv = opnL ts (ptsP l) (givM ts gv) by unfold openRes; rw [if_pos ⟨HV.out, hgo⟩])
      have G := Good.of_valid HV.out
      have h6 := G.h6
      have hpos := G.pos
      have hplen := G.len
      have HG := Lib.hid G
      clear hgo hfl hbf hfll hfg G
      go_wp2_with fail
      refine (l2Points_any _ _ l _ _ HB2.out.hl (by omega) hsz).mono ?_
      rintro e w3 ⟨vp, rfl, hps, hb3⟩
      have HB3 := Lib.hid (HB2.out.bels hb3 hB)
      have HO3 := Lib.hid (HO2.out.bel hb3)
      have HBF3 := Lib.hid ((HBF.out.low hb3 (Nat.le_refl _)).more hb3.size)
      have hs3 := hb3.size
      have HPS := Lib.hid hps
      obtain ⟨Ap, cp, rfl, hcp, hpl⟩ := hps.slice
      clear hps hb3 c0 c1
      have c0 := HB3.out.c0
      have c1 := HB3.out.c1
      go_wp2_with fail
      refine (l14Forward_any _ _ _ ts l fl (givM ts gv) w3.heap.size _ (HB3.out.ht.more (by omega)) (HB3.out.hl.more (by omega)) HBF3.out (Nat.le_refl _) HV.out HFLL.out HFG.out).mono ?_
      rintro e w4 ⟨v, rb, rows, base, rfl, hbase, hbr, hrl, hrows, hac, hb4⟩
      have HB4 := Lib.hid (HB3.out.bels hb4 hB)
      have HO4 := Lib.hid (HO3.out.bel hb4)
      have HPS4 := Lib.hid (HPS.out.low hb4 (Nat.le_refl _))
      have hs4 := hb4.size
      obtain ⟨pts, hpts⟩ : ∃ pts, pts = ptsP l := ⟨_, rfl⟩
      rw [← hpts] at HRES HPS4 hcp hpl hpos hplen HG hrl hac ⊢
      have HPTS := Lib.hid hpts
      obtain ⟨g, c, rfl, hg1, hg2, hrc, hcell, -⟩ := hbr.form (by omega)
      have HCELL := Lib.hid hcell
      have HBR := Lib.hid hbr
      have HROWS := Lib.hid hrows
      have HAC := Lib.hid hac
      have HRL := Lib.hid hrl
      have hrl1 : rows.length ≤ pts.length := by omega
      have hrl2 : pts.length ≤ rows.length := by omega
      have HOS := Lib.hid (OutI.start HO4.out (by omega))
      clear hcell hbr hrows hac hb4 hrl hpts c0 c1
      have c0 := HB4.out.c0
      go_wp2_with (at_builtin; fail)
      go_loopw [5, 10] (fun v i wr => ∃ (k : Nat) (o : List Int), k ≤ pts.length ∧ i = .int .i64 k ∧ o = lst k (fun i => dec (Opn ts pts (givM ts gv) i)) ∧ OutI w4 wr w.heap.size v o) (fun _ i _ => pts.length - (intOf i).toNat)
      case atStart => exact ⟨0, [], by omega, rfl, rfl, HOS.out⟩
      case round =>
        obtain ⟨k, o, hk, rfl, ho, hO⟩ := hrel
        have HO := Lib.hid hO
        have HOL := Lib.hid ho
        have hol : o.length ≤ k := by rw [ho]; exact lst_len _ _
        have hK := hO.kp
        have hsr := hK.2
        have HKP := Lib.hid hK
        have d0 := hK.1 _ _ _ c0
        obtain ⟨A', c', rfl, hc'⟩ := hO.lenc
        clear hO ho hK
        by_cases hlt : k < pts.length
        · obtain ⟨bp, op, cp', nv, e, hbp, hcp', hlp, hnx, p0, p1, p2, p3, p4⟩ := HPS4.out.get hlt
          injection e with e1 e9 e2
          subst e1 e2
          clear e9
          obtain ⟨An, cn, rfl, hcn, hln, -⟩ := hnx
          simp only [List.length_map] at hcn hln p4
          have q0 := HKP.out.1 _ _ _ p0
          have q1 := HKP.out.1 _ _ _ p1
          have q2 := HKP.out.1 _ _ _ p2
          have q3 := HKP.out.1 _ _ _ p3
          have q4 := HKP.out.1 _ _ _ p4
          have q5 := HKP.out.1 _ _ _ (HCELL.out k (by omega))
          have hlk := HROWS.out k (by omega)
          have HBO : Hid (BoolS w4 w4.heap.size (.slice (some ⟨rb.getD k 0, 0, none⟩) ts.length ts.length) (rows.getD k [])) := Lib.hid (by
            have := (HBR.out.row k (by omega)).1.bools (c := ts.length) (by omega) (by omega)
            rw [hlk] at this
            exact this)
          have HLK := Lib.hid hlk
          have HUN : Hid (unsB ts pts[k] (rows.getD k []) = dec (Opn ts pts (givM ts gv) k)) := Lib.hid (by
            rw [Bool.eq_iff_iff, dec_iff]
            unfold unsB
            rw [List.any_eq_true]
            constructor
            · rintro ⟨u, hu, hh⟩
              have hu' := List.mem_range.1 hu
              rw [Bool.and_eq_true] at hh
              have := HAC.out k u hlt hu'
              unfold rget at this
              rw [this, Bool.not_not] at hh
              exact ⟨_, List.getElem?_eq_getElem hlt, u, hu', by simpa using hh.1, dec_iff.1 hh.2⟩
            · rintro ⟨p, hp, u, hu, hus, ha⟩
              rw [List.getElem?_eq_getElem hlt] at hp
              injection hp with hp
              subst hp
              refine ⟨u, List.mem_range.2 hu, ?_⟩
              have := HAC.out k u hlt hu
              unfold rget at this
              rw [this, Bool.not_not, dec_true ha]
              simpa using hus)
          obtain ⟨rk, hrkb⟩ : ∃ rk, rk = rb.getD k 0 := ⟨_, rfl⟩
          rw [← hrkb] at q5 HBO
          have hbpr : bp < wr.heap.size := by omega
          have hgr : g < wr.heap.size := by omega
          have hwr : w.heap.size < wr.heap.size := by have := HB4.out.lt; omega
          have hkn : ((k : Nat) : Int) < (rows.length : Int) := by omega
          have hkn2 : k < rows.length := by omega
          have HSZ := Lib.hid (show w4.heap.size ≤ wr.heap.size from hsr)
          have HT9 := Lib.hid (HB4.out.ht.imp HKP.out)
          have HBO9 := Lib.hid (HBO.out.imp HKP.out)
          generalize pts[k] = P at *
          have HCU : Hid (∀ w', Below wr.heap.size wr w' → Calls Try.prog 72 #[.slice At ts.length ct, .agg #[.int .i64 P.op, .int .i64 P.x, .int .i64 P.y, .int .i64 P.n, .slice An P.next.length cn], .slice (some ⟨rk, 0, none⟩) ts.length ts.length] w' fun e w'' => e = .returned (.bool (unsB ts P (rows.getD k []))) ∧ Below wr.heap.size wr w'') :=
            Lib.hid fun w' h => (l3Unset_any _ _ _ ts (rows.getD k []) P B w4.heap.size _ (HT9.out.low h (by omega)) (HBO9.out.low h HSZ.out) (by have := h.size; omega) (by have := h.size; omega) HLK.out (by omega)).mono fun e w'' ⟨he, hb⟩ => ⟨he, h.trans (hb.mono h.size)⟩
          clear hlk hrkb hsr p0 p1 p2 p3 p4
          generalize unsB ts P (rows.getD k []) = ub at *
          go_wp2_with (at_builtin; fail)
          refine wp_region_seq (Below wr.heap.size wr) (by kernel_rfl) (by kernel_rfl) (Below.refl _ _).drew ?_
          repeat (first
            | (refine SeqS.skip (by rfl) ?_; (try simp only [Act.put, List.setIfInBounds_toArray, List.set_cons_zero, List.set_cons_succ]))
            | (refine SeqS.pure (v := ?_) (by rfl) (fun w' hSw => ?_) ?_; rotate_left; (obtain ⟨hc9, hf9⟩ := bcell hSw; go_simp; with_reducible rfl); (try simp only [Act.put, List.setIfInBounds_toArray, List.set_cons_zero, List.set_cons_succ]))
            | (refine SeqS.call (f := ?_) (args := ?_) (v := ?_) (by rfl) (fun w' => ?_) (fun w' hSw => ?_) ?_; rotate_left 3; (go_simp; constructor; (with_reducible rfl); (with_reducible rfl)); (first | exact HCU.out _ hSw | fail); (try simp only [Act.put, List.setIfInBounds_toArray, List.set_cons_zero, List.set_cons_succ]))
            | fail)
          intro w2 hb2
          have HB9 := Lib.hid hb2
          have hs9 := hb2.size
          clear hb2
          have HO9 := Lib.hid (HO.out.belc HB9.out)
          cases ub
          · go_wp2_with (at_builtin; fail)
            exact ⟨⟨k + 1, o, by omega, by go_num, by rw [HOL.out, lst_succ_false HUN.out.symm], HO9.out⟩, by simp [intOf] <;> omega⟩
          · go_wp2_with (at_builtin; go_must (refine wpList_push_outI rfl (.tmp 47) (.tmp 49) rfl HO9.out (by omega) _ rfl rfl ?_); intro v' w' hP')
            exact ⟨⟨k + 1, _, by omega, by go_num, by rw [HOL.out, lst_succ_true HUN.out.symm], hP'⟩, by simp [intOf] <;> omega⟩
        · have hke : k = pts.length := by omega
          go_wp2_with (at_builtin; fail)
          go_ret
          refine ⟨_, rfl, ?_, HB4.out.bel.trans HO.out.bel⟩
          rw [HRES.out]
          unfold opnL
          rw [← hke, ← HOL.out]
          exact HO.out.toS (by omega)

end Go.Proofs.Ytgmipapdcihdpaa

/- FnOpenIssues: the plain law, the walk. -/
namespace Go.Proofs.Ytgmipapdcihdpaa
open Go.RowKit

theorem ac_mono {ts : List Int} {pts : List Pt} {gv i v : Nat} (h : Ac true ts pts gv i v) : Ac true ts pts 0 i v := by
  induction h with
  | init hv _ => exact .init hv (by simp [accB])
  | gen hp hk hv h1 => exact .gen hp hk hv h1
  | keep hp hk _ h1 ih => exact .keep hp hk ih h1
theorem open_sub (ts : List Int) (l : List St) (gv : List Int) : ∀ x ∈ openRes ts l gv, hasP (openRes ts l []) x = true := by
  intro x hx
  rw [hasP_iff]
  unfold openRes at hx ⊢
  split at hx
  · rename_i h
    rw [if_pos ⟨h.1, by simp [givOk]⟩, givM_nil]
    obtain ⟨i, hi, hd, rfl⟩ := lst_mem.1 hx
    obtain ⟨p, hp, v, hv, hu, ha⟩ := dec_iff.1 hd
    exact lst_mem.2 ⟨i, hi, dec_true ⟨p, hp, v, hv, hu, ac_mono ha⟩, rfl⟩
  · cases hx

set_option maxHeartbeats 8000000
set_option maxRecDepth 100000
theorem fnOpenIssues_any (A : Option Addr) (n c : Nat) (w : World) (hb : Byt w w.heap.size A n) (hm : n ≤ maxLen) (hc : n ≤ c) :
    Calls Try.prog 11 #[.slice A n c] w (LawRet w) := by
  have HB := Lib.hid hb
  clear hb
  by_cases hn : n ≤ 1048576
  · go_enter Try.func11, Try.ntmps11
    go_wp2_with fail
    refine (drawOpenIssues_any A n c _ HB.out hn hc).mono ?_
    rintro e w1 ⟨vt, vb, va, ts, l, gv, rfl, hit, hst, hts, hsz, hgi, hgl, hb1⟩
    have hA1 := bel_a w1 (.cells #[vt, vb] 26)
    have HP := Lib.hid (PgB.new hit hst hb1)
    have HA := Lib.hid (hgi.toS.bel hA1)
    obtain ⟨At, ct, rfl, hct⟩ := hit.slice
    obtain ⟨Ab, cb, rfl, hcb⟩ := hst.slice
    obtain ⟨Aa, ca, rfl, hca⟩ := hgi.slice
    clear hit hst hb1 hgi hA1
    go_wp2_with fail
    generalize w1.alloc (.cells #[.slice At ts.length ct, .slice Ab l.length cb] 26) = W1 at *
    obtain ⟨g, hg⟩ : ∃ g, g = w1.heap.size := ⟨_, rfl⟩
    rw [← hg] at HP ⊢
    clear hg
    refine (iOpenIssues_any _ _ _ ts gv l _ _ HP.out.ht HP.out.hl HA.out (Nat.le_refl _) (by omega)).mono ?_
    rintro e w2 ⟨v2, rfl, hv2, hb2⟩
    have HP2 := Lib.hid (HP.out.bels hb2)
    have HA2 := Lib.hid (HA.out.bel hb2)
    have HV2 := Lib.hid hv2
    have c0 := HP2.out.c0
    have c1 := HP2.out.c1
    clear hv2 hb2
    go_wp2_with fail
    refine (sOpenIssues_any _ _ _ ts gv l _ _ HP2.out.ht HP2.out.hl HA2.out (Nat.le_refl _) (by omega)).mono ?_
    rintro e w3 ⟨v3, rfl, hv3, hb3⟩
    have HP3 := Lib.hid (HP2.out.bels hb3)
    have HA3 := Lib.hid (HA2.out.bel hb3)
    have HV23 := Lib.hid (HV2.out.bel hb3)
    have HV3 := Lib.hid hv3
    clear hv3 hb3 c0 c1
    go_wp2_with fail
    refine (bcInts_any _ _ _ _ _ _ HV23.out HV3.out).mono ?_
    rintro e w4 ⟨rfl, n4, rfl⟩
    rw [show eqP (openRes ts l gv) (openRes ts l gv) = true by simp [eqP]]
    have HP4 := Lib.hid (HP3.out.bels (below_of_drewN ⟨n4, rfl⟩ _))
    have HA4 := Lib.hid (HA3.out.bel (below_of_drewN ⟨n4, rfl⟩ _))
    have HV4 := Lib.hid (HV23.out.bel (below_of_drewN ⟨n4, rfl⟩ _))
    generalize w3.drewN n4 = w4 at *
    have c0 := HP4.out.c0
    have c1 := HP4.out.c1
    go_wp2_with fail
    refine (iOpenIssues_any _ _ _ ts [] l _ _ HP4.out.ht HP4.out.hl (IntS.nil' _ _ _ _) (Nat.le_refl _) (by omega)).mono ?_
    rintro e w5 ⟨v5, rfl, hv5, hb5⟩
    have HP5 := Lib.hid (HP4.out.bels hb5)
    have HV5 := Lib.hid (HV4.out.bel hb5)
    have HN5 := Lib.hid hv5
    obtain ⟨A5, c5, rfl, -, -, -⟩ := HV5.out
    have HSUB := Lib.hid (open_sub ts l gv)
    clear hv5 hb5 c0 c1
    have c0 := HP5.out.c0
    have c1 := HP5.out.c1
    go_wp2_with fail
    go_loop [7] (fun i => ∃ k : Nat, k ≤ (openRes ts l gv).length ∧ i = .int .i64 k) (fun i => (openRes ts l gv).length - (intOf i).toNat)
    case atStart => exact ⟨0, by omega, rfl⟩
    case round =>
      obtain ⟨k, hk, rfl⟩ := hrel
      by_cases hlt : k < (openRes ts l gv).length
      · obtain ⟨A, c, e, _, _, hrd⟩ := HV5.out
        injection e with e1 e9 e2
        subst e1 e2
        clear e9
        obtain ⟨b, off, rfl, hbl, hcell⟩ := hrd.int_at hlt
        have hck := hcell k hlt
        have hin := HSUB.out _ (List.getElem_mem hlt)
        rw [← getD_lt (d := 0) hlt] at hin
        have HIN := Lib.hid hin
        clear hcell hrd hin
        generalize (openRes ts l gv).getD k 0 = x at *
        go_wp2_with fail
        refine (bcIn_any _ _ _ _ _ HN5.out).mono ?_
        rintro e w6 ⟨rfl, rfl⟩
        rw [HIN.out]
        go_wp2_with fail
        exact ⟨⟨k + 1, by omega, by go_num⟩, by simp [intOf] <;> omega⟩
      · go_wp2_with fail
        refine (iUnsetUses_any _ _ ts l _ _ HP5.out.ht HP5.out.hl (Nat.le_refl _) (by omega)).mono ?_
        rintro e w6 ⟨v6, rfl, hv6, hb6⟩
        have HN6 := Lib.hid (HN5.out.bel hb6)
        have HU6 := Lib.hid hv6
        have HB6 := Lib.hid (HP5.out.bel.trans (hb6.mono HP5.out.bel.size))
        clear hv6 hb6
        go_wp2_with fail
        refine (bcInts_any _ _ _ _ _ _ HN6.out HU6.out).mono ?_
        rintro e w7 ⟨rfl, n7, rfl⟩
        rw [show eqP (openRes ts l []) (unsetRes ts l) = true by rw [openRes_nil]; simp [eqP]]
        go_wp2_with fail
        go_ret
        exact ⟨rfl, Below.drN HB6.out _⟩
  · have hn1 : (1048576 : Int) < n := by omega
    unfold maxLen at hm
    go_enter Try.func11, Try.ntmps11
    go_wp2_with fail
    go_ret
    exact ⟨rfl, Below.refl _ _⟩

end Go.Proofs.Ytgmipapdcihdpaa

/- A region that draws its order, walked in the order of the text, where some operations yield a value of which only a property is known. No program in sight. -/
namespace Go.Proofs.Ytgmipapdcihdpaa
open Go Go.RowKit

section
variable {P : Program} {ops : Array Oper} {Q : Exit → Act → World → Prop} {md : Region.Mode} {S : World → Prop} {V : Nat → Option (Value → Prop)}

def PureS (P : Program) (S : World → Prop) (o : Oper) (c : Value) (a : Act) : Prop := ∀ w, S w → (execOp a.eval o).run P w = .ok (.value c) w
def RelS (P : Program) (S : World → Prop) (o : Oper) (p : Value → Prop) (a : Act) : Prop :=
  (∀ w, S w → ∃ v w', (execOp a.eval o).run P w = .ok (.value v) w' ∧ p v ∧ S w') ∨
  (∃ f args, ∀ w, S w → (execOp a.eval o).run P w = .ok (.enter f args) w ∧ Calls P f args w fun e w' => ∃ v, e = .returned v ∧ p v ∧ S w')
/-- what operation o (number i) may do, and what is to hold of each outcome -/
def StepV (P : Program) (ops : Array Oper) (S : World → Prop) (V : Nat → Option (Value → Prop)) (i : Nat) (o : Oper) (a : Act) (K : Act → Prop) : Prop :=
  (Region.wanted o (yielded ops a.tmps) = false ∧ K (a.put o.dst undef)) ∨
  (Region.wanted o (yielded ops a.tmps) = true ∧ ((V i = none ∧ ∃ c, PureS P S o c a ∧ K (a.put o.dst c)) ∨ ∃ p, V i = some p ∧ RelS P S o p a ∧ ∀ v, p v → K (a.put o.dst v)))

theorem StepV.mono {i : Nat} {o : Oper} {a : Act} {K K' : Act → Prop} (h : StepV P ops S V i o a K) (hk : ∀ a, K a → K' a) : StepV P ops S V i o a K' := by
  rcases h with ⟨hw, h⟩ | ⟨hw, ⟨hv, c, hc, h⟩ | ⟨p, hv, hr, h⟩⟩
  · exact .inl ⟨hw, hk _ h⟩
  · exact .inr ⟨hw, .inl ⟨hv, c, hc, hk _ h⟩⟩
  · exact .inr ⟨hw, .inr ⟨p, hv, hr, fun v hp => hk _ (h v hp)⟩⟩
theorem StepV.mono' {i : Nat} {o : Oper} {a : Act} {K K' : Act → Prop} (h : StepV P ops S V i o a K) (hk : ∀ v, K (a.put o.dst v) → K' (a.put o.dst v)) : StepV P ops S V i o a K' := by
  rcases h with ⟨hw, h⟩ | ⟨hw, ⟨hv, c, hc, h⟩ | ⟨p, hv, hr, h⟩⟩
  · exact .inl ⟨hw, hk _ h⟩
  · exact .inr ⟨hw, .inl ⟨hv, c, hc, hk _ h⟩⟩
  · exact .inr ⟨hw, .inr ⟨p, hv, hr, fun v hp => hk _ (h v hp)⟩⟩
theorem StepV.wpOp {i : Nat} {o : Oper} {a : Act} {K : Act → Prop} (hi : ops[i]? = some o) (h : StepV P ops S V i o a K) {K' : Act → World → Prop} {w : World} (hS : S w) (hk : ∀ a w, K a → S w → K' a w) : wpOp P ops Q i K' a w := by
  unfold Go.wpOp
  simp only [hi]
  rcases h with ⟨hw, h⟩ | ⟨hw, ⟨hv, c, hc, h⟩ | ⟨p, hv, hr, h⟩⟩
  · simp only [hw, Bool.false_eq_true, if_false]; exact hk _ _ h hS
  · simp only [hw, if_true, Oper.wp, hc w hS, Oper.upon]; exact .inl (hk _ _ h hS)
  · simp only [hw, if_true]
    refine .inl ?_
    unfold Oper.wp
    rcases hr with hr | ⟨f, args, hr⟩
    · obtain ⟨v, w', hrun, hp, hS'⟩ := hr w hS
      rw [hrun]; exact hk _ _ (h v hp) hS'
    · obtain ⟨hrun, hc⟩ := hr w hS
      rw [hrun]
      refine Calls.mono hc fun e w' he => ?_
      obtain ⟨v, rfl, hp, hS'⟩ := he
      exact hk _ _ (h v hp) hS'
/-- some outcome there is -/
theorem StepV.some_ {i : Nat} {o : Oper} {a : Act} {K : Act → Prop} (h : StepV P ops S V i o a K) (hne : ∃ w, S w) : ∃ v, K (a.put o.dst v) := by
  obtain ⟨w, hS⟩ := hne
  rcases h with ⟨_, h⟩ | ⟨_, ⟨_, c, _, h⟩ | ⟨p, _, hr, h⟩⟩
  · exact ⟨_, h⟩
  · exact ⟨_, h⟩
  · rcases hr with hr | ⟨f, args, hr⟩
    · obtain ⟨v, _, _, hp, _⟩ := hr w hS; exact ⟨v, h v hp⟩
    · obtain ⟨_, hc⟩ := hr w hS
      obtain ⟨e, w', fr, ⟨v, _, hp, _⟩, _⟩ := hc []
      exact ⟨v, h v hp⟩
/-- the step of i at a, where K is to hold behind it, is the step at a state that differs only in what it does not look at -/
theorem StepV.shift {i : Nat} {o : Oper} {a a' : Act} {K K' : Act → Prop} (h : StepV P ops S V i o a K) (he : execOp a'.eval o = execOp a.eval o) (hw : Region.wanted o (yielded ops a'.tmps) = Region.wanted o (yielded ops a.tmps))
    (hk : ∀ v, K (a.put o.dst v) → K' (a'.put o.dst v)) : StepV P ops S V i o a' K' := by
  unfold StepV PureS RelS at *
  rw [he, hw]
  rcases h with ⟨hw, h⟩ | ⟨hw, ⟨hv, c, hc, h⟩ | ⟨p, hv, hr, h⟩⟩
  · exact .inl ⟨hw, hk _ h⟩
  · exact .inr ⟨hw, .inl ⟨hv, c, hc, hk _ h⟩⟩
  · exact .inr ⟨hw, .inr ⟨p, hv, hr, fun v hp => hk _ (h v hp)⟩⟩
/-- one step for many states behind another's -/
theorem StepV.all {i : Nat} {o : Oper} {a : Act} {X : Value → Prop} {K : Value → Act → Prop} (hne : ∃ w, S w) (h : ∀ v, X v → StepV P ops S V i o a (K v)) (hx : ∃ v, X v) : StepV P ops S V i o a fun a' => ∀ v, X v → K v a' := by
  obtain ⟨v0, hv0⟩ := hx
  obtain ⟨w, hS⟩ := hne
  rcases h v0 hv0 with ⟨hw, _⟩ | ⟨hw, ⟨hv, c, hc, _⟩ | ⟨p, hv, hr, _⟩⟩
  · refine .inl ⟨hw, fun v hx => ?_⟩
    rcases h v hx with ⟨_, h'⟩ | ⟨hw', _⟩
    · exact h'
    · rw [hw] at hw'; cases hw'
  · refine .inr ⟨hw, .inl ⟨hv, c, hc, fun v hx => ?_⟩⟩
    rcases h v hx with ⟨hw', _⟩ | ⟨_, ⟨_, c', hc', h'⟩ | ⟨p, hv', _⟩⟩
    · rw [hw] at hw'; cases hw'
    · have e := (hc w hS).symm.trans (hc' w hS)
      injection e with e
      injection e with e
      rw [e]; exact h'
    · rw [hv] at hv'; cases hv'
  · refine .inr ⟨hw, .inr ⟨p, hv, hr, fun u hp v hx => ?_⟩⟩
    rcases h v hx with ⟨hw', _⟩ | ⟨_, ⟨hv', _⟩ | ⟨p', hv', _, h'⟩⟩
    · rw [hw] at hw'; cases hw'
    · rw [hv] at hv'; cases hv'
    · rw [hv] at hv'; injection hv' with hv'; subst hv'; exact h' u hp

/-- in whatever order -/
def DetV (P : Program) (md : Region.Mode) (ops : Array Oper) (Q : Exit → Act → World → Prop) (S : World → Prop) (V : Nat → Option (Value → Prop)) : Nat → Array Bool → Act → Prop
  | 0, listed, a => Region.ready md ops listed = [] ∧ ∀ w, S w → Q .normal a w
  | fuel + 1, listed, a => (Region.ready md ops listed = [] → ∀ w, S w → Q .normal a w) ∧
    ∀ i ∈ Region.ready md ops listed, ∃ o, ops[i]? = some o ∧ StepV P ops S V i o a (DetV P md ops Q S V fuel (listed.setIfInBounds i true))
theorem wpAny_of_detV : ∀ (fuel : Nat) (listed : Array Bool) (a : Act), DetV P md ops Q S V fuel listed a → ∀ w, S w → wpAny P md ops Q fuel listed a w
  | 0, _, _, h, w, hS => ⟨h.1, h.2 w hS⟩
  | fuel + 1, listed, a, h, w, hS => ⟨fun h0 => h.1 h0 w hS, fun i hi => by
      obtain ⟨o, ho, hst⟩ := h.2 i hi
      exact hst.wpOp ho hS fun a' w' hd hS' => wpAny_of_detV fuel _ _ hd w' hS'⟩

theorem DetV.first {i : Nat} {oi : Oper} (hne : ∃ w, S w) (hi : ops[i]? = some oi) (hsel : ∀ (j : Nat) (o : Oper) cs b, ops[j]? = some o → o.op ≠ .select cs b) :
    ∀ (fuel : Nat) (listed : Array Bool) (a : Act),
      (∀ j oj, ops[j]? = some oj → j ≠ i → listed.getD j true = false → (∀ e ∈ oj.after, Region.binds md e = true → e.on ≠ i) → oi.apart ops oj = true) →
      i ∈ Region.ready md ops listed → StepV P ops S V i oi a (DetV P md ops Q S V fuel (listed.setIfInBounds i true)) → DetV P md ops Q S V (fuel + 1) listed a := by
  intro fuel
  induction fuel with
  | zero =>
    intro listed a _ hr hy
    refine ⟨fun h => (by rw [h] at hr; cases hr), fun j hj => ?_⟩
    by_cases hji : j = i
    · subst hji; exact ⟨oi, hi, hy⟩
    · have := ready_mono hj hji
      obtain ⟨v, hv⟩ := hy.some_ hne
      rw [hv.1] at this
      cases this
  | succ fuel ih =>
    intro listed a hfree hr hy
    refine ⟨fun h => (by rw [h] at hr; cases hr), fun j hj => ?_⟩
    by_cases hji : j = i
    · subst hji; exact ⟨oi, hi, hy⟩
    · obtain ⟨hjun, oj, hoj, hall⟩ := mem_ready.1 hj
      have hnot : ∀ e ∈ oj.after, Region.binds md e = true → e.on ≠ i := fun e he hb heq => by
        have h1 := hall e he hb
        have h0 := (mem_ready.1 hr).1
        rw [heq] at h1
        rcases Nat.lt_or_ge i listed.size with h' | h'
        · simp [h'] at h0 h1; rw [h0] at h1; cases h1
        · simp [Array.getElem?_eq_none h'] at h1
      obtain ⟨h1, h2, h3⟩ := Oper.apart_spec (hfree j oj hoj hji hjun hnot)
      have hfree' : ∀ k ok, ops[k]? = some ok → k ≠ i → (listed.setIfInBounds j true).getD k true = false →
          (∀ e ∈ ok.after, Region.binds md e = true → e.on ≠ i) → oi.apart ops ok = true := fun k ok hk hki hun hno => by
        refine hfree k ok hk hki ?_ hno
        by_cases hjk : j = k
        · subst hjk; exact hjun
        · rw [getD_set_ne true hjk] at hun; exact hun
      -- the step of j, behind each outcome of i
      let X : Value → Prop := fun v => DetV P md ops Q S V (fuel + 1) (listed.setIfInBounds i true) (a.put oi.dst v)
      have hj' : ∀ v, X v → StepV P ops S V j oj a fun a' => DetV P md ops Q S V fuel ((listed.setIfInBounds i true).setIfInBounds j true) (a'.put oi.dst v) := fun v hv => by
        obtain ⟨oj', hoj', hst⟩ := hv.2 j (ready_mono hj hji)
        rw [hoj] at hoj'
        injection hoj' with e
        subst e
        refine hst.shift (execOp_put oj (fun cs b => hsel j oj cs b hoj) a oi.dst v h1).symm (wanted_put oj a oi.dst v h1).symm fun u hu => ?_
        rw [← Act.put_comm a v u h2]; exact hu
      refine ⟨oj, hoj, (StepV.all hne hj' (hy.some_ hne)).mono' fun u hu => ?_⟩
      refine ih (listed.setIfInBounds j true) (a.put oj.dst u) hfree' (ready_mono hr (Ne.symm hji)) ?_
      refine hy.shift (execOp_put oi (fun cs b => hsel i oi cs b hi) a oj.dst u h3) (wanted_put oi a oj.dst u h3) fun v hv => ?_
      have := hu v hv
      rw [Array.setIfInBounds_comm _ _ hji]
      exact this

/-- in the order of the text, from operation i on -/
def SeqV (P : Program) (ops : Array Oper) (Q : Exit → Act → World → Prop) (S : World → Prop) (V : Nat → Option (Value → Prop)) : Nat → List Oper → Act → Prop
  | _, [], a => ∀ w, S w → Q .normal a w
  | i, o :: rest, a => StepV P ops S V i o a (SeqV P ops Q S V (i + 1) rest)
theorem DetV.of_seq (hne : ∃ w, S w) (hok : seqOk md ops = true) : ∀ (fuel i : Nat) (a : Act), fuel + i = ops.size → SeqV P ops Q S V i (ops.toList.drop i) a → DetV P md ops Q S V fuel (doneTo ops.size i) a := by
  have hok' := hok
  simp only [seqOk, Bool.and_eq_true, List.all_eq_true, List.mem_range] at hok'
  obtain ⟨hs, hat⟩ := hok'
  intro fuel
  induction fuel with
  | zero =>
    intro i a hi h
    have : i = ops.size := by omega
    subst this
    rw [List.drop_of_length_le (by simp)] at h
    exact ⟨ready_done rfl, h⟩
  | succ fuel ih =>
    intro i a hi h
    have hlt : i < ops.size := by omega
    have hd : ops.toList.drop i = ops[i] :: ops.toList.drop (i + 1) := by
      rw [List.drop_eq_getElem_cons (by simpa using hlt)]; simp
    rw [hd] at h
    have hget : ops[i]? = some ops[i] := Array.getElem?_eq_getElem hlt
    have hA := hat i hlt
    simp only [seqAt, hget, Bool.and_eq_true, List.all_eq_true, List.mem_range, Array.all_eq_true_iff_forall_mem] at hA
    refine DetV.first hne hget (Region.noSelect_spec hs) fuel (doneTo ops.size i) a ?_ ?_ (StepV.mono h fun a' h' => ?_)
    · intro j oj hj hne hun hno
      have hjl : j < ops.size := (Array.getElem?_eq_some_iff.1 hj).1
      rw [doneTo_get, if_pos hjl] at hun
      have hji : i < j := by simp at hun; omega
      have h2 := hA.2 j hjl
      simp only [hj, Bool.or_eq_true, decide_eq_true_eq] at h2
      rcases h2 with h2 | h2 | h2
      · omega
      · obtain ⟨e, he, hb⟩ := Array.any_eq_true'.1 h2
        simp only [Bool.and_eq_true, beq_iff_eq] at hb
        exact absurd hb.2 (hno e he hb.1)
      · exact h2
    · rw [mem_ready]
      refine ⟨by rw [doneTo_get, if_pos hlt]; simp, ops[i], hget, fun e he hb => ?_⟩
      have h1 := hA.1 e he
      simp only [hb, Bool.not_true, Bool.false_or, decide_eq_true_eq] at h1
      rw [doneTo_get, if_pos (by omega)]; simpa using h1
    · rw [doneTo_succ]; exact ih (i + 1) a' (by omega) h'
/-- the law -/
theorem wp_region_seqV {id : Nat} {l : List Oper} {a : Act} {w : World} (S : World → Prop) (V : Nat → Option (Value → Prop)) (hm : P.follows .mixedOrders = true) (hok : seqOk .any l.toArray = true) (hS : S w.drew)
    (h : SeqV P l.toArray Q S V 0 l a) : (Code.region id l.toArray true).wp P Q a w := by
  refine wp_region_any hm ?_
  rw [doneTo_zero]
  exact wpAny_of_detV _ _ _ (DetV.of_seq ⟨_, hS⟩ hok l.toArray.size 0 a (by omega) (by simpa using h)) w.drew hS
theorem SeqV.skip {i : Nat} {o : Oper} {rest : List Oper} {a : Act} (hw : Region.wanted o (yielded ops a.tmps) = false) (h : SeqV P ops Q S V (i + 1) rest (a.put o.dst undef)) : SeqV P ops Q S V i (o :: rest) a := .inl ⟨hw, h⟩
theorem SeqV.pure {i : Nat} {o : Oper} {rest : List Oper} {a : Act} {v : Value} (hw : Region.wanted o (yielded ops a.tmps) = true) (hV : V i = none) (hv : ∀ w, S w → (execOp a.eval o).run P w = .ok (.value v) w) (h : SeqV P ops Q S V (i + 1) rest (a.put o.dst v)) : SeqV P ops Q S V i (o :: rest) a :=
  .inr ⟨hw, .inl ⟨hV, v, hv, h⟩⟩
theorem SeqV.call {i : Nat} {o : Oper} {rest : List Oper} {a : Act} {f : FuncId} {args : Array Value} (p : Value → Prop) (hw : Region.wanted o (yielded ops a.tmps) = true) (hV : V i = some p) (he : ∀ w, (execOp a.eval o).run P w = .ok (.enter f args) w) (hc : ∀ w, S w → Calls P f args w fun e w' => ∃ v, e = .returned v ∧ p v ∧ S w') (h : ∀ v, p v → SeqV P ops Q S V (i + 1) rest (a.put o.dst v)) : SeqV P ops Q S V i (o :: rest) a :=
  .inr ⟨hw, .inr ⟨p, hV, .inr ⟨f, args, fun w hS => ⟨he w, hc w hS⟩⟩, h⟩⟩

end
end Go.Proofs.Ytgmipapdcihdpaa
