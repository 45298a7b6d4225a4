import Derived.Test.YtfioaohadanjmaaGreatU26
import Derived.Test.YtfioaohadanjmaaGreatU27
import Derived.Test.YtfioaohadanjmaaGreatU28
set_option linter.unusedVariables false

/- spec.l7Run. -/
namespace Go.Proofs.YtfioaohadanjmaaGreat
open Go.RowKit Go.Lib

theorem cell_nes {w : World} {b g : Nat} (h : g ≠ b) (i : Nat) (vs : List Value) (k : Nat) : (w.setCells b i vs).cell? ⟨g, k, none⟩ = w.cell? ⟨g, k, none⟩ := by
  simp only [World.cell?, heap_putL h vs i w]
/-- what a run answers: a state, the end, the last point -/
def SrRet (w : World) (ts : List Int) (r : Ms × Int × Nat) (e : Ending) (w' : World) : Prop :=
  ∃ vs vc vl, e = .returned (.tuple #[.agg #[vs, vc, vl], .int .i64 r.2.1, .int .i64 (r.2.2 : Nat)]) ∧ SpS w' w.heap.size vs vc vl r.1 ∧ MsOk ts r.1 ∧ Below w.heap.size w w'
/-- the machine at the start, in a box -/
theorem run_start (w : World) (ts : List Int) (base : Nat) (hb : base ≤ w.heap.size) (h6 : ts.length ≤ 6) :
    RowB ((((w.alloc (.cells (slCells (List.replicate ts.length slD)).toArray 79)).alloc (.cells #[] 84)).alloc (.cells #[] 3)).alloc (.cells #[.slice (some ⟨w.heap.size, 0, none⟩) ts.length ts.length, .slice (some ⟨w.heap.size + 1, 0, none⟩) 0 0, .slice (some ⟨w.heap.size + 1 + 1, 0, none⟩) 0 0] 57)) (w.heap.size + 1 + 1 + 1) 57 [.slice (some ⟨w.heap.size, 0, none⟩) ts.length ts.length, .slice (some ⟨w.heap.size + 1, 0, none⟩) 0 0, .slice (some ⟨w.heap.size + 1 + 1, 0, none⟩) 0 0] ∧
    SpS ((((w.alloc (.cells (slCells (List.replicate ts.length slD)).toArray 79)).alloc (.cells #[] 84)).alloc (.cells #[] 3)).alloc (.cells #[.slice (some ⟨w.heap.size, 0, none⟩) ts.length ts.length, .slice (some ⟨w.heap.size + 1, 0, none⟩) 0 0, .slice (some ⟨w.heap.size + 1 + 1, 0, none⟩) 0 0] 57)) base (.slice (some ⟨w.heap.size, 0, none⟩) ts.length ts.length) (.slice (some ⟨w.heap.size + 1, 0, none⟩) 0 0) (.slice (some ⟨w.heap.size + 1 + 1, 0, none⟩) 0 0) (ms0 ts) ∧
    Below w.heap.size w ((((w.alloc (.cells (slCells (List.replicate ts.length slD)).toArray 79)).alloc (.cells #[] 84)).alloc (.cells #[] 3)).alloc (.cells #[.slice (some ⟨w.heap.size, 0, none⟩) ts.length ts.length, .slice (some ⟨w.heap.size + 1, 0, none⟩) 0 0, .slice (some ⟨w.heap.size + 1 + 1, 0, none⟩) 0 0] 57)) := by
  have hz1 : (w.alloc (.cells (slCells (List.replicate ts.length slD)).toArray 79)).heap.size = w.heap.size + 1 := by simp
  have a1 : OSl (w.alloc (.cells (slCells (List.replicate ts.length slD)).toArray 79)) base (.slice (some ⟨w.heap.size, 0, none⟩) ts.length ts.length) (List.replicate ts.length slD) := by
    have hsz : (slCells (List.replicate ts.length slD)).toArray.size = ts.length * 4 := by rw [List.size_toArray, slCells_len, List.length_replicate]
    have := World.ownsRow_lit (base := base) (e := 79) (size := 4) w (slCells (List.replicate ts.length slD)).toArray ts.length hb (by simp only [maxLen]; omega) hsz
    unfold OSl
    rw [List.length_replicate]
    simpa using this
  have b1 : Below w.heap.size w (w.alloc (.cells (slCells (List.replicate ts.length slD)).toArray 79)) := bel_a w _
  generalize w.alloc (.cells (slCells (List.replicate ts.length slD)).toArray 79) = w1 at *
  have hz2 : (w1.alloc (.cells #[] 84)).heap.size = w.heap.size + 1 + 1 := by simp [hz1]
  have a2 := MeS.empty w1 base (by omega)
  rw [hz1] at a2
  have b2 := b1.alloc b1.size (.cells #[] 84)
  have a1 := a1.bel (bel_a w1 (.cells #[] 84))
  generalize w1.alloc (.cells #[] 84) = w2 at *
  have hz3 : (w2.alloc (.cells #[] 3)).heap.size = w.heap.size + 1 + 1 + 1 := by simp [hz2]
  have a3 := OInts.empty w2 base (by omega)
  rw [hz2] at a3
  have b3 := b2.alloc b2.size (.cells #[] 3)
  have a1 := a1.bel (bel_a w2 (.cells #[] 3))
  have a2 := a2.bel (bel_a w2 (.cells #[] 3))
  generalize w2.alloc (.cells #[] 3) = w3 at *
  have r := RowB.new w3 [.slice (some ⟨w.heap.size, 0, none⟩) ts.length ts.length, .slice (some ⟨w.heap.size + 1, 0, none⟩) 0 0, .slice (some ⟨w.heap.size + 1 + 1, 0, none⟩) 0 0] 57
  rw [hz3] at r
  exact ⟨r, ⟨a1.bel (bel_a w3 _), a2.bel (bel_a w3 _), a3.bel (bel_a w3 _)⟩, b3.alloc b3.size _⟩
set_option maxHeartbeats 32000000 in
set_option maxRecDepth 100000 in
theorem l7Run_any (vt vb vc : Value) (ts : List Int) (l : List St) (cs : List Int) (m B : Nat) (w : World) (ht : IntS w B vt ts) (hl : StS w B vb l) (hc : IntS w B vc cs) (hB : B ≤ w.heap.size) (hv : validP ts l = true) (hm : m ≤ 150) :
    Calls Tryz.prog 38 #[.agg #[vt, vb], vc, .int .i64 (m : Nat)] w (SrRet w ts (runX ts l cs m)) := by
  have hsz : szL l ≤ 4194300 := by have := (valid_parts hv).2.2; omega
  have GD := Lib.hid (Good.of_valid hv)
  have h6 := GD.out.h6
  have HV := Lib.hid hv
  have HT := Lib.hid ht
  have HL := Lib.hid hl
  have HCS := Lib.hid hc
  obtain ⟨At, ct, rfl, hct, -, -⟩ := ht
  obtain ⟨Ab, cb, rfl, hcb⟩ := hl.slice
  obtain ⟨Ac, cc, rfl, hcc, -, -⟩ := hc
  obtain ⟨k1, k2, k3⟩ := two_boxes w [.slice At ts.length ct, .slice Ab l.length cb] [.slice none 0 0, .slice none 0 0, .slice none 0 0] 31 57
  have HPG := Lib.hid k1
  have HR := Lib.hid k2
  have HB0 := Lib.hid k3
  clear hl k1 k2 k3 hv
  go_enter Tryz.func38, Tryz.ntmps38
  go_upto_region 1 with (at_builtin; fail)
  generalize (w.alloc (.cells #[.slice At ts.length ct, .slice Ab l.length cb] 31)).alloc (.cells #[.slice none 0 0, .slice none 0 0, .slice none 0 0] 57) = W at *
  obtain ⟨bx, hbx⟩ : ∃ bx, bx = w.heap.size := ⟨_, rfl⟩
  rw [← hbx] at HPG HR ⊢
  have hbr : w.heap.size ≤ bx + 1 := by omega
  have HBX := Lib.hid hbx
  clear hbx
  have g0 := HPG.out.cell 0
  have g1 := HPG.out.cell 1
  simp only [List.getElem?_cons_zero, List.getElem?_cons_succ] at g0 g1
  go_wp2_with (at_builtin; fail)
  refine (l2Points_any _ _ l B W (HL.out.low HB0.out hB) (Nat.le_trans hB HB0.out.size) hsz).mono ?_
  rintro e w2 ⟨vp, rfl, hps, hb2⟩
  have HB2 := Lib.hid (HB0.out.trans (hb2.mono HB0.out.size))
  have HPG2 := Lib.hid (HPG.out.low hb2 HPG.out.lt)
  have HR2 := Lib.hid (HR.out.low hb2 HR.out.lt)
  have HPS := Lib.hid hps
  obtain ⟨Ap, cp, rfl, hcp, -⟩ := hps.slice
  clear hps hb2 g0 g1 HPG HR
  have g0 := HPG2.out.cell 0
  have g1 := HPG2.out.cell 1
  simp only [List.getElem?_cons_zero, List.getElem?_cons_succ] at g0 g1
  have hmk := make_sl ts.length h6
  have HST := Lib.hid (run_start w2 ts w.heap.size HB2.out.size h6)
  go_upto_region 3 with (at_builtin; fail)
  generalize (((w2.alloc (.cells (slCells (List.replicate ts.length slD)).toArray 79)).alloc (.cells #[] 84)).alloc (.cells #[] 3)).alloc (.cells #[.slice (some ⟨w2.heap.size, 0, none⟩) ts.length ts.length, .slice (some ⟨w2.heap.size + 1, 0, none⟩) 0 0, .slice (some ⟨w2.heap.size + 1 + 1, 0, none⟩) 0 0] 57) = w3 at *
  obtain ⟨bs, hbs⟩ : ∃ bs, bs = w2.heap.size + 1 + 1 + 1 := ⟨_, rfl⟩
  rw [← hbs] at HST ⊢
  have hbs2 : w2.heap.size ≤ bs := by omega
  have hxr : bx + 1 < w2.heap.size := HR2.out.lt
  have HC3 := Lib.hid HST.out.1
  have HS3 := Lib.hid HST.out.2.1
  have HB3 := Lib.hid (HB2.out.trans (HST.out.2.2.mono HB2.out.size))
  have HW3 := Lib.hid HST.out.2.2
  clear hbs HST hmk g0 g1
  have g0 := (HPG2.out.low HW3.out HPG2.out.lt).cell 0
  have g1 := (HPG2.out.low HW3.out HPG2.out.lt).cell 1
  simp only [List.getElem?_cons_zero, List.getElem?_cons_succ] at g0 g1
  go_wp2_with (at_builtin; fail)
  refine (sRunPath_any _ _ _ ts l cs m B w3 (HT.out.low HB3.out hB) (HL.out.low HB3.out hB) (HCS.out.low HB3.out hB) (Nat.le_trans hB HB3.out.size) HV.out hm).mono ?_
  have HIR := Lib.hid (runF_run (fun p hp k hk => GD.out.next p hp k hk) (ptsP_next1 l) m 0 cs GD.out.pos)
  have HLEN := Lib.hid (runF_len (ptsP l) m 0 cs)
  have HLAST := Lib.hid (runF_last (pts := ptsP l) m 0 cs)
  obtain ⟨path, fin, hpf⟩ : ∃ path fin, runF (ptsP l) m 0 cs = (path, fin) := ⟨_, _, rfl⟩
  rw [hpf] at HIR HLEN HLAST ⊢
  have HX : Hid (runX ts l cs m = ((runM ts (ptsP l) path (ms0 ts)).1, endM path (runM ts (ptsP l) path (ms0 ts)).2)) := Lib.hid (by unfold runX; rw [hpf])
  have hpl : path.length ≤ 151 := by have := HLEN.out; simp only at this; omega
  clear hpf HLEN
  generalize ptsP l = pts at *
  rintro e w4 ⟨v4, rfl, hv4, hb4⟩
  obtain ⟨A4, c4, rfl, hc4⟩ := hv4.slice
  rw [msk_len] at hc4 hv4 ⊢
  have HPA := Lib.hid (show OInts w4 w3.heap.size (.slice A4 path.length c4) (msk path) from hv4)
  have HC4 := Lib.hid (HC3.out.low hb4 HC3.out.lt)
  have HS4 := Lib.hid (HS3.out.bel hb4)
  have HW4 := Lib.hid (HW3.out.trans (hb4.mono HW3.out.size))
  have hb3s : bx + 1 < w3.heap.size := by have := HW3.out.size; omega
  clear hv4 hb4 g0 g1
  go_wp2_with (at_builtin; fail)
  go_loopg [13, 14, 15, 16, 17, 18] (path.length + 1) (fun gk i a14 a15 a16 a17 a18 wr => ∃ (k : Nat) (vs' vc' vl' : Value) (s' : Ms), k ≤ path.length ∧ i = .int .i64 k ∧ RowB wr bs 57 [vs', vc', vl'] ∧ SpS wr w.heap.size vs' vc' vl' s' ∧ MsOk ts s' ∧ OInts wr w3.heap.size (.slice A4 path.length c4) (msk path) ∧ s'.rd.length ≤ k ∧ runM ts pts path (ms0 ts) = runM ts pts (path.drop k) s' ∧ Below w2.heap.size w2 wr ∧ path.length - k < gk)
  case atStart => exact ⟨0, _, _, _, ms0 ts, Nat.zero_le _, rfl, HC4.out, HS4.out, ms0_ok ts, HPA.out, Nat.zero_le _, rfl, HW4.out, by omega⟩
  case round =>
    obtain ⟨k, vs', vc', vl', s', hk, rfl, hcw, hsw, hok, hpa, hrd, hrm, hbw, hgk⟩ := hrel
    have HCW := Lib.hid hcw
    have HSW := Lib.hid hsw
    have OKW := Lib.hid hok
    have HPW := Lib.hid hpa
    have HRM := Lib.hid hrm
    have HBW := Lib.hid hbw
    have HBA := Lib.hid (HB2.out.trans (hbw.mono HB2.out.size))
    have HPGW := Lib.hid (HPG2.out.low hbw HPG2.out.lt)
    have HRW := Lib.hid (HR2.out.low hbw HR2.out.lt)
    obtain ⟨As, cs', rfl, -⟩ := hsw.sl.slice
    obtain ⟨Ae, ce', rfl, -⟩ := hsw.ce.slice
    obtain ⟨Ar, cr', rfl, -⟩ := hsw.rd.slice
    have hrs := hbw.size
    clear hcw hsw hok hrm hbw
    by_cases hlt : k < path.length
    · obtain ⟨a, hae⟩ : ∃ a, a = path.getD k 0 := ⟨_, rfl⟩
      have ha := HIR.out.inn k hlt
      rw [← hae] at ha
      obtain ⟨gp, rfl, hgp, hgpl, -, dp⟩ := hpa.at_ (k := k) (by rw [msk_len]; exact hlt)
      rw [msk_get hlt, ← hae] at dp
      obtain ⟨b, off, c, nv, e, hb, hcc2, hl9, hnx, z0, z1, z2, z3, z4⟩ := (HPS.out.low HBW.out (Nat.le_refl _)).get ha
      injection e with e1 e9 e2
      subst e1 e2
      obtain ⟨An, cn, rfl, hcn, hln, -⟩ := hnx
      simp only [List.length_map] at z4 hcn hln
      have HPD : Hid (ptD pts a = pts[a]) := Lib.hid (ptD_get ha)
      have HPO := Lib.hid (GD.out.ok _ (List.getElem_mem ha))
      have HDR : Hid (path.drop k = a :: path.drop (k + 1)) := Lib.hid (by rw [List.drop_eq_getElem_cons hlt, hae, getD_lt hlt])
      generalize pts[a] = P at *
      clear hae e9 hpa
      have hgr : gp ≠ bx + 1 := by omega
      go_upto_region 8 with (at_builtin; fail)
      have HX8 := Lib.hid (RowB.new wr [.int .i64 P.op, .int .i64 P.x, .int .i64 P.y, .int .i64 P.n, .slice An P.next.length cn] 94)
      have HC8 := Lib.hid (HCW.out.alloc (.cells #[.int .i64 P.op, .int .i64 P.x, .int .i64 P.y, .int .i64 P.n, .slice An P.next.length cn] 94))
      have HPG8 := Lib.hid (HPGW.out.alloc (.cells #[.int .i64 P.op, .int .i64 P.x, .int .i64 P.y, .int .i64 P.n, .slice An P.next.length cn] 94))
      have HR8 := Lib.hid (HRW.out.alloc (.cells #[.int .i64 P.op, .int .i64 P.x, .int .i64 P.y, .int .i64 P.n, .slice An P.next.length cn] 94))
      have HS8 := Lib.hid (HSW.out.bel (bel_a wr (.cells #[.int .i64 P.op, .int .i64 P.x, .int .i64 P.y, .int .i64 P.n, .slice An P.next.length cn] 94)))
      have HPA8 := Lib.hid (HPW.out.bel (bel_a wr (.cells #[.int .i64 P.op, .int .i64 P.x, .int .i64 P.y, .int .i64 P.n, .slice An P.next.length cn] 94)))
      have HB8 := Lib.hid (HBA.out.alloc HBA.out.size (.cells #[.int .i64 P.op, .int .i64 P.x, .int .i64 P.y, .int .i64 P.n, .slice An P.next.length cn] 94))
      have HW8 := Lib.hid (HBW.out.alloc hrs (.cells #[.int .i64 P.op, .int .i64 P.x, .int .i64 P.y, .int .i64 P.n, .slice An P.next.length cn] 94))
      have dp8 := ((bel_a wr (.cells #[.int .i64 P.op, .int .i64 P.x, .int .i64 P.y, .int .i64 P.n, .slice An P.next.length cn] 94)).cell (p := ⟨gp, k, none⟩) hgpl).trans dp
      clear dp z0 z1 z2 z3 z4
      generalize wr.alloc (.cells #[.int .i64 P.op, .int .i64 P.x, .int .i64 P.y, .int .i64 P.n, .slice An P.next.length cn] 94) = w8 at *
      obtain ⟨bq, hbq⟩ : ∃ bq, bq = wr.heap.size := ⟨_, rfl⟩
      rw [← hbq] at HX8 ⊢
      clear hbq
      have p0 := HX8.out.cell 0
      have p1 := HX8.out.cell 1
      have p2 := HX8.out.cell 2
      have p3 := HX8.out.cell 3
      have p4 := HX8.out.cell 4
      have c0 := HC8.out.cell 0
      have c1 := HC8.out.cell 1
      have c2 := HC8.out.cell 2
      have g0 := HPG8.out.cell 0
      simp only [List.getElem?_cons_zero, List.getElem?_cons_succ] at p0 p1 p2 p3 p4 c0 c1 c2 g0
      have HTW := Lib.hid (HT.out.low HB8.out hB)
      have hB8 : B ≤ w8.heap.size := Nat.le_trans hB HB8.out.size
      have hgl8 : gp < w8.heap.size := cell_lt dp8
      by_cases h11 : P.op = 11
      · have HDO := Lib.hid (doP_end (ts := ts) (s := s') h11)
        have HX2 : Hid (runX ts l cs m = ((finP ts ts.length 0 s').1, ((finP ts ts.length 0 s').2, a))) := Lib.hid (by rw [HX.out, HRM.out, HDR.out, runM_stop (by rw [HPD.out]; exact HDO.out)]; rfl)
        have OKE : Hid (MsOk ts (finP ts ts.length 0 s').1) := Lib.hid (MsOk.fin ts.length 0 OKW.out).1
        have HCL := Lib.hid (l7End_any _ _ _ _ ts s' w.heap.size B w8 HTW.out hB8 HS8.out HB8.out.size OKW.out h6)
        obtain ⟨F, hF⟩ : ∃ F, F = finP ts ts.length 0 s' := ⟨_, rfl⟩
        rw [← hF] at HX2 OKE HCL
        rw [h11] at p0
        clear hF h11 HDO
        go_wp2_with (at_builtin; fail)
        refine HCL.out.mono ?_
        rintro e w9 ⟨vs9, vc9, vl9, rfl, hs9, hb9⟩
        obtain ⟨A9a, c9a, rfl, -⟩ := hs9.sl.slice
        obtain ⟨A9b, c9b, rfl, -⟩ := hs9.ce.slice
        obtain ⟨A9c, c9c, rfl, -⟩ := hs9.rd.slice
        have HS9 := Lib.hid hs9
        have HB9 := Lib.hid hb9
        clear hs9 hb9 p0 p1 p2 p3 p4 c0 c1 c2 g0
        go_upto_region 10 with (at_builtin; fail)
        have HXf := Lib.hid (RowB.new w9 [.slice A9a F.1.sl.length c9a, .slice A9b F.1.ce.length c9b, .slice A9c F.1.rd.length c9c] 57)
        have HRf := Lib.hid ((HR8.out.low HB9.out HR8.out.lt).alloc (.cells #[.slice A9a F.1.sl.length c9a, .slice A9b F.1.ce.length c9b, .slice A9c F.1.rd.length c9c] 57))
        have HSf := Lib.hid (HS9.out.bel (bel_a w9 (.cells #[.slice A9a F.1.sl.length c9a, .slice A9b F.1.ce.length c9b, .slice A9c F.1.rd.length c9c] 57)))
        have HBf := Lib.hid ((HB8.out.trans (HB9.out.mono HB8.out.size)).alloc (HB8.out.trans (HB9.out.mono HB8.out.size)).size (.cells #[.slice A9a F.1.sl.length c9a, .slice A9b F.1.ce.length c9b, .slice A9c F.1.rd.length c9c] 57))
        have dp := ((bel_a w9 (.cells #[.slice A9a F.1.sl.length c9a, .slice A9b F.1.ce.length c9b, .slice A9c F.1.rd.length c9c] 57)).cell (p := ⟨gp, k, none⟩) (show gp < w9.heap.size by have := HB9.out.size; omega)).trans ((HB9.out.cell (p := ⟨gp, k, none⟩) hgl8).trans dp8)
        have hnef : w9.heap.size ≠ bx + 1 := by have := HB9.out.size; have := HR8.out.lt; omega
        have hbrf := hbr
        clear dp8
        generalize w9.alloc (.cells #[.slice A9a F.1.sl.length c9a, .slice A9b F.1.ce.length c9b, .slice A9c F.1.rd.length c9c] 57) = w10 at *
        generalize w9.heap.size = bt at *
        have y0 := HXf.out.cell 0
        have y1 := HXf.out.cell 1
        have y2 := HXf.out.cell 2
        have r0 := HRf.out.cell 0
        have r1 := HRf.out.cell 1
        have r2 := HRf.out.cell 2
        simp only [List.getElem?_cons_zero, List.getElem?_cons_succ] at y0 y1 y2 r0 r1 r2
        have rf0 := HRf.out.frozen 0
        have rf1 := HRf.out.frozen 1
        have rf2 := HRf.out.frozen 2
        refine wp_region_held_drew (S := (fun w' => w'.cell? ⟨bt, 0, none⟩ = some (.slice A9a F.1.sl.length c9a) ∧ w'.cell? ⟨bt, 1, none⟩ = some (.slice A9b F.1.ce.length c9b) ∧ w'.cell? ⟨bt, 2, none⟩ = some (.slice A9c F.1.rd.length c9c) ∧ w'.cell? ⟨gp, k, none⟩ = some (.int .i64 (a : Nat)))) (by kernel_rfl) ?_ (fun hHeld => ?_)
        · exact ⟨y0, y1, y2, dp⟩
        refine wpAnyH_take (i := 0) (oi := ⟨some 58, _, _, _, _, _⟩) (v := ?_) rfl (by kernel_rfl) (by kernel_rfl) (by kernel_rfl) (fun _ _ _ h => h) (Or.inl ⟨by rfl, fun w' hSw => ?_⟩) (by assumption) ?_
        rotate_left
        · (try dsimp only at hSw); go_simp; (try with_reducible rfl)
        (try simp only [Act.put, List.setIfInBounds_toArray, List.set_cons_zero, List.set_cons_succ])
        refine wpAnyH_take (i := 1) (oi := ⟨some 59, _, _, _, _, _⟩) (v := ?_) rfl (by kernel_rfl) (by kernel_rfl) (by kernel_rfl) (fun _ _ _ h => h) (Or.inl ⟨by rfl, fun w' hSw => ?_⟩) (by assumption) ?_
        rotate_left
        · (try dsimp only at hSw); go_simp; (try with_reducible rfl)
        (try simp only [Act.put, List.setIfInBounds_toArray, List.set_cons_zero, List.set_cons_succ])
        refine wpAnyH_take (i := 2) (oi := ⟨some 60, _, _, _, _, _⟩) (v := ?_) rfl (by kernel_rfl) (by kernel_rfl) (by kernel_rfl) (fun _ _ _ h => h) (Or.inl ⟨by rfl, fun w' hSw => ?_⟩) (by assumption) ?_
        rotate_left
        · (try dsimp only at hSw); go_simp; (try with_reducible rfl)
        (try simp only [Act.put, List.setIfInBounds_toArray, List.set_cons_zero, List.set_cons_succ])
        refine wpAnyH_take (i := 3) (oi := ⟨some 61, _, _, _, _, _⟩) (v := ?_) rfl (by kernel_rfl) (by kernel_rfl) (by kernel_rfl) (fun _ _ _ h => h) (Or.inl ⟨by rfl, fun w' hSw => ?_⟩) (by assumption) ?_
        rotate_left
        · (try dsimp only at hSw); go_simp; (try with_reducible rfl)
        (try simp only [Act.put, List.setIfInBounds_toArray, List.set_cons_zero, List.set_cons_succ])
        refine wpAnyH_take (i := 4) (oi := ⟨some 62, _, _, _, _, _⟩) (v := ?_) rfl (by kernel_rfl) (by kernel_rfl) (by kernel_rfl) (fun _ _ _ h => h) (Or.inl ⟨by rfl, fun w' hSw => ?_⟩) (by assumption) ?_
        rotate_left
        · (try dsimp only at hSw); go_simp; (try with_reducible rfl)
        (try simp only [Act.put, List.setIfInBounds_toArray, List.set_cons_zero, List.set_cons_succ])
        refine wpAnyH_take (i := 5) (oi := ⟨some 63, _, _, _, _, _⟩) (v := ?_) rfl (by kernel_rfl) (by kernel_rfl) (by kernel_rfl) (fun _ _ _ h => h) (Or.inl ⟨by rfl, fun w' hSw => ?_⟩) (by assumption) ?_
        rotate_left
        · (try dsimp only at hSw); go_simp; (try with_reducible rfl)
        (try simp only [Act.put, List.setIfInBounds_toArray, List.set_cons_zero, List.set_cons_succ])
        refine wpAnyH_ready (rs := [6]) (by kernel_rfl) (by simp) ?_
        refine (AllReadyH.cons (o := ⟨none, _, _, _, _, _⟩) rfl (fun K hK => ?_) AllReadyH.nil)
        go_simp
        (have HEN := Lib.hid (sp_end (HRf.out.low (BelD w10) HRf.out.lt) rfl (HSf.out.bel (BelD w10)) (HBf.out.trans ((BelD w10).mono HBf.out.size)) hbrf))
        (have HXE : Hid (RowB (w10.drew.setCells (bx + 1) 0 [.slice A9a F.1.sl.length c9a, .slice A9b F.1.ce.length c9b, .slice A9c F.1.rd.length c9c]) bt 57 [.slice A9a F.1.sl.length c9a, .slice A9b F.1.ce.length c9b, .slice A9c F.1.rd.length c9c]) := Lib.hid ((HXf.out.low (BelD w10) HXf.out.lt).nes hnef 0 _))
        (have HPE : Hid ((w10.drew.setCells (bx + 1) 0 [.slice A9a F.1.sl.length c9a, .slice A9b F.1.ce.length c9b, .slice A9c F.1.rd.length c9c]).cell? ⟨gp, k, none⟩ = some (.int .i64 (a : Nat))) := Lib.hid ((cell_nes hgr _ _ _).trans dp))
        refine hK.out _ _ ?_ (fun hHeld => ?_)
        · exact ⟨HXE.out.cell 0, HXE.out.cell 1, HXE.out.cell 2, HPE.out⟩
        clear hK K
        (try simp only [Act.put, List.setIfInBounds_toArray, List.set_cons_zero, List.set_cons_succ])
        refine wpAnyH_take (i := 7) (oi := ⟨some 7, _, _, _, _, _⟩) (v := ?_) rfl (by kernel_rfl) (by kernel_rfl) (by kernel_rfl) (fun _ _ _ h => h) (Or.inl ⟨by rfl, fun w' hSw => ?_⟩) (by assumption) ?_
        rotate_left
        · (try dsimp only at hSw); go_simp; (try with_reducible rfl)
        (try simp only [Act.put, List.setIfInBounds_toArray, List.set_cons_zero, List.set_cons_succ])
        refine wpAnyH_take (i := 8) (oi := ⟨some 8, _, _, _, _, _⟩) (v := ?_) rfl (by kernel_rfl) (by kernel_rfl) (by kernel_rfl) (fun _ _ _ h => h) (Or.inl ⟨by rfl, fun w' hSw => ?_⟩) (by assumption) ?_
        rotate_left
        · (try dsimp only at hSw); go_simp; (try with_reducible rfl)
        (try simp only [Act.put, List.setIfInBounds_toArray, List.set_cons_zero, List.set_cons_succ])
        refine wpAnyH_done (by kernel_rfl) ?_ _
        go_wp2_with (at_builtin; fail)
        refine bodyPost_ret (res_s2 (p := 6) (u := 7) (u2 := 8) (ty := 57) rfl _ _ (bx + 1) 57 _ (0, 0) _ rfl HEN.out.1 Tryz.underlying57 rfl rfl) rfl ?_
        exact ⟨_, _, _, by rw [HX2.out]; rfl, by rw [HX2.out]; exact HEN.out.2.1, by rw [HX2.out]; exact OKE.out, HEN.out.2.2⟩
      · have q11 : (P.op == 11) = false := by simpa using h11
        have HUQ := Lib.hid (unsetP_eq (ts := ts) (s := s') (x := P) (fun ho => pt_x HPO.out ho) (fun ho => pt_y HPO.out ho))
        have HCU := Lib.hid (l7Unset_any P An cn _ _ _ ts s' w.heap.size w8 HS8.out OKW.out HPO.out)
        rw [← HUQ.out] at HCU
        have H11 := Lib.hid h11
        clear h11
        cases hun : unsetP ts s' P
        · have HUN := Lib.hid hun
          rw [hun] at HCU
          have HCD := Lib.hid (fun wz (hz : Below w8.heap.size w8 wz) => l7Do_any (.slice At ts.length ct) (.slice As s'.sl.length cs') (.slice Ae s'.ce.length ce') (.slice Ar s'.rd.length cr') ts s' P An cn w.heap.size B wz (HTW.out.low hz hB8) (Nat.le_trans hB8 hz.size) (HS8.out.bel hz) (Nat.le_trans HB8.out.size hz.size) OKW.out HPO.out HUN.out H11.out (by omega) h6)
          have HRX := Lib.hid (OKW.out.do_ P)
          obtain ⟨s2, en, hdo⟩ : ∃ s2 en, doP ts s' P = (s2, en) := ⟨_, _, rfl⟩
          have hrd2 : s2.rd.length ≤ k + 1 := by have := HRX.out.2; rw [hdo] at this; simp only at this; omega
          have OK2 : Hid (MsOk ts s2) := Lib.hid (by have := HRX.out.1; rwa [hdo] at this)
          have HEN0 : Hid (∀ e, en = some e → e ≠ 0) := Lib.hid fun e he => doP_ne0 (ts := ts) (s := s') (x := P) H11.out (by rw [hdo]; exact he)
          rw [hdo] at HCD
          have HDO := Lib.hid hdo
          clear hun hdo HRX
          go_wp2_with (at_builtin; fail)
          refine HCU.out.mono ?_
          rintro e w9 ⟨rfl, hb9⟩
          have HB9 := Lib.hid hb9
          have HX9 := Lib.hid (HX8.out.low HB9.out HX8.out.lt)
          have HC9 := Lib.hid (HC8.out.low HB9.out HC8.out.lt)
          have HPG9 := Lib.hid (HPG8.out.low HB9.out HPG8.out.lt)
          clear hb9 p0 p1 p2 p3 p4 c0 c1 c2 g0
          have p0 := HX9.out.cell 0
          have p1 := HX9.out.cell 1
          have p2 := HX9.out.cell 2
          have p3 := HX9.out.cell 3
          have p4 := HX9.out.cell 4
          have c0 := HC9.out.cell 0
          have c1 := HC9.out.cell 1
          have c2 := HC9.out.cell 2
          have g0 := HPG9.out.cell 0
          simp only [List.getElem?_cons_zero, List.getElem?_cons_succ] at p0 p1 p2 p3 p4 c0 c1 c2 g0
          go_wp2_with (at_builtin; fail)
          refine (HCD.out _ HB9.out).mono ?_
          rintro e w10 ⟨vs9, vc9, vl9, rfl, hs9, hb10⟩
          obtain ⟨A9a, c9a, rfl, -⟩ := hs9.sl.slice
          obtain ⟨A9b, c9b, rfl, -⟩ := hs9.ce.slice
          obtain ⟨A9c, c9c, rfl, -⟩ := hs9.rd.slice
          have HS10 := Lib.hid (show SpS w10 w.heap.size _ _ _ s2 from hs9)
          have HB10 := Lib.hid (HB9.out.trans (hb10.mono HB9.out.size))
          have HXN := Lib.hid (RowB.new w10 [.slice A9a s2.sl.length c9a, .slice A9b s2.ce.length c9b, .slice A9c s2.rd.length c9c] 57)
          have HC11 := Lib.hid ((HC8.out.low HB10.out HC8.out.lt).alloc (.cells #[.slice A9a s2.sl.length c9a, .slice A9b s2.ce.length c9b, .slice A9c s2.rd.length c9c] 57))
          have HR11 := Lib.hid ((HR8.out.low HB10.out HR8.out.lt).alloc (.cells #[.slice A9a s2.sl.length c9a, .slice A9b s2.ce.length c9b, .slice A9c s2.rd.length c9c] 57))
          have HS11 := Lib.hid (HS10.out.bel (bel_a w10 (.cells #[.slice A9a s2.sl.length c9a, .slice A9b s2.ce.length c9b, .slice A9c s2.rd.length c9c] 57)))
          have HPA11 := Lib.hid ((HPA8.out.bel HB10.out).bel (bel_a w10 (.cells #[.slice A9a s2.sl.length c9a, .slice A9b s2.ce.length c9b, .slice A9c s2.rd.length c9c] 57)))
          have HQ11 := Lib.hid (HB10.out.alloc HB10.out.size (.cells #[.slice A9a s2.sl.length c9a, .slice A9b s2.ce.length c9b, .slice A9c s2.rd.length c9c] 57))
          have hnt : w10.heap.size ≠ bs := by have := HB10.out.size; have := HC8.out.lt; omega
          clear hs9 hb10 p0 p1 p2 p3 p4 c0 c1 c2 g0 HCD
          go_upto_region 14 with (at_builtin; fail)
          generalize w10.alloc (.cells #[.slice A9a s2.sl.length c9a, .slice A9b s2.ce.length c9b, .slice A9c s2.rd.length c9c] 57) = w11 at *
          generalize w10.heap.size = bt at *
          have y0 := HXN.out.cell 0
          have y1 := HXN.out.cell 1
          have y2 := HXN.out.cell 2
          have c0 := HC11.out.cell 0
          have c1 := HC11.out.cell 1
          have c2 := HC11.out.cell 2
          simp only [List.getElem?_cons_zero, List.getElem?_cons_succ] at y0 y1 y2 c0 c1 c2
          have f0 := HC11.out.frozen 0
          have f1 := HC11.out.frozen 1
          have f2 := HC11.out.frozen 2
          go_upto_region 15 with (at_builtin; fail)
          rw [set3z]
          have HC12 : Hid (RowB (w11.setCells bs 0 [.slice A9a s2.sl.length c9a, .slice A9b s2.ce.length c9b, .slice A9c s2.rd.length c9c]) bs 57 [.slice A9a s2.sl.length c9a, .slice A9b s2.ce.length c9b, .slice A9c s2.rd.length c9c]) := Lib.hid (HC11.out.putAll [.slice A9a s2.sl.length c9a, .slice A9b s2.ce.length c9b, .slice A9c s2.rd.length c9c] rfl)
          have HR12 := Lib.hid (HR11.out.nes (show bx + 1 ≠ bs by omega) 0 [.slice A9a s2.sl.length c9a, .slice A9b s2.ce.length c9b, .slice A9c s2.rd.length c9c])
          have HS12 := Lib.hid (HS11.out.kpu (KpU.ss HC11.out [.slice A9a s2.sl.length c9a, .slice A9b s2.ce.length c9b, .slice A9c s2.rd.length c9c]))
          have HPA12 := Lib.hid (HPA11.out.kpu (KpU.ss HC11.out [.slice A9a s2.sl.length c9a, .slice A9b s2.ce.length c9b, .slice A9c s2.rd.length c9c]))
          have HW12 := Lib.hid (belSets (HW8.out.trans (HQ11.out.mono HW8.out.size)) hbs2 0 [.slice A9a s2.sl.length c9a, .slice A9b s2.ce.length c9b, .slice A9c s2.rd.length c9c])
          have HB12 := Lib.hid (belSets (HB8.out.trans (HQ11.out.mono HB8.out.size)) (show w.heap.size ≤ bs by have := HB2.out.size; omega) 0 [.slice A9a s2.sl.length c9a, .slice A9b s2.ce.length c9b, .slice A9c s2.rd.length c9c])
          clear y0 y1 y2 c0 c1 c2 f0 f1 f2
          generalize w11.setCells bs 0 [.slice A9a s2.sl.length c9a, .slice A9b s2.ce.length c9b, .slice A9c s2.rd.length c9c] = w12 at *
          cases en with
          | none =>
            have HRM2 : Hid (runM ts pts path (ms0 ts) = runM ts pts (path.drop (k + 1)) s2) := Lib.hid (by rw [HRM.out, HDR.out, runM_go (by rw [HPD.out]; exact HDO.out)])
            go_wp2_with (at_builtin; fail)
            go_roundg (path.length - k)
            case measure => omega
            case rel => exact ⟨k + 1, _, _, _, s2, by omega, by go_num, HC12.out, HS12.out, OK2.out, HPA12.out, hrd2, HRM2.out, HW12.out, by omega⟩
          | some en =>
            have qe : (en != 0) = true := by have := HEN0.out en rfl; simpa using this
            have HX2 : Hid (runX ts l cs m = (s2, (en, a))) := Lib.hid (by rw [HX.out, HRM.out, HDR.out, runM_stop (by rw [HPD.out]; exact HDO.out)]; rfl)
            have OKE := OK2
            rw [show codeV (s2, some en).2 = en from rfl]
            go_upto_region 16 with (at_builtin; fail)
            have HXf := HC12
            have HRf := HR12
            have HSf := HS12
            have HBf := HB12
            have hbrf := hbr
            have hnef : bs ≠ bx + 1 := by omega
            obtain ⟨gp', egp, -, -, -, dp⟩ := HPA12.out.at_ (k := k) (by rw [msk_len]; exact hlt)
            injection egp with egp
            injection egp with egp _ _
            subst egp
            rw [msk_get hlt, show path.getD k 0 = a by have := HDR.out; rw [List.drop_eq_getElem_cons hlt] at this; injection this with h1 _; rw [getD_lt hlt]; exact h1] at dp
            clear dp8
            have y0 := HXf.out.cell 0
            have y1 := HXf.out.cell 1
            have y2 := HXf.out.cell 2
            have r0 := HRf.out.cell 0
            have r1 := HRf.out.cell 1
            have r2 := HRf.out.cell 2
            simp only [List.getElem?_cons_zero, List.getElem?_cons_succ] at y0 y1 y2 r0 r1 r2
            have rf0 := HRf.out.frozen 0
            have rf1 := HRf.out.frozen 1
            have rf2 := HRf.out.frozen 2
            refine wp_region_held_drew (S := (fun w' => w'.cell? ⟨bs, 0, none⟩ = some (.slice A9a s2.sl.length c9a) ∧ w'.cell? ⟨bs, 1, none⟩ = some (.slice A9b s2.ce.length c9b) ∧ w'.cell? ⟨bs, 2, none⟩ = some (.slice A9c s2.rd.length c9c) ∧ w'.cell? ⟨gp, k, none⟩ = some (.int .i64 (a : Nat)))) (by kernel_rfl) ?_ (fun hHeld => ?_)
            · exact ⟨y0, y1, y2, dp⟩
            refine wpAnyH_take (i := 0) (oi := ⟨some 83, _, _, _, _, _⟩) (v := ?_) rfl (by kernel_rfl) (by kernel_rfl) (by kernel_rfl) (fun _ _ _ h => h) (Or.inl ⟨by rfl, fun w' hSw => ?_⟩) (by assumption) ?_
            rotate_left
            · (try dsimp only at hSw); go_simp; (try with_reducible rfl)
            (try simp only [Act.put, List.setIfInBounds_toArray, List.set_cons_zero, List.set_cons_succ])
            refine wpAnyH_take (i := 1) (oi := ⟨some 84, _, _, _, _, _⟩) (v := ?_) rfl (by kernel_rfl) (by kernel_rfl) (by kernel_rfl) (fun _ _ _ h => h) (Or.inl ⟨by rfl, fun w' hSw => ?_⟩) (by assumption) ?_
            rotate_left
            · (try dsimp only at hSw); go_simp; (try with_reducible rfl)
            (try simp only [Act.put, List.setIfInBounds_toArray, List.set_cons_zero, List.set_cons_succ])
            refine wpAnyH_take (i := 2) (oi := ⟨some 85, _, _, _, _, _⟩) (v := ?_) rfl (by kernel_rfl) (by kernel_rfl) (by kernel_rfl) (fun _ _ _ h => h) (Or.inl ⟨by rfl, fun w' hSw => ?_⟩) (by assumption) ?_
            rotate_left
            · (try dsimp only at hSw); go_simp; (try with_reducible rfl)
            (try simp only [Act.put, List.setIfInBounds_toArray, List.set_cons_zero, List.set_cons_succ])
            refine wpAnyH_take (i := 3) (oi := ⟨some 86, _, _, _, _, _⟩) (v := ?_) rfl (by kernel_rfl) (by kernel_rfl) (by kernel_rfl) (fun _ _ _ h => h) (Or.inl ⟨by rfl, fun w' hSw => ?_⟩) (by assumption) ?_
            rotate_left
            · (try dsimp only at hSw); go_simp; (try with_reducible rfl)
            (try simp only [Act.put, List.setIfInBounds_toArray, List.set_cons_zero, List.set_cons_succ])
            refine wpAnyH_take (i := 4) (oi := ⟨some 87, _, _, _, _, _⟩) (v := ?_) rfl (by kernel_rfl) (by kernel_rfl) (by kernel_rfl) (fun _ _ _ h => h) (Or.inl ⟨by rfl, fun w' hSw => ?_⟩) (by assumption) ?_
            rotate_left
            · (try dsimp only at hSw); go_simp; (try with_reducible rfl)
            (try simp only [Act.put, List.setIfInBounds_toArray, List.set_cons_zero, List.set_cons_succ])
            refine wpAnyH_take (i := 5) (oi := ⟨some 88, _, _, _, _, _⟩) (v := ?_) rfl (by kernel_rfl) (by kernel_rfl) (by kernel_rfl) (fun _ _ _ h => h) (Or.inl ⟨by rfl, fun w' hSw => ?_⟩) (by assumption) ?_
            rotate_left
            · (try dsimp only at hSw); go_simp; (try with_reducible rfl)
            (try simp only [Act.put, List.setIfInBounds_toArray, List.set_cons_zero, List.set_cons_succ])
            refine wpAnyH_ready (rs := [6]) (by kernel_rfl) (by simp) ?_
            refine (AllReadyH.cons (o := ⟨none, _, _, _, _, _⟩) rfl (fun K hK => ?_) AllReadyH.nil)
            go_simp
            (have HEN := Lib.hid (sp_end (HRf.out.low (BelD w12) HRf.out.lt) rfl (HSf.out.bel (BelD w12)) (HBf.out.trans ((BelD w12).mono HBf.out.size)) hbrf))
            (have HXE : Hid (RowB (w12.drew.setCells (bx + 1) 0 [.slice A9a s2.sl.length c9a, .slice A9b s2.ce.length c9b, .slice A9c s2.rd.length c9c]) bs 57 [.slice A9a s2.sl.length c9a, .slice A9b s2.ce.length c9b, .slice A9c s2.rd.length c9c]) := Lib.hid ((HXf.out.low (BelD w12) HXf.out.lt).nes hnef 0 _))
            (have HPE : Hid ((w12.drew.setCells (bx + 1) 0 [.slice A9a s2.sl.length c9a, .slice A9b s2.ce.length c9b, .slice A9c s2.rd.length c9c]).cell? ⟨gp, k, none⟩ = some (.int .i64 (a : Nat))) := Lib.hid ((cell_nes hgr _ _ _).trans dp))
            refine hK.out _ _ ?_ (fun hHeld => ?_)
            · exact ⟨HXE.out.cell 0, HXE.out.cell 1, HXE.out.cell 2, HPE.out⟩
            clear hK K
            (try simp only [Act.put, List.setIfInBounds_toArray, List.set_cons_zero, List.set_cons_succ])
            refine wpAnyH_take (i := 7) (oi := ⟨some 7, _, _, _, _, _⟩) (v := ?_) rfl (by kernel_rfl) (by kernel_rfl) (by kernel_rfl) (fun _ _ _ h => h) (Or.inl ⟨by rfl, fun w' hSw => ?_⟩) (by assumption) ?_
            rotate_left
            · (try dsimp only at hSw); go_simp; (try with_reducible rfl)
            (try simp only [Act.put, List.setIfInBounds_toArray, List.set_cons_zero, List.set_cons_succ])
            refine wpAnyH_take (i := 8) (oi := ⟨some 8, _, _, _, _, _⟩) (v := ?_) rfl (by kernel_rfl) (by kernel_rfl) (by kernel_rfl) (fun _ _ _ h => h) (Or.inl ⟨by rfl, fun w' hSw => ?_⟩) (by assumption) ?_
            rotate_left
            · (try dsimp only at hSw); go_simp; (try with_reducible rfl)
            (try simp only [Act.put, List.setIfInBounds_toArray, List.set_cons_zero, List.set_cons_succ])
            refine wpAnyH_done (by kernel_rfl) ?_ _
            go_wp2_with (at_builtin; fail)
            refine bodyPost_ret (res_s2 (p := 6) (u := 7) (u2 := 8) (ty := 57) rfl _ _ (bx + 1) 57 _ (0, 0) _ rfl HEN.out.1 Tryz.underlying57 rfl rfl) rfl ?_
            exact ⟨_, _, _, by rw [HX2.out]; rfl, by rw [HX2.out]; exact HEN.out.2.1, by rw [HX2.out]; exact OKE.out, HEN.out.2.2⟩
        · have HDO := Lib.hid (doP_un (ts := ts) (s := s') (x := P) hun)
          have HX2 : Hid (runX ts l cs m = (s', (2, a))) := Lib.hid (by rw [HX.out, HRM.out, HDR.out, runM_stop (by rw [HPD.out]; exact HDO.out)]; rfl)
          have OKE := OKW
          rw [hun] at HCU
          clear hun HDO
          go_wp2_with (at_builtin; fail)
          refine HCU.out.mono ?_
          rintro e w9 ⟨rfl, hb9⟩
          have HB9 := Lib.hid hb9
          clear hb9 p0 p1 p2 p3 p4 c0 c1 c2 g0
          go_upto_region 12 with (at_builtin; fail)
          have HXf := Lib.hid (HC8.out.low HB9.out HC8.out.lt)
          have HRf := Lib.hid (HR8.out.low HB9.out HR8.out.lt)
          have HSf := Lib.hid (HS8.out.bel HB9.out)
          have HBf := Lib.hid (HB8.out.trans (HB9.out.mono HB8.out.size))
          have dp := (HB9.out.cell (p := ⟨gp, k, none⟩) hgl8).trans dp8
          have hnef : bs ≠ bx + 1 := by omega
          have hbrf := hbr
          clear dp8
          have y0 := HXf.out.cell 0
          have y1 := HXf.out.cell 1
          have y2 := HXf.out.cell 2
          have r0 := HRf.out.cell 0
          have r1 := HRf.out.cell 1
          have r2 := HRf.out.cell 2
          simp only [List.getElem?_cons_zero, List.getElem?_cons_succ] at y0 y1 y2 r0 r1 r2
          have rf0 := HRf.out.frozen 0
          have rf1 := HRf.out.frozen 1
          have rf2 := HRf.out.frozen 2
          refine wp_region_held_drew (S := (fun w' => w'.cell? ⟨bs, 0, none⟩ = some (.slice As s'.sl.length cs') ∧ w'.cell? ⟨bs, 1, none⟩ = some (.slice Ae s'.ce.length ce') ∧ w'.cell? ⟨bs, 2, none⟩ = some (.slice Ar s'.rd.length cr') ∧ w'.cell? ⟨gp, k, none⟩ = some (.int .i64 (a : Nat)))) (by kernel_rfl) ?_ (fun hHeld => ?_)
          · exact ⟨y0, y1, y2, dp⟩
          refine wpAnyH_take (i := 0) (oi := ⟨some 67, _, _, _, _, _⟩) (v := ?_) rfl (by kernel_rfl) (by kernel_rfl) (by kernel_rfl) (fun _ _ _ h => h) (Or.inl ⟨by rfl, fun w' hSw => ?_⟩) (by assumption) ?_
          rotate_left
          · (try dsimp only at hSw); go_simp; (try with_reducible rfl)
          (try simp only [Act.put, List.setIfInBounds_toArray, List.set_cons_zero, List.set_cons_succ])
          refine wpAnyH_take (i := 1) (oi := ⟨some 68, _, _, _, _, _⟩) (v := ?_) rfl (by kernel_rfl) (by kernel_rfl) (by kernel_rfl) (fun _ _ _ h => h) (Or.inl ⟨by rfl, fun w' hSw => ?_⟩) (by assumption) ?_
          rotate_left
          · (try dsimp only at hSw); go_simp; (try with_reducible rfl)
          (try simp only [Act.put, List.setIfInBounds_toArray, List.set_cons_zero, List.set_cons_succ])
          refine wpAnyH_take (i := 2) (oi := ⟨some 69, _, _, _, _, _⟩) (v := ?_) rfl (by kernel_rfl) (by kernel_rfl) (by kernel_rfl) (fun _ _ _ h => h) (Or.inl ⟨by rfl, fun w' hSw => ?_⟩) (by assumption) ?_
          rotate_left
          · (try dsimp only at hSw); go_simp; (try with_reducible rfl)
          (try simp only [Act.put, List.setIfInBounds_toArray, List.set_cons_zero, List.set_cons_succ])
          refine wpAnyH_take (i := 3) (oi := ⟨some 70, _, _, _, _, _⟩) (v := ?_) rfl (by kernel_rfl) (by kernel_rfl) (by kernel_rfl) (fun _ _ _ h => h) (Or.inl ⟨by rfl, fun w' hSw => ?_⟩) (by assumption) ?_
          rotate_left
          · (try dsimp only at hSw); go_simp; (try with_reducible rfl)
          (try simp only [Act.put, List.setIfInBounds_toArray, List.set_cons_zero, List.set_cons_succ])
          refine wpAnyH_take (i := 4) (oi := ⟨some 71, _, _, _, _, _⟩) (v := ?_) rfl (by kernel_rfl) (by kernel_rfl) (by kernel_rfl) (fun _ _ _ h => h) (Or.inl ⟨by rfl, fun w' hSw => ?_⟩) (by assumption) ?_
          rotate_left
          · (try dsimp only at hSw); go_simp; (try with_reducible rfl)
          (try simp only [Act.put, List.setIfInBounds_toArray, List.set_cons_zero, List.set_cons_succ])
          refine wpAnyH_ready (rs := [5]) (by kernel_rfl) (by simp) ?_
          refine (AllReadyH.cons (o := ⟨none, _, _, _, _, _⟩) rfl (fun K hK => ?_) AllReadyH.nil)
          go_simp
          (have HEN := Lib.hid (sp_end (HRf.out.low (BelD w9) HRf.out.lt) rfl (HSf.out.bel (BelD w9)) (HBf.out.trans ((BelD w9).mono HBf.out.size)) hbrf))
          (have HXE : Hid (RowB (w9.drew.setCells (bx + 1) 0 [.slice As s'.sl.length cs', .slice Ae s'.ce.length ce', .slice Ar s'.rd.length cr']) bs 57 [.slice As s'.sl.length cs', .slice Ae s'.ce.length ce', .slice Ar s'.rd.length cr']) := Lib.hid ((HXf.out.low (BelD w9) HXf.out.lt).nes hnef 0 _))
          (have HPE : Hid ((w9.drew.setCells (bx + 1) 0 [.slice As s'.sl.length cs', .slice Ae s'.ce.length ce', .slice Ar s'.rd.length cr']).cell? ⟨gp, k, none⟩ = some (.int .i64 (a : Nat))) := Lib.hid ((cell_nes hgr _ _ _).trans dp))
          refine hK.out _ _ ?_ (fun hHeld => ?_)
          · exact ⟨HXE.out.cell 0, HXE.out.cell 1, HXE.out.cell 2, HPE.out⟩
          clear hK K
          (try simp only [Act.put, List.setIfInBounds_toArray, List.set_cons_zero, List.set_cons_succ])
          refine wpAnyH_take (i := 6) (oi := ⟨some 7, _, _, _, _, _⟩) (v := ?_) rfl (by kernel_rfl) (by kernel_rfl) (by kernel_rfl) (fun _ _ _ h => h) (Or.inl ⟨by rfl, fun w' hSw => ?_⟩) (by assumption) ?_
          rotate_left
          · (try dsimp only at hSw); go_simp; (try with_reducible rfl)
          (try simp only [Act.put, List.setIfInBounds_toArray, List.set_cons_zero, List.set_cons_succ])
          refine wpAnyH_take (i := 7) (oi := ⟨some 8, _, _, _, _, _⟩) (v := ?_) rfl (by kernel_rfl) (by kernel_rfl) (by kernel_rfl) (fun _ _ _ h => h) (Or.inl ⟨by rfl, fun w' hSw => ?_⟩) (by assumption) ?_
          rotate_left
          · (try dsimp only at hSw); go_simp; (try with_reducible rfl)
          (try simp only [Act.put, List.setIfInBounds_toArray, List.set_cons_zero, List.set_cons_succ])
          refine wpAnyH_done (by kernel_rfl) ?_ _
          go_wp2_with (at_builtin; fail)
          refine bodyPost_ret (res_s2 (p := 6) (u := 7) (u2 := 8) (ty := 57) rfl _ _ (bx + 1) 57 _ (0, 0) _ rfl HEN.out.1 Tryz.underlying57 rfl rfl) rfl ?_
          exact ⟨_, _, _, by rw [HX2.out]; rfl, by rw [HX2.out]; exact HEN.out.2.1, by rw [HX2.out]; exact OKE.out, HEN.out.2.2⟩
    · obtain rfl : k = path.length := by omega
      have HX2 : Hid (runX ts l cs m = (s', (1, path.getLastD 0))) := Lib.hid (by rw [HX.out, HRM.out, List.drop_length]; rfl)
      have OKE := OKW
      have HFIN : Hid (fin = false) := Lib.hid (by
        cases fin with
        | false => rfl
        | true =>
          obtain ⟨h1, h2⟩ := HLAST.out rfl
          have := runM_done (ts := ts) path (ms0 ts) h1 h2
          rw [HRM.out, List.drop_length] at this
          exact absurd rfl this)
      obtain rfl := HFIN.out
      rcases Nat.eq_zero_or_pos path.length with h0 | h0
      · have hp0 : path = [] := List.length_eq_zero_iff.1 h0
        have c0 := HCW.out.cell 0
        have c1 := HCW.out.cell 1
        have c2 := HCW.out.cell 2
        have r0 := HRW.out.cell 0
        have r1 := HRW.out.cell 1
        have r2 := HRW.out.cell 2
        simp only [List.getElem?_cons_zero, List.getElem?_cons_succ] at c0 c1 c2 r0 r1 r2
        have rf0 := HRW.out.frozen 0
        have rf1 := HRW.out.frozen 1
        have rf2 := HRW.out.frozen 2
        subst hp0
        clear hpa
        go_wp2_with (at_builtin; fail)
        have HEN := Lib.hid (sp_end HRW.out rfl HSW.out HBA.out hbr)
        refine bodyPost_ret (res_s2 (p := 6) (u := 7) (u2 := 8) (ty := 57) rfl _ _ (bx + 1) 57 _ (0, 0) _ rfl HEN.out.1 Tryz.underlying57 rfl rfl) rfl ?_
        exact ⟨_, _, _, by rw [HX2.out]; rfl, by rw [HX2.out]; exact HEN.out.2.1, by rw [HX2.out]; exact OKE.out, HEN.out.2.2⟩
      · obtain ⟨J, hJ⟩ : ∃ J, path.length = J + 1 := ⟨path.length - 1, by omega⟩
        obtain ⟨a, hae⟩ : ∃ a, a = path.getLastD 0 := ⟨_, rfl⟩
        have HAE : Hid (path.getD J 0 = a) := Lib.hid (by
          rw [hae, List.getLastD_eq_getLast?, List.getLast?_eq_getElem?, hJ, List.getD_eq_getElem?_getD]; rfl)
        rw [← hae] at HX2
        obtain ⟨gp, rfl, hgp, hgpl, -, dp⟩ := hpa.at_ (k := J) (by rw [msk_len]; omega)
        rw [msk_get (by omega), HAE.out] at dp
        have hgr : gp ≠ bx + 1 := by omega
        have qpl : decide (((path.length : Nat) : Int) > 0) = true := decide_eq_true (by omega)
        have qpl2 : decide ((0 : Int) < ((path.length : Nat) : Int)) = true := decide_eq_true (by omega)
        have hwr : IntKind.i64.wrap (((path.length : Nat) : Int) - 1) = ((J : Nat) : Int) := by rw [hJ, IntWalk.i64_in _ (by omega)]; omega
        have hJl : J < path.length := by omega
        clear hae hpa hJ
        go_upto_region 18 with (at_builtin; fail)
        have HXf := HCW
        have HRf := HRW
        have HSf := HSW
        have HBf := HBA
        have hbrf := hbr
        have hnef : bs ≠ bx + 1 := by omega
        have y0 := HXf.out.cell 0
        have y1 := HXf.out.cell 1
        have y2 := HXf.out.cell 2
        have r0 := HRf.out.cell 0
        have r1 := HRf.out.cell 1
        have r2 := HRf.out.cell 2
        simp only [List.getElem?_cons_zero, List.getElem?_cons_succ] at y0 y1 y2 r0 r1 r2
        have rf0 := HRf.out.frozen 0
        have rf1 := HRf.out.frozen 1
        have rf2 := HRf.out.frozen 2
        refine wp_region_held_drew (S := (fun w' => w'.cell? ⟨bs, 0, none⟩ = some (.slice As s'.sl.length cs') ∧ w'.cell? ⟨bs, 1, none⟩ = some (.slice Ae s'.ce.length ce') ∧ w'.cell? ⟨bs, 2, none⟩ = some (.slice Ar s'.rd.length cr') ∧ w'.cell? ⟨gp, J, none⟩ = some (.int .i64 (a : Nat)))) (by kernel_rfl) ?_ (fun hHeld => ?_)
        · exact ⟨y0, y1, y2, dp⟩
        refine wpAnyH_take (i := 0) (oi := ⟨some 96, _, _, _, _, _⟩) (v := ?_) rfl (by kernel_rfl) (by kernel_rfl) (by kernel_rfl) (fun _ _ _ h => h) (Or.inl ⟨by rfl, fun w' hSw => ?_⟩) (by assumption) ?_
        rotate_left
        · (try dsimp only at hSw); go_simp; (try with_reducible rfl)
        (try simp only [Act.put, List.setIfInBounds_toArray, List.set_cons_zero, List.set_cons_succ])
        refine wpAnyH_take (i := 1) (oi := ⟨some 97, _, _, _, _, _⟩) (v := ?_) rfl (by kernel_rfl) (by kernel_rfl) (by kernel_rfl) (fun _ _ _ h => h) (Or.inl ⟨by rfl, fun w' hSw => ?_⟩) (by assumption) ?_
        rotate_left
        · (try dsimp only at hSw); go_simp; (try with_reducible rfl)
        (try simp only [Act.put, List.setIfInBounds_toArray, List.set_cons_zero, List.set_cons_succ])
        refine wpAnyH_take (i := 2) (oi := ⟨some 98, _, _, _, _, _⟩) (v := ?_) rfl (by kernel_rfl) (by kernel_rfl) (by kernel_rfl) (fun _ _ _ h => h) (Or.inl ⟨by rfl, fun w' hSw => ?_⟩) (by assumption) ?_
        rotate_left
        · (try dsimp only at hSw); go_simp; (try with_reducible rfl)
        (try simp only [Act.put, List.setIfInBounds_toArray, List.set_cons_zero, List.set_cons_succ])
        refine wpAnyH_take (i := 3) (oi := ⟨some 99, _, _, _, _, _⟩) (v := ?_) rfl (by kernel_rfl) (by kernel_rfl) (by kernel_rfl) (fun _ _ _ h => h) (Or.inl ⟨by rfl, fun w' hSw => ?_⟩) (by assumption) ?_
        rotate_left
        · (try dsimp only at hSw); go_simp; (try with_reducible rfl)
        (try simp only [Act.put, List.setIfInBounds_toArray, List.set_cons_zero, List.set_cons_succ])
        refine wpAnyH_take (i := 4) (oi := ⟨some 100, _, _, _, _, _⟩) (v := ?_) rfl (by kernel_rfl) (by kernel_rfl) (by kernel_rfl) (fun _ _ _ h => h) (Or.inl ⟨by rfl, fun w' hSw => ?_⟩) (by assumption) ?_
        rotate_left
        · (try dsimp only at hSw); go_simp; (try with_reducible rfl)
        (try simp only [Act.put, List.setIfInBounds_toArray, List.set_cons_zero, List.set_cons_succ])
        refine wpAnyH_take (i := 5) (oi := ⟨some 101, _, _, _, _, _⟩) (v := ?_) rfl (by kernel_rfl) (by kernel_rfl) (by kernel_rfl) (fun _ _ _ h => h) (Or.inl ⟨by rfl, fun w' hSw => ?_⟩) (by assumption) ?_
        rotate_left
        · (try dsimp only at hSw); go_simp; (try with_reducible rfl)
        (try simp only [Act.put, List.setIfInBounds_toArray, List.set_cons_zero, List.set_cons_succ])
        refine wpAnyH_take (i := 6) (oi := ⟨some 102, _, _, _, _, _⟩) (v := ?_) rfl (by kernel_rfl) (by kernel_rfl) (by kernel_rfl) (fun _ _ _ h => h) (Or.inl ⟨by rfl, fun w' hSw => ?_⟩) (by assumption) ?_
        rotate_left
        · (try dsimp only at hSw); go_simp; (try with_reducible rfl)
        (try simp only [Act.put, List.setIfInBounds_toArray, List.set_cons_zero, List.set_cons_succ])
        refine wpAnyH_ready (rs := [7]) (by kernel_rfl) (by simp) ?_
        refine (AllReadyH.cons (o := ⟨none, _, _, _, _, _⟩) rfl (fun K hK => ?_) AllReadyH.nil)
        go_simp
        (have HEN := Lib.hid (sp_end (HRf.out.low (BelD wr) HRf.out.lt) rfl (HSf.out.bel (BelD wr)) (HBf.out.trans ((BelD wr).mono HBf.out.size)) hbrf))
        (have HXE : Hid (RowB (wr.drew.setCells (bx + 1) 0 [.slice As s'.sl.length cs', .slice Ae s'.ce.length ce', .slice Ar s'.rd.length cr']) bs 57 [.slice As s'.sl.length cs', .slice Ae s'.ce.length ce', .slice Ar s'.rd.length cr']) := Lib.hid ((HXf.out.low (BelD wr) HXf.out.lt).nes hnef 0 _))
        (have HPE : Hid ((wr.drew.setCells (bx + 1) 0 [.slice As s'.sl.length cs', .slice Ae s'.ce.length ce', .slice Ar s'.rd.length cr']).cell? ⟨gp, J, none⟩ = some (.int .i64 (a : Nat))) := Lib.hid ((cell_nes hgr _ _ _).trans dp))
        refine hK.out _ _ ?_ (fun hHeld => ?_)
        · exact ⟨HXE.out.cell 0, HXE.out.cell 1, HXE.out.cell 2, HPE.out⟩
        clear hK K
        (try simp only [Act.put, List.setIfInBounds_toArray, List.set_cons_zero, List.set_cons_succ])
        refine wpAnyH_take (i := 8) (oi := ⟨some 7, _, _, _, _, _⟩) (v := ?_) rfl (by kernel_rfl) (by kernel_rfl) (by kernel_rfl) (fun _ _ _ h => h) (Or.inl ⟨by rfl, fun w' hSw => ?_⟩) (by assumption) ?_
        rotate_left
        · (try dsimp only at hSw); go_simp; (try with_reducible rfl)
        (try simp only [Act.put, List.setIfInBounds_toArray, List.set_cons_zero, List.set_cons_succ])
        refine wpAnyH_take (i := 9) (oi := ⟨some 8, _, _, _, _, _⟩) (v := ?_) rfl (by kernel_rfl) (by kernel_rfl) (by kernel_rfl) (fun _ _ _ h => h) (Or.inl ⟨by rfl, fun w' hSw => ?_⟩) (by assumption) ?_
        rotate_left
        · (try dsimp only at hSw); go_simp; (try with_reducible rfl)
        (try simp only [Act.put, List.setIfInBounds_toArray, List.set_cons_zero, List.set_cons_succ])
        refine wpAnyH_done (by kernel_rfl) ?_ _
        go_wp2_with (at_builtin; fail)
        refine bodyPost_ret (res_s2 (p := 6) (u := 7) (u2 := 8) (ty := 57) rfl _ _ (bx + 1) 57 _ (0, 0) _ rfl HEN.out.1 Tryz.underlying57 rfl rfl) rfl ?_
        exact ⟨_, _, _, by rw [HX2.out]; rfl, by rw [HX2.out]; exact HEN.out.2.1, by rw [HX2.out]; exact OKE.out, HEN.out.2.2⟩

end Go.Proofs.YtfioaohadanjmaaGreat

/- spec.l7Right, spec.RunProgram, spec.CellsMade. -/
namespace Go.Proofs.YtfioaohadanjmaaGreat
open Go.RowKit Go.Lib

theorem runOk_parts {ts : List Int} {l : List St} {most : Int} (h : runOk ts l most = true) : validP ts l = true ∧ ∃ m : Nat, most = m ∧ m ≤ 150 := by
  unfold runOk at h
  rw [Bool.and_eq_true] at h
  refine ⟨h.1, most.toNat, ?_⟩
  have h2 := h.2
  simp only [withinP, Bool.and_eq_true, decide_eq_true_eq] at h2
  omega
set_option maxHeartbeats 4000000 in
set_option maxRecDepth 100000 in
theorem l7Right_any (vt vb : Value) (ts : List Int) (l : List St) (most : Int) (B : Nat) (w : World) (ht : IntS w B vt ts) (hl : StS w B vb l) (hB : B ≤ w.heap.size) (hsz : szL l ≤ 4194300) :
    Calls Tryz.prog 37 #[.agg #[vt, vb], .int .i64 most] w fun e w' => e = .returned (.bool (runOk ts l most)) ∧ Below w.heap.size w w' := by
  have HPV := Lib.hid (sProgramValid_any vt vb ts l B (w.alloc (.cells #[vt, vb] 31)) (ht.low (bel_a w _) hB) (hl.low (bel_a w _) hB) (by simp; omega) (by omega))
  have HB0 := Lib.hid (bel_a w (.cells #[vt, vb] 31))
  go_enter Tryz.func37, Tryz.ntmps37
  go_wp2_with (at_builtin; fail)
  refine HPV.out.mono ?_
  rintro e w1 ⟨rfl, hb1⟩
  have HB1 := Lib.hid (HB0.out.trans (hb1.mono (by simp)))
  clear hb1
  cases hv : validP ts l
  · have HR : Hid (runOk ts l most = false) := Lib.hid (by unfold runOk; rw [hv]; rfl)
    clear hv
    go_wp2_with (at_builtin; fail)
    go_ret
    exact ⟨by rw [HR.out]; rfl, HB1.out⟩
  · by_cases h0 : 0 ≤ most
    · have q0 : decide (most ≥ 0) = true := decide_eq_true h0
      by_cases h1 : most ≤ 150
      · have q1 : decide (most ≤ 150) = true := decide_eq_true h1
        have HR : Hid (runOk ts l most = true) := Lib.hid (by unfold runOk withinP; rw [hv, decide_eq_true h0, decide_eq_true h1]; rfl)
        clear hv
        go_wp2_with (at_builtin; fail)
        go_ret
        exact ⟨by rw [HR.out]; rfl, HB1.out⟩
      · have q1 : decide (most ≤ 150) = false := decide_eq_false h1
        have HR : Hid (runOk ts l most = false) := Lib.hid (by unfold runOk withinP; rw [hv, decide_eq_true h0, decide_eq_false h1]; rfl)
        clear hv
        go_wp2_with (at_builtin; fail)
        go_ret
        exact ⟨by rw [HR.out]; rfl, HB1.out⟩
    · have q0 : decide (most ≥ 0) = false := decide_eq_false h0
      have HR : Hid (runOk ts l most = false) := Lib.hid (by unfold runOk withinP; rw [hv, decide_eq_false h0]; rfl)
      clear hv
      go_wp2_with (at_builtin; fail)
      go_ret
      exact ⟨by rw [HR.out]; rfl, HB1.out⟩
set_option maxHeartbeats 4000000 in
set_option maxRecDepth 100000 in
theorem sRunProgram_any (vt vb vc : Value) (ts : List Int) (l : List St) (cs : List Int) (most : Int) (B : Nat) (w : World) (ht : IntS w B vt ts) (hl : StS w B vb l) (hc : IntS w B vc cs) (hB : B ≤ w.heap.size) (hsz : szL l ≤ 4194300) :
    Calls Tryz.prog 69 #[.agg #[vt, vb], vc, .int .i64 most] w (EndRet w (progX ts l cs most)) := by
  have HRI := Lib.hid (l7Right_any vt vb ts l most B (w.alloc (.cells #[vt, vb] 31)) (ht.low (bel_a w _) hB) (hl.low (bel_a w _) hB) (by simp; omega) hsz)
  have HX := Lib.hid (RowB.new w [vt, vb] 31)
  have HB0 := Lib.hid (bel_a w (.cells #[vt, vb] 31))
  have HT := Lib.hid ht
  have HL := Lib.hid hl
  have HCS := Lib.hid hc
  clear ht hl hc
  go_enter Tryz.func69, Tryz.ntmps69
  go_upto_region 1 with (at_builtin; fail)
  generalize w.alloc (.cells #[vt, vb] 31) = W at *
  obtain ⟨bx, hbx⟩ : ∃ bx, bx = w.heap.size := ⟨_, rfl⟩
  rw [← hbx] at HX ⊢
  have HBX := Lib.hid hbx
  clear hbx
  have g0 := HX.out.cell 0
  have g1 := HX.out.cell 1
  simp only [List.getElem?_cons_zero, List.getElem?_cons_succ] at g0 g1
  cases hok : runOk ts l most
  · rw [hok] at HRI
    have HNO := Lib.hid hok
    clear hok
    go_wp2_with (at_builtin; fail)
    refine HRI.out.mono ?_
    rintro e w1 ⟨rfl, hb1⟩
    have HB1 := Lib.hid (HB0.out.trans (hb1.mono HB0.out.size))
    clear hb1 g0 g1
    go_wp2_with (at_builtin; fail)
    have HP : Hid (progX ts l cs most = (5, 0)) := Lib.hid (by unfold progX; rw [HNO.out]; rfl)
    go_ret2
    exact ⟨by rw [HP.out]; rfl, HB1.out⟩
  · rw [hok] at HRI
    obtain ⟨hv, m, rfl, hm⟩ := runOk_parts hok
    have HOK := Lib.hid hok
    clear hok
    go_wp2_with (at_builtin; fail)
    refine HRI.out.mono ?_
    rintro e w1 ⟨rfl, hb1⟩
    have HB1 := Lib.hid (HB0.out.trans (hb1.mono HB0.out.size))
    have HX1 := Lib.hid (HX.out.low hb1 HX.out.lt)
    clear hb1 g0 g1
    have g0 := HX1.out.cell 0
    have g1 := HX1.out.cell 1
    simp only [List.getElem?_cons_zero, List.getElem?_cons_succ] at g0 g1
    have HCR := Lib.hid (l7Run_any vt vb vc ts l cs m B w1 (HT.out.low HB1.out hB) (HL.out.low HB1.out hB) (HCS.out.low HB1.out hB) (Nat.le_trans hB HB1.out.size) hv hm)
    obtain ⟨R, hR⟩ : ∃ R, R = runX ts l cs m := ⟨_, rfl⟩
    rw [← hR] at HCR
    have HRE := Lib.hid hR
    clear hR hv
    go_wp2_with (at_builtin; fail)
    refine HCR.out.mono ?_
    rintro e w2 ⟨vs, vc', vl, rfl, hs2, ok2, hb2⟩
    have HB2 := Lib.hid (HB1.out.trans (hb2.mono HB1.out.size))
    have HS2 := Lib.hid hs2
    have OK2 := Lib.hid ok2
    obtain ⟨A2a, c2a, rfl, -⟩ := hs2.sl.slice
    obtain ⟨A2b, c2b, rfl, -⟩ := hs2.ce.slice
    obtain ⟨A2c, c2c, rfl, -⟩ := hs2.rd.slice
    clear hs2 ok2 hb2 g0 g1
    have HP : Hid (progX ts l cs (m : Nat) = R.2) := Lib.hid (by unfold progX; rw [HOK.out]; rw [HRE.out]; rfl)
    go_wp2_with (at_builtin; fail)
    go_ret2
    exact ⟨by rw [HP.out]; rfl, HB2.out.alloc HB2.out.size _⟩

end Go.Proofs.YtfioaohadanjmaaGreat
