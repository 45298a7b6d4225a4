import Derived.Test.YteibhhecgcipiaaGreatG50
import Derived.Test.YteibhhecgcipiaaGreatG52
import Derived.Test.YteibhhecgcipiaaGreatG29
import Derived.Test.YteibhhecgcipiaaGreatG33
import Derived.Test.YteibhhecgcipiaaGreatG27
set_option linter.unusedVariables false

/- Issues: spec.CheckPlain. -/
namespace Go.Proofs.YteibhhecgcipiaaGreat
open Go.RowKit

theorem ORw.toR {w : World} {base : Nat} {v : Value} {vs : List Value} {rows : List (List Bool)} (h : ORw w base v vs rows) (h6 : ∀ i, i < rows.length → (rows.getD i []).length ≤ 1000) : RwX w Any v rows := by
  rcases h.own.2 with ⟨rfl, h0⟩ | ⟨g, cap, cur, rfl, hb, hh, hc, hm, hsz, htk⟩
  · exact ⟨none, 0, fun _ => .slice none 0 0, by rw [h0], by omega, fun hn => by omega, fun i hi => by omega⟩
  · refine ⟨_, cap, fun i => vs.getD i (.slice none 0 0), rfl, hc, fun hn => ⟨g, 0, rfl, trivial, (h.own.lt g rfl).2, fun i hi => ?_⟩, fun i hi => ?_⟩
    · rw [Nat.zero_add]
      refine (World.ownsRow.cellAt h.own i (by omega)).trans ?_
      show vs[i]? = some (vs.getD i (.slice none 0 0))
      rw [List.getElem?_eq_getElem (by rw [h.len]; exact hi), getD_lt (by rw [h.len]; exact hi)]
    · exact BoolS.toX ((h.row i hi).toS (by have := h6 i hi; omega))
theorem ORw.bel2 {w w' : World} {base : Nat} {v : Value} {vs : List Value} {rows : List (List Bool)} (h : ORw w base v vs rows) (hb : Below w.heap.size w w') : ORw w' base v vs rows :=
  ⟨h.own.kept (grown_bel hb (Nat.le_refl _) none) (by cases v.ownBlock <;> simp), h.len, fun i hi => (h.row i hi).bel hb⟩
theorem ORw.slice2 {w : World} {base : Nat} {v : Value} {vs : List Value} {rows : List (List Bool)} (h : ORw w base v vs rows) : ∃ A c, v = .slice A rows.length c ∧ rows.length ≤ c := by
  rcases h.own.2 with ⟨rfl, h0⟩ | ⟨g, cap, cur, rfl, _, _, hc, _⟩
  · exact ⟨none, 0, by rw [h0], by omega⟩
  · exact ⟨_, cap, rfl, hc⟩
set_option maxHeartbeats 8000000 in
set_option maxRecDepth 100000 in
theorem sCheckPlain_any (vt vb : Value) (ts : List Int) (l : List St) (B : Nat) (w : World) (ht : IntS w B vt ts) (hl : StS w B vb l) (hB : B ≤ w.heap.size) (hsz : szL l ≤ 4194300) :
    Calls Tryz.prog 11 #[.agg #[vt, vb]] w (CkRet w (plainRes ts l)) := by
  have HBX := Lib.hid (Boxed.new ht hl hB 26)
  obtain ⟨At, ct, rfl, hct, -, -⟩ := ht
  obtain ⟨Ab, cb, rfl, hcb⟩ := hl.slice
  clear hl
  go_enter Tryz.func11, Tryz.ntmps11
  go_wp2_with fail
  refine (sProgramValid_any _ _ ts l B _ HBX.out.ht HBX.out.hl (by have := HBX.out.lt; omega) (by omega)).mono ?_
  rintro e w1 ⟨rfl, hb1⟩
  have HB1 := Lib.hid (HBX.out.bels hb1 hB)
  have c0 := HB1.out.c0
  have c1 := HB1.out.c1
  clear hb1 HBX
  cases hok : validP ts l
  · have HRES : Hid (plainRes ts l = []) := Lib.hid (by unfold plainRes; rw [hok]; rfl)
    clear hok
    go_wp2_with fail
    go_ret
    exact ⟨_, rfl, by rw [HRES.out]; exact OIs.empty w1 w.heap.size HB1.out.bel.size, HB1.out.bel.trans ((bel_a _ _).mono HB1.out.bel.size)⟩
  · have G := Good.of_valid hok
    have HV := Lib.hid hok
    have GD := Lib.hid G
    have h6 := G.h6
    have hlen := G.len
    have HRES : Hid (plainRes ts l = chkL ts (ptsP l) (LvVal ts (ptsP l)) (ptsP l).length) := Lib.hid (by unfold plainRes; rw [if_pos hok])
    have HSX := Lib.hid (fun k (hk : k < (ptsP l).length) => (G.ok ((ptsP l)[k]'hk) (List.getElem_mem (h := hk))).sets)
    clear hok G
    go_wp2_with (at_builtin; fail)
    refine (l2Points_any _ _ l B w1 HB1.out.hl (by have := HB1.out.lt; omega) hsz).mono ?_
    rintro e w2 ⟨vp, rfl, hps, hb2⟩
    have HB2 := Lib.hid (HB1.out.bels hb2 hB)
    have HPS := Lib.hid hps
    obtain ⟨Ap, cp, rfl, hcp, -⟩ := hps.slice
    clear hb2 hps c0 c1
    have c0 := HB2.out.c0
    have c1 := HB2.out.c1
    go_wp2_with (at_builtin; fail)
    refine (l3Forward_any _ _ false ts l B w2 HB2.out.ht HB2.out.hl (by have := HB2.out.lt; omega) HV.out).mono ?_
    rintro e w3 ⟨G3, S3, vs3, rows3, seen3, vq3, rfl, hG3, hfq3, hrl3, hac3, hb3⟩
    have HR3 := Lib.hid (hfq3.toR (fun i hi => by rw [(hac3 i (by omega)).1]; omega))
    rw [hrl3] at HR3
    have HA3 := Lib.hid hac3
    have HRL3 := Lib.hid hrl3
    have HB3 := Lib.hid (HB2.out.bels hb3 hB)
    have HPS3 := Lib.hid ((HPS.out.imp (Kp.of_bel hb3)).more hb3.size)
    clear hfq3 hac3 hb3 c0 c1 hG3 hrl3
    have HOE := Lib.hid (ORw.empty w3 w3.heap.size (Nat.le_refl _))
    have HBE := Lib.hid (HB3.out.bels (bel_a w3 (.cells #[] 73)) hB)
    have HBA := Lib.hid (bel_a w3 (.cells #[] 73))
    have c0 := HBE.out.c0
    have c1 := HBE.out.c1
    go_wp2_with (at_builtin; fail)
    generalize w3.alloc (.cells #[] 73) = w4 at *
    have hs34 := HBA.out.size
    generalize hpts : ptsP l = pts at *
    have HPE := Lib.hid hpts
    clear hpts c0 c1
    go_loopw [5, 6] (fun v i wr => ∃ (k : Nat) (vs : List Value) (rows : List (List Bool)), k ≤ pts.length ∧ i = .int .i64 k ∧ rows.length = k ∧ ORw wr w3.heap.size v vs rows ∧ (∀ j, j < k → (rows.getD j []).length = ts.length ∧ ∀ v, v < ts.length → ((rows.getD j []).getD v false = true ↔ LvVal ts pts j v)) ∧ Below w3.heap.size w3 wr) (fun _ i _ => pts.length - (intOf i).toNat)
    case atStart => exact ⟨0, [], [], Nat.zero_le _, rfl, rfl, HOE.out, fun j hj => by omega, HBA.out⟩
    case round =>
      obtain ⟨k, vs, rows, hk, rfl, hrl, hO, hrv, hbw⟩ := hrel
      have HO := Lib.hid hO
      have HRV := Lib.hid hrv
      have HBW := Lib.hid hbw
      have HRL := Lib.hid hrl
      obtain ⟨Ao, co, rfl, hco⟩ := hO.slice2
      rw [hrl] at hco HO ⊢
      have HXW := Lib.hid (show Boxed w wr B (.slice At ts.length ct) (.slice Ab l.length cb) ts l from ⟨HB3.out.bel.trans (hbw.mono HB3.out.bel.size), by have := hbw.size; have := HB3.out.lt; omega, (hbw.cell (p := ⟨w.heap.size, 0, none⟩) HB3.out.lt).trans HB3.out.c0, (hbw.cell (p := ⟨w.heap.size, 1, none⟩) HB3.out.lt).trans HB3.out.c1, HB3.out.ht.low hbw (by have := HB3.out.lt; omega), HB3.out.hl.low hbw (by have := HB3.out.lt; omega)⟩)
      have c0 := HXW.out.c0
      have c1 := HXW.out.c1
      have hsw := hbw.size
      clear hO hrv hbw hrl
      by_cases hlt : k < pts.length
      · have hptw : PtS wr w3.heap.size (.slice Ap pts.length cp) pts := HPS3.out.low HBW.out (Nat.le_refl _)
        obtain ⟨bp, op, cp9, nv, e, hbp, -, -, hnx, p0, p1, p2, p3, p4⟩ := hptw.get hlt
        injection e with e1 e9 e2
        subst e1 e2
        obtain ⟨An, cn, rfl, hcn, hln, -⟩ := hnx
        simp only [List.length_map] at p4 hcn hln
        have HR3L : Hid ((rows3.getD k []).length = ts.length) := Lib.hid (HA3.out k hlt).1
        obtain ⟨bo3, oo3, rv3, e3, -, hbo3, -, d3, hrow3⟩ := HR3.out.at_ (i := k) (by rw [HRL3.out]; exact hlt)
        injection e3 with e3
        injection e3 with e3 e4
        subst e3 e4
        obtain ⟨A3, c3, rfl, hc3⟩ := hrow3.slice
        have HROW3 := Lib.hid (hrow3.toS.low HBW.out (Nat.le_refl _))
        rw [HR3L.out] at hc3 d3 HROW3
        rw [Nat.zero_add] at d3
        have r3 := (HBW.out.cell (p := ⟨G3, k, none⟩) hbo3).trans d3
        have HVV : Hid (∀ v, v < ts.length → (vlB ts pts[k] ((rows3.getD k []).getD v false) v = true ↔ LvVal ts pts k v)) := Lib.hid fun v hv => by
          have := (HA3.out k hlt).2 v hv
          unfold rget at this
          rw [this]
          unfold vlB LvVal
          rw [List.getElem?_eq_getElem hlt]
          constructor
          · intro h
            rw [Bool.or_eq_true, Bool.and_eq_true] at h
            refine ⟨_, rfl, ?_⟩
            rcases h with ⟨h1, h2⟩ | h
            · exact .inl ⟨dec_iff.1 (by revert h1; cases dec (Ac false ts pts 0 k v) <;> simp), by simpa using h2⟩
            · exact .inr (of_decide_eq_true h)
          · rintro ⟨p, hp, h⟩
            injection hp with hp
            subst hp
            rw [Bool.or_eq_true, Bool.and_eq_true]
            rcases h with ⟨h1, h2⟩ | h
            · exact .inl ⟨by rw [dec_true h1]; rfl, by simpa using h2⟩
            · exact .inr (decide_eq_true h)
        have HSK := Lib.hid (HSX.out k hlt)
        generalize hPk : pts[k] = P at *
        clear hPk e9 hrow3 d3
        have HAF := Lib.hid (fun (wz : World) (hz : Below wr.heap.size wr wz) => l3After_any (.slice At ts.length ct) (.slice A3 ts.length c3) (.slice An P.next.length cn) ts (rows3.getD k []) P B w3.heap.size wz (HXW.out.ht.low hz (by have := HXW.out.lt; omega)) (HROW3.out.low hz hsw) (by have := hz.size; have := HXW.out.lt; omega) (by have := hz.size; omega) HR3L.out (by omega) HSK.out)
        have tok1 : True := trivial
        go_wp2_with (at_builtin; fail)
        go_region_law (first
          | (have _t := tok1; go_simp; go_at_call 43; refine (HAF.out _ (Below.refl _ _).drew).mono ?_; rintro e w8 ⟨v8, r8, rfl, ho8, hl8, hv8, hb8⟩; clear tok1 _t; (obtain ⟨A8, c8, rfl, hc8⟩ := ho8.slice); (have HB8 := Lib.hid ((Below.refl wr.heap.size wr).drew.trans hb8)); (have HBA8 := Lib.hid (bel_a w8 (.cells #[.slice A8 r8.length c8] 73))); (have hs8 := HB8.out.size); (have HO8 := Lib.hid ((HO.out.bel2 HB8.out).bel2 HBA8.out)); (have HR8 := Lib.hid ((ho8.base (show w3.heap.size ≤ wr.drew.heap.size from hsw)).bel HBA8.out)); (have HC8 : Hid ((w8.alloc (.cells #[.slice A8 r8.length c8] 73)).cell? ⟨w8.heap.size, 0, none⟩ = some (.slice A8 r8.length c8)) := Lib.hid (cell_of_row _ _ _ _ _ _ (heap_alloc_new w8 _))); (have HL8 := Lib.hid hl8); (have HV8 := Lib.hid hv8); clear ho8 hl8 hv8 hb8)
          | (refine step_push_orw (by rfl) (.tmp 22) (.tmp 34) (by rfl) HO8.out (by simp; omega) (by have := HRL.out; omega) _ r8 HR8.out (by simp [Act.eval]) (by simp [Act.eval]) HC8.out ?_; intro v9 w9 hP9 hE9; (have HP9 := Lib.hid hP9); (have HB9 := Lib.hid ((HBA8.out.mono (show w3.heap.size ≤ w8.heap.size by omega)).trans hE9)); clear hP9 hE9)
          | fail)
        all_goals
          have HNEW : Hid (∀ j, j < k + 1 → ((rows ++ [r8]).getD j []).length = ts.length ∧ ∀ v, v < ts.length → (((rows ++ [r8]).getD j []).getD v false = true ↔ LvVal ts pts j v)) := Lib.hid fun j hj => by
            by_cases hjk : j < k
            · rw [show (rows ++ [r8]).getD j [] = rows.getD j [] by rw [getD_lt (by rw [List.length_append, HRL.out]; simp; omega), getD_lt (by rw [HRL.out]; exact hjk), List.getElem_append_left (by rw [HRL.out]; exact hjk)]]
              exact HRV.out j hjk
            · obtain rfl : j = k := by omega
              rw [show (rows ++ [r8]).getD j [] = r8 by rw [getD_lt (by rw [List.length_append, HRL.out]; simp), List.getElem_append_right (by rw [HRL.out]; exact Nat.le_refl _)]; simp [HRL.out]]
              refine ⟨by rw [HL8.out, HR3L.out], fun v hv => ?_⟩
              rw [HV8.out v (by rw [HR3L.out]; exact hv)]
              exact HVV.out v hv
          have HLN : Hid ((rows ++ [r8]).length = k + 1) := Lib.hid (by rw [List.length_append, HRL.out]; rfl)
          have HBZ := Lib.hid (HBW.out.trans ((HB8.out.mono hsw).trans HB9.out))
          go_wp2_with (at_builtin; fail)
          exact ⟨⟨k + 1, _, _, by omega, by go_num, HLN.out, HP9.out, HNEW.out, HBZ.out⟩, by simp [intOf] <;> omega⟩
      · have hke : k = pts.length := by omega
        subst hke
        have HFIN := Lib.hid (HO.out.toR (fun i hi => by have := (HRV.out i (by rw [← HRL.out]; exact hi)).1; omega))
        have HCK := Lib.hid (l5Check_any (.slice At ts.length ct) (.slice Ab l.length cb) (.slice Ao pts.length co) ts l rows (LvVal ts pts) B wr HXW.out.ht HXW.out.hl (by have := HXW.out.lt; omega) HV.out HFIN.out (by rw [HPE.out]; exact HRL.out) (by rw [HPE.out]; exact HRV.out))
        rw [HPE.out] at HCK
        go_wp2_with (at_builtin; fail)
        refine HCK.out.mono ?_
        rintro e w6 ⟨v6, rfl, ho6, hb6⟩
        go_wp2_with (at_builtin; fail)
        go_ret
        refine ⟨v6, rfl, ?_, HXW.out.bel.trans (hb6.mono HXW.out.bel.size)⟩
        rw [HRES.out]
        exact ho6.base HXW.out.bel.size

end Go.Proofs.YteibhhecgcipiaaGreat

/- the draws of run paths, and of a program with loans and a point. -/
namespace Go.Proofs.YteibhhecgcipiaaGreat
open Go.RowKit

set_option maxHeartbeats 4000000
set_option maxRecDepth 100000

end Go.Proofs.YteibhhecgcipiaaGreat

/- the draws of a checked program, of regions and of loops. -/
namespace Go.Proofs.YteibhhecgcipiaaGreat
open Go.RowKit

set_option maxHeartbeats 4000000 in
set_option maxRecDepth 100000 in
theorem drawCheckProgram_any (A : Option Addr) (n c : Nat) (w : World) (hb : Byt w w.heap.size A n) (hn : n ≤ 1048576) (hc : n ≤ c) :
    Calls Tryz.prog 33 #[.slice A n c] w (DrRes w) := by
  have HB := Lib.hid hb
  clear hb
  go_enter Tryz.func33, Tryz.ntmps33
  go_wp2_with fail
  have hA := bel_a w (.cells #[.slice none 0 0, .slice none 0 0] 26)
  have hsA : (w.alloc (.cells #[.slice none 0 0, .slice none 0 0] 26)).heap.size = w.heap.size + 1 := by simp
  refine (l17Open_any A n c _ (by rw [hsA]; exact (HB.out.keep fun b o hb => hA.cell (p := ⟨b, o, none⟩) hb).more (by omega)) hn hc).mono ?_
  rw [hsA]
  rintro e w1 ⟨rfl, hd1, hb1⟩
  have hb1' : Below (w.alloc (.cells #[.slice none 0 0, .slice none 0 0] 26)).heap.size (w.alloc (.cells #[.slice none 0 0, .slice none 0 0] 26)) w1 := by rw [hsA]; exact hb1
  have hs1 : w.heap.size + 1 < w1.heap.size := hd1.lt
  have HR1 := Lib.hid (row_below (heap_alloc_new w (.cells #[.slice none 0 0, .slice none 0 0] 26)) hb1')
  have HB1 := Lib.hid (hA.trans (hb1.mono (by omega)))
  have HD1 := Lib.hid hd1
  clear hb1 hb1' hd1 hA hsA
  go_wp2_with fail
  refine (l1Draw_any (w.heap.size + 1) 0 _ HD1.out (by omega)).mono ?_
  rintro e wd ⟨vt0, vb0, ts0, l0, p0, rfl, hit0, hst0, hts0, hsz0, hp0, hd0, hg0⟩
  have hs0 := hg0.size
  have HD0 := Lib.hid hd0
  have HG0 := Lib.hid hg0
  have HIT0 := Lib.hid hit0
  have HST0 := Lib.hid hst0
  clear hit0 hst0 hd0 hg0
  go_wp2_with fail
  refine (mutate_any (w.heap.size + 1) p0 _ _ ts0 l0 _ _ HIT0.out.toS HST0.out.toS (Nat.le_refl _) hts0 hsz0 HD0.out (by omega)).mono ?_
  rintro e w2 ⟨vt, vb, ts, l, p2, rfl, hit', hst', hts, hsz, hp2, hd2, hg2'⟩
  have hg2 := grown_tr HG0.out hg2'
  have hit := hit'.frame (P' := fun b => w1.heap.size ≤ b) (Nat.le_refl _) fun b hb _ => ⟨by have hb' : wd.heap.size ≤ b := hb; show w1.heap.size ≤ b; omega, rfl⟩
  have hst := hst'.frame (P' := fun b => w1.heap.size ≤ b) (Nat.le_refl _) fun b hb _ => ⟨by have hb' : wd.heap.size ≤ b := hb; show w1.heap.size ≤ b; omega, rfl⟩
  clear hit' hst' hg2'
  have hs2 := hg2.size
  have HR2 := Lib.hid (row_grown HR1.out hg2 (by omega))
  have HB2 := Lib.hid (grown_new HB1.out (by omega) hg2)
  have HIT := Lib.hid hit
  have HST := Lib.hid hst
  obtain ⟨At, ct, rfl, -⟩ := hit.slice
  obtain ⟨Ab, cb, rfl, -⟩ := hst.slice
  clear hit hst hd2 hg2
  have z0 : w2.cell? ⟨w.heap.size, 0, none⟩ = some (.slice none 0 0) := by rw [cell_of_row _ _ _ _ _ _ HR2.out]; rfl
  have z1 : w2.cell? ⟨w.heap.size, 1, none⟩ = some (.slice none 0 0) := by rw [cell_of_row _ _ _ _ _ _ HR2.out]; rfl
  have zf0 := frozen_of_row w2 w.heap.size 0 _ _ HR2.out
  have zf1 := frozen_of_row w2 w.heap.size 1 _ _ HR2.out
  go_wp2_with fail
  exact bodyPost_ret (results_cell_row rfl _ _ w.heap.size 26 _ (0, 0) _ rfl (box2 HR2.out _ _).1 Tryz.underlying26 rfl rfl) rfl (dr_close HB2.out (box2 HR2.out _ _).2 (HIT.out.frame (Nat.le_refl _) fun b hb _ => ⟨by have hb' : w1.heap.size ≤ b := hb; show w.heap.size + 1 ≤ b; omega, rfl⟩) (HST.out.frame (Nat.le_refl _) fun b hb _ => ⟨by have hb' : w1.heap.size ≤ b := hb; show w.heap.size + 1 ≤ b; omega, rfl⟩) hts hsz)

end Go.Proofs.YteibhhecgcipiaaGreat

/- Issues: laws.bcIssues; spec.DrawCheckPlain. -/
namespace Go.Proofs.YteibhhecgcipiaaGreat
open Go.RowKit

set_option maxHeartbeats 4000000 in
set_option maxRecDepth 100000 in
theorem bcIssues_same (va vb : Value) (r : List Iss) (w : World) (ha : IsS w w.heap.size va r) (hb : IsS w w.heap.size vb r) :
    Calls Tryz.prog 10 #[va, vb] w fun e w' => e = .returned (.bool true) ∧ Below w.heap.size w w' := by
  have HA := Lib.hid ha
  have HS := Lib.hid hb
  obtain ⟨A, c, rfl, hc⟩ := ha.slice
  obtain ⟨A', c', rfl, hc'⟩ := hb.slice
  have hm : r.length ≤ 100000 := by obtain ⟨_, _, _, _, h, _⟩ := ha; exact h
  have hll : ((r.length : Int) != (r.length : Int)) = false := by simp
  clear ha hb
  go_enter Tryz.func10, Tryz.ntmps10
  go_wp2_with (at_builtin; fail)
  clear hll
  go_loopw [5] (fun i wr => ∃ j : Nat, j ≤ r.length ∧ i = .int .i64 j ∧ Below w.heap.size w wr) (fun i _ => r.length - (intOf i).toNat)
  case atStart => exact ⟨0, Nat.zero_le _, rfl, Below.refl _ _⟩
  case round =>
    obtain ⟨j, hj, rfl, hbw⟩ := hrel
    have HBW := Lib.hid hbw
    by_cases hjl : j < r.length
    · obtain ⟨b2, o2, rfl, hb2, x0, x1, x2⟩ := (HA.out.bel hbw).get hjl
      obtain ⟨b3, o3, rfl, hb3, y0, y1, y2⟩ := (HS.out.bel hbw).get hjl
      generalize r[j]'hjl = z at *
      clear hbw
      go_wp2_with (at_builtin; fail)
      refine wp_region_seq (Below wr.heap.size wr) (by kernel_rfl) (by kernel_rfl) (Below.refl _ _).drew ?_
      repeat (first
        | (refine SeqS.skip (by rfl) ?_; (try simp only [Act.put, List.setIfInBounds_toArray, List.set_cons_zero, List.set_cons_succ]))
        | (refine SeqS.pure (v := ?_) (by rfl) (fun w' hSw => ?_) ?_; rotate_left; (obtain ⟨hc9, hf9⟩ := bcell hSw; go_simp; with_reducible rfl); (try simp only [Act.put, List.setIfInBounds_toArray, List.set_cons_zero, List.set_cons_succ]))
        | fail)
      intro w2 hb2'
      go_wp2_with (at_builtin; fail)
      exact ⟨⟨j + 1, by omega, by go_num, HBW.out.trans (hb2'.mono HBW.out.size)⟩, by simp [intOf] <;> omega⟩
    · have hje : j = r.length := by omega
      subst hje
      go_wp2_with (at_builtin; fail)
      go_ret
      exact ⟨rfl, HBW.out⟩
set_option maxHeartbeats 4000000 in
set_option maxRecDepth 100000 in
theorem drawCheckPlain_any (A : Option Addr) (n c : Nat) (w : World) (hb : Byt w w.heap.size A n) (hn : n ≤ 1048576) (hc : n ≤ c) :
    Calls Tryz.prog 8 #[.slice A n c] w (DrRes w) := by
  have HB := Lib.hid hb
  clear hb
  go_enter Tryz.func8, Tryz.ntmps8
  go_wp2_with fail
  have hA := bel_a w (.cells #[.slice none 0 0, .slice none 0 0] 26)
  have hsA : (w.alloc (.cells #[.slice none 0 0, .slice none 0 0] 26)).heap.size = w.heap.size + 1 := by simp
  refine (drawCheckProgram_any A n c _ (by rw [hsA]; exact (HB.out.keep fun b o hb => hA.cell (p := ⟨b, o, none⟩) hb).more (by omega)) hn hc).mono ?_
  rintro e w1 ⟨vt, vb, ts, l, rfl, hit, hst, hts, hsz, hb1⟩
  rw [hsA] at hit hst
  have HR1 := Lib.hid (row_below (heap_alloc_new w (.cells #[.slice none 0 0, .slice none 0 0] 26)) hb1)
  have HB1 := Lib.hid (hA.trans (hb1.mono (by omega)))
  have hs1 : w.heap.size + 1 ≤ w1.heap.size := by rw [← hsA]; exact hb1.size
  have HIT := Lib.hid hit
  have HST := Lib.hid hst
  obtain ⟨At, ct, rfl, -⟩ := hit.slice
  obtain ⟨Ab, cb, rfl, -⟩ := hst.slice
  clear hb1 hA hsA hit hst
  have z0 : w1.cell? ⟨w.heap.size, 0, none⟩ = some (.slice none 0 0) := by rw [cell_of_row _ _ _ _ _ _ HR1.out]; rfl
  have z1 : w1.cell? ⟨w.heap.size, 1, none⟩ = some (.slice none 0 0) := by rw [cell_of_row _ _ _ _ _ _ HR1.out]; rfl
  have zf0 := frozen_of_row w1 w.heap.size 0 _ _ HR1.out
  have zf1 := frozen_of_row w1 w.heap.size 1 _ _ HR1.out
  go_wp2_with fail
  refine bodyPost_ret (results_cell_row rfl _ _ w.heap.size 26 _ (0, 0) _ rfl (box2 HR1.out _ _).1 Tryz.underlying26 rfl rfl) rfl ?_
  have HE := DsE.mk' HB1.out (box2 HR1.out (.slice At ts.length ct) (.slice Ab l.length cb)).2 HIT.out HST.out (by omega)
  exact ⟨_, _, ts, l, rfl, HE.ht, HE.hl, hts, hsz, HE.bel⟩

end Go.Proofs.YteibhhecgcipiaaGreat

/- the draws that only hand l3Place on; FnLiveStep. -/
namespace Go.Proofs.YteibhhecgcipiaaGreat
open Go.RowKit

set_option maxHeartbeats 4000000
set_option maxRecDepth 100000
end Go.Proofs.YteibhhecgcipiaaGreat

/- FnCheckPlain: the walk; impl.Accepts. -/
namespace Go.Proofs.YteibhhecgcipiaaGreat
open Go.RowKit

theorem plain_ok {ts : List Int} {l : List St} (h : (plainRes ts l).length = 0) : (chkRes ts l).length = 0 := by
  unfold plainRes at h
  unfold chkRes
  split
  · rename_i hv
    rw [if_pos hv] at h
    have := plain_more ts (ptsP l) (ptsP l).length
    omega
  · rfl
theorem plain_bad {ts : List Int} {l : List St} (h : validP ts l = false) : (plainRes ts l).length = 0 := by
  unfold plainRes
  rw [if_neg (by rw [h]; simp)]
  rfl

set_option maxHeartbeats 8000000
set_option maxRecDepth 100000
theorem iAccepts_any (vt vb : Value) (ts : List Int) (l : List St) (B : Nat) (w : World) (ht : IntS w B vt ts) (hl : StS w B vb l) (hB : B ≤ w.heap.size) (hsz : szL l ≤ 4194300) :
    Calls Tryz.prog 13 #[.agg #[vt, vb]] w fun e w' => e = .returned (.bool (validP ts l && decide ((chkRes ts l).length = 0))) ∧ Below w.heap.size w w' := by
  go_enter Tryz.func13, Tryz.ntmps13
  go_wp2_with fail
  refine (iProgramValid_any vt vb ts l w.heap.size _ ((ht.low (bel_a _ _) hB).more hB) ((hl.low (bel_a _ _) hB).more hB) (by simp) (by omega)).mono ?_
  rintro e w1 ⟨rfl, hb1⟩
  have HB1 := Lib.hid ((bel_a _ _).trans (hb1.mono (by simp)))
  have hc := box_kept hb1 (by simp)
  have hc0 := hc 0
  have hc1 := hc 1
  simp at hc0 hc1
  clear hb1 hc
  cases hv : validP ts l
  · have HV := Lib.hid hv
    clear hv
    go_wp2_with (at_builtin; fail)
    go_ret
    exact ⟨by rw [HV.out]; rfl, HB1.out⟩
  · have HV := Lib.hid hv
    clear hv
    go_wp2_with (at_builtin; fail)
    refine (iCheckProgram_any vt vb ts l w.heap.size w1 ((ht.low HB1.out hB).more hB) ((hl.low HB1.out hB).more hB) HB1.out.size hsz).mono ?_
    rintro e w2 ⟨v, rfl, hv2, hb2⟩
    have HB2 := Lib.hid (HB1.out.trans (hb2.mono HB1.out.size))
    have HV2 := Lib.hid (hv2.toS (by have := chkRes_len ts l; omega))
    clear hv2 hb2
    obtain ⟨L, HL⟩ : ∃ L, Hid (chkRes ts l = L) := ⟨_, Lib.hid rfl⟩
    rw [HL.out] at HV2
    obtain ⟨A2, c2, rfl, hc2⟩ := HV2.out.slice
    by_cases hz : L.length = 0
    · have HZ := Lib.hid hz
      have hz1 : ((L.length : Int) == 0) = true := by simp [hz]
      clear hz
      go_wp2_with (at_builtin; fail)
      go_ret
      exact ⟨ret_bool (by rw [HV.out, HL.out, decide_eq_true HZ.out]; rfl), HB2.out⟩
    · have HZ := Lib.hid hz
      have hz1 : ((L.length : Int) == 0) = false := by simpa using hz
      clear hz
      go_wp2_with (at_builtin; fail)
      go_ret
      exact ⟨ret_bool (by rw [HV.out, HL.out, decide_eq_false HZ.out]; rfl), HB2.out⟩

set_option maxHeartbeats 8000000
set_option maxRecDepth 100000
theorem fnCheckPlain_any (A : Option Addr) (n c : Nat) (w : World) (hb : Byt w w.heap.size A n) (hm : n ≤ maxLen) (hc : n ≤ c) :
    Calls Tryz.prog 3 #[.slice A n c] w (LawRet w) := by
  have HB := Lib.hid hb
  clear hb
  by_cases hn : n ≤ 1048576
  · go_enter Tryz.func3, Tryz.ntmps3
    go_wp2_with fail
    refine (drawCheckPlain_any A n c _ HB.out hn hc).mono ?_
    rintro e w1 ⟨vt, vb, ts, l, rfl, hit, hst, hts, hsz, hb1⟩
    have HP1 := Lib.hid (PgB.new hit hst hb1)
    obtain ⟨At, ct, rfl, hct⟩ := hit.slice
    obtain ⟨Ab, cb, rfl, hcb⟩ := hst.slice
    clear hit hst hb1
    go_wp2_with fail
    generalize w1.alloc (.cells #[.slice At ts.length ct, .slice Ab l.length cb] 26) = W1 at *
    obtain ⟨g, hg⟩ : ∃ g, g = w1.heap.size := ⟨_, rfl⟩
    rw [← hg] at HP1 ⊢
    clear hg
    refine (iCheckPlain_any _ _ ts l _ _ HP1.out.ht HP1.out.hl (Nat.le_refl _) (by omega)).mono ?_
    rintro e w2 ⟨v2, rfl, hv2, hb2⟩
    have HA_2 := Lib.hid (hv2.toS (by have := plainRes_len ts l; omega))
    clear hv2
    have HP2 := Lib.hid (HP1.out.bels hb2)
    have c0 := HP2.out.c0
    have c1 := HP2.out.c1
    clear hb2
    go_wp2_with (at_builtin; fail)
    refine (sCheckPlain_any _ _ ts l _ _ HP2.out.ht HP2.out.hl (Nat.le_refl _) (by omega)).mono ?_
    rintro e w3 ⟨v3, rfl, hv3, hb3⟩
    have HS_3 := Lib.hid (hv3.toS (by have := plainRes_len ts l; omega))
    clear hv3
    have HA_3 := Lib.hid (HA_2.out.bel hb3)
    have HP3 := Lib.hid (HP2.out.bels hb3)
    clear c0 c1
    have c0 := HP3.out.c0
    have c1 := HP3.out.c1
    clear hb3
    go_wp2_with fail
    refine (bcIssues_same _ _ _ _ HA_3.out HS_3.out).mono ?_
    rintro e w4 ⟨rfl, hb4⟩
    have HA_4 := Lib.hid (HA_3.out.bel hb4)
    have HP4 := Lib.hid (HP3.out.bels hb4)
    clear c0 c1
    have c0 := HP4.out.c0
    have c1 := HP4.out.c1
    clear hb4
    go_wp2_with (at_builtin; fail)
    refine (iProgramValid_any _ _ ts l _ _ HP4.out.ht HP4.out.hl (Nat.le_refl _) (by omega)).mono ?_
    rintro e w5 ⟨rfl, hb5⟩
    have HA_5 := Lib.hid (HA_4.out.bel hb5)
    have HP5 := Lib.hid (HP4.out.bels hb5)
    clear c0 c1
    have c0 := HP5.out.c0
    have c1 := HP5.out.c1
    clear hb5
    have HQ := Lib.hid (plain_ok (ts := ts) (l := l))
    have HBD := Lib.hid (plain_bad (ts := ts) (l := l))
    cases hv : validP ts l
    · have HZ : Hid ((plainRes ts l).length = 0) := Lib.hid (HBD.out hv)
      have HV := Lib.hid hv
      clear hv HQ HBD
      go_wp2_with (at_builtin; fail)
      refine (sCheckPlain_any _ _ ts l _ _ HP5.out.ht HP5.out.hl (Nat.le_refl _) (by omega)).mono ?_
      rintro e w6 ⟨v6, rfl, hv6, hb6⟩
      have HS_6 := Lib.hid (hv6.toS (by have := plainRes_len ts l; omega))
      clear hv6
      have HA_6 := Lib.hid (HA_5.out.bel hb6)
      have HP6 := Lib.hid (HP5.out.bels hb6)
      clear c0 c1
      have c0 := HP6.out.c0
      have c1 := HP6.out.c1
      clear hb6
      go_wp2_with fail
      refine (bcIssues_same _ _ _ _ HA_6.out HS_6.out).mono ?_
      rintro e w7 ⟨rfl, hb7⟩
      have HA_7 := Lib.hid (HA_6.out.bel hb7)
      have HP7 := Lib.hid (HP6.out.bels hb7)
      clear c0 c1
      have c0 := HP7.out.c0
      have c1 := HP7.out.c1
      clear hb7
      go_wp2_with (at_builtin; fail)
      refine (iProgramValid_any _ _ ts l _ _ HP7.out.ht HP7.out.hl (Nat.le_refl _) (by omega)).mono ?_
      rintro e w8 ⟨rfl, hb8⟩
      have HA_8 := Lib.hid (HA_7.out.bel hb8)
      have HP8 := Lib.hid (HP7.out.bels hb8)
      clear c0 c1
      have c0 := HP8.out.c0
      have c1 := HP8.out.c1
      clear hb8
      rw [HV.out]
      generalize plainRes ts l = LA at *
      have hLz : LA = [] := List.length_eq_zero_iff.1 HZ.out
      subst hLz
      obtain ⟨A2, c2, rfl, hc2⟩ := HA_8.out.slice
      go_wp2_with (at_builtin; fail)
      go_ret
      exact ⟨ret_bool (by simp), HP8.out.bel⟩
    · have HV := Lib.hid hv
      clear hv HBD
      generalize plainRes ts l = LA at *
      obtain ⟨A2, c2, rfl, hc2⟩ := HA_5.out.slice
      by_cases hz : 0 < LA.length
      · have hz1 : (0 : Int) < (LA.length : Int) := by omega
        go_wp2_with (at_builtin; fail)
        go_ret
        exact ⟨ret_bool (by simp), HP5.out.bel⟩
      · have HZ := Lib.hid (show LA.length = 0 by omega)
        have hz1 : ¬ (0 : Int) < (LA.length : Int) := by omega
        go_wp2_with (at_builtin; fail)
        refine (iAccepts_any _ _ ts l _ _ HP5.out.ht HP5.out.hl (Nat.le_refl _) (by omega)).mono ?_
        rintro e w6 ⟨rfl, hb6⟩
        have HP6 := Lib.hid (HP5.out.bels hb6)
        have HAC : Hid ((validP ts l && decide ((chkRes ts l).length = 0)) = true) := Lib.hid (by rw [HV.out, HQ.out HZ.out]; rfl)
        rw [HAC.out]
        clear hb6
        go_wp2_with (at_builtin; fail)
        go_ret
        exact ⟨ret_bool (by simp), HP6.out.bel⟩
  · have hn1 : (1048576 : Int) < n := by omega
    unfold maxLen at hm
    go_enter Tryz.func3, Tryz.ntmps3
    go_wp2_with fail
    go_ret
    exact ⟨rfl, Below.refl _ _⟩

end Go.Proofs.YteibhhecgcipiaaGreat
