import Derived.Test.YtfioaohadanjmaaA42
import Derived.Test.YtfioaohadanjmaaA44
set_option linter.unusedVariables false

/- Issues: spec.CheckPlain. -/
namespace Go.Proofs.Ytfioaohadanjmaa
open Go.RowKit

theorem ORw.toR {w : World} {base : Nat} {v : Value} {vs : List Value} {rows : List (List Bool)} (h : ORw w base v vs rows) (h6 : ∀ i, i < rows.length → (rows.getD i []).length ≤ 1000) : RwX w Any v rows := by
  rcases h.own.2 with ⟨rfl, h0⟩ | ⟨g, cap, cur, rfl, hb, hh, hc, hm, hsz, htk⟩
  · exact ⟨none, 0, fun _ => .slice none 0 0, by rw [h0], by omega, fun hn => by omega, fun i hi => by omega⟩
  · refine ⟨_, cap, fun i => vs.getD i (.slice none 0 0), rfl, hc, fun hn => ⟨g, 0, rfl, trivial, (h.own.lt g rfl).2, fun i hi => ?_⟩, fun i hi => ?_⟩
    · rw [Nat.zero_add]
      refine (World.ownsRow.cellAt h.own i (by omega)).trans ?_
      show vs[i]? = some (vs.getD i (.slice none 0 0))
      rw [List.getElem?_eq_getElem (by rw [h.len]; exact hi), getD_lt (by rw [h.len]; exact hi)]
    · exact BoolS.toX ((h.row i hi).toS (by have := h6 i hi; omega))
theorem ORw.bel2 {w w' : World} {base : Nat} {v : Value} {vs : List Value} {rows : List (List Bool)} (h : ORw w base v vs rows) (hb : Below w.heap.size w w') : ORw w' base v vs rows :=
  ⟨h.own.kept (grown_bel hb (Nat.le_refl _) none) (by cases v.ownBlock <;> simp), h.len, fun i hi => (h.row i hi).bel hb⟩
theorem ORw.slice2 {w : World} {base : Nat} {v : Value} {vs : List Value} {rows : List (List Bool)} (h : ORw w base v vs rows) : ∃ A c, v = .slice A rows.length c ∧ rows.length ≤ c := by
  rcases h.own.2 with ⟨rfl, h0⟩ | ⟨g, cap, cur, rfl, _, _, hc, _⟩
  · exact ⟨none, 0, by rw [h0], by omega⟩
  · exact ⟨_, cap, rfl, hc⟩
set_option maxHeartbeats 8000000 in
set_option maxRecDepth 100000 in
theorem sCheckPlain_any (vt vb : Value) (ts : List Int) (l : List St) (B : Nat) (w : World) (ht : IntS w B vt ts) (hl : StS w B vb l) (hB : B ≤ w.heap.size) (hsz : szL l ≤ 4194300) :
    Calls Try.prog 18 #[.agg #[vt, vb]] w (CkRet w (plainRes ts l)) := by
  have HBX := Lib.hid (Boxed.new ht hl hB 30)
  obtain ⟨At, ct, rfl, hct, -, -⟩ := ht
  obtain ⟨Ab, cb, rfl, hcb⟩ := hl.slice
  clear hl
  go_enter Try.func18, Try.ntmps18
  go_wp2_with fail
  refine (sProgramValid_any _ _ ts l B _ HBX.out.ht HBX.out.hl (by have := HBX.out.lt; omega) (by omega)).mono ?_
  rintro e w1 ⟨rfl, hb1⟩
  have HB1 := Lib.hid (HBX.out.bels hb1 hB)
  have c0 := HB1.out.c0
  have c1 := HB1.out.c1
  clear hb1 HBX
  cases hok : validP ts l
  · have HRES : Hid (plainRes ts l = []) := Lib.hid (by unfold plainRes; rw [hok]; rfl)
    clear hok
    go_wp2_with fail
    go_ret
    exact ⟨_, rfl, by rw [HRES.out]; exact OIs.empty w1 w.heap.size HB1.out.bel.size, HB1.out.bel.trans ((bel_a _ _).mono HB1.out.bel.size)⟩
  · have G := Good.of_valid hok
    have HV := Lib.hid hok
    have GD := Lib.hid G
    have h6 := G.h6
    have hlen := G.len
    have HRES : Hid (plainRes ts l = chkL ts (ptsP l) (LvVal ts (ptsP l)) (ptsP l).length) := Lib.hid (by unfold plainRes; rw [if_pos hok])
    have HSX := Lib.hid (fun k (hk : k < (ptsP l).length) => (G.ok ((ptsP l)[k]'hk) (List.getElem_mem (h := hk))).sets)
    clear hok G
    go_wp2_with (at_builtin; fail)
    refine (l2Points_any _ _ l B w1 HB1.out.hl (by have := HB1.out.lt; omega) hsz).mono ?_
    rintro e w2 ⟨vp, rfl, hps, hb2⟩
    have HB2 := Lib.hid (HB1.out.bels hb2 hB)
    have HPS := Lib.hid hps
    obtain ⟨Ap, cp, rfl, hcp, -⟩ := hps.slice
    clear hb2 hps c0 c1
    have c0 := HB2.out.c0
    have c1 := HB2.out.c1
    go_wp2_with (at_builtin; fail)
    refine (l3Forward_any _ _ false ts l B w2 HB2.out.ht HB2.out.hl (by have := HB2.out.lt; omega) HV.out).mono ?_
    rintro e w3 ⟨G3, S3, vs3, rows3, seen3, vq3, rfl, hG3, hfq3, hrl3, hac3, hb3⟩
    have HR3 := Lib.hid (hfq3.toR (fun i hi => by rw [(hac3 i (by omega)).1]; omega))
    rw [hrl3] at HR3
    have HA3 := Lib.hid hac3
    have HRL3 := Lib.hid hrl3
    have HB3 := Lib.hid (HB2.out.bels hb3 hB)
    have HPS3 := Lib.hid ((HPS.out.imp (Kp.of_bel hb3)).more hb3.size)
    clear hfq3 hac3 hb3 c0 c1 hG3 hrl3
    have HOE := Lib.hid (ORw.empty w3 w3.heap.size (Nat.le_refl _))
    have HBE := Lib.hid (HB3.out.bels (bel_a w3 (.cells #[] 59)) hB)
    have HBA := Lib.hid (bel_a w3 (.cells #[] 59))
    have c0 := HBE.out.c0
    have c1 := HBE.out.c1
    go_wp2_with (at_builtin; fail)
    generalize w3.alloc (.cells #[] 59) = w4 at *
    have hs34 := HBA.out.size
    generalize hpts : ptsP l = pts at *
    have HPE := Lib.hid hpts
    clear hpts c0 c1
    go_loopw [5, 6] (fun v i wr => ∃ (k : Nat) (vs : List Value) (rows : List (List Bool)), k ≤ pts.length ∧ i = .int .i64 k ∧ rows.length = k ∧ ORw wr w3.heap.size v vs rows ∧ (∀ j, j < k → (rows.getD j []).length = ts.length ∧ ∀ v, v < ts.length → ((rows.getD j []).getD v false = true ↔ LvVal ts pts j v)) ∧ Below w3.heap.size w3 wr) (fun _ i _ => pts.length - (intOf i).toNat)
    case atStart => exact ⟨0, [], [], Nat.zero_le _, rfl, rfl, HOE.out, fun j hj => by omega, HBA.out⟩
    case round =>
      obtain ⟨k, vs, rows, hk, rfl, hrl, hO, hrv, hbw⟩ := hrel
      have HO := Lib.hid hO
      have HRV := Lib.hid hrv
      have HBW := Lib.hid hbw
      have HRL := Lib.hid hrl
      obtain ⟨Ao, co, rfl, hco⟩ := hO.slice2
      rw [hrl] at hco HO ⊢
      have HXW := Lib.hid (show Boxed w wr B (.slice At ts.length ct) (.slice Ab l.length cb) ts l from ⟨HB3.out.bel.trans (hbw.mono HB3.out.bel.size), by have := hbw.size; have := HB3.out.lt; omega, (hbw.cell (p := ⟨w.heap.size, 0, none⟩) HB3.out.lt).trans HB3.out.c0, (hbw.cell (p := ⟨w.heap.size, 1, none⟩) HB3.out.lt).trans HB3.out.c1, HB3.out.ht.low hbw (by have := HB3.out.lt; omega), HB3.out.hl.low hbw (by have := HB3.out.lt; omega)⟩)
      have c0 := HXW.out.c0
      have c1 := HXW.out.c1
      have hsw := hbw.size
      clear hO hrv hbw hrl
      by_cases hlt : k < pts.length
      · have hptw : PtS wr w3.heap.size (.slice Ap pts.length cp) pts := HPS3.out.low HBW.out (Nat.le_refl _)
        obtain ⟨bp, op, cp9, nv, e, hbp, -, -, hnx, p0, p1, p2, p3, p4⟩ := hptw.get hlt
        injection e with e1 e9 e2
        subst e1 e2
        obtain ⟨An, cn, rfl, hcn, hln, -⟩ := hnx
        simp only [List.length_map] at p4 hcn hln
        have HR3L : Hid ((rows3.getD k []).length = ts.length) := Lib.hid (HA3.out k hlt).1
        obtain ⟨bo3, oo3, rv3, e3, -, hbo3, -, d3, hrow3⟩ := HR3.out.at_ (i := k) (by rw [HRL3.out]; exact hlt)
        injection e3 with e3
        injection e3 with e3 e4
        subst e3 e4
        obtain ⟨A3, c3, rfl, hc3⟩ := hrow3.slice
        have HROW3 := Lib.hid (hrow3.toS.low HBW.out (Nat.le_refl _))
        rw [HR3L.out] at hc3 d3 HROW3
        rw [Nat.zero_add] at d3
        have r3 := (HBW.out.cell (p := ⟨G3, k, none⟩) hbo3).trans d3
        have HVV : Hid (∀ v, v < ts.length → (vlB ts pts[k] ((rows3.getD k []).getD v false) v = true ↔ LvVal ts pts k v)) := Lib.hid fun v hv => by
          have := (HA3.out k hlt).2 v hv
          unfold rget at this
          rw [this]
          unfold vlB LvVal
          rw [List.getElem?_eq_getElem hlt]
          constructor
          · intro h
            rw [Bool.or_eq_true, Bool.and_eq_true] at h
            refine ⟨_, rfl, ?_⟩
            rcases h with ⟨h1, h2⟩ | h
            · exact .inl ⟨dec_iff.1 (by revert h1; cases dec (Ac false ts pts 0 k v) <;> simp), by simpa using h2⟩
            · exact .inr (of_decide_eq_true h)
          · rintro ⟨p, hp, h⟩
            injection hp with hp
            subst hp
            rw [Bool.or_eq_true, Bool.and_eq_true]
            rcases h with ⟨h1, h2⟩ | h
            · exact .inl ⟨by rw [dec_true h1]; rfl, by simpa using h2⟩
            · exact .inr (decide_eq_true h)
        have HSK := Lib.hid (HSX.out k hlt)
        generalize hPk : pts[k] = P at *
        clear hPk e9 hrow3 d3
        have HAF := Lib.hid (fun (wz : World) (hz : Below wr.heap.size wr wz) => l3After_any (.slice At ts.length ct) (.slice A3 ts.length c3) (.slice An P.next.length cn) ts (rows3.getD k []) P B w3.heap.size wz (HXW.out.ht.low hz (by have := HXW.out.lt; omega)) (HROW3.out.low hz hsw) (by have := hz.size; have := HXW.out.lt; omega) (by have := hz.size; omega) HR3L.out (by omega) HSK.out)
        have tok1 : True := trivial
        go_wp2_with (at_builtin; fail)
        go_region_law (first
          | (have _t := tok1; go_simp; go_at_call 42; refine (HAF.out _ (Below.refl _ _).drew).mono ?_; rintro e w8 ⟨v8, r8, rfl, ho8, hl8, hv8, hb8⟩; clear tok1 _t; (obtain ⟨A8, c8, rfl, hc8⟩ := ho8.slice); (have HB8 := Lib.hid ((Below.refl wr.heap.size wr).drew.trans hb8)); (have HBA8 := Lib.hid (bel_a w8 (.cells #[.slice A8 r8.length c8] 59))); (have hs8 := HB8.out.size); (have HO8 := Lib.hid ((HO.out.bel2 HB8.out).bel2 HBA8.out)); (have HR8 := Lib.hid ((ho8.base (show w3.heap.size ≤ wr.drew.heap.size from hsw)).bel HBA8.out)); (have HC8 : Hid ((w8.alloc (.cells #[.slice A8 r8.length c8] 59)).cell? ⟨w8.heap.size, 0, none⟩ = some (.slice A8 r8.length c8)) := Lib.hid (cell_of_row _ _ _ _ _ _ (heap_alloc_new w8 _))); (have HL8 := Lib.hid hl8); (have HV8 := Lib.hid hv8); clear ho8 hl8 hv8 hb8)
          | (refine step_push_orw (by rfl) (.tmp 22) (.tmp 34) (by rfl) HO8.out (by simp; omega) (by have := HRL.out; omega) _ r8 HR8.out (by simp [Act.eval]) (by simp [Act.eval]) HC8.out ?_; intro v9 w9 hP9 hE9; (have HP9 := Lib.hid hP9); (have HB9 := Lib.hid ((HBA8.out.mono (show w3.heap.size ≤ w8.heap.size by omega)).trans hE9)); clear hP9 hE9)
          | fail)
        all_goals
          have HNEW : Hid (∀ j, j < k + 1 → ((rows ++ [r8]).getD j []).length = ts.length ∧ ∀ v, v < ts.length → (((rows ++ [r8]).getD j []).getD v false = true ↔ LvVal ts pts j v)) := Lib.hid fun j hj => by
            by_cases hjk : j < k
            · rw [show (rows ++ [r8]).getD j [] = rows.getD j [] by rw [getD_lt (by rw [List.length_append, HRL.out]; simp; omega), getD_lt (by rw [HRL.out]; exact hjk), List.getElem_append_left (by rw [HRL.out]; exact hjk)]]
              exact HRV.out j hjk
            · obtain rfl : j = k := by omega
              rw [show (rows ++ [r8]).getD j [] = r8 by rw [getD_lt (by rw [List.length_append, HRL.out]; simp), List.getElem_append_right (by rw [HRL.out]; exact Nat.le_refl _)]; simp [HRL.out]]
              refine ⟨by rw [HL8.out, HR3L.out], fun v hv => ?_⟩
              rw [HV8.out v (by rw [HR3L.out]; exact hv)]
              exact HVV.out v hv
          have HLN : Hid ((rows ++ [r8]).length = k + 1) := Lib.hid (by rw [List.length_append, HRL.out]; rfl)
          have HBZ := Lib.hid (HBW.out.trans ((HB8.out.mono hsw).trans HB9.out))
          go_wp2_with (at_builtin; fail)
          exact ⟨⟨k + 1, _, _, by omega, by go_num, HLN.out, HP9.out, HNEW.out, HBZ.out⟩, by simp [intOf] <;> omega⟩
      · have hke : k = pts.length := by omega
        subst hke
        have HFIN := Lib.hid (HO.out.toR (fun i hi => by have := (HRV.out i (by rw [← HRL.out]; exact hi)).1; omega))
        have HCK := Lib.hid (l5Check_any (.slice At ts.length ct) (.slice Ab l.length cb) (.slice Ao pts.length co) ts l rows (LvVal ts pts) B wr HXW.out.ht HXW.out.hl (by have := HXW.out.lt; omega) HV.out HFIN.out (by rw [HPE.out]; exact HRL.out) (by rw [HPE.out]; exact HRV.out))
        rw [HPE.out] at HCK
        go_wp2_with (at_builtin; fail)
        refine HCK.out.mono ?_
        rintro e w6 ⟨v6, rfl, ho6, hb6⟩
        go_wp2_with (at_builtin; fail)
        go_ret
        refine ⟨v6, rfl, ?_, HXW.out.bel.trans (hb6.mono HXW.out.bel.size)⟩
        rw [HRES.out]
        exact ho6.base HXW.out.bel.size

end Go.Proofs.Ytfioaohadanjmaa
