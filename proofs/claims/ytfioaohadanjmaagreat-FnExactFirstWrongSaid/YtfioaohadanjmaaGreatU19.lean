import Derived.Test.YtfioaohadanjmaaGreatU18
set_option linter.unusedVariables false

/- impl.touch. -/
namespace Go.Proofs.YtfioaohadanjmaaGreat
open Go.RowKit Go.Lib

theorem OTg.take {w : World} {base n c g : Nat} {l : List Tg} (h : OTg w base (.slice (some ⟨g, 0, none⟩) n c) l) {m : Nat} (hn : n = l.length) (hm : m ≤ n) : OTg w base (.slice (some ⟨g, 0, none⟩) m c) (l.take m) := by
  have := h.cut hn hm [] (Nat.zero_le _)
  exact this
theorem TgS.drop {w : World} {B n c : Nat} {b off : Nat} {l : List Tg} (h : TgS w B (.slice (some ⟨b, off, none⟩) n c) l) (m : Nat) : TgS w B (.slice (some ⟨b, off + m * 2, none⟩) (n - m) (c - m)) (l.drop m) := by
  obtain ⟨A', c', e, h1, h2, h3⟩ := h
  injection e with e1 e2 e3
  subst e1 e2 e3
  refine ⟨_, c - m, by rw [List.length_drop], by rw [List.length_drop]; omega, by rw [List.length_drop]; omega, fun hn => ?_⟩
  rw [List.length_drop] at hn
  obtain ⟨b', off', e, hb, hc⟩ := h3 (by omega)
  injection e with e
  injection e with e1 e2
  subst e1 e2
  refine ⟨b, off + m * 2, rfl, hb, fun i hi => ?_⟩
  rw [List.length_drop] at hi
  have := hc (m + i) (by omega)
  rw [List.getElem_drop]
  rw [show off + m * 2 + i * 2 = off + (m + i) * 2 by omega]
  exact this
theorem TgS.none_ {w : World} {B : Nat} {A : Option Addr} {c : Nat} : TgS w B (.slice A 0 c) [] := ⟨A, c, rfl, Nat.zero_le _, by simp, fun h => by simp at h⟩
theorem withinP_lt {pc n : Nat} (h : pc < n) : withinP ((pc : Nat) : Int) 0 (((n : Nat) : Int) - 1) = true := by simp [withinP]; omega
theorem withinP_ge {pc n : Nat} (h : ¬ pc < n) : withinP ((pc : Nat) : Int) 0 (((n : Nat) : Int) - 1) = false := by simp [withinP]; omega
set_option maxHeartbeats 16000000 in
set_option maxRecDepth 100000 in
theorem touch_any (v : Value) (m : List Cl) (pc pt base : Nat) (wt : Bool) (w : World) (h : MeS w base v m) (hok : okM m) (hb : base ≤ w.heap.size) :
    Calls Tryz.prog 118 #[v, .agg #[.int .i64 (pc : Nat), .int .i64 (pt : Nat)], .bool wt] w fun e w' => e = .returned (.int .i64 (touchP m pc pt wt).2) ∧ MeS w' base v (touchP m pc pt wt).1 ∧ Below base w w' := by
  obtain ⟨ps, rfl, h⟩ := h
  have hl : ps.length ≤ 200 := by simpa using hok.1
  have OK := Lib.hid hok
  have H := Lib.hid h
  obtain ⟨A, c, rfl, hc⟩ := h.slice
  have HX := Lib.hid (RowB.new w [.int .i64 (pc : Nat), .int .i64 (pt : Nat)] 77)
  have HB0 := Lib.hid (bel_a w (.cells #[.int .i64 (pc : Nat), .int .i64 (pt : Nat)] 77))
  have hmf : ∀ (fn : Fn) (first cap : Array Value) (w : World), (Instr.makeFunc fn first cap).run Tryz.prog w = .ok (.func fn first cap) w := fun _ _ _ _ => rfl
  clear h hok
  go_enter Tryz.func118, Tryz.ntmps118
  go_upto_region 1 with (at_builtin; fail)
  generalize w.alloc (.cells #[.int .i64 (pc : Nat), .int .i64 (pt : Nat)] 77) = W at *
  obtain ⟨bx, hbx⟩ : ∃ bx, bx = w.heap.size := ⟨_, rfl⟩
  rw [← hbx] at HX ⊢
  have HBX := Lib.hid hbx
  have hs0 := HB0.out.size
  clear hbx
  have HCV := Lib.hid (iCellsValid_any _ ps base W (H.out.bel HB0.out) OK.out)
  go_wp2_with (at_builtin; fail)
  refine HCV.out.mono ?_
  rintro e w1 ⟨rfl, hb1⟩
  have HB1 := Lib.hid (HB0.out.trans (hb1.mono hs0))
  have HX1 := Lib.hid (HX.out.low hb1 HX.out.lt)
  have H1 := Lib.hid (H.out.bel HB1.out)
  have hs1 := HB1.out.size
  have x0 := HX1.out.cell 0
  have x1 := HX1.out.cell 1
  simp only [List.getElem?_cons_zero, List.getElem?_cons_succ] at x0 x1
  have hxl := HX1.out.lt
  clear hb1 HCV
  go_wp2_with (at_builtin; fail)
  refine (within_any _ _ _ w1).mono ?_
  rintro e w' ⟨rfl, rfl⟩
  by_cases hpc : pc < ps.length
  · rw [withinP_lt hpc]
    obtain ⟨g, rfl, hgb, hgl, -, d0, d1, d2, d3, fz⟩ := H1.out.at_ hpc
    have HCL := Lib.hid (clAt_map hpc)
    have HNL : Hid (¬ (ps.map (·.1)).length ≤ pc) := Lib.hid (by rw [List.length_map]; omega)
    have HRW := Lib.hid (H1.out.row pc hpc)
    have HCO := Lib.hid (OK.out.2 ps[pc].1 (List.mem_map.2 ⟨ps[pc], List.getElem_mem hpc, rfl⟩))
    obtain ⟨p, hp⟩ : ∃ p, p = ps[pc] := ⟨_, rfl⟩
    have HP := Lib.hid hp
    rw [← hp] at HCL HRW HCO d0 d1 d2 d3
    clear hp
    obtain ⟨cl, tv⟩ := p
    simp only at d0 d1 d2 d3 HRW HCL HCO
    have hst := HCO.out.l1
    have HTG := Lib.hid (HRW.out.toS (by omega))
    obtain ⟨At, ct, rfl, hct⟩ := HTG.out.slice
    obtain ⟨al, hal⟩ : ∃ al, al = cl.al := ⟨_, rfl⟩
    rw [← hal] at d1
    have HAL := Lib.hid hal
    clear hal d0 d2
    cases al
    · have HR : Hid (∀ wt, touchP (ps.map (·.1)) pc pt wt = (ps.map (·.1), 1)) := Lib.hid fun wt => touchP_no (k := 0) (by unfold placeP; rw [if_neg HNL.out, HCL.out, if_pos HAL.out.symm]) (by decide)
      go_wp2_with (at_builtin; fail)
      go_ret
      exact ⟨by rw [HR.out]; rfl, by rw [HR.out]; exact ⟨ps, rfl, H1.out⟩, HB1.out.mono hb⟩
    · have HPL : Hid (placeP (ps.map (·.1)) pc pt = match tagAt cl.st pt with | none => (0, 2) | some k => (k, 0)) := Lib.hid (by unfold placeP; rw [if_neg HNL.out, HCL.out, if_neg (by rw [← HAL.out]; decide)]; cases tagAt cl.st pt <;> rfl)
      have HIX := Lib.hid (index1_any (.slice At cl.st.length ct) cl.st (fun t => t.id == pt) bx w1.heap.size w1 HTG.out (Nat.le_refl _) fun y hy wz hz => touch1_any y.id y.un bx pt wz ((hz.cell (p := ⟨bx, 1, none⟩) hxl).trans x1))
      rw [← tagI_idx] at HIX
      go_wp2_with (at_builtin; fail)
      refine HIX.out.mono ?_
      rintro e w2 ⟨rfl, hb2⟩
      have HB2 := Lib.hid (HB1.out.trans (hb2.mono hs1))
      have H2 := Lib.hid (H1.out.bel hb2)
      have HRW2 := Lib.hid (HRW.out.bel hb2)
      have HTG2 := Lib.hid (HTG.out.low hb2 (Nat.le_refl _))
      have e3 := (hb2.cell (p := ⟨g, pc * 4 + 3, none⟩) hgl).trans d3
      have ef := (hb2.frozen (p := ⟨g, pc * 4 + 3, none⟩) hgl).trans (fz (pc * 4 + 3))
      have hs12a := hb2.size
      have hs2 := HB2.out.size
      have hgl2 : g < w2.heap.size := by have := hb2.size; omega
      clear hb2 HIX x0 x1 d1 d3 fz HTG HRW H1
      cases hta : tagAt cl.st pt with
      | none =>
        rw [tagI_none hta]
        have HR : Hid (∀ wt, touchP (ps.map (·.1)) pc pt wt = (ps.map (·.1), 2)) := Lib.hid fun wt => touchP_no (k := 0) (by rw [HPL.out, hta]) (by decide)
        clear hta
        go_wp2_with (at_builtin; fail)
        go_ret
        exact ⟨by rw [HR.out]; rfl, by rw [HR.out]; exact ⟨ps, rfl, H2.out⟩, HB2.out.mono hb⟩
      | some k =>
        rw [tagI_some hta]
        have HPE : Hid (placeP (ps.map (·.1)) pc pt = (k, 0)) := Lib.hid (by rw [HPL.out, hta])
        have hkl := tagAt_lt hta
        have HGO := Lib.hid (show OCe w2 base (.slice (some ⟨g, 0, none⟩) ps.length c) ps from H2.out)
        have q1 : decide (((k : Nat) : Int) < 0) = false := decide_eq_false (by omega)
        have q2 : (0 : Int) ≤ ((k : Nat) : Int) + 1 := by omega
        have q3 : ((k : Nat) : Int) + 1 ≤ ((ct : Nat) : Int) := by omega
        clear hta
        obtain ⟨gt, rfl, hgt⟩ : ∃ gt, At = some ⟨gt, 0, none⟩ ∧ gt < w2.heap.size := by
          rcases HRW2.out.2 with ⟨-, h0⟩ | ⟨g, cap, cur, e, hb, hh, _⟩
          · omega
          · injection e with e1
            exact ⟨g, e1, row_lt hh⟩
        cases wt
        · have HR := Lib.hid (touchP_rd HPE.out)
          have hs12 : w1.heap.size ≤ w2.heap.size := hs12a
          by_cases hck : ct = k + 1
          · subst hck
            have HTD : Hid (TgS w2 w1.heap.size (.slice (some ⟨gt, 0, none⟩) 0 0) (cl.st.drop (k + 1))) := Lib.hid (by rw [List.drop_of_length_le (by omega)]; exact TgS.none_)
            have HDL : Hid ((cl.st.drop (k + 1)).length ≤ 200) := Lib.hid (by rw [List.length_drop]; omega)
            obtain ⟨D, hD⟩ : ∃ D, D = cl.st.drop (k + 1) := ⟨_, rfl⟩
            rw [← hD] at HTD HDL
            have HDE := Lib.hid hD
            have hdl := HDL.out
            clear hD
            go_wp2_with (at_builtin; fail)
            refine (cloneTag_any _ D w1.heap.size w2 HTD.out hs12).mono ?_
            rintro e w3 ⟨v3, rfl, ho3, hb3⟩
            have HB3 := Lib.hid (HB2.out.trans (hb3.mono hs2))
            have hs3 := hb3.size
            have HDF := Lib.hid (delFunc_any v3 D w2.heap.size w3 ho3 hs3 (by omega))
            have HGO3 := Lib.hid (HGO.out.bel hb3)
            have HRW3 := Lib.hid (HRW2.out.bel hb3)
            have y3 := (hb3.cell (p := ⟨g, pc * 4 + 3, none⟩) hgl2).trans e3
            have yf := (hb3.frozen (p := ⟨g, pc * 4 + 3, none⟩) hgl2).trans ef
            obtain ⟨A3, c3, rfl, -⟩ := ho3.slice
            clear ho3 e3 ef
            go_wp2_with (at_builtin; fail)
            refine HDF.out.mono ?_
            rintro e w4 ⟨v4, rfl, ho4, hb4⟩
            have HB4 := Lib.hid (HB2.out.trans ((hb3.trans hb4).mono hs2))
            have HGO4 := Lib.hid (HGO.out.bel (hb3.trans hb4))
            have HRW4 := Lib.hid ((HRW2.out.bel (hb3.trans hb4)).take (m := k + 1) rfl (by omega))
            have z3 := (hb4.cell (p := ⟨g, pc * 4 + 3, none⟩) hgl2).trans y3
            have zf := (hb4.frozen (p := ⟨g, pc * 4 + 3, none⟩) hgl2).trans yf
            have hs4 := HB4.out.size
            have hb4s : base ≤ w4.heap.size := by omega
            have HO4 := Lib.hid (ho4.toS (by have := List.length_filter_le (fun t : Tg => !t.un) D; omega))
            have HFL : Hid ((cl.st.take (k + 1)).length + (D.filter fun t => !t.un).length ≤ 4194304) := Lib.hid (by have := List.length_filter_le (fun t : Tg => !t.un) D; rw [List.length_take]; omega)
            have HGL4 : Hid (g < w4.heap.size) := Lib.hid (by have := hb4.size; omega)
            have HGN : Hid (some g ≠ (Value.slice (some ⟨gt, 0, none⟩) (k + 1) (k + 1)).ownBlock) := Lib.hid fun e => HGO4.out.row_ne hpc (g := g) (b := gt) rfl (by rw [← HP.out]; rfl) (by injection e with e)
            obtain ⟨A4, c4, rfl, -⟩ := ho4.slice
            clear ho4 y3 yf hb3 hb4 HDF HGO3 HRW3
            obtain ⟨F, hF⟩ : ∃ F, F = D.filter (fun t => !t.un) := ⟨_, rfl⟩
            rw [← hF] at HO4 HFL ⊢
            have HFE := Lib.hid hF
            obtain ⟨T, hT⟩ : ∃ T, T = cl.st.take (k + 1) := ⟨_, rfl⟩
            rw [← hT] at HRW4 HFL
            have HTE := Lib.hid hT
            clear hF hT
            go_wp2_with (at_builtin; go_must (refine wpList_app_tags rfl (.tmp 53) (.tmp 54) rfl base _ T rfl HRW4.out w4.heap.size _ F rfl HO4.out hb4s HFL.out ?_); intro v5 w5 hP5 hG5 hL5; (obtain ⟨A5, c5, rfl, hc5⟩ := OTg.slice hP5); (simp only [List.length_append] at hP5 hL5); (have HP5 := Lib.hid hP5); (have HG5 := Lib.hid hG5); (have HL5 := Lib.hid hL5); (have hbk := hG5.block g HGL4.out HGN.out); (have u3 := (World.cell?_of_block (a := ⟨g, pc * 4 + 3, none⟩) hbk).trans z3); (have uf := (World.frozen?_of_block (a := ⟨g, pc * 4 + 3, none⟩) hbk).trans zf); clear hP5 hG5 hL5 hbk)
            go_ret
            have HS := Lib.hid (HGO4.out.growSt rfl hpc (st := T ++ F) HP5.out (by rw [← HP.out]; exact HG5.out) (by rw [← HP.out]; exact HL5.out.imp id fun h => ⟨_, h, Nat.le_refl _⟩))
            refine ⟨by rw [HR.out]; rfl, ?_, ((HB4.out.mono hb).trans (grown_bel_own HRW4.out HG5.out hb4s)).setCell (p := ⟨g, _, none⟩) hgb _⟩
            rw [HR.out]
            refine ⟨_, ?_, HS.out⟩
            rw [map_set_fst, HCL.out, ← HP.out, HFE.out, HDE.out, HTE.out]; rfl
          · have HTD : Hid (TgS w2 w1.heap.size (.slice (some ⟨gt, (k + 1) * 2, none⟩) (cl.st.length - (k + 1)) (ct - (k + 1))) (cl.st.drop (k + 1))) := Lib.hid (by have := HTG2.out.drop (k + 1); rwa [Nat.zero_add] at this)
            have HDL : Hid ((cl.st.drop (k + 1)).length ≤ 200) := Lib.hid (by rw [List.length_drop]; omega)
            obtain ⟨D, hD⟩ : ∃ D, D = cl.st.drop (k + 1) := ⟨_, rfl⟩
            rw [← hD] at HTD HDL
            have HDE := Lib.hid hD
            have hdl := HDL.out
            clear hD
            go_wp2_with (at_builtin; fail)
            refine (cloneTag_any _ D w1.heap.size w2 HTD.out hs12).mono ?_
            rintro e w3 ⟨v3, rfl, ho3, hb3⟩
            have HB3 := Lib.hid (HB2.out.trans (hb3.mono hs2))
            have hs3 := hb3.size
            have HDF := Lib.hid (delFunc_any v3 D w2.heap.size w3 ho3 hs3 (by omega))
            have HGO3 := Lib.hid (HGO.out.bel hb3)
            have HRW3 := Lib.hid (HRW2.out.bel hb3)
            have y3 := (hb3.cell (p := ⟨g, pc * 4 + 3, none⟩) hgl2).trans e3
            have yf := (hb3.frozen (p := ⟨g, pc * 4 + 3, none⟩) hgl2).trans ef
            obtain ⟨A3, c3, rfl, -⟩ := ho3.slice
            clear ho3 e3 ef
            go_wp2_with (at_builtin; fail)
            refine HDF.out.mono ?_
            rintro e w4 ⟨v4, rfl, ho4, hb4⟩
            have HB4 := Lib.hid (HB2.out.trans ((hb3.trans hb4).mono hs2))
            have HGO4 := Lib.hid (HGO.out.bel (hb3.trans hb4))
            have HRW4 := Lib.hid ((HRW2.out.bel (hb3.trans hb4)).take (m := k + 1) rfl (by omega))
            have z3 := (hb4.cell (p := ⟨g, pc * 4 + 3, none⟩) hgl2).trans y3
            have zf := (hb4.frozen (p := ⟨g, pc * 4 + 3, none⟩) hgl2).trans yf
            have hs4 := HB4.out.size
            have hb4s : base ≤ w4.heap.size := by omega
            have HO4 := Lib.hid (ho4.toS (by have := List.length_filter_le (fun t : Tg => !t.un) D; omega))
            have HFL : Hid ((cl.st.take (k + 1)).length + (D.filter fun t => !t.un).length ≤ 4194304) := Lib.hid (by have := List.length_filter_le (fun t : Tg => !t.un) D; rw [List.length_take]; omega)
            have HGL4 : Hid (g < w4.heap.size) := Lib.hid (by have := hb4.size; omega)
            have HGN : Hid (some g ≠ (Value.slice (some ⟨gt, 0, none⟩) (k + 1) ct).ownBlock) := Lib.hid fun e => HGO4.out.row_ne hpc (g := g) (b := gt) rfl (by rw [← HP.out]; rfl) (by injection e with e)
            obtain ⟨A4, c4, rfl, -⟩ := ho4.slice
            clear ho4 y3 yf hb3 hb4 HDF HGO3 HRW3
            obtain ⟨F, hF⟩ : ∃ F, F = D.filter (fun t => !t.un) := ⟨_, rfl⟩
            rw [← hF] at HO4 HFL ⊢
            have HFE := Lib.hid hF
            obtain ⟨T, hT⟩ : ∃ T, T = cl.st.take (k + 1) := ⟨_, rfl⟩
            rw [← hT] at HRW4 HFL
            have HTE := Lib.hid hT
            clear hF hT
            go_wp2_with (at_builtin; go_must (refine wpList_app_tags rfl (.tmp 53) (.tmp 54) rfl base _ T rfl HRW4.out w4.heap.size _ F rfl HO4.out hb4s HFL.out ?_); intro v5 w5 hP5 hG5 hL5; (obtain ⟨A5, c5, rfl, hc5⟩ := OTg.slice hP5); (simp only [List.length_append] at hP5 hL5); (have HP5 := Lib.hid hP5); (have HG5 := Lib.hid hG5); (have HL5 := Lib.hid hL5); (have hbk := hG5.block g HGL4.out HGN.out); (have u3 := (World.cell?_of_block (a := ⟨g, pc * 4 + 3, none⟩) hbk).trans z3); (have uf := (World.frozen?_of_block (a := ⟨g, pc * 4 + 3, none⟩) hbk).trans zf); clear hP5 hG5 hL5 hbk)
            go_ret
            have HS := Lib.hid (HGO4.out.growSt rfl hpc (st := T ++ F) HP5.out (by rw [← HP.out]; exact HG5.out) (by rw [← HP.out]; exact HL5.out.imp id fun h => ⟨_, h, Nat.le_refl _⟩))
            refine ⟨by rw [HR.out]; rfl, ?_, ((HB4.out.mono hb).trans (grown_bel_own HRW4.out HG5.out hb4s)).setCell (p := ⟨g, _, none⟩) hgb _⟩
            rw [HR.out]
            refine ⟨_, ?_, HS.out⟩
            rw [map_set_fst, HCL.out, ← HP.out, HFE.out, HDE.out, HTE.out]; rfl
        · obtain ⟨b', off', e, hbt, t0, t1⟩ := HTG2.out.get (i := k) hkl
          injection e with e
          injection e with e1 e2
          subst e1 e2
          rw [Nat.zero_add] at t1
          have HUN : Hid (((clAt (ps.map (·.1)) pc).st.getD k tgD) = cl.st[k]) := Lib.hid (by rw [HCL.out, List.getD_eq_getElem?_getD, List.getElem?_eq_getElem hkl]; rfl)
          obtain ⟨un, hun⟩ : ∃ un, un = cl.st[k].un := ⟨_, rfl⟩
          rw [← hun] at t1
          have HUE : Hid (((clAt (ps.map (·.1)) pc).st.getD k tgD).un = un) := Lib.hid (by rw [HUN.out, hun])
          clear hun t0
          cases un
          · have HR := Lib.hid (touchP_ro HPE.out HUE.out)
            go_wp2_with (at_builtin; fail)
            go_ret
            exact ⟨by rw [HR.out]; rfl, by rw [HR.out]; exact ⟨ps, rfl, H2.out⟩, HB2.out.mono hb⟩
          · have HR := Lib.hid (touchP_wr HPE.out HUE.out)
            have HS := Lib.hid (HGO.out.growSt rfl hpc (st := cl.st.take (k + 1)) (HRW2.out.take (m := k + 1) rfl (by omega)) (by rw [← HP.out]; exact World.grownBy.refl w2 _) (.inl (by rw [← HP.out]; rfl)))
            go_wp2_with (at_builtin; fail)
            go_ret
            refine ⟨by rw [HR.out]; rfl, ?_, (HB2.out.mono hb).setCell (p := ⟨g, _, none⟩) hgb _⟩
            rw [HR.out]
            refine ⟨_, ?_, HS.out⟩
            rw [map_set_fst, HCL.out, ← HP.out]; rfl
  · rw [withinP_ge hpc]
    have HR : Hid (∀ wt, touchP (ps.map (·.1)) pc pt wt = (ps.map (·.1), 4)) := Lib.hid fun wt => touchP_no (k := 0) (by unfold placeP; rw [if_pos (by rw [List.length_map]; omega)]) (by decide)
    go_wp2_with (at_builtin; fail)
    go_ret
    exact ⟨by rw [HR.out]; rfl, by rw [HR.out]; exact ⟨ps, rfl, H1.out⟩, HB1.out.mono hb⟩

end Go.Proofs.YtfioaohadanjmaaGreat

/- impl.ReadCell, WriteCell, FreeCell. -/
namespace Go.Proofs.YtfioaohadanjmaaGreat
open Go.RowKit Go.Lib

theorem clAt_set {m : List Cl} {i : Nat} {c : Cl} (h : i < m.length) : clAt (m.set i c) i = c := by
  unfold clAt
  rw [List.getD_eq_getElem?_getD, List.getElem?_set_self h]; rfl
theorem touchP_val {m m1 : List Cl} {pc pt : Nat} {wt : Bool} (h : touchP m pc pt wt = (m1, 0)) : (clAt m1 pc).val = (clAt m pc).val := by
  have hk := touchP_ok (m := m) (pc := pc) (pt := pt) (write := wt) (by rw [h])
  obtain ⟨k, code, hp⟩ : ∃ k code, placeP m pc pt = (k, code) := ⟨_, _, rfl⟩
  obtain rfl : code = 0 := by have := hk.1; rw [hp] at this; exact this
  cases wt
  · rw [touchP_rd hp] at h
    injection h with h _
    rw [← h, clAt_set hk.2]
  · cases hu : ((clAt m pc).st.getD k tgD).un
    · rw [touchP_ro hp hu] at h
      injection h with _ h
      cases h
    · rw [touchP_wr hp hu] at h
      injection h with h _
      rw [← h, clAt_set hk.2]
set_option maxHeartbeats 8000000 in
set_option maxRecDepth 100000 in
theorem iFreeCell_any (v : Value) (m : List Cl) (pc pt base : Nat) (w : World) (h : MeS w base v m) (hok : okM m) :
    Calls Tryz.prog 119 #[v, .agg #[.int .i64 (pc : Nat), .int .i64 (pt : Nat)]] w (McRet w (freeP m pc pt)) := by
  have hl := hok.len
  have OK := Lib.hid hok
  have H := Lib.hid h
  have HX := Lib.hid (RowB.new w [.int .i64 (pc : Nat), .int .i64 (pt : Nat)] 77)
  have HB0 := Lib.hid (bel_a w (.cells #[.int .i64 (pc : Nat), .int .i64 (pt : Nat)] 77))
  obtain ⟨A, c, rfl, hc⟩ := h.slice
  clear h hok
  go_enter Tryz.func119, Tryz.ntmps119
  go_upto_region 1 with (at_builtin; fail)
  generalize w.alloc (.cells #[.int .i64 (pc : Nat), .int .i64 (pt : Nat)] 77) = W at *
  obtain ⟨bx, hbx⟩ : ∃ bx, bx = w.heap.size := ⟨_, rfl⟩
  rw [← hbx] at HX ⊢
  have hs0 := HB0.out.size
  have HBX := Lib.hid hbx
  clear hbx
  have HCP := Lib.hid (ownCells_any _ m base W (H.out.bel HB0.out) OK.out)
  go_wp2_with (at_builtin; fail)
  refine HCP.out.mono ?_
  rintro e w1 ⟨v1, rfl, hv1, hb1⟩
  have HO1 := Lib.hid (hv1.base hs0)
  have HBW := Lib.hid hb1
  have HOW := Lib.hid hv1
  have HB1 := Lib.hid (HB0.out.trans (hb1.mono hs0))
  have HX1 := Lib.hid (HX.out.low hb1 HX.out.lt)
  obtain ⟨A1, c1, rfl, hc1⟩ := hv1.slice
  have x0 := HX1.out.cell 0
  have x1 := HX1.out.cell 1
  simp only [List.getElem?_cons_zero, List.getElem?_cons_succ] at x0 x1
  clear hb1 hv1 HCP
  have hs1 := HB1.out.size
  have hxl := HX1.out.lt
  have HTO := Lib.hid (touch_any _ m pc pt W.heap.size true w1 HOW.out OK.out HBW.out.size)
  have HTL := Lib.hid (touchP_len m pc pt true)
  obtain ⟨m1, code, htp⟩ : ∃ m1 code, touchP m pc pt true = (m1, code) := ⟨_, _, rfl⟩
  rw [htp] at HTO HTL
  have HTP := Lib.hid htp
  go_wp2_with (at_builtin; fail)
  refine HTO.out.mono ?_
  rintro e w2 ⟨rfl, hv2, hb2⟩
  have HO2 := Lib.hid (show MeS w2 w.heap.size (.slice A1 m.length c1) m1 from hv2.base hs0)
  have HB2 := Lib.hid (HB1.out.trans (hb2.mono hs0))
  have hs2 := HB2.out.size
  have HML : Hid (m1.length = m.length) := Lib.hid HTL.out
  clear hv2 HTO x0 x1 HO1
  by_cases hcode : code = 0
  · subst hcode
    have HLT : Hid (pc < m.length) := Lib.hid (touchP_ok (m := m) (pc := pc) (pt := pt) (write := true) (by rw [htp])).2
    have HX2 := Lib.hid (HX1.out.low hb2 HX.out.lt)
    have x0 := HX2.out.cell 0
    simp only [List.getElem?_cons_zero] at x0
    obtain ⟨qs, hqs, hQ⟩ := HO2.out
    have hpl : pc < m.length := HLT.out
    have hml := HML.out
    have hql := MeS.len (w := w) (base := base) (v := .slice A1 m.length c1) hqs
    have HQ := Lib.hid hQ
    have HQS := Lib.hid hqs
    have HQC := Lib.hid (map_at hqs (i := pc) (by omega))
    obtain ⟨go, rfl, hgo, hgol, -, e0, e1, -, -, fz⟩ := hQ.at_ (i := pc) (by omega)
    have HR : Hid (freeP m pc pt = (m1.set pc { clAt m1 pc with al := false }, 0)) := Lib.hid (by unfold freeP; rw [htp]; exact if_pos rfl)
    have f1 := fz (pc * 4 + 1)
    have HS := Lib.hid (HQ.out.setAl (by omega) (i := pc) (by omega) false)
    clear hQ hqs htp fz e0
    go_wp2_with (at_builtin; fail)
    go_ret2
    refine ⟨_, by rw [HR.out]; rfl, ?_, HB2.out.setCell (p := ⟨go, _, none⟩) hgo _⟩
    rw [HR.out]
    exact ⟨_, by rw [map_set_fst, HQS.out, HQC.out], HS.out⟩
  · have HR : Hid (freeP m pc pt = (m1, code)) := Lib.hid (by unfold freeP; rw [htp]; exact if_neg hcode)
    have hq : (code == 0) = false := by simpa using hcode
    clear hcode htp
    go_wp2_with (at_builtin; fail)
    go_ret2
    exact ⟨_, by rw [HR.out]; rfl, by rw [HR.out]; exact HO2.out, HB2.out⟩
set_option maxHeartbeats 8000000 in
set_option maxRecDepth 100000 in
theorem iReadCell_any (v : Value) (m : List Cl) (pc pt base : Nat) (w : World) (h : MeS w base v m) (hok : okM m) :
    Calls Tryz.prog 99 #[v, .agg #[.int .i64 (pc : Nat), .int .i64 (pt : Nat)]] w (MrRet w (readP m pc pt)) := by
  have hl := hok.len
  have OK := Lib.hid hok
  have H := Lib.hid h
  have HX := Lib.hid (RowB.new w [.int .i64 (pc : Nat), .int .i64 (pt : Nat)] 77)
  have HB0 := Lib.hid (bel_a w (.cells #[.int .i64 (pc : Nat), .int .i64 (pt : Nat)] 77))
  obtain ⟨A, c, rfl, hc⟩ := h.slice
  clear h hok
  go_enter Tryz.func99, Tryz.ntmps99
  go_upto_region 1 with (at_builtin; fail)
  generalize w.alloc (.cells #[.int .i64 (pc : Nat), .int .i64 (pt : Nat)] 77) = W at *
  obtain ⟨bx, hbx⟩ : ∃ bx, bx = w.heap.size := ⟨_, rfl⟩
  rw [← hbx] at HX ⊢
  have hs0 := HB0.out.size
  have HBX := Lib.hid hbx
  clear hbx
  have HCP := Lib.hid (ownCells_any _ m base W (H.out.bel HB0.out) OK.out)
  go_wp2_with (at_builtin; fail)
  refine HCP.out.mono ?_
  rintro e w1 ⟨v1, rfl, hv1, hb1⟩
  have HO1 := Lib.hid (hv1.base hs0)
  have HBW := Lib.hid hb1
  have HOW := Lib.hid hv1
  have HB1 := Lib.hid (HB0.out.trans (hb1.mono hs0))
  have HX1 := Lib.hid (HX.out.low hb1 HX.out.lt)
  obtain ⟨A1, c1, rfl, hc1⟩ := hv1.slice
  have x0 := HX1.out.cell 0
  have x1 := HX1.out.cell 1
  simp only [List.getElem?_cons_zero, List.getElem?_cons_succ] at x0 x1
  clear hb1 hv1 HCP
  have hs1 := HB1.out.size
  have hxl := HX1.out.lt
  have HTO := Lib.hid (touch_any _ m pc pt W.heap.size false w1 HOW.out OK.out HBW.out.size)
  have HTL := Lib.hid (touchP_len m pc pt false)
  obtain ⟨m1, code, htp⟩ : ∃ m1 code, touchP m pc pt false = (m1, code) := ⟨_, _, rfl⟩
  rw [htp] at HTO HTL
  have HTP := Lib.hid htp
  go_wp2_with (at_builtin; fail)
  refine HTO.out.mono ?_
  rintro e w2 ⟨rfl, hv2, hb2⟩
  have HO2 := Lib.hid (show MeS w2 w.heap.size (.slice A1 m.length c1) m1 from hv2.base hs0)
  have HB2 := Lib.hid (HB1.out.trans (hb2.mono hs0))
  have hs2 := HB2.out.size
  have HML : Hid (m1.length = m.length) := Lib.hid HTL.out
  clear hv2 HTO x0 x1 HO1
  by_cases hcode : code = 0
  · subst hcode
    have HLT : Hid (pc < m.length) := Lib.hid (touchP_ok (m := m) (pc := pc) (pt := pt) (write := false) (by rw [htp])).2
    have HX2 := Lib.hid (HX1.out.low hb2 HX.out.lt)
    have x0 := HX2.out.cell 0
    simp only [List.getElem?_cons_zero] at x0
    obtain ⟨qs, hqs, hQ⟩ := HO2.out
    have hpl : pc < m.length := HLT.out
    have hml := HML.out
    have hql := MeS.len (w := w) (base := base) (v := .slice A1 m.length c1) hqs
    have HQ := Lib.hid hQ
    have HQS := Lib.hid hqs
    have HQC := Lib.hid (map_at hqs (i := pc) (by omega))
    obtain ⟨go, rfl, hgo, hgol, -, e0, e1, -, -, fz⟩ := hQ.at_ (i := pc) (by omega)
    have HR : Hid (readP m pc pt = (m1, (clAt m pc).val, 0)) := Lib.hid (by unfold readP; rw [htp]; exact if_pos rfl)
    have HV := Lib.hid (touchP_val htp)
    rw [HQC.out, HV.out] at e0
    obtain ⟨val, hval⟩ : ∃ val, val = (clAt m pc).val := ⟨_, rfl⟩
    rw [← hval] at e0
    have HVE := Lib.hid hval
    clear hQ hqs htp fz e1 hval
    go_wp2_with (at_builtin; fail)
    go_quiet (fail)
    go_wp2_with (at_builtin; fail)
    go_ret3
    exact ⟨_, by rw [HR.out, ← HVE.out]; rfl, by rw [HR.out]; exact HO2.out.bel (below_of_drewN ⟨_, rfl⟩ _), HB2.out.trans (below_of_drewN ⟨_, rfl⟩ _)⟩
  · have HR : Hid (readP m pc pt = (m1, 0, code)) := Lib.hid (by unfold readP; rw [htp]; exact if_neg hcode)
    have hq : (code != 0) = true := by simpa using hcode
    clear hcode htp
    go_wp2_with (at_builtin; fail)
    go_ret3
    exact ⟨_, by rw [HR.out]; rfl, by rw [HR.out]; exact HO2.out, HB2.out⟩
set_option maxHeartbeats 8000000 in
set_option maxRecDepth 100000 in
theorem iWriteCell_any (v : Value) (m : List Cl) (pc pt base : Nat) (val : Int) (w : World) (h : MeS w base v m) (hok : okM m) :
    Calls Tryz.prog 100 #[v, .agg #[.int .i64 (pc : Nat), .int .i64 (pt : Nat)], .int .i64 val] w (McRet w (writeP m pc pt val)) := by
  have hl := hok.len
  have OK := Lib.hid hok
  have H := Lib.hid h
  have HX := Lib.hid (RowB.new w [.int .i64 (pc : Nat), .int .i64 (pt : Nat)] 77)
  have HB0 := Lib.hid (bel_a w (.cells #[.int .i64 (pc : Nat), .int .i64 (pt : Nat)] 77))
  obtain ⟨A, c, rfl, hc⟩ := h.slice
  clear h hok
  go_enter Tryz.func100, Tryz.ntmps100
  go_upto_region 1 with (at_builtin; fail)
  generalize w.alloc (.cells #[.int .i64 (pc : Nat), .int .i64 (pt : Nat)] 77) = W at *
  obtain ⟨bx, hbx⟩ : ∃ bx, bx = w.heap.size := ⟨_, rfl⟩
  rw [← hbx] at HX ⊢
  have hs0 := HB0.out.size
  have HBX := Lib.hid hbx
  clear hbx
  have HCP := Lib.hid (ownCells_any _ m base W (H.out.bel HB0.out) OK.out)
  go_wp2_with (at_builtin; fail)
  refine HCP.out.mono ?_
  rintro e w1 ⟨v1, rfl, hv1, hb1⟩
  have HO1 := Lib.hid (hv1.base hs0)
  have HBW := Lib.hid hb1
  have HOW := Lib.hid hv1
  have HB1 := Lib.hid (HB0.out.trans (hb1.mono hs0))
  have HX1 := Lib.hid (HX.out.low hb1 HX.out.lt)
  obtain ⟨A1, c1, rfl, hc1⟩ := hv1.slice
  have x0 := HX1.out.cell 0
  have x1 := HX1.out.cell 1
  simp only [List.getElem?_cons_zero, List.getElem?_cons_succ] at x0 x1
  clear hb1 hv1 HCP
  have hs1 := HB1.out.size
  have hxl := HX1.out.lt
  by_cases hval : val < 0 ∨ 9 < val
  · have HR : Hid (writeP m pc pt val = (m, 4)) := Lib.hid (by unfold writeP; exact if_pos hval)
    have HWN : Hid (withinP val 0 9 = false) := Lib.hid (by simp [withinP]; omega)
    clear hval
    go_wp2_with (at_builtin; fail)
    refine (within_any _ _ _ w1).mono ?_
    rintro e w' ⟨rfl, rfl⟩
    rw [HWN.out]
    go_wp2_with (at_builtin; fail)
    go_ret2
    exact ⟨_, by rw [HR.out]; rfl, by rw [HR.out]; exact HO1.out, HB1.out⟩
  · have HV := Lib.hid hval
    have HWY : Hid (withinP val 0 9 = true) := Lib.hid (by simp [withinP]; omega)
    clear hval
    go_wp2_with (at_builtin; fail)
    refine (within_any _ _ _ w1).mono ?_
    rintro e w' ⟨rfl, rfl⟩
    rw [HWY.out]
    have HTO := Lib.hid (touch_any _ m pc pt W.heap.size true w1 HOW.out OK.out HBW.out.size)
    have HTL := Lib.hid (touchP_len m pc pt true)
    obtain ⟨m1, code, htp⟩ : ∃ m1 code, touchP m pc pt true = (m1, code) := ⟨_, _, rfl⟩
    rw [htp] at HTO HTL
    have HTP := Lib.hid htp
    go_wp2_with (at_builtin; fail)
    refine HTO.out.mono ?_
    rintro e w2 ⟨rfl, hv2, hb2⟩
    have HO2 := Lib.hid (show MeS w2 w.heap.size (.slice A1 m.length c1) m1 from hv2.base hs0)
    have HB2 := Lib.hid (HB1.out.trans (hb2.mono hs0))
    have hs2 := HB2.out.size
    have HML : Hid (m1.length = m.length) := Lib.hid HTL.out
    clear hv2 HTO x0 x1 HO1
    by_cases hcode : code = 0
    · subst hcode
      have HLT : Hid (pc < m.length) := Lib.hid (touchP_ok (m := m) (pc := pc) (pt := pt) (write := true) (by rw [htp])).2
      have HX2 := Lib.hid (HX1.out.low hb2 HX.out.lt)
      have x0 := HX2.out.cell 0
      simp only [List.getElem?_cons_zero] at x0
      obtain ⟨qs, hqs, hQ⟩ := HO2.out
      have hpl : pc < m.length := HLT.out
      have hml := HML.out
      have hql := MeS.len (w := w) (base := base) (v := .slice A1 m.length c1) hqs
      have HQ := Lib.hid hQ
      have HQS := Lib.hid hqs
      have HQC := Lib.hid (map_at hqs (i := pc) (by omega))
      obtain ⟨go, rfl, hgo, hgol, -, e0, e1, -, -, fz⟩ := hQ.at_ (i := pc) (by omega)
      have HR : Hid (writeP m pc pt val = (m1.set pc { clAt m1 pc with val := val }, 0)) := Lib.hid (by unfold writeP; rw [if_neg HV.out, htp]; exact if_pos rfl)
      have f1 := fz (pc * 4)
      have HS := Lib.hid (HQ.out.setVal (by omega) (i := pc) (by omega) val)
      clear hQ hqs htp fz e1
      go_wp2_with (at_builtin; fail)
      go_ret2
      refine ⟨_, by rw [HR.out]; rfl, ?_, HB2.out.setCell (p := ⟨go, _, none⟩) hgo _⟩
      rw [HR.out]
      exact ⟨_, by rw [map_set_fst, HQS.out, HQC.out], HS.out⟩
    · have HR : Hid (writeP m pc pt val = (m1, code)) := Lib.hid (by unfold writeP; rw [if_neg HV.out, htp]; exact if_neg hcode)
      have hq : (code == 0) = false := by simpa using hcode
      clear hcode htp
      go_wp2_with (at_builtin; fail)
      go_ret2
      exact ⟨_, by rw [HR.out]; rfl, by rw [HR.out]; exact HO2.out, HB2.out⟩

end Go.Proofs.YtfioaohadanjmaaGreat

/- impl.newCell, NewCell. -/
namespace Go.Proofs.YtfioaohadanjmaaGreat
open Go.RowKit Go.Lib

theorem res_two1 {P : Program} {fn : Func} {a p : Tmp} {ty : TypeId} (h : fn.results = #[.tmp a, .cell p ty]) (tmps : Array Value) (w : World) (g : Nat) (t : TypeId) (cs : Array Value) (fr : Nat × Nat) (d : TypeDesc)
    (hp : tmps.getD p undef = .pointer (some ⟨g, 0, none⟩)) (hg : w.heap[g]? = some (.cells cs t fr))
    (hu : P.underlying ty = some d) (hd : (match d with | .struct _ | .array _ _ => true | _ => false) = true) (hi : (P.info? ty).map (·.size) = some cs.size) :
    (results fn tmps).run P w = .ok (.tuple #[tmps.getD a undef, .agg cs]) w := by
  simp only [results, h]
  simp [Sem.run_bind, Result.andThen, asAddr]
  rw [← Array.getD_eq_getD_getElem?, hp]
  simp [run_loadVar_row w g t ty cs fr d hg hu hd hi]
set_option maxHeartbeats 4000000 in
set_option maxRecDepth 100000 in
theorem newCell_any (v : Value) (m : List Cl) (val : Int) (base : Nat) (w : World) (h : MeS w base v m) (hok : okM m) :
    Calls Tryz.prog 116 #[v, .int .i64 val] w fun e w' => ∃ v', e = .returned (.tuple #[v', .agg #[.int .i64 (m.length : Nat), .int .i64 0]]) ∧ MeS w' w.heap.size v' (m ++ [newC val]) ∧ Below w.heap.size w w' := by
  have hl := hok.len
  have OK := Lib.hid hok
  have H := Lib.hid h
  have HY := Lib.hid (RowB.new w [.int .i64 0, .int .i64 0] 77)
  have HB0 := Lib.hid (bel_a w (.cells #[.int .i64 0, .int .i64 0] 77))
  obtain ⟨A, c, rfl, hc⟩ := h.slice
  clear h hok
  go_enter Tryz.func116, Tryz.ntmps116
  go_upto_region 1 with (at_builtin; fail)
  generalize w.alloc (.cells #[.int .i64 0, .int .i64 0] 77) = W at *
  obtain ⟨bx, hbx⟩ : ∃ bx, bx = w.heap.size := ⟨_, rfl⟩
  rw [← hbx] at HY ⊢
  have hs0 := HB0.out.size
  have HBX := Lib.hid hbx
  clear hbx
  have hyl := HY.out.lt
  have HCP := Lib.hid (ownCells_any _ m base W (H.out.bel HB0.out) OK.out)
  go_wp2_with (at_builtin; fail)
  refine HCP.out.mono ?_
  rintro e w2 ⟨v2, rfl, hv2, hb2⟩
  have HB2 := Lib.hid (HB0.out.trans (hb2.mono hs0))
  have HY2 := Lib.hid (HY.out.low hb2 hyl)
  obtain ⟨qs, hqs, hQ⟩ := hv2.base hs0
  have hql := MeS.len (w := w) (base := base) (v := v2) hqs
  have HQS := Lib.hid hqs
  have HBT := Lib.hid (bel_a w2 (.cells #[.int .i64 0, .bool true] 116))
  have HQ := Lib.hid (hQ.bel HBT.out)
  have HNT := Lib.hid (newTag w2 w.heap.size HB2.out.size)
  have HNE : Hid (∀ i (h : i < qs.length), ∀ b, qs[i].2.ownBlock = some b → (Value.slice (some ⟨w2.heap.size, 0, none⟩) 1 1).ownBlock ≠ some b) := Lib.hid fun i hi b hb e => by
    have h1 := ((hQ.row i hi).own_lt hb).2
    injection e with e
    have e' : w2.heap.size = b := e
    omega
  obtain ⟨A2, c2, rfl, hc2⟩ := hQ.slice
  rw [hql] at HQ hc2 ⊢
  have hs2 := HB2.out.size
  have hbt : w.heap.size ≤ (w2.alloc (.cells #[.int .i64 0, .bool true] 116)).heap.size := by have := HBT.out.size; omega
  have HYT := Lib.hid (HY2.out.low HBT.out HY2.out.lt)
  have HBU := Lib.hid (HB2.out.trans (HBT.out.mono hs2))
  clear hv2 hb2 hqs hQ HCP
  go_upto_region 2 with (at_builtin; go_must (refine wpList_push_ceCells rfl (.tmp 8) (.tmp 13) rfl HQ.out hbt (by omega) (newC val) _ HNT.out HNE.out rfl (by simp [Act.eval]) ?_); intro v' w' hP' hE' hK'; (obtain ⟨A', c', rfl, hc'⟩ := OCe.slice hP'); (simp only [List.length_append, List.length_cons, List.length_nil, Nat.zero_add, hql] at hP'); (have HP' := Lib.hid hP'); (have HBE := Lib.hid hE'); (have HYV := Lib.hid (show RowB w' bx 77 [.int .i64 0, .int .i64 0] from hK'.2 _ _ _ HYT.out (by decide))); (have r0 := HYV.out.cell 0); (have r1 := HYV.out.cell 1); (have rf0 := HYV.out.frozen 0); (have rf1 := HYV.out.frozen 1); (simp only [List.getElem?_cons_zero, List.getElem?_cons_succ] at r0 r1); clear hP' hE' hK')
  go_wp2_with (at_builtin; fail)
  have HR7 : RowB (w'.setCells bx 0 [.int .i64 (m.length : Nat), .int .i64 0]) bx 77 _ := HYV.out.putAll _ rfl
  refine bodyPost_ret (res_two1 (a := 4) (p := 5) (ty := 77) rfl _ _ bx 77 _ (0, 0) _ rfl HR7 Tryz.underlying77 rfl rfl) rfl ?_
  have HM : Hid ((qs ++ [(newC val, Value.slice (some ⟨w2.heap.size, 0, none⟩) 1 1)]).map (·.1) = m ++ [newC val]) := Lib.hid (by rw [List.map_append, HQS.out, List.map_cons, List.map_nil])
  have HF : Hid (OCe (w'.setCells bx 0 [.int .i64 (m.length : Nat), .int .i64 0]) w.heap.size (.slice A' (m.length + 1) c') (qs ++ [(newC val, Value.slice (some ⟨w2.heap.size, 0, none⟩) 1 1)])) := Lib.hid (HP'.out.keepT (HYV.out.kpt 0 [.int .i64 (m.length : Nat), .int .i64 0]) (by decide) (by decide))
  have HB9 := Lib.hid ((HBU.out.trans HBE.out).trans (below_putL (B := w.heap.size) (g := bx) (by have := HBX.out; omega) [.int .i64 (m.length : Nat), .int .i64 0] 0 w'))
  exact ⟨_, rfl, ⟨_, HM.out, HF.out⟩, HB9.out⟩
set_option maxHeartbeats 4000000 in
set_option maxRecDepth 100000 in
theorem iNewCell_any (v : Value) (m : List Cl) (val : Int) (base : Nat) (w : World) (h : MeS w base v m) (hok : okM m) :
    Calls Tryz.prog 95 #[v, .int .i64 val] w (MnRet w m val) := by
  have hl := hok.len
  have OK := Lib.hid hok
  have H := Lib.hid h
  have HY := Lib.hid (RowB.new w [.int .i64 0, .int .i64 0] 77)
  have HB0 := Lib.hid (bel_a w (.cells #[.int .i64 0, .int .i64 0] 77))
  obtain ⟨A, c, rfl, hc⟩ := h.slice
  clear h hok
  go_enter Tryz.func95, Tryz.ntmps95
  go_upto_region 1 with (at_builtin; fail)
  generalize w.alloc (.cells #[.int .i64 0, .int .i64 0] 77) = W at *
  obtain ⟨bx, hbx⟩ : ∃ bx, bx = w.heap.size := ⟨_, rfl⟩
  rw [← hbx] at HY ⊢
  have hs0 := HB0.out.size
  have HBX := Lib.hid hbx
  clear hbx
  have hyl := HY.out.lt
  obtain ⟨ps, hps, hO⟩ := H.out.bel HB0.out
  have HCV := Lib.hid (iCellsValid_any _ ps base W hO (by rw [hps]; exact OK.out))
  clear hO hps
  go_wp2_with (at_builtin; fail)
  refine HCV.out.mono ?_
  rintro e w1 ⟨rfl, hb1⟩
  have HB1 := Lib.hid (HB0.out.trans (hb1.mono hs0))
  have HY1 := Lib.hid (HY.out.low hb1 hyl)
  have hs1 := HB1.out.size
  have hyl1 := HY1.out.lt
  have r0 := HY1.out.cell 0
  have r1 := HY1.out.cell 1
  have rf0 := HY1.out.frozen 0
  have rf1 := HY1.out.frozen 1
  simp only [List.getElem?_cons_zero, List.getElem?_cons_succ] at r0 r1
  clear hb1 HCV
  have HR7 := Lib.hid (show RowB (w1.setCells bx 0 [.int .i64 0, .int .i64 0]) bx 77 _ from (HY1.out.putAll (w := w1) [.int .i64 0, .int .i64 0] rfl))
  have NO : Hid (newOk m val = false → ∀ v', MnRet w m val (.returned (.tuple #[v', .agg #[.int .i64 0, .int .i64 0], .bool false])) (w1.setCells bx 0 [.int .i64 0, .int .i64 0])) := Lib.hid fun hno v' =>
    ⟨v', (by rw [hno]; rfl), (fun h => by rw [hno] at h; cases h), (HB1.out.trans (below_putL (B := w.heap.size) (g := bx) (by have := HBX.out; omega) [.int .i64 0, .int .i64 0] 0 w1))⟩
  by_cases hv : 0 ≤ val ∧ val ≤ 9
  · have HWY : Hid (withinP val 0 9 = true) := Lib.hid (by simp [withinP]; omega)
    by_cases hf : m.length = 200
    · have q3 : (((m.length : Nat) : Int) == 200) = true := by rw [hf]; rfl
      have HNO : Hid (newOk m val = false) := Lib.hid (by unfold newOk; exact decide_eq_false (by omega))
      clear hv hf
      go_wp2_with (at_builtin; fail)
      refine (within_any _ _ _ w1).mono ?_
      rintro e w' ⟨rfl, rfl⟩
      rw [HWY.out]
      go_wp2_with (at_builtin; fail)
      exact bodyPost_ret (res_mid (a := 4) (p := 5) (u := 6) (ty := 77) rfl _ _ bx 77 _ (0, 0) _ rfl HR7.out Tryz.underlying77 rfl rfl) rfl (NO.out HNO.out _)
    · have q3 : (((m.length : Nat) : Int) == 200) = false := by rw [beq_eq_false_iff_ne]; omega
      have HYES : Hid (newOk m val = true) := Lib.hid (by unfold newOk; exact decide_eq_true (by omega))
      have HNC := Lib.hid (newCell_any _ m val base w1 (H.out.bel HB1.out) OK.out)
      clear hv hf NO HR7
      go_wp2_with (at_builtin; fail)
      refine (within_any _ _ _ w1).mono ?_
      rintro e w' ⟨rfl, rfl⟩
      rw [HWY.out]
      go_wp2_with (at_builtin; fail)
      refine HNC.out.mono ?_
      rintro e w2 ⟨v2, rfl, hv2, hb2⟩
      have HV2 := Lib.hid (hv2.base hs1)
      have HB2 := Lib.hid (HB1.out.trans (hb2.mono hs1))
      have HY2 := Lib.hid (HY1.out.low hb2 hyl1)
      obtain ⟨A2, c2, rfl, hc2⟩ := hv2.slice
      have HA := Lib.hid (bel_a w2 (.cells #[.int .i64 (m.length : Nat), .int .i64 0] 77))
      have HZ := Lib.hid (RowB.new w2 [.int .i64 (m.length : Nat), .int .i64 0] 77)
      have HVA := Lib.hid (HV2.out.bel HA.out)
      have HYA := Lib.hid (HY2.out.low HA.out HY2.out.lt)
      have HBA := Lib.hid (HB2.out.trans (HA.out.mono HB2.out.size))
      clear hv2 hb2 r0 r1 rf0 rf1 HNC
      go_upto_region 4 with (at_builtin; fail)
      generalize w2.alloc (.cells #[.int .i64 (m.length : Nat), .int .i64 0] 77) = w3 at *
      obtain ⟨bz, hbz⟩ : ∃ bz, bz = w2.heap.size := ⟨_, rfl⟩
      rw [← hbz] at HZ ⊢
      have HBZ := Lib.hid hbz
      have r0 := HYA.out.cell 0
      have r1 := HYA.out.cell 1
      have rf0 := HYA.out.frozen 0
      have rf1 := HYA.out.frozen 1
      have z0 := HZ.out.cell 0
      have z1 := HZ.out.cell 1
      simp only [List.getElem?_cons_zero, List.getElem?_cons_succ] at r0 r1 z0 z1
      clear hbz
      have HR8 := Lib.hid (show RowB (w3.drew.setCells bx 0 [.int .i64 (m.length : Nat), .int .i64 0]) bx 77 _ from (show RowB w3.drew bx 77 [.int .i64 0, .int .i64 0] from HYA.out).putAll (w := w3.drew) [.int .i64 (m.length : Nat), .int .i64 0] rfl)
      have HVB := Lib.hid ((HVA.out.bel ((Below.refl w3.heap.size w3).drew)).keepT ((show RowB w3.drew bx 77 [.int .i64 0, .int .i64 0] from HYA.out).kpt 0 [.int .i64 (m.length : Nat), .int .i64 0]) (by decide) (by decide))
      have HB9 := Lib.hid (HBA.out.drew.trans (below_putL (B := w.heap.size) (g := bx) (by have := HBX.out; omega) [.int .i64 (m.length : Nat), .int .i64 0] 0 w3.drew))
      have HMN : Hid (MnRet w m val (.returned (.tuple #[.slice A2 (m.length + 1) c2, .agg #[.int .i64 (m.length : Nat), .int .i64 0], .bool true])) (w3.drew.setCells bx 0 [.int .i64 (m.length : Nat), .int .i64 0])) := Lib.hid (by
        unfold MnRet
        simp only [HYES.out, if_true]
        exact ⟨_, rfl, fun _ => by have := HVB.out; simpa using this, HB9.out⟩)
      go_region_law (fail)
      all_goals
        go_wp2_with (at_builtin; fail)
        exact bodyPost_ret (res_mid (a := 4) (p := 5) (u := 6) (ty := 77) rfl _ _ bx 77 _ (0, 0) _ rfl HR8.out Tryz.underlying77 rfl rfl) rfl HMN.out
  · have HWN : Hid (withinP val 0 9 = false) := Lib.hid (by simp [withinP]; omega)
    have HNO : Hid (newOk m val = false) := Lib.hid (by unfold newOk; exact decide_eq_false (by omega))
    clear hv
    go_wp2_with (at_builtin; fail)
    refine (within_any _ _ _ w1).mono ?_
    rintro e w' ⟨rfl, rfl⟩
    rw [HWN.out]
    go_wp2_with (at_builtin; fail)
    exact bodyPost_ret (res_mid (a := 4) (p := 5) (u := 6) (ty := 77) rfl _ _ bx 77 _ (0, 0) _ rfl HR7.out Tryz.underlying77 rfl rfl) rfl (NO.out HNO.out _)

end Go.Proofs.YtfioaohadanjmaaGreat

/- impl.lent. -/
namespace Go.Proofs.YtfioaohadanjmaaGreat
open Go.RowKit Go.Lib

/-- w' is w but for block g -/
structure But (g : Nat) (w w' : World) : Prop where
  bel : Below g w w'
  size : w'.heap.size = w.heap.size
  oth : ∀ b, b ≠ g → w'.heap[b]? = w.heap[b]?
theorem But.drew (g : Nat) (w : World) : But g w w.drew := ⟨(Below.refl _ _).drew, rfl, fun _ _ => rfl⟩
theorem But.put (g : Nat) (w : World) (vs : List Value) : But g w (w.drew.setCells g 0 vs) := ⟨(Below.refl _ _).drew.trans (below_putL (Nat.le_refl _) vs 0 w.drew), size_putL _ _ _, fun b hb => heap_putL hb vs 0 w.drew⟩
theorem MeS.but {w w' : World} {base g : Nat} {v : Value} {m : List Cl} {L : List Value} (h : MeS w base v m) (hg : RowB w g 77 L) (hb : But g w w') : MeS w' base v m := by
  obtain ⟨ps, e, h⟩ := h
  have key : ∀ {e : TypeId} {size n : Nat} {v : Value} {xs : List Value}, e ≠ 77 → w.ownsRow base e size v n xs → w'.ownsRow base e size v n xs := fun {e size n v xs} he ho => own_same ho fun b hb' => hb.oth b fun e2 => by
    subst e2
    obtain ⟨cur, e1⟩ := own_heap ho hb'
    have hg : w.heap[b]? = _ := hg
    rw [e1] at hg
    injection hg with hg
    injection hg with _ e3
    exact he e3
  exact ⟨ps, e, key (by decide) h.own, fun i hi => key (by decide) (h.row i hi), h.ne⟩
set_option maxHeartbeats 16000000 in
set_option maxRecDepth 100000 in
theorem lent_any (v : Value) (m : List Cl) (pc pt base : Nat) (un : Bool) (w : World) (h : MeS w base v m) (hok : okM m) :
    Calls Tryz.prog 97 #[v, .agg #[.int .i64 (pc : Nat), .int .i64 (pt : Nat)], .bool un] w (MpRet w w.heap.size (lendP m pc pt un)) := by
  have hl := hok.len
  have OK := Lib.hid hok
  have H := Lib.hid h
  have HX := Lib.hid ((RowB.new w [.int .i64 (pc : Nat), .int .i64 (pt : Nat)] 77).alloc (.cells #[.int .i64 0, .int .i64 0] 77))
  have HY := Lib.hid (RowB.new (w.alloc (.cells #[.int .i64 (pc : Nat), .int .i64 (pt : Nat)] 77)) [.int .i64 0, .int .i64 0] 77)
  have hz1 : (w.alloc (.cells #[.int .i64 (pc : Nat), .int .i64 (pt : Nat)] 77)).heap.size = w.heap.size + 1 := by simp
  rw [hz1] at HY
  have HB0 := Lib.hid ((bel_a w (.cells #[.int .i64 (pc : Nat), .int .i64 (pt : Nat)] 77)).alloc (by simp) (.cells #[.int .i64 0, .int .i64 0] 77))
  obtain ⟨A, c, rfl, hc⟩ := h.slice
  clear h hok hz1
  go_enter Tryz.func97, Tryz.ntmps97
  go_upto_region 1 with (at_builtin; fail)
  generalize (w.alloc (.cells #[.int .i64 (pc : Nat), .int .i64 (pt : Nat)] 77)).alloc (.cells #[.int .i64 0, .int .i64 0] 77) = W at *
  obtain ⟨bx, hbx⟩ : ∃ bx, bx = w.heap.size := ⟨_, rfl⟩
  rw [← hbx] at HX HY ⊢
  have hs0 := HB0.out.size
  have HBX := Lib.hid hbx
  clear hbx
  have hyl := HY.out.lt
  have hxl := HX.out.lt
  have HCP := Lib.hid (ownCells_any _ m base W (H.out.bel HB0.out) OK.out)
  go_wp2_with (at_builtin; fail)
  refine HCP.out.mono ?_
  rintro e w1 ⟨v1, rfl, hv1, hb1⟩
  have HOW := Lib.hid hv1
  have HBW := Lib.hid hb1
  have HX1 := Lib.hid (HX.out.low hb1 hxl)
  obtain ⟨A1, c1, rfl, hc1⟩ := hv1.slice
  have x0 := HX1.out.cell 0
  have x1 := HX1.out.cell 1
  simp only [List.getElem?_cons_zero, List.getElem?_cons_succ] at x0 x1
  have HTO := Lib.hid (touch_any _ m pc pt W.heap.size un w1 HOW.out OK.out HBW.out.size)
  have HTL := Lib.hid (touchP_len m pc pt un)
  have HOK1 := Lib.hid (OK.out.touch pc pt un)
  obtain ⟨m1, code, htp⟩ : ∃ m1 code, touchP m pc pt un = (m1, code) := ⟨_, _, rfl⟩
  rw [htp] at HTO HTL HOK1
  clear hb1 hv1 HCP
  go_wp2_with (at_builtin; fail)
  refine HTO.out.mono ?_
  rintro e w2 ⟨rfl, hv2, hb2⟩
  have HO2 := Lib.hid (show MeS w2 W.heap.size (.slice A1 m.length c1) m1 from hv2)
  have HB2 := Lib.hid (show Below W.heap.size W w2 from HBW.out.trans hb2)
  have HBA := Lib.hid (HB0.out.trans (HB2.out.mono hs0))
  have hs2 := HB2.out.size
  have HML : Hid (m1.length = m.length) := Lib.hid HTL.out
  have HY2 := Lib.hid (HY.out.low HB2.out hyl)
  have HX2 := Lib.hid (HX.out.low HB2.out hxl)
  have r0 := HY2.out.cell 0
  have r1 := HY2.out.cell 1
  have rf0 := HY2.out.frozen 0
  have rf1 := HY2.out.frozen 1
  simp only [List.getElem?_cons_zero, List.getElem?_cons_succ] at r0 r1
  clear hv2 hb2 HTO x0 x1 HOW HX1
  by_cases hcode : code = 0
  · subst hcode
    have HR0 : Hid (lendP m pc pt un = pushP m m1 pc un) := Lib.hid (by unfold lendP; rw [htp]; exact if_neg (by simp))
    have hpl : pc < m.length := (touchP_ok (m := m) (pc := pc) (pt := pt) (write := un) (by rw [htp])).2
    have hml := HML.out
    have x0 := HX2.out.cell 0
    simp only [List.getElem?_cons_zero] at x0
    obtain ⟨qs, hqs, hQ⟩ := HO2.out
    have hql := MeS.len (w := w) (base := base) (v := .slice A1 m.length c1) hqs
    have HQ := Lib.hid hQ
    have HQS := Lib.hid hqs
    have HQC := Lib.hid (map_at hqs (i := pc) (by omega))
    obtain ⟨go, rfl, hgo, hgol, -, -, -, e2, e3, fz⟩ := hQ.at_ (i := pc) (by omega)
    have HRW := Lib.hid (hQ.row pc (by omega))
    obtain ⟨tv, htv⟩ : ∃ tv, tv = qs[pc].2 := ⟨_, rfl⟩
    rw [HQC.out] at e2 HRW
    rw [← htv] at e3 HRW
    have HTV := Lib.hid htv
    obtain ⟨At, ct, rfl, hct⟩ := HRW.out.slice
    have hst1 := (HOK1.out.2 (clAt m1 pc) (clAt_mem (by omega))).l1
    have hnx1 := (HOK1.out.2 (clAt m1 pc) (clAt_mem (by omega))).n1
    obtain ⟨nx, hnx⟩ : ∃ nx, nx = (clAt m1 pc).nx := ⟨_, rfl⟩
    rw [← hnx] at e2 hnx1
    have HNX := Lib.hid hnx
    clear hQ hqs hnx htv htp
    by_cases hfull : (clAt m1 pc).st.length = 200 ∨ nx = 1000
    · have HR : Hid (lendP m pc pt un = (m, (0, 0), 4)) := Lib.hid (by rw [HR0.out]; unfold pushP; rw [← HNX.out]; exact if_pos hfull)
      have HCP := Lib.hid (ownCells_any _ m base w2 (H.out.bel HBA.out) OK.out)
      rcases hfull with hf | hf
      · have q1 : ((((clAt m1 pc).st.length : Nat) : Int) == 200) = true := by rw [hf]; rfl
        clear hf
        go_wp2_with (at_builtin; fail)
        refine HCP.out.mono ?_
        rintro e w3 ⟨v3, rfl, hv3, hb3⟩
        have HY3 := Lib.hid (HY2.out.low hb3 HY2.out.lt)
        have HV3 := Lib.hid (hv3.base HBA.out.size)
        have HB3 := Lib.hid (HBA.out.trans (hb3.mono HBA.out.size))
        have r0 := HY3.out.cell 0
        have r1 := HY3.out.cell 1
        have rf0 := HY3.out.frozen 0
        have rf1 := HY3.out.frozen 1
        simp only [List.getElem?_cons_zero, List.getElem?_cons_succ] at r0 r1
        clear hv3 hb3
        go_wp2_with (at_builtin; fail)
        have HR7 : RowB (w3.setCells (bx + 1) 0 [.int .i64 0, .int .i64 0]) (bx + 1) 77 _ := HY3.out.putAll _ rfl
        refine bodyPost_ret (res_mid (a := 6) (p := 7) (u := 8) (ty := 77) rfl _ _ (bx + 1) 77 _ (0, 0) _ rfl HR7 Tryz.underlying77 rfl rfl) rfl ?_
        rw [HR.out]
        exact ⟨_, rfl, HV3.out.keepT (HY3.out.kpt 0 [.int .i64 0, .int .i64 0]) (by decide) (by decide), HB3.out.trans (below_putL (B := w.heap.size) (g := bx + 1) (by have := HBX.out; omega) [.int .i64 0, .int .i64 0] 0 w3)⟩
      · have q2 : (((nx : Nat) : Int) == 1000) = true := by rw [hf]; rfl
        by_cases hf2 : (clAt m1 pc).st.length = 200
        · have q1 : ((((clAt m1 pc).st.length : Nat) : Int) == 200) = true := by rw [hf2]; rfl
          clear hf2
          go_wp2_with (at_builtin; fail)
          refine HCP.out.mono ?_
          rintro e w3 ⟨v3, rfl, hv3, hb3⟩
          have HY3 := Lib.hid (HY2.out.low hb3 HY2.out.lt)
          have HV3 := Lib.hid (hv3.base HBA.out.size)
          have HB3 := Lib.hid (HBA.out.trans (hb3.mono HBA.out.size))
          have r0 := HY3.out.cell 0
          have r1 := HY3.out.cell 1
          have rf0 := HY3.out.frozen 0
          have rf1 := HY3.out.frozen 1
          simp only [List.getElem?_cons_zero, List.getElem?_cons_succ] at r0 r1
          clear hv3 hb3
          go_wp2_with (at_builtin; fail)
          have HR7 : RowB (w3.setCells (bx + 1) 0 [.int .i64 0, .int .i64 0]) (bx + 1) 77 _ := HY3.out.putAll _ rfl
          refine bodyPost_ret (res_mid (a := 6) (p := 7) (u := 8) (ty := 77) rfl _ _ (bx + 1) 77 _ (0, 0) _ rfl HR7 Tryz.underlying77 rfl rfl) rfl ?_
          rw [HR.out]
          exact ⟨_, rfl, HV3.out.keepT (HY3.out.kpt 0 [.int .i64 0, .int .i64 0]) (by decide) (by decide), HB3.out.trans (below_putL (B := w.heap.size) (g := bx + 1) (by have := HBX.out; omega) [.int .i64 0, .int .i64 0] 0 w3)⟩
        · have q1 : ((((clAt m1 pc).st.length : Nat) : Int) == 200) = false := by rw [beq_eq_false_iff_ne]; omega
          clear hf2
          go_wp2_with (at_builtin; fail)
          refine HCP.out.mono ?_
          rintro e w3 ⟨v3, rfl, hv3, hb3⟩
          have HY3 := Lib.hid (HY2.out.low hb3 HY2.out.lt)
          have HV3 := Lib.hid (hv3.base HBA.out.size)
          have HB3 := Lib.hid (HBA.out.trans (hb3.mono HBA.out.size))
          have r0 := HY3.out.cell 0
          have r1 := HY3.out.cell 1
          have rf0 := HY3.out.frozen 0
          have rf1 := HY3.out.frozen 1
          simp only [List.getElem?_cons_zero, List.getElem?_cons_succ] at r0 r1
          clear hv3 hb3
          go_wp2_with (at_builtin; fail)
          have HR7 : RowB (w3.setCells (bx + 1) 0 [.int .i64 0, .int .i64 0]) (bx + 1) 77 _ := HY3.out.putAll _ rfl
          refine bodyPost_ret (res_mid (a := 6) (p := 7) (u := 8) (ty := 77) rfl _ _ (bx + 1) 77 _ (0, 0) _ rfl HR7 Tryz.underlying77 rfl rfl) rfl ?_
          rw [HR.out]
          exact ⟨_, rfl, HV3.out.keepT (HY3.out.kpt 0 [.int .i64 0, .int .i64 0]) (by decide) (by decide), HB3.out.trans (below_putL (B := w.heap.size) (g := bx + 1) (by have := HBX.out; omega) [.int .i64 0, .int .i64 0] 0 w3)⟩
    · have HR : Hid (lendP m pc pt un = (m1.set pc { clAt m1 pc with st := (clAt m1 pc).st ++ [⟨nx, un⟩], nx := nx + 1 }, (pc, nx), 0)) := Lib.hid (by rw [HR0.out]; unfold pushP; rw [← HNX.out]; exact if_neg hfull)
      have HOK2 : Hid (okM (m1.set pc { clAt m1 pc with st := (clAt m1 pc).st ++ [⟨nx, un⟩], nx := nx + 1 })) := Lib.hid (by have := OK.out.lend pc pt un; rw [HR.out] at this; exact this)
      have q1 : ((((clAt m1 pc).st.length : Nat) : Int) == 200) = false := by rw [beq_eq_false_iff_ne]; omega
      have q2 : (((nx : Nat) : Int) == 1000) = false := by rw [beq_eq_false_iff_ne]; omega
      clear hfull
      have HA2 := Lib.hid (bel_a w2 (.cells #[.int .i64 (nx : Nat), .bool un] 116))
      have HT2 := Lib.hid (tag_lit w2 nx un)
      have HQ2 := Lib.hid (HQ.out.bel HA2.out)
      have HRW2 := Lib.hid (HRW.out.bel HA2.out)
      have hb12 : W.heap.size ≤ (w2.alloc (.cells #[.int .i64 (nx : Nat), .bool un] 116)).heap.size := by have := HA2.out.size; omega
      have HGO : Hid (some go ≠ (Value.slice At (clAt m1 pc).st.length ct).ownBlock) := Lib.hid (by rw [HTV.out]; exact fun e => HQ.out.row_ne (i := pc) (by omega) (g := go) rfl e.symm rfl)
      have HGL : Hid (go < (w2.alloc (.cells #[.int .i64 (nx : Nat), .bool un] 116)).heap.size) := Lib.hid (by have := HA2.out.size; omega)
      obtain ⟨g9, e9, -, -, -, -, -, z2, z3, zf⟩ := HQ2.out.at_ (i := pc) (by omega)
      obtain rfl : go = g9 := by injection e9 with e9; injection e9
      rw [← HTV.out] at z3
      rw [HQC.out, ← HNX.out] at z2
      clear e9
      obtain ⟨st, hst⟩ : ∃ st, st = (clAt m1 pc).st := ⟨_, rfl⟩
      have HST := Lib.hid hst
      rw [← hst] at HRW2 q1 hst1 HRW hct HTV HGO z3 e3
      clear hst
      go_upto_region 10 with (at_builtin; go_must (refine wpList_app_tags rfl (.tmp 53) (.tmp 57) rfl W.heap.size _ st rfl HRW2.out (w2.heap.size + 1) _ [⟨nx, un⟩] rfl HT2.out hb12 (by simp; omega) ?_); intro v' w' hP' hG' hL'; (obtain ⟨A', c', rfl, hc'⟩ := OTg.slice hP'); (simp only [List.length_append, List.length_cons, List.length_nil, Nat.zero_add] at hP' hL'); (have HP' := Lib.hid hP'); (have HG' := Lib.hid hG'); (have HL' := Lib.hid hL'); (have hbk := hG'.block go HGL.out HGO.out); (have y3 := (World.cell?_of_block (a := ⟨go, pc * 4 + 3, none⟩) hbk).trans z3); (have yf := (World.frozen?_of_block (a := ⟨go, pc * 4 + 3, none⟩) hbk).trans (zf _)); (have y2 := (World.cell?_of_block (a := ⟨go, pc * 4 + 2, none⟩) hbk).trans z2); (have yf2 := (World.frozen?_of_block (a := ⟨go, pc * 4 + 2, none⟩) hbk).trans (zf _)); clear hP' hG' hL' hbk)
      have HS := Lib.hid (HQ2.out.growSt (by omega) (i := pc) (by omega) HP'.out (by rw [← HTV.out]; exact HG'.out) (by rw [← HTV.out]; exact HL'.out.imp id fun h => ⟨_, h, Nat.le_refl _⟩))
      have HB3 := Lib.hid ((HB2.out.trans ((HA2.out.mono hs2).trans (grown_bel_own HRW2.out HG'.out hb12))).setCell (p := ⟨go, pc * 4 + 3, none⟩) hgo (.slice A' (st.length + 1) c'))
      generalize st.length + 1 = sl at *
      have hsl : (qs.set pc ({ qs[pc].1 with st := st ++ [⟨nx, un⟩] }, .slice A' sl c')).length = m1.length := by rw [List.length_set]; exact hql
      have HN := Lib.hid (HS.out.setNx (by omega) (i := pc) (by omega) (nx + 1))
      have HB4 := Lib.hid (HB3.out.setCell (p := ⟨go, pc * 4 + 2, none⟩) hgo (.int .i64 ((nx + 1 : Nat) : Int)))
      rw [show (((nx + 1 : Nat)) : Int) = (nx : Int) + 1 by omega] at HN HB4
      generalize (w'.setCell ⟨go, pc * 4 + 3, none⟩ (.slice A' sl c')).setCell ⟨go, pc * 4 + 2, none⟩ (.int .i64 ((nx : Int) + 1)) = w4 at *
      have HM4 : Hid (MeS w4 W.heap.size (.slice (some ⟨go, 0, none⟩) m.length c1) (m1.set pc { clAt m1 pc with st := (clAt m1 pc).st ++ [⟨nx, un⟩], nx := nx + 1 })) := Lib.hid ⟨_, by rw [map_set_fst, map_set_fst, HQS.out, List.getElem_set_self, List.set_set]; simp only; rw [HQC.out, HST.out], HN.out⟩
      have HX4 := Lib.hid (HX.out.low HB4.out hxl)
      have HY4 := Lib.hid (HY.out.low HB4.out hyl)
      have hs4 := HB4.out.size
      have HB04 := Lib.hid (HB0.out.trans (HB4.out.mono hs0))
      clear e2 e3 fz z2 z3 zf y3 yf y2 yf2 q1 q2 r0 r1 rf0 rf1 x0 hc'
      have x0 := HX4.out.cell 0
      have r0 := HY4.out.cell 0
      have r1 := HY4.out.cell 1
      have rf0 := HY4.out.frozen 0
      have rf1 := HY4.out.frozen 1
      simp only [List.getElem?_cons_zero, List.getElem?_cons_succ] at x0 r0 r1
      have hxl4 := HX4.out.lt
      have hyl4 := HY4.out.lt
      have HOC := Lib.hid (fun (wz : World) (hz : But (bx + 1) w4 wz) => ownCells_any _ _ W.heap.size wz (HM4.out.but HY4.out hz) HOK2.out)
      have HBA0 := Lib.hid (But.drew (bx + 1) w4)
      have HBA1 := Lib.hid (But.put (bx + 1) w4 [.int .i64 (pc : Nat), .int .i64 (nx : Nat)])
      have tok1 : True := trivial
      go_region_law (first
        | ((have _t := tok1); go_simp; go_at_call 117; (refine (HOC.out _ HBA0.out).mono ?_); (rintro e w6 ⟨v6, rfl, hv6, hb6⟩); clear tok1 _t; (have HQB := Lib.hid (show Below w4.heap.size w4 w6 from (Below.refl w4.heap.size w4).drew.trans hb6)); (have HY6 := Lib.hid (HY4.out.low HQB.out hyl4)); (have r0 := HY6.out.cell 0); (have r1 := HY6.out.cell 1); (have rf0 := HY6.out.frozen 0); (have rf1 := HY6.out.frozen 1); (simp only [List.getElem?_cons_zero, List.getElem?_cons_succ] at r0 r1); (have x0 : w6.cell? ⟨bx, 0, none⟩ = some (.int .i64 (pc : Nat)) := (HQB.out.cell (p := ⟨bx, 0, none⟩) hxl4).trans x0); (have HV6 := Lib.hid (MeS.base hv6 (show w.heap.size ≤ w4.heap.size from HB04.out.size))); (obtain ⟨A6, c6, rfl, hc6⟩ := hv6.slice); clear hv6 hb6)
        | fail)
      all_goals
        have HR7 : RowB (w6.setCells (bx + 1) 0 [.int .i64 (pc : Nat), .int .i64 (nx : Nat)]) (bx + 1) 77 _ := HY6.out.putAll _ rfl
        have HVZ := Lib.hid (HV6.out.keepT (HY6.out.kpt 0 [.int .i64 (pc : Nat), .int .i64 (nx : Nat)]) (by decide) (by decide))
        have HBZ := Lib.hid ((HB04.out.trans (HQB.out.mono HB04.out.size)).trans (below_putL (B := w.heap.size) (g := bx + 1) (by have := HBX.out; omega) [.int .i64 (pc : Nat), .int .i64 (nx : Nat)] 0 w6))
        have HFIN : Hid (MpRet w w.heap.size (lendP m pc pt un) (.returned (.tuple #[.slice A6 (m1.set pc { clAt m1 pc with st := (clAt m1 pc).st ++ [⟨nx, un⟩], nx := nx + 1 }).length c6, .agg #[.int .i64 (pc : Nat), .int .i64 (nx : Nat)], .int .i64 0])) (w6.setCells (bx + 1) 0 [.int .i64 (pc : Nat), .int .i64 (nx : Nat)])) := Lib.hid (by
          rw [HR.out]
          exact ⟨_, rfl, HVZ.out, HBZ.out⟩)
        rw [List.length_set, HML.out] at HFIN
        clear HR HVZ HV6 HOC HM4
        go_wp2_with (at_builtin; fail)
        exact bodyPost_ret (res_mid (a := 6) (p := 7) (u := 8) (ty := 77) rfl _ _ (bx + 1) 77 _ (0, 0) _ rfl HR7 Tryz.underlying77 rfl rfl) rfl HFIN.out
  · have HR : Hid (lendP m pc pt un = (m1, (0, 0), code)) := Lib.hid (by unfold lendP; rw [htp]; exact if_pos hcode)
    have hq : (code != 0) = true := by simpa using hcode
    clear hcode htp
    go_wp2_with (at_builtin; fail)
    have HR7 : RowB (w2.setCells (bx + 1) 0 [.int .i64 0, .int .i64 0]) (bx + 1) 77 _ := HY2.out.putAll _ rfl
    refine bodyPost_ret (res_mid (a := 6) (p := 7) (u := 8) (ty := 77) rfl _ _ (bx + 1) 77 _ (0, 0) _ rfl HR7 Tryz.underlying77 rfl rfl) rfl ?_
    rw [HR.out]
    exact ⟨_, rfl, (HO2.out.base hs0).keepT (HY2.out.kpt 0 [.int .i64 0, .int .i64 0]) (by decide) (by decide), HBA.out.trans (below_putL (B := w.heap.size) (g := bx + 1) (by have := HBX.out; omega) [.int .i64 0, .int .i64 0] 0 w2)⟩

end Go.Proofs.YtfioaohadanjmaaGreat
