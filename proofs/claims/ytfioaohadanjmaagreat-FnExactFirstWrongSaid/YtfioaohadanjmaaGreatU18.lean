import Derived.Test.YtfioaohadanjmaaGreatU17
import Derived.Maps.OwnSet
import Derived.Lib.SliceRun
set_option linter.unusedVariables false

/- impl.CellsValid: a map[int]bool that the call makes. -/
namespace Go.Proofs.YtfioaohadanjmaaGreat
open Go.RowKit Go.Maps

theorem plainElem_bool_inv {H : Type} {P : Program} {e : TypeId} (he : P.underlying e = some .bool) {v : Value} {z : DataW H × List MemPlace} (h : plainElem P e v = some z) : ∃ x, v = .bool x ∧ z = (.lit (.bool x), []) := by
  unfold plainElem at h
  rw [he] at h
  cases v <;> simp at h
  exact ⟨_, rfl, h.symm⟩
theorem below_of_grown {w w' : World} {b base : Nat} (hg : w.grownBy w' (some b)) (hb : base ≤ b) (hs : base ≤ w.heap.size) : Below base w w' :=
  ⟨hg.os, hg.tape, hg.output, hg.size, fun k hk => hg.block k (by omega) fun e => by injection e with e; omega⟩
theorem Tryz.lawInt : Keyed Tryz.prog 3 := int_keyed Tryz.underlying3
theorem Tryz.zeroB (w : World) : (zeroValue 4).run Tryz.prog w = .ok (.bool false) w := by kernel_rfl
/-- the ids of the first k tags, as a set -/
def seenD (st : List Tg) (k : Nat) : DataW Unit := setOf (.lit (.bool true)) ((st.take k).map fun t => Lit.int .i64 ((t.id : Nat) : Int))
theorem seenD_zero (st : List Tg) : seenD st 0 = .map [] := by simp [seenD, setOf]
theorem seenD_succ {st : List Tg} {k : Nat} (h : k < st.length) : seenD st (k + 1) = (seenD st k).put (.int .i64 ((st[k].id : Nat) : Int)) (.lit (.bool true)) := by
  unfold seenD
  rw [take_succ_get st k h, List.map_append]
  exact setOf_snoc _ _ _
theorem seen_not {c : Cl} (h : c.ok) {k : Nat} (hk : k < c.st.length) : Maps.has (seenD c.st k) (.int .i64 ((c.st[k].id : Nat) : Int)) = false := by
  unfold seenD
  rw [has_setOf _ _ _ (fun x hx => by obtain ⟨t, -, rfl⟩ := List.mem_map.1 hx; trivial)]
  rw [List.any_eq_false]
  intro x hx
  obtain ⟨t, ht, rfl⟩ := List.mem_map.1 hx
  obtain ⟨j, hj, rfl⟩ := List.getElem_of_mem ht
  rw [List.length_take] at hj
  have hlt := h.inc (i := j) (j := k) (by omega) hk
  rw [List.getElem_take]
  intro e
  have := WideAt.sameKey_eq e
  injection this with _ e2
  omega
theorem i64_wf {z : Nat} (h : z ≤ 100000) : (Lit.int .i64 ((z : Nat) : Int)).wf = true := WalkArith.wf_i64 (by omega)
theorem key_i64 {z : Nat} (h : z ≤ 100000) : keyOf Tryz.prog 3 (.int .i64 ((z : Nat) : Int)) = some (.int .i64 ((z : Nat) : Int)) := keyOf_int_mk Tryz.underlying3 (i64_wf h)
theorem look_not {w : World} {b n z : Nat} {D : DataW Unit} (h : w.ownsMap Tryz.prog 3 (plainElem Tryz.prog 4) b n D) (hz : z ≤ 100000) (hn : Maps.has D (.int .i64 ((z : Nat) : Int)) = false) :
    (Instr.lookup 155 (.map (some b)) (.int .i64 ((z : Nat) : Int)) false).run Tryz.prog w = .ok (.bool false) w := by
  obtain ⟨v, ps, hrun, hv⟩ := h.lookup Tryz.lawInt Tryz.underlying155 (Tryz.zeroB w) (plainElem_bool Tryz.underlying4 false) (key_i64 hz)
  rw [atKey_of_not_has hn] at hv
  obtain ⟨x, rfl, hx⟩ := plainElem_bool_inv Tryz.underlying4 hv
  cases hx
  exact hrun
set_option maxHeartbeats 8000000 in
set_option maxRecDepth 100000 in
theorem iCellsValid_any (v : Value) (ps : List (Cl × Value)) (base : Nat) (w : World) (h : OCe w base v ps) (hok : okM (ps.map (·.1))) :
    Calls Tryz.prog 115 #[v] w fun e w' => e = .returned (.bool true) ∧ Below w.heap.size w w' := by
  have hl : ps.length ≤ 200 := by simpa using hok.1
  have OK := Lib.hid (fun i (hi : i < ps.length) => hok.2 ps[i].1 (List.mem_map.2 ⟨ps[i], List.getElem_mem hi, rfl⟩))
  have H := Lib.hid h
  obtain ⟨A, c, rfl, hc⟩ := h.slice
  have q0 : decide (((ps.length : Nat) : Int) > 200) = false := decide_eq_false (by omega)
  have hmm := @run_makeMap Tryz.prog
  clear h hok
  go_enter Tryz.func115, Tryz.ntmps115
  go_wp2_with (at_builtin; fail)
  clear q0
  go_loopw [13] (fun i wr => ∃ k : Nat, k ≤ ps.length ∧ i = .int .i64 k ∧ Below w.heap.size w wr) (fun i _ => ps.length - (intOf i).toNat)
  case atStart => exact ⟨0, Nat.zero_le _, rfl, Below.refl _ _⟩
  case round =>
    obtain ⟨k, hk, rfl, hbw⟩ := hrel
    have HBW := Lib.hid hbw
    have hsw := hbw.size
    have HW := Lib.hid (H.out.bel hbw)
    clear hbw
    by_cases hlt : k < ps.length
    · obtain ⟨g, rfl, hgb, hgl, -, d0, d1, d2, d3, -⟩ := HW.out.at_ hlt
      have HTG := Lib.hid ((HW.out.row k hlt).toS (by have := (OK.out k hlt).l1; omega))
      have HOK := Lib.hid (OK.out k hlt)
      generalize ps[k] = p at *
      obtain ⟨cl, tv⟩ := p
      simp only at d0 d1 d2 d3 HTG HOK
      obtain ⟨At, ct, rfl, -⟩ := HTG.out.slice
      have hst := HOK.out.l1
      have hst0 := HOK.out.l0
      have HW1 : Hid (withinP cl.val 0 9 = true) := Lib.hid (by have := HOK.out.v0; have := HOK.out.v9; simp [withinP]; omega)
      have HW2 : Hid (withinP ((cl.nx : Nat) : Int) 1 1000 = true) := Lib.hid (by have := HOK.out.n0; have := HOK.out.n1; simp [withinP]; omega)
      have HW3 : Hid (withinP ((cl.st.length : Nat) : Int) 1 200 = true) := Lib.hid (by simp [withinP]; omega)
      have hnx := HOK.out.n1
      have HX := Lib.hid (RowB.new wr [.int .i64 cl.val, .bool cl.al, .int .i64 (cl.nx : Nat), .slice At cl.st.length ct] 84)
      have HB1 := Lib.hid (bel_a wr (.cells #[.int .i64 cl.val, .bool cl.al, .int .i64 (cl.nx : Nat), .slice At cl.st.length ct] 84))
      go_upto_region 6 with (at_builtin; fail)
      generalize wr.alloc (.cells #[.int .i64 cl.val, .bool cl.al, .int .i64 (cl.nx : Nat), .slice At cl.st.length ct] 84) = w1 at *
      obtain ⟨bx, hbx⟩ : ∃ bx, bx = wr.heap.size := ⟨_, rfl⟩
      rw [← hbx] at HX ⊢
      have HBX := Lib.hid hbx
      have hs1 := HB1.out.size
      have hxl := HX.out.lt
      have HT1 := Lib.hid (HTG.out.low HB1.out (Nat.le_refl _))
      obtain ⟨b, off, rfl, hbt, t0, t1⟩ := HT1.out.get (i := 0) (by omega)
      rw [HOK.out.u (by omega), Nat.zero_mul, Nat.add_zero] at t1
      have x0 := HX.out.cell 0
      have x2 := HX.out.cell 2
      have x3 := HX.out.cell 3
      simp only [List.getElem?_cons_zero, List.getElem?_cons_succ] at x0 x2 x3
      clear hbx t0 d0 d1 d2 d3
      go_wp2_with (at_builtin; fail)
      refine (within_any _ _ _ w1).mono ?_
      rintro e w' ⟨rfl, rfl⟩
      rw [HW1.out]
      go_wp2_with (at_builtin; fail)
      refine (within_any _ _ _ _).mono ?_
      rintro e w' ⟨rfl, rfl⟩
      rw [HW2.out]
      go_wp2_with (at_builtin; fail)
      refine (within_any _ _ _ _).mono ?_
      rintro e w' ⟨rfl, rfl⟩
      rw [HW3.out]
      go_wp2_with (at_builtin; fail)
      have HM0 := Lib.hid (World.ownsMap_made w1 Tryz.prog 3 (plainElem (H := Unit) Tryz.prog 4))
      have HB2 := Lib.hid (bel_a w1 (.map #[] 0))
      obtain ⟨bm, hbm⟩ : ∃ bm, bm = w1.heap.size := ⟨_, rfl⟩
      rw [← hbm] at HM0 ⊢
      have HBM := Lib.hid hbm
      generalize w1.alloc (.map #[] 0) = w2 at *
      clear hbm x0 x2 x3 t1
      go_loopw [46] (fun i wx => ∃ j : Nat, j ≤ cl.st.length ∧ i = .int .i64 j ∧ wx.ownsMap Tryz.prog 3 (plainElem (H := Unit) Tryz.prog 4) bm j (seenD cl.st j) ∧ Below w1.heap.size w1 wx) (fun i _ => cl.st.length - (intOf i).toNat)
      case atStart => exact ⟨0, Nat.zero_le _, rfl, by rw [seenD_zero]; exact HM0.out, HB2.out⟩
      case round =>
        obtain ⟨j, hj, rfl, hm, hbx⟩ := hrel
        have HM := Lib.hid hm
        have HBW2 := Lib.hid hbx
        have hsx := hbx.size
        have HXX := Lib.hid (HX.out.low hbx hxl)
        have HTX := Lib.hid (HT1.out.low hbx (by have := HBX.out; omega))
        clear hm hbx
        by_cases hjl : j < cl.st.length
        · obtain ⟨b', off', e, hbt2, z0, z1⟩ := HTX.out.get (i := j) hjl
          injection e with e
          injection e with e1 e2
          subst e1 e2
          have HSN := Lib.hid (seen_not HOK.out hjl)
          have HSS := Lib.hid (seenD_succ (st := cl.st) hjl)
          have hbd := HOK.out.bnd hjl
          obtain ⟨un, hun⟩ : ∃ un, un = cl.st[j].un := ⟨_, rfl⟩
          rw [← hun] at z1
          clear hun
          generalize cl.st[j].id = z at *
          generalize seenD cl.st j = D at *
          have HW4 : Hid (withinP ((z : Nat) : Int) 0 (((cl.nx : Nat) : Int) - 1) = true) := Lib.hid (by simp [withinP]; omega)
          have HA := Lib.hid (bel_a wr (.cells #[.int .i64 (z : Nat), .bool un] 116))
          have HR := Lib.hid (RowB.new wr [.int .i64 (z : Nat), .bool un] 116)
          have HMA := Lib.hid (HM.out.alloc (.cells #[.int .i64 (z : Nat), .bool un] 116))
          go_upto_region 12 with (at_builtin; fail)
          generalize wr.alloc (.cells #[.int .i64 (z : Nat), .bool un] 116) = wy at *
          obtain ⟨by_, hby⟩ : ∃ by_, by_ = wr.heap.size := ⟨_, rfl⟩
          rw [← hby] at HR ⊢
          have HBYE := Lib.hid hby
          have y0 := HR.out.cell 0
          have HXY := Lib.hid (HXX.out.low HA.out (by have := HXX.out.lt; omega))
          have y2 := HXY.out.cell 2
          simp only [List.getElem?_cons_zero, List.getElem?_cons_succ] at y0 y2
          have hlook := look_not HMA.out (by omega) HSN.out
          clear hby z0 z1
          go_wp2_with (at_builtin; fail)
          refine (within_any _ _ _ wy).mono ?_
          rintro e w' ⟨rfl, rfl⟩
          rw [HW4.out]
          go_wp2_with (first
            | (at_mapUpdate; refine wpList_mapUpdate_own _ rfl _ _ _ 155 rfl 3 4 Tryz.lawInt Tryz.underlying155 (plainElem (H := Unit) Tryz.prog 4) bm j _ rfl HMA.out (by unfold maxLen; omega) _ _ _ rfl rfl (key_i64 (by omega)) _ [] (plainElem_bool Tryz.underlying4 true) ?_; intro w9 hown1 hgrow1)
            | (at_builtin; fail))
          rw [← HSS.out] at hown1
          exact ⟨⟨j + 1, by omega, by go_num, hown1, (HBW2.out.trans (HA.out.mono hsx)).trans (below_of_grown hgrow1 (by have := HBM.out; omega) (by have := HA.out.size; omega))⟩, by simp [intOf] <;> omega⟩
        · go_wp2_with (at_builtin; fail)
          exact ⟨⟨k + 1, by omega, by go_num, HBW.out.trans ((HB1.out.trans (HBW2.out.mono hs1)).mono hsw)⟩, by simp [intOf] <;> omega⟩
    · go_wp2_with (at_builtin; fail)
      go_ret
      exact ⟨rfl, HBW.out⟩

end Go.Proofs.YtfioaohadanjmaaGreat

/- slices.Clone of tags and cells, impl.ownCells. -/
namespace Go.Proofs.YtfioaohadanjmaaGreat
open Go.RowKit Go.Lib

set_option maxHeartbeats 1000000 in
set_option maxRecDepth 100000 in
theorem cloneTag_any (v : Value) (l : List Tg) (B : Nat) (w : World) (h : TgS w B v l) (hB : B ≤ w.heap.size) :
    Calls Tryz.prog 130 #[v] w fun e w' => ∃ v', e = .returned v' ∧ OTg w' w.heap.size v' l ∧ Below w.heap.size w w' := by
  have H := Lib.hid h
  have hl := h.len
  obtain ⟨A, c, rfl, hc⟩ := h.slice
  have hq : ∀ W, (binOp .eql 82 (.slice A l.length c) (.slice none 0 0)).run Tryz.prog W = .ok (.bool A.isNone) W := fun W => by
    first
      | exact Lib.run_eql_slice_nil W _ _ _ _ _ _ _ Tryz.underlying82
      | exact Lib.run_eql_slice_nil W _ _ _ _ _ Tryz.underlying82
  have HE := Lib.hid (OTg.empty w w.heap.size (Nat.le_refl _))
  have HBA := Lib.hid (bel_a w (.cells #[] 116))
  clear h
  cases A with
  | none =>
    have hl0 : l = [] := by
      rcases Nat.eq_zero_or_pos l.length with h0 | h0
      · exact List.eq_nil_of_length_eq_zero h0
      · obtain ⟨b, off, e, _⟩ := H.out.get h0; cases e
    subst hl0
    have hnil : ∀ W, (binOp .eql 82 (.slice none 0 c) (.slice none 0 0)).run Tryz.prog W = .ok (.bool true) W := hq
    clear hq
    simp only [List.length_nil]
    go_enter Tryz.func130, Tryz.ntmps130
    go_wp2_with (at_builtin; fail)
    go_ret
    exact ⟨_, rfl, OTg.nil _ _, Below.refl _ _⟩
  | some ad =>
    have hnil : ∀ W, (binOp .eql 82 (.slice (some ad) l.length c) (.slice none 0 0)).run Tryz.prog W = .ok (.bool false) W := hq
    have hbz : w.heap.size ≤ (w.alloc (.cells #[] 116)).heap.size := HBA.out.size
    clear hq
    go_enter Tryz.func130, Tryz.ntmps130
    go_wp2_with (at_builtin; go_must (refine wpList_app_tags rfl (.tmp 5) (.tmp 6) rfl w.heap.size _ [] rfl HE.out B _ l rfl (H.out.low HBA.out hB) hbz (by simp; omega) ?_); intro v' w' hP' hG' hL'; (have HG' := Lib.hid (grown_bel_own HE.out hG' hbz)))
    go_ret
    exact ⟨_, rfl, by simpa using hP', HBA.out.trans HG'.out⟩
/-- a row of cells, shallow -/
def CeR (w : World) (base : Nat) (v : Value) (ps : List (Cl × Value)) : Prop := w.ownsRow base 84 4 v ps.length (ceCells ps)
theorem CeR.slice {w : World} {base : Nat} {v : Value} {ps : List (Cl × Value)} (h : CeR w base v ps) : ∃ A c, v = .slice A ps.length c ∧ ps.length ≤ c := by
  rcases h.2 with ⟨rfl, h0⟩ | ⟨g, cap, cur, rfl, _, _, hc, _⟩
  · exact ⟨none, 0, by rw [h0], by omega⟩
  · exact ⟨_, cap, rfl, hc⟩
set_option maxHeartbeats 1000000 in
set_option maxRecDepth 100000 in
theorem cloneCell_any (v : Value) (ps : List (Cl × Value)) (base : Nat) (w : World) (h : OCe w base v ps) (hl : ps.length ≤ 1000) :
    Calls Tryz.prog 129 #[v] w fun e w' => ∃ v', e = .returned v' ∧ CeR w' w.heap.size v' ps ∧ Below w.heap.size w w' := by
  have H := Lib.hid h
  obtain ⟨A, c, rfl, hc⟩ := h.slice
  have hq : ∀ W, (binOp .eql 50 (.slice A ps.length c) (.slice none 0 0)).run Tryz.prog W = .ok (.bool A.isNone) W := fun W => by
    first
      | exact Lib.run_eql_slice_nil W _ _ _ _ _ _ _ Tryz.underlying50
      | exact Lib.run_eql_slice_nil W _ _ _ _ _ Tryz.underlying50
  have HE := Lib.hid (World.ownsRow_lit (base := w.heap.size) (e := 84) (size := 4) w #[] 0 (Nat.le_refl _) (by simp [maxLen]) rfl)
  have HBA := Lib.hid (bel_a w (.cells #[] 84))
  clear h
  cases A with
  | none =>
    have hl0 : ps = [] := by
      rcases Nat.eq_zero_or_pos ps.length with h0 | h0
      · exact List.eq_nil_of_length_eq_zero h0
      · obtain ⟨g, e, _⟩ := H.out.at_ h0; cases e
    subst hl0
    have hnil : ∀ W, (binOp .eql 50 (.slice none 0 c) (.slice none 0 0)).run Tryz.prog W = .ok (.bool true) W := hq
    clear hq
    simp only [List.length_nil]
    go_enter Tryz.func129, Tryz.ntmps129
    go_wp2_with (at_builtin; fail)
    go_ret
    exact ⟨_, rfl, World.ownsRow_nil _ _ _ _, Below.refl _ _⟩
  | some ad =>
    have hnil : ∀ W, (binOp .eql 50 (.slice (some ad) ps.length c) (.slice none 0 0)).run Tryz.prog W = .ok (.bool false) W := hq
    have hbz : w.heap.size ≤ (w.alloc (.cells #[] 84)).heap.size := HBA.out.size
    have HRD := Lib.hid (H.out.bel HBA.out).rd
    have HON := Lib.hid H.out.one
    clear hq
    go_enter Tryz.func129, Tryz.ntmps129
    go_wp2_with (at_builtin; go_must (refine wpList_app_any Tryz.underlying50 Tryz.infoceCells rfl (by decide) (by decide) rfl (.tmp 5) (.tmp 6) rfl w.heap.size _ 0 _ rfl HE.out _ ps.length (ceCells ps) rfl HRD.out HON.out hbz (by omega) ?_); intro v' w' hP' hG' hL')
    go_ret
    refine ⟨_, rfl, ?_, HBA.out.trans ((Evo.grown (T := 84) HE.out hG').below hbz)⟩
    unfold CeR
    simpa using hP'
theorem CeR.put {w : World} {base g c : Nat} {n : Nat} {qs r : List (Cl × Value)} {x : Cl × Value} (h : CeR w base (.slice (some ⟨g, 0, none⟩) n c) (qs ++ x :: r)) (hn : n = (qs ++ x :: r).length) (tv : Value) :
    CeR (w.setCell ⟨g, qs.length * 4 + 3, none⟩ tv) base (.slice (some ⟨g, 0, none⟩) n c) (qs ++ (x.1, tv) :: r) := by
  subst hn
  have h1 := (World.ownsRow.stored h (qs.length * 4 + 3) tv).1
  have hi : qs.length < (qs ++ x :: r).length := by simp
  rw [ceCells_st hi tv (qs ++ x :: r)[qs.length].1.st] at h1
  have e : (qs ++ x :: r)[qs.length] = x := by rw [List.getElem_append_right (Nat.le_refl _)]; simp
  rw [e] at h1
  have e2 : (qs ++ x :: r).set qs.length (({ x.1 with st := x.1.st } : Cl), tv) = qs ++ (x.1, tv) :: r := by
    rw [List.set_append_right _ _ (Nat.le_refl _), Nat.sub_self]; rfl
  rw [e2] at h1
  unfold CeR
  simpa using h1
set_option maxHeartbeats 4000000 in
set_option maxRecDepth 100000 in
theorem ownCells_any (v : Value) (m : List Cl) (base : Nat) (w : World) (h : MeS w base v m) (hok : okM m) :
    Calls Tryz.prog 117 #[v] w (MeRet w m) := by
  obtain ⟨ps, rfl, h⟩ := h
  have hl : ps.length ≤ 200 := by simpa using hok.1
  have OK := Lib.hid (fun i (hi : i < ps.length) => hok.2 ps[i].1 (List.mem_map.2 ⟨ps[i], List.getElem_mem hi, rfl⟩))
  have H := Lib.hid h
  have HC := Lib.hid (cloneCell_any v ps base w h (by omega))
  obtain ⟨A, c, rfl, hc⟩ := h.slice
  clear h hok
  go_enter Tryz.func117, Tryz.ntmps117
  go_wp2_with (at_builtin; fail)
  refine HC.out.mono ?_
  rintro e W ⟨v1, rfl, hr1, hb1⟩
  have HR1 := Lib.hid hr1
  have HB1 := Lib.hid hb1
  have hs1 := hb1.size
  obtain ⟨A1, c1, rfl, hc1⟩ := hr1.slice
  clear hr1 hb1 HC
  go_wp2_with (at_builtin; fail)
  go_loopw [10] (fun i wr => ∃ (k : Nat) (qs : List (Cl × Value)), k ≤ ps.length ∧ i = .int .i64 k ∧ qs.length = k ∧ qs.map (·.1) = (ps.take k).map (·.1) ∧ CeR wr w.heap.size (.slice A1 ps.length c1) (qs ++ ps.drop k) ∧ (∀ i (h : i < qs.length), OTg wr w.heap.size qs[i].2 qs[i].1.st) ∧
      (∀ i j (hi : i < qs.length) (hj : j < qs.length), i ≠ j → ∀ b, qs[i].2.ownBlock = some b → qs[j].2.ownBlock ≠ some b) ∧ Below w.heap.size w wr) (fun i _ => ps.length - (intOf i).toNat)
  case atStart => exact ⟨0, [], Nat.zero_le _, rfl, rfl, rfl, HR1.out, fun i h => by simp at h, fun i j h => by simp at h, HB1.out⟩
  case round =>
    obtain ⟨k, qs, hk, rfl, hql, hq, hr, ht, hne, hbw⟩ := hrel
    have HQ := Lib.hid hq
    have HR := Lib.hid hr
    have HT := Lib.hid ht
    have HNE := Lib.hid hne
    have HBW := Lib.hid hbw
    have HQL := Lib.hid hql
    have hsw := hbw.size
    have HW := Lib.hid (H.out.bel hbw)
    clear hq ht hne hbw
    by_cases hlt : k < ps.length
    · have hNE : (ps.take (k + 1)).map (·.1) = qs.map (·.1) ++ [ps[k].1] := by rw [take_succ_get ps k hlt, List.map_append, HQ.out]; rfl
      have HNX := Lib.hid hNE
      rw [List.drop_eq_getElem_cons hlt] at hr
      have HRD := Lib.hid hr
      have HLEN : Hid (ps.length = (qs ++ ps[k] :: ps.drop (k + 1)).length) := Lib.hid (by rw [List.length_append, List.length_cons, List.length_drop]; omega)
      have HTG := Lib.hid ((HW.out.row k hlt).toS (by have := (OK.out k hlt).l1; omega))
      have hst := (OK.out k hlt).l1
      generalize ps[k] = p at *
      obtain ⟨cl, tv⟩ := p
      simp only at HTG HNX hst
      obtain ⟨At, ct, rfl, -⟩ := HTG.out.slice
      obtain ⟨g, eg, hgb, hgl⟩ : ∃ g, A1 = some ⟨g, 0, none⟩ ∧ w.heap.size ≤ g ∧ g < wr.heap.size := by
        rcases hr.2 with ⟨-, h0⟩ | ⟨g, cap, cur, e, hb, hh, _⟩
        · simp at h0
        · injection e with e1
          exact ⟨g, e1, hb, row_lt hh⟩
      subst eg
      have hr2 : CeR wr w.heap.size (.slice (some ⟨g, 0, none⟩) (qs ++ (cl, Value.slice At cl.st.length ct) :: ps.drop (k + 1)).length c1) (qs ++ (cl, .slice At cl.st.length ct) :: ps.drop (k + 1)) := by rw [← HLEN.out]; exact hr
      have hat := ceCells_at (ls := qs ++ (cl, Value.slice At cl.st.length ct) :: ps.drop (k + 1)) (i := k) (by rw [← HLEN.out]; exact hlt)
      have hcx : ∀ j, j < (qs ++ (cl, Value.slice At cl.st.length ct) :: ps.drop (k + 1)).length * 4 → wr.cell? ⟨g, j, none⟩ = (ceCells (qs ++ (cl, Value.slice At cl.st.length ct) :: ps.drop (k + 1)))[j]? := fun j hj => World.ownsRow.cellAt hr2 j hj
      rw [← HLEN.out] at hcx
      have eqk : (qs ++ (cl, Value.slice At cl.st.length ct) :: ps.drop (k + 1))[k]'(by rw [← HLEN.out]; exact hlt) = (cl, .slice At cl.st.length ct) := by
        rw [List.getElem_append_right (by omega)]; simp [hql]
      rw [eqk] at hat
      obtain ⟨a0, a1, a2, a3⟩ := hat
      have d0 := (hcx (k * 4) (by omega)).trans a0
      have d1 := (hcx (k * 4 + 1) (by omega)).trans a1
      have d2 := (hcx (k * 4 + 2) (by omega)).trans a2
      have d3 := (hcx (k * 4 + 3) (by omega)).trans a3
      have f3 := World.ownsRow.frozenAt hr2 (k * 4 + 3)
      have HX := Lib.hid (RowB.new wr [.int .i64 cl.val, .bool cl.al, .int .i64 (cl.nx : Nat), .slice At cl.st.length ct] 84)
      have HB2 := Lib.hid (bel_a wr (.cells #[.int .i64 cl.val, .bool cl.al, .int .i64 (cl.nx : Nat), .slice At cl.st.length ct] 84))
      clear hr hr2 hcx a0 a1 a2 a3 eqk hNE
      simp only at d0 d1 d2 d3
      go_upto_region 5 with (at_builtin; fail)
      have e3 := (HB2.out.cell (p := ⟨g, k * 4 + 3, none⟩) hgl).trans d3
      have ef := (HB2.out.frozen (p := ⟨g, k * 4 + 3, none⟩) hgl).trans f3
      generalize wr.alloc (.cells #[.int .i64 cl.val, .bool cl.al, .int .i64 (cl.nx : Nat), .slice At cl.st.length ct] 84) = w1 at *
      obtain ⟨bx, hbx⟩ : ∃ bx, bx = wr.heap.size := ⟨_, rfl⟩
      rw [← hbx] at HX ⊢
      have x3 := HX.out.cell 3
      simp only [List.getElem?_cons_zero, List.getElem?_cons_succ] at x3
      have HBX := Lib.hid hbx
      have hs2 := HB2.out.size
      have HCT := Lib.hid (cloneTag_any _ cl.st wr.heap.size w1 (HTG.out.low HB2.out (Nat.le_refl _)) hs2)
      clear hbx d0 d1 d2 d3 f3
      go_wp2_with (at_builtin; fail)
      refine HCT.out.mono ?_
      rintro e w2 ⟨v2, rfl, ho2, hb2⟩
      have HO2 := Lib.hid ho2
      have HB3 := Lib.hid (HB2.out.trans (hb2.mono hs2))
      have y3 := (hb2.cell (p := ⟨g, k * 4 + 3, none⟩) (by show g < _; omega)).trans e3
      have yf := (hb2.frozen (p := ⟨g, k * 4 + 3, none⟩) (by show g < _; omega)).trans ef
      obtain ⟨A2, c2, rfl, hc2⟩ := ho2.slice
      clear ho2 hb2 e3 ef x3 HCT
      go_wp2_with (at_builtin; fail)
      have HRW : Hid (CeR w2 w.heap.size (.slice (some ⟨g, 0, none⟩) ps.length c1) (qs ++ (cl, Value.slice At cl.st.length ct) :: ps.drop (k + 1))) := Lib.hid (own_same HRD.out fun b hb => HB3.out.block b (by
        injection hb with hb
        have e : g = b := hb
        omega))
      have HP := Lib.hid (HRW.out.put HLEN.out (.slice A2 cl.st.length c2))
      rw [HQL.out] at HP
      have hGN : ∀ {v : Value} {l : List Tg} {b0 : Nat}, OTg w2 b0 v l → OTg (w2.setCell ⟨g, k * 4 + 3, none⟩ (.slice A2 cl.st.length c2)) b0 v l := fun {v l b0} ho => own_same ho fun b hb => heap_setCell_other w2 ⟨g, _, none⟩ b _ (fun e => by
        have e' : b = g := e
        subst e'
        obtain ⟨c1', e1⟩ := own_heap ho hb
        obtain ⟨c2', e2⟩ := own_heap HRW.out (b := b) rfl
        rw [e1] at e2
        injection e2 with e2
        injection e2 with _ e3
        exact absurd e3 (by decide))
      refine ⟨⟨k + 1, qs ++ [(cl, .slice A2 cl.st.length c2)], by omega, by go_num, by rw [List.length_append, HQL.out]; rfl, by rw [List.map_append, HNX.out]; rfl, ?_, fun i hi => ?_, fun i j hi hj hij b hb => ?_, HBW.out.trans ((HB3.out.mono hsw).setCell (p := ⟨g, _, none⟩) hgb _)⟩, by simp [intOf] <;> omega⟩
      · have := HP.out
        rwa [List.append_assoc]
      · rw [List.getElem_append]
        split
        · rename_i h1
          exact hGN ((HT.out i h1).bel HB3.out)
        · simp only [List.getElem_singleton]
          exact hGN (HO2.out.base (by omega))
      · rw [List.length_append] at hi hj
        simp only [List.length_cons, List.length_nil] at hi hj
        have hnew : ∀ (i : Nat) (h : i < qs.length) (b : Nat), qs[i].2.ownBlock = some b → (Value.slice A2 cl.st.length c2).ownBlock ≠ some b := fun i h b h1 h2 => by
          have k1 := ((HT.out i h).own_lt h1).2
          have k2 := (HO2.out.own_lt h2).1
          omega
        rw [List.getElem_append] at hb ⊢
        split at hb
        · rename_i h1
          split
          · rename_i h2; exact HNE.out i j h1 h2 hij b hb
          · simp only [List.getElem_singleton]; exact hnew i h1 b hb
        · rename_i h1
          simp only [List.getElem_singleton] at hb
          split
          · rename_i h2; intro e2; exact hnew j h2 b e2 hb
          · omega
    · have hke : k = ps.length := by omega
      subst hke
      rw [List.drop_of_length_le (Nat.le_refl _), List.append_nil] at HR
      have hQ2 : qs.map (·.1) = ps.map (·.1) := by rw [HQ.out, List.take_length]
      have HQ2 := Lib.hid hQ2
      clear hQ2 hr
      go_wp2_with (at_builtin; fail)
      go_ret
      exact ⟨_, rfl, ⟨qs, HQ2.out, ⟨by rw [HQL.out]; exact (by have := HR.out; unfold CeR at this; rwa [HQL.out] at this), HT.out, HNE.out⟩⟩, HBW.out⟩

end Go.Proofs.YtfioaohadanjmaaGreat

/- closures of impl.touch; slices.IndexFunc and DeleteFunc of tags. -/
namespace Go.Proofs.YtfioaohadanjmaaGreat
open Go.RowKit Go.Lib

def idxT (f : Tg → Bool) (l : List Tg) : Int := match l.findIdx? f with | none => -1 | some k => (k : Nat)
theorem idxT_some {f : Tg → Bool} {l : List Tg} {k : Nat} (hk : k < l.length) (h : f l[k] = true) (hb : ∀ j (hj : j < l.length), j < k → f l[j] = false) : idxT f l = (k : Nat) := by
  have : l.findIdx? f = some k := List.findIdx?_eq_some_iff_getElem.2 ⟨hk, h, fun j hj => by rw [hb j (by omega) hj]; decide⟩
  unfold idxT; rw [this]
theorem idxT_none {f : Tg → Bool} {l : List Tg} (hb : ∀ j (hj : j < l.length), f l[j] = false) : idxT f l = -1 := by
  have : l.findIdx? f = none := List.findIdx?_eq_none_iff.2 fun x hx => by
    obtain ⟨j, hj, rfl⟩ := List.getElem_of_mem hx
    exact hb j hj
  unfold idxT; rw [this]
theorem idxT_cases (f : Tg → Bool) (l : List Tg) : (idxT f l = -1 ∧ ∀ j (hj : j < l.length), f l[j] = false) ∨ ∃ k : Nat, ∃ hk : k < l.length, idxT f l = (k : Nat) ∧ f l[k] = true ∧ ∀ j (hj : j < l.length), j < k → f l[j] = false := by
  unfold idxT
  cases h : l.findIdx? f with
  | none =>
    refine .inl ⟨rfl, fun j hj => ?_⟩
    exact List.findIdx?_eq_none_iff.1 h _ (List.getElem_mem hj)
  | some k =>
    obtain ⟨hk, h1, h2⟩ := List.findIdx?_eq_some_iff_getElem.1 h
    exact .inr ⟨k, hk, rfl, h1, fun j hj hjk => by simpa using h2 j hjk⟩
theorem tagI_idx (st : List Tg) (pt : Nat) : tagI st pt = idxT (fun t => t.id == pt) st := rfl
set_option maxRecDepth 100000 in
theorem touch1_any (id : Nat) (un : Bool) (bx pt : Nat) (w : World) (hx : w.cell? ⟨bx, 1, none⟩ = some (.int .i64 (pt : Nat))) :
    Calls Tryz.prog 132 #[.agg #[.int .i64 (id : Nat), .bool un], .pointer (some ⟨bx, 0, none⟩)] w fun e w' => e = .returned (.bool (id == pt)) ∧ Below w.heap.size w w' := by
  have hbx := cell_lt hx
  have HB := Lib.hid (bel_a w (.cells #[.int .i64 (id : Nat), .bool un] 116))
  have HQ : Hid ((((id : Nat) : Int) == ((pt : Nat) : Int)) = (id == pt)) := Lib.hid (by
    by_cases h : id = pt
    · subst h; simp
    · rw [beq_eq_false_iff_ne.2 h]; rw [beq_eq_false_iff_ne]; omega)
  obtain ⟨r, hr⟩ : ∃ r, r = (id == pt) := ⟨_, rfl⟩
  rw [← hr] at HQ ⊢
  have hq := HQ.out
  clear hr
  go_enter Tryz.func132, Tryz.ntmps132
  go_wp2_with (at_builtin; fail)
  go_ret
  exact ⟨rfl, HB.out⟩
set_option maxRecDepth 100000 in
theorem touch2_any (id : Nat) (un : Bool) (w : World) :
    Calls Tryz.prog 134 #[.agg #[.int .i64 (id : Nat), .bool un]] w fun e w' => e = .returned (.bool un) ∧ Below w.heap.size w w' := by
  have HB := Lib.hid (bel_a w (.cells #[.int .i64 (id : Nat), .bool un] 116))
  go_enter Tryz.func134, Tryz.ntmps134
  go_wp2_with (at_builtin; fail)
  go_ret
  exact ⟨rfl, HB.out⟩
set_option maxHeartbeats 4000000 in
set_option maxRecDepth 100000 in
theorem index1_any (va : Value) (l : List Tg) (f : Tg → Bool) (bx : Nat) (B : Nat) (w : World) (ha : TgS w B va l) (hB : B ≤ w.heap.size)
    (hF : ∀ y ∈ l, ∀ wz, Below w.heap.size w wz → Calls Tryz.prog 132 #[.agg #[.int .i64 (y.id : Nat), .bool y.un], .pointer (some ⟨bx, 0, none⟩)] wz fun e w' => e = .returned (.bool (f y)) ∧ Below wz.heap.size wz w') :
    Calls Tryz.prog 131 #[va, .func (.func 132) #[] #[.pointer (some ⟨bx, 0, none⟩)]] w fun e w' => e = .returned (.int .i64 (idxT f l)) ∧ Below w.heap.size w w' := by
  have hln := ha.len
  have H := Lib.hid ha
  obtain ⟨A, c, rfl, hc⟩ := ha.slice
  have HF := Lib.hid hF
  clear hF ha
  go_enter Tryz.func131, Tryz.ntmps131
  go_wp2_with (at_builtin; fail)
  go_loopw [8] (fun i wr => ∃ k : Nat, k ≤ l.length ∧ i = .int .i64 k ∧ (∀ j (hj : j < l.length), j < k → f l[j] = false) ∧ Below w.heap.size w wr) (fun i _ => l.length - (intOf i).toNat)
  case atStart => exact ⟨0, Nat.zero_le _, rfl, fun j _ h => by omega, Below.refl _ _⟩
  case round =>
    obtain ⟨k, hk, rfl, hn, hbw⟩ := hrel
    have HN := Lib.hid hn
    have HBW := Lib.hid hbw
    have hsw := hbw.size
    clear hn
    by_cases hlt : k < l.length
    · obtain ⟨b, off, rfl, hb, d0, d1⟩ := (H.out.low hbw hB).get hlt
      have HM := Lib.hid (HF.out l[k] (List.getElem_mem hlt) wr hbw)
      obtain ⟨r, hr⟩ : ∃ r, r = f l[k] := ⟨_, rfl⟩
      rw [← hr] at HM
      have HR := Lib.hid hr
      clear hbw hr
      generalize l[k].id = z0 at *
      generalize l[k].un = z1 at *
      go_wp2_with (at_builtin; fail)
      refine HM.out.mono ?_
      rintro e w2 ⟨rfl, hb2⟩
      have HB2 := Lib.hid (HBW.out.trans (hb2.mono hsw))
      clear hb2
      cases r
      · have HNN : Hid (∀ j (hj : j < l.length), j < k + 1 → f l[j] = false) := Lib.hid fun j hj hjk => by
          by_cases e : j < k
          · exact HN.out j hj e
          · obtain rfl : j = k := by omega
            exact HR.out.symm
        go_wp2_with (at_builtin; fail)
        exact ⟨⟨k + 1, by omega, by go_num, HNN.out, HB2.out⟩, by simp [intOf] <;> omega⟩
      · have HX := Lib.hid (idxT_some hlt HR.out.symm fun j hj hjk => HN.out j hj hjk)
        go_wp2_with (at_builtin; fail)
        go_ret
        exact ⟨by rw [HX.out]; rfl, HB2.out⟩
    · have HX := Lib.hid (idxT_none (f := f) (l := l) fun j hj => HN.out j hj (by omega))
      clear hbw
      go_wp2_with (at_builtin; fail)
      go_ret
      exact ⟨by rw [HX.out]; rfl, HBW.out⟩
set_option maxHeartbeats 4000000 in
set_option maxRecDepth 100000 in
theorem index2_any (va : Value) (l : List Tg) (f : Tg → Bool) (B : Nat) (w : World) (ha : TgS w B va l) (hB : B ≤ w.heap.size)
    (hF : ∀ y ∈ l, ∀ wz, Below w.heap.size w wz → Calls Tryz.prog 134 #[.agg #[.int .i64 (y.id : Nat), .bool y.un]] wz fun e w' => e = .returned (.bool (f y)) ∧ Below wz.heap.size wz w') :
    Calls Tryz.prog 131 #[va, .func (.func 134) #[] #[]] w fun e w' => e = .returned (.int .i64 (idxT f l)) ∧ Below w.heap.size w w' := by
  have hln := ha.len
  have H := Lib.hid ha
  obtain ⟨A, c, rfl, hc⟩ := ha.slice
  have HF := Lib.hid hF
  clear hF ha
  go_enter Tryz.func131, Tryz.ntmps131
  go_wp2_with (at_builtin; fail)
  go_loopw [8] (fun i wr => ∃ k : Nat, k ≤ l.length ∧ i = .int .i64 k ∧ (∀ j (hj : j < l.length), j < k → f l[j] = false) ∧ Below w.heap.size w wr) (fun i _ => l.length - (intOf i).toNat)
  case atStart => exact ⟨0, Nat.zero_le _, rfl, fun j _ h => by omega, Below.refl _ _⟩
  case round =>
    obtain ⟨k, hk, rfl, hn, hbw⟩ := hrel
    have HN := Lib.hid hn
    have HBW := Lib.hid hbw
    have hsw := hbw.size
    clear hn
    by_cases hlt : k < l.length
    · obtain ⟨b, off, rfl, hb, d0, d1⟩ := (H.out.low hbw hB).get hlt
      have HM := Lib.hid (HF.out l[k] (List.getElem_mem hlt) wr hbw)
      obtain ⟨r, hr⟩ : ∃ r, r = f l[k] := ⟨_, rfl⟩
      rw [← hr] at HM
      have HR := Lib.hid hr
      clear hbw hr
      generalize l[k].id = z0 at *
      generalize l[k].un = z1 at *
      go_wp2_with (at_builtin; fail)
      refine HM.out.mono ?_
      rintro e w2 ⟨rfl, hb2⟩
      have HB2 := Lib.hid (HBW.out.trans (hb2.mono hsw))
      clear hb2
      cases r
      · have HNN : Hid (∀ j (hj : j < l.length), j < k + 1 → f l[j] = false) := Lib.hid fun j hj hjk => by
          by_cases e : j < k
          · exact HN.out j hj e
          · obtain rfl : j = k := by omega
            exact HR.out.symm
        go_wp2_with (at_builtin; fail)
        exact ⟨⟨k + 1, by omega, by go_num, HNN.out, HB2.out⟩, by simp [intOf] <;> omega⟩
      · have HX := Lib.hid (idxT_some hlt HR.out.symm fun j hj hjk => HN.out j hj hjk)
        go_wp2_with (at_builtin; fail)
        go_ret
        exact ⟨by rw [HX.out]; rfl, HB2.out⟩
    · have HX := Lib.hid (idxT_none (f := f) (l := l) fun j hj => HN.out j hj (by omega))
      clear hbw
      go_wp2_with (at_builtin; fail)
      go_ret
      exact ⟨by rw [HX.out]; rfl, HBW.out⟩
theorem two_mod (i : Nat) : (#[Value.int .i64 0, Value.bool false] : Array Value)[i % 2]! = .int .i64 0 ∨ (#[Value.int .i64 0, Value.bool false] : Array Value)[i % 2]! = .bool false := by
  rcases Nat.mod_two_eq_zero_or_one i with h | h <;> rw [h]
  · exact .inl rfl
  · exact .inr rfl
theorem zero_two (m : Nat) : (Builtin.zeroCells #[.int .i64 0, .bool false] m).toList.length = m * 2 ∧ ∀ v ∈ (Builtin.zeroCells #[.int .i64 0, .bool false] m).toList, v.oneCell' = true := by
  unfold Builtin.zeroCells
  constructor
  · simp
  · intro v hv
    rw [Array.toList_map, List.mem_map] at hv
    obtain ⟨i, -, rfl⟩ := hv
    rcases two_mod i with h | h
    · show ((#[Value.int .i64 0, Value.bool false] : Array Value)[i % 2]!).oneCell' = true
      rw [h]; rfl
    · show ((#[Value.int .i64 0, Value.bool false] : Array Value)[i % 2]!).oneCell' = true
      rw [h]; rfl
theorem run_clear_tags (w : World) (ty : TypeId) (b o m c : Nat) (hm : 0 < m) (hc : ∀ j, j < m * 2 → (w.cell? ⟨b, o + j, none⟩).isSome = true) (hf : ∀ j, j < m * 2 → w.frozen? ⟨b, o + j, none⟩ = false) :
    (Builtin.clear_ #[82] ty #[.slice (some ⟨b, o, none⟩) m c]).run Tryz.prog w = .ok (.tuple #[]) (w.setCells b o (Builtin.zeroCells #[.int .i64 0, .bool false] m).toList) := by
  obtain ⟨h1, h2⟩ := zero_two m
  have hst := run_storeCells_cells (P := Tryz.prog) b o (Builtin.zeroCells #[.int .i64 0, .bool false] m).toList 0 w (by rw [h1]; simpa using hc) (by rw [h1]; simpa using hf) h2
  simp only [Nat.add_zero] at hst
  have hz : (zeroValue 116).run Tryz.prog w = .ok (.agg #[.int .i64 0, .bool false]) w := by kernel_rfl
  obtain ⟨q, rfl⟩ : ∃ q, m = q + 1 := ⟨m - 1, by omega⟩
  simp [Builtin.clear_, run_underlying Tryz.underlying82, Value.cells, hz, hst]
theorem tgCells_put {l : List Tg} {i : Nat} (hi : i < l.length) (y : Tg) : ((tgCells l).set (i * 2) (.int .i64 (y.id : Nat))).set (i * 2 + 1) (.bool y.un) = tgCells (l.set i y) := by
  induction l generalizing i with
  | nil => simp at hi
  | cons x r ih =>
    cases i with
    | zero => simp [tgCells]
    | succ i =>
      have := ih (i := i) (by simpa using hi)
      simp only [tgCells, show (i + 1) * 2 = i * 2 + 2 by omega, show i * 2 + 2 + 1 = i * 2 + 1 + 2 by omega, List.set_cons_succ]
      rw [this]
theorem tgCells_take (l : List Tg) (i : Nat) : tgCells (l.take i) = (tgCells l).take (i * 2) := by
  induction l generalizing i with
  | nil => simp [tgCells]
  | cons x r ih =>
    cases i with
    | zero => simp [tgCells]
    | succ i => simp [tgCells, ih, show (i + 1) * 2 = i * 2 + 2 by omega]
theorem OTg.put2 {w : World} {base g c n : Nat} {l : List Tg} (h : OTg w base (.slice (some ⟨g, 0, none⟩) n c) l) (hn : n = l.length) {i : Nat} (hi : i < l.length) (y : Tg) :
    OTg ((w.setCell ⟨g, i * 2, none⟩ (.int .i64 (y.id : Nat))).setCell ⟨g, i * 2 + 1, none⟩ (.bool y.un)) base (.slice (some ⟨g, 0, none⟩) n c) (l.set i y) := by
  subst hn
  have h1 := (World.ownsRow.stored h (i * 2) (.int .i64 (y.id : Nat))).1
  have h2 := (World.ownsRow.stored h1 (i * 2 + 1) (.bool y.un)).1
  rw [tgCells_put hi] at h2
  unfold OTg
  rw [List.length_set]
  exact h2
theorem OTg.cut {w : World} {base g c n : Nat} {l : List Tg} (h : OTg w base (.slice (some ⟨g, 0, none⟩) n c) l) (hn : n = l.length) {i : Nat} (hi : i ≤ n) (zs : List Value) (hz : zs.length ≤ (n - i) * 2) :
    OTg (w.setCells g (i * 2) zs) base (.slice (some ⟨g, 0, none⟩) i c) (l.take i) := by
  have hli : (l.take i).length = i := by rw [List.length_take]; omega
  refine ⟨by rw [tgCells_len], ?_⟩
  rcases h.2 with ⟨e, h0⟩ | ⟨g', cap, cur, e, hb, hh, hc, hm, hs, ht⟩
  · cases e
  · injection e with e1 e2 e3
    injection e1 with e1
    injection e1 with e1
    subst e1 e2 e3
    have hrow : RowB w g 116 cur.toList := by unfold RowB; rw [Array.toArray_toList]; exact hh
    have hzl : i * 2 + zs.length ≤ cur.toList.length := by
      have e : cur.toList.length = c * 2 := (Array.length_toList (xs := cur)).trans hs
      have : (l.length - i) * 2 = l.length * 2 - i * 2 := Nat.mul_sub_right_distrib _ _ _
      omega
    obtain ⟨L', hr, hl, hc2⟩ := RowB.putL zs (i * 2) w cur.toList hrow hzl
    refine .inr ⟨g, c, L'.toArray, by rw [hli], hb, hr, by omega, hm, by rw [List.size_toArray, hl, Array.length_toList, hs], ?_⟩
    rw [hli, tgCells_take, ← ht]
    apply List.ext_getElem?
    intro j
    rw [List.getElem?_take, List.getElem?_take]
    by_cases hj : j < i * 2
    · rw [if_pos hj, if_pos hj, List.getElem?_take, if_pos (by omega), List.toList_toArray, hc2, if_neg (by omega)]
    · rw [if_neg hj, if_neg hj]
/-- what DeleteFunc has kept of the first j tags -/
def delJ (l : List Tg) (j : Nat) : List Tg := (l.take j).filter fun t => !t.un
theorem delJ_no {l : List Tg} {j : Nat} (hj : j < l.length) (h : l[j].un = true) : delJ l (j + 1) = delJ l j := by
  unfold delJ; rw [take_succ_get l j hj, List.filter_append]; simp [h]
theorem delJ_yes {l : List Tg} {j : Nat} (hj : j < l.length) (h : l[j].un = false) : delJ l (j + 1) = delJ l j ++ [l[j]] := by
  unfold delJ; rw [take_succ_get l j hj, List.filter_append]; simp [h]
theorem delJ_all {l : List Tg} {j : Nat} (hj : j ≤ l.length) (h : ∀ i (hi : i < l.length), i < j → l[i].un = false) : delJ l j = l.take j := by
  unfold delJ
  rw [List.filter_eq_self]
  intro t ht
  obtain ⟨i, hi, rfl⟩ := List.getElem_of_mem ht
  rw [List.length_take] at hi
  rw [List.getElem_take]
  simp [h i (by omega) (by omega)]
structure DelI (l R : List Tg) (i j : Nat) : Prop where
  len : R.length = l.length
  il : i = (delJ l j).length
  tk : R.take i = delJ l j
  dr : R.drop j = l.drop j
  lt : i < j
  le : j ≤ l.length
theorem DelI.at_ {l R : List Tg} {i j : Nat} (h : DelI l R i j) (hj : j < l.length) : R[j]'(by rw [h.len]; exact hj) = l[j] := by
  have h1 := congrArg (fun x => x[0]?) h.dr
  simp only [List.getElem?_drop, Nat.add_zero] at h1
  rw [List.getElem?_eq_getElem (by rw [h.len]; exact hj), List.getElem?_eq_getElem hj] at h1
  injection h1
theorem drop_succ_of {α : Type} {R l : List α} {j : Nat} (h : R.drop j = l.drop j) : R.drop (j + 1) = l.drop (j + 1) := by
  rw [← List.drop_drop, ← List.drop_drop, h]
theorem DelI.no {l R : List Tg} {i j : Nat} (h : DelI l R i j) (hj : j < l.length) (hu : l[j].un = true) : DelI l R i (j + 1) :=
  ⟨h.len, by rw [delJ_no hj hu]; exact h.il, by rw [delJ_no hj hu]; exact h.tk, drop_succ_of h.dr, by have := h.lt; omega, hj⟩
theorem DelI.yes {l R : List Tg} {i j : Nat} (h : DelI l R i j) (hj : j < l.length) (hu : l[j].un = false) : DelI l (R.set i l[j]) (i + 1) (j + 1) := by
  have h1 := h.lt
  have h2 := h.len
  refine ⟨by rw [List.length_set]; exact h2, by rw [delJ_yes hj hu, List.length_append, ← h.il]; rfl, ?_, ?_, by omega, hj⟩
  · rw [delJ_yes hj hu, ← h.tk, take_succ_get (R.set i l[j]) i (by rw [List.length_set]; omega), List.getElem_set_self, List.take_set_of_le (Nat.le_refl _)]
  · rw [List.drop_set_of_lt (by omega)]
    exact drop_succ_of h.dr
theorem del_start {l : List Tg} {k : Nat} (hk : k < l.length) (hu : l[k].un = true) (h : ∀ j (hj : j < l.length), j < k → l[j].un = false) : DelI l l k (k + 1) :=
  ⟨rfl, by rw [delJ_no hk hu, delJ_all (by omega) h, List.length_take]; omega, by rw [delJ_no hk hu, delJ_all (by omega) h], rfl, by omega, hk⟩
set_option maxHeartbeats 4000000 in
set_option maxRecDepth 100000 in
theorem delFunc_any (v : Value) (l : List Tg) (base : Nat) (w : World) (h : OTg w base v l) (hb : base ≤ w.heap.size) (hl : l.length ≤ 1000) :
    Calls Tryz.prog 133 #[v, .func (.func 134) #[] #[]] w fun e w' => ∃ v', e = .returned v' ∧ OTg w' base v' (l.filter fun t => !t.un) ∧ Below base w w' := by
  have H := Lib.hid h
  obtain ⟨A, c, rfl, hc⟩ := h.slice
  have HIX := Lib.hid (index2_any (.slice A l.length c) l (fun t => t.un) w.heap.size w (h.toS (by omega)) (Nat.le_refl _) fun y hy wz hz => touch2_any y.id y.un wz)
  clear h
  go_enter Tryz.func133, Tryz.ntmps133
  go_wp2_with (at_builtin; fail)
  refine HIX.out.mono ?_
  rintro e w1 ⟨rfl, hb1⟩
  have HB1 := Lib.hid (hb1.mono hb)
  have H1 := Lib.hid (H.out.bel hb1)
  have hs1 := HB1.out.size
  clear hb1 HIX
  rcases idxT_cases (fun t => t.un) l with ⟨hi, hall⟩ | ⟨k, hk, hi, hu, hbf⟩
  · rw [hi]
    have HF : Hid (l.filter (fun t => !t.un) = l) := Lib.hid (by
      have := delJ_all (l := l) (j := l.length) (Nat.le_refl _) fun i hi _ => hall i hi
      unfold delJ at this
      rwa [List.take_length] at this)
    clear hi hall
    go_wp2_with (at_builtin; fail)
    go_ret
    exact ⟨_, rfl, by rw [HF.out]; exact H1.out, HB1.out⟩
  · rw [hi]
    have HS := Lib.hid (del_start hk hu hbf)
    obtain ⟨g, rfl, hgb, hgl⟩ : ∃ g, A = some ⟨g, 0, none⟩ ∧ base ≤ g ∧ g < w1.heap.size := by
      rcases H1.out.2 with ⟨-, h0⟩ | ⟨g, cap, cur, e, hb, hh, _⟩
      · omega
      · injection e with e1
        exact ⟨g, e1, hb, row_lt hh⟩
    have hk1 : ((k : Nat) : Int) + 1 ≤ 1000 := by omega
    have hkq : (((k : Nat) : Int) == -1) = false := by rw [beq_eq_false_iff_ne]; omega
    clear hi hu hbf
    go_wp2_with (at_builtin; fail)
    go_loopw [5, 6] (fun iv jv wr => ∃ (i j : Nat) (R : List Tg), iv = .int .i64 i ∧ jv = .int .i64 j ∧ DelI l R i j ∧ OTg wr base (.slice (some ⟨g, 0, none⟩) l.length c) R ∧ Below base w wr) (fun _ jv _ => l.length - (intOf jv).toNat)
    case atStart => exact ⟨k, k + 1, l, rfl, by simp, HS.out, H1.out, HB1.out⟩
    case round =>
      obtain ⟨i, j, R, rfl, rfl, hd, ho, hbw⟩ := hrel
      have HD := Lib.hid hd
      have HO := Lib.hid ho
      have HBW := Lib.hid hbw
      have hij := hd.lt
      have hjl := hd.le
      have hlen := hd.len
      have hsw := hbw.size
      have ho2 : OTg wr base (.slice (some ⟨g, 0, none⟩) R.length c) R := by rw [hlen]; exact ho
      have hcell : ∀ q, q < R.length * 2 → wr.cell? ⟨g, q, none⟩ = (tgCells R)[q]? := fun q hq => World.ownsRow.cellAt ho2 q hq
      have hfz : ∀ q, wr.frozen? ⟨g, q, none⟩ = false := fun q => World.ownsRow.frozenAt ho2 q
      have hgw : g < wr.heap.size := (ho.own_lt rfl).2
      clear hd ho hbw ho2
      by_cases hlt : j < l.length
      · obtain ⟨a0, a1⟩ := tgCells_at (ls := R) (i := j) (by omega)
        obtain ⟨b0, b1⟩ := tgCells_at (ls := R) (i := i) (by omega)
        rw [HD.out.at_ hlt] at a0 a1
        have d0 := (hcell (j * 2) (by omega)).trans a0
        have d1 := (hcell (j * 2 + 1) (by omega)).trans a1
        have e0 := (hcell (i * 2) (by omega)).trans b0
        have e1 := (hcell (i * 2 + 1) (by omega)).trans b1
        have f0 := hfz (i * 2)
        have f1 := hfz (i * 2 + 1)
        have HA := Lib.hid (bel_a wr (.cells #[.int .i64 (l[j].id : Nat), .bool l[j].un] 116))
        have HX := Lib.hid (RowB.new wr [.int .i64 (l[j].id : Nat), .bool l[j].un] 116)
        have g0 := (HA.out.cell (p := ⟨g, i * 2, none⟩) hgw).trans e0
        have g1 := (HA.out.cell (p := ⟨g, i * 2 + 1, none⟩) hgw).trans e1
        have k0 := (HA.out.frozen (p := ⟨g, i * 2, none⟩) hgw).trans f0
        have k1 := (HA.out.frozen (p := ⟨g, i * 2 + 1, none⟩) hgw).trans f1
        have HDN := Lib.hid (fun hu => HD.out.no hlt hu)
        have HDY := Lib.hid (fun hu => HD.out.yes hlt hu)
        have HTE : Hid (l[j] = ⟨l[j].id, l[j].un⟩) := Lib.hid rfl
        obtain ⟨x, hx⟩ : ∃ x, x = l[j] := ⟨_, rfl⟩
        rw [← hx] at d0 d1 HA HX HDN HDY g0 g1 k0 k1
        clear a0 a1 b0 b1 hcell hfz e0 e1 f0 f1 hx HTE
        obtain ⟨xi, xu⟩ := x
        simp only at d0 d1 HA HX HDN HDY g0 g1 k0 k1
        have HO1 := Lib.hid (HO.out.bel HA.out)
        go_upto_region 8 with (at_builtin; fail)
        generalize wr.alloc (.cells #[.int .i64 (xi : Nat), .bool xu] 116) = w2 at *
        obtain ⟨bx, hbx⟩ : ∃ bx, bx = wr.heap.size := ⟨_, rfl⟩
        rw [← hbx] at HX ⊢
        have HBX := Lib.hid hbx
        have x0 := HX.out.cell 0
        have x1 := HX.out.cell 1
        simp only [List.getElem?_cons_zero, List.getElem?_cons_succ] at x0 x1
        have hs2 := HA.out.size
        clear hbx d0 d1
        go_wp2_with (at_builtin; fail)
        refine (touch2_any xi xu w2).mono ?_
        rintro e w3 ⟨rfl, hb3⟩
        have HB3 := Lib.hid (HBW.out.trans ((HA.out.trans (hb3.mono hs2)).mono (by omega)))
        have HO3 := Lib.hid (HO1.out.bel hb3)
        have y0 := (hb3.cell (p := ⟨bx, 0, none⟩) HX.out.lt).trans x0
        have y1 := (hb3.cell (p := ⟨bx, 1, none⟩) HX.out.lt).trans x1
        have z0 := (hb3.cell (p := ⟨g, i * 2, none⟩) (by show g < _; omega)).trans g0
        have z1 := (hb3.cell (p := ⟨g, i * 2 + 1, none⟩) (by show g < _; omega)).trans g1
        have zf0 := (hb3.frozen (p := ⟨g, i * 2, none⟩) (by show g < _; omega)).trans k0
        have zf1 := (hb3.frozen (p := ⟨g, i * 2 + 1, none⟩) (by show g < _; omega)).trans k1
        clear hb3 x0 x1 g0 g1 k0 k1
        cases xu
        · have HPT := Lib.hid (HO3.out.put2 hlen.symm (i := i) (by omega) ⟨xi, false⟩)
          have HB4 := Lib.hid ((HB3.out.setCell (p := ⟨g, i * 2, none⟩) hgb (.int .i64 (xi : Nat))).setCell (p := ⟨g, i * 2 + 1, none⟩) hgb (.bool false))
          have HDY2 := Lib.hid (HDY.out rfl)
          go_wp2_with (at_builtin; fail)
          exact ⟨⟨i + 1, j + 1, _, by go_num, by go_num, HDY2.out, HPT.out, HB4.out⟩, by simp [intOf] <;> omega⟩
        · have HDN2 := Lib.hid (HDN.out rfl)
          go_wp2_with (at_builtin; fail)
          exact ⟨⟨i, j + 1, R, rfl, by go_num, HDN2.out, HO3.out, HB3.out⟩, by simp [intOf] <;> omega⟩
      · have hje : j = l.length := by omega
        subst hje
        have hcl : ∀ ty, (Builtin.clear_ #[82] ty #[.slice (some ⟨g, i * 2, none⟩) (l.length - i) (c - i)]).run Tryz.prog wr = .ok (.tuple #[]) (wr.setCells g (i * 2) (Builtin.zeroCells #[.int .i64 0, .bool false] (l.length - i)).toList) :=
          fun ty => run_clear_tags wr ty g _ _ _ (by omega) (fun q hq => by
            have h2 : (l.length - i) * 2 = l.length * 2 - i * 2 := Nat.mul_sub_right_distrib _ _ _
            rw [hcell _ (by omega), List.getElem?_eq_getElem (by rw [tgCells_len]; omega)]; rfl) fun q _ => hfz _
        have HFIN := Lib.hid (HO.out.cut hlen.symm (i := i) (by omega) (Builtin.zeroCells #[.int .i64 0, .bool false] (l.length - i)).toList (by rw [(zero_two _).1]; exact Nat.le_refl _))
        have HBF := Lib.hid (HBW.out.trans (below_putL (B := base) (g := g) hgb (Builtin.zeroCells #[.int .i64 0, .bool false] (l.length - i)).toList (i * 2) wr))
        have HRE : Hid (R.take i = l.filter fun t => !t.un) := Lib.hid (by rw [HD.out.tk]; unfold delJ; rw [List.take_length])
        have HIL : Hid ((R.take i).length = i) := Lib.hid (by rw [List.length_take]; omega)
        have hci : ¬ c = i := by omega
        clear hcell hfz
        generalize (Builtin.zeroCells #[.int .i64 0, .bool false] (l.length - i)).toList = zs at *
        go_wp2_with (at_builtin; simp only [hcl])
        go_ret
        refine ⟨_, rfl, ?_, HBF.out⟩
        rw [← HRE.out]
        exact HFIN.out

end Go.Proofs.YtfioaohadanjmaaGreat
