import Derived.Test.YtfioaohadanjmaaGreatU22
set_option linter.unusedVariables false

/- spec's machine: boxes of states and of pointers. -/
namespace Go.Proofs.YtfioaohadanjmaaGreat
open Go.RowKit Go.Lib

theorem res_s1 {P : Program} {fn : Func} {p u : Tmp} {ty : TypeId} (h : fn.results = #[.cell p ty, .tmp u]) (tmps : Array Value) (w : World) (g : Nat) (t : TypeId) (cs : Array Value) (fr : Nat × Nat) (d : TypeDesc)
    (hp : tmps.getD p undef = .pointer (some ⟨g, 0, none⟩)) (hg : w.heap[g]? = some (.cells cs t fr))
    (hu : P.underlying ty = some d) (hd : (match d with | .struct _ | .array _ _ => true | _ => false) = true) (hi : (P.info? ty).map (·.size) = some cs.size) :
    (results fn tmps).run P w = .ok (.tuple #[.agg cs, tmps.getD u undef]) w := by
  simp only [results, h]
  simp [Sem.run_bind, Result.andThen, asAddr]
  rw [← Array.getD_eq_getD_getElem?, hp]
  simp [run_loadVar_row w g t ty cs fr d hg hu hd hi]
theorem res_s2 {P : Program} {fn : Func} {p u u2 : Tmp} {ty : TypeId} (h : fn.results = #[.cell p ty, .tmp u, .tmp u2]) (tmps : Array Value) (w : World) (g : Nat) (t : TypeId) (cs : Array Value) (fr : Nat × Nat) (d : TypeDesc)
    (hp : tmps.getD p undef = .pointer (some ⟨g, 0, none⟩)) (hg : w.heap[g]? = some (.cells cs t fr))
    (hu : P.underlying ty = some d) (hd : (match d with | .struct _ | .array _ _ => true | _ => false) = true) (hi : (P.info? ty).map (·.size) = some cs.size) :
    (results fn tmps).run P w = .ok (.tuple #[.agg cs, tmps.getD u undef, tmps.getD u2 undef]) w := by
  simp only [results, h]
  simp [Sem.run_bind, Result.andThen, asAddr]
  rw [← Array.getD_eq_getD_getElem?, hp]
  simp [run_loadVar_row w g t ty cs fr d hg hu hd hi]
/-- three boxes, one behind the other -/
theorem three_boxes (w : World) (L1 L2 L3 : List Value) (T1 T2 T3 : TypeId) :
    RowB (((w.alloc (.cells L1.toArray T1)).alloc (.cells L2.toArray T2)).alloc (.cells L3.toArray T3)) w.heap.size T1 L1 ∧ RowB (((w.alloc (.cells L1.toArray T1)).alloc (.cells L2.toArray T2)).alloc (.cells L3.toArray T3)) (w.heap.size + 1) T2 L2 ∧
    RowB (((w.alloc (.cells L1.toArray T1)).alloc (.cells L2.toArray T2)).alloc (.cells L3.toArray T3)) (w.heap.size + 1 + 1) T3 L3 ∧ Below w.heap.size w (((w.alloc (.cells L1.toArray T1)).alloc (.cells L2.toArray T2)).alloc (.cells L3.toArray T3)) := by
  have h2 := RowB.new (w.alloc (.cells L1.toArray T1)) L2 T2
  have h3 := RowB.new ((w.alloc (.cells L1.toArray T1)).alloc (.cells L2.toArray T2)) L3 T3
  rw [show (w.alloc (.cells L1.toArray T1)).heap.size = w.heap.size + 1 by simp] at h2
  rw [show ((w.alloc (.cells L1.toArray T1)).alloc (.cells L2.toArray T2)).heap.size = w.heap.size + 1 + 1 by simp] at h3
  exact ⟨((RowB.new w L1 T1).alloc _).alloc _, h2.alloc _, h3, (((bel_a w _).alloc (by simp) _).alloc (by simp; omega) _)⟩
theorem two_boxes (w : World) (L1 L2 : List Value) (T1 T2 : TypeId) :
    RowB ((w.alloc (.cells L1.toArray T1)).alloc (.cells L2.toArray T2)) w.heap.size T1 L1 ∧ RowB ((w.alloc (.cells L1.toArray T1)).alloc (.cells L2.toArray T2)) (w.heap.size + 1) T2 L2 ∧ Below w.heap.size w ((w.alloc (.cells L1.toArray T1)).alloc (.cells L2.toArray T2)) := by
  have h2 := RowB.new (w.alloc (.cells L1.toArray T1)) L2 T2
  rw [show (w.alloc (.cells L1.toArray T1)).heap.size = w.heap.size + 1 by simp] at h2
  exact ⟨(RowB.new w L1 T1).alloc _, h2, (bel_a w _).alloc (by simp) _⟩
theorem BelD (w : World) : Below w.heap.size w w.drew := (Below.refl _ _).drew
/-- another box's row, behind a store -/
theorem RowB.ne_ {w : World} {b b2 : Nat} {T : TypeId} {L : List Value} (h : RowB w b2 T L) (hb : b2 ≠ b) (i : Nat) (v : Value) : RowB (w.setCell ⟨b, i, none⟩ v) b2 T L := (heap_setCell_other w ⟨b, i, none⟩ b2 v hb).trans h
theorem RowB.nes {w : World} {b b2 : Nat} {T : TypeId} {L : List Value} (h : RowB w b2 T L) (hb : b2 ≠ b) (i : Nat) (vs : List Value) : RowB (w.setCells b i vs) b2 T L := (heap_putL hb vs i w).trans h
theorem belSet1 {B : Nat} {w w' : World} (h : Below B w w') {b : Nat} (hb : B ≤ b) (i : Nat) (v : Value) : Below B w (w'.setCell ⟨b, i, none⟩ v) := h.setCell (p := ⟨b, i, none⟩) hb v
theorem belSets {B : Nat} {w w' : World} (h : Below B w w') {b : Nat} (hb : B ≤ b) (i : Nat) (vs : List Value) : Below B w (w'.setCells b i vs) := h.trans (below_putL hb vs i w')
/-- nothing but boxes of states and of pointers has turned -/
structure KpU (w w' : World) : Prop where
  size : w.heap.size ≤ w'.heap.size
  oth : ∀ (b : Nat) (cs : Array Value) (T : TypeId), w.heap[b]? = some (.cells cs T (0, 0)) → T ≠ 57 → T ≠ 77 → w'.heap[b]? = some (.cells cs T (0, 0))
theorem KpU.refl (w : World) : KpU w w := ⟨Nat.le_refl _, fun _ _ _ h _ _ => h⟩
theorem KpU.trans {a b c : World} (h : KpU a b) (k : KpU b c) : KpU a c := ⟨Nat.le_trans h.size k.size, fun x cs T hb h1 h2 => k.oth x cs T (h.oth x cs T hb h1 h2) h1 h2⟩
theorem KpU.ofB {w w' : World} (h : Below w.heap.size w w') : KpU w w' := ⟨h.size, fun b cs T hb _ _ => by
  have hlt : b < w.heap.size := by
    rcases Nat.lt_or_ge b w.heap.size with h | h
    · exact h
    · rw [Array.getElem?_eq_none h] at hb; cases hb
  exact (h.block b hlt).trans hb⟩
theorem KpU.ofS {w w' : World} (h : KpT 57 w w') : KpU w w' := ⟨h.1, fun b cs T hb h1 _ => h.2 b cs T hb h1⟩
theorem KpU.ofP {w w' : World} (h : KpT 77 w w') : KpU w w' := ⟨h.1, fun b cs T hb _ h2 => h.2 b cs T hb h2⟩
theorem KpU.s1 {w : World} {b : Nat} {L : List Value} (h : RowB w b 57 L) (i : Nat) (v : Value) : KpU w (w.setCell ⟨b, i, none⟩ v) := .ofS (KpT.set_ h i v)
theorem KpU.ss {w : World} {b : Nat} {L : List Value} (h : RowB w b 57 L) (vs : List Value) : KpU w (w.setCells b 0 vs) := .ofS (h.kpt 0 vs)
theorem KpU.ps {w : World} {b : Nat} {L : List Value} (h : RowB w b 77 L) (vs : List Value) : KpU w (w.setCells b 0 vs) := .ofP (h.kpt 0 vs)
theorem own_kpu {w w' : World} {base : Nat} {e : TypeId} {size : Nat} {v : Value} {n : Nat} {xs : List Value} (h : w.ownsRow base e size v n xs) (hk : KpU w w') (h1 : e ≠ 57) (h2 : e ≠ 77) : w'.ownsRow base e size v n xs := by
  refine ⟨h.1, ?_⟩
  rcases h.2 with h' | ⟨g, cap, cur, rfl, hbg, hh, rest⟩
  · exact .inl h'
  · exact .inr ⟨g, cap, cur, rfl, hbg, hk.oth _ _ _ hh h1 h2, rest⟩
theorem RowB.kpu {w w' : World} {g : Nat} {T : TypeId} {L : List Value} (h : RowB w g T L) (hk : KpU w w') (h1 : T ≠ 57) (h2 : T ≠ 77) : RowB w' g T L := hk.oth _ _ _ h h1 h2
theorem OSl.kpu {w w' : World} {base : Nat} {v : Value} {l : List Sl} (h : OSl w base v l) (hk : KpU w w') : OSl w' base v l := own_kpu h hk (by decide) (by decide)
theorem OInts.kpu {w w' : World} {base : Nat} {v : Value} {l : List Int} (h : OInts w base v l) (hk : KpU w w') : OInts w' base v l := own_kpu h hk (by decide) (by decide)
theorem MeS.kpu {w w' : World} {base : Nat} {v : Value} {m : List Cl} (h : MeS w base v m) (hk : KpU w w') : MeS w' base v m := by
  obtain ⟨ps, e, ho⟩ := h
  exact ⟨ps, e, own_kpu ho.own hk (by decide) (by decide), fun i hi => own_kpu (ho.row i hi) hk (by decide) (by decide), ho.ne⟩
theorem SpS.kpu {w w' : World} {base : Nat} {vs vc vl : Value} {s : Ms} (h : SpS w base vs vc vl s) (hk : KpU w w') : SpS w' base vs vc vl s := ⟨h.sl.kpu hk, h.ce.kpu hk, h.rd.kpu hk⟩
/-- a result's box is filled -/
theorem sp_end {w w' : World} {base B br : Nat} {vs vc vl : Value} {s : Ms} {Z : List Value} (hr : RowB w' br 57 Z) (hz : Z.length = 3) (hs : SpS w' base vs vc vl s) (hb : Below B w w') (hB : B ≤ br) :
    RowB (w'.setCells br 0 [vs, vc, vl]) br 57 [vs, vc, vl] ∧ SpS (w'.setCells br 0 [vs, vc, vl]) base vs vc vl s ∧ Below B w (w'.setCells br 0 [vs, vc, vl]) :=
  ⟨hr.putAll [vs, vc, vl] hz.symm, hs.kpu (KpU.ss hr _), belSets hb hB 0 _⟩

end Go.Proofs.YtfioaohadanjmaaGreat

/- spec.l7Put. -/
namespace Go.Proofs.YtfioaohadanjmaaGreat
open Go.RowKit Go.Lib

theorem OSl.keepT {w w' : World} {base : Nat} {v : Value} {l : List Sl} (h : OSl w base v l) {T : TypeId} (hk : KpT T w w') (hT : 79 ≠ T) : OSl w' base v l := own_same h fun b hb => by
  obtain ⟨cur, e⟩ := own_heap h hb
  exact (hk.2 _ _ _ e hT).trans e.symm
set_option maxHeartbeats 8000000 in
set_option maxRecDepth 100000 in
theorem l7Put_any (vt vs vc vl : Value) (ts : List Int) (s : Ms) (x : Sl) (base v B : Nat) (w : World) (ht : IntS w B vt ts) (hB : B ≤ w.heap.size) (h : SpS w base vs vc vl s) (hb : base ≤ w.heap.size) (hok : MsOk ts s) (hv : v < ts.length) (h6 : ts.length ≤ 6) :
    Calls Tryz.prog 84 #[vt, .agg #[vs, vc, vl], .int .i64 (v : Nat), .agg #[.bool x.set, .int .i64 x.num, .int .i64 (x.pc : Nat), .int .i64 (x.pt : Nat)]] w (SpRet w base ((putP ts s v x).1, codeV (putP ts s v x).2)) := by
  have H := Lib.hid h
  have OK := Lib.hid hok
  have hvs : v < s.sl.length := by rw [hok.ln]; exact hv
  have hsl6 : s.sl.length ≤ 6 := by rw [hok.ln]; exact h6
  obtain ⟨As, cs, rfl, hcs⟩ := h.sl.slice
  obtain ⟨Ac, cc, rfl, hcc⟩ := h.ce.slice
  obtain ⟨Al, cl, rfl, hcl⟩ := h.rd.slice
  obtain ⟨At, ct, rfl, hct, -, hr⟩ := ht
  obtain ⟨bt, ot, rfl, hbt, htc⟩ := hr.int_at (show 0 < ts.length by omega)
  have t0 := htc v hv
  obtain ⟨k1, k2, k3, k4⟩ := three_boxes w [.slice As s.sl.length cs, .slice Ac s.ce.length cc, .slice Al s.rd.length cl] [.bool x.set, .int .i64 x.num, .int .i64 (x.pc : Nat), .int .i64 (x.pt : Nat)] [.slice none 0 0, .slice none 0 0, .slice none 0 0] 57 79 57
  have HXS := Lib.hid k1
  have HXX := Lib.hid k2
  have HR := Lib.hid k3
  have HB0 := Lib.hid k4
  clear h hok hr htc k1 k2 k3 k4
  go_enter Tryz.func84, Tryz.ntmps84
  go_upto_region 2 with (at_builtin; fail)
  generalize ((w.alloc (.cells #[.slice As s.sl.length cs, .slice Ac s.ce.length cc, .slice Al s.rd.length cl] 57)).alloc (.cells #[.bool x.set, .int .i64 x.num, .int .i64 (x.pc : Nat), .int .i64 (x.pt : Nat)] 79)).alloc (.cells #[.slice none 0 0, .slice none 0 0, .slice none 0 0] 57) = W at *
  obtain ⟨bx, hbx⟩ : ∃ bx, bx = w.heap.size := ⟨_, rfl⟩
  rw [← hbx] at HXS HXX HR ⊢
  have hs0 := HB0.out.size
  have HBX := Lib.hid hbx
  clear hbx
  have H1 := Lib.hid (H.out.bel HB0.out)
  have t1 := (HB0.out.cell (p := ⟨bt, ot + v, none⟩) (by show bt < w.heap.size; omega)).trans t0
  have hbl := HR.out.lt
  have hxl := HXS.out.lt
  obtain ⟨g1, rfl, hg1, hgl1, u0, u1, u2, u3, -⟩ := H1.out.sl.at_ hvs
  have x0 := HXS.out.cell 0
  have x1 := HXS.out.cell 1
  simp only [List.getElem?_cons_zero, List.getElem?_cons_succ] at x0 x1
  obtain ⟨ty, hty⟩ : ∃ ty, ty = ts.getD v 0 := ⟨_, rfl⟩
  rw [← hty] at t1
  obtain ⟨st, hst⟩ : ∃ st, st = s.sl[v].set := ⟨_, rfl⟩
  rw [← hst] at u0
  obtain ⟨pc, hpc⟩ : ∃ pc, pc = s.sl[v].pc := ⟨_, rfl⟩
  rw [← hpc] at u2
  obtain ⟨pt, hpt⟩ : ∃ pt, pt = s.sl[v].pt := ⟨_, rfl⟩
  rw [← hpt] at u3
  have HAT : Hid (slAt s.sl v = s.sl[v]) := Lib.hid (slAt_get hvs)
  have HTY := Lib.hid hty
  have HST := Lib.hid hst
  have HPC := Lib.hid hpc
  have HPT := Lib.hid hpt
  clear hty hst hpc hpt t0
  by_cases hcond : ty = 2 ∧ st = true
  · have HR0 : Hid (putP ts s v x = (⟨s.sl.set v x, (freeP s.ce pc pt).1, s.rd⟩, endO (freeP s.ce pc pt).2)) := Lib.hid (by
      rw [putP_yes (show ts.getD v 0 = 2 ∧ (slAt s.sl v).set = true by rw [← HTY.out, HAT.out, ← HST.out]; exact hcond), HAT.out, ← HPC.out, ← HPT.out])
    obtain ⟨rfl, rfl⟩ := hcond
    obtain ⟨ce', code, hfp⟩ : ∃ ce' code, freeP s.ce pc pt = (ce', code) := ⟨_, _, rfl⟩
    have HFR := Lib.hid (fun (wz : World) (hz : Below W.heap.size W wz) => sFreeCell_any _ s.ce pc pt base wz (H1.out.ce.bel hz) OK.out.ce)
    rw [hfp] at HR0 HFR
    clear hfp
    go_wp2_with (at_builtin; fail)
    refine wp_region_held_drew (S := (fun w' => w'.cell? ⟨bx, 0, none⟩ = some (.slice (some ⟨g1, 0, none⟩) s.sl.length cs) ∧ w'.cell? ⟨bx, 1, none⟩ = some (.slice Ac s.ce.length cc) ∧ w'.cell? ⟨g1, v * 4 + 2, none⟩ = some (.int .i64 (pc : Nat)) ∧ w'.cell? ⟨g1, v * 4 + 3, none⟩ = some (.int .i64 (pt : Nat)) ∧ Below W.heap.size W w')) (by kernel_rfl) ?_ (fun hHeld => ?_)
    · exact ⟨x0, x1, u2, u3, (Below.refl _ _).drew⟩
    refine wpAnyH_take (i := 0) (oi := ⟨some 27, _, _, _, _, _⟩) (v := ?_) rfl (by kernel_rfl) (by kernel_rfl) (by kernel_rfl) (fun _ _ _ h => h) (Or.inl ⟨by rfl, fun w' hSw => ?_⟩) (by assumption) ?_
    rotate_left
    · (try dsimp only at hSw); go_simp; (try with_reducible rfl)
    (try simp only [Act.put, List.setIfInBounds_toArray, List.set_cons_zero, List.set_cons_succ])
    refine wpAnyH_take (i := 1) (oi := ⟨some 28, _, _, _, _, _⟩) (v := ?_) rfl (by kernel_rfl) (by kernel_rfl) (by kernel_rfl) (fun _ _ _ h => h) (Or.inl ⟨by rfl, fun w' hSw => ?_⟩) (by assumption) ?_
    rotate_left
    · (try dsimp only at hSw); go_simp; (try with_reducible rfl)
    (try simp only [Act.put, List.setIfInBounds_toArray, List.set_cons_zero, List.set_cons_succ])
    refine wpAnyH_take (i := 2) (oi := ⟨some 29, _, _, _, _, _⟩) (v := ?_) rfl (by kernel_rfl) (by kernel_rfl) (by kernel_rfl) (fun _ _ _ h => h) (Or.inl ⟨by rfl, fun w' hSw => ?_⟩) (by assumption) ?_
    rotate_left
    · (try dsimp only at hSw); go_simp; (try with_reducible rfl)
    (try simp only [Act.put, List.setIfInBounds_toArray, List.set_cons_zero, List.set_cons_succ])
    refine wpAnyH_take (i := 3) (oi := ⟨some 30, _, _, _, _, _⟩) (v := ?_) rfl (by kernel_rfl) (by kernel_rfl) (by kernel_rfl) (fun _ _ _ h => h) (Or.inl ⟨by rfl, fun w' hSw => ?_⟩) (by assumption) ?_
    rotate_left
    · (try dsimp only at hSw); go_simp; (try with_reducible rfl)
    (try simp only [Act.put, List.setIfInBounds_toArray, List.set_cons_zero, List.set_cons_succ])
    refine wpAnyH_take (i := 4) (oi := ⟨some 31, _, _, _, _, _⟩) (v := ?_) rfl (by kernel_rfl) (by kernel_rfl) (by kernel_rfl) (fun _ _ _ h => h) (Or.inl ⟨by rfl, fun w' hSw => ?_⟩) (by assumption) ?_
    rotate_left
    · (try dsimp only at hSw); go_simp; (try with_reducible rfl)
    (try simp only [Act.put, List.setIfInBounds_toArray, List.set_cons_zero, List.set_cons_succ])
    refine wpAnyH_take (i := 5) (oi := ⟨some 32, _, _, _, _, _⟩) (v := ?_) rfl (by kernel_rfl) (by kernel_rfl) (by kernel_rfl) (fun _ _ _ h => h) (Or.inl ⟨by rfl, fun w' hSw => ?_⟩) (by assumption) ?_
    rotate_left
    · (try dsimp only at hSw); go_simp; (try with_reducible rfl)
    (try simp only [Act.put, List.setIfInBounds_toArray, List.set_cons_zero, List.set_cons_succ])
    refine wpAnyH_take (i := 6) (oi := ⟨some 33, _, _, _, _, _⟩) (v := ?_) rfl (by kernel_rfl) (by kernel_rfl) (by kernel_rfl) (fun _ _ _ h => h) (Or.inl ⟨by rfl, fun w' hSw => ?_⟩) (by assumption) ?_
    rotate_left
    · (try dsimp only at hSw); go_simp; (try with_reducible rfl)
    (try simp only [Act.put, List.setIfInBounds_toArray, List.set_cons_zero, List.set_cons_succ])
    refine wpAnyH_take (i := 7) (oi := ⟨some 34, _, _, _, _, _⟩) (v := ?_) rfl (by kernel_rfl) (by kernel_rfl) (by kernel_rfl) (fun _ _ _ h => h) (Or.inl ⟨by rfl, fun w' hSw => ?_⟩) (by assumption) ?_
    rotate_left
    · (try dsimp only at hSw); go_simp; (try with_reducible rfl)
    (try simp only [Act.put, List.setIfInBounds_toArray, List.set_cons_zero, List.set_cons_succ])
    refine wpAnyH_ready (rs := [8]) (by kernel_rfl) (by simp) ?_
    refine AllReadyH.cons (o := ⟨some 35, _, _, _, _, _⟩) rfl (fun K hK => ?_) AllReadyH.nil
    go_simp
    (refine (HFR.out _ (Below.refl W.heap.size W).drew).mono ?_)
    (rintro e w9 ⟨v9, rfl, hm9, hb9⟩)
    (have HB9 := Lib.hid ((Below.refl W.heap.size W).drew.trans hb9))
    (have HM9 := Lib.hid (show MeS w9 W.heap.size v9 ce' from hm9))
    (obtain ⟨A9, c9, rfl, -⟩ := hm9.slice)
    clear hm9 hb9
    go_simp
    refine hK.out _ _ ?_ (fun hHeld => ?_)
    · exact ⟨(HB9.out.cell (p := ⟨bx, 0, none⟩) hxl).trans x0, (HB9.out.cell (p := ⟨bx, 1, none⟩) hxl).trans x1, (HB9.out.cell (p := ⟨g1, v * 4 + 2, none⟩) hgl1).trans u2, (HB9.out.cell (p := ⟨g1, v * 4 + 3, none⟩) hgl1).trans u3, HB9.out⟩
    clear hK K
    (try simp only [Act.put, List.setIfInBounds_toArray, List.set_cons_zero, List.set_cons_succ])
    refine wpAnyH_take (i := 9) (oi := ⟨some 26, _, _, _, _, _⟩) (v := ?_) rfl (by kernel_rfl) (by kernel_rfl) (by kernel_rfl) (fun _ _ _ h => h) (Or.inl ⟨by rfl, fun w' hSw => ?_⟩) (by assumption) ?_
    rotate_left
    · (try dsimp only at hSw); go_simp; (try with_reducible rfl)
    (try simp only [Act.put, List.setIfInBounds_toArray, List.set_cons_zero, List.set_cons_succ])
    refine wpAnyH_take (i := 10) (oi := ⟨some 36, _, _, _, _, _⟩) (v := ?_) rfl (by kernel_rfl) (by kernel_rfl) (by kernel_rfl) (fun _ _ _ h => h) (Or.inl ⟨by rfl, fun w' hSw => ?_⟩) (by assumption) ?_
    rotate_left
    · (try dsimp only at hSw); go_simp; (try with_reducible rfl)
    (try simp only [Act.put, List.setIfInBounds_toArray, List.set_cons_zero, List.set_cons_succ])
    refine wpAnyH_take (i := 11) (oi := ⟨some 37, _, _, _, _, _⟩) (v := ?_) rfl (by kernel_rfl) (by kernel_rfl) (by kernel_rfl) (fun _ _ _ h => h) (Or.inl ⟨by rfl, fun w' hSw => ?_⟩) (by assumption) ?_
    rotate_left
    · (try dsimp only at hSw); go_simp; (try with_reducible rfl)
    (try simp only [Act.put, List.setIfInBounds_toArray, List.set_cons_zero, List.set_cons_succ])
    refine wpAnyH_take (i := 12) (oi := ⟨some 11, _, _, _, _, _⟩) (v := ?_) rfl (by kernel_rfl) (by kernel_rfl) (by kernel_rfl) (fun _ _ _ h => h) (Or.inl ⟨by rfl, fun w' hSw => ?_⟩) (by assumption) ?_
    rotate_left
    · (try dsimp only at hSw); go_simp; (try with_reducible rfl)
    (try simp only [Act.put, List.setIfInBounds_toArray, List.set_cons_zero, List.set_cons_succ])
    refine wpAnyH_take (i := 13) (oi := ⟨some 12, _, _, _, _, _⟩) (v := ?_) rfl (by kernel_rfl) (by kernel_rfl) (by kernel_rfl) (fun _ _ _ h => h) (Or.inl ⟨by rfl, fun w' hSw => ?_⟩) (by assumption) ?_
    rotate_left
    · (try dsimp only at hSw); go_simp; (try with_reducible rfl)
    (try simp only [Act.put, List.setIfInBounds_toArray, List.set_cons_zero, List.set_cons_succ])
    refine wpAnyH_done (by kernel_rfl) ?_ _
    have HX9 := Lib.hid (HXS.out.low HB9.out hxl)
    have f1 := HX9.out.frozen 1
    have x1 := HX9.out.cell 1
    simp only [List.getElem?_cons_zero, List.getElem?_cons_succ] at x1
    clear hHeld x0 u0 u1 u2 u3 t1
    go_upto_region 6 with (at_builtin; fail)
    have HK5 := Lib.hid (KpT.set_ HX9.out 1 (.slice A9 ce'.length c9))
    have HX5 := Lib.hid (HX9.out.set_ 1 (.slice A9 ce'.length c9))
    have HXX5 := Lib.hid ((HXX.out.low HB9.out HXX.out.lt).keepT HK5.out (by decide))
    have HR5 : Hid (RowB (w9.setCell ⟨bx, 1, none⟩ (.slice A9 ce'.length c9)) (bx + 1 + 1) 57 [.slice none 0 0, .slice none 0 0, .slice none 0 0]) := Lib.hid ((heap_setCell_other w9 ⟨bx, 1, none⟩ (bx + 1 + 1) _ (by show bx + 1 + 1 ≠ bx; omega)).trans (HR.out.low HB9.out hbl))
    have HSP5 : Hid (SpS (w9.setCell ⟨bx, 1, none⟩ (.slice A9 ce'.length c9)) base (.slice (some ⟨g1, 0, none⟩) s.sl.length cs) (.slice A9 ce'.length c9) (.slice Al s.rd.length cl) ⟨s.sl, ce', s.rd⟩) := Lib.hid ⟨(H1.out.bel HB9.out).sl.keepT HK5.out (by decide), (HM9.out.base (by omega)).keepT HK5.out (by decide) (by decide), (H1.out.bel HB9.out).rd.keepT HK5.out (by decide)⟩
    have HB5 := Lib.hid ((HB0.out.trans (HB9.out.mono hs0)).setCell (p := ⟨bx, 1, none⟩) (by show w.heap.size ≤ bx; have := HBX.out; omega) (.slice A9 ce'.length c9))
    simp only [List.set_cons_succ, List.set_cons_zero] at HX5
    generalize w9.setCell ⟨bx, 1, none⟩ (.slice A9 ce'.length c9) = w5 at *
    have hx5l := HX5.out.lt
    have hr5l := HR5.out.lt
    have hxx5l := HXX5.out.lt
    have hs5 := HB5.out.size
    have x0 := HX5.out.cell 0
    simp only [List.getElem?_cons_zero] at x0
    have HE := Lib.hid (OSl.empty w5 w5.heap.size (Nat.le_refl _))
    have HSA := Lib.hid (HSP5.out.sl.bel (bel_a w5 (.cells #[] 79)))
    have hzz : w5.heap.size ≤ (w5.alloc (.cells #[] 79)).heap.size := by simp
    go_upto_region 7 with (at_builtin; go_must (refine wpList_app_sls rfl (.tmp 41) (.tmp 43) rfl w5.heap.size _ [] rfl HE.out base _ s.sl rfl HSA.out hzz (by simp; omega) ?_); (intro v' w6 hP' hg' _); (have HB6 := Lib.hid ((bel_a w5 (.cells #[] 79)).trans ((Evo.grown (T := 79) (size := 4) HE.out hg').below hzz))); (rw [List.nil_append] at hP'); (have HP := Lib.hid hP'); (obtain ⟨A6, c6, rfl, hc6⟩ := hP'.slice); clear hP' hg'; (have HX6 := Lib.hid (HX5.out.low HB6.out hx5l)); (have f0 := HX6.out.frozen 0); (have y0 := HX6.out.cell 0); (simp only [List.getElem?_cons_zero] at y0))
    have HK7 := Lib.hid (KpT.set_ HX6.out 0 (.slice A6 s.sl.length c6))
    have HX7 := Lib.hid (HX6.out.set_ 0 (.slice A6 s.sl.length c6))
    have HSL7 := Lib.hid (HP.out.keepT HK7.out (by decide))
    have HXX7 := Lib.hid ((HXX5.out.low HB6.out hxx5l).keepT HK7.out (by decide))
    have HR7 : Hid (RowB (w6.setCell ⟨bx, 0, none⟩ (.slice A6 s.sl.length c6)) (bx + 1 + 1) 57 [.slice none 0 0, .slice none 0 0, .slice none 0 0]) := Lib.hid ((heap_setCell_other w6 ⟨bx, 0, none⟩ (bx + 1 + 1) _ (by show bx + 1 + 1 ≠ bx; omega)).trans (HR5.out.low HB6.out hr5l))
    have HCE7 := Lib.hid ((HSP5.out.ce.bel HB6.out).keepT HK7.out (by decide) (by decide))
    have HRD7 := Lib.hid ((HSP5.out.rd.bel HB6.out).keepT HK7.out (by decide))
    have HB7 := Lib.hid ((HB5.out.trans (HB6.out.mono hs5)).setCell (p := ⟨bx, 0, none⟩) (by show w.heap.size ≤ bx; have := HBX.out; omega) (.slice A6 s.sl.length c6))
    simp only [List.set_cons_zero] at HX7
    generalize (w6.setCell ⟨bx, 0, none⟩ (.slice A6 s.sl.length c6)) = w7 at *
    obtain ⟨g7, rfl, hg7, hgl7, u0, u1, u2, u3, fz⟩ := HSL7.out.at_ hvs
    have e0 := fz (v * 4)
    have e1 := fz (v * 4 + 1)
    have e2 := fz (v * 4 + 2)
    have e3 := fz (v * 4 + 3)
    have y0 := HX7.out.cell 0
    have z0 := HXX7.out.cell 0
    have z1 := HXX7.out.cell 1
    have z2 := HXX7.out.cell 2
    have z3 := HXX7.out.cell 3
    simp only [List.getElem?_cons_zero, List.getElem?_cons_succ] at y0 z0 z1 z2 z3
    clear fz f0 x0
    go_upto_region 8 with (at_builtin; fail)
    rw [set4]
    have HSL8 : Hid (OSl (w7.setCells g7 (v * 4) [.bool x.set, .int .i64 x.num, .int .i64 (x.pc : Nat), .int .i64 (x.pt : Nat)]) w5.heap.size (.slice (some ⟨g7, 0, none⟩) s.sl.length c6) (s.sl.set v x)) := Lib.hid (HSL7.out.put rfl hvs x)
    have HNE : ∀ b, b ≠ g7 → (w7.setCells g7 (v * 4) [.bool x.set, .int .i64 x.num, .int .i64 (x.pc : Nat), .int .i64 (x.pt : Nat)]).heap[b]? = w7.heap[b]? := fun b hb => heap_putL hb _ _ _
    have HX8 : Hid (RowB (w7.setCells g7 (v * 4) [.bool x.set, .int .i64 x.num, .int .i64 (x.pc : Nat), .int .i64 (x.pt : Nat)]) bx 57 _) := Lib.hid ((HNE bx (by omega)).trans HX7.out)
    have HR8 : Hid (RowB (w7.setCells g7 (v * 4) [.bool x.set, .int .i64 x.num, .int .i64 (x.pc : Nat), .int .i64 (x.pt : Nat)]) (bx + 1 + 1) 57 _) := Lib.hid ((HNE (bx + 1 + 1) (by omega)).trans HR7.out)
    have HB8 := Lib.hid (HB7.out.trans (below_putL (B := w.heap.size) (g := g7) (by omega) [.bool x.set, .int .i64 x.num, .int .i64 (x.pc : Nat), .int .i64 (x.pt : Nat)] (v * 4) w7))
    obtain ⟨cur, hcur⟩ := own_heap HSL7.out (b := g7) rfl
    have hrb : RowB w7 g7 79 cur.toList := by simpa [RowB] using hcur
    have hk8 := hrb.kptO (v * 4) [.bool x.set, .int .i64 x.num, .int .i64 (x.pc : Nat), .int .i64 (x.pt : Nat)]
    have HCE8 := Lib.hid (HCE7.out.keepT hk8 (by decide) (by decide))
    have HRD8 := Lib.hid (HRD7.out.keepT hk8 (by decide))
    clear hrb hk8 hcur HNE u0 u1 u2 u3 e0 e1 e2 e3 y0 z0 z1 z2 z3
    generalize (w7.setCells g7 (v * 4) [.bool x.set, .int .i64 x.num, .int .i64 (x.pc : Nat), .int .i64 (x.pt : Nat)]) = w8 at *
    have y0 := HX8.out.cell 0
    have y1 := HX8.out.cell 1
    have y2 := HX8.out.cell 2
    simp only [List.getElem?_cons_zero, List.getElem?_cons_succ] at y0 y1 y2
    have HXf : Hid (RowB w8 bx 57 [.slice (some ⟨g7, 0, none⟩) s.sl.length c6, (.slice A9 ce'.length c9), .slice Al s.rd.length cl]) := Lib.hid HX8.out
    have HRf := Lib.hid HR8.out
    have HSf : Hid (SpS w8 base (.slice (some ⟨g7, 0, none⟩) s.sl.length c6) (.slice A9 ce'.length c9) (.slice Al s.rd.length cl) ⟨s.sl.set v x, ce', s.rd⟩) := Lib.hid ⟨HSL8.out.base (by have := HB5.out.size; omega), HCE8.out, HRD8.out⟩
    have HBf := Lib.hid HB8.out
    have hbrf : w.heap.size ≤ bx + 1 + 1 := by have := HBX.out; omega
    have hnef : bx ≠ bx + 1 + 1 := by omega
    clear y0 y1 y2
    have y0 := HXf.out.cell 0
    have y1 := HXf.out.cell 1
    have y2 := HXf.out.cell 2
    simp only [List.getElem?_cons_zero, List.getElem?_cons_succ] at y0 y1 y2
    have rf0 := HRf.out.frozen 0
    have rf1 := HRf.out.frozen 1
    have rf2 := HRf.out.frozen 2
    have r0 := HRf.out.cell 0
    have r1 := HRf.out.cell 1
    have r2 := HRf.out.cell 2
    simp only [List.getElem?_cons_zero, List.getElem?_cons_succ] at r0 r1 r2
    refine wp_region_held_drew (S := (fun w' => w'.cell? ⟨bx, 0, none⟩ = some (.slice (some ⟨g7, 0, none⟩) s.sl.length c6) ∧ w'.cell? ⟨bx, 1, none⟩ = some (.slice A9 ce'.length c9) ∧ w'.cell? ⟨bx, 2, none⟩ = some (.slice Al s.rd.length cl))) (by kernel_rfl) ?_ (fun hHeld => ?_)
    · exact ⟨y0, y1, y2⟩
    refine wpAnyH_take (i := 0) (oi := ⟨some 51, _, _, _, _, _⟩) (v := ?_) rfl (by kernel_rfl) (by kernel_rfl) (by kernel_rfl) (fun _ _ _ h => h) (Or.inl ⟨by rfl, fun w' hSw => ?_⟩) (by assumption) ?_
    rotate_left
    · (try dsimp only at hSw); go_simp; (try with_reducible rfl)
    (try simp only [Act.put, List.setIfInBounds_toArray, List.set_cons_zero, List.set_cons_succ])
    refine wpAnyH_take (i := 1) (oi := ⟨some 52, _, _, _, _, _⟩) (v := ?_) rfl (by kernel_rfl) (by kernel_rfl) (by kernel_rfl) (fun _ _ _ h => h) (Or.inl ⟨by rfl, fun w' hSw => ?_⟩) (by assumption) ?_
    rotate_left
    · (try dsimp only at hSw); go_simp; (try with_reducible rfl)
    (try simp only [Act.put, List.setIfInBounds_toArray, List.set_cons_zero, List.set_cons_succ])
    refine wpAnyH_ready (rs := [2]) (by kernel_rfl) (by simp) ?_
    refine (AllReadyH.cons (o := ⟨some 53, _, _, _, _, _⟩) rfl (fun K hK => ?_) AllReadyH.nil)
    go_simp
    (refine (l7Code_any code _).mono ?_)
    (rintro e wz ⟨rfl, rfl⟩)
    go_simp
    refine hK.out _ _ ?_ (fun hHeld => ?_)
    · exact ⟨y0, y1, y2⟩
    clear hK K
    (try simp only [Act.put, List.setIfInBounds_toArray, List.set_cons_zero, List.set_cons_succ])
    refine wpAnyH_ready (rs := [3]) (by kernel_rfl) (by simp) ?_
    refine (AllReadyH.cons (o := ⟨none, _, _, _, _, _⟩) rfl (fun K hK => ?_) AllReadyH.nil)
    go_simp
    (have HEN := Lib.hid (sp_end (HRf.out.low (BelD w8) HRf.out.lt) rfl (HSf.out.bel (BelD w8)) (HBf.out.trans ((BelD w8).mono HBf.out.size)) hbrf))
    (have HXE : Hid (RowB (w8.drew.setCells (bx + 1 + 1) 0 [.slice (some ⟨g7, 0, none⟩) s.sl.length c6, .slice A9 ce'.length c9, .slice Al s.rd.length cl]) bx 57 [.slice (some ⟨g7, 0, none⟩) s.sl.length c6, .slice A9 ce'.length c9, .slice Al s.rd.length cl]) := Lib.hid ((HXf.out.low (BelD w8) HXf.out.lt).nes hnef 0 _))
    refine hK.out _ _ ?_ (fun hHeld => ?_)
    · exact ⟨HXE.out.cell 0, HXE.out.cell 1, HXE.out.cell 2⟩
    clear hK K
    (try simp only [Act.put, List.setIfInBounds_toArray, List.set_cons_zero, List.set_cons_succ])
    refine wpAnyH_take (i := 4) (oi := ⟨some 9, _, _, _, _, _⟩) (v := ?_) rfl (by kernel_rfl) (by kernel_rfl) (by kernel_rfl) (fun _ _ _ h => h) (Or.inl ⟨by rfl, fun w' hSw => ?_⟩) (by assumption) ?_
    rotate_left
    · (try dsimp only at hSw); go_simp; (try with_reducible rfl)
    (try simp only [Act.put, List.setIfInBounds_toArray, List.set_cons_zero, List.set_cons_succ])
    refine wpAnyH_done (by kernel_rfl) ?_ _
    go_wp2_with (at_builtin; fail)
    refine bodyPost_ret (res_s1 (p := 8) (u := 9) (ty := 57) rfl _ _ (bx + 1 + 1) 57 _ (0, 0) _ rfl HEN.out.1 Tryz.underlying57 rfl rfl) rfl ?_
    exact ⟨_, _, _, by rw [HR0.out]; rfl, by rw [HR0.out]; exact HEN.out.2.1, HEN.out.2.2⟩
  · have HR0 : Hid (putP ts s v x = (⟨s.sl.set v x, s.ce, s.rd⟩, none)) := Lib.hid (putP_no (show ¬ (ts.getD v 0 = 2 ∧ (slAt s.sl v).set = true) by rw [← HTY.out, HAT.out, ← HST.out]; exact hcond))
    have hq1 : (ty == 2 && st) = false := by
      rw [Bool.eq_false_iff]
      intro h
      simp only [Bool.and_eq_true, beq_iff_eq] at h
      exact hcond h
    have HX5 := HXS
    have HXX5 := HXX
    have HR5 := HR
    have HSP5 : Hid (SpS W base (.slice (some ⟨g1, 0, none⟩) s.sl.length cs) (.slice Ac s.ce.length cc) (.slice Al s.rd.length cl) ⟨s.sl, s.ce, s.rd⟩) := Lib.hid H1.out
    have HB5 := HB0
    by_cases h2 : ty = 2
    · have hst : st = false := by cases st <;> simp_all
      subst h2 hst
      clear hcond hq1
      go_upto_region 6 with (at_builtin; fail)
      clear x0 u0 u1 u2 u3 t1
      have hx5l := HX5.out.lt
      have hr5l := HR5.out.lt
      have hxx5l := HXX5.out.lt
      have hs5 := HB5.out.size
      have x0 := HX5.out.cell 0
      simp only [List.getElem?_cons_zero] at x0
      have HE := Lib.hid (OSl.empty W W.heap.size (Nat.le_refl _))
      have HSA := Lib.hid (HSP5.out.sl.bel (bel_a W (.cells #[] 79)))
      have hzz : W.heap.size ≤ (W.alloc (.cells #[] 79)).heap.size := by simp
      go_upto_region 7 with (at_builtin; go_must (refine wpList_app_sls rfl (.tmp 41) (.tmp 43) rfl W.heap.size _ [] rfl HE.out base _ s.sl rfl HSA.out hzz (by simp; omega) ?_); (intro v' w6 hP' hg' _); (have HB6 := Lib.hid ((bel_a W (.cells #[] 79)).trans ((Evo.grown (T := 79) (size := 4) HE.out hg').below hzz))); (rw [List.nil_append] at hP'); (have HP := Lib.hid hP'); (obtain ⟨A6, c6, rfl, hc6⟩ := hP'.slice); clear hP' hg'; (have HX6 := Lib.hid (HX5.out.low HB6.out hx5l)); (have f0 := HX6.out.frozen 0); (have y0 := HX6.out.cell 0); (simp only [List.getElem?_cons_zero] at y0))
      have HK7 := Lib.hid (KpT.set_ HX6.out 0 (.slice A6 s.sl.length c6))
      have HX7 := Lib.hid (HX6.out.set_ 0 (.slice A6 s.sl.length c6))
      have HSL7 := Lib.hid (HP.out.keepT HK7.out (by decide))
      have HXX7 := Lib.hid ((HXX5.out.low HB6.out hxx5l).keepT HK7.out (by decide))
      have HR7 : Hid (RowB (w6.setCell ⟨bx, 0, none⟩ (.slice A6 s.sl.length c6)) (bx + 1 + 1) 57 [.slice none 0 0, .slice none 0 0, .slice none 0 0]) := Lib.hid ((heap_setCell_other w6 ⟨bx, 0, none⟩ (bx + 1 + 1) _ (by show bx + 1 + 1 ≠ bx; omega)).trans (HR5.out.low HB6.out hr5l))
      have HCE7 := Lib.hid ((HSP5.out.ce.bel HB6.out).keepT HK7.out (by decide) (by decide))
      have HRD7 := Lib.hid ((HSP5.out.rd.bel HB6.out).keepT HK7.out (by decide))
      have HB7 := Lib.hid ((HB5.out.trans (HB6.out.mono hs5)).setCell (p := ⟨bx, 0, none⟩) (by show w.heap.size ≤ bx; have := HBX.out; omega) (.slice A6 s.sl.length c6))
      simp only [List.set_cons_zero] at HX7
      generalize (w6.setCell ⟨bx, 0, none⟩ (.slice A6 s.sl.length c6)) = w7 at *
      obtain ⟨g7, rfl, hg7, hgl7, u0, u1, u2, u3, fz⟩ := HSL7.out.at_ hvs
      have e0 := fz (v * 4)
      have e1 := fz (v * 4 + 1)
      have e2 := fz (v * 4 + 2)
      have e3 := fz (v * 4 + 3)
      have y0 := HX7.out.cell 0
      have z0 := HXX7.out.cell 0
      have z1 := HXX7.out.cell 1
      have z2 := HXX7.out.cell 2
      have z3 := HXX7.out.cell 3
      simp only [List.getElem?_cons_zero, List.getElem?_cons_succ] at y0 z0 z1 z2 z3
      clear fz f0 x0
      go_upto_region 8 with (at_builtin; fail)
      rw [set4]
      have HSL8 : Hid (OSl (w7.setCells g7 (v * 4) [.bool x.set, .int .i64 x.num, .int .i64 (x.pc : Nat), .int .i64 (x.pt : Nat)]) W.heap.size (.slice (some ⟨g7, 0, none⟩) s.sl.length c6) (s.sl.set v x)) := Lib.hid (HSL7.out.put rfl hvs x)
      have HNE : ∀ b, b ≠ g7 → (w7.setCells g7 (v * 4) [.bool x.set, .int .i64 x.num, .int .i64 (x.pc : Nat), .int .i64 (x.pt : Nat)]).heap[b]? = w7.heap[b]? := fun b hb => heap_putL hb _ _ _
      have HX8 : Hid (RowB (w7.setCells g7 (v * 4) [.bool x.set, .int .i64 x.num, .int .i64 (x.pc : Nat), .int .i64 (x.pt : Nat)]) bx 57 _) := Lib.hid ((HNE bx (by omega)).trans HX7.out)
      have HR8 : Hid (RowB (w7.setCells g7 (v * 4) [.bool x.set, .int .i64 x.num, .int .i64 (x.pc : Nat), .int .i64 (x.pt : Nat)]) (bx + 1 + 1) 57 _) := Lib.hid ((HNE (bx + 1 + 1) (by omega)).trans HR7.out)
      have HB8 := Lib.hid (HB7.out.trans (below_putL (B := w.heap.size) (g := g7) (by omega) [.bool x.set, .int .i64 x.num, .int .i64 (x.pc : Nat), .int .i64 (x.pt : Nat)] (v * 4) w7))
      obtain ⟨cur, hcur⟩ := own_heap HSL7.out (b := g7) rfl
      have hrb : RowB w7 g7 79 cur.toList := by simpa [RowB] using hcur
      have hk8 := hrb.kptO (v * 4) [.bool x.set, .int .i64 x.num, .int .i64 (x.pc : Nat), .int .i64 (x.pt : Nat)]
      have HCE8 := Lib.hid (HCE7.out.keepT hk8 (by decide) (by decide))
      have HRD8 := Lib.hid (HRD7.out.keepT hk8 (by decide))
      clear hrb hk8 hcur HNE u0 u1 u2 u3 e0 e1 e2 e3 y0 z0 z1 z2 z3
      generalize (w7.setCells g7 (v * 4) [.bool x.set, .int .i64 x.num, .int .i64 (x.pc : Nat), .int .i64 (x.pt : Nat)]) = w8 at *
      have y0 := HX8.out.cell 0
      have y1 := HX8.out.cell 1
      have y2 := HX8.out.cell 2
      simp only [List.getElem?_cons_zero, List.getElem?_cons_succ] at y0 y1 y2
      have HXf : Hid (RowB w8 bx 57 [.slice (some ⟨g7, 0, none⟩) s.sl.length c6, (.slice Ac s.ce.length cc), .slice Al s.rd.length cl]) := Lib.hid HX8.out
      have HRf := Lib.hid HR8.out
      have HSf : Hid (SpS w8 base (.slice (some ⟨g7, 0, none⟩) s.sl.length c6) (.slice Ac s.ce.length cc) (.slice Al s.rd.length cl) ⟨s.sl.set v x, s.ce, s.rd⟩) := Lib.hid ⟨HSL8.out.base (by have := HB5.out.size; omega), HCE8.out, HRD8.out⟩
      have HBf := Lib.hid HB8.out
      have hbrf : w.heap.size ≤ bx + 1 + 1 := by have := HBX.out; omega
      have hnef : bx ≠ bx + 1 + 1 := by omega
      clear y0 y1 y2
      have y0 := HXf.out.cell 0
      have y1 := HXf.out.cell 1
      have y2 := HXf.out.cell 2
      simp only [List.getElem?_cons_zero, List.getElem?_cons_succ] at y0 y1 y2
      have rf0 := HRf.out.frozen 0
      have rf1 := HRf.out.frozen 1
      have rf2 := HRf.out.frozen 2
      have r0 := HRf.out.cell 0
      have r1 := HRf.out.cell 1
      have r2 := HRf.out.cell 2
      simp only [List.getElem?_cons_zero, List.getElem?_cons_succ] at r0 r1 r2
      refine wp_region_held_drew (S := (fun w' => w'.cell? ⟨bx, 0, none⟩ = some (.slice (some ⟨g7, 0, none⟩) s.sl.length c6) ∧ w'.cell? ⟨bx, 1, none⟩ = some (.slice Ac s.ce.length cc) ∧ w'.cell? ⟨bx, 2, none⟩ = some (.slice Al s.rd.length cl))) (by kernel_rfl) ?_ (fun hHeld => ?_)
      · exact ⟨y0, y1, y2⟩
      refine wpAnyH_take (i := 0) (oi := ⟨some 51, _, _, _, _, _⟩) (v := ?_) rfl (by kernel_rfl) (by kernel_rfl) (by kernel_rfl) (fun _ _ _ h => h) (Or.inl ⟨by rfl, fun w' hSw => ?_⟩) (by assumption) ?_
      rotate_left
      · (try dsimp only at hSw); go_simp; (try with_reducible rfl)
      (try simp only [Act.put, List.setIfInBounds_toArray, List.set_cons_zero, List.set_cons_succ])
      refine wpAnyH_take (i := 1) (oi := ⟨some 52, _, _, _, _, _⟩) (v := ?_) rfl (by kernel_rfl) (by kernel_rfl) (by kernel_rfl) (fun _ _ _ h => h) (Or.inl ⟨by rfl, fun w' hSw => ?_⟩) (by assumption) ?_
      rotate_left
      · (try dsimp only at hSw); go_simp; (try with_reducible rfl)
      (try simp only [Act.put, List.setIfInBounds_toArray, List.set_cons_zero, List.set_cons_succ])
      refine wpAnyH_ready (rs := [2]) (by kernel_rfl) (by simp) ?_
      refine (AllReadyH.cons (o := ⟨some 53, _, _, _, _, _⟩) rfl (fun K hK => ?_) AllReadyH.nil)
      go_simp
      (refine (l7Code_any 0 _).mono ?_)
      (rintro e wz ⟨rfl, rfl⟩)
      go_simp
      refine hK.out _ _ ?_ (fun hHeld => ?_)
      · exact ⟨y0, y1, y2⟩
      clear hK K
      (try simp only [Act.put, List.setIfInBounds_toArray, List.set_cons_zero, List.set_cons_succ])
      refine wpAnyH_ready (rs := [3]) (by kernel_rfl) (by simp) ?_
      refine (AllReadyH.cons (o := ⟨none, _, _, _, _, _⟩) rfl (fun K hK => ?_) AllReadyH.nil)
      go_simp
      (have HEN := Lib.hid (sp_end (HRf.out.low (BelD w8) HRf.out.lt) rfl (HSf.out.bel (BelD w8)) (HBf.out.trans ((BelD w8).mono HBf.out.size)) hbrf))
      (have HXE : Hid (RowB (w8.drew.setCells (bx + 1 + 1) 0 [.slice (some ⟨g7, 0, none⟩) s.sl.length c6, .slice Ac s.ce.length cc, .slice Al s.rd.length cl]) bx 57 [.slice (some ⟨g7, 0, none⟩) s.sl.length c6, .slice Ac s.ce.length cc, .slice Al s.rd.length cl]) := Lib.hid ((HXf.out.low (BelD w8) HXf.out.lt).nes hnef 0 _))
      refine hK.out _ _ ?_ (fun hHeld => ?_)
      · exact ⟨HXE.out.cell 0, HXE.out.cell 1, HXE.out.cell 2⟩
      clear hK K
      (try simp only [Act.put, List.setIfInBounds_toArray, List.set_cons_zero, List.set_cons_succ])
      refine wpAnyH_take (i := 4) (oi := ⟨some 9, _, _, _, _, _⟩) (v := ?_) rfl (by kernel_rfl) (by kernel_rfl) (by kernel_rfl) (fun _ _ _ h => h) (Or.inl ⟨by rfl, fun w' hSw => ?_⟩) (by assumption) ?_
      rotate_left
      · (try dsimp only at hSw); go_simp; (try with_reducible rfl)
      (try simp only [Act.put, List.setIfInBounds_toArray, List.set_cons_zero, List.set_cons_succ])
      refine wpAnyH_done (by kernel_rfl) ?_ _
      go_wp2_with (at_builtin; fail)
      refine bodyPost_ret (res_s1 (p := 8) (u := 9) (ty := 57) rfl _ _ (bx + 1 + 1) 57 _ (0, 0) _ rfl HEN.out.1 Tryz.underlying57 rfl rfl) rfl ?_
      exact ⟨_, _, _, by rw [HR0.out]; rfl, by rw [HR0.out]; exact HEN.out.2.1, HEN.out.2.2⟩
    · have q2 : (ty == 2) = false := by simpa using h2
      clear hcond hq1 h2
      go_upto_region 6 with (at_builtin; fail)
      clear x0 u0 u1 u2 u3 t1
      have hx5l := HX5.out.lt
      have hr5l := HR5.out.lt
      have hxx5l := HXX5.out.lt
      have hs5 := HB5.out.size
      have x0 := HX5.out.cell 0
      simp only [List.getElem?_cons_zero] at x0
      have HE := Lib.hid (OSl.empty W W.heap.size (Nat.le_refl _))
      have HSA := Lib.hid (HSP5.out.sl.bel (bel_a W (.cells #[] 79)))
      have hzz : W.heap.size ≤ (W.alloc (.cells #[] 79)).heap.size := by simp
      go_upto_region 7 with (at_builtin; go_must (refine wpList_app_sls rfl (.tmp 41) (.tmp 43) rfl W.heap.size _ [] rfl HE.out base _ s.sl rfl HSA.out hzz (by simp; omega) ?_); (intro v' w6 hP' hg' _); (have HB6 := Lib.hid ((bel_a W (.cells #[] 79)).trans ((Evo.grown (T := 79) (size := 4) HE.out hg').below hzz))); (rw [List.nil_append] at hP'); (have HP := Lib.hid hP'); (obtain ⟨A6, c6, rfl, hc6⟩ := hP'.slice); clear hP' hg'; (have HX6 := Lib.hid (HX5.out.low HB6.out hx5l)); (have f0 := HX6.out.frozen 0); (have y0 := HX6.out.cell 0); (simp only [List.getElem?_cons_zero] at y0))
      have HK7 := Lib.hid (KpT.set_ HX6.out 0 (.slice A6 s.sl.length c6))
      have HX7 := Lib.hid (HX6.out.set_ 0 (.slice A6 s.sl.length c6))
      have HSL7 := Lib.hid (HP.out.keepT HK7.out (by decide))
      have HXX7 := Lib.hid ((HXX5.out.low HB6.out hxx5l).keepT HK7.out (by decide))
      have HR7 : Hid (RowB (w6.setCell ⟨bx, 0, none⟩ (.slice A6 s.sl.length c6)) (bx + 1 + 1) 57 [.slice none 0 0, .slice none 0 0, .slice none 0 0]) := Lib.hid ((heap_setCell_other w6 ⟨bx, 0, none⟩ (bx + 1 + 1) _ (by show bx + 1 + 1 ≠ bx; omega)).trans (HR5.out.low HB6.out hr5l))
      have HCE7 := Lib.hid ((HSP5.out.ce.bel HB6.out).keepT HK7.out (by decide) (by decide))
      have HRD7 := Lib.hid ((HSP5.out.rd.bel HB6.out).keepT HK7.out (by decide))
      have HB7 := Lib.hid ((HB5.out.trans (HB6.out.mono hs5)).setCell (p := ⟨bx, 0, none⟩) (by show w.heap.size ≤ bx; have := HBX.out; omega) (.slice A6 s.sl.length c6))
      simp only [List.set_cons_zero] at HX7
      generalize (w6.setCell ⟨bx, 0, none⟩ (.slice A6 s.sl.length c6)) = w7 at *
      obtain ⟨g7, rfl, hg7, hgl7, u0, u1, u2, u3, fz⟩ := HSL7.out.at_ hvs
      have e0 := fz (v * 4)
      have e1 := fz (v * 4 + 1)
      have e2 := fz (v * 4 + 2)
      have e3 := fz (v * 4 + 3)
      have y0 := HX7.out.cell 0
      have z0 := HXX7.out.cell 0
      have z1 := HXX7.out.cell 1
      have z2 := HXX7.out.cell 2
      have z3 := HXX7.out.cell 3
      simp only [List.getElem?_cons_zero, List.getElem?_cons_succ] at y0 z0 z1 z2 z3
      clear fz f0 x0
      go_upto_region 8 with (at_builtin; fail)
      rw [set4]
      have HSL8 : Hid (OSl (w7.setCells g7 (v * 4) [.bool x.set, .int .i64 x.num, .int .i64 (x.pc : Nat), .int .i64 (x.pt : Nat)]) W.heap.size (.slice (some ⟨g7, 0, none⟩) s.sl.length c6) (s.sl.set v x)) := Lib.hid (HSL7.out.put rfl hvs x)
      have HNE : ∀ b, b ≠ g7 → (w7.setCells g7 (v * 4) [.bool x.set, .int .i64 x.num, .int .i64 (x.pc : Nat), .int .i64 (x.pt : Nat)]).heap[b]? = w7.heap[b]? := fun b hb => heap_putL hb _ _ _
      have HX8 : Hid (RowB (w7.setCells g7 (v * 4) [.bool x.set, .int .i64 x.num, .int .i64 (x.pc : Nat), .int .i64 (x.pt : Nat)]) bx 57 _) := Lib.hid ((HNE bx (by omega)).trans HX7.out)
      have HR8 : Hid (RowB (w7.setCells g7 (v * 4) [.bool x.set, .int .i64 x.num, .int .i64 (x.pc : Nat), .int .i64 (x.pt : Nat)]) (bx + 1 + 1) 57 _) := Lib.hid ((HNE (bx + 1 + 1) (by omega)).trans HR7.out)
      have HB8 := Lib.hid (HB7.out.trans (below_putL (B := w.heap.size) (g := g7) (by omega) [.bool x.set, .int .i64 x.num, .int .i64 (x.pc : Nat), .int .i64 (x.pt : Nat)] (v * 4) w7))
      obtain ⟨cur, hcur⟩ := own_heap HSL7.out (b := g7) rfl
      have hrb : RowB w7 g7 79 cur.toList := by simpa [RowB] using hcur
      have hk8 := hrb.kptO (v * 4) [.bool x.set, .int .i64 x.num, .int .i64 (x.pc : Nat), .int .i64 (x.pt : Nat)]
      have HCE8 := Lib.hid (HCE7.out.keepT hk8 (by decide) (by decide))
      have HRD8 := Lib.hid (HRD7.out.keepT hk8 (by decide))
      clear hrb hk8 hcur HNE u0 u1 u2 u3 e0 e1 e2 e3 y0 z0 z1 z2 z3
      generalize (w7.setCells g7 (v * 4) [.bool x.set, .int .i64 x.num, .int .i64 (x.pc : Nat), .int .i64 (x.pt : Nat)]) = w8 at *
      have y0 := HX8.out.cell 0
      have y1 := HX8.out.cell 1
      have y2 := HX8.out.cell 2
      simp only [List.getElem?_cons_zero, List.getElem?_cons_succ] at y0 y1 y2
      have HXf : Hid (RowB w8 bx 57 [.slice (some ⟨g7, 0, none⟩) s.sl.length c6, (.slice Ac s.ce.length cc), .slice Al s.rd.length cl]) := Lib.hid HX8.out
      have HRf := Lib.hid HR8.out
      have HSf : Hid (SpS w8 base (.slice (some ⟨g7, 0, none⟩) s.sl.length c6) (.slice Ac s.ce.length cc) (.slice Al s.rd.length cl) ⟨s.sl.set v x, s.ce, s.rd⟩) := Lib.hid ⟨HSL8.out.base (by have := HB5.out.size; omega), HCE8.out, HRD8.out⟩
      have HBf := Lib.hid HB8.out
      have hbrf : w.heap.size ≤ bx + 1 + 1 := by have := HBX.out; omega
      have hnef : bx ≠ bx + 1 + 1 := by omega
      clear y0 y1 y2
      have y0 := HXf.out.cell 0
      have y1 := HXf.out.cell 1
      have y2 := HXf.out.cell 2
      simp only [List.getElem?_cons_zero, List.getElem?_cons_succ] at y0 y1 y2
      have rf0 := HRf.out.frozen 0
      have rf1 := HRf.out.frozen 1
      have rf2 := HRf.out.frozen 2
      have r0 := HRf.out.cell 0
      have r1 := HRf.out.cell 1
      have r2 := HRf.out.cell 2
      simp only [List.getElem?_cons_zero, List.getElem?_cons_succ] at r0 r1 r2
      refine wp_region_held_drew (S := (fun w' => w'.cell? ⟨bx, 0, none⟩ = some (.slice (some ⟨g7, 0, none⟩) s.sl.length c6) ∧ w'.cell? ⟨bx, 1, none⟩ = some (.slice Ac s.ce.length cc) ∧ w'.cell? ⟨bx, 2, none⟩ = some (.slice Al s.rd.length cl))) (by kernel_rfl) ?_ (fun hHeld => ?_)
      · exact ⟨y0, y1, y2⟩
      refine wpAnyH_take (i := 0) (oi := ⟨some 51, _, _, _, _, _⟩) (v := ?_) rfl (by kernel_rfl) (by kernel_rfl) (by kernel_rfl) (fun _ _ _ h => h) (Or.inl ⟨by rfl, fun w' hSw => ?_⟩) (by assumption) ?_
      rotate_left
      · (try dsimp only at hSw); go_simp; (try with_reducible rfl)
      (try simp only [Act.put, List.setIfInBounds_toArray, List.set_cons_zero, List.set_cons_succ])
      refine wpAnyH_take (i := 1) (oi := ⟨some 52, _, _, _, _, _⟩) (v := ?_) rfl (by kernel_rfl) (by kernel_rfl) (by kernel_rfl) (fun _ _ _ h => h) (Or.inl ⟨by rfl, fun w' hSw => ?_⟩) (by assumption) ?_
      rotate_left
      · (try dsimp only at hSw); go_simp; (try with_reducible rfl)
      (try simp only [Act.put, List.setIfInBounds_toArray, List.set_cons_zero, List.set_cons_succ])
      refine wpAnyH_ready (rs := [2]) (by kernel_rfl) (by simp) ?_
      refine (AllReadyH.cons (o := ⟨some 53, _, _, _, _, _⟩) rfl (fun K hK => ?_) AllReadyH.nil)
      go_simp
      (refine (l7Code_any 0 _).mono ?_)
      (rintro e wz ⟨rfl, rfl⟩)
      go_simp
      refine hK.out _ _ ?_ (fun hHeld => ?_)
      · exact ⟨y0, y1, y2⟩
      clear hK K
      (try simp only [Act.put, List.setIfInBounds_toArray, List.set_cons_zero, List.set_cons_succ])
      refine wpAnyH_ready (rs := [3]) (by kernel_rfl) (by simp) ?_
      refine (AllReadyH.cons (o := ⟨none, _, _, _, _, _⟩) rfl (fun K hK => ?_) AllReadyH.nil)
      go_simp
      (have HEN := Lib.hid (sp_end (HRf.out.low (BelD w8) HRf.out.lt) rfl (HSf.out.bel (BelD w8)) (HBf.out.trans ((BelD w8).mono HBf.out.size)) hbrf))
      (have HXE : Hid (RowB (w8.drew.setCells (bx + 1 + 1) 0 [.slice (some ⟨g7, 0, none⟩) s.sl.length c6, .slice Ac s.ce.length cc, .slice Al s.rd.length cl]) bx 57 [.slice (some ⟨g7, 0, none⟩) s.sl.length c6, .slice Ac s.ce.length cc, .slice Al s.rd.length cl]) := Lib.hid ((HXf.out.low (BelD w8) HXf.out.lt).nes hnef 0 _))
      refine hK.out _ _ ?_ (fun hHeld => ?_)
      · exact ⟨HXE.out.cell 0, HXE.out.cell 1, HXE.out.cell 2⟩
      clear hK K
      (try simp only [Act.put, List.setIfInBounds_toArray, List.set_cons_zero, List.set_cons_succ])
      refine wpAnyH_take (i := 4) (oi := ⟨some 9, _, _, _, _, _⟩) (v := ?_) rfl (by kernel_rfl) (by kernel_rfl) (by kernel_rfl) (fun _ _ _ h => h) (Or.inl ⟨by rfl, fun w' hSw => ?_⟩) (by assumption) ?_
      rotate_left
      · (try dsimp only at hSw); go_simp; (try with_reducible rfl)
      (try simp only [Act.put, List.setIfInBounds_toArray, List.set_cons_zero, List.set_cons_succ])
      refine wpAnyH_done (by kernel_rfl) ?_ _
      go_wp2_with (at_builtin; fail)
      refine bodyPost_ret (res_s1 (p := 8) (u := 9) (ty := 57) rfl _ _ (bx + 1 + 1) 57 _ (0, 0) _ rfl HEN.out.1 Tryz.underlying57 rfl rfl) rfl ?_
      exact ⟨_, _, _, by rw [HR0.out]; rfl, by rw [HR0.out]; exact HEN.out.2.1, HEN.out.2.2⟩

end Go.Proofs.YtfioaohadanjmaaGreat

/- spec.l7Unset. -/
namespace Go.Proofs.YtfioaohadanjmaaGreat
open Go.RowKit Go.Lib

theorem set3z (w : World) (g : Nat) (a b c : Value) : ((w.setCell ⟨g, 0, none⟩ a).setCell ⟨g, 1, none⟩ b).setCell ⟨g, 2, none⟩ c = w.setCells g 0 [a, b, c] := rfl
set_option maxHeartbeats 8000000 in
set_option maxRecDepth 100000 in
theorem l7Unset_any (x : Pt) (An : Option Addr) (cn : Nat) (vs vc vl : Value) (ts : List Int) (s : Ms) (base : Nat) (w : World) (h : SpS w base vs vc vl s) (hok : MsOk ts s) (hx : PtOk ts x) :
    Calls Tryz.prog 61 #[.agg #[.int .i64 x.op, .int .i64 x.x, .int .i64 x.y, .int .i64 x.n, .slice An x.next.length cn], .agg #[vs, vc, vl]] w (fun e w' => e = .returned (.bool (unP s x)) ∧ Below w.heap.size w w') := by
  have H := Lib.hid h
  have HPX := Lib.hid (fun ho => pt_x hx ho)
  have HPY := Lib.hid (fun ho => pt_y hx ho)
  have HLN := Lib.hid hok.ln
  obtain ⟨As, cs, rfl, hcs⟩ := h.sl.slice
  obtain ⟨Ac, cc, rfl, hcc⟩ := h.ce.slice
  obtain ⟨Al, cl, rfl, hcl⟩ := h.rd.slice
  obtain ⟨k1, k2, k3⟩ := two_boxes w [.int .i64 x.op, .int .i64 x.x, .int .i64 x.y, .int .i64 x.n, .slice An x.next.length cn] [.slice As s.sl.length cs, .slice Ac s.ce.length cc, .slice Al s.rd.length cl] 94 57
  have HP := Lib.hid k1
  have HS := Lib.hid k2
  have HB := Lib.hid k3
  clear h hok hx k1 k2 k3
  go_enter Tryz.func61, Tryz.ntmps61
  go_upto_region 1 with (at_builtin; fail)
  generalize (w.alloc (.cells #[.int .i64 x.op, .int .i64 x.x, .int .i64 x.y, .int .i64 x.n, .slice An x.next.length cn] 94)).alloc (.cells #[.slice As s.sl.length cs, .slice Ac s.ce.length cc, .slice Al s.rd.length cl] 57) = W at *
  obtain ⟨bx, hbx⟩ : ∃ bx, bx = w.heap.size := ⟨_, rfl⟩
  rw [← hbx] at HP HS ⊢
  have HBX := Lib.hid hbx
  clear hbx
  have H1 := Lib.hid (H.out.bel HB.out)
  have p0 := HP.out.cell 0
  have p1 := HP.out.cell 1
  have p2 := HP.out.cell 2
  have c0 := HS.out.cell 0
  simp only [List.getElem?_cons_zero, List.getElem?_cons_succ] at p0 p1 p2 c0
  by_cases h36 : 3 ≤ x.op ∧ x.op ≤ 6
  · obtain ⟨u, hu, hul⟩ := HPY.out (by omega)
    have hus : u < s.sl.length := by rw [HLN.out]; exact hul
    obtain ⟨g1, rfl, -, hgl, u0, -, -, -, -⟩ := H1.out.sl.at_ hus
    obtain ⟨st, hst⟩ : ∃ st, st = s.sl[u].set := ⟨_, rfl⟩
    rw [← hst] at u0
    rw [hu] at p2
    have HR : Hid (unP s x = !st) := Lib.hid (by unfold unP; rw [if_pos h36, hu, Int.toNat_natCast, slAt_get hus, hst])
    have h4 : x.op = 3 ∨ x.op = 4 ∨ x.op = 5 ∨ x.op = 6 := by omega
    clear h36 hu hst
    rcases h4 with e | e | e | e
    all_goals
      rw [e] at p0
      clear e
      go_wp2_with (at_builtin; fail)
      go_ret
      exact ⟨by rw [HR.out]; rfl, HB.out⟩
  · by_cases h7 : x.op = 7
    · obtain ⟨u, hu, hul⟩ := HPY.out (by omega)
      obtain ⟨v, hv, hvl⟩ := HPX.out (by omega)
      have hus : u < s.sl.length := by rw [HLN.out]; exact hul
      have hvs : v < s.sl.length := by rw [HLN.out]; exact hvl
      obtain ⟨g1, rfl, -, hgl, u0, -, -, -, -⟩ := H1.out.sl.at_ hus
      obtain ⟨g2, e2, -, -, v0, -, -, -, -⟩ := H1.out.sl.at_ hvs
      injection e2 with e2
      injection e2 with e2 _ _
      subst e2
      obtain ⟨st, hst⟩ : ∃ st, st = s.sl[u].set := ⟨_, rfl⟩
      rw [← hst] at u0
      obtain ⟨st2, hst2⟩ : ∃ st, st = s.sl[v].set := ⟨_, rfl⟩
      rw [← hst2] at v0
      rw [hu] at p2
      rw [hv] at p1
      have HR : Hid (unP s x = (!st2 || !st)) := Lib.hid (by unfold unP; rw [if_neg h36, if_pos h7, hu, hv, Int.toNat_natCast, Int.toNat_natCast, slAt_get hus, slAt_get hvs, hst, hst2])
      rw [h7] at p0
      clear h36 hu hst h7 hv hst2
      cases st2
      all_goals
        go_wp2_with (at_builtin; fail)
        go_ret
        exact ⟨by rw [HR.out]; rfl, HB.out⟩
    · by_cases h8 : x.op = 8
      · obtain ⟨v, hv, hvl⟩ := HPX.out (by omega)
        have hvs : v < s.sl.length := by rw [HLN.out]; exact hvl
        obtain ⟨g1, rfl, -, hgl, u0, -, -, -, -⟩ := H1.out.sl.at_ hvs
        obtain ⟨st, hst⟩ : ∃ st, st = s.sl[v].set := ⟨_, rfl⟩
        rw [← hst] at u0
        rw [hv] at p1
        have HR : Hid (unP s x = !st) := Lib.hid (by unfold unP; rw [if_neg h36, if_neg h7, if_pos h8, hv, Int.toNat_natCast, slAt_get hvs, hst])
        rw [h8] at p0
        clear h36 h7 h8 hv hst
        go_wp2_with (at_builtin; fail)
        go_ret
        exact ⟨by rw [HR.out]; rfl, HB.out⟩
      · have HR : Hid (unP s x = false) := Lib.hid (by unfold unP; rw [if_neg h36, if_neg h7, if_neg h8])
        obtain ⟨op, hop⟩ : ∃ op, op = x.op := ⟨_, rfl⟩
        rw [← hop] at p0 h36 h7 h8
        have q3 : (op == 3) = false := beq_eq_false_iff_ne.2 (by omega)
        have q4 : (op == 4) = false := beq_eq_false_iff_ne.2 (by omega)
        have q5 : (op == 5) = false := beq_eq_false_iff_ne.2 (by omega)
        have q6 : (op == 6) = false := beq_eq_false_iff_ne.2 (by omega)
        have q7 : (op == 7) = false := beq_eq_false_iff_ne.2 (by omega)
        have q8 : (op == 8) = false := beq_eq_false_iff_ne.2 (by omega)
        clear h36 h7 h8 hop
        go_wp2_with (at_builtin; fail)
        go_ret
        exact ⟨by rw [HR.out]; rfl, HB.out⟩

end Go.Proofs.YtfioaohadanjmaaGreat
