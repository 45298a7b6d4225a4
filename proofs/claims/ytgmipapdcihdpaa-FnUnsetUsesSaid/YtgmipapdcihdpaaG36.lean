import Derived.Test.YtgmipapdcihdpaaG34
import Derived.Test.YtgmipapdcihdpaaG19
import Derived.Test.YtgmipapdcihdpaaG33
import Derived.Test.YtgmipapdcihdpaaG35
set_option linter.unusedVariables false

/- spec.LiveAfter, spec.NeedsOf. -/
namespace Go.Proofs.Ytgmipapdcihdpaa
open Go.RowKit

theorem IntS.nil' (w : World) (B : Nat) (A : Option Addr) (c : Nat) : IntS w B (.slice A 0 c) [] := ⟨A, c, rfl, Nat.zero_le _, by simp, Rd.nil⟩
/-- the box of a program's two slices, in a world behind it -/
structure Boxed (w W : World) (B : Nat) (vt vb : Value) (ts : List Int) (l : List St) : Prop where
  bel : Below w.heap.size w W
  lt : w.heap.size < W.heap.size
  c0 : W.cell? ⟨w.heap.size, 0, none⟩ = some vt
  c1 : W.cell? ⟨w.heap.size, 1, none⟩ = some vb
  ht : IntS W B vt ts
  hl : StS W B vb l
theorem Boxed.new {w : World} {B : Nat} {vt vb : Value} {ts : List Int} {l : List St} (ht : IntS w B vt ts) (hl : StS w B vb l) (hB : B ≤ w.heap.size) (t : TypeId) : Boxed w (w.alloc (.cells #[vt, vb] t)) B vt vb ts l := by
  have hb := bel_a w (.cells #[vt, vb] t)
  have hr := heap_alloc_new w (.cells #[vt, vb] t)
  exact ⟨hb, by simp, (cell_of_row _ _ _ _ _ _ hr).trans rfl, (cell_of_row _ _ _ _ _ _ hr).trans rfl, ht.low hb hB, hl.low hb hB⟩
theorem Boxed.bels {w W W' : World} {B : Nat} {vt vb : Value} {ts : List Int} {l : List St} (h : Boxed w W B vt vb ts l) (hb : Below W.heap.size W W') (hB : B ≤ w.heap.size) : Boxed w W' B vt vb ts l :=
  have hlt := h.lt
  ⟨h.bel.trans (hb.mono h.bel.size), Nat.lt_of_lt_of_le h.lt hb.size, (hb.cell (p := ⟨w.heap.size, 0, none⟩) h.lt).trans h.c0, (hb.cell (p := ⟨w.heap.size, 1, none⟩) h.lt).trans h.c1, h.ht.low hb (by omega), h.hl.low hb (by omega)⟩
theorem graphOk_no {ts : List Int} {l : List St} {a : Int} (h : a < 0 ∨ (pointsP ts l).length ≤ a) : graphOk ts l [a] = false := by
  cases e : graphOk ts l [a]
  · rfl
  · obtain ⟨hv, k, rfl, hk⟩ := graphOk_one e
    unfold pointsP at h
    rw [if_pos hv] at h
    omega
theorem graphOk_yes {ts : List Int} {l : List St} {a : Int} (h0 : 0 ≤ a) (h : a < (pointsP ts l).length) : validP ts l = true ∧ pointsP ts l = ptsP l ∧ graphOk ts l [a] = true := by
  unfold pointsP at h ⊢
  cases hv : validP ts l
  · rw [hv] at h; simp at h; omega
  · rw [hv] at h
    simp only [if_true] at h ⊢
    refine ⟨trivial, trivial, ?_⟩
    simp only [graphOk, hv, Bool.true_and, List.all_cons, List.all_nil, Bool.and_true, withinP, Bool.and_eq_true, decide_eq_true_eq]
    omega

theorem OInts.bel {w w' : World} {base : Nat} {v : Value} {l : List Int} (h : OInts w base v l) (hb : Below w.heap.size w w') : OInts w' base v l := h.move (Nat.le_refl _) fun b _ hl => hb.block b hl

set_option maxHeartbeats 4000000
theorem sLiveAfter_any (vt vb : Value) (ts : List Int) (l : List St) (a : Int) (B : Nat) (w : World) (ht : IntS w B vt ts) (hl : StS w B vb l) (hB : B ≤ w.heap.size) (hsz : szL l ≤ 4194300) :
    Calls Try.prog 28 #[.agg #[vt, vb], .int .i64 a] w (IntsRet w (liveRes ts l a)) := by
  have HBX := Lib.hid (Boxed.new ht hl hB 26)
  obtain ⟨At, ct, rfl, hct, -, -⟩ := ht
  obtain ⟨Ab, cb, rfl, hcb⟩ := hl.slice
  clear hl
  by_cases ha : a < 0
  · have HRES : Hid (liveRes ts l a = []) := Lib.hid (by unfold liveRes; rw [graphOk_no (.inl ha)]; rfl)
    go_enter Try.func28, Try.ntmps28
    go_wp2_with fail
    go_ret
    exact ⟨_, rfl, by rw [HRES.out]; exact IntS.nil' _ _ _ _, (HBX.out.bel.trans ((bel_a _ _).mono (by simp)))⟩
  · go_enter Try.func28, Try.ntmps28
    go_wp2_with fail
    refine (sPointsOf_any _ _ ts l B _ HBX.out.ht HBX.out.hl (by have := HBX.out.lt; omega) hsz).mono ?_
    rintro e w1 ⟨vp, rfl, hps, hb1⟩
    have HB1 := Lib.hid (HBX.out.bels hb1 hB)
    have c0 := HB1.out.c0
    have c1 := HB1.out.c1
    obtain ⟨Ap, cp, rfl, hcp, hpl⟩ := hps.slice
    clear hps hb1
    have HGY : Hid (a < (pointsP ts l).length → validP ts l = true ∧ pointsP ts l = ptsP l ∧ graphOk ts l [a] = true) := Lib.hid fun h => graphOk_yes (by omega) h
    have HGN : Hid ((pointsP ts l).length ≤ a → graphOk ts l [a] = false) := Lib.hid fun h => graphOk_no (.inr h)
    obtain ⟨np, hnp⟩ : ∃ np, np = (pointsP ts l).length := ⟨_, rfl⟩
    rw [← hnp] at hcp hpl HGY HGN ⊢
    by_cases hlt : a < (np : Int)
    · obtain ⟨hv, hpe, hok⟩ := HGY.out hlt
      rw [hpe] at hnp
      obtain ⟨k, rfl⟩ : ∃ k : Nat, a = k := ⟨a.toNat, by omega⟩
      have HV := Lib.hid hv
      have HRES : Hid (liveRes ts l (k : Int) = liveAt ts (ptsP l) k) := Lib.hid (by unfold liveRes; rw [if_pos hok]; rfl)
      have HNP := Lib.hid hnp
      clear hv hpe hok hnp
      go_wp2_with fail
      refine (l3Live_any _ _ ts l B _ HB1.out.ht HB1.out.hl (by have := HB1.out.lt; omega) HV.out).mono ?_
      rintro e w2 ⟨v, rb, rows, base, rfl, hbase, hbr, hrl, hrows, hlive, hb2⟩
      obtain ⟨g, c, rfl, hg1, hg2, hrc, hcell, -⟩ := hbr.form (by rw [hrl]; exact ptsP_pos l)
      have hkl : k < rows.length := by rw [hrl, ← HNP.out]; omega
      have hck := hcell k hkl
      have hrow := hbr.row k hkl
      have hlk := hrows k hkl
      have h6 := ts6 (valid_parts HV.out).1
      have HBO := Lib.hid (hrow.1.bools (c := ts.length) (by omega) (by omega))
      have HLR := Lib.hid (live_rows hlive hlk)
      rw [hlk] at HBO
      have HB2 := Lib.hid (HB1.out.bels hb2 hB)
      clear hcell hrow hrows hlive hbr hb2 hrl
      have hkl1 : (k : Int) < (rows.length : Int) := by omega
      go_wp2_with fail
      refine (l3Numbers_any _ _ _ _ HBO.out (Nat.le_refl _)).mono ?_
      rintro e w3 ⟨v3, rfl, hi3, hb3⟩
      go_wp2_with fail
      go_ret
      rw [HLR.out, ← HRES.out] at hi3
      exact ⟨v3, rfl, hi3, HB2.out.bel.trans (hb3.mono HB2.out.bel.size)⟩
    · have HRES : Hid (liveRes ts l a = []) := Lib.hid (by unfold liveRes; rw [HGN.out (by omega)]; rfl)
      go_wp2_with fail
      go_ret
      exact ⟨_, rfl, by rw [HRES.out]; exact IntS.nil' _ _ _ _, HB1.out.bel.trans ((bel_a _ _).mono HB1.out.bel.size)⟩

set_option maxRecDepth 100000
theorem sNeedsOf_any (vt vb : Value) (ts : List Int) (l : List St) (B : Nat) (w : World) (ht : IntS w B vt ts) (hl : StS w B vb l) (hB : B ≤ w.heap.size) (hsz : szL l ≤ 4194300) :
    Calls Try.prog 21 #[.agg #[vt, vb]] w (IntsRet w (needRes ts l)) := by
  have HBX := Lib.hid (Boxed.new ht hl hB 26)
  obtain ⟨At, ct, rfl, hct, -, -⟩ := ht
  obtain ⟨Ab, cb, rfl, hcb⟩ := hl.slice
  clear hl
  go_enter Try.func21, Try.ntmps21
  go_wp2_with fail
  have HO0 := Lib.hid (OInts.empty (w.alloc (.cells #[.slice At ts.length ct, .slice Ab l.length cb] 26)) w.heap.size (by simp))
  have HBY := Lib.hid (HBX.out.bels (bel_a _ (.cells #[] 3)) hB)
  have hsW : w.heap.size + 1 < ((w.alloc (.cells #[.slice At ts.length ct, .slice Ab l.length cb] 26)).alloc (.cells #[] 3)).heap.size := by simp
  have d0 := HBY.out.c0
  have d1 := HBY.out.c1
  generalize ((w.alloc (.cells #[.slice At ts.length ct, .slice Ab l.length cb] 26)).alloc (.cells #[] 3)) = W at *
  rw [show (w.alloc (.cells #[.slice At ts.length ct, .slice Ab l.length cb] 26)).heap.size = w.heap.size + 1 by simp] at HO0
  refine (sProgramValid_any _ _ ts l B _ HBY.out.ht HBY.out.hl (by omega) (by omega)).mono ?_
  rintro e w1 ⟨rfl, hb1⟩
  have HB1 := Lib.hid (HBY.out.bels hb1 hB)
  have HO1 := Lib.hid (HO0.out.bel hb1)
  have hs1 := hb1.size
  have c0 := HB1.out.c0
  have c1 := HB1.out.c1
  clear hb1 d0 d1
  cases hv : validP ts l
  · have HRES : Hid (needRes ts l = []) := Lib.hid (by unfold needRes; rw [hv]; rfl)
    clear hv
    go_wp2_with fail
    go_ret
    exact ⟨_, rfl, by rw [HRES.out]; exact IntS.nil' _ _ _ _, HB1.out.bel⟩
  · have HV := Lib.hid hv
    have HRES : Hid (needRes ts l = lst ts.length (fun v => dec (Nd ts (ptsP l) 0 v))) := Lib.hid (by unfold needRes; rw [if_pos hv])
    clear hv
    go_wp2_with fail
    refine (l2Points_any _ _ l B _ HB1.out.hl (by omega) hsz).mono ?_
    rintro e w2 ⟨vp, rfl, hps, hb2⟩
    have HB2 := Lib.hid (HB1.out.bels hb2 hB)
    have HO2 := Lib.hid (HO1.out.bel hb2)
    have hs2 := hb2.size
    have c0 := HB2.out.c0
    have c1 := HB2.out.c1
    have HPS := Lib.hid hps
    obtain ⟨Ap, cp, rfl, hcp, hpl⟩ := hps.slice
    clear hps hb2
    have G := Good.of_valid HV.out
    have h6 := G.h6
    have hpos := G.pos
    have HG := Lib.hid G
    clear G
    obtain ⟨pts, hpts⟩ : ∃ pts, pts = ptsP l := ⟨_, rfl⟩
    rw [← hpts] at HRES HPS hcp hpl hpos HG
    have HPTS := Lib.hid hpts
    rw [← hpts]
    clear hpts
    go_wp2_with fail
    refine (l3Live_any _ _ ts l B _ HB2.out.ht HB2.out.hl (by omega) HV.out).mono ?_
    rintro e w3 ⟨v, rb, rows, base, rfl, hbase, hbr, hrl, hrows, hlive, hb3⟩
    rw [← HPTS.out] at hlive hrl
    have HB3 := Lib.hid (HB2.out.bels hb3 hB)
    have HO3 := Lib.hid (HO2.out.bel hb3)
    have HPS3 := Lib.hid (HPS.out.low hb3 (Nat.le_refl _))
    have hs3 := hb3.size
    have c0 := HB3.out.c0
    obtain ⟨g, c, rfl, hg1, hg2, hrc, hcell, -⟩ := hbr.form (by omega)
    have hc0 := hcell 0 (by omega)
    have hrow := hbr.row 0 (by omega)
    have hl0 := hrows 0 (by omega)
    have HR0 := Lib.hid hrow.1
    have hr0lt := hrow.1.lt
    obtain ⟨r0, hr0⟩ : ∃ r0, r0 = rb.getD 0 0 := ⟨_, rfl⟩
    rw [← hr0] at hc0 HR0 hr0lt
    obtain ⟨bp, op, cp', nv, e, hbp, hcp', hlp, hnx, p0, p1, p2, p3, p4⟩ := HPS3.out.get hpos
    injection e with e1 _ e2
    subst e1 e2
    obtain ⟨An, cn, rfl, hcn, hln, -⟩ := hnx
    simp only [List.length_map] at hcn hln p4
    simp only [Nat.zero_mul, Nat.add_zero] at p0 p1 p2 p3 p4
    have HLV := Lib.hid hlive
    have hrp : 0 < rows.length := by omega
    clear hcell hrow hrows hlive hbr hb3 hrl hr0
    have HOS := Lib.hid (OutI.start HO3.out (by omega))
    have HV0 := Lib.hid (fun v (hv : v < ts.length) => need_rows HLV.out (List.getElem?_eq_getElem hpos) hv)
    generalize hp0 : pts[0] = P0 at *
    go_wp2_with fail
    go_loopw [3, 6] (fun v i wr => ∃ (k : Nat) (o : List Int), k ≤ ts.length ∧ i = .int .i64 k ∧ o = lst k (fun v => dec (Nd ts pts 0 v)) ∧ OutI w3 wr w.heap.size v o) (fun _ i _ => ts.length - (intOf i).toNat)
    case atStart => exact ⟨0, [], by omega, rfl, rfl, HOS.out⟩
    case round =>
      obtain ⟨k, o, hk, rfl, ho, hO⟩ := hrel
      have HO := Lib.hid hO
      have HOL := Lib.hid ho
      have hol : o.length ≤ k := by rw [ho]; exact lst_len _ _
      have hK := hO.kp
      have hsr := hK.2
      have d0 := hK.1 _ _ _ c0
      obtain ⟨A', c', rfl, hc'⟩ := hO.lenc
      have d1 := hK.1 _ _ _ p0
      have d2 := hK.1 _ _ _ p1
      have d3 := hK.1 _ _ _ p2
      have d4 := hK.1 _ _ _ p3
      have d5 := hK.1 _ _ _ p4
      have d6 := hK.1 _ _ _ hc0
      clear hO ho hK
      by_cases hlt : k < ts.length
      · have hrk : w3.cell? ⟨r0, k, none⟩ = some (.bool (rget rows 0 k)) := by rw [HR0.out.cell, bv_get (by omega)]; rfl
        have d7 := HO.out.kp.1 _ _ _ hrk
        have hbpr : bp < wr.heap.size := by omega
        have hgr : g < wr.heap.size := by omega
        have hr0r : r0 < wr.heap.size := by omega
        have hwr : w.heap.size < wr.heap.size := by omega
        have HND0 := Lib.hid (HV0.out k hlt)
        obtain ⟨bnu, hbnu⟩ : ∃ bnu, bnu = rget rows 0 k := ⟨_, rfl⟩
        rw [← hbnu] at d7 HND0
        have HSZ := Lib.hid (show w3.heap.size ≤ wr.heap.size from hsr)
        have HT9 := Lib.hid (HB3.out.ht.imp HO.out.kp)
        have HCU : Hid (∀ w', Below wr.heap.size wr w' → Calls Try.prog 49 #[.slice At ts.length ct, .agg #[.int .i64 P0.op, .int .i64 P0.x, .int .i64 P0.y, .int .i64 P0.n, .slice An P0.next.length cn], .int .i64 (k : Nat)] w' fun e w'' => e = .returned (.int .i64 (useP ts P0.op P0.x P0.y (k : Nat))) ∧ Below wr.heap.size wr w'') :=
          Lib.hid fun w' h => (l3Use_any _ ts B _ _ _ _ _ _ _ (HT9.out.low h (by omega)) (by have := h.size; omega) (by omega) (by omega)).mono fun e w'' ⟨he, hb⟩ => ⟨he, h.trans (hb.mono h.size)⟩
        have HCS : Hid (∀ w', Below wr.heap.size wr w' → Calls Try.prog 59 #[.agg #[.int .i64 P0.op, .int .i64 P0.x, .int .i64 P0.y, .int .i64 P0.n, .slice An P0.next.length cn]] w' fun e w'' => e = .returned (.int .i64 (setsP P0.op P0.x)) ∧ Below wr.heap.size wr w'') :=
          Lib.hid fun w' h => (l3Set_any _ _ _ _ _ w').mono fun e w'' ⟨he, hb⟩ => ⟨he, h.trans (hb.mono h.size)⟩
        clear hrk hbnu hsr c0 p0 p1 p2 p3 p4 hc0
        go_wp2_with fail
        cases hu : (useP ts P0.op P0.x P0.y (k : Nat) != 0)
        · cases bnu
          · have HND : Hid (dec (Nd ts pts 0 k) = false) := Lib.hid (by rw [← HND0.out]; unfold needB; rw [hu]; rfl)
            refine wp_region_seq (Below wr.heap.size wr) (by kernel_rfl) (by kernel_rfl) (Below.refl _ _).drew ?_
            repeat (first
              | (refine SeqS.skip (by rfl) ?_; (try simp only [Act.put, List.setIfInBounds_toArray, List.set_cons_zero, List.set_cons_succ]))
              | (refine SeqS.pure (v := ?_) (by rfl) (fun w' hSw => ?_) ?_; rotate_left; (obtain ⟨hc9, hf9⟩ := bcell hSw; go_simp; with_reducible rfl); (try simp only [Act.put, List.setIfInBounds_toArray, List.set_cons_zero, List.set_cons_succ]))
              | (refine SeqS.call (f := ?_) (args := ?_) (v := ?_) (by rfl) (fun w' => ?_) (fun w' hSw => ?_) ?_; rotate_left 3; (go_simp; constructor; (with_reducible rfl); (with_reducible rfl)); (first | exact HCU.out _ hSw | exact HCS.out _ hSw | fail); (try simp only [Act.put, List.setIfInBounds_toArray, List.set_cons_zero, List.set_cons_succ]))
              | fail)
            intro w2 hb2
            have HB2 := Lib.hid hb2
            have hs9 := hb2.size
            clear hb2
            have HO2 := Lib.hid (HO.out.belc HB2.out)
            go_wp2_with (at_builtin; fail)
            exact ⟨⟨k + 1, o, by omega, by go_num, by rw [HOL.out, lst_succ_false HND.out], HO2.out⟩, by simp [intOf] <;> omega⟩
          · cases hse : (setsP P0.op P0.x != (k : Nat))
            · have HND : Hid (dec (Nd ts pts 0 k) = false) := Lib.hid (by rw [← HND0.out]; unfold needB; rw [hu]; simp at hse; simp [hse])
              refine wp_region_seq (Below wr.heap.size wr) (by kernel_rfl) (by kernel_rfl) (Below.refl _ _).drew ?_
              repeat (first
                | (refine SeqS.skip (by rfl) ?_; (try simp only [Act.put, List.setIfInBounds_toArray, List.set_cons_zero, List.set_cons_succ]))
                | (refine SeqS.pure (v := ?_) (by rfl) (fun w' hSw => ?_) ?_; rotate_left; (obtain ⟨hc9, hf9⟩ := bcell hSw; go_simp; with_reducible rfl); (try simp only [Act.put, List.setIfInBounds_toArray, List.set_cons_zero, List.set_cons_succ]))
                | (refine SeqS.call (f := ?_) (args := ?_) (v := ?_) (by rfl) (fun w' => ?_) (fun w' hSw => ?_) ?_; rotate_left 3; (go_simp; constructor; (with_reducible rfl); (with_reducible rfl)); (first | exact HCU.out _ hSw | exact HCS.out _ hSw | fail); (try simp only [Act.put, List.setIfInBounds_toArray, List.set_cons_zero, List.set_cons_succ]))
                | fail)
              intro w2 hb2
              have HB2 := Lib.hid hb2
              have hs9 := hb2.size
              clear hb2
              have HO2 := Lib.hid (HO.out.belc HB2.out)
              go_wp2_with (at_builtin; fail)
              exact ⟨⟨k + 1, o, by omega, by go_num, by rw [HOL.out, lst_succ_false HND.out], HO2.out⟩, by simp [intOf] <;> omega⟩
            · have HND : Hid (dec (Nd ts pts 0 k) = true) := Lib.hid (by rw [← HND0.out]; unfold needB; rw [hu]; simp at hse; simp [hse])
              refine wp_region_seq (Below wr.heap.size wr) (by kernel_rfl) (by kernel_rfl) (Below.refl _ _).drew ?_
              repeat (first
                | (refine SeqS.skip (by rfl) ?_; (try simp only [Act.put, List.setIfInBounds_toArray, List.set_cons_zero, List.set_cons_succ]))
                | (refine SeqS.pure (v := ?_) (by rfl) (fun w' hSw => ?_) ?_; rotate_left; (obtain ⟨hc9, hf9⟩ := bcell hSw; go_simp; with_reducible rfl); (try simp only [Act.put, List.setIfInBounds_toArray, List.set_cons_zero, List.set_cons_succ]))
                | (refine SeqS.call (f := ?_) (args := ?_) (v := ?_) (by rfl) (fun w' => ?_) (fun w' hSw => ?_) ?_; rotate_left 3; (go_simp; constructor; (with_reducible rfl); (with_reducible rfl)); (first | exact HCU.out _ hSw | exact HCS.out _ hSw | fail); (try simp only [Act.put, List.setIfInBounds_toArray, List.set_cons_zero, List.set_cons_succ]))
                | fail)
              intro w2 hb2
              have HB2 := Lib.hid hb2
              have hs9 := hb2.size
              clear hb2
              have HO2 := Lib.hid (HO.out.belc HB2.out)
              go_wp2_with (at_builtin; go_must (refine wpList_push_outI rfl (.tmp 47) (.tmp 49) rfl HO2.out (by omega) _ rfl rfl ?_); intro v' w' hP')
              exact ⟨⟨k + 1, _, by omega, by go_num, by rw [HOL.out, lst_succ_true HND.out], hP'⟩, by simp [intOf] <;> omega⟩
        · have HND : Hid (dec (Nd ts pts 0 k) = true) := Lib.hid (by rw [← HND0.out]; unfold needB; rw [hu]; rfl)
          refine wp_region_seq (Below wr.heap.size wr) (by kernel_rfl) (by kernel_rfl) (Below.refl _ _).drew ?_
          repeat (first
            | (refine SeqS.skip (by rfl) ?_; (try simp only [Act.put, List.setIfInBounds_toArray, List.set_cons_zero, List.set_cons_succ]))
            | (refine SeqS.pure (v := ?_) (by rfl) (fun w' hSw => ?_) ?_; rotate_left; (obtain ⟨hc9, hf9⟩ := bcell hSw; go_simp; with_reducible rfl); (try simp only [Act.put, List.setIfInBounds_toArray, List.set_cons_zero, List.set_cons_succ]))
            | (refine SeqS.call (f := ?_) (args := ?_) (v := ?_) (by rfl) (fun w' => ?_) (fun w' hSw => ?_) ?_; rotate_left 3; (go_simp; constructor; (with_reducible rfl); (with_reducible rfl)); (first | exact HCU.out _ hSw | exact HCS.out _ hSw | fail); (try simp only [Act.put, List.setIfInBounds_toArray, List.set_cons_zero, List.set_cons_succ]))
            | fail)
          intro w2 hb2
          have HB2 := Lib.hid hb2
          have hs9 := hb2.size
          clear hb2
          have HO2 := Lib.hid (HO.out.belc HB2.out)
          go_wp2_with (at_builtin; go_must (refine wpList_push_outI rfl (.tmp 47) (.tmp 49) rfl HO2.out (by omega) _ rfl rfl ?_); intro v' w' hP')
          exact ⟨⟨k + 1, _, by omega, by go_num, by rw [HOL.out, lst_succ_true HND.out], hP'⟩, by simp [intOf] <;> omega⟩
      · have hke : k = ts.length := by omega
        go_wp2_with (at_builtin; fail)
        go_ret
        refine ⟨_, rfl, ?_, HB3.out.bel.trans HO.out.bel⟩
        rw [HRES.out, ← hke, ← HOL.out]
        exact HO.out.toS (by omega)

end Go.Proofs.Ytgmipapdcihdpaa
