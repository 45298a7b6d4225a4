import Derived.Test.YtidlifijgooceaaK28
import Derived.Test.YtidlifijgooceaaK23
import Derived.Lib.SliceRun
set_option linter.unusedVariables false

/- impl.ownStmts, impl.Program.own: the copy is a tree of different rows. -/
namespace Go.Proofs.Ytidlifijgooceaa
open Go.RowKit

def CpdRet (w : World) (l : List St) (e : Ending) (w' : World) : Prop := ∃ v', e = .returned v' ∧ DT w' (rg w.heap.size w'.heap.size) v' l ∧ Below w.heap.size w w'
/-- a copied program: its own ints, and a tree of different rows behind them -/
def CpDRet (w : World) (ts : List Int) (l : List St) (e : Ending) (w' : World) : Prop :=
  ∃ vt vb lo, e = .returned (.agg #[vt, vb]) ∧ OInts w' w.heap.size vt ts ∧ (∀ g, vt.ownBlock = some g → g < lo) ∧ w.heap.size ≤ lo ∧ DT w' (rg lo w'.heap.size) vb l ∧ Below w.heap.size w w'
def OwnDk (m : Nat) : Prop := ∀ (v : Value) (l : List St) (B : Nat) (w : World), szL l ≤ m → StS w B v l → B ≤ w.heap.size → Calls Try.prog 60 #[v] w (CpdRet w l)
set_option maxHeartbeats 4000000 in
set_option maxRecDepth 100000 in
theorem ownd_of (m : Nat) (hM : m ≤ 4194000) (ih : ∀ j, j < m → OwnDk j) : OwnDk m := by
  intro v l B w hm hl hB
  have hll := len_le_szL l
  obtain ⟨A, c, rfl, hc⟩ := hl.slice
  have IH := Lib.hid ih
  clear ih
  have HO0 : Hid (DT w (rg w.heap.size w.heap.size) (.slice none 0 0) []) := Lib.hid (.nil _)
  go_enter Try.func60, Try.ntmps60
  go_wp2_with fail
  go_loopw [3, 8] (fun v i wr => ∃ (k : Nat), k ≤ l.length ∧ i = .int .i64 k ∧ (DT wr (rg w.heap.size wr.heap.size) v (l.take k) ∧ Below w.heap.size w wr)) (fun _ i _ => l.length - (intOf i).toNat)
  case atStart => exact ⟨0, Nat.zero_le _, rfl, HO0.out, Below.refl _ _⟩
  case round =>
    obtain ⟨k, hk, rfl, hos, hbw⟩ := hrel
    have hlk : (l.take k).length ≤ k := List.length_take_le _ _
    have HTA := Lib.hid (fun h : k = l.length => take_all h)
    have HTS := Lib.hid (fun h : k < l.length => take_succ_get l k h)
    generalize l.take k = lk at *
    obtain ⟨Ao, co, rfl, hco⟩ := hos.slice
    have HOS := Lib.hid hos
    have HBW := Lib.hid hbw
    have hsr := hbw.size
    clear hos
    by_cases hlt : k < l.length
    · have hl2 := hl.low hbw hB
      have hsz := szL_mem hlt
      rw [l[k].sz_eq] at hsz
      obtain ⟨b, off, tv, ev, rfl, hb, hth, hel, c0, c1, c2, c3, c4, c5⟩ := hl2.get hlt
      have hbr : b < wr.heap.size := by omega
      obtain ⟨A4, n4, rfl, -⟩ := hth.slice
      obtain ⟨A5, n5, rfl, -⟩ := hel.slice
      have HTH := Lib.hid hth
      have HEL := Lib.hid hel
      have HTS2 := Lib.hid (HTS.out hlt)
      have HETA : Hid (l[k] = .mk l[k].op l[k].x l[k].y l[k].n l[k].th l[k].el) := Lib.hid (St.eta _)
      have HLT := Lib.hid hlt
      generalize l[k]'hlt = s at *
      have HX5 := Lib.hid (RowB.new wr [.int .i64 s.op, .int .i64 s.x, .int .i64 s.y, .int .i64 s.n, .slice A4 s.th.length n4, .slice A5 s.el.length n5] 87)
      have HB5 := Lib.hid (bel_a wr (.cells #[.int .i64 s.op, .int .i64 s.x, .int .i64 s.y, .int .i64 s.n, .slice A4 s.th.length n4, .slice A5 s.el.length n5] 87))
      clear hbw hl2 hth hel
      go_wp2_with fail
      clear c0 c1 c2 c3 c4 c5
      generalize wr.alloc (.cells #[.int .i64 s.op, .int .i64 s.x, .int .i64 s.y, .int .i64 s.n, .slice A4 s.th.length n4, .slice A5 s.el.length n5] 87) = w5 at *
      have u4 : w5.cell? ⟨wr.heap.size, 4, none⟩ = some (.slice A4 s.th.length n4) := HX5.out.cell 4
      have u5 : w5.cell? ⟨wr.heap.size, 5, none⟩ = some (.slice A5 s.el.length n5) := HX5.out.cell 5
      have hlx := HX5.out.lt
      have IH4 := Lib.hid (IH.out (szL s.th) (by omega) (.slice A4 s.th.length n4) s.th B w5.drew (Nat.le_refl _) ((HTH.out.low HB5.out (by omega)).keep fun _ _ _ => rfl) (by have := HB5.out.size; show B ≤ w5.heap.size; omega))
      have IH5 := Lib.hid (fun (wz : World) (hz : Below w5.heap.size w5 wz) => IH.out (szL s.el) (by omega) (.slice A5 s.el.length n5) s.el B wz (Nat.le_refl _) ((HEL.out.low HB5.out (by omega)).low hz (by have := HB5.out.size; omega)) (by have := HB5.out.size; have := hz.size; omega))
      have tok1 : True := trivial
      go_region_law (first
        | (have _t := tok1; go_simp; go_at_call 60; refine IH4.out.mono ?_; rintro e w6 ⟨v6, rfl, ho6, hb6⟩; clear tok1 _t; (obtain ⟨A6, n6, rfl, hn6⟩ := ho6.slice); (have HO6 := Lib.hid ho6); (have HB6 := Lib.hid (show Below w5.heap.size w5 w6 from (Below.refl w5.heap.size w5).drew.trans hb6)); (have x4 := (HB6.out.cell (p := ⟨wr.heap.size, 4, none⟩) hlx).trans u4); (have x5 := (HB6.out.cell (p := ⟨wr.heap.size, 5, none⟩) hlx).trans u5); (have hs6 := HB6.out.size); clear ho6 hb6; (have tok2 : True := trivial))
        | (have _t := tok2; go_simp; go_at_call 60; refine (IH5.out _ HB6.out).mono ?_; rintro e w7 ⟨v7, rfl, ho7, hb7⟩; clear tok2 _t; (obtain ⟨A7, n7, rfl, hn7⟩ := ho7.slice); (have HO7 := Lib.hid ho7); (have HB7 := Lib.hid hb7); (have hr7 := row_below (row_below HX5.out HB6.out) hb7); (have y0 : w7.cell? ⟨wr.heap.size, 0, none⟩ = some (.int .i64 s.op) := by (rw [cell_of_row _ _ _ _ _ _ hr7]; rfl)); (have y1 : w7.cell? ⟨wr.heap.size, 1, none⟩ = some (.int .i64 s.x) := by (rw [cell_of_row _ _ _ _ _ _ hr7]; rfl)); (have y2 : w7.cell? ⟨wr.heap.size, 2, none⟩ = some (.int .i64 s.y) := by (rw [cell_of_row _ _ _ _ _ _ hr7]; rfl)); (have y3 : w7.cell? ⟨wr.heap.size, 3, none⟩ = some (.int .i64 s.n) := by (rw [cell_of_row _ _ _ _ _ _ hr7]; rfl)); (have y4 : w7.cell? ⟨wr.heap.size, 4, none⟩ = some (.slice A4 s.th.length n4) := by (rw [cell_of_row _ _ _ _ _ _ hr7]; rfl)); (have y5 : w7.cell? ⟨wr.heap.size, 5, none⟩ = some (.slice A5 s.el.length n5) := by (rw [cell_of_row _ _ _ _ _ _ hr7]; rfl)); (have yf4 := frozen_of_row w7 wr.heap.size 4 _ _ hr7); (have yf5 := frozen_of_row w7 wr.heap.size 5 _ _ hr7); clear ho7 hb7 hr7)
        | fail)
      all_goals
        have hs7 := HB7.out.size
        have hsb := HB5.out.size
        have HP := Lib.hid (HOS.out.frame (w' := (w7.setCell ⟨wr.heap.size, 4, none⟩ (.slice A6 s.th.length n6)).setCell ⟨wr.heap.size, 5, none⟩ (.slice A7 s.el.length n7)) fun b hb hl => by
          have hb2 := hb.2
          rw [heap_setCell_other _ ⟨wr.heap.size, 5, none⟩ b _ (by show b ≠ wr.heap.size; omega), heap_setCell_other _ ⟨wr.heap.size, 4, none⟩ b _ (by show b ≠ wr.heap.size; omega)]
          exact ((HB7.out.block b (by omega)).trans (HB6.out.block b (by omega))).trans (HB5.out.block b hl))
        have HTX := Lib.hid (DT.mono (Q := rg wr.heap.size w6.heap.size) (HO6.out.frame (w' := (w7.setCell ⟨wr.heap.size, 4, none⟩ (.slice A6 s.th.length n6)).setCell ⟨wr.heap.size, 5, none⟩ (.slice A7 s.el.length n7)) fun b hb hl => by
          have hb1 : w5.heap.size ≤ b := hb.1
          have hb2 := hb.2
          rw [heap_setCell_other _ ⟨wr.heap.size, 5, none⟩ b _ (by show b ≠ wr.heap.size; omega), heap_setCell_other _ ⟨wr.heap.size, 4, none⟩ b _ (by show b ≠ wr.heap.size; omega)]
          exact HB7.out.block b hb2) fun b hb => ⟨by have hb1 : w5.heap.size ≤ b := hb.1; omega, hb.2⟩)
        have HEX := Lib.hid (HO7.out.frame (w' := (w7.setCell ⟨wr.heap.size, 4, none⟩ (.slice A6 s.th.length n6)).setCell ⟨wr.heap.size, 5, none⟩ (.slice A7 s.el.length n7)) fun b hb hl => by
          have hb1 := hb.1
          rw [heap_setCell_other _ ⟨wr.heap.size, 5, none⟩ b _ (by show b ≠ wr.heap.size; omega), heap_setCell_other _ ⟨wr.heap.size, 4, none⟩ b _ (by show b ≠ wr.heap.size; omega)])
        have hsX : ((w7.setCell ⟨wr.heap.size, 4, none⟩ (.slice A6 s.th.length n6)).setCell ⟨wr.heap.size, 5, none⟩ (.slice A7 s.el.length n7)).heap.size = w7.heap.size := by simp
        rw [← hsX] at HEX
        have HBX : Hid (Below w.heap.size w ((w7.setCell ⟨wr.heap.size, 4, none⟩ (.slice A6 s.th.length n6)).setCell ⟨wr.heap.size, 5, none⟩ (.slice A7 s.el.length n7))) := Lib.hid (((HBW.out.trans (((HB5.out.trans (HB6.out.mono hsb)).trans (HB7.out.mono (by omega))).mono hsr)).setCell (p := ⟨wr.heap.size, 4, none⟩) hsr _).setCell (p := ⟨wr.heap.size, 5, none⟩) hsr _)
        have hpw : w6.heap.size ≤ ((w7.setCell ⟨wr.heap.size, 4, none⟩ (.slice A6 s.th.length n6)).setCell ⟨wr.heap.size, 5, none⟩ (.slice A7 s.el.length n7)).heap.size := by omega
        have hwp : wr.heap.size ≤ w6.heap.size := by omega
        have HSX := Lib.hid hsX
        clear hsX
        go_wp2_with (at_builtin; go_must (refine wpList_push_dt rfl (.tmp 20) (.tmp 22) rfl HP.out hsr hwp hpw (by omega) _ _ _ _ _ _ s.th s.el HTX.out HEX.out rfl (by simp; rfl) ?_); intro v' w' hP' hE')
        have hlt := HLT.out
        refine ⟨⟨k + 1, by omega, by go_num, ?_, HBX.out.trans (((bel_a _ _).mono (by have := HSX.out; omega)).trans hE')⟩, by simp [intOf] <;> omega⟩
        rw [HTS2.out, HETA.out]
        exact hP'
    · have hkl : k = l.length := by omega
      have HKL := Lib.hid hkl
      clear hkl
      go_wp2_with fail
      go_ret
      refine ⟨_, rfl, ?_, HBW.out⟩
      have := HOS.out
      rw [HTA.out HKL.out] at this
      rw [HTA.out HKL.out]
      exact this
theorem ownd_any (m : Nat) (hM : m ≤ 4194000) : OwnDk m := by
  induction m using Nat.strongRecOn with
  | _ m ih => exact ownd_of m hM fun j hj => ih j hj (by omega)
set_option maxHeartbeats 4000000 in
set_option maxRecDepth 100000 in
theorem powndt_any (vt vb : Value) (ts : List Int) (l : List St) (B : Nat) (w : World) (ht : IntS w B vt ts) (hl : StS w B vb l) (hB : B ≤ w.heap.size) (hts : ts.length ≤ 4000000) (hsz : szL l ≤ 4194000) :
    Calls Try.prog 50 #[.agg #[vt, vb]] w (CpDRet w ts l) := by
  have ht0 := ht
  have hl0 := hl
  obtain ⟨At, ct, rfl, -⟩ := ht0
  obtain ⟨Ab, cb, rfl, -⟩ := hl0.slice
  have hA := bel_a w (.cells #[.slice At ts.length ct, .slice Ab l.length cb] 26)
  have hB2 := bel_a (w.alloc (.cells #[.slice At ts.length ct, .slice Ab l.length cb] 26)) (.cells #[.slice none 0 0, .slice none 0 0] 26)
  have hAB := hA.trans (hB2.mono hA.size)
  have hr0 := row_below (heap_alloc_new w (.cells #[.slice At ts.length ct, .slice Ab l.length cb] 26)) hB2
  have hr1 := heap_alloc_new (w.alloc (.cells #[.slice At ts.length ct, .slice Ab l.length cb] 26)) (.cells #[.slice none 0 0, .slice none 0 0] 26)
  have hsz1 : (w.alloc (.cells #[.slice At ts.length ct, .slice Ab l.length cb] 26)).heap.size = w.heap.size + 1 := by simp
  rw [hsz1] at hr1
  have hsW : ((w.alloc (.cells #[.slice At ts.length ct, .slice Ab l.length cb] 26)).alloc (.cells #[.slice none 0 0, .slice none 0 0] 26)).heap.size = w.heap.size + 2 := by simp
  have HSW := Lib.hid hsW
  have HR0 := Lib.hid hr0
  have HR1 := Lib.hid hr1
  have HAB := Lib.hid hAB
  have HT := Lib.hid (ht.low hAB hB)
  have HL := Lib.hid (hl.low hAB hB)
  clear hA hB2 hAB hr0 hr1 hsz1 hsW ht hl
  go_enter Try.func50, Try.ntmps50
  go_wp2_with fail
  generalize (w.alloc (.cells #[.slice At ts.length ct, .slice Ab l.length cb] 26)).alloc (.cells #[.slice none 0 0, .slice none 0 0] 26) = W at *
  have q0 : W.cell? ⟨w.heap.size, 0, none⟩ = some (.slice At ts.length ct) := by rw [cell_of_row _ _ _ _ _ _ HR0.out]; rfl
  have q1 : W.cell? ⟨w.heap.size, 1, none⟩ = some (.slice Ab l.length cb) := by rw [cell_of_row _ _ _ _ _ _ HR0.out]; rfl
  have hws := HSW.out
  have hwl : w.heap.size < W.heap.size := by omega
  have hwl1 : w.heap.size + 1 < W.heap.size := by omega
  have hBW : B ≤ W.heap.size := by omega
  clear hws
  have C3 := Lib.hid (clone_any (.slice At ts.length ct) ts B W.drew HT.out hBW hts)
  have C4 := Lib.hid (fun (wz : World) (hz : Below W.heap.size W wz) => ownd_any (szL l) hsz (.slice Ab l.length cb) l B wz (Nat.le_refl _) (HL.out.low hz hBW) (by have := hz.size; omega))
  have tok1 : True := trivial
  go_region_law (first
    | (have _t := tok1; go_simp; go_at_call 104; refine C3.out.mono ?_; rintro e w3 ⟨v3, rfl, ho3, hb3⟩; clear tok1 _t; (obtain ⟨A3, n3, rfl, hn3⟩ := ho3.slice); (have HO3 := Lib.hid (show OInts w3 W.heap.size (.slice A3 ts.length n3) ts from ho3)); (have HB3 := Lib.hid (show Below W.heap.size W w3 from (Below.refl W.heap.size W).drew.trans hb3)); (have x1 := (HB3.out.cell (p := ⟨w.heap.size, 1, none⟩) hwl).trans q1); (have hs3 := HB3.out.size); clear ho3 hb3; (have tok2 : True := trivial))
    | (have _t := tok2; go_simp; go_at_call 60; refine (C4.out _ HB3.out).mono ?_; rintro e w4 ⟨v4, rfl, ho4, hb4⟩; clear tok2 _t; (obtain ⟨A4, n4, rfl, hn4⟩ := ho4.slice); (have HO4 := Lib.hid ho4); (have HB4 := Lib.hid hb4); (have hr4 := row_below (row_below HR1.out HB3.out) hb4); (have HR4 := Lib.hid hr4); (have z0 : w4.cell? ⟨w.heap.size + 1, 0, none⟩ = some (.slice none 0 0) := by (rw [cell_of_row _ _ _ _ _ _ hr4]; rfl)); (have z1 : w4.cell? ⟨w.heap.size + 1, 1, none⟩ = some (.slice none 0 0) := by (rw [cell_of_row _ _ _ _ _ _ hr4]; rfl)); (have zf0 := frozen_of_row w4 (w.heap.size + 1) 0 _ _ hr4); (have zf1 := frozen_of_row w4 (w.heap.size + 1) 1 _ _ hr4); clear ho4 hb4 hr4)
    | fail)
  all_goals
    go_wp2_with fail
    refine bodyPost_ret (results_cell_row rfl _ _ (w.heap.size + 1) 26 _ (0, 0) _ rfl (box2 HR4.out _ _).1 Try.underlying26 rfl rfl) rfl ?_
    have hs4 := HB4.out.size
    have hws := HSW.out
    have hG := (box2 HR4.out (.slice A3 ts.length n3) (.slice A4 l.length n4)).2
    have hs3 := HB3.out.size
    have hsz := hG.size
    refine ⟨_, _, w3.heap.size, rfl, HO3.out.move (by omega) fun b h1 h2 => (hG.block b (by omega) fun e => by injection e with e; omega).trans (HB4.out.block b h2), fun g e => (HO3.out.own_lt e).2, by omega, ?_, ?_⟩
    · refine (HO4.out.frame fun b hb hl => hG.block b hl fun e => ?_).mono fun b hb => ⟨hb.1, Nat.lt_of_lt_of_le hb.2 hsz⟩
      have h1 : w3.heap.size ≤ b := hb.1
      injection e with e
      omega
    · exact (HAB.out.trans ((HB3.out.trans (HB4.out.mono hs3)).mono (by omega))).trans ⟨hG.os, hG.tape, hG.output, hsz, fun k hk => hG.block k (by omega) fun e => by injection e with e; omega⟩

end Go.Proofs.Ytidlifijgooceaa

/- A statement deleted: slices.Delete, impl.Program.dropped, impl.DropStmt. -/
namespace Go.Proofs.Ytidlifijgooceaa
open Go.RowKit Go.Lib

theorem LvF.tail {w : World} {g cap : Nat} {cs : List Value} {l : List St} {tv ev : Nat → Value} (h : LvF w g cap cs l tv ev) (o : Nat) (vs : List Value) (ho : l.length * 6 ≤ o) (hv : o + vs.length ≤ cs.length) :
    ∃ cs', LvF (w.setCells g o vs) g cap cs' l tv ev := by
  obtain ⟨cs', hr, hl, hc⟩ := RowB.putL vs o w cs h.row hv
  have key : ∀ j, j < l.length * 6 → cs'[j]? = cs[j]? := fun j hj => by rw [hc, if_neg (by omega)]
  refine ⟨cs', hr, by rw [hl]; exact h.len, h.le, h.cm, fun i hi => ?_, fun i hi => ?_⟩
  · rw [key _ (by omega), key _ (by omega), key _ (by omega), key _ (by omega)]; exact h.ci i hi
  · rw [key _ (by omega), key _ (by omega)]; exact h.cv i hi
theorem LvF.erase {w : World} {g cap : Nat} {cs : List Value} {l : List St} {tv ev : Nat → Value} (h : LvF w g cap cs l tv ev) {k : Nat} (hk : k < l.length) :
    ∃ cs', LvF (w.setCells g (k * 6) ((cs.drop ((k + 1) * 6)).take ((l.length - (k + 1)) * 6))) g cap cs' (l.eraseIdx k) (fun i => if i < k then tv i else tv (i + 1)) (fun i => if i < k then ev i else ev (i + 1)) := by
  have hlen := h.len
  have hle := h.le
  have hn : ((cs.drop ((k + 1) * 6)).take ((l.length - (k + 1)) * 6)).length = (l.length - (k + 1)) * 6 := by rw [List.length_take, List.length_drop]; omega
  obtain ⟨cs', hr, hl, hc⟩ := RowB.putL _ (k * 6) w cs h.row (by rw [hn]; omega)
  have el : (l.eraseIdx k).length = l.length - 1 := List.length_eraseIdx_of_lt hk
  have k1 : ∀ j, j < k * 6 → cs'[j]? = cs[j]? := fun j hj => by rw [hc, if_neg (by omega)]
  have k2 : ∀ i d, k ≤ i → i < l.length - 1 → d < 6 → cs'[i * 6 + d]? = cs[(i + 1) * 6 + d]? := fun i d h1 h2 hd => by
    rw [hc, if_pos (by rw [hn]; omega), List.getElem?_take, if_pos (by omega), List.getElem?_drop]
    congr 1
    omega
  refine ⟨cs', hr, by rw [hl]; exact hlen, by rw [el]; omega, h.cm, fun i hi => ?_, fun i hi => ?_⟩
  · rw [el] at hi
    by_cases hik : i < k
    · rw [k1 _ (by omega), k1 _ (by omega), k1 _ (by omega), k1 _ (by omega)]
      have e : (l.eraseIdx k)[i]'(by rw [el]; exact hi) = l[i] := by rw [List.getElem_eraseIdx]; simp [hik]
      rw [e]
      exact h.ci i (by omega)
    · have e : (l.eraseIdx k)[i]'(by rw [el]; exact hi) = l[i + 1] := by rw [List.getElem_eraseIdx]; simp [hik]
      have k0 := k2 i 0 (by omega) hi (by omega)
      rw [Nat.add_zero, Nat.add_zero] at k0
      rw [e, k0, k2 i 1 (by omega) hi (by omega), k2 i 2 (by omega) hi (by omega), k2 i 3 (by omega) hi (by omega)]
      exact h.ci (i + 1) (by omega)
  · rw [el] at hi
    by_cases hik : i < k
    · rw [k1 _ (by omega), k1 _ (by omega), if_pos hik, if_pos hik]
      exact h.cv i (by omega)
    · rw [k2 i 4 (by omega) hi (by omega), k2 i 5 (by omega) hi (by omega), if_neg hik, if_neg hik]
      exact h.cv (i + 1) (by omega)
theorem erase_get {l : List St} {k i : Nat} (hk : k < l.length) (hi : i < (l.eraseIdx k).length) : ∃ j, ∃ hj : j < l.length, (l.eraseIdx k)[i] = l[j] ∧ j = (if i < k then i else i + 1) := by
  have el : (l.eraseIdx k).length = l.length - 1 := List.length_eraseIdx_of_lt hk
  refine ⟨if i < k then i else i + 1, by split <;> omega, ?_, rfl⟩
  rw [List.getElem_eraseIdx]
  split
  · simp
  · simp
theorem szL_erase (l : List St) (k : Nat) : szL (l.eraseIdx k) ≤ szL l := by
  rw [List.eraseIdx_eq_take_drop_succ, szL_append]
  have h := szL_append (l.take (k + 1)) (l.drop (k + 1))
  rw [List.take_append_drop] at h
  have h2 : szL (l.take k) ≤ szL (l.take (k + 1)) := by
    have := szL_append (l.take k) ((l.take (k + 1)).drop k)
    have e : l.take k ++ (l.take (k + 1)).drop k = l.take (k + 1) := by
      have := List.take_append_drop k (l.take (k + 1))
      rwa [List.take_take, Nat.min_eq_left (by omega)] at this
    rw [e] at this
    omega
  omega
/-- clear(s) of one statement -/
theorem run_clear_st (w : World) (ty : TypeId) (b o c : Nat) (hc : ∀ j, j < 6 → (w.cell? ⟨b, o + j, none⟩).isSome = true) (hf : ∀ j, j < 6 → w.frozen? ⟨b, o + j, none⟩ = false) :
    (Builtin.clear_ #[24] ty #[.slice (some ⟨b, o, none⟩) 1 c]).run Try.prog w = .ok (.tuple #[]) (w.setCells b o [.int .i64 0, .int .i64 0, .int .i64 0, .int .i64 0, .slice none 0 0, .slice none 0 0]) := by
  have hst := run_storeCells_cells (P := Try.prog) b o [.int .i64 0, .int .i64 0, .int .i64 0, .int .i64 0, .slice none 0 0, .slice none 0 0] 0 w (by simpa using hc) (by simpa using hf) (by intro v hv'; simp at hv'; rcases hv' with rfl | rfl | rfl | rfl | rfl | rfl <;> rfl)
  simp only [Nat.add_zero] at hst
  have hz : (Builtin.zeroCells #[.int .i64 0, .int .i64 0, .int .i64 0, .int .i64 0, .slice none 0 0, .slice none 0 0] 1).toList = [.int .i64 0, .int .i64 0, .int .i64 0, .int .i64 0, .slice none 0 0, .slice none 0 0] := by kernel_rfl
  simp [Builtin.clear_, run_underlying Try.underlying24, Value.cells, hz, hst]
theorem DT.erased {w w2 : World} {P : Nat → Prop} {g cap : Nat} {cs : List Value} {l : List St} {tv ev : Nat → Value} {Pt Pe : Nat → Nat → Prop} {k : Nat} (hk : k < l.length) (hr : LvF w2 g cap cs (l.eraseIdx k) (fun i => if i < k then tv i else tv (i + 1)) (fun i => if i < k then ev i else ev (i + 1)))
    (hfr : ∀ b : Nat, b ≠ g → w2.heap[b]? = w.heap[b]?) (hg : P g) (ht : ∀ i (h : i < l.length), DT w (Pt i) (tv i) l[i].th) (he : ∀ i (h : i < l.length), DT w (Pe i) (ev i) l[i].el)
    (st : ∀ i b, i < l.length → (Pt i b ∨ Pe i b) → P b ∧ b ≠ g)
    (dj : ∀ i j b, i < l.length → j < l.length → (Pt i b → ¬ Pe j b) ∧ (i ≠ j → (Pt i b → ¬ Pt j b) ∧ (Pe i b → ¬ Pe j b))) : DT w2 P (.slice (some ⟨g, 0, none⟩) (l.eraseIdx k).length cap) (l.eraseIdx k) := by
  have el : (l.eraseIdx k).length = l.length - 1 := List.length_eraseIdx_of_lt hk
  refine .mk P g cap cs _ _ _ (fun i => if i < k then Pt i else Pt (i + 1)) (fun i => if i < k then Pe i else Pe (i + 1)) hg hr (fun i hi => ?_) (fun i hi => ?_) (fun i b hi hb => ?_) (fun i j b hi hj => ?_)
  · obtain ⟨j, hj, e, ej⟩ := erase_get hk hi
    rw [e]
    have h1 := (ht j hj).frame (w' := w2) fun b hb _ => hfr b (st j b hj (.inl hb)).2
    by_cases hik : i < k
    · rw [if_pos hik, if_pos hik]; rw [if_pos hik] at ej; subst ej; exact h1
    · rw [if_neg hik, if_neg hik]; rw [if_neg hik] at ej; subst ej; exact h1
  · obtain ⟨j, hj, e, ej⟩ := erase_get hk hi
    rw [e]
    have h1 := (he j hj).frame (w' := w2) fun b hb _ => hfr b (st j b hj (.inr hb)).2
    by_cases hik : i < k
    · rw [if_pos hik, if_pos hik]; rw [if_pos hik] at ej; subst ej; exact h1
    · rw [if_neg hik, if_neg hik]; rw [if_neg hik] at ej; subst ej; exact h1
  · rw [el] at hi
    by_cases hik : i < k
    · rw [if_pos hik, if_pos hik] at hb; exact st i b (by omega) hb
    · rw [if_neg hik, if_neg hik] at hb; exact st (i + 1) b (by omega) hb
  · rw [el] at hi hj
    by_cases hik : i < k <;> by_cases hjk : j < k
    · rw [if_pos hik, if_pos hjk, if_pos hjk, if_pos hik]; exact dj i j b (by omega) (by omega)
    · rw [if_pos hik, if_neg hjk, if_neg hjk, if_pos hik]
      have := dj i (j + 1) b (by omega) (by omega)
      exact ⟨this.1, fun _ => this.2 (by omega)⟩
    · rw [if_neg hik, if_pos hjk, if_pos hjk, if_neg hik]
      have := dj (i + 1) j b (by omega) (by omega)
      exact ⟨this.1, fun _ => this.2 (by omega)⟩
    · rw [if_neg hik, if_neg hjk, if_neg hjk, if_neg hik]
      have := dj (i + 1) (j + 1) b (by omega) (by omega)
      exact ⟨this.1, fun hne => this.2 (by omega)⟩
/-- what Delete answers -/
def DelRet (w : World) (P : Nat → Prop) (v : Value) (l : List St) (k : Nat) (e : Ending) (w' : World) : Prop :=
  ∃ v', e = .returned v' ∧ DT w' P v' (l.eraseIdx k) ∧ w.grownBy w' v.ownBlock ∧ w'.heap.size = w.heap.size
set_option maxHeartbeats 4000000 in
set_option maxRecDepth 100000 in
theorem delete_any (v : Value) (l : List St) (k : Nat) (P : Nat → Prop) (w : World) (h : DT w P v l) (hk : k < l.length) (hl : l.length ≤ 4194304) :
    Calls Try.prog 117 #[v, .int .i64 (k : Nat), .int .i64 ((k : Int) + 1)] w (DelRet w P v l k) := by
  obtain ⟨i0, hi0, hz0, hz1, hz2⟩ := info_parts Try.infoSt
  cases h with
  | nil => simp at hk
  | mk P g cap cs l tv ev Pt Pe hg hr ht he st dj =>
    have hlen := hr.len
    have hle := hr.le
    have hcm := hr.cm
    obtain ⟨n, hn⟩ : ∃ n, n = l.length := ⟨_, rfl⟩
    obtain ⟨news, hnews⟩ : ∃ news, news = (cs.drop ((k + 1) * 6)).take ((l.length - (k + 1)) * 6) := ⟨_, rfl⟩
    have hnl : news.length = (n - (k + 1)) * 6 := by rw [hnews, List.length_take, List.length_drop]; omega
    obtain ⟨cs1, hr1⟩ := (hr.keep (w' := w.drew) rfl).erase hk
    rw [← hnews] at hr1
    have el : (l.eraseIdx k).length = n - 1 := by rw [List.length_eraseIdx_of_lt hk, hn]
    obtain ⟨cs2, hr2⟩ := hr1.tail ((n - 1) * 6) [.int .i64 0, .int .i64 0, .int .i64 0, .int .i64 0, .slice none 0 0, .slice none 0 0] (by rw [el]; exact Nat.le_refl _) (by have := hr1.len; simp; omega)
    have HR2 := Lib.hid hr2
    have HR1 := Lib.hid hr1
    have hng : ∀ j u, news[j]? = some u → (k + 1) * 6 + j < n * 6 ∧ cs[(k + 1) * 6 + j]? = some u := fun j u hu => by
      have hj : j < news.length := (List.getElem?_eq_some_iff.1 hu).1
      rw [hnl] at hj
      rw [hnews, List.getElem?_take, if_pos (by omega), List.getElem?_drop] at hu
      exact ⟨by omega, hu⟩
    have hcell : ∀ j, w.drew.cell? ⟨g, j, none⟩ = cs[j]? := fun j => hr.row.cell j
    have hfz : ∀ j, w.drew.frozen? ⟨g, j, none⟩ = false := fun j => hr.row.frozen j
    have S1 := Lib.hid hnl
    have S2 : Hid (∀ u ∈ news, u.oneCell' = true) := Lib.hid fun u hu => by
      obtain ⟨j, hj, e⟩ := List.getElem_of_mem hu
      obtain ⟨h1, h2⟩ := hng j u (by rw [List.getElem?_eq_getElem hj, e])
      obtain ⟨i, d, hi, hd⟩ : ∃ i d, (k + 1) * 6 + j = i * 6 + d ∧ d < 6 := ⟨((k + 1) * 6 + j) / 6, ((k + 1) * 6 + j) % 6, by omega, by omega⟩
      have hil : i < l.length := by omega
      rw [hi] at h2
      obtain ⟨i0', i1', i2', i3'⟩ := hr.ci i hil
      obtain ⟨i4', i5'⟩ := hr.cv i hil
      have hd' : d = 0 ∨ d = 1 ∨ d = 2 ∨ d = 3 ∨ d = 4 ∨ d = 5 := by omega
      rcases hd' with rfl | rfl | rfl | rfl | rfl | rfl
      · rw [Nat.add_zero, i0'] at h2; injection h2 with h2; subst h2; rfl
      · rw [i1'] at h2; injection h2 with h2; subst h2; rfl
      · rw [i2'] at h2; injection h2 with h2; subst h2; rfl
      · rw [i3'] at h2; injection h2 with h2; subst h2; rfl
      · rw [i4'] at h2; injection h2 with h2; subst h2; exact (ht i hil).one
      · rw [i5'] at h2; injection h2 with h2; subst h2; exact (he i hil).one
    have S3 : Hid (∀ j, j < news.length → (w.drew.cell? ⟨g, 0 + k * 6 + j, none⟩).isSome = true ∧ w.drew.frozen? ⟨g, 0 + k * 6 + j, none⟩ = false) := Lib.hid fun j hj => by
      rw [hnl] at hj
      exact ⟨by rw [hcell, List.getElem?_eq_getElem (by omega)]; rfl, hfz _⟩
    have S4 : Hid (∀ j u, news[j]? = some u → w.drew.cell? ((⟨g, (k + 1) * 6, none⟩ : Addr).add j) = some u) := Lib.hid fun j u hu => by
      have h2 := (hng j u hu).2
      rw [Addr.add_lit, hcell]
      exact h2
    have S5 : Hid (cap = k + 1 → ∀ j u, news[j]? = some u → w.drew.cell? ((⟨g, 0, none⟩ : Addr).add j) = some u) := Lib.hid fun hc j u hu => by
      have h2 := (hng j u hu).1
      omega
    obtain ⟨W1, hW1⟩ : ∃ W1, W1 = w.drew.setCells g (0 + k * 6) news := ⟨_, rfl⟩
    have HW1 := Lib.hid hW1
    rw [Nat.zero_add] at hW1
    rw [← hW1] at hr1 hr2
    have HG1 : Hid (∀ b : Nat, b ≠ g → W1.heap[b]? = w.heap[b]?) := Lib.hid fun b hb => by rw [hW1]; exact heap_putL hb _ _ _
    have HZ1 : Hid (W1.heap.size = w.heap.size) := Lib.hid (by rw [hW1]; exact size_putL _ _ _)
    have HO1 : Hid (W1.os = w.os ∧ W1.tape = w.tape ∧ W1.output = w.output) := Lib.hid (by
      have := below_putL (B := 0) (Nat.zero_le g) news (k * 6) w.drew
      rw [← hW1] at this
      exact ⟨this.os, this.tape, this.output⟩)
    have hc1 : ∀ j, j < 6 → (W1.cell? ⟨g, (n - 1) * 6 + j, none⟩).isSome = true := fun j hj => by
      have := hr1.len
      rw [hr1.row.cell, List.getElem?_eq_getElem (by omega)]; rfl
    have hcl : ∀ ty, (Builtin.clear_ #[24] ty #[.slice (some ⟨g, (n - 1) * 6, none⟩) 1 (cap - (n - 1))]).run Try.prog W1 = .ok (.tuple #[]) (W1.setCells g ((n - 1) * 6) [.int .i64 0, .int .i64 0, .int .i64 0, .int .i64 0, .slice none 0 0, .slice none 0 0]) :=
      fun ty => run_clear_st W1 ty g _ _ hc1 fun j _ => hr1.row.frozen _
    obtain ⟨W2, hW2⟩ : ∃ W2, W2 = W1.setCells g ((n - 1) * 6) [.int .i64 0, .int .i64 0, .int .i64 0, .int .i64 0, .slice none 0 0, .slice none 0 0] := ⟨_, rfl⟩
    have HF : Hid (DelRet w P (.slice (some ⟨g, 0, none⟩) l.length cap) l k (.returned (.slice (some ⟨g, 0, none⟩) (n - 1) cap)) W2) := Lib.hid (by
      have hb2 := below_putL (B := 0) (Nat.zero_le g) [.int .i64 0, .int .i64 0, .int .i64 0, .int .i64 0, .slice none 0 0, .slice none 0 0] ((n - 1) * 6) W1
      have hz2 := size_putL (g := g) [.int .i64 0, .int .i64 0, .int .i64 0, .int .i64 0, .slice none 0 0, .slice none 0 0] ((n - 1) * 6) W1
      have hf2 : ∀ b : Nat, b ≠ g → W2.heap[b]? = w.heap[b]? := fun b hb => by rw [hW2, heap_putL hb]; exact HG1.out b hb
      rw [← hW2] at hr2 hb2 hz2
      have hd := DT.erased hk hr2 hf2 hg ht he st dj
      rw [el] at hd
      have ho := HO1.out
      have hz1 := HZ1.out
      exact ⟨_, rfl, hd, ⟨hb2.os.trans ho.1, hb2.tape.trans ho.2.1, hb2.output.trans ho.2.2, by omega, fun b _ hne => hf2 b fun e => hne (by rw [e]; rfl)⟩, by omega⟩)
    have HW2 := Lib.hid hW2
    clear hc1 hcell hfz hng hW1 hW2 HG1 HZ1 HO1
    have HR := Lib.hid hr
    have HNW := Lib.hid hnews
    have HST := Lib.hid st
    have HDJ := Lib.hid dj
    have HT := Lib.hid ht
    have HE := Lib.hid he
    have hkn : k < n := by omega
    have hnc : n ≤ cap := by omega
    have hne : ((k : Int) == (k : Int) + 1) = false := by simp; omega
    have HCL := Lib.hid hnl
    have HEL := Lib.hid el
    have HN := Lib.hid hn
    rw [← hn]
    clear hr hr1 hr2 hnews ht he st dj hlen hle hnl el hk hn
    rw [maxLen_eq] at hcm
    go_enter Try.func117, Try.ntmps117
    go_upto_region 5 with (at_builtin; fail)
    have hkc : k ≤ cap := by omega
    have e1 : k + (n - (k + 1)) = n - 1 := by omega
    have e2 : n - (n - 1) = 1 := by omega
    have hkk : (k : Int) ≤ (k : Int) + 1 := by omega
    have hkn2 : 0 ≤ (k : Int) + 1 ∧ (k : Int) + 1 ≤ (n : Int) := by omega
    by_cases hck : cap = k + 1
    · have S6 := Lib.hid (S5.out hck)
      subst hck
      obtain rfl : n = k + 1 := by omega
      rw [show k + 1 - 1 = k by omega, show k + 1 - k = 1 by omega] at hcl
      have S1' : Hid (news.length = 0 * 6) := Lib.hid (by have := S1.out; omega)
      clear e1 e2
      go_region_law (refine step_append_room rfl (.tmp 22) (.tmp 25) 24 rfl 87 i0 6 Try.underlying24 hi0 hz1 g 0 k (k + 1) (by simp [Act.eval, Act.put]) ⟨g, 0, none⟩ 0 0 news (by simp [Act.eval, Act.put]) S1'.out S6.out S2.out (by omega) S3.out ?_; rw [← HW1.out])
      go_wp2_with (at_builtin; fail)
      go_ret
      have := HF.out
      rw [HW2.out] at this
      exact this
    · go_region_law (refine step_append_room rfl (.tmp 22) (.tmp 25) 24 rfl 87 i0 6 Try.underlying24 hi0 hz1 g 0 k cap (by simp [Act.eval, Act.put]) ⟨g, (k + 1) * 6, none⟩ (n - (k + 1)) (cap - (k + 1)) news (by simp [Act.eval, Act.put]) S1.out S4.out S2.out (by omega) S3.out ?_; rw [← HW1.out])
      go_wp2_with (at_builtin; fail)
      go_ret
      have := HF.out
      rw [HW2.out, ← HN.out] at this
      exact this

end Go.Proofs.Ytidlifijgooceaa

/- impl.Program.dropped, impl.Program.isStmt, impl.DropStmt. -/
namespace Go.Proofs.Ytidlifijgooceaa
open Go.RowKit

theorem DT.ownLt {w : World} {P : Nat → Prop} {v : Value} {l : List St} (h : DT w P v l) {g : Nat} (e : v.ownBlock = some g) : P g ∧ g < w.heap.size := by
  cases h with
  | nil => simp [Value.ownBlock] at e
  | mk P g' cap cs l tv ev Pt Pe hg hr ht he st dj =>
    have : g' = g := by simpa [Value.ownBlock] using e
    subst this
    exact ⟨hg, hr.row.lt⟩
theorem OInts.keepBlk {w w' : World} {base base' : Nat} {v : Value} {l : List Int} (h : OInts w base v l) (hb : base' ≤ base) (hk : ∀ g, v.ownBlock = some g → w'.heap[g]? = w.heap[g]?) : OInts w' base' v l := by
  refine ⟨h.1, ?_⟩
  rcases h.2 with h2 | ⟨g, cap, cur, e, hg, hh, h3⟩
  · exact .inl h2
  · exact .inr ⟨g, cap, cur, e, by omega, (hk g (by rw [e]; rfl)).trans hh, h3⟩
theorem OInts.ne {w : World} {base g : Nat} {v : Value} {l : List Int} {t : TypeId} {xs : List Value} (h : OInts w base v l) (hr : RowB w g t xs) (ht : t ≠ 3) : v.ownBlock ≠ some g := by
  rcases h.2 with ⟨e, h2⟩ | ⟨g', cap, cur, e, hg, hh, h3⟩
  · rw [e]; simp [Value.ownBlock]
  · rw [e]
    intro e2
    have : g' = g := by simpa [Value.ownBlock] using e2
    subst this
    unfold RowB at hr
    rw [hr] at hh
    injection hh with hh
    injection hh with _ hT
    exact ht hT
set_option maxHeartbeats 4000000 in
set_option maxRecDepth 100000 in
theorem dropped_any (vt vb : Value) (ts : List Int) (l : List St) (k B : Nat) (w : World) (ht : IntS w B vt ts) (hl : StS w B vb l) (hB : B ≤ w.heap.size) (hk : k < l.length) (hts : ts.length ≤ 4000000) (hsz : szL l ≤ 4194000) :
    Calls Try.prog 65 #[.agg #[vt, vb], .int .i64 (k : Nat)] w (CpDRet w ts (l.eraseIdx k)) := by
  have hll := len_le_szL l
  have ht0 := ht
  obtain ⟨At, ct, rfl, -⟩ := ht0
  obtain ⟨Ab, cb, rfl, -⟩ := hl.slice
  have HX := Lib.hid ((RowB.new w [.slice At ts.length ct, .slice Ab l.length cb] 26).alloc (.cells #[.slice none 0 0, .slice none 0 0] 26))
  have HR := Lib.hid (RowB.new (w.alloc (.cells #[.slice At ts.length ct, .slice Ab l.length cb] 26)) [.slice none 0 0, .slice none 0 0] 26)
  have hz1 : (w.alloc (.cells #[.slice At ts.length ct, .slice Ab l.length cb] 26)).heap.size = w.heap.size + 1 := by simp
  rw [hz1] at HR
  have HB0 := Lib.hid ((bel_a w (.cells #[.slice At ts.length ct, .slice Ab l.length cb] 26)).alloc (by simp) (.cells #[.slice none 0 0, .slice none 0 0] 26))
  have HT := Lib.hid ht
  have HL := Lib.hid hl
  clear hz1 ht hl
  go_enter Try.func65, Try.ntmps65
  go_upto_region 1 with (at_builtin; fail)
  generalize (w.alloc (.cells #[.slice At ts.length ct, .slice Ab l.length cb] 26)).alloc (.cells #[.slice none 0 0, .slice none 0 0] 26) = W at *
  have x0 := HX.out.cell 0
  have x1 := HX.out.cell 1
  simp only [List.getElem?_cons_zero, List.getElem?_cons_succ] at x0 x1
  have hs0 := HB0.out.size
  have hr0 := HR.out.lt
  go_wp2_with (at_builtin; fail)
  refine (powndt_any _ _ ts l B W (HT.out.low HB0.out hB) (HL.out.low HB0.out hB) (by omega) hts hsz).mono ?_
  rintro e w1 ⟨vt1, vb1, lo, rfl, hoi, hown, hlo, hdt, hb1⟩
  have HR := Lib.hid ((HR.out.low hb1 hr0).alloc (.cells #[vt1, vb1] 26))
  have HX5 := Lib.hid (RowB.new w1 [vt1, vb1] 26)
  have hA := bel_a w1 (.cells #[vt1, vb1] 26)
  have HOI := Lib.hid (hoi.bel hA)
  have HDT := Lib.hid (hdt.bel hA)
  have HOW := Lib.hid hown
  have hs1 := hb1.size
  have HB1 := Lib.hid ((HB0.out.trans (hb1.mono hs0)).trans (hA.mono (by omega)))
  have HOE := Lib.hid (fun g e => (hdt.ownLt (g := g) e))
  obtain ⟨A1, c1, rfl, -⟩ := hoi.slice
  obtain ⟨A2, c2, rfl, -⟩ := hdt.slice
  clear x0 x1 hb1 hoi hdt hown hA
  go_upto_region 2 with (at_builtin; fail)
  generalize w1.alloc (.cells #[.slice A1 ts.length c1, .slice A2 l.length c2] 26) = W2 at *
  obtain ⟨g5, hg5⟩ : ∃ g5, g5 = w1.heap.size := ⟨_, rfl⟩
  rw [← hg5] at HX5 HDT HOE hs1 ⊢
  clear hg5
  have y0 := HX5.out.cell 0
  have y1 := HX5.out.cell 1
  simp only [List.getElem?_cons_zero, List.getElem?_cons_succ] at y0 y1
  have hl5 := HX5.out.lt
  go_wp2_with (at_builtin; fail)
  refine (delete_any _ l k _ W2 HDT.out hk (by omega)).mono ?_
  rintro e w3 ⟨v3, rfl, hd3, hg3, hz3⟩
  have HD3 := Lib.hid hd3
  have HX3 : Hid (RowB w3 g5 26 _) := Lib.hid ((hg3.block g5 hl5 fun e => by have := (HOE.out g5 e.symm).2; omega).trans HX5.out)
  have HR3 : Hid (RowB w3 (w.heap.size + 1) 26 _) := Lib.hid ((hg3.block (w.heap.size + 1) HR.out.lt fun e => by have := (HOE.out _ e.symm).1.1; omega).trans HR.out)
  have HOI3 : Hid (OInts w3 W.heap.size (.slice A1 ts.length c1) ts) := Lib.hid (World.ownsRow.kept HOI.out hg3 (by
    cases hq : (Value.slice A1 ts.length c1).ownBlock with
    | none => exact .inl rfl
    | some g =>
      refine .inr fun e => ?_
      have h1 := HOW.out g hq
      have h2 := (HOE.out g e.symm).1.1
      omega))
  have HB3 : Hid (Below w.heap.size w w3) := Lib.hid (HB1.out.trans ⟨hg3.os, hg3.tape, hg3.output, hg3.size, fun b hb => hg3.block b (by omega) fun e => by have := (HOE.out b e.symm).1.1; omega⟩)
  obtain ⟨A3, c3, rfl, -⟩ := hd3.slice
  have hel : (l.eraseIdx k).length = l.length - 1 := List.length_eraseIdx_of_lt hk
  have z0 := HX3.out.cell 0
  have z1 := HX3.out.cell 1
  have zf1 := HX3.out.frozen 1
  have r0 := HR3.out.cell 0
  have r1 := HR3.out.cell 1
  have rf0 := HR3.out.frozen 0
  have rf1 := HR3.out.frozen 1
  simp only [List.getElem?_cons_zero, List.getElem?_cons_succ] at z0 z1 r0 r1
  have hg5 : w.heap.size + 1 < g5 := by omega
  have hs3 := hg3.size
  obtain ⟨l2, hl2⟩ : ∃ l2, l2 = l.eraseIdx k := ⟨_, rfl⟩
  rw [← hl2] at HD3 ⊢
  have HL2 := Lib.hid hl2
  clear y0 y1 hd3 hg3 hel hl2
  go_upto_region 3 with (at_builtin; fail)
  have HX4 := Lib.hid (HX3.out.set_ 1 (.slice A3 l2.length c3))
  have HR4 := Lib.hid (HR3.out.other (g' := g5) (by omega) 1 (.slice A3 l2.length c3))
  have HB4 := Lib.hid (HB3.out.setCell (p := ⟨g5, 1, none⟩) (by show w.heap.size ≤ g5; omega) (.slice A3 l2.length c3))
  have hx4 := HX4.out
  simp only [List.set_cons_zero, List.set_cons_succ] at hx4
  have q0 := hx4.cell 0
  have q1 := hx4.cell 1
  have p0 := HR4.out.cell 0
  have p1 := HR4.out.cell 1
  have pf0 := HR4.out.frozen 0
  have pf1 := HR4.out.frozen 1
  simp only [List.getElem?_cons_zero, List.getElem?_cons_succ] at q0 q1 p0 p1
  have hs4 := HB4.out.size
  have HG4 : Hid (∀ b : Nat, b ≠ g5 → (w3.setCell ⟨g5, 1, none⟩ (.slice A3 l2.length c3)).heap[b]? = w3.heap[b]?) := Lib.hid fun b hb => heap_setCell_other w3 ⟨g5, 1, none⟩ b _ hb
  have HZ4 : Hid ((w3.setCell ⟨g5, 1, none⟩ (.slice A3 l2.length c3)).heap.size = w3.heap.size) := Lib.hid (by simp)
  clear z0 z1 zf1 r0 r1 rf0 rf1 hx4
  generalize w3.setCell ⟨g5, 1, none⟩ (.slice A3 l2.length c3) = w4 at *
  go_wp2_with (at_builtin; fail)
  have HR7 : RowB (w4.setCells (w.heap.size + 1) 0 [.slice A1 ts.length c1, .slice A3 l2.length c3]) (w.heap.size + 1) 26 _ := HR4.out.putAll _ rfl
  have HB7 := HB4.out.trans (below_putL (B := w.heap.size) (g := w.heap.size + 1) (by omega) [.slice A1 ts.length c1, .slice A3 l2.length c3] 0 w4)
  have hf7 : ∀ b : Nat, b ≠ g5 → b ≠ w.heap.size + 1 → (w4.setCells (w.heap.size + 1) 0 [.slice A1 ts.length c1, .slice A3 l2.length c3]).heap[b]? = w3.heap[b]? := fun b h1 h2 => (heap_putL h2 _ _ _).trans (HG4.out b h1)
  have hz7 := (size_putL (g := w.heap.size + 1) [.slice A1 ts.length c1, .slice A3 l2.length c3] 0 w4).trans HZ4.out
  refine bodyPost_ret (results_cell_row rfl _ _ (w.heap.size + 1) 26 _ (0, 0) _ rfl HR7 Try.underlying26 rfl rfl) rfl ⟨_, _, lo, rfl, ?_, HOW.out, by omega, ?_, HB7⟩
  · have h5 := HOI3.out.ne HX3.out (by decide)
    exact HOI3.out.keepBlk (by omega) fun b e => hf7 b (fun e2 => h5 (by rw [e, e2])) (by have := (HOI3.out.own_lt e).1; omega)
  · rw [← HL2.out]
    have := (HD3.out.frame (w' := w4.setCells (w.heap.size + 1) 0 [.slice A1 ts.length c1, .slice A3 l2.length c3]) fun b hb hl => hf7 b (by have := hb.2; omega) (by have := hb.1; omega)).mono (Q := rg lo (w4.setCells (w.heap.size + 1) 0 [.slice A1 ts.length c1, .slice A3 l2.length c3]).heap.size) fun b hb => ⟨hb.1, by have := hb.2; rw [hz7, hz3]; omega⟩
    exact this
set_option maxHeartbeats 1000000 in
set_option maxRecDepth 100000 in
theorem isStmt_any (vt vb : Value) (ts : List Int) (l : List St) (k : Int) (B : Nat) (w : World) (ht : IntS w B vt ts) (hl : StS w B vb l) (hsz : szL l ≤ 4194300) :
    Calls Try.prog 64 #[.agg #[vt, vb], .int .i64 k] w fun e w' => e = .returned (.bool (withinP k 0 ((l.length : Int) - 1))) ∧ Below w.heap.size w w' := by
  have ht0 := ht
  obtain ⟨At, ct, rfl, -⟩ := ht0
  obtain ⟨Ab, cb, rfl, -⟩ := hl.slice
  have hll := len_le_szL l
  have HX := Lib.hid (RowB.new w [.slice At ts.length ct, .slice Ab l.length cb] 26)
  have HB0 := Lib.hid (bel_a w (.cells #[.slice At ts.length ct, .slice Ab l.length cb] 26))
  clear ht hl
  go_enter Try.func64, Try.ntmps64
  go_upto_region 1 with (at_builtin; fail)
  generalize w.alloc (.cells #[.slice At ts.length ct, .slice Ab l.length cb] 26) = W at *
  have x1 := HX.out.cell 1
  simp only [List.getElem?_cons_zero, List.getElem?_cons_succ] at x1
  go_wp2_with (at_builtin; fail)
  refine (within_any k 0 ((l.length : Int) - 1) W).mono ?_
  rintro e w2 ⟨rfl, rfl⟩
  go_wp2_with (at_builtin; fail)
  go_ret
  exact ⟨rfl, HB0.out⟩
/-- a statement can be dropped -/
def drOk (ts : List Int) (l : List St) (k : Int) : Bool := validP ts l && withinP k 0 ((l.length : Int) - 1)
def DrDRet (w : World) (ts : List Int) (l : List St) (k : Int) (e : Ending) (w' : World) : Prop :=
  ∃ vt vb lo, e = .returned (.tuple #[.agg #[vt, vb], .bool (drOk ts l k)]) ∧ OInts w' w.heap.size vt (if drOk ts l k then ts else []) ∧ (∀ g, vt.ownBlock = some g → g < lo) ∧ w.heap.size ≤ lo ∧ DT w' (rg lo w'.heap.size) vb (if drOk ts l k then l.eraseIdx k.toNat else []) ∧ Below w.heap.size w w'
set_option maxHeartbeats 4000000 in
set_option maxRecDepth 100000 in
theorem iDropStmt_any (vt vb : Value) (ts : List Int) (l : List St) (k : Int) (B : Nat) (w : World) (ht : IntS w B vt ts) (hl : StS w B vb l) (hB : B ≤ w.heap.size) (hts : ts.length ≤ 4000000) (hsz : szL l ≤ 4194000) :
    Calls Try.prog 21 #[.agg #[vt, vb], .int .i64 k] w (DrDRet w ts l k) := by
  have ht0 := ht
  obtain ⟨At, ct, rfl, -⟩ := ht0
  obtain ⟨Ab, cb, rfl, -⟩ := hl.slice
  have HX := Lib.hid ((RowB.new w [.slice At ts.length ct, .slice Ab l.length cb] 26).alloc (.cells #[.slice none 0 0, .slice none 0 0] 26))
  have HR := Lib.hid (RowB.new (w.alloc (.cells #[.slice At ts.length ct, .slice Ab l.length cb] 26)) [.slice none 0 0, .slice none 0 0] 26)
  have hz1 : (w.alloc (.cells #[.slice At ts.length ct, .slice Ab l.length cb] 26)).heap.size = w.heap.size + 1 := by simp
  rw [hz1] at HR
  have HB0 := Lib.hid ((bel_a w (.cells #[.slice At ts.length ct, .slice Ab l.length cb] 26)).alloc (by simp) (.cells #[.slice none 0 0, .slice none 0 0] 26))
  have HT := Lib.hid ht
  have HL := Lib.hid hl
  clear hz1 ht hl
  go_enter Try.func21, Try.ntmps21
  go_upto_region 1 with (at_builtin; fail)
  generalize (w.alloc (.cells #[.slice At ts.length ct, .slice Ab l.length cb] 26)).alloc (.cells #[.slice none 0 0, .slice none 0 0] 26) = W at *
  have x0 := HX.out.cell 0
  have x1 := HX.out.cell 1
  simp only [List.getElem?_cons_zero, List.getElem?_cons_succ] at x0 x1
  have hs0 := HB0.out.size
  have hr0 := HR.out.lt
  have hx0 := HX.out.lt
  have NO : Hid (∀ W', RowB W' (w.heap.size + 1) 26 [.slice none 0 0, .slice none 0 0] → Below w.heap.size w W' → drOk ts l k = false → DrDRet w ts l k (.returned (.tuple #[.agg #[.slice none 0 0, .slice none 0 0], .bool false])) (W'.setCells (w.heap.size + 1) 0 [.slice none 0 0, .slice none 0 0])) := Lib.hid fun W' _ hb hno => by
    have hB7 := hb.trans (below_putL (B := w.heap.size) (g := w.heap.size + 1) (by omega) [.slice none 0 0, .slice none 0 0] 0 W')
    refine ⟨_, _, w.heap.size, by rw [hno], ?_, fun g e => by simp [Value.ownBlock] at e, Nat.le_refl _, ?_, hB7⟩ <;> rw [hno]
    · exact OInts.nil _ _
    · exact .nil _
  go_wp2_with (at_builtin; fail)
  refine (iProgramValid_any _ _ ts l B W (HT.out.low HB0.out hB) (HL.out.low HB0.out hB) (by omega) (by omega)).mono ?_
  rintro e w1 ⟨rfl, hb1⟩
  have HB1 := Lib.hid (HB0.out.trans (hb1.mono hs0))
  have HX1 := Lib.hid (HX.out.low hb1 hx0)
  have HR1 := Lib.hid (HR.out.low hb1 hr0)
  clear hb1 x0 x1
  have x0 := HX1.out.cell 0
  have x1 := HX1.out.cell 1
  have r0 := HR1.out.cell 0
  have r1 := HR1.out.cell 1
  have rf0 := HR1.out.frozen 0
  have rf1 := HR1.out.frozen 1
  simp only [List.getElem?_cons_zero, List.getElem?_cons_succ] at x0 x1 r0 r1
  cases hv : validP ts l
  · have HNO := Lib.hid (NO.out w1 HR1.out HB1.out (by unfold drOk; rw [hv]; rfl))
    clear hv
    go_wp2_with (at_builtin; fail)
    have HR7 : RowB (w1.setCells (w.heap.size + 1) 0 [.slice none 0 0, .slice none 0 0]) (w.heap.size + 1) 26 _ := HR1.out.putAll _ rfl
    exact bodyPost_ret (res_box (p := 4) (u := 5) (ty := 26) rfl _ _ (w.heap.size + 1) 26 _ (0, 0) _ rfl HR7 Try.underlying26 rfl rfl) rfl HNO.out
  · have HV := Lib.hid hv
    clear hv
    go_wp2_with (at_builtin; fail)
    refine (isStmt_any _ _ ts l k B w1 (HT.out.low HB1.out hB) (HL.out.low HB1.out hB) (by omega)).mono ?_
    rintro e w2 ⟨rfl, hb2⟩
    have hs1 := HB1.out.size
    have hx1 := HX1.out.lt
    have hr1 := HR1.out.lt
    have HB2 := Lib.hid (HB1.out.trans (hb2.mono hs1))
    have HX2 := Lib.hid (HX1.out.low hb2 hx1)
    have HR2 := Lib.hid (HR1.out.low hb2 hr1)
    clear hb2 x0 x1 r0 r1 rf0 rf1
    have x0 := HX2.out.cell 0
    have x1 := HX2.out.cell 1
    have r0 := HR2.out.cell 0
    have r1 := HR2.out.cell 1
    have rf0 := HR2.out.frozen 0
    have rf1 := HR2.out.frozen 1
    simp only [List.getElem?_cons_zero, List.getElem?_cons_succ] at x0 x1 r0 r1
    cases hw : withinP k 0 ((l.length : Int) - 1)
    · have HNO := Lib.hid (NO.out w2 HR2.out HB2.out (by unfold drOk; rw [hw, Bool.and_false]))
      clear hw
      go_wp2_with (at_builtin; fail)
      have HR7 : RowB (w2.setCells (w.heap.size + 1) 0 [.slice none 0 0, .slice none 0 0]) (w.heap.size + 1) 26 _ := HR2.out.putAll _ rfl
      exact bodyPost_ret (res_box (p := 4) (u := 5) (ty := 26) rfl _ _ (w.heap.size + 1) 26 _ (0, 0) _ rfl HR7 Try.underlying26 rfl rfl) rfl HNO.out
    · have HOK : Hid (drOk ts l k = true) := Lib.hid (by unfold drOk; rw [HV.out, hw]; rfl)
      have hk0 : 0 ≤ k ∧ k ≤ (l.length : Int) - 1 := by simpa [withinP] using hw
      obtain ⟨q, rfl⟩ : ∃ q : Nat, k = q := ⟨k.toNat, by omega⟩
      have hql : q < l.length := by omega
      clear hw hk0 NO
      go_wp2_with (at_builtin; fail)
      refine (dropped_any _ _ ts l q B w2 (HT.out.low HB2.out hB) (HL.out.low HB2.out hB) (by have := HB2.out.size; omega) hql hts hsz).mono ?_
      rintro e w3 ⟨vt3, vb3, lo, rfl, hoi, hown, hlo, hdt, hb3⟩
      have hs2 := HB2.out.size
      have hx2 := HX2.out.lt
      have hr2 := HR2.out.lt
      have HB3 := Lib.hid (HB2.out.trans (hb3.mono hs2))
      have HR3 := Lib.hid (HR2.out.low hb3 hr2)
      have HOI := Lib.hid hoi
      have HDT := Lib.hid hdt
      have HOW := Lib.hid hown
      obtain ⟨A3, c3, rfl, -⟩ := hoi.slice
      obtain ⟨A4, c4, rfl, -⟩ := hdt.slice
      have HL2 : Hid ((if drOk ts l (q : Int) then l.eraseIdx (q : Int).toNat else []) = l.eraseIdx q) := Lib.hid (by rw [HOK.out]; rfl)
      have HT2 : Hid ((if drOk ts l (q : Int) then ts else []) = ts) := Lib.hid (by rw [HOK.out]; rfl)
      generalize l.eraseIdx q = l2 at *
      clear x0 x1 r0 r1 rf0 rf1 hb3 hoi hown hdt
      have r0 := HR3.out.cell 0
      have r1 := HR3.out.cell 1
      have rf0 := HR3.out.frozen 0
      have rf1 := HR3.out.frozen 1
      simp only [List.getElem?_cons_zero, List.getElem?_cons_succ] at r0 r1
      go_wp2_with (at_builtin; fail)
      have HR7 : RowB (w3.setCells (w.heap.size + 1) 0 [.slice A3 ts.length c3, .slice A4 l2.length c4]) (w.heap.size + 1) 26 _ := HR3.out.putAll _ rfl
      have HB7 := HB3.out.trans (below_putL (B := w.heap.size) (g := w.heap.size + 1) (by omega) [.slice A3 ts.length c3, .slice A4 l2.length c4] 0 w3)
      have hz7 := (size_putL (g := w.heap.size + 1) [.slice A3 ts.length c3, .slice A4 l2.length c4] 0 w3)
      refine bodyPost_ret (res_box (p := 4) (u := 5) (ty := 26) rfl _ _ (w.heap.size + 1) 26 _ (0, 0) _ rfl HR7 Try.underlying26 rfl rfl) rfl ⟨_, _, lo, by rw [HOK.out]; rfl, ?_, HOW.out, by omega, ?_, HB7⟩
      · rw [HT2.out]
        exact HOI.out.keepBlk (by omega) fun b e => heap_putL (g := w.heap.size + 1) (by have := (HOI.out.own_lt e).1; omega) [.slice A3 ts.length c3, .slice A4 l2.length c4] 0 w3
      · rw [HL2.out]
        have := (HDT.out.frame (w' := w3.setCells (w.heap.size + 1) 0 [.slice A3 ts.length c3, .slice A4 l2.length c4]) fun b hb hl => heap_putL (by have := hb.1; omega) _ _ _).mono (Q := rg lo (w3.setCells (w.heap.size + 1) 0 [.slice A3 ts.length c3, .slice A4 l2.length c4]).heap.size) fun b hb => ⟨hb.1, by have := hb.2; rw [hz7]; omega⟩
        exact this

end Go.Proofs.Ytidlifijgooceaa
