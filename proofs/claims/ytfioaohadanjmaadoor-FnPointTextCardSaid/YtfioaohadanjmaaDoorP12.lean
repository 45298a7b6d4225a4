import Derived.Test.YtfioaohadanjmaaDoorP11
set_option linter.unusedVariables false

/- l1Copy, l1CopyOf. -/
namespace Go.Proofs.YtfioaohadanjmaaDoor
open Go.RowKit

def CopyRet (w : World) (l : List St) (e : Ending) (w' : World) : Prop := ∃ v', e = .returned v' ∧ OSt w' w.heap.size v' l ∧ Below w.heap.size w w'
def CopyOk (m : Nat) : Prop := ∀ (v : Value) (l : List St) (B : Nat) (w : World), szL l ≤ m → StS w B v l → B ≤ w.heap.size → Calls Tryd.prog 51 #[v] w (CopyRet w l)
/-- the box of a copied statement -/
def CpB (wr X : World) (op x y n : Int) (tv ev : Value) (th el : List St) : Prop :=
  X.heap[wr.heap.size]? = some (.cells #[.int .i64 op, .int .i64 x, .int .i64 y, .int .i64 n, tv, ev] 47 (0, 0)) ∧ StX X (fun b => wr.heap.size + 1 ≤ b) tv th ∧ StX X (fun b => wr.heap.size + 1 ≤ b) ev el ∧ Below wr.heap.size wr X
theorem CpB.th {wr X w2 : World} {op x y n : Int} {tv ev v' : Value} {th el th' : List St} (h : CpB wr X op x y n tv ev th el) (hb : Below X.heap.size X w2) (hx : OSt w2 X.heap.size v' th') : CpB wr (w2.setCell ⟨wr.heap.size, 4, none⟩ v') op x y n v' ev th' el := by
  obtain ⟨h1, h2, h3, h4⟩ := h
  have hlt := row_lt h1
  have hg := grown_set w2 wr.heap.size 4 v'
  refine ⟨(heap_setCell_same w2 wr.heap.size 4 _ _ v' (row_below h1 hb)).trans (by simp), ?_, ?_, ?_⟩
  · exact (hx.toX.grown hg (by show ¬ (X.heap.size ≤ wr.heap.size); omega)).frame (Nat.le_refl _) fun b hb _ => ⟨by have : X.heap.size ≤ b := hb; show wr.heap.size + 1 ≤ b; omega, rfl⟩
  · exact (h3.bel hb).grown hg (by show ¬ (wr.heap.size + 1 ≤ wr.heap.size); omega)
  · exact (h4.trans (hb.mono h4.size)).setCell (p := ⟨wr.heap.size, 4, none⟩) (Nat.le_refl _) _
theorem CpB.el {wr X w2 : World} {op x y n : Int} {tv ev v' : Value} {th el el' : List St} (h : CpB wr X op x y n tv ev th el) (hb : Below X.heap.size X w2) (hx : OSt w2 X.heap.size v' el') : CpB wr (w2.setCell ⟨wr.heap.size, 5, none⟩ v') op x y n tv v' th el' := by
  obtain ⟨h1, h2, h3, h4⟩ := h
  have hlt := row_lt h1
  have hg := grown_set w2 wr.heap.size 5 v'
  refine ⟨(heap_setCell_same w2 wr.heap.size 5 _ _ v' (row_below h1 hb)).trans (by simp), ?_, ?_, ?_⟩
  · exact (h2.bel hb).grown hg (by show ¬ (wr.heap.size + 1 ≤ wr.heap.size); omega)
  · exact (hx.toX.grown hg (by show ¬ (X.heap.size ≤ wr.heap.size); omega)).frame (Nat.le_refl _) fun b hb _ => ⟨by have : X.heap.size ≤ b := hb; show wr.heap.size + 1 ≤ b; omega, rfl⟩
  · exact (h4.trans (hb.mono h4.size)).setCell (p := ⟨wr.heap.size, 5, none⟩) (Nat.le_refl _) _
theorem StX.up {wr X : World} {v : Value} {l : List St} (h : StX X (fun b => wr.heap.size + 1 ≤ b) v l) : StX X (fun b => wr.heap.size ≤ b) v l :=
  h.frame (Nat.le_refl _) fun b hb _ => ⟨by have : wr.heap.size + 1 ≤ b := hb; show wr.heap.size ≤ b; omega, rfl⟩

set_option maxHeartbeats 4000000 in
set_option maxRecDepth 100000 in
theorem copy_of (m : Nat) (hM : m ≤ 4194000) (ih : ∀ j, j < m → CopyOk j) : CopyOk m := by
  intro v l B w hm hl hB
  have hll := len_le_szL l
  obtain ⟨A, c, rfl, hc⟩ := hl.slice
  have IH := Lib.hid ih
  clear ih
  have HO0 : Hid (OSt (w.alloc (.cells #[] 47)) w.heap.size (.slice (some ⟨w.heap.size, 0, none⟩) 0 0) []) := Lib.hid (OSt.lit w w.heap.size [] (Nat.le_refl _) (by simp) (fun e he => by simp at he))
  go_enter Tryd.func51, Tryd.ntmps51
  go_wp2_with fail
  go_loopw [3, 4] (fun v i wr => ∃ (k : Nat), k ≤ l.length ∧ i = .int .i64 k ∧ (OSt wr w.heap.size v (l.take k) ∧ Below w.heap.size w wr)) (fun _ i _ => l.length - (intOf i).toNat)
  case atStart => exact ⟨0, Nat.zero_le _, rfl, HO0.out, bel_a w _⟩
  case round =>
    obtain ⟨k, hk, rfl, hos, hbw⟩ := hrel
    have hlk : (l.take k).length ≤ k := List.length_take_le _ _
    have HTA := Lib.hid (fun h : k = l.length => take_all h)
    have HTS := Lib.hid (fun h : k < l.length => take_succ_get l k h)
    generalize l.take k = lk at *
    obtain ⟨Ao, co, rfl, hco⟩ := hos.slice
    have HOS := Lib.hid hos
    have HBW := Lib.hid hbw
    have hsr := hbw.size
    clear hos
    by_cases hlt : k < l.length
    · have hl2 := hl.low hbw hB
      have HL2 := Lib.hid hl2
      have hsz := szL_mem hlt
      rw [l[k].sz_eq] at hsz
      obtain ⟨b, off, tv, ev, rfl, hb, hth, hel, c0, c1, c2, c3, c4, c5⟩ := hl2.get hlt
      have hbr : b < wr.heap.size := by omega
      obtain ⟨A4, n4, rfl, -⟩ := hth.slice
      obtain ⟨A5, n5, rfl, -⟩ := hel.slice
      have HTH := Lib.hid hth
      have HEL := Lib.hid hel
      have HETA : Hid (l[k] = .mk l[k].op l[k].x l[k].y l[k].n l[k].th l[k].el) := Lib.hid (St.eta _)
      have HC0 : Hid (CpB wr (wr.alloc (.cells #[.int .i64 l[k].op, .int .i64 l[k].x, .int .i64 l[k].y, .int .i64 l[k].n, .slice none 0 0, .slice none 0 0] 47)) l[k].op l[k].x l[k].y l[k].n (.slice none 0 0) (.slice none 0 0) [] []) := Lib.hid ⟨heap_alloc_new wr _, StX.nil _ _, StX.nil _ _, bel_a wr _⟩
      clear hbw hl2 hth hel
      by_cases ht0 : l[k].th.length = 0
      · have EMT := Lib.hid (List.length_eq_zero_iff.1 ht0)
        have ht1 : ((l[k].th.length : Int)) ≤ 0 := by omega
        clear ht0
        by_cases he0 : l[k].el.length = 0
        · have EME := Lib.hid (List.length_eq_zero_iff.1 he0)
          have he1 : ((l[k].el.length : Int)) ≤ 0 := by omega
          clear he0
          have HP := Lib.hid (HOS.out.below HC0.out.2.2.2)
          have HT : Hid (StX (wr.alloc (.cells #[.int .i64 l[k].op, .int .i64 l[k].x, .int .i64 l[k].y, .int .i64 l[k].n, .slice none 0 0, .slice none 0 0] 47)) _ _ []) := Lib.hid (HOS.out.fresh hsr (StX.up HC0.out.2.1))
          have HE : Hid (StX (wr.alloc (.cells #[.int .i64 l[k].op, .int .i64 l[k].x, .int .i64 l[k].y, .int .i64 l[k].n, .slice none 0 0, .slice none 0 0] 47)) _ _ []) := Lib.hid (HOS.out.fresh hsr (StX.up HC0.out.2.2.1))
          have hsX := HC0.out.2.2.2.size
          have HBX := Lib.hid (HBW.out.trans (HC0.out.2.2.2.mono hsr))
          go_wp2_with (at_builtin; go_must (refine wpList_push_st rfl (.tmp 47) (.tmp 49) rfl HP.out (by omega) (by omega) _ _ _ _ _ _ [] [] HT.out HE.out rfl (by simp; rfl) ?_); intro v' w' hP' hE')
          case roundEnd =>
            refine ⟨⟨k + 1, by omega, by go_num, ?_, HBX.out.trans (((bel_a _ _).mono (by omega)).trans hE')⟩, by simp [intOf] <;> omega⟩
            rw [HTS.out hlt, HETA.out]
            first | exact hP' | (rw [show l[k].th = [] from EMT.out]; exact hP') | (rw [show l[k].el = [] from EME.out]; exact hP') | (rw [show l[k].th = [] from EMT.out, show l[k].el = [] from EME.out]; exact hP')
        · have he1 : 0 < (l[k].el.length : Int) := by omega
          clear he0
          go_wp2_with fail
          refine (IH.out (szL l[k].el) (by omega) _ l[k].el B _ (Nat.le_refl _) (HEL.out.low HC0.out.2.2.2 (by omega)) (by have := HC0.out.2.2.2.size; omega)).mono ?_
          rintro e w5 ⟨v5, rfl, hos5, hb5⟩
          obtain ⟨A7, c7, rfl, -⟩ := hos5.slice
          have HC2 := Lib.hid (CpB.el HC0.out hb5 hos5)
          have hrow5 := row_below HC0.out.1 hb5
          have u4 : w5.cell? ⟨wr.heap.size, 4, none⟩ = some (.slice none 0 0) := by rw [cell_of_row _ _ _ _ _ _ hrow5]; rfl
          have u5 : w5.cell? ⟨wr.heap.size, 5, none⟩ = some (.slice none 0 0) := by rw [cell_of_row _ _ _ _ _ _ hrow5]; rfl
          have u0 : w5.cell? ⟨wr.heap.size, 0, none⟩ = some (.int .i64 l[k].op) := by rw [cell_of_row _ _ _ _ _ _ hrow5]; rfl
          have u1 : w5.cell? ⟨wr.heap.size, 1, none⟩ = some (.int .i64 l[k].x) := by rw [cell_of_row _ _ _ _ _ _ hrow5]; rfl
          have u2 : w5.cell? ⟨wr.heap.size, 2, none⟩ = some (.int .i64 l[k].y) := by rw [cell_of_row _ _ _ _ _ _ hrow5]; rfl
          have u3 : w5.cell? ⟨wr.heap.size, 3, none⟩ = some (.int .i64 l[k].n) := by rw [cell_of_row _ _ _ _ _ _ hrow5]; rfl
          have uf5 := frozen_of_row w5 wr.heap.size 5 _ _ hrow5
          clear hos5 hb5 hrow5
          have HP := Lib.hid (HOS.out.below HC2.out.2.2.2)
          have HT : Hid (StX (w5.setCell ⟨wr.heap.size, 5, none⟩ (.slice A7 l[k].el.length c7)) _ _ []) := Lib.hid (HOS.out.fresh hsr (StX.up HC2.out.2.1))
          have HE : Hid (StX (w5.setCell ⟨wr.heap.size, 5, none⟩ (.slice A7 l[k].el.length c7)) _ _ l[k].el) := Lib.hid (HOS.out.fresh hsr (StX.up HC2.out.2.2.1))
          have hsX := HC2.out.2.2.2.size
          have HBX := Lib.hid (HBW.out.trans (HC2.out.2.2.2.mono hsr))
          go_wp2_with (at_builtin; go_must (refine wpList_push_st rfl (.tmp 47) (.tmp 49) rfl HP.out (by omega) (by omega) _ _ _ _ _ _ [] l[k].el HT.out HE.out rfl (by simp; rfl) ?_); intro v' w' hP' hE')
          case roundEnd =>
            refine ⟨⟨k + 1, by omega, by go_num, ?_, HBX.out.trans (((bel_a _ _).mono (by omega)).trans hE')⟩, by simp [intOf] <;> omega⟩
            rw [HTS.out hlt, HETA.out]
            first | exact hP' | (rw [show l[k].th = [] from EMT.out]; exact hP') | (rw [show l[k].el = [] from EME.out]; exact hP') | (rw [show l[k].th = [] from EMT.out, show l[k].el = [] from EME.out]; exact hP')
      · have ht1 : 0 < (l[k].th.length : Int) := by omega
        clear ht0
        go_wp2_with fail
        refine (IH.out (szL l[k].th) (by omega) _ l[k].th B _ (Nat.le_refl _) (HTH.out.low HC0.out.2.2.2 (by omega)) (by have := HC0.out.2.2.2.size; omega)).mono ?_
        rintro e w4 ⟨v4, rfl, hos4, hb4⟩
        obtain ⟨A6, c6, rfl, -⟩ := hos4.slice
        have HC1 := Lib.hid (CpB.th HC0.out hb4 hos4)
        have hrow4 := row_below HC0.out.1 hb4
        have hbl4 := (bel_a wr (.cells #[.int .i64 l[k].op, .int .i64 l[k].x, .int .i64 l[k].y, .int .i64 l[k].n, .slice none 0 0, .slice none 0 0] 47)).trans (hb4.mono (by simp))
        have z0 : w4.cell? ⟨wr.heap.size, 0, none⟩ = some (.int .i64 l[k].op) := by rw [cell_of_row _ _ _ _ _ _ hrow4]; rfl
        have z1 : w4.cell? ⟨wr.heap.size, 1, none⟩ = some (.int .i64 l[k].x) := by rw [cell_of_row _ _ _ _ _ _ hrow4]; rfl
        have z2 : w4.cell? ⟨wr.heap.size, 2, none⟩ = some (.int .i64 l[k].y) := by rw [cell_of_row _ _ _ _ _ _ hrow4]; rfl
        have z3 : w4.cell? ⟨wr.heap.size, 3, none⟩ = some (.int .i64 l[k].n) := by rw [cell_of_row _ _ _ _ _ _ hrow4]; rfl
        have z4 : w4.cell? ⟨wr.heap.size, 4, none⟩ = some (.slice none 0 0) := by rw [cell_of_row _ _ _ _ _ _ hrow4]; rfl
        have z5 : w4.cell? ⟨wr.heap.size, 5, none⟩ = some (.slice none 0 0) := by rw [cell_of_row _ _ _ _ _ _ hrow4]; rfl
        have zf4 := frozen_of_row w4 wr.heap.size 4 _ _ hrow4
        have y0 := (hbl4.cell (p := ⟨b, off + k * 6, none⟩) hbr).trans c0
        have y1 := (hbl4.cell (p := ⟨b, off + k * 6 + 1, none⟩) hbr).trans c1
        have y2 := (hbl4.cell (p := ⟨b, off + k * 6 + 2, none⟩) hbr).trans c2
        have y3 := (hbl4.cell (p := ⟨b, off + k * 6 + 3, none⟩) hbr).trans c3
        have y4 := (hbl4.cell (p := ⟨b, off + k * 6 + 4, none⟩) hbr).trans c4
        have y5 := (hbl4.cell (p := ⟨b, off + k * 6 + 5, none⟩) hbr).trans c5
        clear hos4 hb4 hrow4 hbl4
        by_cases he0 : l[k].el.length = 0
        · have EME := Lib.hid (List.length_eq_zero_iff.1 he0)
          have he1 : ((l[k].el.length : Int)) ≤ 0 := by omega
          clear he0
          have HP := Lib.hid (HOS.out.below HC1.out.2.2.2)
          have HT : Hid (StX (w4.setCell ⟨wr.heap.size, 4, none⟩ (.slice A6 l[k].th.length c6)) _ _ l[k].th) := Lib.hid (HOS.out.fresh hsr (StX.up HC1.out.2.1))
          have HE : Hid (StX (w4.setCell ⟨wr.heap.size, 4, none⟩ (.slice A6 l[k].th.length c6)) _ _ []) := Lib.hid (HOS.out.fresh hsr (StX.up HC1.out.2.2.1))
          have hsX := HC1.out.2.2.2.size
          have HBX := Lib.hid (HBW.out.trans (HC1.out.2.2.2.mono hsr))
          go_wp2_with (at_builtin; go_must (refine wpList_push_st rfl (.tmp 47) (.tmp 49) rfl HP.out (by omega) (by omega) _ _ _ _ _ _ l[k].th [] HT.out HE.out rfl (by simp; rfl) ?_); intro v' w' hP' hE')
          case roundEnd =>
            refine ⟨⟨k + 1, by omega, by go_num, ?_, HBX.out.trans (((bel_a _ _).mono (by omega)).trans hE')⟩, by simp [intOf] <;> omega⟩
            rw [HTS.out hlt, HETA.out]
            first | exact hP' | (rw [show l[k].th = [] from EMT.out]; exact hP') | (rw [show l[k].el = [] from EME.out]; exact hP') | (rw [show l[k].th = [] from EMT.out, show l[k].el = [] from EME.out]; exact hP')
        · have he1 : 0 < (l[k].el.length : Int) := by omega
          clear he0
          go_wp2_with fail
          refine (IH.out (szL l[k].el) (by omega) _ l[k].el B _ (Nat.le_refl _) (HEL.out.low HC1.out.2.2.2 (by omega)) (by have := HC1.out.2.2.2.size; omega)).mono ?_
          rintro e w5 ⟨v5, rfl, hos5, hb5⟩
          obtain ⟨A7, c7, rfl, -⟩ := hos5.slice
          have HC2 := Lib.hid (CpB.el HC1.out hb5 hos5)
          have hrow5 := row_below HC1.out.1 hb5
          have u4 : w5.cell? ⟨wr.heap.size, 4, none⟩ = some (.slice A6 l[k].th.length c6) := by rw [cell_of_row _ _ _ _ _ _ hrow5]; rfl
          have u5 : w5.cell? ⟨wr.heap.size, 5, none⟩ = some (.slice none 0 0) := by rw [cell_of_row _ _ _ _ _ _ hrow5]; rfl
          have u0 : w5.cell? ⟨wr.heap.size, 0, none⟩ = some (.int .i64 l[k].op) := by rw [cell_of_row _ _ _ _ _ _ hrow5]; rfl
          have u1 : w5.cell? ⟨wr.heap.size, 1, none⟩ = some (.int .i64 l[k].x) := by rw [cell_of_row _ _ _ _ _ _ hrow5]; rfl
          have u2 : w5.cell? ⟨wr.heap.size, 2, none⟩ = some (.int .i64 l[k].y) := by rw [cell_of_row _ _ _ _ _ _ hrow5]; rfl
          have u3 : w5.cell? ⟨wr.heap.size, 3, none⟩ = some (.int .i64 l[k].n) := by rw [cell_of_row _ _ _ _ _ _ hrow5]; rfl
          have uf5 := frozen_of_row w5 wr.heap.size 5 _ _ hrow5
          clear hos5 hb5 hrow5
          have HP := Lib.hid (HOS.out.below HC2.out.2.2.2)
          have HT : Hid (StX (w5.setCell ⟨wr.heap.size, 5, none⟩ (.slice A7 l[k].el.length c7)) _ _ l[k].th) := Lib.hid (HOS.out.fresh hsr (StX.up HC2.out.2.1))
          have HE : Hid (StX (w5.setCell ⟨wr.heap.size, 5, none⟩ (.slice A7 l[k].el.length c7)) _ _ l[k].el) := Lib.hid (HOS.out.fresh hsr (StX.up HC2.out.2.2.1))
          have hsX := HC2.out.2.2.2.size
          have HBX := Lib.hid (HBW.out.trans (HC2.out.2.2.2.mono hsr))
          go_wp2_with (at_builtin; go_must (refine wpList_push_st rfl (.tmp 47) (.tmp 49) rfl HP.out (by omega) (by omega) _ _ _ _ _ _ l[k].th l[k].el HT.out HE.out rfl (by simp; rfl) ?_); intro v' w' hP' hE')
          case roundEnd =>
            refine ⟨⟨k + 1, by omega, by go_num, ?_, HBX.out.trans (((bel_a _ _).mono (by omega)).trans hE')⟩, by simp [intOf] <;> omega⟩
            rw [HTS.out hlt, HETA.out]
            first | exact hP' | (rw [show l[k].th = [] from EMT.out]; exact hP') | (rw [show l[k].el = [] from EME.out]; exact hP') | (rw [show l[k].th = [] from EMT.out, show l[k].el = [] from EME.out]; exact hP')
    · have hkl : k = l.length := by omega
      have HKL := Lib.hid hkl
      clear hkl
      go_wp2_with fail
      go_ret
      refine ⟨_, rfl, ?_, HBW.out⟩
      have := HOS.out
      rw [HTA.out HKL.out] at this
      rw [HTA.out HKL.out]
      exact this
theorem copy_any (m : Nat) (hM : m ≤ 4194000) : CopyOk m := by
  induction m using Nat.strongRecOn with
  | _ m ih => exact copy_of m hM fun j hj => ih j hj (by omega)

end Go.Proofs.YtfioaohadanjmaaDoor
