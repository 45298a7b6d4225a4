import Derived.Test.YtfioaohadanjmaaDoorP17
import Derived.Test.YtfioaohadanjmaaDoorP15
set_option linter.unusedVariables false

/- spec.DrawPointText, spec.DrawCountChoices. -/
namespace Go.Proofs.YtfioaohadanjmaaDoor
open Go.RowKit

/-- one point read, where the source of numbers has been drawn from meanwhile -/
theorem PtS.pick {w w' : World} {B g p : Nat} {v : Value} {pts : List Pt} (h : PtS w B v pts) (hB : B ≤ w.heap.size) (hd : Dr w g p) (hg : w.grownBy w' (some g)) {k : Nat} (hk : k < pts.length) :
    ∃ b off c A' m' c', v = .slice (some ⟨b, off, none⟩) pts.length c ∧ pts.length ≤ c ∧ w'.cell? ⟨b, off + k * 5, none⟩ = some (.int .i64 pts[k].op) ∧ w'.cell? ⟨b, off + k * 5 + 1, none⟩ = some (.int .i64 pts[k].x) ∧ w'.cell? ⟨b, off + k * 5 + 2, none⟩ = some (.int .i64 pts[k].y) ∧
      w'.cell? ⟨b, off + k * 5 + 3, none⟩ = some (.int .i64 pts[k].n) ∧ w'.cell? ⟨b, off + k * 5 + 4, none⟩ = some (.slice A' m' c') := by
  obtain ⟨b, off, c, nv, e, hb, hc, -, hn, d0, d1, d2, d3, d4⟩ := h.get hk
  obtain ⟨A', c', rfl, -⟩ := hn
  have hne : b ≠ g := by
    rintro rfl
    obtain ⟨A, n, cc, hh, -⟩ := hd
    rw [cell_of_row _ _ _ _ _ _ hh] at d0 d1
    generalize off + k * 5 = j at *
    match j, d0, d1 with
    | 0, d0, _ => simp at d0
    | 1, _, d1 => simp at d1
    | j + 2, d0, _ => simp at d0
  have hkeep : ∀ o, w'.cell? ⟨b, o, none⟩ = w.cell? ⟨b, o, none⟩ := fun o => World.cell?_of_block (a := ⟨b, o, none⟩) (hg.block b (by omega) fun e => hne (Option.some.inj e))
  exact ⟨b, off, c, A', _, c', e, hc, (hkeep _).trans d0, (hkeep _).trans d1, (hkeep _).trans d2, (hkeep _).trans d3, (hkeep _).trans d4⟩
/-- a point, drawn -/
def DpRet (w : World) (e : Ending) (w' : World) : Prop := ∃ (op x y n : Int) (A : Option Addr) (k c : Nat), e = .returned (.agg #[.int .i64 op, .int .i64 x, .int .i64 y, .int .i64 n, .slice A k c]) ∧ Below w.heap.size w w'

set_option maxHeartbeats 4000000
set_option maxRecDepth 100000
theorem drawPointText_any (A : Option Addr) (n c : Nat) (w : World) (hb : Byt w w.heap.size A n) (hn : n ≤ 1048576) (hc : n ≤ c) :
    Calls Tryd.prog 4 #[.slice A n c] w (DpRet w) := by
  have HB := Lib.hid hb
  clear hb
  go_enter Tryd.func4, Tryd.ntmps4
  go_wp2_with fail
  have hA := bel_a w (.cells #[.int .i64 0, .int .i64 0, .int .i64 0, .int .i64 0, .slice none 0 0] 25)
  have hsA : (w.alloc (.cells #[.int .i64 0, .int .i64 0, .int .i64 0, .int .i64 0, .slice none 0 0] 25)).heap.size = w.heap.size + 1 := by simp
  refine (l17Open_any A n c _ (by rw [hsA]; exact (HB.out.keep fun b o hb => hA.cell (p := ⟨b, o, none⟩) hb).more (by omega)) hn hc).mono ?_
  rw [hsA]
  rintro e w1 ⟨rfl, hd1, hb1⟩
  have hb1' : Below (w.alloc (.cells #[.int .i64 0, .int .i64 0, .int .i64 0, .int .i64 0, .slice none 0 0] 25)).heap.size (w.alloc (.cells #[.int .i64 0, .int .i64 0, .int .i64 0, .int .i64 0, .slice none 0 0] 25)) w1 := by rw [hsA]; exact hb1
  have hs1 : w.heap.size + 1 < w1.heap.size := hd1.lt
  have HR1 : Hid (RowB w1 w.heap.size 25 [.int .i64 0, .int .i64 0, .int .i64 0, .int .i64 0, .slice none 0 0]) := Lib.hid (row_below (heap_alloc_new w (.cells #[.int .i64 0, .int .i64 0, .int .i64 0, .int .i64 0, .slice none 0 0] 25)) hb1')
  have HB1 := Lib.hid (hA.trans (hb1.mono (by omega)))
  have HD1 := Lib.hid hd1
  clear hb1 hb1' hd1 hA hsA
  go_wp2_with fail
  refine (l1Draw_any (w.heap.size + 1) 0 _ HD1.out (by omega)).mono ?_
  rintro e w2 ⟨vt, vb, ts, l, p2, rfl, hit, hst, hts, hsz, hp2, hd2, hg2⟩
  have hs2 := hg2.size
  have HR2 : Hid (RowB w2 w.heap.size 25 [.int .i64 0, .int .i64 0, .int .i64 0, .int .i64 0, .slice none 0 0]) := Lib.hid (row_grown HR1.out hg2 (by omega))
  have HD2 := Lib.hid hd2
  have HB2 := Lib.hid (grown_new HB1.out (by omega) hg2)
  have HST := Lib.hid hst.toS
  clear hit hst hd2 hg2
  go_wp2_with fail
  refine (l2Points_any vt vb l _ w2 HST.out (Nat.le_refl _) (by omega)).mono ?_
  rintro e w3 ⟨vp, rfl, hps, hb3⟩
  obtain ⟨Ap, cp, rfl, hcp, hpl⟩ := hps.slice
  have hs3 := hb3.size
  have HR3 : Hid (RowB w3 w.heap.size 25 [.int .i64 0, .int .i64 0, .int .i64 0, .int .i64 0, .slice none 0 0]) := Lib.hid (row_below HR2.out hb3)
  have HD3 := Lib.hid (HD2.out.low hb3 (by omega))
  have HB3 := Lib.hid (HB2.out.trans (hb3.mono (by omega)))
  have HPS := Lib.hid hps
  have hpp := ptsP_pos l
  have hple : (ptsP l).length ≤ 2000 := by
    have := ptsL_le 0 l
    rw [ptsP_len]; omega
  clear hps hb3 HST
  generalize ptsP l = pts at *
  go_wp2_with fail
  refine (pick_any (w.heap.size + 1) p2 _ _ HD3.out (by omega) (by omega) (by omega)).mono ?_
  rintro e w4 ⟨k, rfl, k0, k1, hd4, hg4⟩
  have k2 := k1 (by omega)
  clear k1
  obtain ⟨k, rfl⟩ := Int.eq_ofNat_of_zero_le k0
  have hkl : k < pts.length := by omega
  have hs4 := hg4.size
  obtain ⟨b, off, c2, A', m', c', e, hc2, d0, d1, d2, d3, d4⟩ := HPS.out.pick (Nat.le_refl _) HD3.out hg4 hkl
  injection e with e1 e2 e3
  subst e1 e3
  clear e2
  have HR4 : Hid (RowB w4 w.heap.size 25 [.int .i64 0, .int .i64 0, .int .i64 0, .int .i64 0, .slice none 0 0]) := Lib.hid (row_grown HR3.out hg4 (by omega))
  have HD4 := Lib.hid hd4
  have HB4 := Lib.hid (grown_new HB3.out (by omega) hg4)
  generalize pts[k]'hkl = s at *
  clear hd4 hg4
  go_upto_region 4 with fail
  have hA5 := bel_a w4 (.cells #[.int .i64 s.op, .int .i64 s.x, .int .i64 s.y, .int .i64 s.n, .slice A' m' c'] 25)
  have hs5 : (w4.alloc (.cells #[.int .i64 s.op, .int .i64 s.x, .int .i64 s.y, .int .i64 s.n, .slice A' m' c'] 25)).heap.size = w4.heap.size + 1 := by simp
  have HX5 : Hid (RowB (w4.alloc (.cells #[.int .i64 s.op, .int .i64 s.x, .int .i64 s.y, .int .i64 s.n, .slice A' m' c'] 25)) w4.heap.size 25 [.int .i64 s.op, .int .i64 s.x, .int .i64 s.y, .int .i64 s.n, (.slice A' m' c' : Value)]) := Lib.hid (RowB.new w4 _ _)
  have HR5 : Hid (RowB (w4.alloc (.cells #[.int .i64 s.op, .int .i64 s.x, .int .i64 s.y, .int .i64 s.n, .slice A' m' c'] 25)) w.heap.size 25 [.int .i64 0, .int .i64 0, .int .i64 0, .int .i64 0, .slice none 0 0]) := Lib.hid (row_below HR4.out hA5)
  have HD5 := Lib.hid (HD4.out.low hA5 (by omega))
  have HB5 := Lib.hid (HB4.out.trans (hA5.mono (by omega)))
  clear d0 d1 d2 d3 d4 hA5 HPS HR4 HD4 HB4
  generalize w4.alloc (.cells #[.int .i64 s.op, .int .i64 s.x, .int .i64 s.y, .int .i64 s.n, .slice A' m' c'] 25) = w5 at *
  obtain ⟨X, hX⟩ : ∃ X, X = w4.heap.size := ⟨_, rfl⟩
  rw [← hX] at HX5 hs5 ⊢
  have hXg : w.heap.size + 1 < X := by omega
  clear hX
  go_wp2_with fail
  refine (pick_any (w.heap.size + 1) (p2 + 1) 12 _ HD5.out (by omega) (by omega) (by omega)).mono ?_
  rintro e w6 ⟨k6, rfl, -, -, hd6, hg6⟩
  have hs6 := hg6.size
  have HX6 : Hid (RowB w6 X 25 [.int .i64 s.op, .int .i64 s.x, .int .i64 s.y, .int .i64 s.n, (.slice A' m' c' : Value)]) := Lib.hid (row_grown HX5.out hg6 (by omega))
  have HR6 : Hid (RowB w6 w.heap.size 25 [.int .i64 0, .int .i64 0, .int .i64 0, .int .i64 0, .slice none 0 0]) := Lib.hid (row_grown HR5.out hg6 (by omega))
  have HD6 := Lib.hid hd6
  have HB6 := Lib.hid (grown_new HB5.out (by omega) hg6)
  clear hd6 hg6 HX5 HR5 HD5 HB5
  by_cases q0 : k6 = 0
  · subst q0
    go_wp2_with fail
    have hA7 := bel_a w6 (.cells #[.int .i64 0, .int .i64 12, .int .i64 (-1), .int .i64 1] 3)
    have hs7 : (w6.alloc (.cells #[.int .i64 0, .int .i64 12, .int .i64 (-1), .int .i64 1] 3)).heap.size = w6.heap.size + 1 := by simp
    refine (num_any (w.heap.size + 1) _ _ [0, 12, -1, 1] 3 _ (HD6.out.low hA7 (by omega)) (by omega) (RowB.new w6 _ _) (by omega) (by simp) (by simp)).mono ?_
    rintro e w7 ⟨z, rfl, -, -, hg7⟩
    have hs8 := hg7.size
    rw [hs7] at hs8
    have HX7 : Hid (RowB w7 X 25 [.int .i64 s.op, .int .i64 s.x, .int .i64 s.y, .int .i64 s.n, (.slice A' m' c' : Value)]) := Lib.hid (row_grown (row_below HX6.out hA7) hg7 (by omega))
    have HR7 : Hid (RowB w7 w.heap.size 25 [.int .i64 0, .int .i64 0, .int .i64 0, .int .i64 0, .slice none 0 0]) := Lib.hid (row_grown (row_below HR6.out hA7) hg7 (by omega))
    have HB7 := Lib.hid (grown_new (HB6.out.trans (hA7.mono (by omega))) (by omega) hg7)
    clear hg7 hA7 hs7 HX6 HR6 HB6 HD6
    have f0 := HX7.out.frozen 0
    have u0 := HX7.out.cell 0
    simp only [List.getElem?_cons_zero] at u0
    go_upto_region 11 with fail
    have HX8 : Hid (RowB (w7.setCell ⟨X, 0, none⟩ (.int .i64 z)) X 25 [.int .i64 z, .int .i64 s.x, .int .i64 s.y, .int .i64 s.n, (.slice A' m' c' : Value)]) := Lib.hid (HX7.out.set_ 0 (.int .i64 z))
    have HR8 : Hid (RowB (w7.setCell ⟨X, 0, none⟩ (.int .i64 z)) w.heap.size 25 [.int .i64 0, .int .i64 0, .int .i64 0, .int .i64 0, .slice none 0 0]) := Lib.hid (HR7.out.other (by omega) 0 (.int .i64 z))
    have HB8 := Lib.hid (HB7.out.trans ((Below.refl w.heap.size w7).setCell (p := ⟨X, 0, none⟩) (show w.heap.size ≤ X by omega) (.int .i64 z)))
    clear f0 u0 HX7 HR7 HB7
    generalize w7.setCell ⟨X, 0, none⟩ (.int .i64 z) = w8 at *
    have x0 := HX8.out.cell 0
    have x1 := HX8.out.cell 1
    have x2 := HX8.out.cell 2
    have x3 := HX8.out.cell 3
    have x4 := HX8.out.cell 4
    simp only [List.getElem?_cons_zero, List.getElem?_cons_succ] at x0 x1 x2 x3 x4
    have r0 := HR8.out.cell 0
    have r1 := HR8.out.cell 1
    have r2 := HR8.out.cell 2
    have r3 := HR8.out.cell 3
    have r4 := HR8.out.cell 4
    simp only [List.getElem?_cons_zero, List.getElem?_cons_succ] at r0 r1 r2 r3 r4
    have f0 := HR8.out.frozen 0
    have f1 := HR8.out.frozen 1
    have f2 := HR8.out.frozen 2
    have f3 := HR8.out.frozen 3
    have f4 := HR8.out.frozen 4
    go_wp2_with fail
    exact bodyPost_ret (results_cell_row rfl _ _ w.heap.size 25 _ (0, 0) _ rfl (RowB.putAll [.int .i64 z, .int .i64 s.x, .int .i64 s.y, .int .i64 s.n, (.slice A' m' c' : Value)] HR8.out rfl) Tryd.underlying25 rfl rfl) rfl ⟨_, _, _, _, _, _, _, rfl, HB8.out.trans (below_putL (Nat.le_refl _) [.int .i64 z, .int .i64 s.x, .int .i64 s.y, .int .i64 s.n, (.slice A' m' c' : Value)] 0 _)⟩
  have e0 : (k6 == 0) = false := by simpa using q0
  clear q0
  by_cases q1 : k6 = 1
  · subst q1
    go_wp2_with fail
    have hA7 := bel_a w6 (.cells #[.int .i64 6, .int .i64 (-1), .int .i64 2] 3)
    have hs7 : (w6.alloc (.cells #[.int .i64 6, .int .i64 (-1), .int .i64 2] 3)).heap.size = w6.heap.size + 1 := by simp
    refine (num_any (w.heap.size + 1) _ _ [6, -1, 2] 3 _ (HD6.out.low hA7 (by omega)) (by omega) (RowB.new w6 _ _) (by omega) (by simp) (by simp)).mono ?_
    rintro e w7 ⟨z, rfl, -, -, hg7⟩
    have hs8 := hg7.size
    rw [hs7] at hs8
    have HX7 : Hid (RowB w7 X 25 [.int .i64 s.op, .int .i64 s.x, .int .i64 s.y, .int .i64 s.n, (.slice A' m' c' : Value)]) := Lib.hid (row_grown (row_below HX6.out hA7) hg7 (by omega))
    have HR7 : Hid (RowB w7 w.heap.size 25 [.int .i64 0, .int .i64 0, .int .i64 0, .int .i64 0, .slice none 0 0]) := Lib.hid (row_grown (row_below HR6.out hA7) hg7 (by omega))
    have HB7 := Lib.hid (grown_new (HB6.out.trans (hA7.mono (by omega))) (by omega) hg7)
    clear hg7 hA7 hs7 HX6 HR6 HB6 HD6
    have f0 := HX7.out.frozen 1
    have u0 := HX7.out.cell 1
    simp only [List.getElem?_cons_zero, List.getElem?_cons_succ] at u0
    go_upto_region 11 with fail
    have HX8 : Hid (RowB (w7.setCell ⟨X, 1, none⟩ (.int .i64 z)) X 25 [.int .i64 s.op, .int .i64 z, .int .i64 s.y, .int .i64 s.n, (.slice A' m' c' : Value)]) := Lib.hid (HX7.out.set_ 1 (.int .i64 z))
    have HR8 : Hid (RowB (w7.setCell ⟨X, 1, none⟩ (.int .i64 z)) w.heap.size 25 [.int .i64 0, .int .i64 0, .int .i64 0, .int .i64 0, .slice none 0 0]) := Lib.hid (HR7.out.other (by omega) 1 (.int .i64 z))
    have HB8 := Lib.hid (HB7.out.trans ((Below.refl w.heap.size w7).setCell (p := ⟨X, 1, none⟩) (show w.heap.size ≤ X by omega) (.int .i64 z)))
    clear f0 u0 HX7 HR7 HB7
    generalize w7.setCell ⟨X, 1, none⟩ (.int .i64 z) = w8 at *
    have x0 := HX8.out.cell 0
    have x1 := HX8.out.cell 1
    have x2 := HX8.out.cell 2
    have x3 := HX8.out.cell 3
    have x4 := HX8.out.cell 4
    simp only [List.getElem?_cons_zero, List.getElem?_cons_succ] at x0 x1 x2 x3 x4
    have r0 := HR8.out.cell 0
    have r1 := HR8.out.cell 1
    have r2 := HR8.out.cell 2
    have r3 := HR8.out.cell 3
    have r4 := HR8.out.cell 4
    simp only [List.getElem?_cons_zero, List.getElem?_cons_succ] at r0 r1 r2 r3 r4
    have f0 := HR8.out.frozen 0
    have f1 := HR8.out.frozen 1
    have f2 := HR8.out.frozen 2
    have f3 := HR8.out.frozen 3
    have f4 := HR8.out.frozen 4
    go_wp2_with fail
    exact bodyPost_ret (results_cell_row rfl _ _ w.heap.size 25 _ (0, 0) _ rfl (RowB.putAll [.int .i64 s.op, .int .i64 z, .int .i64 s.y, .int .i64 s.n, (.slice A' m' c' : Value)] HR8.out rfl) Tryd.underlying25 rfl rfl) rfl ⟨_, _, _, _, _, _, _, rfl, HB8.out.trans (below_putL (Nat.le_refl _) [.int .i64 s.op, .int .i64 z, .int .i64 s.y, .int .i64 s.n, (.slice A' m' c' : Value)] 0 _)⟩
  have e1 : (k6 == 1) = false := by simpa using q1
  clear q1
  by_cases q2 : k6 = 2
  · subst q2
    go_wp2_with fail
    have hA7 := bel_a w6 (.cells #[.int .i64 1, .int .i64 10, .int .i64 (-1)] 3)
    have hs7 : (w6.alloc (.cells #[.int .i64 1, .int .i64 10, .int .i64 (-1)] 3)).heap.size = w6.heap.size + 1 := by simp
    refine (num_any (w.heap.size + 1) _ _ [1, 10, -1] 3 _ (HD6.out.low hA7 (by omega)) (by omega) (RowB.new w6 _ _) (by omega) (by simp) (by simp)).mono ?_
    rintro e w7 ⟨z, rfl, -, -, hg7⟩
    have hs8 := hg7.size
    rw [hs7] at hs8
    have HX7 : Hid (RowB w7 X 25 [.int .i64 s.op, .int .i64 s.x, .int .i64 s.y, .int .i64 s.n, (.slice A' m' c' : Value)]) := Lib.hid (row_grown (row_below HX6.out hA7) hg7 (by omega))
    have HR7 : Hid (RowB w7 w.heap.size 25 [.int .i64 0, .int .i64 0, .int .i64 0, .int .i64 0, .slice none 0 0]) := Lib.hid (row_grown (row_below HR6.out hA7) hg7 (by omega))
    have HB7 := Lib.hid (grown_new (HB6.out.trans (hA7.mono (by omega))) (by omega) hg7)
    clear hg7 hA7 hs7 HX6 HR6 HB6 HD6
    have f0 := HX7.out.frozen 3
    have u0 := HX7.out.cell 3
    simp only [List.getElem?_cons_zero, List.getElem?_cons_succ] at u0
    go_upto_region 11 with fail
    have HX8 : Hid (RowB (w7.setCell ⟨X, 3, none⟩ (.int .i64 z)) X 25 [.int .i64 s.op, .int .i64 s.x, .int .i64 s.y, .int .i64 z, (.slice A' m' c' : Value)]) := Lib.hid (HX7.out.set_ 3 (.int .i64 z))
    have HR8 : Hid (RowB (w7.setCell ⟨X, 3, none⟩ (.int .i64 z)) w.heap.size 25 [.int .i64 0, .int .i64 0, .int .i64 0, .int .i64 0, .slice none 0 0]) := Lib.hid (HR7.out.other (by omega) 3 (.int .i64 z))
    have HB8 := Lib.hid (HB7.out.trans ((Below.refl w.heap.size w7).setCell (p := ⟨X, 3, none⟩) (show w.heap.size ≤ X by omega) (.int .i64 z)))
    clear f0 u0 HX7 HR7 HB7
    generalize w7.setCell ⟨X, 3, none⟩ (.int .i64 z) = w8 at *
    have x0 := HX8.out.cell 0
    have x1 := HX8.out.cell 1
    have x2 := HX8.out.cell 2
    have x3 := HX8.out.cell 3
    have x4 := HX8.out.cell 4
    simp only [List.getElem?_cons_zero, List.getElem?_cons_succ] at x0 x1 x2 x3 x4
    have r0 := HR8.out.cell 0
    have r1 := HR8.out.cell 1
    have r2 := HR8.out.cell 2
    have r3 := HR8.out.cell 3
    have r4 := HR8.out.cell 4
    simp only [List.getElem?_cons_zero, List.getElem?_cons_succ] at r0 r1 r2 r3 r4
    have f0 := HR8.out.frozen 0
    have f1 := HR8.out.frozen 1
    have f2 := HR8.out.frozen 2
    have f3 := HR8.out.frozen 3
    have f4 := HR8.out.frozen 4
    go_wp2_with fail
    exact bodyPost_ret (results_cell_row rfl _ _ w.heap.size 25 _ (0, 0) _ rfl (RowB.putAll [.int .i64 s.op, .int .i64 s.x, .int .i64 s.y, .int .i64 z, (.slice A' m' c' : Value)] HR8.out rfl) Tryd.underlying25 rfl rfl) rfl ⟨_, _, _, _, _, _, _, rfl, HB8.out.trans (below_putL (Nat.le_refl _) [.int .i64 s.op, .int .i64 s.x, .int .i64 s.y, .int .i64 z, (.slice A' m' c' : Value)] 0 _)⟩
  have e2 : (k6 == 2) = false := by simpa using q2
  clear q2
  have x0 := HX6.out.cell 0
  have x1 := HX6.out.cell 1
  have x2 := HX6.out.cell 2
  have x3 := HX6.out.cell 3
  have x4 := HX6.out.cell 4
  simp only [List.getElem?_cons_zero, List.getElem?_cons_succ] at x0 x1 x2 x3 x4
  have r0 := HR6.out.cell 0
  have r1 := HR6.out.cell 1
  have r2 := HR6.out.cell 2
  have r3 := HR6.out.cell 3
  have r4 := HR6.out.cell 4
  simp only [List.getElem?_cons_zero, List.getElem?_cons_succ] at r0 r1 r2 r3 r4
  have f0 := HR6.out.frozen 0
  have f1 := HR6.out.frozen 1
  have f2 := HR6.out.frozen 2
  have f3 := HR6.out.frozen 3
  have f4 := HR6.out.frozen 4
  go_wp2_with fail
  exact bodyPost_ret (results_cell_row rfl _ _ w.heap.size 25 _ (0, 0) _ rfl (RowB.putAll [.int .i64 s.op, .int .i64 s.x, .int .i64 s.y, .int .i64 s.n, (.slice A' m' c' : Value)] HR6.out rfl) Tryd.underlying25 rfl rfl) rfl ⟨_, _, _, _, _, _, _, rfl, HB6.out.trans (below_putL (Nat.le_refl _) [.int .i64 s.op, .int .i64 s.x, .int .i64 s.y, .int .i64 s.n, (.slice A' m' c' : Value)] 0 _)⟩
theorem drawCountChoices_any (A : Option Addr) (n c : Nat) (w : World) (hb : Byt w w.heap.size A n) (hn : n ≤ 1048576) (hc : n ≤ c) :
    Calls Tryd.prog 5 #[.slice A n c] w (DrRes w) := by
  have HB := Lib.hid hb
  clear hb
  go_enter Tryd.func5, Tryd.ntmps5
  go_wp2_with fail
  have hA := bel_a w (.cells #[.slice none 0 0, .slice none 0 0] 29)
  have hsA : (w.alloc (.cells #[.slice none 0 0, .slice none 0 0] 29)).heap.size = w.heap.size + 1 := by simp
  refine (l17Open_any A n c _ (by rw [hsA]; exact (HB.out.keep fun b o hb => hA.cell (p := ⟨b, o, none⟩) hb).more (by omega)) hn hc).mono ?_
  rw [hsA]
  rintro e w1 ⟨rfl, hd1, hb1⟩
  have hb1' : Below (w.alloc (.cells #[.slice none 0 0, .slice none 0 0] 29)).heap.size (w.alloc (.cells #[.slice none 0 0, .slice none 0 0] 29)) w1 := by rw [hsA]; exact hb1
  have hs1 : w.heap.size + 1 < w1.heap.size := hd1.lt
  have HR1 : Hid (RowB w1 w.heap.size 29 [.slice none 0 0, .slice none 0 0]) := Lib.hid (row_below (heap_alloc_new w (.cells #[.slice none 0 0, .slice none 0 0] 29)) hb1')
  have HB1 := Lib.hid (hA.trans (hb1.mono (by omega)))
  have HD1 := Lib.hid hd1
  clear hb1 hb1' hd1 hA hsA
  go_wp2_with fail
  refine (l2Branch_any (w.heap.size + 1) 0 _ HD1.out (by omega)).mono ?_
  rintro e w2 ⟨vt, vb, ts, l, p2, rfl, hit, hst, hts, hsz, hp2, hd2, hg2⟩
  have hs2 := hg2.size
  have HR2 : Hid (RowB w2 w.heap.size 29 [.slice none 0 0, .slice none 0 0]) := Lib.hid (row_grown HR1.out hg2 (by omega))
  have HB2 := Lib.hid (grown_new HB1.out (by omega) hg2)
  have HIT := Lib.hid hit
  have HST := Lib.hid hst
  obtain ⟨At, ct, rfl, -⟩ := hit.slice
  obtain ⟨Ab, cb, rfl, -⟩ := hst.slice
  clear hit hst hd2 hg2
  have r0 := HR2.out.cell 0
  have r1 := HR2.out.cell 1
  simp only [List.getElem?_cons_zero, List.getElem?_cons_succ] at r0 r1
  have f0 := HR2.out.frozen 0
  have f1 := HR2.out.frozen 1
  go_wp2_with fail
  refine bodyPost_ret (results_cell_row rfl _ _ w.heap.size 29 _ (0, 0) _ rfl (RowB.putAll [.slice At ts.length ct, .slice Ab l.length cb] HR2.out rfl) Tryd.underlying29 rfl rfl) rfl ?_
  have hk : ∀ b, w1.heap.size ≤ b → b < w2.heap.size → w.heap.size ≤ b ∧ (w2.setCells w.heap.size 0 [.slice At ts.length ct, .slice Ab l.length cb]).heap[b]? = w2.heap[b]? := fun b hb _ => ⟨by omega, heap_putL (by omega) _ 0 w2⟩
  have hz : w2.heap.size ≤ (w2.setCells w.heap.size 0 [.slice At ts.length ct, .slice Ab l.length cb]).heap.size := Nat.le_of_eq (size_putL _ 0 w2).symm
  exact ⟨_, _, ts, l, rfl, HIT.out.frame hz hk, HST.out.frame hz hk, by omega, by omega, HB2.out.trans (below_putL (Nat.le_refl _) [.slice At ts.length ct, .slice Ab l.length cb] 0 _)⟩

end Go.Proofs.YtfioaohadanjmaaDoor

/- FnPointText: the walk. -/
namespace Go.Proofs.YtfioaohadanjmaaDoor
open Go.RowKit

theorem pts_law {ts : List Int} {l : List St} : ∀ p ∈ pointsP ts l, ptxT p.op p.x p.y p.n ≠ ⟨#[]⟩ ∧ ((ptxT p.op p.x p.y p.n = ⟨#[105, 102]⟩ ∨ ptxT p.op p.x p.y p.n = ⟨#[108, 111, 111, 112]⟩) ↔ p.next.length = 2) := by
  intro p hp
  unfold pointsP at hp
  cases hv : validP ts l
  · rw [hv] at hp; simp at hp
  · rw [hv, if_pos rfl] at hp
    exact ptx_choice (ts6 (valid_parts hv).1) (nxP_ok hv p hp)
theorem ba_ne {U : ByteArray} {l : List UInt8} (h : U ≠ ⟨l.toArray⟩) : (U.toList == l) = false := by
  rw [← Bool.not_eq_true]
  intro e
  have e : U.toList = l := by simpa using e
  rw [ByteArray.toList_eq] at e
  subst e
  exact h (by cases U; simp)
theorem DrRes.open_ {w : World} {e : Ending} {w' : World} (h : DrRes w e w') : ∃ (vt vb : Value) (ts : List Int) (l : List St), e = .returned (.agg #[vt, vb]) ∧ IntX w' (fun b => w.heap.size ≤ b) vt ts ∧ StX w' (fun b => w.heap.size ≤ b) vb l ∧ ts.length ≤ 700 ∧ szL l ≤ 100000 ∧ Below w.heap.size w w' := h
/-- what the calls keep: the point's box, the program's box -/
def HdP (W : World) (x : Nat) (v0 v1 v2 v3 v4 : Value) (g : Nat) (vt vb : Value) (w' : World) : Prop :=
  w'.cell? ⟨x, 0, none⟩ = some v0 ∧ w'.cell? ⟨x, 1, none⟩ = some v1 ∧ w'.cell? ⟨x, 2, none⟩ = some v2 ∧ w'.cell? ⟨x, 3, none⟩ = some v3 ∧ w'.cell? ⟨x, 4, none⟩ = some v4 ∧ w'.cell? ⟨g, 0, none⟩ = some vt ∧ w'.cell? ⟨g, 1, none⟩ = some vb ∧ Below W.heap.size W w' ∧ x < W.heap.size ∧ g < W.heap.size
theorem HdP.step {W : World} {x : Nat} {v0 v1 v2 v3 v4 : Value} {g : Nat} {vt vb : Value} {w' w'' : World} (h : HdP W x v0 v1 v2 v3 v4 g vt vb w') (hb : Below w'.heap.size w' w'') : HdP W x v0 v1 v2 v3 v4 g vt vb w'' := by
  obtain ⟨h0, h1, h2, h3, h4, k0, k1, hB, hx, hg⟩ := h
  have hs := hB.size
  have hc : ∀ o, w''.cell? ⟨x, o, none⟩ = w'.cell? ⟨x, o, none⟩ := fun o => hb.cell (p := ⟨x, o, none⟩) (by show x < _; omega)
  have hd : ∀ o, w''.cell? ⟨g, o, none⟩ = w'.cell? ⟨g, o, none⟩ := fun o => hb.cell (p := ⟨g, o, none⟩) (by show g < _; omega)
  exact ⟨(hc 0).trans h0, (hc 1).trans h1, (hc 2).trans h2, (hc 3).trans h3, (hc 4).trans h4, (hd 0).trans k0, (hd 1).trans k1, hB.trans (hb.mono hs), hx, hg⟩
set_option maxHeartbeats 8000000
set_option maxRecDepth 100000
theorem fnPointText_any (A : Option Addr) (n c : Nat) (w : World) (A' : Option Addr) (n' c' : Nat) (hb : Byt w w.heap.size A n) (hm : n ≤ maxLen) (hc : n ≤ c) (hb' : Byt w w.heap.size A' n') (hm' : n' ≤ maxLen) (hc' : n' ≤ c') :
    Calls Tryd.prog 3 #[.slice A n c, .slice A' n' c'] w (LawRet w) := by
  have HB := Lib.hid hb
  have HB2 := Lib.hid hb'
  clear hb hb'
  by_cases hn : n ≤ 1048576
  · by_cases hn' : n' ≤ 1048576
    · go_enter Tryd.func3, Tryd.ntmps3
      go_wp2_with fail
      refine (drawPointText_any A n c _ HB.out hn hc).mono ?_
      rintro e w1 ⟨op, x, y, m, Ax, kx, cx, rfl, hb1⟩
      have HX1 : Hid (RowB (w1.alloc (.cells #[.int .i64 op, .int .i64 x, .int .i64 y, .int .i64 m, .slice Ax kx cx] 25)) w1.heap.size 25 [.int .i64 op, .int .i64 x, .int .i64 y, .int .i64 m, .slice Ax kx cx]) := Lib.hid (RowB.new w1 _ _)
      have HBL1 := Lib.hid (hb1.trans ((bel_a w1 (.cells #[.int .i64 op, .int .i64 x, .int .i64 y, .int .i64 m, .slice Ax kx cx] 25)).mono hb1.size))
      clear hb1
      go_upto_region 4 with fail
      generalize w1.alloc (.cells #[.int .i64 op, .int .i64 x, .int .i64 y, .int .i64 m, .slice Ax kx cx] 25) = W1 at *
      obtain ⟨xb, hxb⟩ : ∃ xb, xb = w1.heap.size := ⟨_, rfl⟩
      rw [← hxb] at HX1 ⊢
      clear hxb
      go_wp2_with fail
      refine (drawCountChoices_any A' n' c' _ ((HB2.out.keep fun b o hb => HBL1.out.cell (p := ⟨b, o, none⟩) hb).more HBL1.out.size) hn' hc').mono ?_
      rintro e w2 hdr
      obtain ⟨vt, vb, ts, l, rfl, hit, hst, hts, hsz, hb2⟩ := hdr.open_
      have HP2 := Lib.hid (PgB.new hit hst hb2)
      obtain ⟨At, ct, rfl, hct⟩ := hit.slice
      obtain ⟨Ab, cb, rfl, hcb⟩ := hst.slice
      clear hit hst hb2 hdr
      go_upto_region 5 with fail
      generalize w2.alloc (.cells #[.slice At ts.length ct, .slice Ab l.length cb] 29) = W2 at *
      obtain ⟨g, hg⟩ : ∃ g, g = w2.heap.size := ⟨_, rfl⟩
      rw [← hg] at HP2 ⊢
      clear hg
      have c0 := HP2.out.c0
      have c1 := HP2.out.c1
      go_wp2_with fail
      refine (iCountChoices_any _ _ ts l _ _ HP2.out.ht HP2.out.hl (Nat.le_refl _) (by omega)).mono ?_
      rintro e w3 ⟨rfl, hb3⟩
      have HP3 := Lib.hid (HP2.out.bels hb3)
      clear hb3 c0 c1
      have c0 := HP3.out.c0
      have c1 := HP3.out.c1
      go_wp2_with fail
      refine (iPointsOf_any _ _ ts l _ _ HP3.out.ht HP3.out.hl (Nat.le_refl _) (by omega)).mono ?_
      rintro e w4 ⟨vp, rfl, hps, hb4⟩
      have HP4 := Lib.hid (HP3.out.bels hb4)
      have HPS := Lib.hid hps
      obtain ⟨Ap, cp, rfl, hcp, hpl⟩ := hps.slice
      have hlx := HX1.out.lt
      have HX4 : Hid (RowB w4 xb 25 [.int .i64 op, .int .i64 x, .int .i64 y, .int .i64 m, .slice Ax kx cx]) := Lib.hid (row_below HX1.out HP4.out.bel)
      have HBL4 := Lib.hid (HBL1.out.trans (HP4.out.bel.mono HBL1.out.size))
      clear hps hb4 c0 c1 hlx
      have c0 := HP4.out.c0
      have c1 := HP4.out.c1
      have x0 := HX4.out.cell 0
      have x1 := HX4.out.cell 1
      have x2 := HX4.out.cell 2
      have x3 := HX4.out.cell 3
      have x4 := HX4.out.cell 4
      simp only [List.getElem?_cons_zero, List.getElem?_cons_succ] at x0 x1 x2 x3 x4
      have hlx := HX4.out.lt
      have hlg := HP4.out.lt
      have HLAW := Lib.hid (pts_law (ts := ts) (l := l))
      have CI : Hid (∀ w', Below w4.heap.size w4 w' → Calls Tryd.prog 10 #[.agg #[.slice At ts.length ct, .slice Ab l.length cb]] w' (ChNRet (chN (pointsP ts l)) w')) := Lib.hid fun w' h => sCountChoices_any _ _ ts l w4.heap.size w' (HP4.out.ht.low h (Nat.le_refl _)) (HP4.out.hl.low h (Nat.le_refl _)) h.size (by omega)
      generalize pointsP ts l = pts at *
      obtain ⟨T, hT⟩ : ∃ T, T = ptxT op x y m := ⟨_, rfl⟩
      have CP : Hid (∀ w', Calls Tryd.prog 8 #[.agg #[.int .i64 op, .int .i64 x, .int .i64 y, .int .i64 m, .slice Ax kx cx]] w' (TxRet T w')) := Lib.hid fun w' => by rw [hT]; exact iPointText_any op x y m Ax kx cx w'
      have CS : Hid (∀ w', Calls Tryd.prog 9 #[.agg #[.int .i64 op, .int .i64 x, .int .i64 y, .int .i64 m, .slice Ax kx cx]] w' (TxRet T w')) := Lib.hid fun w' => by rw [hT]; exact sPointText_any op x y m Ax kx cx w'
      clear hT
      have hne : (((chN pts : Nat) : Int) != ((chN pts : Nat) : Int)) = false := by simp
      have BEL : Hid (∀ w', (w'.cell? ⟨xb, 0, none⟩ = some (.int .i64 op) ∧ w'.cell? ⟨xb, 1, none⟩ = some (.int .i64 x) ∧ w'.cell? ⟨xb, 2, none⟩ = some (.int .i64 y) ∧ w'.cell? ⟨xb, 3, none⟩ = some (.int .i64 m) ∧ w'.cell? ⟨xb, 4, none⟩ = some (.slice Ax kx cx) ∧ w'.cell? ⟨g, 0, none⟩ = some (.slice At ts.length ct) ∧ w'.cell? ⟨g, 1, none⟩ = some (.slice Ab l.length cb) ∧ Below w4.heap.size w4 w' ∧ xb < w4.heap.size ∧ g < w4.heap.size) → Below w4.heap.size w4 w') := Lib.hid fun w' h => h.2.2.2.2.2.2.2.1
      go_wp2_with fail
      go_region_held3 (fun w' => (w'.cell? ⟨xb, 0, none⟩ = some (.int .i64 op) ∧ w'.cell? ⟨xb, 1, none⟩ = some (.int .i64 x) ∧ w'.cell? ⟨xb, 2, none⟩ = some (.int .i64 y) ∧ w'.cell? ⟨xb, 3, none⟩ = some (.int .i64 m) ∧ w'.cell? ⟨xb, 4, none⟩ = some (.slice Ax kx cx) ∧ w'.cell? ⟨g, 0, none⟩ = some (.slice At ts.length ct) ∧ w'.cell? ⟨g, 1, none⟩ = some (.slice Ab l.length cb) ∧ Below w4.heap.size w4 w' ∧ xb < w4.heap.size ∧ g < w4.heap.size))
        (first | exact ⟨x0, x1, x2, x3, x4, c0, c1, (Below.refl _ _).drew, hlx, hlg⟩ | exact HdP.step (by assumption) (by assumption) | go_keep)
        (first
          | (go_at_call 8; (with_reducible refine (CP.out _).mono ?_); (rintro e w5 ⟨rfl, hb5⟩))
          | (go_at_call 9; (with_reducible refine (CS.out _).mono ?_); (rintro e w6 ⟨rfl, hb6⟩))
          | (go_at_call 10; (with_reducible refine (CI.out _ (BEL.out _ (by assumption))).mono ?_); (rintro e w7 ⟨rfl, hb7⟩)))
      all_goals
        have HBW7 : Hid (Below w4.heap.size w4 w7) := Lib.hid (BEL.out _ (by assumption))
        have HPS7 := Lib.hid (HPS.out.bel HBW7.out)
        have HBL7 := Lib.hid (HBL4.out.trans (HBW7.out.mono HBL4.out.size))
        clear c0 c1 x0 x1 x2 x3 x4 CP CS CI hne BEL HPS HB HB2 HX1 HBL1 HP2 HP3 HP4 HX4 HBL4
        go_wp2_with fail
        go_loopw [9, 10] (fun cnt i wr => ∃ k : Nat, k ≤ pts.length ∧ i = .int .i64 k ∧ cnt = .int .i64 (chN (pts.take k) : Nat) ∧ Below w7.heap.size w7 wr) (fun _ i _ => pts.length - (intOf i).toNat)
        case atStart => exact ⟨0, Nat.zero_le _, rfl, rfl, Below.refl _ _⟩
        case round =>
          obtain ⟨k, hk, rfl, rfl, hbw⟩ := hrel
          have HBW := Lib.hid hbw
          have hsw := hbw.size
          have hcn := chN_le pts k
          clear hbw
          by_cases hlt : k < pts.length
          · obtain ⟨b, o, cc, nv, e, hbb, -, -, hnx, d0, d1, d2, d3, d4⟩ := (HPS7.out.low HBW.out (Nat.le_refl _)).get hlt
            injection e with e1 e2 e3
            subst e1 e3
            clear e2
            obtain ⟨Ay, cy, rfl, hcy, -⟩ := hnx
            have HCT := Lib.hid (chN_take hlt)
            have hlw := HLAW.out _ (List.getElem_mem hlt)
            simp only [List.length_map] at *
            generalize hml : pts[k].next.length = q at *
            generalize pts[k]'hlt = s at *
            obtain ⟨C, hC⟩ : ∃ C, C = chN (pts.take k) := ⟨_, rfl⟩
            rw [← hC] at HCT hcn ⊢
            clear hml hC
            go_wp2_with fail
            refine (iPointText_any s.op s.x s.y s.n Ay q cy _).mono ?_
            rintro e w8 ⟨rfl, hb8⟩
            have HB8 := Lib.hid (HBW.out.trans (hb8.mono hsw))
            clear hb8
            obtain ⟨h1, h2⟩ := hlw
            generalize ptxT s.op s.x s.y s.n = U at *
            have m1 := ba_ne (l := []) h1
            have m0 : U.toList.isEmpty = false := by
              cases hU : U.toList with
              | nil => rw [hU] at m1; simp at m1
              | cons _ _ => rfl
            by_cases u1 : U = ⟨#[105, 102]⟩
            · subst u1
              have hq : q = 2 := h2.1 (.inl rfl)
              subst hq
              clear h1 h2 m1 m0
              go_wp2_with fail
              exact ⟨⟨k + 1, by omega, by go_num, by rw [HCT.out]; rfl, HB8.out⟩, by simp [intOf] <;> omega⟩
            by_cases u2 : U = ⟨#[108, 111, 111, 112]⟩
            · subst u2
              have hq : q = 2 := h2.1 (.inr rfl)
              subst hq
              clear h1 h2 m1 m0 u1
              go_wp2_with fail
              exact ⟨⟨k + 1, by omega, by go_num, by rw [HCT.out]; rfl, HB8.out⟩, by simp [intOf] <;> omega⟩
            have m2 := ba_ne (l := [105, 102]) u1
            have m3 := ba_ne (l := [108, 111, 111, 112]) u2
            have HQ : Hid (¬ q = 2) := Lib.hid fun hq => (h2.2 hq).elim u1 u2
            clear h2 u1 u2 h1
            go_wp2_with fail
            exact ⟨⟨k + 1, by omega, by go_num, by rw [HCT.out, if_neg HQ.out]; rfl, HB8.out⟩, by simp [intOf] <;> omega⟩
          · have HJ := Lib.hid (show k = pts.length by omega)
            go_wp2_with fail
            go_ret
            exact ⟨ret_bool (by rw [chN_all HJ.out]; simp), HBL7.out.trans (HBW.out.mono HBL7.out.size)⟩
    · have d : decide ((n' : Int) > 1048576) = true := decide_eq_true (by omega)
      go_enter Tryd.func3, Tryd.ntmps3
      go_wp2_with fail
      go_ret
      exact ⟨rfl, Below.refl _ _⟩
  · have d : decide ((n : Int) > 1048576) = true := decide_eq_true (by omega)
    go_enter Tryd.func3, Tryd.ntmps3
    go_wp2_with fail
    go_ret
    exact ⟨rfl, Below.refl _ _⟩

end Go.Proofs.YtfioaohadanjmaaDoor
