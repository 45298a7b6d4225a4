import Derived.Test.YtfioaohadanjmaaA10
import Derived.Test.YtfioaohadanjmaaA01
import Derived.Laws.Concat
import Derived.Laws.IdiomStrings
import Derived.Deep.RegionHeld3
set_option linter.unusedVariables false

/- The sizes of arguments: szIntS, szStmt, szStmtS, szProgram. -/
namespace Go.Proofs.Ytfioaohadanjmaa
open Go.RowKit

set_option maxHeartbeats 400000 in
theorem szIntS_any (v : Value) (xs : List Int) (left : Int) (B : Nat) (w : World) (h : AnI w B v xs) (h0 : 0 ≤ left) (h1 : left ≤ 1048576) :
    Calls Try.prog 34 #[v, .int .i64 left] w fun e w' => e = .returned (.int .i64 (leftP left xs.length)) ∧ w = w' := by
  obtain ⟨A, c, rfl, hc, hm, -⟩ := h
  rw [maxLen_eq] at hm
  by_cases hlt : left < (xs.length : Int)
  · have HR : Hid (leftP left xs.length = -1) := Lib.hid (if_pos hlt)
    go_enter Try.func34, Try.ntmps34
    have hx : left - (xs.length : Int) < 0 := by omega
    go_wp2_with (at_builtin; fail)
    go_ret
    exact ⟨by rw [HR.out]; rfl, rfl⟩
  · have HR : Hid (leftP left xs.length = left - xs.length) := Lib.hid (if_neg hlt)
    go_enter Try.func34, Try.ntmps34
    have hx : ¬ left - (xs.length : Int) < 0 := by omega
    go_wp2_with (at_builtin; fail)
    go_ret
    exact ⟨by rw [HR.out]; rfl, rfl⟩
theorem szL_drop (l : List St) (k : Nat) : szL (l.take k) + (l.length - k) ≤ szL l := by
  have := szL_append (l.take k) (l.drop k)
  rw [List.take_append_drop] at this
  have h2 := len_le_szL (l.drop k)
  rw [List.length_drop] at h2
  omega
def SzOk (m : Nat) : Prop := ∀ (v : Value) (l : List St) (left : Int) (B : Nat) (w : World), szL l ≤ m → StS w B v l → Lens l → B ≤ w.heap.size → 0 ≤ left → left ≤ 1048576 →
  Calls Try.prog 35 #[v, .int .i64 left] w fun e w' => e = .returned (.int .i64 (leftP left (szL l))) ∧ Below w.heap.size w w'
set_option maxHeartbeats 400000 in
theorem szStmt_of (m : Nat) (ih : SzOk m) (op x y n : Int) (tv ev : Value) (th el : List St) (left : Int) (B : Nat) (w : World) (h1 : szL th ≤ m) (h2 : szL el ≤ m) (ht : StS w B tv th) (he : StS w B ev el) (lt : Lens th) (le : Lens el) (hB : B ≤ w.heap.size) (l0 : 0 ≤ left) (l1 : left ≤ 1048576) :
    Calls Try.prog 67 #[.agg #[.int .i64 op, .int .i64 x, .int .i64 y, .int .i64 n, tv, ev], .int .i64 left] w fun e w' => e = .returned (.int .i64 (leftP left (szL th + szL el))) ∧ Below w.heap.size w w' := by
  obtain ⟨A1, c1, rfl, hc1⟩ := ht.slice
  obtain ⟨A2, c2, rfl, hc2⟩ := he.slice
  have IH := Lib.hid ih
  have HX := Lib.hid (RowB.new w [.int .i64 op, .int .i64 x, .int .i64 y, .int .i64 n, .slice A1 th.length c1, .slice A2 el.length c2] 107)
  have HB1 := Lib.hid (bel_a w (.cells #[.int .i64 op, .int .i64 x, .int .i64 y, .int .i64 n, .slice A1 th.length c1, .slice A2 el.length c2] 107))
  have HT := Lib.hid (ht.low HB1.out hB)
  have HE := Lib.hid (he.low HB1.out hB)
  have HLT := Lib.hid lt
  have HLE := Lib.hid le
  have HA := Lib.hid (leftP_add (left := left) (a := szL th) (b := szL el))
  clear ht he lt le ih
  go_enter Try.func67, Try.ntmps67
  go_upto_region 1 with (at_builtin; fail)
  generalize w.alloc (.cells #[.int .i64 op, .int .i64 x, .int .i64 y, .int .i64 n, .slice A1 th.length c1, .slice A2 el.length c2] 107) = W at *
  have u4 : W.cell? ⟨w.heap.size, 4, none⟩ = some (.slice A1 th.length c1) := HX.out.cell 4
  have u5 : W.cell? ⟨w.heap.size, 5, none⟩ = some (.slice A2 el.length c2) := HX.out.cell 5
  have hsW := HB1.out.size
  go_wp2_with (at_builtin; fail)
  refine (IH.out _ th left B W h1 HT.out HLT.out (by omega) l0 l1).mono ?_
  rintro e w1 ⟨rfl, hb1⟩
  have HB2 := Lib.hid (HB1.out.trans (hb1.mono hsW))
  have u5 : w1.cell? ⟨w.heap.size, 5, none⟩ = some (.slice A2 el.length c2) := (hb1.cell (p := ⟨w.heap.size, 5, none⟩) HX.out.lt).trans u5
  have HE := Lib.hid (HE.out.low hb1 (by omega))
  clear hb1 u4
  by_cases hn : leftP left (szL th) < 0
  · obtain ⟨e1, e2⟩ := leftP_neg hn
    have HR : Hid (leftP left (szL th + szL el) = -1) := Lib.hid (by rw [HA.out, if_pos e2])
    rw [e1] at *
    clear e1 hn
    go_wp2_with (at_builtin; fail)
    go_ret
    exact ⟨by rw [HR.out]; rfl, HB2.out⟩
  · obtain ⟨e2, e1⟩ := leftP_nn (by omega : 0 ≤ leftP left (szL th))
    have HR : Hid (leftP left (szL th + szL el) = leftP (left - szL th) (szL el)) := Lib.hid (by rw [HA.out, if_neg (by omega)])
    generalize leftP left (szL th) = L1 at *
    have HL1 := Lib.hid e1
    have hl1 : 0 ≤ L1 := by omega
    have hl2 : L1 ≤ 1048576 := by omega
    clear e1 hn e2
    have hsW1 := HB2.out.size
    go_wp2_with (at_builtin; fail)
    refine (IH.out _ el L1 B w1 h2 HE.out HLE.out (by omega) hl1 hl2).mono ?_
    rintro e w2 ⟨rfl, hb2⟩
    have HB3 := Lib.hid (HB2.out.trans (hb2.mono hsW1))
    clear hb2
    rw [HL1.out, ← HR.out]
    by_cases hn : leftP left (szL th + szL el) < 0
    · have e1 := (leftP_neg hn).1
      rw [e1]
      have HE1 := Lib.hid e1
      clear e1 hn
      go_wp2_with (at_builtin; fail)
      go_ret
      exact ⟨by rw [HE1.out]; rfl, HB3.out⟩
    · obtain ⟨L2, hL2⟩ : ∃ L2, L2 = leftP left (szL th + szL el) := ⟨_, rfl⟩
      rw [← hL2] at hn ⊢
      have HL2 := Lib.hid hL2
      clear hL2
      go_wp2_with (at_builtin; fail)
      go_ret
      exact ⟨by rw [← HL2.out]; rfl, HB3.out⟩
set_option maxHeartbeats 800000 in
theorem szS_of (m : Nat) (ih : ∀ j, j < m → SzOk j) : SzOk m := by
  intro v l left B w hm hl hL hB h0 h1
  have hll := hL.le
  rw [maxLen_eq] at hll
  obtain ⟨A, c, rfl, hc⟩ := hl.slice
  have IH := Lib.hid ih
  have HL := Lib.hid hl
  have HLN := Lib.hid hL
  have HLE := Lib.hid (len_le_szL l)
  clear ih hl hL
  by_cases hlt : left < (l.length : Int)
  · have HR : Hid (leftP left (szL l) = -1) := Lib.hid (if_pos (by have := HLE.out; omega))
    go_enter Try.func35, Try.ntmps35
    have hx : left - (l.length : Int) < 0 := by omega
    go_wp2_with (at_builtin; fail)
    go_ret
    exact ⟨by rw [HR.out]; rfl, Below.refl _ _⟩
  · have hx : ¬ left - (l.length : Int) < 0 := by omega
    go_enter Try.func35, Try.ntmps35
    go_wp2_with (at_builtin; fail)
    go_loopw [1, 5] (fun v i wr => ∃ (k : Nat) (L : Int), k ≤ l.length ∧ i = .int .i64 k ∧ v = .int .i64 L ∧ L = left - l.length - (szL (l.take k) - k) ∧ 0 ≤ L ∧ L ≤ 1048576 ∧ Below w.heap.size w wr) (fun _ i _ => l.length - (intOf i).toNat)
    case atStart => exact ⟨0, _, Nat.zero_le _, rfl, rfl, by simp [szL], by omega, by omega, Below.refl _ _⟩
    case round =>
      obtain ⟨k, L, hk, rfl, rfl, hLe, hL0, hL1, hbw⟩ := hrel
      have HLE2 := Lib.hid hLe
      have HBW := Lib.hid hbw
      have hsr := hbw.size
      clear hLe
      by_cases hlk : k < l.length
      · have hl2 := HL.out.low hbw hB
        have hsz := szL_mem hlk
        rw [l[k].sz_eq] at hsz
        obtain ⟨b, off, tv, ev, rfl, hb, hth, hel, c0, c1, c2, c3, c4, c5⟩ := hl2.get hlk
        obtain ⟨A4, n4, rfl, -⟩ := hth.slice
        obtain ⟨A5, n5, rfl, -⟩ := hel.slice
        have HTH := Lib.hid hth
        have HEL := Lib.hid hel
        have HLT := Lib.hid (HLN.out.th hlk)
        have HLL := Lib.hid (HLN.out.el hlk)
        have HTS := Lib.hid (szL_take_succ l k hlk)
        have HDR := Lib.hid (szL_drop l (k + 1))
        have HLK := Lib.hid hlk
        generalize l[k]'hlk = s at *
        clear hl2 hth hel hbw
        go_wp2_with (at_builtin; fail)
        refine (szStmt_of (max (szL s.th) (szL s.el)) (IH.out _ (by omega)) s.op s.x s.y s.n _ _ s.th s.el L B wr (by omega) (by omega) HTH.out HEL.out HLT.out HLL.out (by omega) hL0 hL1).mono ?_
        rintro e w2 ⟨rfl, hb2⟩
        have HB3 := Lib.hid (HBW.out.trans (hb2.mono hsr))
        clear hb2 c0 c1 c2 c3 c4 c5
        by_cases hn : leftP L (szL s.th + szL s.el) < 0
        · obtain ⟨e1, e2⟩ := leftP_neg hn
          rw [e1]
          have HR : Hid (leftP left (szL l) = -1) := Lib.hid (if_pos (by have := HTS.out; have := HDR.out; have := HLE2.out; have := HLE.out; omega))
          clear e1 hn e2
          go_wp2_with (at_builtin; fail)
          go_ret
          exact ⟨by rw [HR.out]; rfl, HB3.out⟩
        · obtain ⟨e2, e1⟩ := leftP_nn (by omega : 0 ≤ leftP L (szL s.th + szL s.el))
          generalize leftP L (szL s.th + szL s.el) = L2 at *
          have HE1 := Lib.hid e1
          have hL20 : 0 ≤ L2 := by omega
          have hL21 : L2 ≤ 1048576 := by omega
          clear e1
          go_wp2_with (at_builtin; fail)
          exact ⟨⟨k + 1, L2, by omega, by go_num, rfl, by have h5 := HTS.out; have h6 := HE1.out; have h7 := HLE2.out; push_cast; omega, hL20, hL21, HB3.out⟩, by simp [intOf] <;> omega⟩
      · have hkl : k = l.length := by omega
        have HKL := Lib.hid hkl
        clear hkl
        go_wp2_with (at_builtin; fail)
        go_ret
        refine ⟨?_, HBW.out⟩
        have h3 := HLE2.out
        rw [take_all HKL.out] at h3
        have h4 := HKL.out
        have : leftP left (szL l) = L := by unfold leftP; rw [if_neg (by omega)]; omega
        rw [this]; rfl
theorem szS_any (m : Nat) : SzOk m := by
  induction m using Nat.strongRecOn with
  | _ m ih => exact szS_of m ih
set_option maxHeartbeats 400000 in
theorem szProgram_any (vt vb : Value) (ts : List Int) (l : List St) (left : Int) (B : Nat) (w : World) (ht : AnI w B vt ts) (hl : StS w B vb l) (hL : Lens l) (hB : B ≤ w.heap.size) (h0 : 0 ≤ left) (h1 : left ≤ 1048576) :
    Calls Try.prog 10 #[.agg #[vt, vb], .int .i64 left] w fun e w' => e = .returned (.int .i64 (leftP left (ts.length + szL l))) ∧ Below w.heap.size w w' := by
  have ht0 := ht
  obtain ⟨A1, c1, rfl, -⟩ := ht0
  obtain ⟨A2, c2, rfl, hc2⟩ := hl.slice
  have HX := Lib.hid (RowB.new w [.slice A1 ts.length c1, .slice A2 l.length c2] 25)
  have HB1 := Lib.hid (bel_a w (.cells #[.slice A1 ts.length c1, .slice A2 l.length c2] 25))
  have HT := Lib.hid (ht.low HB1.out hB)
  have HE := Lib.hid (hl.low HB1.out hB)
  have HLE := Lib.hid hL
  have HA := Lib.hid (leftP_add (left := left) (a := ts.length) (b := szL l))
  clear ht hl hL
  go_enter Try.func10, Try.ntmps10
  go_upto_region 1 with (at_builtin; fail)
  generalize w.alloc (.cells #[.slice A1 ts.length c1, .slice A2 l.length c2] 25) = W at *
  have u4 : W.cell? ⟨w.heap.size, 0, none⟩ = some (.slice A1 ts.length c1) := HX.out.cell 0
  have u5 : W.cell? ⟨w.heap.size, 1, none⟩ = some (.slice A2 l.length c2) := HX.out.cell 1
  have hsW := HB1.out.size
  go_wp2_with (at_builtin; fail)
  refine (szIntS_any _ ts left B W HT.out h0 h1).mono ?_
  rintro e w1 ⟨rfl, rfl⟩
  by_cases hn : leftP left ts.length < 0
  · obtain ⟨e1, e2⟩ := leftP_neg hn
    have HR : Hid (leftP left (ts.length + szL l) = -1) := Lib.hid (by rw [HA.out, if_pos e2])
    rw [e1] at *
    clear e1 hn
    go_wp2_with (at_builtin; fail)
    go_ret
    exact ⟨by rw [HR.out]; rfl, HB1.out⟩
  · obtain ⟨e2, e1⟩ := leftP_nn (by omega : 0 ≤ leftP left ts.length)
    have HR : Hid (leftP left (ts.length + szL l) = leftP (left - ts.length) (szL l)) := Lib.hid (by rw [HA.out, if_neg (by omega)])
    generalize leftP left ts.length = L1 at *
    have HL1 := Lib.hid e1
    have hl1 : 0 ≤ L1 := by omega
    have hl2 : L1 ≤ 1048576 := by omega
    clear e1 hn e2
    go_wp2_with (at_builtin; fail)
    refine (szS_any _ _ l L1 B W (Nat.le_refl _) HE.out HLE.out (by omega) hl1 hl2).mono ?_
    rintro e w2 ⟨rfl, hb2⟩
    have HB3 := Lib.hid (HB1.out.trans (hb2.mono hsW))
    clear hb2
    rw [HL1.out, ← HR.out]
    by_cases hn : leftP left (ts.length + szL l) < 0
    · have e1 := (leftP_neg hn).1
      rw [e1]
      have HE1 := Lib.hid e1
      clear e1 hn
      go_wp2_with (at_builtin; fail)
      go_ret
      exact ⟨by rw [HE1.out]; rfl, HB3.out⟩
    · obtain ⟨L2, hL2⟩ : ∃ L2, L2 = leftP left (ts.length + szL l) := ⟨_, rfl⟩
      rw [← hL2] at hn ⊢
      have HL2 := Lib.hid hL2
      clear hL2
      go_wp2_with (at_builtin; fail)
      go_ret
      exact ⟨by rw [← HL2.out]; rfl, HB3.out⟩

end Go.Proofs.Ytfioaohadanjmaa

/- l1One, l1Some: some statements are drawn. -/
namespace Go.Proofs.Ytfioaohadanjmaa
open Go.RowKit

def kk : Nat → Nat
  | 0 => 6
  | d + 1 => 2 * kk d + 20
end Go.Proofs.Ytfioaohadanjmaa

/- l1One. -/
namespace Go.Proofs.Ytfioaohadanjmaa
open Go.RowKit

theorem box6 {w : World} {b : Nat} {t : TypeId} {v0 v1 v2 v3 v4 v5 : Value} (h : w.heap[b]? = some (.cells #[v0, v1, v2, v3, v4, v5] t (0, 0))) (u0 u1 u2 u3 u4 u5 : Value) :
    ((((((w.setCell ⟨b, 0, none⟩ u0).setCell ⟨b, 1, none⟩ u1).setCell ⟨b, 2, none⟩ u2).setCell ⟨b, 3, none⟩ u3).setCell ⟨b, 4, none⟩ u4).setCell ⟨b, 5, none⟩ u5).heap[b]? = some (.cells #[u0, u1, u2, u3, u4, u5] t (0, 0)) ∧
    w.grownBy ((((((w.setCell ⟨b, 0, none⟩ u0).setCell ⟨b, 1, none⟩ u1).setCell ⟨b, 2, none⟩ u2).setCell ⟨b, 3, none⟩ u3).setCell ⟨b, 4, none⟩ u4).setCell ⟨b, 5, none⟩ u5) (some b) := by
  have h0 := heap_setCell_same w b 0 _ _ u0 h
  have h1 := heap_setCell_same _ b 1 _ _ u1 h0
  have h2 := heap_setCell_same _ b 2 _ _ u2 h1
  have h3 := heap_setCell_same _ b 3 _ _ u3 h2
  have h4 := heap_setCell_same _ b 4 _ _ u4 h3
  have h5 := heap_setCell_same _ b 5 _ _ u5 h4
  exact ⟨by simpa using h5, grown_tr (grown_tr (grown_tr (grown_tr (grown_tr (grown_set _ _ _ _) (grown_set _ _ _ _)) (grown_set _ _ _ _)) (grown_set _ _ _ _)) (grown_set _ _ _ _)) (grown_set _ _ _ _)⟩
end Go.Proofs.Ytfioaohadanjmaa

/- l1One with statements inside. -/
namespace Go.Proofs.Ytfioaohadanjmaa
open Go.RowKit

end Go.Proofs.Ytfioaohadanjmaa

/- Texts: l1At, l1Var, l1Digit. -/
namespace Go.Proofs.Ytfioaohadanjmaa
open Go.RowKit

end Go.Proofs.Ytfioaohadanjmaa

/- l1Braces, l1ParseList: what they return, and how far they come. -/
namespace Go.Proofs.Ytfioaohadanjmaa
open Go.RowKit

theorem StX.alloc {w : World} {P : Nat → Prop} {v : Value} {l : List St} (h : StX w P v l) (o : Obj) : StX (w.alloc o) P v l :=
  h.frame (bel_a w o).size fun b hb hl => ⟨hb, (bel_a w o).block b hl⟩

end Go.Proofs.Ytfioaohadanjmaa

/- l1Letter, l17Dec. -/
namespace Go.Proofs.Ytfioaohadanjmaa
open Go.RowKit

def StrRet (n : Nat) (w : World) (e : Ending) (w' : World) : Prop := ∃ s : ByteArray, e = .returned (.string s) ∧ s.size ≤ n ∧ Below w.heap.size w w'
end Go.Proofs.Ytfioaohadanjmaa

/- l1Text. -/
namespace Go.Proofs.Ytfioaohadanjmaa
open Go.RowKit

def Hd2 (W : World) (b1 o1 : Nat) (v1 : Value) (b2 o2 : Nat) (v2 : Value) (w' : World) : Prop := w'.cell? ⟨b1, o1, none⟩ = some v1 ∧ w'.cell? ⟨b2, o2, none⟩ = some v2 ∧ Below W.heap.size W w' ∧ b1 < W.heap.size ∧ b2 < W.heap.size
theorem Hd2.step {W : World} {b1 o1 : Nat} {v1 : Value} {b2 o2 : Nat} {v2 : Value} {w' w'' : World} (h : Hd2 W b1 o1 v1 b2 o2 v2 w') (hb : Below w'.heap.size w' w'') : Hd2 W b1 o1 v1 b2 o2 v2 w'' := by
  obtain ⟨h1, h2, hB, k1, k2⟩ := h
  have hs := hB.size
  exact ⟨(hb.cell (p := ⟨b1, o1, none⟩) (by show b1 < _; omega)).trans h1, (hb.cell (p := ⟨b2, o2, none⟩) (by show b2 < _; omega)).trans h2, hB.trans (hb.mono hs), k1, k2⟩
theorem Hd2.bel {W : World} {b1 o1 : Nat} {v1 : Value} {b2 o2 : Nat} {v2 : Value} {w' : World} (h : Hd2 W b1 o1 v1 b2 o2 v2 w') : Below W.heap.size W w' := h.2.2.1

theorem StrRet.le {n m : Nat} {w : World} {e : Ending} {w' : World} (h : StrRet n w e w') (hnm : n ≤ m) : StrRet m w e w' := by
  obtain ⟨s, h1, h2, h3⟩ := h
  exact ⟨s, h1, by omega, h3⟩
end Go.Proofs.Ytfioaohadanjmaa
