import Derived.Test.YtfioaohadanjmaaC10
import Derived.Test.YtfioaohadanjmaaC01
import Derived.Laws.Concat
import Derived.Laws.IdiomStrings
import Derived.Deep.RegionHeld3
import Derived.RegionTactic
import Derived.Test.YtfioaohadanjmaaC07
import Derived.Deep.RegionHeld
import Derived.Below
set_option linter.unusedVariables false

/- The sizes of arguments: szIntS, szStmt, szStmtS, szProgram. -/
namespace Go.Proofs.Ytfioaohadanjmaa
open Go.RowKit

set_option maxHeartbeats 400000 in
theorem szIntS_any (v : Value) (xs : List Int) (left : Int) (B : Nat) (w : World) (h : AnI w B v xs) (h0 : 0 ≤ left) (h1 : left ≤ 1048576) :
    Calls Try.prog 34 #[v, .int .i64 left] w fun e w' => e = .returned (.int .i64 (leftP left xs.length)) ∧ w = w' := by
  obtain ⟨A, c, rfl, hc, hm, -⟩ := h
  rw [maxLen_eq] at hm
  by_cases hlt : left < (xs.length : Int)
  · have HR : Hid (leftP left xs.length = -1) := Lib.hid (if_pos hlt)
    go_enter Try.func34, Try.ntmps34
    have hx : left - (xs.length : Int) < 0 := by omega
    go_wp2_with (at_builtin; fail)
    go_ret
    exact ⟨by rw [HR.out]; rfl, rfl⟩
  · have HR : Hid (leftP left xs.length = left - xs.length) := Lib.hid (if_neg hlt)
    go_enter Try.func34, Try.ntmps34
    have hx : ¬ left - (xs.length : Int) < 0 := by omega
    go_wp2_with (at_builtin; fail)
    go_ret
    exact ⟨by rw [HR.out]; rfl, rfl⟩
theorem szL_drop (l : List St) (k : Nat) : szL (l.take k) + (l.length - k) ≤ szL l := by
  have := szL_append (l.take k) (l.drop k)
  rw [List.take_append_drop] at this
  have h2 := len_le_szL (l.drop k)
  rw [List.length_drop] at h2
  omega
def SzOk (m : Nat) : Prop := ∀ (v : Value) (l : List St) (left : Int) (B : Nat) (w : World), szL l ≤ m → StS w B v l → Lens l → B ≤ w.heap.size → 0 ≤ left → left ≤ 1048576 →
  Calls Try.prog 35 #[v, .int .i64 left] w fun e w' => e = .returned (.int .i64 (leftP left (szL l))) ∧ Below w.heap.size w w'
set_option maxHeartbeats 400000 in
theorem szStmt_of (m : Nat) (ih : SzOk m) (op x y n : Int) (tv ev : Value) (th el : List St) (left : Int) (B : Nat) (w : World) (h1 : szL th ≤ m) (h2 : szL el ≤ m) (ht : StS w B tv th) (he : StS w B ev el) (lt : Lens th) (le : Lens el) (hB : B ≤ w.heap.size) (l0 : 0 ≤ left) (l1 : left ≤ 1048576) :
    Calls Try.prog 67 #[.agg #[.int .i64 op, .int .i64 x, .int .i64 y, .int .i64 n, tv, ev], .int .i64 left] w fun e w' => e = .returned (.int .i64 (leftP left (szL th + szL el))) ∧ Below w.heap.size w w' := by
  obtain ⟨A1, c1, rfl, hc1⟩ := ht.slice
  obtain ⟨A2, c2, rfl, hc2⟩ := he.slice
  have IH := Lib.hid ih
  have HX := Lib.hid (RowB.new w [.int .i64 op, .int .i64 x, .int .i64 y, .int .i64 n, .slice A1 th.length c1, .slice A2 el.length c2] 107)
  have HB1 := Lib.hid (bel_a w (.cells #[.int .i64 op, .int .i64 x, .int .i64 y, .int .i64 n, .slice A1 th.length c1, .slice A2 el.length c2] 107))
  have HT := Lib.hid (ht.low HB1.out hB)
  have HE := Lib.hid (he.low HB1.out hB)
  have HLT := Lib.hid lt
  have HLE := Lib.hid le
  have HA := Lib.hid (leftP_add (left := left) (a := szL th) (b := szL el))
  clear ht he lt le ih
  go_enter Try.func67, Try.ntmps67
  go_upto_region 1 with (at_builtin; fail)
  generalize w.alloc (.cells #[.int .i64 op, .int .i64 x, .int .i64 y, .int .i64 n, .slice A1 th.length c1, .slice A2 el.length c2] 107) = W at *
  have u4 : W.cell? ⟨w.heap.size, 4, none⟩ = some (.slice A1 th.length c1) := HX.out.cell 4
  have u5 : W.cell? ⟨w.heap.size, 5, none⟩ = some (.slice A2 el.length c2) := HX.out.cell 5
  have hsW := HB1.out.size
  go_wp2_with (at_builtin; fail)
  refine (IH.out _ th left B W h1 HT.out HLT.out (by omega) l0 l1).mono ?_
  rintro e w1 ⟨rfl, hb1⟩
  have HB2 := Lib.hid (HB1.out.trans (hb1.mono hsW))
  have u5 : w1.cell? ⟨w.heap.size, 5, none⟩ = some (.slice A2 el.length c2) := (hb1.cell (p := ⟨w.heap.size, 5, none⟩) HX.out.lt).trans u5
  have HE := Lib.hid (HE.out.low hb1 (by omega))
  clear hb1 u4
  by_cases hn : leftP left (szL th) < 0
  · obtain ⟨e1, e2⟩ := leftP_neg hn
    have HR : Hid (leftP left (szL th + szL el) = -1) := Lib.hid (by rw [HA.out, if_pos e2])
    rw [e1] at *
    clear e1 hn
    go_wp2_with (at_builtin; fail)
    go_ret
    exact ⟨by rw [HR.out]; rfl, HB2.out⟩
  · obtain ⟨e2, e1⟩ := leftP_nn (by omega : 0 ≤ leftP left (szL th))
    have HR : Hid (leftP left (szL th + szL el) = leftP (left - szL th) (szL el)) := Lib.hid (by rw [HA.out, if_neg (by omega)])
    generalize leftP left (szL th) = L1 at *
    have HL1 := Lib.hid e1
    have hl1 : 0 ≤ L1 := by omega
    have hl2 : L1 ≤ 1048576 := by omega
    clear e1 hn e2
    have hsW1 := HB2.out.size
    go_wp2_with (at_builtin; fail)
    refine (IH.out _ el L1 B w1 h2 HE.out HLE.out (by omega) hl1 hl2).mono ?_
    rintro e w2 ⟨rfl, hb2⟩
    have HB3 := Lib.hid (HB2.out.trans (hb2.mono hsW1))
    clear hb2
    rw [HL1.out, ← HR.out]
    by_cases hn : leftP left (szL th + szL el) < 0
    · have e1 := (leftP_neg hn).1
      rw [e1]
      have HE1 := Lib.hid e1
      clear e1 hn
      go_wp2_with (at_builtin; fail)
      go_ret
      exact ⟨by rw [HE1.out]; rfl, HB3.out⟩
    · obtain ⟨L2, hL2⟩ : ∃ L2, L2 = leftP left (szL th + szL el) := ⟨_, rfl⟩
      rw [← hL2] at hn ⊢
      have HL2 := Lib.hid hL2
      clear hL2
      go_wp2_with (at_builtin; fail)
      go_ret
      exact ⟨by rw [← HL2.out]; rfl, HB3.out⟩
set_option maxHeartbeats 800000 in
theorem szS_of (m : Nat) (ih : ∀ j, j < m → SzOk j) : SzOk m := by
  intro v l left B w hm hl hL hB h0 h1
  have hll := hL.le
  rw [maxLen_eq] at hll
  obtain ⟨A, c, rfl, hc⟩ := hl.slice
  have IH := Lib.hid ih
  have HL := Lib.hid hl
  have HLN := Lib.hid hL
  have HLE := Lib.hid (len_le_szL l)
  clear ih hl hL
  by_cases hlt : left < (l.length : Int)
  · have HR : Hid (leftP left (szL l) = -1) := Lib.hid (if_pos (by have := HLE.out; omega))
    go_enter Try.func35, Try.ntmps35
    have hx : left - (l.length : Int) < 0 := by omega
    go_wp2_with (at_builtin; fail)
    go_ret
    exact ⟨by rw [HR.out]; rfl, Below.refl _ _⟩
  · have hx : ¬ left - (l.length : Int) < 0 := by omega
    go_enter Try.func35, Try.ntmps35
    go_wp2_with (at_builtin; fail)
    go_loopw [1, 5] (fun v i wr => ∃ (k : Nat) (L : Int), k ≤ l.length ∧ i = .int .i64 k ∧ v = .int .i64 L ∧ L = left - l.length - (szL (l.take k) - k) ∧ 0 ≤ L ∧ L ≤ 1048576 ∧ Below w.heap.size w wr) (fun _ i _ => l.length - (intOf i).toNat)
    case atStart => exact ⟨0, _, Nat.zero_le _, rfl, rfl, by simp [szL], by omega, by omega, Below.refl _ _⟩
    case round =>
      obtain ⟨k, L, hk, rfl, rfl, hLe, hL0, hL1, hbw⟩ := hrel
      have HLE2 := Lib.hid hLe
      have HBW := Lib.hid hbw
      have hsr := hbw.size
      clear hLe
      by_cases hlk : k < l.length
      · have hl2 := HL.out.low hbw hB
        have hsz := szL_mem hlk
        rw [l[k].sz_eq] at hsz
        obtain ⟨b, off, tv, ev, rfl, hb, hth, hel, c0, c1, c2, c3, c4, c5⟩ := hl2.get hlk
        obtain ⟨A4, n4, rfl, -⟩ := hth.slice
        obtain ⟨A5, n5, rfl, -⟩ := hel.slice
        have HTH := Lib.hid hth
        have HEL := Lib.hid hel
        have HLT := Lib.hid (HLN.out.th hlk)
        have HLL := Lib.hid (HLN.out.el hlk)
        have HTS := Lib.hid (szL_take_succ l k hlk)
        have HDR := Lib.hid (szL_drop l (k + 1))
        have HLK := Lib.hid hlk
        generalize l[k]'hlk = s at *
        clear hl2 hth hel hbw
        go_wp2_with (at_builtin; fail)
        refine (szStmt_of (max (szL s.th) (szL s.el)) (IH.out _ (by omega)) s.op s.x s.y s.n _ _ s.th s.el L B wr (by omega) (by omega) HTH.out HEL.out HLT.out HLL.out (by omega) hL0 hL1).mono ?_
        rintro e w2 ⟨rfl, hb2⟩
        have HB3 := Lib.hid (HBW.out.trans (hb2.mono hsr))
        clear hb2 c0 c1 c2 c3 c4 c5
        by_cases hn : leftP L (szL s.th + szL s.el) < 0
        · obtain ⟨e1, e2⟩ := leftP_neg hn
          rw [e1]
          have HR : Hid (leftP left (szL l) = -1) := Lib.hid (if_pos (by have := HTS.out; have := HDR.out; have := HLE2.out; have := HLE.out; omega))
          clear e1 hn e2
          go_wp2_with (at_builtin; fail)
          go_ret
          exact ⟨by rw [HR.out]; rfl, HB3.out⟩
        · obtain ⟨e2, e1⟩ := leftP_nn (by omega : 0 ≤ leftP L (szL s.th + szL s.el))
          generalize leftP L (szL s.th + szL s.el) = L2 at *
          have HE1 := Lib.hid e1
          have hL20 : 0 ≤ L2 := by omega
          have hL21 : L2 ≤ 1048576 := by omega
          clear e1
          go_wp2_with (at_builtin; fail)
          exact ⟨⟨k + 1, L2, by omega, by go_num, rfl, by have h5 := HTS.out; have h6 := HE1.out; have h7 := HLE2.out; push_cast; omega, hL20, hL21, HB3.out⟩, by simp [intOf] <;> omega⟩
      · have hkl : k = l.length := by omega
        have HKL := Lib.hid hkl
        clear hkl
        go_wp2_with (at_builtin; fail)
        go_ret
        refine ⟨?_, HBW.out⟩
        have h3 := HLE2.out
        rw [take_all HKL.out] at h3
        have h4 := HKL.out
        have : leftP left (szL l) = L := by unfold leftP; rw [if_neg (by omega)]; omega
        rw [this]; rfl
theorem szS_any (m : Nat) : SzOk m := by
  induction m using Nat.strongRecOn with
  | _ m ih => exact szS_of m ih
set_option maxHeartbeats 400000 in
theorem szProgram_any (vt vb : Value) (ts : List Int) (l : List St) (left : Int) (B : Nat) (w : World) (ht : AnI w B vt ts) (hl : StS w B vb l) (hL : Lens l) (hB : B ≤ w.heap.size) (h0 : 0 ≤ left) (h1 : left ≤ 1048576) :
    Calls Try.prog 10 #[.agg #[vt, vb], .int .i64 left] w fun e w' => e = .returned (.int .i64 (leftP left (ts.length + szL l))) ∧ Below w.heap.size w w' := by
  have ht0 := ht
  obtain ⟨A1, c1, rfl, -⟩ := ht0
  obtain ⟨A2, c2, rfl, hc2⟩ := hl.slice
  have HX := Lib.hid (RowB.new w [.slice A1 ts.length c1, .slice A2 l.length c2] 25)
  have HB1 := Lib.hid (bel_a w (.cells #[.slice A1 ts.length c1, .slice A2 l.length c2] 25))
  have HT := Lib.hid (ht.low HB1.out hB)
  have HE := Lib.hid (hl.low HB1.out hB)
  have HLE := Lib.hid hL
  have HA := Lib.hid (leftP_add (left := left) (a := ts.length) (b := szL l))
  clear ht hl hL
  go_enter Try.func10, Try.ntmps10
  go_upto_region 1 with (at_builtin; fail)
  generalize w.alloc (.cells #[.slice A1 ts.length c1, .slice A2 l.length c2] 25) = W at *
  have u4 : W.cell? ⟨w.heap.size, 0, none⟩ = some (.slice A1 ts.length c1) := HX.out.cell 0
  have u5 : W.cell? ⟨w.heap.size, 1, none⟩ = some (.slice A2 l.length c2) := HX.out.cell 1
  have hsW := HB1.out.size
  go_wp2_with (at_builtin; fail)
  refine (szIntS_any _ ts left B W HT.out h0 h1).mono ?_
  rintro e w1 ⟨rfl, rfl⟩
  by_cases hn : leftP left ts.length < 0
  · obtain ⟨e1, e2⟩ := leftP_neg hn
    have HR : Hid (leftP left (ts.length + szL l) = -1) := Lib.hid (by rw [HA.out, if_pos e2])
    rw [e1] at *
    clear e1 hn
    go_wp2_with (at_builtin; fail)
    go_ret
    exact ⟨by rw [HR.out]; rfl, HB1.out⟩
  · obtain ⟨e2, e1⟩ := leftP_nn (by omega : 0 ≤ leftP left ts.length)
    have HR : Hid (leftP left (ts.length + szL l) = leftP (left - ts.length) (szL l)) := Lib.hid (by rw [HA.out, if_neg (by omega)])
    generalize leftP left ts.length = L1 at *
    have HL1 := Lib.hid e1
    have hl1 : 0 ≤ L1 := by omega
    have hl2 : L1 ≤ 1048576 := by omega
    clear e1 hn e2
    go_wp2_with (at_builtin; fail)
    refine (szS_any _ _ l L1 B W (Nat.le_refl _) HE.out HLE.out (by omega) hl1 hl2).mono ?_
    rintro e w2 ⟨rfl, hb2⟩
    have HB3 := Lib.hid (HB1.out.trans (hb2.mono hsW))
    clear hb2
    rw [HL1.out, ← HR.out]
    by_cases hn : leftP left (ts.length + szL l) < 0
    · have e1 := (leftP_neg hn).1
      rw [e1]
      have HE1 := Lib.hid e1
      clear e1 hn
      go_wp2_with (at_builtin; fail)
      go_ret
      exact ⟨by rw [HE1.out]; rfl, HB3.out⟩
    · obtain ⟨L2, hL2⟩ : ∃ L2, L2 = leftP left (ts.length + szL l) := ⟨_, rfl⟩
      rw [← hL2] at hn ⊢
      have HL2 := Lib.hid hL2
      clear hL2
      go_wp2_with (at_builtin; fail)
      go_ret
      exact ⟨by rw [← HL2.out]; rfl, HB3.out⟩

end Go.Proofs.Ytfioaohadanjmaa

/- l1One, l1Some: some statements are drawn. -/
namespace Go.Proofs.Ytfioaohadanjmaa
open Go.RowKit

def kk : Nat → Nat
  | 0 => 6
  | d + 1 => 2 * kk d + 20
end Go.Proofs.Ytfioaohadanjmaa

/- l1One. -/
namespace Go.Proofs.Ytfioaohadanjmaa
open Go.RowKit

theorem box6 {w : World} {b : Nat} {t : TypeId} {v0 v1 v2 v3 v4 v5 : Value} (h : w.heap[b]? = some (.cells #[v0, v1, v2, v3, v4, v5] t (0, 0))) (u0 u1 u2 u3 u4 u5 : Value) :
    ((((((w.setCell ⟨b, 0, none⟩ u0).setCell ⟨b, 1, none⟩ u1).setCell ⟨b, 2, none⟩ u2).setCell ⟨b, 3, none⟩ u3).setCell ⟨b, 4, none⟩ u4).setCell ⟨b, 5, none⟩ u5).heap[b]? = some (.cells #[u0, u1, u2, u3, u4, u5] t (0, 0)) ∧
    w.grownBy ((((((w.setCell ⟨b, 0, none⟩ u0).setCell ⟨b, 1, none⟩ u1).setCell ⟨b, 2, none⟩ u2).setCell ⟨b, 3, none⟩ u3).setCell ⟨b, 4, none⟩ u4).setCell ⟨b, 5, none⟩ u5) (some b) := by
  have h0 := heap_setCell_same w b 0 _ _ u0 h
  have h1 := heap_setCell_same _ b 1 _ _ u1 h0
  have h2 := heap_setCell_same _ b 2 _ _ u2 h1
  have h3 := heap_setCell_same _ b 3 _ _ u3 h2
  have h4 := heap_setCell_same _ b 4 _ _ u4 h3
  have h5 := heap_setCell_same _ b 5 _ _ u5 h4
  exact ⟨by simpa using h5, grown_tr (grown_tr (grown_tr (grown_tr (grown_tr (grown_set _ _ _ _) (grown_set _ _ _ _)) (grown_set _ _ _ _)) (grown_set _ _ _ _)) (grown_set _ _ _ _)) (grown_set _ _ _ _)⟩
end Go.Proofs.Ytfioaohadanjmaa

/- l1One with statements inside. -/
namespace Go.Proofs.Ytfioaohadanjmaa
open Go.RowKit

end Go.Proofs.Ytfioaohadanjmaa

/- Texts: l1At, l1Var, l1Digit. -/
namespace Go.Proofs.Ytfioaohadanjmaa
open Go.RowKit

end Go.Proofs.Ytfioaohadanjmaa

/- l1Braces, l1ParseList: what they return, and how far they come. -/
namespace Go.Proofs.Ytfioaohadanjmaa
open Go.RowKit

theorem StX.alloc {w : World} {P : Nat → Prop} {v : Value} {l : List St} (h : StX w P v l) (o : Obj) : StX (w.alloc o) P v l :=
  h.frame (bel_a w o).size fun b hb hl => ⟨hb, (bel_a w o).block b hl⟩

end Go.Proofs.Ytfioaohadanjmaa

/- l1Letter, l17Dec. -/
namespace Go.Proofs.Ytfioaohadanjmaa
open Go.RowKit

def StrRet (n : Nat) (w : World) (e : Ending) (w' : World) : Prop := ∃ s : ByteArray, e = .returned (.string s) ∧ s.size ≤ n ∧ Below w.heap.size w w'
end Go.Proofs.Ytfioaohadanjmaa

/- l1Text. -/
namespace Go.Proofs.Ytfioaohadanjmaa
open Go.RowKit

def Hd2 (W : World) (b1 o1 : Nat) (v1 : Value) (b2 o2 : Nat) (v2 : Value) (w' : World) : Prop := w'.cell? ⟨b1, o1, none⟩ = some v1 ∧ w'.cell? ⟨b2, o2, none⟩ = some v2 ∧ Below W.heap.size W w' ∧ b1 < W.heap.size ∧ b2 < W.heap.size
theorem Hd2.step {W : World} {b1 o1 : Nat} {v1 : Value} {b2 o2 : Nat} {v2 : Value} {w' w'' : World} (h : Hd2 W b1 o1 v1 b2 o2 v2 w') (hb : Below w'.heap.size w' w'') : Hd2 W b1 o1 v1 b2 o2 v2 w'' := by
  obtain ⟨h1, h2, hB, k1, k2⟩ := h
  have hs := hB.size
  exact ⟨(hb.cell (p := ⟨b1, o1, none⟩) (by show b1 < _; omega)).trans h1, (hb.cell (p := ⟨b2, o2, none⟩) (by show b2 < _; omega)).trans h2, hB.trans (hb.mono hs), k1, k2⟩
theorem Hd2.bel {W : World} {b1 o1 : Nat} {v1 : Value} {b2 o2 : Nat} {v2 : Value} {w' : World} (h : Hd2 W b1 o1 v1 b2 o2 v2 w') : Below W.heap.size W w' := h.2.2.1

theorem StrRet.le {n m : Nat} {w : World} {e : Ending} {w' : World} (h : StrRet n w e w') (hnm : n ≤ m) : StrRet m w e w' := by
  obtain ⟨s, h1, h2, h3⟩ := h
  exact ⟨s, h1, by omega, h3⟩
end Go.Proofs.Ytfioaohadanjmaa

/- l1Parse. -/
namespace Go.Proofs.Ytfioaohadanjmaa
open Go.RowKit

end Go.Proofs.Ytfioaohadanjmaa

/- l1ParseList closed; spec.ParseProgram. -/
namespace Go.Proofs.Ytfioaohadanjmaa
open Go.RowKit

/-- The slice value v reads as the ints l, in a block of P. -/
def IntX (w : World) (P : Nat → Prop) (v : Value) (l : List Int) : Prop :=
  ∃ A c, v = .slice A l.length c ∧ l.length ≤ c ∧ l.length ≤ 4194304 ∧ (0 < l.length → ∃ b off, A = some ⟨b, off, none⟩ ∧ P b ∧ b < w.heap.size ∧ ∀ j, j < l.length → w.cell? ⟨b, off + j, none⟩ = some (.int .i64 (l.getD j 0)))
theorem IntX.nil (w : World) (P : Nat → Prop) : IntX w P (.slice none 0 0) [] := ⟨none, 0, rfl, Nat.le_refl _, by simp, fun h => absurd h (by simp)⟩
theorem IntX.frame {w w' : World} {P P' : Nat → Prop} {v : Value} {l : List Int} (h : IntX w P v l) (hs : w.heap.size ≤ w'.heap.size) (hk : ∀ b, P b → b < w.heap.size → P' b ∧ w'.heap[b]? = w.heap[b]?) : IntX w' P' v l := by
  obtain ⟨A, c, e, h1, h2, h3⟩ := h
  refine ⟨A, c, e, h1, h2, fun hn => ?_⟩
  obtain ⟨b, off, e, hb, hlt, hc⟩ := h3 hn
  obtain ⟨k1, k2⟩ := hk b hb hlt
  exact ⟨b, off, e, k1, by omega, fun j hj => (World.cell?_of_block (w := w) (a := ⟨b, _, none⟩) k2).trans (hc j hj)⟩
theorem IntX.toS {w : World} {P : Nat → Prop} {v : Value} {l : List Int} (h : IntX w P v l) : IntS w w.heap.size v l := by
  obtain ⟨A, c, e, h1, h2, h3⟩ := h
  refine ⟨A, c, e, h1, h2, by simp, fun hn => ?_⟩
  obtain ⟨b, off, e, hb, hlt, hc⟩ := h3 hn
  refine ⟨b, off, e, hlt, fun j u hu => ?_⟩
  rw [List.getElem?_map] at hu
  rcases Nat.lt_or_ge j l.length with hj | hj
  · rw [List.getElem?_eq_getElem hj] at hu
    simp at hu
    rw [hc j hj, getD_lt hj, hu]
  · rw [List.getElem?_eq_none hj] at hu; cases hu
theorem IntX.slice {w : World} {P : Nat → Prop} {v : Value} {l : List Int} (h : IntX w P v l) : ∃ A c, v = .slice A l.length c ∧ l.length ≤ c := by
  obtain ⟨A, c, e, h1, h2, h3⟩ := h
  exact ⟨A, c, e, h1⟩
theorem OInts.toX {w : World} {base : Nat} {v : Value} {l : List Int} (h : OInts w base v l) (hl : l.length ≤ 4194304) : IntX w (fun b => base ≤ b) v l := by
  have hs := h.toS hl
  rcases h.2 with ⟨rfl, h0⟩ | ⟨g, cap, cur, rfl, hb, hh, hc, _⟩
  · have : l = [] := List.length_eq_zero_iff.1 h0
    subst this
    exact IntX.nil _ _
  · refine ⟨_, _, rfl, hc, hl, fun hn => ⟨g, 0, rfl, hb, ?_, fun j hj => ?_⟩⟩
    · rcases Nat.lt_or_ge g w.heap.size with hlt | hge
      · exact hlt
      · rw [Array.getElem?_eq_none hge] at hh; cases hh
    · obtain ⟨A', c', e', _, _, hr⟩ := hs
      injection e' with e1
      obtain ⟨b, off, e2, _, hcell⟩ := hr.int_at hn
      rw [e2] at e1
      injection e1 with e1
      injection e1 with e1 e3
      subst e1 e3
      exact hcell j hj

theorem OInts.other {w : World} {base g : Nat} {v : Value} {l : List Int} (h : OInts w base v l) (hg : g < base) (i : Nat) (u : Value) : OInts (w.setCell ⟨g, i, none⟩ u) base v l := by
  refine h.kept (grown_set w g i u) ?_
  rcases h.2 with ⟨rfl, _⟩ | ⟨g', cap, cur, rfl, hb, _⟩
  · exact .inl rfl
  · refine .inr ?_
    simp only [Value.ownBlock]
    intro e
    injection e with e
    omega

theorem box2 {w : World} {b : Nat} {t : TypeId} {v0 v1 : Value} (h : w.heap[b]? = some (.cells #[v0, v1] t (0, 0))) (u0 u1 : Value) :
    ((w.setCell ⟨b, 0, none⟩ u0).setCell ⟨b, 1, none⟩ u1).heap[b]? = some (.cells #[u0, u1] t (0, 0)) ∧ w.grownBy ((w.setCell ⟨b, 0, none⟩ u0).setCell ⟨b, 1, none⟩ u1) (some b) := by
  refine ⟨?_, grown_tr (grown_set w b 0 u0) (grown_set _ b 1 u1)⟩
  have h1 := heap_setCell_same w b 0 _ _ u0 h
  have h2 := heap_setCell_same _ b 1 _ _ u1 h1
  rw [h2]; rfl
end Go.Proofs.Ytfioaohadanjmaa

/- l1Texts, l1Draw. -/
namespace Go.Proofs.Ytfioaohadanjmaa
open Go.RowKit

theorem StX.grown {w w' : World} {g : Nat} {P : Nat → Prop} {v : Value} {l : List St} (h : StX w P v l) (hg : w.grownBy w' (some g)) (hP : ¬ P g) : StX w' P v l :=
  h.frame hg.size fun b hb hl => ⟨hb, hg.block b hl (fun e => by injection e with e; subst e; exact hP hb)⟩
theorem IntX.grown {w w' : World} {g : Nat} {P : Nat → Prop} {v : Value} {l : List Int} (h : IntX w P v l) (hg : w.grownBy w' (some g)) (hP : ¬ P g) : IntX w' P v l :=
  h.frame hg.size fun b hb hl => ⟨hb, hg.block b hl (fun e => by injection e with e; subst e; exact hP hb)⟩
theorem StX.bel {w w' : World} {P : Nat → Prop} {v : Value} {l : List St} (h : StX w P v l) (hb : Below w.heap.size w w') : StX w' P v l :=
  h.frame hb.size fun b hp hl => ⟨hp, hb.block b hl⟩
theorem IntX.bel {w w' : World} {P : Nat → Prop} {v : Value} {l : List Int} (h : IntX w P v l) (hb : Below w.heap.size w w') : IntX w' P v l :=
  h.frame hb.size fun b hp hl => ⟨hp, hb.block b hl⟩
theorem row_lt {w : World} {b : Nat} {o : Obj} (h : w.heap[b]? = some o) : b < w.heap.size := by
  rcases Nat.lt_or_ge b w.heap.size with h' | h'
  · exact h'
  · rw [Array.getElem?_eq_none h'] at h; cases h
theorem row_below {w w' : World} {b : Nat} {o : Obj} (h : w.heap[b]? = some o) (hb : Below w.heap.size w w') : w'.heap[b]? = some o := (hb.block b (row_lt h)).trans h
end Go.Proofs.Ytfioaohadanjmaa

/- l1Copy, l1CopyOf. -/
namespace Go.Proofs.Ytfioaohadanjmaa
open Go.RowKit

/-- the box of a copied statement -/
def CpB (wr X : World) (op x y n : Int) (tv ev : Value) (th el : List St) : Prop :=
  X.heap[wr.heap.size]? = some (.cells #[.int .i64 op, .int .i64 x, .int .i64 y, .int .i64 n, tv, ev] 111 (0, 0)) ∧ StX X (fun b => wr.heap.size + 1 ≤ b) tv th ∧ StX X (fun b => wr.heap.size + 1 ≤ b) ev el ∧ Below wr.heap.size wr X
theorem CpB.th {wr X w2 : World} {op x y n : Int} {tv ev v' : Value} {th el th' : List St} (h : CpB wr X op x y n tv ev th el) (hb : Below X.heap.size X w2) (hx : OSt w2 X.heap.size v' th') : CpB wr (w2.setCell ⟨wr.heap.size, 4, none⟩ v') op x y n v' ev th' el := by
  obtain ⟨h1, h2, h3, h4⟩ := h
  have hlt := row_lt h1
  have hg := grown_set w2 wr.heap.size 4 v'
  refine ⟨(heap_setCell_same w2 wr.heap.size 4 _ _ v' (row_below h1 hb)).trans (by simp), ?_, ?_, ?_⟩
  · exact (hx.toX.grown hg (by show ¬ (X.heap.size ≤ wr.heap.size); omega)).frame (Nat.le_refl _) fun b hb _ => ⟨by have : X.heap.size ≤ b := hb; show wr.heap.size + 1 ≤ b; omega, rfl⟩
  · exact (h3.bel hb).grown hg (by show ¬ (wr.heap.size + 1 ≤ wr.heap.size); omega)
  · exact (h4.trans (hb.mono h4.size)).setCell (p := ⟨wr.heap.size, 4, none⟩) (Nat.le_refl _) _
theorem CpB.el {wr X w2 : World} {op x y n : Int} {tv ev v' : Value} {th el el' : List St} (h : CpB wr X op x y n tv ev th el) (hb : Below X.heap.size X w2) (hx : OSt w2 X.heap.size v' el') : CpB wr (w2.setCell ⟨wr.heap.size, 5, none⟩ v') op x y n tv v' th el' := by
  obtain ⟨h1, h2, h3, h4⟩ := h
  have hlt := row_lt h1
  have hg := grown_set w2 wr.heap.size 5 v'
  refine ⟨(heap_setCell_same w2 wr.heap.size 5 _ _ v' (row_below h1 hb)).trans (by simp), ?_, ?_, ?_⟩
  · exact (h2.bel hb).grown hg (by show ¬ (wr.heap.size + 1 ≤ wr.heap.size); omega)
  · exact (hx.toX.grown hg (by show ¬ (X.heap.size ≤ wr.heap.size); omega)).frame (Nat.le_refl _) fun b hb _ => ⟨by have : X.heap.size ≤ b := hb; show wr.heap.size + 1 ≤ b; omega, rfl⟩
  · exact (h4.trans (hb.mono h4.size)).setCell (p := ⟨wr.heap.size, 5, none⟩) (Nat.le_refl _) _
theorem StX.up {wr X : World} {v : Value} {l : List St} (h : StX X (fun b => wr.heap.size + 1 ≤ b) v l) : StX X (fun b => wr.heap.size ≤ b) v l :=
  h.frame (Nat.le_refl _) fun b hb _ => ⟨by have : wr.heap.size + 1 ≤ b := hb; show wr.heap.size ≤ b; omega, rfl⟩

end Go.Proofs.Ytfioaohadanjmaa

/- append of a whole slice of ints; l1CopyOf. -/
namespace Go.Proofs.Ytfioaohadanjmaa
open Go.RowKit

theorem OInts.move {w w' : World} {base base' : Nat} {v : Value} {l : List Int} (h : OInts w base v l) (hb : base' ≤ base) (hk : ∀ b, base ≤ b → b < w.heap.size → w'.heap[b]? = w.heap[b]?) : OInts w' base' v l := by
  refine ⟨h.1, ?_⟩
  rcases h.2 with h' | ⟨g, cap, cur, rfl, hbg, hh, rest⟩
  · exact .inl h'
  · exact .inr ⟨g, cap, cur, rfl, by omega, (hk g hbg (row_lt hh)).trans hh, rest⟩
theorem OInts.own_lt {w : World} {base : Nat} {v : Value} {l : List Int} (h : OInts w base v l) {g : Nat} (e : v.ownBlock = some g) : base ≤ g ∧ g < w.heap.size := World.ownsRow.lt h g e
theorem OSt.own_lt {w : World} {base : Nat} {v : Value} {l : List St} (h : OSt w base v l) {g : Nat} (e : v.ownBlock = some g) : base ≤ g ∧ g < w.heap.size := by
  obtain ⟨es, rfl, h2, _⟩ := h
  exact h2.lt g e
theorem OSt.move {w w' : World} {base base' : Nat} {v : Value} {l : List St} (h : OSt w base v l) (hs : w.heap.size ≤ w'.heap.size) (hb : base' ≤ base) (hk : ∀ b, base ≤ b → b < w.heap.size → w'.heap[b]? = w.heap[b]?) : OSt w' base' v l := by
  obtain ⟨es, rfl, h2, h3⟩ := h
  refine ⟨es, rfl, ⟨h2.1, ?_⟩, fun e he => ?_⟩
  · rcases h2.2 with h' | ⟨g, cap, cur, rfl, hbg, hh, rest⟩
    · exact .inl h'
    · exact .inr ⟨g, cap, cur, rfl, by omega, (hk g hbg (row_lt hh)).trans hh, rest⟩
  · obtain ⟨k1, k2⟩ := h3 e he
    have hk' : ∀ b, (base ≤ b ∧ v.ownBlock ≠ some b) → b < w.heap.size → (base' ≤ b ∧ v.ownBlock ≠ some b) ∧ w'.heap[b]? = w.heap[b]? := fun b hb' hl => ⟨⟨by omega, hb'.2⟩, hk b hb'.1 hl⟩
    exact ⟨k1.frame hs hk', k2.frame hs hk'⟩

end Go.Proofs.Ytfioaohadanjmaa

/- Plain: rows of bools that say what is live. No program in sight. -/
namespace Go.Proofs.Ytfioaohadanjmaa

def rget (rows : List (List Bool)) (i v : Nat) : Bool := (rows.getD i []).getD v false
def rset (rows : List (List Bool)) (i v : Nat) (b : Bool) : List (List Bool) := rows.set i ((rows.getD i []).set v b)
theorem getD_setL {α : Type} {l : List α} {i k : Nat} {d x : α} (hk : k < l.length) : (l.set k x).getD i d = if i = k then x else l.getD i d := by
  by_cases h : i = k
  · subst h; simp [List.getD, hk]
  · simp [List.getD, h, Ne.symm h]
theorem rget_rset {rows : List (List Bool)} {i v : Nat} {b : Bool} (hi : i < rows.length) (hv : v < (rows.getD i []).length) (j u : Nat) : rget (rset rows i v b) j u = if j = i ∧ u = v then b else rget rows j u := by
  unfold rget rset
  rw [getD_setL hi]
  by_cases hj : j = i
  · subst hj
    rw [if_pos rfl, getD_setL hv]
    by_cases hu : u = v
    · simp [hu]
    · simp [hu]
  · simp [hj]
theorem rset_len (rows : List (List Bool)) (i v : Nat) (b : Bool) : (rset rows i v b).length = rows.length := by simp [rset]
theorem rset_row {rows : List (List Bool)} {i v : Nat} {b : Bool} (hi : i < rows.length) (j : Nat) : ((rset rows i v b).getD j []).length = (rows.getD j []).length := by
  unfold rset
  rw [getD_setL hi]
  split
  · rename_i h; subst h; simp
  · rfl
/-- how many places of the rows are not set -/
def muR (rows : List (List Bool)) : Nat := (rows.map fun r => (r.filter fun b => !b).length).sum
theorem filter_set_lt {l : List Bool} {v : Nat} (hv : v < l.length) (h : l.getD v false = false) : ((l.set v true).filter fun b => !b).length < (l.filter fun b => !b).length := by
  induction l generalizing v with
  | nil => simp at hv
  | cons a r ih =>
    cases v with
    | zero => simp [List.getD] at h; subst h; simp
    | succ v =>
      have := ih (v := v) (by simpa using hv) (by simpa [List.getD] using h)
      cases a <;> simp <;> omega
theorem sum_set_ltL {α : Type} {f : α → Nat} {l : List α} {k : Nat} {m : α} (hk : k < l.length) (h : f m < f l[k]) : ((l.set k m).map f).sum < (l.map f).sum := by
  induction l generalizing k with
  | nil => simp at hk
  | cons a r ih =>
    cases k with
    | zero => simp at h ⊢; omega
    | succ k =>
      have := ih (k := k) (by simpa using hk) (by simpa using h)
      simp only [List.set_cons_succ, List.map_cons, List.sum_cons]
      omega
theorem muR_set {rows : List (List Bool)} {i v : Nat} (hi : i < rows.length) (hv : v < (rows.getD i []).length) (h : rget rows i v = false) : muR (rset rows i v true) < muR rows := by
  refine sum_set_ltL (f := fun r : List Bool => (r.filter fun b => !b).length) hi ?_
  rw [getD_lt hi] at hv
  unfold rget at h
  rw [getD_lt hi] at h ⊢
  exact filter_set_lt hv h

/-- what is used at a point, or is live behind it and not set at it -/
def needB (ts : List Int) (q : Pt) (b : Bool) (v : Nat) : Bool := (useP ts q.op q.x q.y (v : Nat) != 0) || (b && decide (setsP q.op q.x ≠ (v : Nat)))
structure LvI (ts : List Int) (pts : List Pt) (rows : List (List Bool)) : Prop where
  len : rows.length = pts.length
  row : ∀ i, i < rows.length → (rows.getD i []).length = ts.length
  sound : ∀ i v, rget rows i v = true → ∃ p, pts[i]? = some p ∧ ∃ k ∈ p.next, Nd ts pts k v
theorem LvI.init (ts : List Int) (pts : List Pt) : LvI ts pts (List.replicate pts.length (List.replicate ts.length false)) := by
  have hr : ∀ i, i < pts.length → (List.replicate pts.length (List.replicate ts.length false)).getD i [] = List.replicate ts.length false := fun i hi => by
    rw [getD_lt (by simpa using hi)]; simp
  refine ⟨by simp, fun i hi => ?_, fun i v h => ?_⟩
  · rw [hr i (by simpa using hi)]; simp
  · exfalso
    unfold rget at h
    by_cases hi : i < pts.length
    · rw [hr i hi] at h
      by_cases hv : v < ts.length
      · rw [getD_lt (by simpa using hv)] at h; simp at h
      · rw [getD_ge (by simpa using hv)] at h; cases h
    · rw [getD_ge (l := List.replicate pts.length (List.replicate ts.length false)) (by simpa using hi)] at h; simp at h
theorem LvI.need {ts : List Int} {pts : List Pt} {rows : List (List Bool)} (h : LvI ts pts rows) {n v : Nat} {q : Pt} (hq : pts[n]? = some q) (hv : v < ts.length) (hn : needB ts q (rget rows n v) v = true) : Nd ts pts n v := by
  unfold needB at hn
  rw [Bool.or_eq_true, Bool.and_eq_true] at hn
  rcases hn with hn | ⟨hn, hs⟩
  · exact .use hq hv (by simpa using hn)
  · obtain ⟨p, hp, k, hk, hd⟩ := h.sound n v hn
    rw [hq] at hp; injection hp with hp; subst hp
    exact .flow hq hk hd (by simpa using hs)
theorem LvI.upd {ts : List Int} {pts : List Pt} {rows : List (List Bool)} (h : LvI ts pts rows) {i n v : Nat} {p q : Pt} (hp : pts[i]? = some p) (hn : n ∈ p.next) (hq : pts[n]? = some q) (hv : v < ts.length) (hi : i < rows.length) (hnd : needB ts q (rget rows n v) v = true) :
    LvI ts pts (rset rows i v true) := by
  have hd := h.need hq hv hnd
  refine ⟨by rw [rset_len, h.len], fun j hj => by rw [rset_row hi, h.row j (by simpa [rset_len] using hj)], fun j u hu => ?_⟩
  rw [rget_rset hi (by rw [h.row i hi]; exact hv)] at hu
  split at hu
  · rename_i e
    obtain ⟨rfl, rfl⟩ := e
    exact ⟨p, hp, n, hn, hd⟩
  · exact h.sound j u hu
theorem LvI.done {ts : List Int} {pts : List Pt} {rows : List (List Bool)} (h : LvI ts pts rows) (hnx : ∀ p ∈ pts, ∀ k ∈ p.next, k < pts.length)
    (hc : ∀ i p, pts[i]? = some p → ∀ n ∈ p.next, ∀ q, pts[n]? = some q → ∀ v, v < ts.length → needB ts q (rget rows n v) v = true → rget rows i v = true) (i v : Nat) :
    rget rows i v = true ↔ ∃ p, pts[i]? = some p ∧ ∃ k ∈ p.next, Nd ts pts k v := by
  refine ⟨h.sound i v, ?_⟩
  have hall : ∀ k v, Nd ts pts k v → ∀ i p, pts[i]? = some p → k ∈ p.next → rget rows i v = true := by
    intro k v hd
    induction hd with
    | @use k v q hq hv hu =>
      intro i p hp hk
      exact hc i p hp k hk q hq v hv (by unfold needB; rw [Bool.or_eq_true]; left; simpa using hu)
    | @flow k j v q hq hj hd hs ih =>
      intro i p hp hk
      have hr := ih k q hq hj
      exact hc i p hp k hk q hq v hd.lt (by unfold needB; rw [hr]; simp [hs])
  rintro ⟨p, hp, k, hk, hd⟩
  exact hall k v hd i p hp hk
end Go.Proofs.Ytfioaohadanjmaa

/- Words for rows of bools that a call makes. -/
namespace Go.Proofs.Ytfioaohadanjmaa
open Go.RowKit

theorem Try.infoBs : (Try.prog.info? 59).map (fun i => (i.zero, i.size, i.bytes)) = some (some (.slice none 0 0), 1, 24) := by kernel_rfl
/-- rows of bools: the outer row's cells lead to blocks of their own -/
structure BRow (w : World) (base : Nat) (v : Value) (rb : List Nat) (m : Nat) (rows : List (List Bool)) : Prop where
  own : w.ownsRow base 59 1 v rows.length (rb.map fun r => .slice (some ⟨r, 0, none⟩) m m)
  len : rb.length = rows.length
  row : ∀ i, i < rows.length → RowB w (rb.getD i 0) 4 (bv (rows.getD i [])) ∧ base ≤ rb.getD i 0
  inj : ∀ i j, i < rows.length → j < rows.length → rb.getD i 0 = rb.getD j 0 → i = j
theorem BRow.empty (w : World) (base m : Nat) (hb : base ≤ w.heap.size) : BRow (w.alloc (.cells #[] 59)) base (.slice (some ⟨w.heap.size, 0, none⟩) 0 0) [] m [] :=
  ⟨World.ownsRow_lit (base := base) (e := 59) (size := 1) w #[] 0 hb (by simp [maxLen]) rfl, rfl, fun i h => by simp at h, fun i j h => by simp at h⟩
theorem BRow.slice {w : World} {base : Nat} {v : Value} {rb : List Nat} {m : Nat} {rows : List (List Bool)} (h : BRow w base v rb m rows) : ∃ A c, v = .slice A rows.length c ∧ rows.length ≤ c := by
  rcases h.own.2 with ⟨rfl, h0⟩ | ⟨g, cap, cur, rfl, _, _, hc, _⟩
  · exact ⟨none, 0, by rw [h0], by omega⟩
  · exact ⟨_, cap, rfl, hc⟩
theorem BRow.form {w : World} {base : Nat} {v : Value} {rb : List Nat} {m : Nat} {rows : List (List Bool)} (h : BRow w base v rb m rows) (hn : 0 < rows.length) :
    ∃ g c, v = .slice (some ⟨g, 0, none⟩) rows.length c ∧ base ≤ g ∧ g < w.heap.size ∧ rows.length ≤ c ∧ (∀ i, i < rows.length → w.cell? ⟨g, i, none⟩ = some (.slice (some ⟨rb.getD i 0, 0, none⟩) m m)) ∧ ∃ cs fr, w.heap[g]? = some (.cells cs 59 fr) := by
  have ho := h.own
  obtain ⟨g, c, rfl, hb, hlt⟩ := ho.form hn
  refine ⟨g, c, rfl, hb, hlt, ?_, fun i hi => ?_, ?_⟩
  · rcases ho.2 with ⟨e, _⟩ | ⟨g', cap', cur, e, _, _, hc, _⟩
    · cases e
    · injection e with e1 e2 e3; subst e3; exact hc
  · have hil : i < rb.length := by rw [h.len]; exact hi
    rw [ho.cellAt i (by omega), List.getElem?_map, List.getElem?_eq_getElem hil, getD_lt hil]; rfl
  · rcases ho.2 with ⟨e, _⟩ | ⟨g', cap', cur, e, _, hh, _⟩
    · cases e
    · injection e with e1 e2 e3
      injection e1 with e1
      injection e1 with e1
      subst e1
      exact ⟨_, _, hh⟩
theorem BRow.low {w w' : World} {base : Nat} {v : Value} {rb : List Nat} {m : Nat} {rows : List (List Bool)} (h : BRow w base v rb m rows) (hb : Below w.heap.size w w') : BRow w' base v rb m rows :=
  ⟨h.own.kept (grown_bel hb (Nat.le_refl _) none) (by cases v.ownBlock <;> simp), h.len, fun i hi => ⟨(h.row i hi).1.low hb (h.row i hi).1.lt, (h.row i hi).2⟩, h.inj⟩
theorem BRow.set {w : World} {base : Nat} {v : Value} {rb : List Nat} {m : Nat} {rows : List (List Bool)} (h : BRow w base v rb m rows) {i u : Nat} (hi : i < rows.length) (b : Bool) :
    BRow (w.setCell ⟨rb.getD i 0, u, none⟩ (.bool b)) base v rb m (rset rows i u b) := by
  have hne : v.ownBlock ≠ some (rb.getD i 0) := by
    rcases h.own.2 with ⟨rfl, _⟩ | ⟨g, cap, cur, rfl, _, hh, _⟩
    · simp [Value.ownBlock]
    · intro e
      injection e with e
      have e' : g = rb.getD i 0 := e
      have hr := (h.row i hi).1
      unfold RowB at hr
      rw [← e', hh] at hr
      injection hr with hr
      injection hr with _ hT
      exact absurd hT (by decide)
  refine ⟨by rw [rset_len]; exact h.own.kept (grown_set w _ u _) (.inr hne), by rw [rset_len]; exact h.len, fun j hj => ?_, by rw [rset_len]; exact h.inj⟩
  rw [rset_len] at hj
  refine ⟨?_, (h.row j hj).2⟩
  unfold rset
  rw [getD_setL hi]
  by_cases e : j = i
  · subst e
    rw [if_pos rfl, ← bv_set]
    exact (h.row j hj).1.set_ u _
  · rw [if_neg e]
    exact (h.row j hj).1.other (fun hh => e (h.inj j i hj hi hh)) u _
/-- append(out, make([]bool, m)) -/
theorem wpList_push_row {ops : Array Oper} {rest : List Oper} {o : Oper} {a : Act} {Q : Exit → Act → World → Prop} {w : World} {base m : Nat} {vo : Value} {rb : List Nat} {rows : List (List Bool)} (hgd : o.guard = none) (s x : Operand)
    (ho : o.op = .call { callee := .builtin .append, args := #[s, x], argTypes := #[57, 57] })
    (hP : BRow w base vo rb m rows) (hb : base ≤ w.heap.size) (hn : rows.length + 1 ≤ 100000) (row : List Bool)
    (hs : a.eval s = vo) (hx : a.eval x = .slice (some ⟨w.heap.size + 1, 0, none⟩) 1 1)
    (h : ∀ v' w', BRow w' base v' (rb ++ [w.heap.size]) m (rows ++ [row]) → Below base w w' → wpList Try.prog ops Q rest (a.put o.dst v') w') :
    wpList Try.prog ops Q (o :: rest) a ((w.alloc (.cells (bv row).toArray 4)).alloc (.cells #[.slice (some ⟨w.heap.size, 0, none⟩) m m] 59)) := by
  obtain ⟨i0, hi0, hz0, hz1, hz2⟩ := info_parts Try.infoBs
  have hb1 := bel_a w (.cells (bv row).toArray 4)
  have hs1 : (w.alloc (.cells (bv row).toArray 4)).heap.size = w.heap.size + 1 := by simp
  have hb2 := bel_a (w.alloc (.cells (bv row).toArray 4)) (.cells #[.slice (some ⟨w.heap.size, 0, none⟩) m m] 59)
  have hr1 : RowB ((w.alloc (.cells (bv row).toArray 4)).alloc (.cells #[.slice (some ⟨w.heap.size, 0, none⟩) m m] 59)) w.heap.size 4 (bv row) := (RowB.new w (bv row) 4).alloc _
  have hr2 := heap_alloc_new (w.alloc (.cells (bv row).toArray 4)) (.cells #[.slice (some ⟨w.heap.size, 0, none⟩) m m] 59)
  rw [hs1] at hr2
  have hb12 := hb1.trans (hb2.mono hb1.size)
  have hP2 := hP.low hb12
  have hsz : ((w.alloc (.cells (bv row).toArray 4)).alloc (.cells #[.slice (some ⟨w.heap.size, 0, none⟩) m m] 59)).heap.size = w.heap.size + 2 := by simp
  generalize (w.alloc (.cells (bv row).toArray 4)).alloc (.cells #[.slice (some ⟨w.heap.size, 0, none⟩) m m] 59) = W at *
  refine wpList_append_own_at _ hgd s x 57 ho base 59 i0 _ 1 24 Try.underlying57 hi0 hz0 hz1 hz2 rfl (by omega) vo rows.length _ hs hP2.own ⟨w.heap.size + 1, 0, none⟩ 1 1 [.slice (some ⟨w.heap.size, 0, none⟩) m m] hx rfl ?_ ?_ (by simp only [maxLen]; omega) (by omega) (by omega) ?_
  · intro j u hu
    have hj : j = 0 := by
      rcases Nat.eq_zero_or_pos j with h | h
      · exact h
      · rw [List.getElem?_eq_none (by simp; omega)] at hu; cases hu
    subst hj
    have : W.cell? ⟨w.heap.size + 1, 0, none⟩ = some u := by
      rw [cell_of_row _ _ _ _ _ _ hr2]
      simpa using hu
    simpa [Addr.add] using this
  · intro u hu
    simp at hu
    subst hu; rfl
  · intro v' w' k1 k2 k3 k4
    have hownT : ∀ (b : Nat) (T : TypeId) (cs : Array Value), W.heap[b]? = some (Obj.cells cs T (0, 0)) → T ≠ 59 → w'.heap[b]? = some (Obj.cells cs T (0, 0)) := by
      intro b T cs hr hT
      refine (k2.block b ?_ fun e => ?_).trans hr
      · rcases Nat.lt_or_ge b W.heap.size with h' | h'
        · exact h'
        · rw [Array.getElem?_eq_none h'] at hr; cases hr
      · rcases hP2.own.2 with ⟨rfl, _⟩ | ⟨g, cap, cur, rfl, _, hh, _⟩
        · cases e
        · injection e with e
          have e' : b = g := e
          subst e'
          rw [hr] at hh
          injection hh with hh
          injection hh with _ hT'
          exact hT hT'
    have hlt : ∀ i, i < rows.length → rb.getD i 0 < w.heap.size := fun i hi => (hP.row i hi).1.lt
    have hgl : ∀ i, i < (rows ++ [row]).length → (rb ++ [w.heap.size]).getD i 0 = if i < rows.length then rb.getD i 0 else w.heap.size := by
      intro i hi
      by_cases h : i < rows.length
      · rw [if_pos h, getD_lt (by rw [List.length_append, hP.len]; omega), getD_lt (by rw [hP.len]; exact h), List.getElem_append_left]
      · have hi' : i = rows.length := by simp at hi; omega
        rw [if_neg h, getD_lt (by simp [hP.len, hi'])]
        rw [List.getElem_append_right (by rw [hP.len]; omega)]; simp
    refine h v' w' ⟨?_, by simp [hP.len], fun i hi => ?_, fun i j hi hj he => ?_⟩ ?_
    · rw [List.map_append, List.length_append]; exact k1
    · rw [hgl i hi]
      by_cases hil : i < rows.length
      · rw [if_pos hil, getD_lt hi, List.getElem_append_left hil]
        refine ⟨?_, (hP.row i hil).2⟩
        have := hownT _ _ _ (hP2.row i hil).1 (by decide)
        rw [getD_lt hil] at this
        exact this
      · have hi' : i = rows.length := by simp at hi; omega
        rw [if_neg hil, getD_lt hi, List.getElem_append_right (by omega)]
        refine ⟨?_, hb⟩
        have e := hownT _ _ _ hr1 (by decide)
        simpa [RowB] using e
    · rw [hgl i hi, hgl j hj] at he
      simp at hi hj
      split at he <;> split at he
      · exact hP.inj i j (by assumption) (by assumption) he
      · have := hlt i (by assumption); omega
      · have := hlt j (by assumption); omega
      · omega
    · refine (hb12.mono hb).trans ⟨k2.os, k2.tape, k2.output, k2.size, fun k hk => k2.block k (by omega) fun e => ?_⟩
      have := (hP2.own.lt k e.symm).1
      omega

end Go.Proofs.Ytfioaohadanjmaa

/- A region that draws its order, each of whose operations has a known value in every world that meets a condition S and keeps S: it may be walked in the order of the text. No program in sight. -/
namespace Go.Proofs.Ytfioaohadanjmaa
open Go Go.RowKit

section
variable {P : Program} {ops : Array Oper} {Q : Exit → Act → World → Prop} {md : Region.Mode} {S : World → Prop}

/-- what an operation does when it is carried out: it yields v and keeps S -/
def DoesS (P : Program) (S : World → Prop) (o : Oper) (v : Value) (a : Act) : Prop :=
  (∀ w, S w → ∃ w', (execOp a.eval o).run P w = .ok (.value v) w' ∧ S w') ∨
  (v = undef ∧ ∀ w, S w → ∃ w', (execOp a.eval o).run P w = .ok .skip w' ∧ S w') ∨
  (∃ f args, ∀ w, S w → (execOp a.eval o).run P w = .ok (.enter f args) w ∧ Calls P f args w fun e w' => e = .returned v ∧ S w')
def StepS (P : Program) (ops : Array Oper) (S : World → Prop) (o : Oper) (v : Value) (a : Act) : Prop :=
  (Region.wanted o (yielded ops a.tmps) = true ∧ DoesS P S o v a) ∨ (Region.wanted o (yielded ops a.tmps) = false ∧ v = undef)

theorem StepS.of_same {o : Oper} {v : Value} {a a' : Act} (hy : StepS P ops S o v a) (he : execOp a'.eval o = execOp a.eval o)
    (hw : Region.wanted o (yielded ops a'.tmps) = Region.wanted o (yielded ops a.tmps)) : StepS P ops S o v a' := by
  unfold StepS DoesS at *
  rw [he, hw]
  exact hy

theorem StepS.wpOp {i : Nat} {o : Oper} {v : Value} {a : Act} (hi : ops[i]? = some o) (hy : StepS P ops S o v a)
    {K : Act → World → Prop} {w : World} (hS : S w) (h : ∀ w', S w' → K (a.put o.dst v) w') : wpOp P ops Q i K a w := by
  unfold Go.wpOp
  simp only [hi]
  rcases hy with ⟨hw, hd⟩ | ⟨hw, rfl⟩
  · simp only [hw, if_true]
    refine .inl ?_
    unfold Oper.wp
    rcases hd with hd | ⟨rfl, hd⟩ | ⟨f, args, hd⟩
    · obtain ⟨w', hr, hS'⟩ := hd w hS
      rw [hr]; exact h w' hS'
    · obtain ⟨w', hr, hS'⟩ := hd w hS
      rw [hr]; exact h w' hS'
    · obtain ⟨hr, hc⟩ := hd w hS
      rw [hr]
      refine Calls.mono hc fun e w' he => ?_
      obtain ⟨rfl, hS'⟩ := he
      exact h w' hS'
  · simp only [hw, Bool.false_eq_true, if_false]; exact h w hS

/-- in whatever order -/
def Det (P : Program) (md : Region.Mode) (ops : Array Oper) (Q : Exit → Act → World → Prop) (S : World → Prop) : Nat → Array Bool → Act → Prop
  | 0, listed, a => Region.ready md ops listed = [] ∧ ∀ w, S w → Q .normal a w
  | fuel + 1, listed, a => (Region.ready md ops listed = [] → ∀ w, S w → Q .normal a w) ∧
    ∀ i ∈ Region.ready md ops listed, ∃ o v, ops[i]? = some o ∧ StepS P ops S o v a ∧ Det P md ops Q S fuel (listed.setIfInBounds i true) (a.put o.dst v)

theorem wpAny_of_det : ∀ (fuel : Nat) (listed : Array Bool) (a : Act), Det P md ops Q S fuel listed a → ∀ w, S w → wpAny P md ops Q fuel listed a w
  | 0, _, _, h, w, hS => ⟨h.1, h.2 w hS⟩
  | fuel + 1, listed, a, h, w, hS => ⟨fun h0 => h.1 h0 w hS, fun i hi => by
      obtain ⟨o, v, ho, hst, hd⟩ := h.2 i hi
      exact hst.wpOp ho hS fun w' hS' => wpAny_of_det fuel _ _ hd w' hS'⟩

theorem Det.first {i : Nat} {oi : Oper} {v : Value} (hi : ops[i]? = some oi) (hsel : ∀ (j : Nat) (o : Oper) cs b, ops[j]? = some o → o.op ≠ .select cs b) :
    ∀ (fuel : Nat) (listed : Array Bool) (a : Act),
      (∀ j oj, ops[j]? = some oj → j ≠ i → listed.getD j true = false → (∀ e ∈ oj.after, Region.binds md e = true → e.on ≠ i) → oi.apart ops oj = true) →
      i ∈ Region.ready md ops listed → StepS P ops S oi v a →
      Det P md ops Q S fuel (listed.setIfInBounds i true) (a.put oi.dst v) → Det P md ops Q S (fuel + 1) listed a := by
  intro fuel
  induction fuel with
  | zero =>
    intro listed a _ hr hy H
    refine ⟨fun h => (by rw [h] at hr; cases hr), fun j hj => ?_⟩
    by_cases hji : j = i
    · subst hji; exact ⟨oi, v, hi, hy, H⟩
    · have := ready_mono hj hji
      rw [H.1] at this
      cases this
  | succ fuel ih =>
    intro listed a hfree hr hy H
    refine ⟨fun h => (by rw [h] at hr; cases hr), fun j hj => ?_⟩
    by_cases hji : j = i
    · subst hji; exact ⟨oi, v, hi, hy, H⟩
    · obtain ⟨oj', u, hoj', hst, hd⟩ := H.2 j (ready_mono hj hji)
      obtain ⟨hjun, oj, hoj, hall⟩ := mem_ready.1 hj
      rw [hoj] at hoj'
      injection hoj' with e
      subst e
      have hnot : ∀ e ∈ oj.after, Region.binds md e = true → e.on ≠ i := fun e he hb heq => by
        have h1 := hall e he hb
        have h0 := (mem_ready.1 hr).1
        rw [heq] at h1
        rcases Nat.lt_or_ge i listed.size with h' | h'
        · simp [h'] at h0 h1; rw [h0] at h1; cases h1
        · simp [Array.getElem?_eq_none h'] at h1
      obtain ⟨h1, h2, h3⟩ := Oper.apart_spec (hfree j oj hoj hji hjun hnot)
      have hstj : StepS P ops S oj u a := hst.of_same (execOp_put oj (fun cs b => hsel j oj cs b hoj) a oi.dst v h1).symm (wanted_put oj a oi.dst v h1).symm
      have hsti : StepS P ops S oi v (a.put oj.dst u) := hy.of_same (execOp_put oi (fun cs b => hsel i oi cs b hi) a oj.dst u h3) (wanted_put oi a oj.dst u h3)
      have hfree' : ∀ k ok, ops[k]? = some ok → k ≠ i → (listed.setIfInBounds j true).getD k true = false →
          (∀ e ∈ ok.after, Region.binds md e = true → e.on ≠ i) → oi.apart ops ok = true := fun k ok hk hki hun hno => by
        refine hfree k ok hk hki ?_ hno
        by_cases hjk : j = k
        · subst hjk; exact hjun
        · rw [getD_set_ne true hjk] at hun; exact hun
      refine ⟨oj, u, hoj, hstj, ih (listed.setIfInBounds j true) (a.put oj.dst u) hfree' (ready_mono hr (Ne.symm hji)) hsti ?_⟩
      rw [Array.setIfInBounds_comm _ _ hji, ← Act.put_comm a v u h2]
      exact hd

/-- in the order of the text, from operation i on -/
def SeqS (P : Program) (ops : Array Oper) (Q : Exit → Act → World → Prop) (S : World → Prop) : List Oper → Act → Prop
  | [], a => ∀ w, S w → Q .normal a w
  | o :: rest, a => ∃ v, StepS P ops S o v a ∧ SeqS P ops Q S rest (a.put o.dst v)

/-- the first i operations have come up -/
def doneTo (n i : Nat) : Array Bool := Array.ofFn fun j : Fin n => decide (j.val < i)
theorem doneTo_get (n i j : Nat) (d : Bool) : (doneTo n i).getD j d = if j < n then decide (j < i) else d := by
  unfold doneTo
  by_cases h : j < n
  · rw [if_pos h]; simp [Array.getD_eq_getD_getElem?, h]
  · rw [if_neg h]; simp [Array.getD_eq_getD_getElem?, h]
theorem doneTo_succ (n i : Nat) : (doneTo n i).setIfInBounds i true = doneTo n (i + 1) := by
  apply Array.ext
  · simp [doneTo]
  · intro j h1 h2
    have hj : j < n := by simpa [doneTo] using h2
    rw [Array.getElem_setIfInBounds (by simpa [doneTo] using hj)]
    simp only [doneTo, Array.getElem_ofFn]
    split
    · rename_i e; subst e; simp
    · rename_i e; rw [decide_eq_decide]; omega
theorem doneTo_zero (n : Nat) : Array.replicate n false = doneTo n 0 := by
  apply Array.ext
  · simp [doneTo]
  · intro j h1 h2; simp [doneTo]

/-- operation i waits for none behind it, and those behind it that do not wait for it are apart from it -/
def seqAt (md : Region.Mode) (ops : Array Oper) (i : Nat) : Bool :=
  match ops[i]? with
  | none => true
  | some oi => oi.after.all (fun e => !Region.binds md e || decide (e.on < i)) &&
    (List.range ops.size).all fun j => decide (j ≤ i) || match ops[j]? with
      | some oj => oj.after.any (fun e => Region.binds md e && e.on == i) || oi.apart ops oj
      | none => true
def seqOk (md : Region.Mode) (ops : Array Oper) : Bool := Region.noSelect ops && (List.range ops.size).all (seqAt md ops)

theorem ready_done {n : Nat} (hn : ops.size = n) : Region.ready md ops (doneTo n n) = [] := by
  apply List.eq_nil_iff_forall_not_mem.2
  intro j hj
  have h := (mem_ready.1 hj)
  obtain ⟨o, ho, _⟩ := h.2
  have hlt : j < ops.size := (Array.getElem?_eq_some_iff.1 ho).1
  have h0 := h.1
  rw [doneTo_get, if_pos (by omega)] at h0
  simp at h0; omega

theorem Det.of_seq (hok : seqOk md ops = true) : ∀ (fuel i : Nat) (a : Act), fuel + i = ops.size → SeqS P ops Q S (ops.toList.drop i) a → Det P md ops Q S fuel (doneTo ops.size i) a := by
  have hok' := hok
  simp only [seqOk, Bool.and_eq_true, List.all_eq_true, List.mem_range] at hok'
  obtain ⟨hs, hat⟩ := hok'
  intro fuel
  induction fuel with
  | zero =>
    intro i a hi h
    have : i = ops.size := by omega
    subst this
    rw [List.drop_of_length_le (by simp)] at h
    exact ⟨ready_done rfl, h⟩
  | succ fuel ih =>
    intro i a hi h
    have hlt : i < ops.size := by omega
    have hd : ops.toList.drop i = ops[i] :: ops.toList.drop (i + 1) := by
      rw [List.drop_eq_getElem_cons (by simpa using hlt)]; simp
    rw [hd] at h
    obtain ⟨v, hst, hrest⟩ := h
    have hget : ops[i]? = some ops[i] := Array.getElem?_eq_getElem hlt
    have hA := hat i hlt
    simp only [seqAt, hget, Bool.and_eq_true, List.all_eq_true, List.mem_range, Array.all_eq_true_iff_forall_mem] at hA
    have hdn := ih (i + 1) _ (by omega) hrest
    rw [← doneTo_succ] at hdn
    refine Det.first hget (Region.noSelect_spec hs) fuel (doneTo ops.size i) a ?_ ?_ hst hdn
    · intro j oj hj hne hun hno
      have hjl : j < ops.size := (Array.getElem?_eq_some_iff.1 hj).1
      rw [doneTo_get, if_pos hjl] at hun
      have hji : i < j := by simp at hun; omega
      have h2 := hA.2 j hjl
      simp only [hj, Bool.or_eq_true, decide_eq_true_eq] at h2
      rcases h2 with h2 | h2 | h2
      · omega
      · obtain ⟨e, he, hb⟩ := Array.any_eq_true'.1 h2
        simp only [Bool.and_eq_true, beq_iff_eq] at hb
        exact absurd hb.2 (hno e he hb.1)
      · exact h2
    · rw [mem_ready]
      refine ⟨by rw [doneTo_get, if_pos hlt]; simp, ops[i], hget, fun e he hb => ?_⟩
      have h1 := hA.1 e he
      simp only [hb, Bool.not_true, Bool.false_or, decide_eq_true_eq] at h1
      rw [doneTo_get, if_pos (by omega)]; simpa using h1

/-- the law -/
theorem wp_region_seq {id : Nat} {l : List Oper} {a : Act} {w : World} (S : World → Prop) (hm : P.follows .mixedOrders = true) (hok : seqOk .any l.toArray = true) (hS : S w.drew)
    (h : SeqS P l.toArray Q S l a) : (Code.region id l.toArray true).wp P Q a w := by
  refine wp_region_any hm ?_
  rw [doneTo_zero]
  exact wpAny_of_det _ _ _ (Det.of_seq hok l.toArray.size 0 a (by omega) (by simpa using h)) w.drew hS

theorem SeqS.skip {o : Oper} {rest : List Oper} {a : Act} (hw : Region.wanted o (yielded ops a.tmps) = false) (h : SeqS P ops Q S rest (a.put o.dst undef)) : SeqS P ops Q S (o :: rest) a :=
  ⟨undef, .inr ⟨hw, rfl⟩, h⟩
theorem SeqS.pure {o : Oper} {rest : List Oper} {a : Act} {v : Value} (hw : Region.wanted o (yielded ops a.tmps) = true) (hv : ∀ w, S w → (execOp a.eval o).run P w = .ok (.value v) w) (h : SeqS P ops Q S rest (a.put o.dst v)) : SeqS P ops Q S (o :: rest) a :=
  ⟨v, .inl ⟨hw, .inl fun w hS => ⟨w, hv w hS, hS⟩⟩, h⟩
theorem SeqS.call {o : Oper} {rest : List Oper} {a : Act} {v : Value} {f : FuncId} {args : Array Value} (hw : Region.wanted o (yielded ops a.tmps) = true) (he : ∀ w, (execOp a.eval o).run P w = .ok (.enter f args) w) (hc : ∀ w, S w → Calls P f args w fun e w' => e = .returned v ∧ S w') (h : SeqS P ops Q S rest (a.put o.dst v)) : SeqS P ops Q S (o :: rest) a :=
  ⟨v, .inl ⟨hw, .inr (.inr ⟨f, args, fun w hS => ⟨he w, hc w hS⟩⟩)⟩, h⟩

end
theorem bcell {W w1 : World} (hb : Below W.heap.size W w1) : (∀ b o, b < W.heap.size → w1.cell? ⟨b, o, none⟩ = W.cell? ⟨b, o, none⟩) ∧ (∀ b o, b < W.heap.size → w1.frozen? ⟨b, o, none⟩ = W.frozen? ⟨b, o, none⟩) :=
  ⟨fun b o h => hb.cell (p := ⟨b, o, none⟩) h, fun b o h => hb.frozen (p := ⟨b, o, none⟩) h⟩
end Go.Proofs.Ytfioaohadanjmaa
