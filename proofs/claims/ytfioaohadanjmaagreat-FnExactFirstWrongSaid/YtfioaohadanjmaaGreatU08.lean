import Derived.Test.YtfioaohadanjmaaGreatU07
import Derived.Test.YtfioaohadanjmaaGreatU01
import Derived.Laws.Concat
import Derived.Laws.IdiomStrings
import Derived.Deep.RegionHeld3
import Derived.RegionTactic
import Derived.Test.YtfioaohadanjmaaGreatU06
import Derived.Deep.RegionHeld
import Derived.Below
set_option linter.unusedVariables false

/- The sizes of arguments: szIntS, szStmt, szStmtS, szProgram. -/
namespace Go.Proofs.YtfioaohadanjmaaGreat
open Go.RowKit

set_option maxHeartbeats 400000 in
theorem szIntS_any (v : Value) (xs : List Int) (left : Int) (B : Nat) (w : World) (h : AnI w B v xs) (h0 : 0 ≤ left) (h1 : left ≤ 1048576) :
    Calls Tryz.prog 35 #[v, .int .i64 left] w fun e w' => e = .returned (.int .i64 (leftP left xs.length)) ∧ w = w' := by
  obtain ⟨A, c, rfl, hc, hm, -⟩ := h
  rw [maxLen_eq] at hm
  by_cases hlt : left < (xs.length : Int)
  · have HR : Hid (leftP left xs.length = -1) := Lib.hid (if_pos hlt)
    go_enter Tryz.func35, Tryz.ntmps35
    have hx : left - (xs.length : Int) < 0 := by omega
    go_wp2_with (at_builtin; fail)
    go_ret
    exact ⟨by rw [HR.out]; rfl, rfl⟩
  · have HR : Hid (leftP left xs.length = left - xs.length) := Lib.hid (if_neg hlt)
    go_enter Tryz.func35, Tryz.ntmps35
    have hx : ¬ left - (xs.length : Int) < 0 := by omega
    go_wp2_with (at_builtin; fail)
    go_ret
    exact ⟨by rw [HR.out]; rfl, rfl⟩
theorem szL_drop (l : List St) (k : Nat) : szL (l.take k) + (l.length - k) ≤ szL l := by
  have := szL_append (l.take k) (l.drop k)
  rw [List.take_append_drop] at this
  have h2 := len_le_szL (l.drop k)
  rw [List.length_drop] at h2
  omega
def SzOk (m : Nat) : Prop := ∀ (v : Value) (l : List St) (left : Int) (B : Nat) (w : World), szL l ≤ m → StS w B v l → Lens l → B ≤ w.heap.size → 0 ≤ left → left ≤ 1048576 →
  Calls Tryz.prog 36 #[v, .int .i64 left] w fun e w' => e = .returned (.int .i64 (leftP left (szL l))) ∧ Below w.heap.size w w'
set_option maxHeartbeats 400000 in
theorem szStmt_of (m : Nat) (ih : SzOk m) (op x y n : Int) (tv ev : Value) (th el : List St) (left : Int) (B : Nat) (w : World) (h1 : szL th ≤ m) (h2 : szL el ≤ m) (ht : StS w B tv th) (he : StS w B ev el) (lt : Lens th) (le : Lens el) (hB : B ≤ w.heap.size) (l0 : 0 ≤ left) (l1 : left ≤ 1048576) :
    Calls Tryz.prog 56 #[.agg #[.int .i64 op, .int .i64 x, .int .i64 y, .int .i64 n, tv, ev], .int .i64 left] w fun e w' => e = .returned (.int .i64 (leftP left (szL th + szL el))) ∧ Below w.heap.size w w' := by
  obtain ⟨A1, c1, rfl, hc1⟩ := ht.slice
  obtain ⟨A2, c2, rfl, hc2⟩ := he.slice
  have IH := Lib.hid ih
  have HX := Lib.hid (RowB.new w [.int .i64 op, .int .i64 x, .int .i64 y, .int .i64 n, .slice A1 th.length c1, .slice A2 el.length c2] 88)
  have HB1 := Lib.hid (bel_a w (.cells #[.int .i64 op, .int .i64 x, .int .i64 y, .int .i64 n, .slice A1 th.length c1, .slice A2 el.length c2] 88))
  have HT := Lib.hid (ht.low HB1.out hB)
  have HE := Lib.hid (he.low HB1.out hB)
  have HLT := Lib.hid lt
  have HLE := Lib.hid le
  have HA := Lib.hid (leftP_add (left := left) (a := szL th) (b := szL el))
  clear ht he lt le ih
  go_enter Tryz.func56, Tryz.ntmps56
  go_upto_region 1 with (at_builtin; fail)
  generalize w.alloc (.cells #[.int .i64 op, .int .i64 x, .int .i64 y, .int .i64 n, .slice A1 th.length c1, .slice A2 el.length c2] 88) = W at *
  have u4 : W.cell? ⟨w.heap.size, 4, none⟩ = some (.slice A1 th.length c1) := HX.out.cell 4
  have u5 : W.cell? ⟨w.heap.size, 5, none⟩ = some (.slice A2 el.length c2) := HX.out.cell 5
  have hsW := HB1.out.size
  go_wp2_with (at_builtin; fail)
  refine (IH.out _ th left B W h1 HT.out HLT.out (by omega) l0 l1).mono ?_
  rintro e w1 ⟨rfl, hb1⟩
  have HB2 := Lib.hid (HB1.out.trans (hb1.mono hsW))
  have u5 : w1.cell? ⟨w.heap.size, 5, none⟩ = some (.slice A2 el.length c2) := (hb1.cell (p := ⟨w.heap.size, 5, none⟩) HX.out.lt).trans u5
  have HE := Lib.hid (HE.out.low hb1 (by omega))
  clear hb1 u4
  by_cases hn : leftP left (szL th) < 0
  · obtain ⟨e1, e2⟩ := leftP_neg hn
    have HR : Hid (leftP left (szL th + szL el) = -1) := Lib.hid (by rw [HA.out, if_pos e2])
    rw [e1] at *
    clear e1 hn
    go_wp2_with (at_builtin; fail)
    go_ret
    exact ⟨by rw [HR.out]; rfl, HB2.out⟩
  · obtain ⟨e2, e1⟩ := leftP_nn (by omega : 0 ≤ leftP left (szL th))
    have HR : Hid (leftP left (szL th + szL el) = leftP (left - szL th) (szL el)) := Lib.hid (by rw [HA.out, if_neg (by omega)])
    generalize leftP left (szL th) = L1 at *
    have HL1 := Lib.hid e1
    have hl1 : 0 ≤ L1 := by omega
    have hl2 : L1 ≤ 1048576 := by omega
    clear e1 hn e2
    have hsW1 := HB2.out.size
    go_wp2_with (at_builtin; fail)
    refine (IH.out _ el L1 B w1 h2 HE.out HLE.out (by omega) hl1 hl2).mono ?_
    rintro e w2 ⟨rfl, hb2⟩
    have HB3 := Lib.hid (HB2.out.trans (hb2.mono hsW1))
    clear hb2
    rw [HL1.out, ← HR.out]
    by_cases hn : leftP left (szL th + szL el) < 0
    · have e1 := (leftP_neg hn).1
      rw [e1]
      have HE1 := Lib.hid e1
      clear e1 hn
      go_wp2_with (at_builtin; fail)
      go_ret
      exact ⟨by rw [HE1.out]; rfl, HB3.out⟩
    · obtain ⟨L2, hL2⟩ : ∃ L2, L2 = leftP left (szL th + szL el) := ⟨_, rfl⟩
      rw [← hL2] at hn ⊢
      have HL2 := Lib.hid hL2
      clear hL2
      go_wp2_with (at_builtin; fail)
      go_ret
      exact ⟨by rw [← HL2.out]; rfl, HB3.out⟩
set_option maxHeartbeats 800000 in
theorem szS_of (m : Nat) (ih : ∀ j, j < m → SzOk j) : SzOk m := by
  intro v l left B w hm hl hL hB h0 h1
  have hll := hL.le
  rw [maxLen_eq] at hll
  obtain ⟨A, c, rfl, hc⟩ := hl.slice
  have IH := Lib.hid ih
  have HL := Lib.hid hl
  have HLN := Lib.hid hL
  have HLE := Lib.hid (len_le_szL l)
  clear ih hl hL
  by_cases hlt : left < (l.length : Int)
  · have HR : Hid (leftP left (szL l) = -1) := Lib.hid (if_pos (by have := HLE.out; omega))
    go_enter Tryz.func36, Tryz.ntmps36
    have hx : left - (l.length : Int) < 0 := by omega
    go_wp2_with (at_builtin; fail)
    go_ret
    exact ⟨by rw [HR.out]; rfl, Below.refl _ _⟩
  · have hx : ¬ left - (l.length : Int) < 0 := by omega
    go_enter Tryz.func36, Tryz.ntmps36
    go_wp2_with (at_builtin; fail)
    go_loopw [1, 5] (fun v i wr => ∃ (k : Nat) (L : Int), k ≤ l.length ∧ i = .int .i64 k ∧ v = .int .i64 L ∧ L = left - l.length - (szL (l.take k) - k) ∧ 0 ≤ L ∧ L ≤ 1048576 ∧ Below w.heap.size w wr) (fun _ i _ => l.length - (intOf i).toNat)
    case atStart => exact ⟨0, _, Nat.zero_le _, rfl, rfl, by simp [szL], by omega, by omega, Below.refl _ _⟩
    case round =>
      obtain ⟨k, L, hk, rfl, rfl, hLe, hL0, hL1, hbw⟩ := hrel
      have HLE2 := Lib.hid hLe
      have HBW := Lib.hid hbw
      have hsr := hbw.size
      clear hLe
      by_cases hlk : k < l.length
      · have hl2 := HL.out.low hbw hB
        have hsz := szL_mem hlk
        rw [l[k].sz_eq] at hsz
        obtain ⟨b, off, tv, ev, rfl, hb, hth, hel, c0, c1, c2, c3, c4, c5⟩ := hl2.get hlk
        obtain ⟨A4, n4, rfl, -⟩ := hth.slice
        obtain ⟨A5, n5, rfl, -⟩ := hel.slice
        have HTH := Lib.hid hth
        have HEL := Lib.hid hel
        have HLT := Lib.hid (HLN.out.th hlk)
        have HLL := Lib.hid (HLN.out.el hlk)
        have HTS := Lib.hid (szL_take_succ l k hlk)
        have HDR := Lib.hid (szL_drop l (k + 1))
        have HLK := Lib.hid hlk
        generalize l[k]'hlk = s at *
        clear hl2 hth hel hbw
        go_wp2_with (at_builtin; fail)
        refine (szStmt_of (max (szL s.th) (szL s.el)) (IH.out _ (by omega)) s.op s.x s.y s.n _ _ s.th s.el L B wr (by omega) (by omega) HTH.out HEL.out HLT.out HLL.out (by omega) hL0 hL1).mono ?_
        rintro e w2 ⟨rfl, hb2⟩
        have HB3 := Lib.hid (HBW.out.trans (hb2.mono hsr))
        clear hb2 c0 c1 c2 c3 c4 c5
        by_cases hn : leftP L (szL s.th + szL s.el) < 0
        · obtain ⟨e1, e2⟩ := leftP_neg hn
          rw [e1]
          have HR : Hid (leftP left (szL l) = -1) := Lib.hid (if_pos (by have := HTS.out; have := HDR.out; have := HLE2.out; have := HLE.out; omega))
          clear e1 hn e2
          go_wp2_with (at_builtin; fail)
          go_ret
          exact ⟨by rw [HR.out]; rfl, HB3.out⟩
        · obtain ⟨e2, e1⟩ := leftP_nn (by omega : 0 ≤ leftP L (szL s.th + szL s.el))
          generalize leftP L (szL s.th + szL s.el) = L2 at *
          have HE1 := Lib.hid e1
          have hL20 : 0 ≤ L2 := by omega
          have hL21 : L2 ≤ 1048576 := by omega
          clear e1
          go_wp2_with (at_builtin; fail)
          exact ⟨⟨k + 1, L2, by omega, by go_num, rfl, by have h5 := HTS.out; have h6 := HE1.out; have h7 := HLE2.out; push_cast; omega, hL20, hL21, HB3.out⟩, by simp [intOf] <;> omega⟩
      · have hkl : k = l.length := by omega
        have HKL := Lib.hid hkl
        clear hkl
        go_wp2_with (at_builtin; fail)
        go_ret
        refine ⟨?_, HBW.out⟩
        have h3 := HLE2.out
        rw [take_all HKL.out] at h3
        have h4 := HKL.out
        have : leftP left (szL l) = L := by unfold leftP; rw [if_neg (by omega)]; omega
        rw [this]; rfl
theorem szS_any (m : Nat) : SzOk m := by
  induction m using Nat.strongRecOn with
  | _ m ih => exact szS_of m ih
set_option maxHeartbeats 400000 in
theorem szProgram_any (vt vb : Value) (ts : List Int) (l : List St) (left : Int) (B : Nat) (w : World) (ht : AnI w B vt ts) (hl : StS w B vb l) (hL : Lens l) (hB : B ≤ w.heap.size) (h0 : 0 ≤ left) (h1 : left ≤ 1048576) :
    Calls Tryz.prog 9 #[.agg #[vt, vb], .int .i64 left] w fun e w' => e = .returned (.int .i64 (leftP left (ts.length + szL l))) ∧ Below w.heap.size w w' := by
  have ht0 := ht
  obtain ⟨A1, c1, rfl, -⟩ := ht0
  obtain ⟨A2, c2, rfl, hc2⟩ := hl.slice
  have HX := Lib.hid (RowB.new w [.slice A1 ts.length c1, .slice A2 l.length c2] 25)
  have HB1 := Lib.hid (bel_a w (.cells #[.slice A1 ts.length c1, .slice A2 l.length c2] 25))
  have HT := Lib.hid (ht.low HB1.out hB)
  have HE := Lib.hid (hl.low HB1.out hB)
  have HLE := Lib.hid hL
  have HA := Lib.hid (leftP_add (left := left) (a := ts.length) (b := szL l))
  clear ht hl hL
  go_enter Tryz.func9, Tryz.ntmps9
  go_upto_region 1 with (at_builtin; fail)
  generalize w.alloc (.cells #[.slice A1 ts.length c1, .slice A2 l.length c2] 25) = W at *
  have u4 : W.cell? ⟨w.heap.size, 0, none⟩ = some (.slice A1 ts.length c1) := HX.out.cell 0
  have u5 : W.cell? ⟨w.heap.size, 1, none⟩ = some (.slice A2 l.length c2) := HX.out.cell 1
  have hsW := HB1.out.size
  go_wp2_with (at_builtin; fail)
  refine (szIntS_any _ ts left B W HT.out h0 h1).mono ?_
  rintro e w1 ⟨rfl, rfl⟩
  by_cases hn : leftP left ts.length < 0
  · obtain ⟨e1, e2⟩ := leftP_neg hn
    have HR : Hid (leftP left (ts.length + szL l) = -1) := Lib.hid (by rw [HA.out, if_pos e2])
    rw [e1] at *
    clear e1 hn
    go_wp2_with (at_builtin; fail)
    go_ret
    exact ⟨by rw [HR.out]; rfl, HB1.out⟩
  · obtain ⟨e2, e1⟩ := leftP_nn (by omega : 0 ≤ leftP left ts.length)
    have HR : Hid (leftP left (ts.length + szL l) = leftP (left - ts.length) (szL l)) := Lib.hid (by rw [HA.out, if_neg (by omega)])
    generalize leftP left ts.length = L1 at *
    have HL1 := Lib.hid e1
    have hl1 : 0 ≤ L1 := by omega
    have hl2 : L1 ≤ 1048576 := by omega
    clear e1 hn e2
    go_wp2_with (at_builtin; fail)
    refine (szS_any _ _ l L1 B W (Nat.le_refl _) HE.out HLE.out (by omega) hl1 hl2).mono ?_
    rintro e w2 ⟨rfl, hb2⟩
    have HB3 := Lib.hid (HB1.out.trans (hb2.mono hsW))
    clear hb2
    rw [HL1.out, ← HR.out]
    by_cases hn : leftP left (ts.length + szL l) < 0
    · have e1 := (leftP_neg hn).1
      rw [e1]
      have HE1 := Lib.hid e1
      clear e1 hn
      go_wp2_with (at_builtin; fail)
      go_ret
      exact ⟨by rw [HE1.out]; rfl, HB3.out⟩
    · obtain ⟨L2, hL2⟩ : ∃ L2, L2 = leftP left (ts.length + szL l) := ⟨_, rfl⟩
      rw [← hL2] at hn ⊢
      have HL2 := Lib.hid hL2
      clear hL2
      go_wp2_with (at_builtin; fail)
      go_ret
      exact ⟨by rw [← HL2.out]; rfl, HB3.out⟩

end Go.Proofs.YtfioaohadanjmaaGreat

/- l1One, l1Some: some statements are drawn. -/
namespace Go.Proofs.YtfioaohadanjmaaGreat
open Go.RowKit

def ss : Nat → Nat
  | 0 => 1
  | d + 1 => 2 * ss d + 3
end Go.Proofs.YtfioaohadanjmaaGreat

/- l1One. -/
namespace Go.Proofs.YtfioaohadanjmaaGreat
open Go.RowKit

end Go.Proofs.YtfioaohadanjmaaGreat

/- l1One with statements inside. -/
namespace Go.Proofs.YtfioaohadanjmaaGreat
open Go.RowKit

end Go.Proofs.YtfioaohadanjmaaGreat

/- Texts: l1At, l1Var, l1Digit. -/
namespace Go.Proofs.YtfioaohadanjmaaGreat
open Go.RowKit

end Go.Proofs.YtfioaohadanjmaaGreat

/- l1Braces, l1ParseList: what they return, and how far they come. -/
namespace Go.Proofs.YtfioaohadanjmaaGreat
open Go.RowKit

theorem StX.alloc {w : World} {P : Nat → Prop} {v : Value} {l : List St} (h : StX w P v l) (o : Obj) : StX (w.alloc o) P v l :=
  h.frame (bel_a w o).size fun b hb hl => ⟨hb, (bel_a w o).block b hl⟩

end Go.Proofs.YtfioaohadanjmaaGreat

/- l1Letter, l17Dec. -/
namespace Go.Proofs.YtfioaohadanjmaaGreat
open Go.RowKit

def StrRet (n : Nat) (w : World) (e : Ending) (w' : World) : Prop := ∃ s : ByteArray, e = .returned (.string s) ∧ s.size ≤ n ∧ Below w.heap.size w w'
end Go.Proofs.YtfioaohadanjmaaGreat

/- l1Text. -/
namespace Go.Proofs.YtfioaohadanjmaaGreat
open Go.RowKit

def Hd2 (W : World) (b1 o1 : Nat) (v1 : Value) (b2 o2 : Nat) (v2 : Value) (w' : World) : Prop := w'.cell? ⟨b1, o1, none⟩ = some v1 ∧ w'.cell? ⟨b2, o2, none⟩ = some v2 ∧ Below W.heap.size W w' ∧ b1 < W.heap.size ∧ b2 < W.heap.size
theorem Hd2.step {W : World} {b1 o1 : Nat} {v1 : Value} {b2 o2 : Nat} {v2 : Value} {w' w'' : World} (h : Hd2 W b1 o1 v1 b2 o2 v2 w') (hb : Below w'.heap.size w' w'') : Hd2 W b1 o1 v1 b2 o2 v2 w'' := by
  obtain ⟨h1, h2, hB, k1, k2⟩ := h
  have hs := hB.size
  exact ⟨(hb.cell (p := ⟨b1, o1, none⟩) (by show b1 < _; omega)).trans h1, (hb.cell (p := ⟨b2, o2, none⟩) (by show b2 < _; omega)).trans h2, hB.trans (hb.mono hs), k1, k2⟩
theorem Hd2.bel {W : World} {b1 o1 : Nat} {v1 : Value} {b2 o2 : Nat} {v2 : Value} {w' : World} (h : Hd2 W b1 o1 v1 b2 o2 v2 w') : Below W.heap.size W w' := h.2.2.1

theorem StrRet.le {n m : Nat} {w : World} {e : Ending} {w' : World} (h : StrRet n w e w') (hnm : n ≤ m) : StrRet m w e w' := by
  obtain ⟨s, h1, h2, h3⟩ := h
  exact ⟨s, h1, by omega, h3⟩
end Go.Proofs.YtfioaohadanjmaaGreat

/- l1Parse. -/
namespace Go.Proofs.YtfioaohadanjmaaGreat
open Go.RowKit

end Go.Proofs.YtfioaohadanjmaaGreat

/- l1ParseList closed; spec.ParseProgram. -/
namespace Go.Proofs.YtfioaohadanjmaaGreat
open Go.RowKit

/-- The slice value v reads as the ints l, in a block of P. -/
def IntX (w : World) (P : Nat → Prop) (v : Value) (l : List Int) : Prop :=
  ∃ A c, v = .slice A l.length c ∧ l.length ≤ c ∧ l.length ≤ 4194304 ∧ (0 < l.length → ∃ b off, A = some ⟨b, off, none⟩ ∧ P b ∧ b < w.heap.size ∧ ∀ j, j < l.length → w.cell? ⟨b, off + j, none⟩ = some (.int .i64 (l.getD j 0)))
theorem IntX.nil (w : World) (P : Nat → Prop) : IntX w P (.slice none 0 0) [] := ⟨none, 0, rfl, Nat.le_refl _, by simp, fun h => absurd h (by simp)⟩
theorem IntX.frame {w w' : World} {P P' : Nat → Prop} {v : Value} {l : List Int} (h : IntX w P v l) (hs : w.heap.size ≤ w'.heap.size) (hk : ∀ b, P b → b < w.heap.size → P' b ∧ w'.heap[b]? = w.heap[b]?) : IntX w' P' v l := by
  obtain ⟨A, c, e, h1, h2, h3⟩ := h
  refine ⟨A, c, e, h1, h2, fun hn => ?_⟩
  obtain ⟨b, off, e, hb, hlt, hc⟩ := h3 hn
  obtain ⟨k1, k2⟩ := hk b hb hlt
  exact ⟨b, off, e, k1, by omega, fun j hj => (World.cell?_of_block (w := w) (a := ⟨b, _, none⟩) k2).trans (hc j hj)⟩
theorem IntX.toS {w : World} {P : Nat → Prop} {v : Value} {l : List Int} (h : IntX w P v l) : IntS w w.heap.size v l := by
  obtain ⟨A, c, e, h1, h2, h3⟩ := h
  refine ⟨A, c, e, h1, h2, by simp, fun hn => ?_⟩
  obtain ⟨b, off, e, hb, hlt, hc⟩ := h3 hn
  refine ⟨b, off, e, hlt, fun j u hu => ?_⟩
  rw [List.getElem?_map] at hu
  rcases Nat.lt_or_ge j l.length with hj | hj
  · rw [List.getElem?_eq_getElem hj] at hu
    simp at hu
    rw [hc j hj, getD_lt hj, hu]
  · rw [List.getElem?_eq_none hj] at hu; cases hu
theorem IntX.slice {w : World} {P : Nat → Prop} {v : Value} {l : List Int} (h : IntX w P v l) : ∃ A c, v = .slice A l.length c ∧ l.length ≤ c := by
  obtain ⟨A, c, e, h1, h2, h3⟩ := h
  exact ⟨A, c, e, h1⟩
theorem OInts.toX {w : World} {base : Nat} {v : Value} {l : List Int} (h : OInts w base v l) (hl : l.length ≤ 4194304) : IntX w (fun b => base ≤ b) v l := by
  have hs := h.toS hl
  rcases h.2 with ⟨rfl, h0⟩ | ⟨g, cap, cur, rfl, hb, hh, hc, _⟩
  · have : l = [] := List.length_eq_zero_iff.1 h0
    subst this
    exact IntX.nil _ _
  · refine ⟨_, _, rfl, hc, hl, fun hn => ⟨g, 0, rfl, hb, ?_, fun j hj => ?_⟩⟩
    · rcases Nat.lt_or_ge g w.heap.size with hlt | hge
      · exact hlt
      · rw [Array.getElem?_eq_none hge] at hh; cases hh
    · obtain ⟨A', c', e', _, _, hr⟩ := hs
      injection e' with e1
      obtain ⟨b, off, e2, _, hcell⟩ := hr.int_at hn
      rw [e2] at e1
      injection e1 with e1
      injection e1 with e1 e3
      subst e1 e3
      exact hcell j hj

theorem OInts.other {w : World} {base g : Nat} {v : Value} {l : List Int} (h : OInts w base v l) (hg : g < base) (i : Nat) (u : Value) : OInts (w.setCell ⟨g, i, none⟩ u) base v l := by
  refine h.kept (grown_set w g i u) ?_
  rcases h.2 with ⟨rfl, _⟩ | ⟨g', cap, cur, rfl, hb, _⟩
  · exact .inl rfl
  · refine .inr ?_
    simp only [Value.ownBlock]
    intro e
    injection e with e
    omega

end Go.Proofs.YtfioaohadanjmaaGreat

/- l1Texts, l1Draw. -/
namespace Go.Proofs.YtfioaohadanjmaaGreat
open Go.RowKit

theorem StX.grown {w w' : World} {g : Nat} {P : Nat → Prop} {v : Value} {l : List St} (h : StX w P v l) (hg : w.grownBy w' (some g)) (hP : ¬ P g) : StX w' P v l :=
  h.frame hg.size fun b hb hl => ⟨hb, hg.block b hl (fun e => by injection e with e; subst e; exact hP hb)⟩
theorem IntX.grown {w w' : World} {g : Nat} {P : Nat → Prop} {v : Value} {l : List Int} (h : IntX w P v l) (hg : w.grownBy w' (some g)) (hP : ¬ P g) : IntX w' P v l :=
  h.frame hg.size fun b hb hl => ⟨hb, hg.block b hl (fun e => by injection e with e; subst e; exact hP hb)⟩
theorem StX.bel {w w' : World} {P : Nat → Prop} {v : Value} {l : List St} (h : StX w P v l) (hb : Below w.heap.size w w') : StX w' P v l :=
  h.frame hb.size fun b hp hl => ⟨hp, hb.block b hl⟩
theorem IntX.bel {w w' : World} {P : Nat → Prop} {v : Value} {l : List Int} (h : IntX w P v l) (hb : Below w.heap.size w w') : IntX w' P v l :=
  h.frame hb.size fun b hp hl => ⟨hp, hb.block b hl⟩
theorem row_lt {w : World} {b : Nat} {o : Obj} (h : w.heap[b]? = some o) : b < w.heap.size := by
  rcases Nat.lt_or_ge b w.heap.size with h' | h'
  · exact h'
  · rw [Array.getElem?_eq_none h'] at h; cases h
theorem row_below {w w' : World} {b : Nat} {o : Obj} (h : w.heap[b]? = some o) (hb : Below w.heap.size w w') : w'.heap[b]? = some o := (hb.block b (row_lt h)).trans h
end Go.Proofs.YtfioaohadanjmaaGreat

/- l1Copy, l1CopyOf. -/
namespace Go.Proofs.YtfioaohadanjmaaGreat
open Go.RowKit

/-- the box of a copied statement -/
def CpB (wr X : World) (op x y n : Int) (tv ev : Value) (th el : List St) : Prop :=
  X.heap[wr.heap.size]? = some (.cells #[.int .i64 op, .int .i64 x, .int .i64 y, .int .i64 n, tv, ev] 100 (0, 0)) ∧ StX X (fun b => wr.heap.size + 1 ≤ b) tv th ∧ StX X (fun b => wr.heap.size + 1 ≤ b) ev el ∧ Below wr.heap.size wr X
theorem CpB.th {wr X w2 : World} {op x y n : Int} {tv ev v' : Value} {th el th' : List St} (h : CpB wr X op x y n tv ev th el) (hb : Below X.heap.size X w2) (hx : OSt w2 X.heap.size v' th') : CpB wr (w2.setCell ⟨wr.heap.size, 4, none⟩ v') op x y n v' ev th' el := by
  obtain ⟨h1, h2, h3, h4⟩ := h
  have hlt := row_lt h1
  have hg := grown_set w2 wr.heap.size 4 v'
  refine ⟨(heap_setCell_same w2 wr.heap.size 4 _ _ v' (row_below h1 hb)).trans (by simp), ?_, ?_, ?_⟩
  · exact (hx.toX.grown hg (by show ¬ (X.heap.size ≤ wr.heap.size); omega)).frame (Nat.le_refl _) fun b hb _ => ⟨by have : X.heap.size ≤ b := hb; show wr.heap.size + 1 ≤ b; omega, rfl⟩
  · exact (h3.bel hb).grown hg (by show ¬ (wr.heap.size + 1 ≤ wr.heap.size); omega)
  · exact (h4.trans (hb.mono h4.size)).setCell (p := ⟨wr.heap.size, 4, none⟩) (Nat.le_refl _) _
theorem CpB.el {wr X w2 : World} {op x y n : Int} {tv ev v' : Value} {th el el' : List St} (h : CpB wr X op x y n tv ev th el) (hb : Below X.heap.size X w2) (hx : OSt w2 X.heap.size v' el') : CpB wr (w2.setCell ⟨wr.heap.size, 5, none⟩ v') op x y n tv v' th el' := by
  obtain ⟨h1, h2, h3, h4⟩ := h
  have hlt := row_lt h1
  have hg := grown_set w2 wr.heap.size 5 v'
  refine ⟨(heap_setCell_same w2 wr.heap.size 5 _ _ v' (row_below h1 hb)).trans (by simp), ?_, ?_, ?_⟩
  · exact (h2.bel hb).grown hg (by show ¬ (wr.heap.size + 1 ≤ wr.heap.size); omega)
  · exact (hx.toX.grown hg (by show ¬ (X.heap.size ≤ wr.heap.size); omega)).frame (Nat.le_refl _) fun b hb _ => ⟨by have : X.heap.size ≤ b := hb; show wr.heap.size + 1 ≤ b; omega, rfl⟩
  · exact (h4.trans (hb.mono h4.size)).setCell (p := ⟨wr.heap.size, 5, none⟩) (Nat.le_refl _) _
theorem StX.up {wr X : World} {v : Value} {l : List St} (h : StX X (fun b => wr.heap.size + 1 ≤ b) v l) : StX X (fun b => wr.heap.size ≤ b) v l :=
  h.frame (Nat.le_refl _) fun b hb _ => ⟨by have : wr.heap.size + 1 ≤ b := hb; show wr.heap.size ≤ b; omega, rfl⟩

end Go.Proofs.YtfioaohadanjmaaGreat

/- append of a whole slice of ints; l1CopyOf. -/
namespace Go.Proofs.YtfioaohadanjmaaGreat
open Go.RowKit

theorem OInts.move {w w' : World} {base base' : Nat} {v : Value} {l : List Int} (h : OInts w base v l) (hb : base' ≤ base) (hk : ∀ b, base ≤ b → b < w.heap.size → w'.heap[b]? = w.heap[b]?) : OInts w' base' v l := by
  refine ⟨h.1, ?_⟩
  rcases h.2 with h' | ⟨g, cap, cur, rfl, hbg, hh, rest⟩
  · exact .inl h'
  · exact .inr ⟨g, cap, cur, rfl, by omega, (hk g hbg (row_lt hh)).trans hh, rest⟩
theorem OInts.own_lt {w : World} {base : Nat} {v : Value} {l : List Int} (h : OInts w base v l) {g : Nat} (e : v.ownBlock = some g) : base ≤ g ∧ g < w.heap.size := World.ownsRow.lt h g e
theorem OSt.own_lt {w : World} {base : Nat} {v : Value} {l : List St} (h : OSt w base v l) {g : Nat} (e : v.ownBlock = some g) : base ≤ g ∧ g < w.heap.size := by
  obtain ⟨es, rfl, h2, _⟩ := h
  exact h2.lt g e
theorem OSt.move {w w' : World} {base base' : Nat} {v : Value} {l : List St} (h : OSt w base v l) (hs : w.heap.size ≤ w'.heap.size) (hb : base' ≤ base) (hk : ∀ b, base ≤ b → b < w.heap.size → w'.heap[b]? = w.heap[b]?) : OSt w' base' v l := by
  obtain ⟨es, rfl, h2, h3⟩ := h
  refine ⟨es, rfl, ⟨h2.1, ?_⟩, fun e he => ?_⟩
  · rcases h2.2 with h' | ⟨g, cap, cur, rfl, hbg, hh, rest⟩
    · exact .inl h'
    · exact .inr ⟨g, cap, cur, rfl, by omega, (hk g hbg (row_lt hh)).trans hh, rest⟩
  · obtain ⟨k1, k2⟩ := h3 e he
    have hk' : ∀ b, (base ≤ b ∧ v.ownBlock ≠ some b) → b < w.heap.size → (base' ≤ b ∧ v.ownBlock ≠ some b) ∧ w'.heap[b]? = w.heap[b]? := fun b hb' hl => ⟨⟨by omega, hb'.2⟩, hk b hb'.1 hl⟩
    exact ⟨k1.frame hs hk', k2.frame hs hk'⟩

end Go.Proofs.YtfioaohadanjmaaGreat

/- Plain: rows of bools that say what is live. No program in sight. -/
namespace Go.Proofs.YtfioaohadanjmaaGreat

def rget (rows : List (List Bool)) (i v : Nat) : Bool := (rows.getD i []).getD v false
/-- what is used at a point, or is live behind it and not set at it -/
def needB (ts : List Int) (q : Pt) (b : Bool) (v : Nat) : Bool := (useP ts q.op q.x q.y (v : Nat) != 0) || (b && decide (setsP q.op q.x ≠ (v : Nat)))
structure LvI (ts : List Int) (pts : List Pt) (rows : List (List Bool)) : Prop where
  len : rows.length = pts.length
  row : ∀ i, i < rows.length → (rows.getD i []).length = ts.length
  sound : ∀ i v, rget rows i v = true → ∃ p, pts[i]? = some p ∧ ∃ k ∈ p.next, Nd ts pts k v
theorem LvI.init (ts : List Int) (pts : List Pt) : LvI ts pts (List.replicate pts.length (List.replicate ts.length false)) := by
  have hr : ∀ i, i < pts.length → (List.replicate pts.length (List.replicate ts.length false)).getD i [] = List.replicate ts.length false := fun i hi => by
    rw [getD_lt (by simpa using hi)]; simp
  refine ⟨by simp, fun i hi => ?_, fun i v h => ?_⟩
  · rw [hr i (by simpa using hi)]; simp
  · exfalso
    unfold rget at h
    by_cases hi : i < pts.length
    · rw [hr i hi] at h
      by_cases hv : v < ts.length
      · rw [getD_lt (by simpa using hv)] at h; simp at h
      · rw [getD_ge (by simpa using hv)] at h; cases h
    · rw [getD_ge (l := List.replicate pts.length (List.replicate ts.length false)) (by simpa using hi)] at h; simp at h
theorem LvI.need {ts : List Int} {pts : List Pt} {rows : List (List Bool)} (h : LvI ts pts rows) {n v : Nat} {q : Pt} (hq : pts[n]? = some q) (hv : v < ts.length) (hn : needB ts q (rget rows n v) v = true) : Nd ts pts n v := by
  unfold needB at hn
  rw [Bool.or_eq_true, Bool.and_eq_true] at hn
  rcases hn with hn | ⟨hn, hs⟩
  · exact .use hq hv (by simpa using hn)
  · obtain ⟨p, hp, k, hk, hd⟩ := h.sound n v hn
    rw [hq] at hp; injection hp with hp; subst hp
    exact .flow hq hk hd (by simpa using hs)
theorem LvI.done {ts : List Int} {pts : List Pt} {rows : List (List Bool)} (h : LvI ts pts rows) (hnx : ∀ p ∈ pts, ∀ k ∈ p.next, k < pts.length)
    (hc : ∀ i p, pts[i]? = some p → ∀ n ∈ p.next, ∀ q, pts[n]? = some q → ∀ v, v < ts.length → needB ts q (rget rows n v) v = true → rget rows i v = true) (i v : Nat) :
    rget rows i v = true ↔ ∃ p, pts[i]? = some p ∧ ∃ k ∈ p.next, Nd ts pts k v := by
  refine ⟨h.sound i v, ?_⟩
  have hall : ∀ k v, Nd ts pts k v → ∀ i p, pts[i]? = some p → k ∈ p.next → rget rows i v = true := by
    intro k v hd
    induction hd with
    | @use k v q hq hv hu =>
      intro i p hp hk
      exact hc i p hp k hk q hq v hv (by unfold needB; rw [Bool.or_eq_true]; left; simpa using hu)
    | @flow k j v q hq hj hd hs ih =>
      intro i p hp hk
      have hr := ih k q hq hj
      exact hc i p hp k hk q hq v hd.lt (by unfold needB; rw [hr]; simp [hs])
  rintro ⟨p, hp, k, hk, hd⟩
  exact hall k v hd i p hp hk
end Go.Proofs.YtfioaohadanjmaaGreat

/- Words for rows of bools that a call makes. -/
namespace Go.Proofs.YtfioaohadanjmaaGreat
open Go.RowKit

end Go.Proofs.YtfioaohadanjmaaGreat

/- A region that draws its order, each of whose operations has a known value in every world that meets a condition S and keeps S: it may be walked in the order of the text. No program in sight. -/
namespace Go.Proofs.YtfioaohadanjmaaGreat
open Go Go.RowKit

section
variable {P : Program} {ops : Array Oper} {Q : Exit → Act → World → Prop} {md : Region.Mode} {S : World → Prop}

/-- what an operation does when it is carried out: it yields v and keeps S -/
def DoesS (P : Program) (S : World → Prop) (o : Oper) (v : Value) (a : Act) : Prop :=
  (∀ w, S w → ∃ w', (execOp a.eval o).run P w = .ok (.value v) w' ∧ S w') ∨
  (v = undef ∧ ∀ w, S w → ∃ w', (execOp a.eval o).run P w = .ok .skip w' ∧ S w') ∨
  (∃ f args, ∀ w, S w → (execOp a.eval o).run P w = .ok (.enter f args) w ∧ Calls P f args w fun e w' => e = .returned v ∧ S w')
def StepS (P : Program) (ops : Array Oper) (S : World → Prop) (o : Oper) (v : Value) (a : Act) : Prop :=
  (Region.wanted o (yielded ops a.tmps) = true ∧ DoesS P S o v a) ∨ (Region.wanted o (yielded ops a.tmps) = false ∧ v = undef)

theorem StepS.of_same {o : Oper} {v : Value} {a a' : Act} (hy : StepS P ops S o v a) (he : execOp a'.eval o = execOp a.eval o)
    (hw : Region.wanted o (yielded ops a'.tmps) = Region.wanted o (yielded ops a.tmps)) : StepS P ops S o v a' := by
  unfold StepS DoesS at *
  rw [he, hw]
  exact hy

/-- in whatever order -/
def Det (P : Program) (md : Region.Mode) (ops : Array Oper) (Q : Exit → Act → World → Prop) (S : World → Prop) : Nat → Array Bool → Act → Prop
  | 0, listed, a => Region.ready md ops listed = [] ∧ ∀ w, S w → Q .normal a w
  | fuel + 1, listed, a => (Region.ready md ops listed = [] → ∀ w, S w → Q .normal a w) ∧
    ∀ i ∈ Region.ready md ops listed, ∃ o v, ops[i]? = some o ∧ StepS P ops S o v a ∧ Det P md ops Q S fuel (listed.setIfInBounds i true) (a.put o.dst v)

theorem Det.first {i : Nat} {oi : Oper} {v : Value} (hi : ops[i]? = some oi) (hsel : ∀ (j : Nat) (o : Oper) cs b, ops[j]? = some o → o.op ≠ .select cs b) :
    ∀ (fuel : Nat) (listed : Array Bool) (a : Act),
      (∀ j oj, ops[j]? = some oj → j ≠ i → listed.getD j true = false → (∀ e ∈ oj.after, Region.binds md e = true → e.on ≠ i) → oi.apart ops oj = true) →
      i ∈ Region.ready md ops listed → StepS P ops S oi v a →
      Det P md ops Q S fuel (listed.setIfInBounds i true) (a.put oi.dst v) → Det P md ops Q S (fuel + 1) listed a := by
  intro fuel
  induction fuel with
  | zero =>
    intro listed a _ hr hy H
    refine ⟨fun h => (by rw [h] at hr; cases hr), fun j hj => ?_⟩
    by_cases hji : j = i
    · subst hji; exact ⟨oi, v, hi, hy, H⟩
    · have := ready_mono hj hji
      rw [H.1] at this
      cases this
  | succ fuel ih =>
    intro listed a hfree hr hy H
    refine ⟨fun h => (by rw [h] at hr; cases hr), fun j hj => ?_⟩
    by_cases hji : j = i
    · subst hji; exact ⟨oi, v, hi, hy, H⟩
    · obtain ⟨oj', u, hoj', hst, hd⟩ := H.2 j (ready_mono hj hji)
      obtain ⟨hjun, oj, hoj, hall⟩ := mem_ready.1 hj
      rw [hoj] at hoj'
      injection hoj' with e
      subst e
      have hnot : ∀ e ∈ oj.after, Region.binds md e = true → e.on ≠ i := fun e he hb heq => by
        have h1 := hall e he hb
        have h0 := (mem_ready.1 hr).1
        rw [heq] at h1
        rcases Nat.lt_or_ge i listed.size with h' | h'
        · simp [h'] at h0 h1; rw [h0] at h1; cases h1
        · simp [Array.getElem?_eq_none h'] at h1
      obtain ⟨h1, h2, h3⟩ := Oper.apart_spec (hfree j oj hoj hji hjun hnot)
      have hstj : StepS P ops S oj u a := hst.of_same (execOp_put oj (fun cs b => hsel j oj cs b hoj) a oi.dst v h1).symm (wanted_put oj a oi.dst v h1).symm
      have hsti : StepS P ops S oi v (a.put oj.dst u) := hy.of_same (execOp_put oi (fun cs b => hsel i oi cs b hi) a oj.dst u h3) (wanted_put oi a oj.dst u h3)
      have hfree' : ∀ k ok, ops[k]? = some ok → k ≠ i → (listed.setIfInBounds j true).getD k true = false →
          (∀ e ∈ ok.after, Region.binds md e = true → e.on ≠ i) → oi.apart ops ok = true := fun k ok hk hki hun hno => by
        refine hfree k ok hk hki ?_ hno
        by_cases hjk : j = k
        · subst hjk; exact hjun
        · rw [getD_set_ne true hjk] at hun; exact hun
      refine ⟨oj, u, hoj, hstj, ih (listed.setIfInBounds j true) (a.put oj.dst u) hfree' (ready_mono hr (Ne.symm hji)) hsti ?_⟩
      rw [Array.setIfInBounds_comm _ _ hji, ← Act.put_comm a v u h2]
      exact hd

/-- in the order of the text, from operation i on -/
def SeqS (P : Program) (ops : Array Oper) (Q : Exit → Act → World → Prop) (S : World → Prop) : List Oper → Act → Prop
  | [], a => ∀ w, S w → Q .normal a w
  | o :: rest, a => ∃ v, StepS P ops S o v a ∧ SeqS P ops Q S rest (a.put o.dst v)

theorem SeqS.skip {o : Oper} {rest : List Oper} {a : Act} (hw : Region.wanted o (yielded ops a.tmps) = false) (h : SeqS P ops Q S rest (a.put o.dst undef)) : SeqS P ops Q S (o :: rest) a :=
  ⟨undef, .inr ⟨hw, rfl⟩, h⟩
theorem SeqS.call {o : Oper} {rest : List Oper} {a : Act} {v : Value} {f : FuncId} {args : Array Value} (hw : Region.wanted o (yielded ops a.tmps) = true) (he : ∀ w, (execOp a.eval o).run P w = .ok (.enter f args) w) (hc : ∀ w, S w → Calls P f args w fun e w' => e = .returned v ∧ S w') (h : SeqS P ops Q S rest (a.put o.dst v)) : SeqS P ops Q S (o :: rest) a :=
  ⟨v, .inl ⟨hw, .inr (.inr ⟨f, args, fun w hS => ⟨he w, hc w hS⟩⟩)⟩, h⟩

end
end Go.Proofs.YtfioaohadanjmaaGreat

/- spec.l3Live. -/
namespace Go.Proofs.YtfioaohadanjmaaGreat
open Go.RowKit

set_option maxHeartbeats 8000000
set_option maxRecDepth 100000
end Go.Proofs.YtfioaohadanjmaaGreat

/- A slice that a call builds by append, beginning empty, while other memory that was there keeps its cells. -/
namespace Go.Proofs.YtfioaohadanjmaaGreat
open Go.RowKit

/-- every cell of w0 reads in w as it did -/
def Kp (w0 w : World) : Prop := (∀ b o x, w0.cell? ⟨b, o, none⟩ = some x → w.cell? ⟨b, o, none⟩ = some x) ∧ w0.heap.size ≤ w.heap.size
theorem Kp.refl (w : World) : Kp w w := ⟨fun _ _ _ h => h, Nat.le_refl _⟩
theorem Kp.trans {a b c : World} (h : Kp a b) (k : Kp b c) : Kp a c := ⟨fun x o u hu => k.1 x o u (h.1 x o u hu), Nat.le_trans h.2 k.2⟩
theorem cell_lt {w : World} {b o : Nat} {x : Value} (h : w.cell? ⟨b, o, none⟩ = some x) : b < w.heap.size := World.block_lt_of_cell? w ⟨b, o, none⟩ h
theorem Kp.of_bel {w w' : World} (h : Below w.heap.size w w') : Kp w w' := ⟨fun b o x hx => (h.cell (p := ⟨b, o, none⟩) (cell_lt hx)).trans hx, h.size⟩
theorem Rd.imp {w w' : World} {B size n : Nat} {A : Option Addr} {xs : List Value} (h : Rd w B size A n xs) (hk : Kp w w') : Rd w' B size A n xs :=
  ⟨h.1, fun hn => by
    obtain ⟨b, off, e, hb, hc⟩ := h.2 hn
    exact ⟨b, off, e, hb, fun j u hu => hk.1 _ _ _ (hc j u hu)⟩⟩
theorem IntS.imp {w w' : World} {B : Nat} {v : Value} {l : List Int} (h : IntS w B v l) (hk : Kp w w') : IntS w' B v l := by
  obtain ⟨A, c, e, h1, h2, h3⟩ := h
  exact ⟨A, c, e, h1, h2, h3.imp hk⟩
theorem BoolS.imp {w w' : World} {B : Nat} {v : Value} {l : List Bool} (h : BoolS w B v l) (hk : Kp w w') : BoolS w' B v l := by
  obtain ⟨A, c, e, h1, h2, h3⟩ := h
  exact ⟨A, c, e, h1, h2, h3.imp hk⟩
theorem StS.imp {w w' : World} {B : Nat} {v : Value} {l : List St} (h : StS w B v l) (hk : Kp w w') : StS w' B v l := by
  induction h with
  | mk A c l tv ev hc hr ht he iht ihe =>
    refine .mk A c l tv ev hc (fun hn => ?_) iht ihe
    obtain ⟨b, off, e, hb, hcell⟩ := hr hn
    refine ⟨b, off, e, hb, fun i hi => ?_⟩
    obtain ⟨h0, h1, h2, h3, h4, h5⟩ := hcell i hi
    exact ⟨hk.1 _ _ _ h0, hk.1 _ _ _ h1, hk.1 _ _ _ h2, hk.1 _ _ _ h3, hk.1 _ _ _ h4, hk.1 _ _ _ h5⟩

/-- v is a slice of elements of type e (size cells each) that the call owns; what was in w0 keeps its cells -/
structure Out (w0 w : World) (base : Nat) (e : TypeId) (size : Nat) (v : Value) (n : Nat) (xs : List Value) : Prop where
  own : w.ownsRow base e size v n xs
  kp : Kp w0 w
  bel : Below base w0 w
  hb : base ≤ w0.heap.size
  blk : ∀ g, v.ownBlock = some g → ∀ o, w0.cell? ⟨g, o, none⟩ = none
theorem Out.lenc {w0 w : World} {base : Nat} {e : TypeId} {size : Nat} {v : Value} {n : Nat} {xs : List Value} (h : Out w0 w base e size v n xs) : ∃ A c, v = .slice A n c ∧ n ≤ c := by
  rcases h.own.2 with ⟨rfl, h0⟩ | ⟨g, cap, cur, rfl, _, _, hc, _⟩
  · have := h.own.1
    rcases Nat.eq_zero_or_pos n with hn | hn
    · subst hn; exact ⟨none, 0, rfl, Nat.le_refl _⟩
    · have := h0; first | (subst this; exact ⟨none, 0, rfl, Nat.le_refl _⟩) | omega
  · exact ⟨_, cap, rfl, hc⟩
theorem Out.start {w0 : World} {base : Nat} {e : TypeId} {size : Nat} {A : Option Addr} (h : w0.ownsRow base e size (.slice A 0 0) 0 []) (hb : base ≤ w0.heap.size) : Out w0 w0 base e size (.slice A 0 0) 0 [] := by
  refine ⟨h, Kp.refl _, Below.refl _ _, hb, fun g hg o => ?_⟩
  rcases h.2 with ⟨e1, h0⟩ | ⟨g', cap, cur, e1, _, hh, _, _, hc, _⟩
  · injection e1 with e1; subst e1; simp [Value.ownBlock] at hg
  · injection e1 with e1 e2 e3
    subst e1 e3
    injection hg with hg
    have hg' : g' = g := hg
    subst hg'
    rw [cell_of_row _ _ _ _ _ _ hh]
    rw [Nat.zero_mul] at hc
    exact Array.getElem?_eq_none (by omega)
theorem Out.belc {w0 w w' : World} {base : Nat} {e : TypeId} {size : Nat} {v : Value} {n : Nat} {xs : List Value} (h : Out w0 w base e size v n xs) (hb : Below w.heap.size w w') : Out w0 w' base e size v n xs :=
  ⟨h.own.kept (grown_bel hb (Nat.le_refl _) none) (by cases v.ownBlock <;> simp), h.kp.trans (Kp.of_bel hb), h.bel.trans (hb.mono (Nat.le_trans h.hb h.kp.2)), h.hb, h.blk⟩
theorem Out.le {w0 w : World} {base : Nat} {e : TypeId} {size : Nat} {v : Value} {n : Nat} {xs : List Value} (h : Out w0 w base e size v n xs) : base ≤ w.heap.size := Nat.le_trans h.hb h.kp.2
theorem big_le {n bytes : Nat} (hn : n ≤ 100000) (hby : bytes ≤ 1000) : (n + 1) * bytes ≤ 140737488355328 := by
  have h := Nat.mul_le_mul (show n + 1 ≤ 100001 by omega) hby
  generalize (n + 1) * bytes = x at *
  omega
/-- append(out, x) -/
theorem wpList_push_out {ops : Array Oper} {rest : List Oper} {o : Oper} {a : Act} {Q : Exit → Act → World → Prop} {w0 w : World} {base : Nat} {t e : TypeId} {size bytes : Nat} {z vo : Value} {n : Nat} {xs : List Value} (hgd : o.guard = none) (s x : Operand)
    (ho : o.op = .call { callee := .builtin .append, args := #[s, x], argTypes := #[t, t] })
    (hu : Tryz.prog.underlying t = some (.slice e)) (hi : (Tryz.prog.info? e).map (fun i => (i.zero, i.size, i.bytes)) = some (some z, size, bytes)) (hzs : z.cells.size = size) (hsz : 0 < size) (hby : bytes ≤ 1000)
    (hP : Out w0 w base e size vo n xs) (hn : n ≤ 100000) (news : List Value) (hnl : news.length = size) (h1 : ∀ u ∈ news, u.oneCell' = true)
    (hs : a.eval s = vo) (hx : a.eval x = .slice (some ⟨w.heap.size, 0, none⟩) 1 1)
    (h : ∀ v' w', Out w0 w' base e size v' (n + 1) (xs ++ news) → wpList Tryz.prog ops Q rest (a.put o.dst v') w') :
    wpList Tryz.prog ops Q (o :: rest) a (w.alloc (.cells news.toArray e)) := by
  obtain ⟨i0, hi0, hz0, hz1, hz2⟩ := info_parts hi
  have hA := hP.belc (bel_a w (.cells news.toArray e))
  have hr := heap_alloc_new w (.cells news.toArray e)
  have hle := hP.le
  have hsW : (w.alloc (.cells news.toArray e)).heap.size = w.heap.size + 1 := by simp
  generalize w.alloc (.cells news.toArray e) = W at *
  have hbb : (n + 1) * bytes ≤ 140737488355328 := big_le hn hby
  refine wpList_append_own_at _ hgd s x t ho base e i0 z size bytes hu hi0 hz0 hz1 hz2 hzs hsz vo n xs hs hA.own ⟨w.heap.size, 0, none⟩ 1 1 news hx (by rw [hnl, Nat.one_mul]) ?_ h1 (by simp only [maxLen]; omega) hbb (by omega) ?_
  · intro j u hu
    have : W.cell? ⟨w.heap.size, j, none⟩ = some u := by
      rw [cell_of_row _ _ _ _ _ _ hr]
      simpa using hu
    by_cases hj : j = 0
    · subst hj; simpa [Addr.add] using this
    · simpa [Addr.add, hj] using this
  · intro v' w' k1 k2 k3 k4
    refine h v' w' ⟨k1, ⟨fun b o x hx => ?_, Nat.le_trans hA.kp.2 k2.size⟩, ?_, hP.hb, fun g hg o => ?_⟩
    · have hx' := hA.kp.1 b o x hx
      refine (World.cell?_of_block (a := ⟨b, o, none⟩) (k2.block b (cell_lt hx') fun e => ?_)).trans hx'
      rw [hP.blk b e.symm o] at hx
      cases hx
    · refine hA.bel.trans ⟨k2.os, k2.tape, k2.output, k2.size, fun k hk => k2.block k (by omega) fun e => ?_⟩
      have := (hA.own.lt k e.symm).1
      omega
    · rcases k4 with k4 | k4
      · exact hP.blk g (by rw [← k4]; exact hg) o
      · have hg' : W.heap.size = g := Option.some.inj (k4.symm.trans hg)
        rcases e : w0.cell? ⟨g, o, none⟩ with _ | x
        · rfl
        · have := cell_lt e; have := hA.kp.2; omega
/-- ints -/
def OutI (w0 w : World) (base : Nat) (v : Value) (l : List Int) : Prop := Out w0 w base 3 1 v l.length (l.map (.int .i64))
theorem OutI.toS {w0 w : World} {base : Nat} {v : Value} {l : List Int} (h : OutI w0 w base v l) (hl : l.length ≤ 4194304) : IntS w w.heap.size v l := OInts.toS (base := base) h.own hl
theorem OutI.start {w0 : World} {base : Nat} {A : Option Addr} (h : OInts w0 base (.slice A 0 0) []) (hb : base ≤ w0.heap.size) : OutI w0 w0 base (.slice A 0 0) [] := Out.start h hb
theorem wpList_push_outI {ops : Array Oper} {rest : List Oper} {o : Oper} {a : Act} {Q : Exit → Act → World → Prop} {w0 w : World} {base : Nat} {vo : Value} {l : List Int} (hgd : o.guard = none) (s x : Operand)
    (ho : o.op = .call { callee := .builtin .append, args := #[s, x], argTypes := #[22, 22] })
    (hP : OutI w0 w base vo l) (hn : l.length ≤ 100000) (n : Int) (hs : a.eval s = vo) (hx : a.eval x = .slice (some ⟨w.heap.size, 0, none⟩) 1 1)
    (h : ∀ v' w', OutI w0 w' base v' (l ++ [n]) → wpList Tryz.prog ops Q rest (a.put o.dst v') w') :
    wpList Tryz.prog ops Q (o :: rest) a (w.alloc (.cells #[.int .i64 n] 3)) :=
  wpList_push_out hgd s x ho Tryz.underlying22 Tryz.infoInt rfl (by omega) (by omega) hP hn [.int .i64 n] rfl (by simp [Value.oneCell']) hs hx fun v' w' h' => h v' w' (by
    unfold OutI
    rw [List.length_append, List.map_append]
    exact h')

end Go.Proofs.YtfioaohadanjmaaGreat

/- spec.LiveAfter, spec.NeedsOf. -/
namespace Go.Proofs.YtfioaohadanjmaaGreat
open Go.RowKit

/-- the box of a program's two slices, in a world behind it -/
structure Boxed (w W : World) (B : Nat) (vt vb : Value) (ts : List Int) (l : List St) : Prop where
  bel : Below w.heap.size w W
  lt : w.heap.size < W.heap.size
  c0 : W.cell? ⟨w.heap.size, 0, none⟩ = some vt
  c1 : W.cell? ⟨w.heap.size, 1, none⟩ = some vb
  ht : IntS W B vt ts
  hl : StS W B vb l
theorem Boxed.new {w : World} {B : Nat} {vt vb : Value} {ts : List Int} {l : List St} (ht : IntS w B vt ts) (hl : StS w B vb l) (hB : B ≤ w.heap.size) (t : TypeId) : Boxed w (w.alloc (.cells #[vt, vb] t)) B vt vb ts l := by
  have hb := bel_a w (.cells #[vt, vb] t)
  have hr := heap_alloc_new w (.cells #[vt, vb] t)
  exact ⟨hb, by simp, (cell_of_row _ _ _ _ _ _ hr).trans rfl, (cell_of_row _ _ _ _ _ _ hr).trans rfl, ht.low hb hB, hl.low hb hB⟩
theorem Boxed.bels {w W W' : World} {B : Nat} {vt vb : Value} {ts : List Int} {l : List St} (h : Boxed w W B vt vb ts l) (hb : Below W.heap.size W W') (hB : B ≤ w.heap.size) : Boxed w W' B vt vb ts l :=
  have hlt := h.lt
  ⟨h.bel.trans (hb.mono h.bel.size), Nat.lt_of_lt_of_le h.lt hb.size, (hb.cell (p := ⟨w.heap.size, 0, none⟩) h.lt).trans h.c0, (hb.cell (p := ⟨w.heap.size, 1, none⟩) h.lt).trans h.c1, h.ht.low hb (by omega), h.hl.low hb (by omega)⟩
theorem OInts.bel {w w' : World} {base : Nat} {v : Value} {l : List Int} (h : OInts w base v l) (hb : Below w.heap.size w w') : OInts w' base v l := h.move (Nat.le_refl _) fun b _ hl => hb.block b hl

set_option maxHeartbeats 4000000

set_option maxRecDepth 100000

end Go.Proofs.YtfioaohadanjmaaGreat
