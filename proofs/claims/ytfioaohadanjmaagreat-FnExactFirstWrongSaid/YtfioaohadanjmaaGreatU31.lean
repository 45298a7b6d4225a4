import Derived.Test.YtfioaohadanjmaaGreatU11
import Derived.Test.YtfioaohadanjmaaGreatU12
import Derived.Test.YtfioaohadanjmaaGreatU22
import Derived.Test.YtfioaohadanjmaaGreatU13
import Derived.Test.YtfioaohadanjmaaGreatU30
import Derived.Test.YtfioaohadanjmaaGreatU29
set_option linter.unusedVariables false

/- eqPointer, eqSlot, eqSlotS, markSlotS, heldSlotS. -/
namespace Go.Proofs.YtfioaohadanjmaaGreat
open Go.RowKit Go.Lib

theorem ne_false_z (z : Int) : (z != z) = false := by simp
theorem ne_false_b (z : Bool) : (z != z) = false := by cases z <;> rfl
/-- marks: four for each slot -/
def markSl (k : Int) : Sl := ⟨k % 3 == 0, k + 1, (k + 1 + 1).toNat, (k + 1 + 1 + 1).toNat⟩
def uptoSl (k : Int) (n : Nat) : List Sl := (List.range n).map fun i => markSl (k + 4 * (i : Nat))
theorem uptoSl_len (k : Int) (n : Nat) : (uptoSl k n).length = n := by simp [uptoSl]
theorem uptoSl_succ (k : Int) (n : Nat) : uptoSl k (n + 1) = uptoSl k n ++ [markSl (k + 4 * (n : Nat))] := by simp [uptoSl, List.range_succ]
theorem uptoSl_get {k : Int} {n j : Nat} (h : j < n) : (uptoSl k n)[j]'(by rw [uptoSl_len]; exact h) = markSl (k + 4 * (j : Nat)) := by simp [uptoSl]
theorem uptoSl_set {k : Int} {l : List Sl} {j : Nat} (h : j < l.length) : (uptoSl k j ++ l.drop j).set j (markSl (k + 4 * (j : Nat))) = uptoSl k (j + 1) ++ l.drop (j + 1) := by
  rw [List.drop_eq_getElem_cons h, List.set_append_right _ _ (by rw [uptoSl_len]; exact Nat.le_refl _), uptoSl_len, Nat.sub_self, List.set_cons_zero, uptoSl_succ, List.append_assoc]
  rfl
/-- an owned row in another world -/
theorem own_move {w w' : World} {base base' : Nat} {e : TypeId} {size : Nat} {v : Value} {n : Nat} {xs : List Value} (h : w.ownsRow base e size v n xs) (hb : base' ≤ base) (hk : ∀ b, base ≤ b → b < w.heap.size → w'.heap[b]? = w.heap[b]?) : w'.ownsRow base' e size v n xs := by
  refine ⟨h.1, ?_⟩
  rcases h.2 with h' | ⟨g, cap, cur, rfl, hbg, hh, rest⟩
  · exact .inl h'
  · exact .inr ⟨g, cap, cur, rfl, by omega, (hk g hbg (row_lt hh)).trans hh, rest⟩
theorem OSl.move {w w' : World} {base base' : Nat} {v : Value} {l : List Sl} (h : OSl w base v l) (hb : base' ≤ base) (hk : ∀ b, base ≤ b → b < w.heap.size → w'.heap[b]? = w.heap[b]?) : OSl w' base' v l := own_move h hb hk
theorem OSl.ownMk {w w' : World} {base lo : Nat} {v : Value} {l : List Sl} (h : OSl w base v l) (hm : Mk (fun b => v.ownBlock = some b) w w') (hlo : lo ≤ base) : Below lo w w' :=
  hm.bel fun b e => Nat.le_trans hlo (World.ownsRow.lt h b e).1
theorem OSl.rowB {w : World} {base g n c : Nat} {l : List Sl} (h : OSl w base (.slice (some ⟨g, 0, none⟩) n c) l) : ∃ cs : List Value, RowB w g 79 cs := by
  obtain ⟨cur, hcur⟩ := own_heap h (b := g) rfl
  exact ⟨cur.toList, by simpa [RowB] using hcur⟩
set_option maxHeartbeats 2000000 in
set_option maxRecDepth 100000 in
theorem eqPointer_any (a b : Int) (w : World) : Calls Tryz.prog 74 #[.agg #[.int .i64 a, .int .i64 b], .agg #[.int .i64 a, .int .i64 b]] w (TruRet w) := by
  have HB := Lib.hid ((bel_a w (.cells #[.int .i64 a, .int .i64 b] 77)).alloc (by simp) (.cells #[.int .i64 a, .int .i64 b] 77))
  have h1 := ne_false_z a
  have h2 := ne_false_z b
  go_enter Tryz.func74, Tryz.ntmps74
  go_wp2_with (at_builtin; fail)
  go_ret
  exact ⟨rfl, HB.out⟩
set_option maxHeartbeats 2000000 in
set_option maxRecDepth 100000 in
theorem eqSlot_any (x : Bool) (n a b : Int) (w : World) : Calls Tryz.prog 49 #[.agg #[.bool x, .int .i64 n, .int .i64 a, .int .i64 b], .agg #[.bool x, .int .i64 n, .int .i64 a, .int .i64 b]] w (TruRet w) := by
  have HB := Lib.hid ((bel_a w (.cells #[.bool x, .int .i64 n, .int .i64 a, .int .i64 b] 79)).alloc (by simp) (.cells #[.bool x, .int .i64 n, .int .i64 a, .int .i64 b] 79))
  have h1 := ne_false_b x
  have h2 := ne_false_z n
  go_enter Tryz.func49, Tryz.ntmps49
  go_wp2_with (at_builtin; fail)
  refine (eqPointer_any a b _).mono ?_
  rintro e w1 ⟨rfl, hb1⟩
  have HB1 := Lib.hid (HB.out.trans (hb1.mono HB.out.size))
  clear hb1
  go_wp2_with (at_builtin; fail)
  go_ret
  exact ⟨rfl, HB1.out⟩
set_option maxHeartbeats 2000000 in
set_option maxRecDepth 100000 in
theorem eqSlotS_any (va vb : Value) (l : List Sl) (Ba Bb : Nat) (w : World) (h1 : SlS w Ba va l) (h2 : SlS w Bb vb l) (hBa : Ba ≤ w.heap.size) (hBb : Bb ≤ w.heap.size) :
    Calls Tryz.prog 25 #[va, vb] w (TruRet w) := by
  have H1 := Lib.hid h1
  have H2 := Lib.hid h2
  obtain ⟨A1, c1, rfl, hc1⟩ := h1.slice
  obtain ⟨A2, c2, rfl, hc2⟩ := h2.slice
  have hln : l.length ≤ 100000 := by
    obtain ⟨_, _, _, _, h, _⟩ := h1
    exact h
  have hle : ((l.length : Int) != (l.length : Int)) = false := by simp
  clear h1 h2
  go_enter Tryz.func25, Tryz.ntmps25
  go_wp2_with (at_builtin; fail)
  clear hle
  go_loopw [5] (fun i wr => ∃ k : Nat, k ≤ l.length ∧ i = .int .i64 k ∧ Below w.heap.size w wr) (fun i _ => l.length - (intOf i).toNat)
  case atStart => exact ⟨0, Nat.zero_le _, rfl, Below.refl _ _⟩
  case round =>
    obtain ⟨k, hk, rfl, hbw⟩ := hrel
    have HBW := Lib.hid hbw
    have hsw := hbw.size
    clear hbw
    by_cases hlt : k < l.length
    · obtain ⟨b1, o1, rfl, hb1, p0, p1, p2, p3⟩ := (H1.out.low HBW.out hBa).get hlt
      obtain ⟨b2, o2, rfl, hb2, q0, q1, q2, q3⟩ := (H2.out.low HBW.out hBb).get hlt
      generalize l[k]'hlt = s at *
      have HC := Lib.hid (fun (wz : World) => eqSlot_any s.set s.num (s.pc : Nat) (s.pt : Nat) wz)
      go_wp2_with (at_builtin; fail)
      go_region_law (first
        | (go_simp; go_at_call 49; refine (HC.out _).mono ?_; rintro e w3 ⟨rfl, hb3⟩; (have HB3 := Lib.hid (HBW.out.trans ((show Below wr.heap.size wr w3 from (Below.refl wr.heap.size wr).drew.trans hb3).mono hsw))); clear hb3)
        | fail)
      all_goals
        go_wp2_with (at_builtin; fail)
        exact ⟨⟨k + 1, by omega, by go_num, HB3.out⟩, by simp [intOf] <;> omega⟩
    · go_wp2_with (at_builtin; fail)
      go_ret
      exact ⟨rfl, HBW.out⟩
set_option maxHeartbeats 4000000 in
set_option maxRecDepth 100000 in
theorem markSlotS_any (v : Value) (l : List Sl) (k : Int) (base : Nat) (w : World) (h : OSl w base v l) (h0 : 0 ≤ k) (h1 : k + 4 * l.length ≤ 1099511627776) :
    Calls Tryz.prog 26 #[v, .int .i64 k] w fun e w' => e = .returned (.int .i64 (k + 4 * l.length)) ∧ OSl w' base v (uptoSl k l.length) ∧ Mk (fun b => v.ownBlock = some b) w w' := by
  obtain ⟨A, c, rfl, hc⟩ := h.slice
  have H0 := Lib.hid h
  clear h
  go_enter Tryz.func26, Tryz.ntmps26
  go_wp2_with (at_builtin; fail)
  go_loopw [1, 5] (fun kv i wr => ∃ (j : Nat) (K : Int), j ≤ l.length ∧ i = .int .i64 j ∧ kv = .int .i64 K ∧ K = k + 4 * j ∧ OSl wr base (.slice A l.length c) (uptoSl k j ++ l.drop j) ∧ Mk (fun b => (Value.slice A l.length c).ownBlock = some b) w wr) (fun _ i _ => l.length - (intOf i).toNat)
  case atStart => exact ⟨0, k, Nat.zero_le _, rfl, rfl, by simp, by simpa [uptoSl] using H0.out, Mk.refl _ _⟩
  case round =>
    obtain ⟨j, K, hj, rfl, rfl, hK, ho, hm⟩ := hrel
    have HK := Lib.hid hK
    have hlen : (uptoSl k j ++ l.drop j).length = l.length := by rw [List.length_append, uptoSl_len, List.length_drop]; omega
    have hK0 : 0 ≤ K := by omega
    by_cases hlt : j < l.length
    · have hK1 : K + 4 ≤ 1099511627776 := by omega
      obtain ⟨g, rfl, hg, hgs, q0, q1, q2, q3, fz⟩ := ho.at_ (i := j) (by rw [hlen]; exact hlt)
      obtain ⟨y0, u0⟩ : ∃ y, wr.cell? ⟨g, j * 4, none⟩ = some y := ⟨_, q0⟩
      obtain ⟨y1, u1⟩ : ∃ y, wr.cell? ⟨g, j * 4 + 1, none⟩ = some y := ⟨_, q1⟩
      obtain ⟨y2, u2⟩ : ∃ y, wr.cell? ⟨g, j * 4 + 2, none⟩ = some y := ⟨_, q2⟩
      obtain ⟨y3, u3⟩ : ∃ y, wr.cell? ⟨g, j * 4 + 3, none⟩ = some y := ⟨_, q3⟩
      clear q0 q1 q2 q3
      obtain ⟨cs, hrow⟩ := ho.rowB
      have t1 : (((K + 1 + 1).toNat : Nat) : Int) = K + 1 + 1 := by omega
      have t2 : (((K + 1 + 1 + 1).toNat : Nat) : Int) = K + 1 + 1 + 1 := by omega
      have HO : Hid (OSl (wr.setCells g (j * 4) [.bool (K % 3 == 0), .int .i64 (K + 1), .int .i64 (K + 1 + 1), .int .i64 (K + 1 + 1 + 1)]) base (.slice (some ⟨g, 0, none⟩) l.length c) (uptoSl k (j + 1) ++ l.drop (j + 1))) := Lib.hid (by
        have := ho.put hlen.symm (i := j) (by rw [hlen]; exact hlt) (markSl K)
        rw [hK, uptoSl_set hlt, ← hK] at this
        simp only [markSl, t1, t2] at this
        exact this)
      have HM := Lib.hid ((((hm.trans (Mk.set_other hrow (by decide) (j * 4) (.bool (K % 3 == 0)) rfl)).trans (Mk.set_other (hrow.set_ (j * 4) (.bool (K % 3 == 0))) (by decide) (j * 4 + 1) (.int .i64 (K + 1)) rfl)).trans (Mk.set_other ((hrow.set_ (j * 4) (.bool (K % 3 == 0))).set_ (j * 4 + 1) (.int .i64 (K + 1))) (by decide) (j * 4 + 2) (.int .i64 (K + 1 + 1)) rfl)).trans (Mk.set_other (((hrow.set_ (j * 4) (.bool (K % 3 == 0))).set_ (j * 4 + 1) (.int .i64 (K + 1))).set_ (j * 4 + 2) (.int .i64 (K + 1 + 1))) (by decide) (j * 4 + 3) (.int .i64 (K + 1 + 1 + 1)) rfl))
      have f0 := fz (j * 4)
      have f1 := fz (j * 4 + 1)
      have f2 := fz (j * 4 + 2)
      have f3 := fz (j * 4 + 3)
      clear ho hm hrow hlen hK t1 t2 fz
      go_wp2_with (at_builtin; fail)
      exact ⟨⟨j + 1, _, by omega, by go_num, rfl, by have := HK.out; omega, HO.out, HM.out⟩, by simp [intOf] <;> omega⟩
    · have hjl : j = l.length := by omega
      have HJ := Lib.hid hjl
      have HO := Lib.hid ho
      have HM := Lib.hid hm
      clear hjl ho hm hlen hK
      go_wp2_with (at_builtin; fail)
      go_ret
      refine ⟨by rw [HK.out, HJ.out]; rfl, ?_, HM.out⟩
      have := HO.out
      rw [HJ.out] at this
      simpa using this
set_option maxHeartbeats 4000000 in
set_option maxRecDepth 100000 in
theorem heldSlotS_any (v : Value) (n : Nat) (k : Int) (B : Nat) (w : World) (h : SlS w B v (uptoSl k n)) (h0 : 0 ≤ k) (h1 : k + 4 * n ≤ 1099511627776) :
    Calls Tryz.prog 27 #[v, .int .i64 k] w fun e w' => e = .returned (.int .i64 (k + 4 * n)) ∧ w = w' := by
  have HS := Lib.hid h
  obtain ⟨A, c, rfl, hc⟩ := h.slice
  have hl := uptoSl_len k n
  rw [hl] at hc
  clear h
  go_enter Tryz.func27, Tryz.ntmps27
  rw [hl]
  go_wp2_with (at_builtin; fail)
  go_loopw [1, 5] (fun kv i wr => ∃ (j : Nat) (K : Int), j ≤ n ∧ i = .int .i64 j ∧ kv = .int .i64 K ∧ K = k + 4 * j ∧ w = wr) (fun _ i _ => n - (intOf i).toNat)
  case atStart => exact ⟨0, k, Nat.zero_le _, rfl, rfl, by simp, rfl⟩
  case round =>
    obtain ⟨j, K, hj, rfl, rfl, hK, rfl⟩ := hrel
    have HK := Lib.hid hK
    have hK0 : 0 ≤ K := by omega
    by_cases hlt : j < n
    · obtain ⟨b, off, rfl, hb, d0, d1, d2, d3⟩ := HS.out.get (i := j) (by omega)
      rw [uptoSl_get hlt] at d0 d1 d2 d3
      simp only [← hK] at d0 d1 d2 d3
      have t1 : (((K + 1 + 1).toNat : Nat) : Int) = K + 1 + 1 := by omega
      have t2 : (((K + 1 + 1 + 1).toNat : Nat) : Int) = K + 1 + 1 + 1 := by omega
      simp only [markSl, t1, t2] at d0 d1 d2 d3
      have hK1 : K + 4 ≤ 1099511627776 := by omega
      have x0 := ne_false_b (K % 3 == 0)
      have x1 := ne_false_z (K + 1)
      have x2 := ne_false_z (K + 1 + 1)
      have x3 := ne_false_z (K + 1 + 1 + 1)
      clear hK t1 t2
      go_wp2_with (at_builtin; fail)
      exact ⟨⟨j + 1, _, by omega, by go_num, rfl, by have := HK.out; omega, by first | trivial | rfl⟩, by simp [intOf] <;> omega⟩
    · obtain rfl : j = n := by omega
      clear hK
      go_wp2_with (at_builtin; fail)
      go_ret
      exact ⟨by rw [HK.out]; rfl, rfl⟩

end Go.Proofs.YtfioaohadanjmaaGreat

/- FnExactFinalSlots: the walk. -/
namespace Go.Proofs.YtfioaohadanjmaaGreat
open Go.RowKit

set_option maxHeartbeats 8000000
set_option maxRecDepth 100000
theorem fnExactFinalSlots_any (vt vb : Value) (ts : List Int) (l : List St) (vc : Value) (cs : List Int) (most : Int) (w : World) (ht : AnI w w.heap.size vt ts) (hl : StS w w.heap.size vb l) (hL : Lens l) (hc : AnI w w.heap.size vc cs) :
    Calls Tryz.prog 6 #[.agg #[vt, vb], vc, .int .i64 most] w (LwRet w) := by
  have HA0 := Lib.hid (ArA.new ht hl)
  have HLE := Lib.hid hL
  have ht0 := ht
  obtain ⟨At, ct, rfl, -⟩ := ht0
  obtain ⟨Ab, cb, rfl, hcb⟩ := hl.slice
  have HC0 := Lib.hid hc
  obtain ⟨Ac, cc, rfl, hcc, hcm, -⟩ := hc
  clear ht hl hL
  go_enter Tryz.func6, Tryz.ntmps6
  go_upto_region 1 with (at_builtin; fail)
  generalize w.alloc (.cells #[.slice At ts.length ct, .slice Ab l.length cb] 25) = W0 at *
  obtain ⟨g, hg⟩ : ∃ g, g = w.heap.size := ⟨_, rfl⟩
  rw [← hg] at HA0 ⊢
  have HG := Lib.hid hg
  clear hg
  have c0 := HA0.out.row.cell 0
  have c1 := HA0.out.row.cell 1
  simp only [List.getElem?_cons_zero, List.getElem?_cons_succ] at c0 c1
  by_cases hbig : 1048576 < cs.length
  · have qb : decide (((cs.length : Nat) : Int) > 1048576) = true := decide_eq_true (by omega)
    go_wp2_with (at_builtin; fail)
    go_ret
    exact ⟨rfl, HA0.out.bel⟩
  have qb : decide (((cs.length : Nat) : Int) > 1048576) = false := decide_eq_false (by omega)
  have HC := Lib.hid (HC0.out.toS (by omega))
  have hcl : cs.length ≤ 1048576 := by omega
  clear hbig HC0
  go_wp2_with (at_builtin; fail)
  refine (szProgram_any _ _ ts l 1048576 w.heap.size W0 HA0.out.ht HA0.out.hl HLE.out HA0.out.bel.size (by omega) (by omega)).mono ?_
  rintro e W1 ⟨rfl, hb1⟩
  have HA1 := Lib.hid (HA0.out.bels hb1)
  clear hb1 c0 c1 HA0
  by_cases hn : leftP 1048576 (ts.length + szL l) < 0
  · rw [(leftP_neg hn).1]
    clear hn
    go_wp2_with (at_builtin; fail)
    go_ret
    exact ⟨rfl, HA1.out.bel⟩
  · have hsz := (leftP_nn (by omega : 0 ≤ leftP 1048576 (ts.length + szL l))).1
    have htl : ts.length ≤ 1048576 := by omega
    have hll : szL l ≤ 1048576 := by omega
    have HB1 := Lib.hid (HA1.out.toB (by omega))
    generalize leftP 1048576 (ts.length + szL l) = L1 at *
    clear HA1 hsz HLE
    have c0 := HB1.out.c0
    have c1 := HB1.out.c1
    go_wp2_with (at_builtin; fail)
    refine (toProgram_any _ _ ts l w.heap.size W1 HB1.out.ht HB1.out.hl HB1.out.bel.size hll).mono ?_
    rintro e W2 ⟨vt2, vb2, rfl, ht2, hl2, hb2⟩
    have HB2 := Lib.hid (HB1.out.bels hb2)
    have HT2 := Lib.hid (ht2.toS (by omega))
    have HL2 := Lib.hid hl2.toS
    clear ht2 hl2 hb2 c0 c1 HB1
    go_wp2_with (at_builtin; fail)
    refine (toIntS_any _ cs w.heap.size W2 (HC.out.low HB2.out.bel (Nat.le_refl _)) HB2.out.bel.size).mono ?_
    rintro e Wi ⟨vi, rfl, hvi, hbi⟩
    have HBi := Lib.hid (HB2.out.bels hbi)
    have HCi := Lib.hid (hvi.toS (by omega))
    have HTi := Lib.hid ((HT2.out.low hbi (Nat.le_refl _)).more hbi.size)
    have HLi := Lib.hid ((HL2.out.low hbi (Nat.le_refl _)).more hbi.size)
    clear hvi hbi HB2 HT2 HL2
    go_wp2_with (at_builtin; fail)
    refine (sFinalSlots_any _ _ _ ts l cs most Wi.heap.size Wi HTi.out HLi.out HCi.out (Nat.le_refl _) (by omega)).mono ?_
    obtain ⟨R, hR⟩ : ∃ R, R = slotX ts l cs most := ⟨_, rfl⟩
    have hbnd := slotX_len ts l cs most
    rw [← hR] at hbnd ⊢
    have HRE := Lib.hid hR
    clear hR
    obtain ⟨RL, en⟩ := R
    have HOKC := Lib.hid (show RL.length ≤ 6 from hbnd)
    have hbnd : RL.length ≤ 6 := hbnd
    have hee : (en != en) = false := by simp
    rintro e W3 ⟨v0, rfl, hv0, hb3⟩
    have HB3 := Lib.hid (HBi.out.bels hb3)
    have HV3 := Lib.hid hv0
    obtain ⟨A0, n0, rfl, -⟩ := hv0.slice
    have c0 := HB3.out.c0
    have c1 := HB3.out.c1
    clear hb3 hv0 HTi HLi HCi HBi
    go_wp2_with (at_builtin; fail)
    refine (toProgram_any _ _ ts l w.heap.size W3 HB3.out.ht HB3.out.hl HB3.out.bel.size hll).mono ?_
    rintro e W4 ⟨vt4, vb4, rfl, ht4, hl4, hb4⟩
    have HX5 := Lib.hid (XB.new ht4 hl4 hb4)
    have HB5 := Lib.hid ((HB3.out.bels hb4).bels (bel_a W4 (.cells #[vt4, vb4] 31)))
    have BL5 := Lib.hid (hb4.alloc hb4.size (.cells #[vt4, vb4] 31))
    obtain ⟨A4, n4, rfl, -⟩ := ht4.slice
    obtain ⟨b4, m4, rfl, -, -, -⟩ := hl4.slice
    clear ht4 hl4 hb4 c0 c1
    go_upto_region 9 with (at_builtin; fail)
    generalize hW5 : W4.alloc (.cells #[.slice A4 ts.length n4, .slice (some ⟨b4, 0, none⟩) l.length m4] 31) = W5 at *
    clear hW5
    obtain ⟨hi, hhi⟩ : ∃ hi, hi = W4.heap.size := ⟨_, rfl⟩
    obtain ⟨lo, hlo⟩ : ∃ lo, lo = W3.heap.size := ⟨_, rfl⟩
    rw [← hhi] at HX5 ⊢
    rw [← hlo] at HX5
    have BL5 : Hid (Below lo W3 W5) := Lib.hid (by rw [hlo]; exact BL5.out)
    have HLO : Hid (g < lo) := Lib.hid (by rw [hlo]; exact HB3.out.lt)
    have HL3 := Lib.hid hlo
    clear hhi hlo HB3
    go_wp2_with (at_builtin; fail)
    refine (toIntS_any _ cs w.heap.size W5 (HC.out.low HB5.out.bel (Nat.le_refl _)) HB5.out.bel.size).mono ?_
    rintro e W6 ⟨v6, rfl, hv6, hb6⟩
    have HB6 := Lib.hid (HB5.out.bels hb6)
    have HX6 := Lib.hid (HX5.out.bels hb6)
    have BL6 := Lib.hid (BL5.out.trans (hb6.mono (by have := HX5.out.lt; have := HX5.out.le; omega)))
    obtain ⟨bi, hbi⟩ : ∃ bi, bi = W5.heap.size := ⟨_, rfl⟩
    rw [← hbi] at hv6
    have HBI : Hid (hi < bi) := Lib.hid (by rw [hbi]; exact HX5.out.lt)
    have HQ6 := Lib.hid hv6
    obtain ⟨A6, c6, rfl, -⟩ := hv6.slice
    have HQB : Hid (∀ b, (Value.slice A6 cs.length c6).ownBlock = some b → bi ≤ b ∧ b < W6.heap.size) := Lib.hid fun b e => HQ6.out.own_lt e
    clear hv6 hb6 HB5 HX5 BL5 hbi
    have x0 := HX6.out.c0
    have x1 := HX6.out.c1
    go_wp2_with (at_builtin; fail)
    refine (iFinalSlots_any _ _ _ ts l cs most W6.heap.size W6 (HX6.out.rt (by omega)) HX6.out.rl (HQ6.out.toS (by omega)) (Nat.le_refl _) (by omega)).mono ?_
    rw [← HRE.out]
    rintro e W7 ⟨vg, rfl, hvg, hb7⟩
    have HB7 := Lib.hid (HB6.out.bels hb7)
    have HX7 := Lib.hid (HX6.out.bels hb7)
    have BL7 := Lib.hid (BL6.out.trans (hb7.mono (by have := HX6.out.lt; have := HX6.out.le; omega)))
    have HQ7 := Lib.hid (HQ6.out.bel hb7)
    obtain ⟨bs, hbs⟩ : ∃ bs, bs = W6.heap.size := ⟨_, rfl⟩
    rw [← hbs] at hvg HQB
    have HBS : Hid (hi < bs) := Lib.hid (by rw [hbs]; exact HX6.out.lt)
    have HO7 := Lib.hid hvg
    obtain ⟨Ag, ng, rfl, hng⟩ := hvg.slice
    clear hvg hb7 x0 x1 hbs HB6 HX6 BL6 HQ6
    have HLH : Hid (lo ≤ hi) := Lib.hid HX7.out.le
    have HLBS : Hid (lo ≤ bs) := Lib.hid (by have := HX7.out.le; have := HBS.out; omega)
    go_wp2_with (at_builtin; fail)
    refine (eqSlotS_any _ _ RL _ _ W7 (HO7.out.toS (by omega)) ((HV3.out.bel (HL3.out ▸ BL7.out)).toS (by omega)) (Nat.le_refl _) (Nat.le_refl _)).mono ?_
    rintro e W8 ⟨rfl, hb8⟩
    have HLE7 : Hid (lo ≤ W7.heap.size) := Lib.hid (by have := HX7.out.lt; have := HX7.out.le; omega)
    have HB8 := Lib.hid (HB7.out.bels hb8)
    have BL8 := Lib.hid (BL7.out.trans (hb8.mono HLE7.out))
    have HO8 := Lib.hid (HO7.out.bel hb8)
    have HLE8 : Hid (lo ≤ W8.heap.size) := Lib.hid (Nat.le_trans HLE7.out hb8.size)
    have HX8 := Lib.hid (HX7.out.bels hb8)
    have HQ8 := Lib.hid (HQ7.out.bel hb8)
    clear HB7 BL7 HO7 HLE7 HX7 HQ7
    clear hb8
    have c0 := HB8.out.c0
    have c1 := HB8.out.c1
    have x0 := HX8.out.c0
    have x1 := HX8.out.c1
    have hlt7 := HB8.out.lt
    have hlx7 := HX8.out.lt
    go_wp2_with (at_builtin; fail)
    have BEL : Hid (∀ w', w'.cell? ⟨g, 0, none⟩ = some (.slice At ts.length ct) ∧ w'.cell? ⟨g, 1, none⟩ = some (.slice Ab l.length cb) ∧ w'.cell? ⟨hi, 0, none⟩ = some (.slice A4 ts.length n4) ∧ w'.cell? ⟨hi, 1, none⟩ = some (.slice (some ⟨b4, 0, none⟩) l.length m4) ∧ Below W8.heap.size W8 w' → Below W8.heap.size W8 w') := Lib.hid fun _ h => h.2.2.2.2
    refine wp_region_held_drew (S := (fun w' => w'.cell? ⟨g, 0, none⟩ = some (.slice At ts.length ct) ∧ w'.cell? ⟨g, 1, none⟩ = some (.slice Ab l.length cb) ∧ w'.cell? ⟨hi, 0, none⟩ = some (.slice A4 ts.length n4) ∧ w'.cell? ⟨hi, 1, none⟩ = some (.slice (some ⟨b4, 0, none⟩) l.length m4) ∧ Below W8.heap.size W8 w')) (by kernel_rfl) ?_ (fun hHeld => ?_)
    · exact ⟨c0, c1, x0, x1, (Below.refl _ _).drew⟩
    refine wpAnyH_take (i := 0) (oi := ⟨some 56, _, _, _, _, _⟩) (v := ?_) rfl (by kernel_rfl) (by kernel_rfl) (by kernel_rfl) (fun _ _ _ h => h) (Or.inl ⟨by rfl, fun w' hSw => ?_⟩) (by assumption) ?_
    rotate_left
    · (try dsimp only at hSw); go_simp; (try with_reducible rfl)
    (try simp only [Act.put, List.setIfInBounds_toArray, List.set_cons_zero, List.set_cons_succ])
    refine wpAnyH_take (i := 1) (oi := ⟨some 57, _, _, _, _, _⟩) (v := ?_) rfl (by kernel_rfl) (by kernel_rfl) (by kernel_rfl) (fun _ _ _ h => h) (Or.inl ⟨by rfl, fun w' hSw => ?_⟩) (by assumption) ?_
    rotate_left
    · (try dsimp only at hSw); go_simp; (try with_reducible rfl)
    (try simp only [Act.put, List.setIfInBounds_toArray, List.set_cons_zero, List.set_cons_succ])
    refine wpAnyH_ready (rs := [2]) (by kernel_rfl) (by simp) ?_
    refine AllReadyH.cons (o := ⟨some 58, _, _, _, _, _⟩) rfl (fun K hK => ?_) AllReadyH.nil
    go_simp
    (refine (toProgram_any _ _ ts l w.heap.size _ ((HB8.out.bels (show Below W8.heap.size W8 _ from (BEL.out _ (by assumption)))).ht) ((HB8.out.bels (show Below W8.heap.size W8 _ from (BEL.out _ (by assumption)))).hl) ((HB8.out.bels (show Below W8.heap.size W8 _ from (BEL.out _ (by assumption)))).bel.size) hll).mono ?_)
    (rintro e w8 ⟨vt8, vb8, rfl, ht8, hl8, hb8⟩)
    (have BX8 := Lib.hid ((BEL.out _ (by assumption)).trans (hb8.mono (BEL.out _ (by assumption)).size)))
    (have HT8 := Lib.hid (ht8.toS (by omega)))
    (have HL8 := Lib.hid hl8.toS)
    clear ht8 hl8 hb8
    go_simp
    refine hK.out _ _ ?_ (fun hHeld => ?_)
    · exact ⟨(BX8.out.cell (p := ⟨g, 0, none⟩) hlt7).trans c0, (BX8.out.cell (p := ⟨g, 1, none⟩) hlt7).trans c1, (BX8.out.cell (p := ⟨hi, 0, none⟩) hlx7).trans x0, (BX8.out.cell (p := ⟨hi, 1, none⟩) hlx7).trans x1, BX8.out⟩
    clear hK K
    (try simp only [Act.put, List.setIfInBounds_toArray, List.set_cons_zero, List.set_cons_succ])
    refine wpAnyH_ready (rs := [3]) (by kernel_rfl) (by simp) ?_
    refine AllReadyH.cons (o := ⟨some 59, _, _, _, _, _⟩) rfl (fun K hK => ?_) AllReadyH.nil
    go_simp
    (have BY := (BEL.out _ (by assumption)))
    (refine (eqProgram_any _ _ _ _ ts l _ _ (((HX8.out.bels BX8.out).rt (by omega))) ((HX8.out.bels BX8.out).rl) HT8.out HL8.out (Nat.le_refl _) (by omega)).mono ?_)
    (rintro e w9 ⟨rfl, hb9⟩)
    (have BX9 := Lib.hid (BX8.out.trans (hb9.mono BX8.out.size)))
    clear hb9
    go_simp
    refine hK.out _ _ ?_ (fun hHeld => ?_)
    · exact ⟨(BX9.out.cell (p := ⟨g, 0, none⟩) hlt7).trans c0, (BX9.out.cell (p := ⟨g, 1, none⟩) hlt7).trans c1, (BX9.out.cell (p := ⟨hi, 0, none⟩) hlx7).trans x0, (BX9.out.cell (p := ⟨hi, 1, none⟩) hlx7).trans x1, BX9.out⟩
    clear hK K
    (try simp only [Act.put, List.setIfInBounds_toArray, List.set_cons_zero, List.set_cons_succ])
    refine wpAnyH_take (i := 4) (oi := ⟨some 60, _, _, _, _, _⟩) (v := ?_) rfl (by kernel_rfl) (by kernel_rfl) (by kernel_rfl) (fun _ _ _ h => h) (Or.inl ⟨by rfl, fun w' hSw => ?_⟩) (by assumption) ?_
    rotate_left
    · (try dsimp only at hSw); go_simp; (try with_reducible rfl)
    (try simp only [Act.put, List.setIfInBounds_toArray, List.set_cons_zero, List.set_cons_succ])
    refine wpAnyH_done (by kernel_rfl) ?_ _
    have HB9 := Lib.hid (HB8.out.bels BX9.out)
    have BL9 := Lib.hid (BL8.out.trans (BX9.out.mono HLE8.out))
    have HO9 := Lib.hid (HO8.out.bel BX9.out)
    have HLE9 : Hid (lo ≤ w9.heap.size) := Lib.hid (Nat.le_trans HLE8.out BX9.out.size)
    have HX9 := Lib.hid (HX8.out.bels BX9.out)
    have HQ9 := Lib.hid (HQ8.out.bel BX9.out)
    clear HB8 BL8 HO8 HLE8 HX8 HQ8
    clear c0 c1 x0 x1 BEL BX8 BX9 BY HT8 HL8 hHeld hlt7 hlx7
    go_wp2_with (at_builtin; fail)
    refine (toIntS_any _ cs w.heap.size w9 (HC.out.low HB9.out.bel (Nat.le_refl _)) HB9.out.bel.size).mono ?_
    rintro e wa ⟨va, rfl, hva, hba⟩
    have HBa := Lib.hid (HB9.out.bels hba)
    have BLa := Lib.hid (BL9.out.trans (hba.mono HLE9.out))
    have HOa := Lib.hid (HO9.out.bel hba)
    have HLEa : Hid (lo ≤ wa.heap.size) := Lib.hid (Nat.le_trans HLE9.out hba.size)
    have HXa := Lib.hid (HX9.out.bels hba)
    have HQa := Lib.hid (HQ9.out.bel hba)
    clear HB9 BL9 HO9 HLE9 HX9 HQ9
    have HDa := Lib.hid (hva.toS (by omega))
    clear hva hba
    go_wp2_with (at_builtin; fail)
    refine (eqIntS_any _ _ cs _ _ wa (HQa.out.toS (by omega)) HDa.out).mono ?_
    rintro e wb ⟨rfl, hbb⟩
    have HBb := Lib.hid (HBa.out.bels hbb)
    have BLb := Lib.hid (BLa.out.trans (hbb.mono HLEa.out))
    have HOb := Lib.hid (HOa.out.bel hbb)
    have HLEb : Hid (lo ≤ wb.heap.size) := Lib.hid (Nat.le_trans HLEa.out hbb.size)
    have HXb := Lib.hid (HXa.out.bels hbb)
    have HQb := Lib.hid (HQa.out.bel hbb)
    clear HBa BLa HOa HLEa HXa HQa
    clear hbb HDa
    have x0 := HXb.out.c0
    have x1 := HXb.out.c1
    go_wp2_with (at_builtin; fail)
    refine (markProgram_any _ _ ts l lo _ true 1 wb HXb.out.ht HXb.out.hl (by omega) (by omega)).mono ?_
    rintro e wc ⟨rfl, hca⟩
    have HCA := Lib.hid (hca.bel HLEb.out fun b hb => (HXb.out.q b hb).1)
    have HBc := Lib.hid (HBb.out.low HCA.out HLO.out)
    have BLc := Lib.hid (BLb.out.trans HCA.out)
    have HOc := Lib.hid (HOb.out.move (Nat.le_refl _) fun b h1 h2 => hca.oth b h2 fun hp => by have := (HXb.out.q b hp).2; have := HBS.out; omega)
    have HQc := Lib.hid (HQb.out.move (Nat.le_refl _) fun b h1 h2 => hca.oth b h2 fun hp => by have := (HXb.out.q b hp).2; have := HBI.out; omega)
    have HLEc : Hid (lo ≤ wc.heap.size) := Lib.hid (Nat.le_trans HLEb.out HCA.out.size)
    clear hca x0 x1 HBb HXb BLb HOb HLEb HCA HQb
    have hK1 : 1 ≤ 1 + (ts.length : Int) + 4 * (szL l : Int) ∧ 1 + (ts.length : Int) + 4 * (szL l : Int) ≤ 10000000 := by omega
    generalize 1 + (ts.length : Int) + 4 * (szL l : Int) = K at *
    go_wp2_with (at_builtin; fail)
    refine (markIntS_any _ cs K bi wc HQc.out (by omega) (by omega)).mono ?_
    rintro e wd ⟨rfl, hqd, hmd⟩
    have HMD := Lib.hid (HQc.out.ownMk hmd (show lo ≤ bi by have := HBI.out; have := HLBS.out; have := HLH.out; omega))
    have HBd := Lib.hid (HBc.out.low HMD.out HLO.out)
    have BLd := Lib.hid (BLc.out.trans HMD.out)
    have HOd := Lib.hid (HOc.out.move (Nat.le_refl _) fun b h1 h2 => hmd.oth b fun hp => by have := (HQB.out b hp).2; omega)
    have HLEd : Hid (lo ≤ wd.heap.size) := Lib.hid (by rw [hmd.size]; exact HLEc.out)
    clear hqd hmd HBc BLc HOc HLEc HQc HMD
    have hk0 : ¬ (K + (cs.length : Int) < 0) := by omega
    generalize K + (cs.length : Int) = K2 at *
    go_wp2_with (at_builtin; fail)
    refine (eqSlotS_any _ _ RL _ _ wd (HOd.out.toS (by omega)) ((HV3.out.bel (HL3.out ▸ BLd.out)).toS (by omega)) (Nat.le_refl _) (Nat.le_refl _)).mono ?_
    rintro e we ⟨rfl, hbe⟩
    have HBe := Lib.hid (HBd.out.bels hbe)
    have BLe := Lib.hid (BLd.out.trans (hbe.mono HLEd.out))
    have HOe := Lib.hid (HOd.out.bel hbe)
    have HLEe : Hid (lo ≤ we.heap.size) := Lib.hid (Nat.le_trans HLEd.out hbe.size)
    clear HBd BLd HOd HLEd
    clear hbe
    go_wp2_with (at_builtin; fail)
    refine (markSlotS_any _ RL 1 bs we HOe.out (by omega) (by omega)).mono ?_
    rintro e wf ⟨rfl, hof, hmf⟩
    have HMF := Lib.hid (HOe.out.ownMk hmf HLBS.out)
    have HBf := Lib.hid (HBe.out.low HMF.out HLO.out)
    have BLf := Lib.hid (BLe.out.trans HMF.out)
    have HOf := Lib.hid hof
    have HLEf : Hid (lo ≤ wf.heap.size) := Lib.hid (by rw [hmf.size]; exact HLEe.out)
    have c0 := HBf.out.c0
    have c1 := HBf.out.c1
    clear hof hmf HMF HBe BLe HOe HLEe
    obtain ⟨M, hM⟩ : ∃ M : Int, M = 1 + 4 * (RL.length : Int) := ⟨_, rfl⟩
    have HM := Lib.hid hM
    rw [← hM]
    have hne : (M != M) = false := by simp
    have hnn : ¬ (M < 0) := by omega
    clear hM
    go_wp2_with (at_builtin; fail)
    refine (heldSlotS_any _ RL.length 1 _ wf (HOf.out.toS (by rw [uptoSl_len]; omega)) (by omega) (by omega)).mono ?_
    rw [← HM.out]
    rintro e wz ⟨rfl, rfl⟩
    go_wp2_with (at_builtin; fail)
    refine (toProgram_any _ _ ts l w.heap.size wf HBf.out.ht HBf.out.hl HBf.out.bel.size hll).mono ?_
    rintro e wh ⟨vth, vbh, rfl, hth, hlh, hbh⟩
    have HBh := Lib.hid (HBf.out.bels hbh)
    have BLh := Lib.hid (BLf.out.trans (hbh.mono HLEf.out))
    have HOh := Lib.hid (HOf.out.bel hbh)
    have HLEh : Hid (lo ≤ wh.heap.size) := Lib.hid (Nat.le_trans HLEf.out hbh.size)
    clear HBf BLf HOf HLEf
    have HTh := Lib.hid (hth.toS (by omega))
    have HLh := Lib.hid hlh.toS
    clear hth hlh hbh c0 c1
    go_wp2_with (at_builtin; fail)
    refine (toIntS_any _ cs w.heap.size wh (HC.out.low HBh.out.bel (Nat.le_refl _)) HBh.out.bel.size).mono ?_
    rintro e wi ⟨vi, rfl, hvi, hbi⟩
    have HBi := Lib.hid (HBh.out.bels hbi)
    have BLi := Lib.hid (BLh.out.trans (hbi.mono HLEh.out))
    have HOi := Lib.hid (HOh.out.bel hbi)
    have HLEi : Hid (lo ≤ wi.heap.size) := Lib.hid (Nat.le_trans HLEh.out hbi.size)
    clear HBh BLh HOh HLEh
    have HDi := Lib.hid (hvi.toS (by omega))
    have HTi := Lib.hid ((HTh.out.low hbi (Nat.le_refl _)).more hbi.size)
    have HLi := Lib.hid ((HLh.out.low hbi (Nat.le_refl _)).more hbi.size)
    clear hvi hbi HTh HLh
    go_wp2_with (at_builtin; fail)
    refine (iFinalSlots_any _ _ _ ts l cs most wi.heap.size wi HTi.out HLi.out HDi.out (Nat.le_refl _) (by omega)).mono ?_
    rw [← HRE.out]
    rintro e wj ⟨vj, rfl, hvj, hbj⟩
    have HBj := Lib.hid (HBi.out.bels hbj)
    have BLj := Lib.hid (BLi.out.trans (hbj.mono HLEi.out))
    have HOj := Lib.hid (HOi.out.bel hbj)
    have HLEj : Hid (lo ≤ wj.heap.size) := Lib.hid (Nat.le_trans HLEi.out hbj.size)
    clear HBi BLi HOi HLEi
    have HJ := Lib.hid hvj
    obtain ⟨Aj, nj, rfl, hnj⟩ := hvj.slice
    clear hvj hbj HDi HTi HLi
    go_wp2_with (at_builtin; fail)
    refine (eqSlotS_any _ _ RL _ _ wj (HJ.out.toS (by omega)) ((HV3.out.bel (HL3.out ▸ BLj.out)).toS (by omega)) (Nat.le_refl _) (Nat.le_refl _)).mono ?_
    rintro e wk ⟨rfl, hbk⟩
    have HBk := Lib.hid (HBj.out.bels hbk)
    have BLk := Lib.hid (BLj.out.trans (hbk.mono HLEj.out))
    have HOk := Lib.hid (HOj.out.bel hbk)
    have HLEk : Hid (lo ≤ wk.heap.size) := Lib.hid (Nat.le_trans HLEj.out hbk.size)
    clear HBj BLj HOj HLEj
    clear hbk
    go_wp2_with (at_builtin; fail)
    refine (heldSlotS_any _ RL.length 1 _ wk (HOk.out.toS (by rw [uptoSl_len]; omega)) (by omega) (by omega)).mono ?_
    rw [← HM.out]
    rintro e wl ⟨rfl, rfl⟩
    go_wp2_with (at_builtin; fail)
    go_ret
    exact ⟨rfl, HBk.out.bel⟩

end Go.Proofs.YtfioaohadanjmaaGreat

/- Plain: choices by number, runs that go wrong. No program in sight. -/
namespace Go.Proofs.YtfioaohadanjmaaGreat

/-- the choices with the number n -/
def chcP (n len : Nat) : List Int := (List.range len).map fun i => ((n / 2 ^ i % 2 : Nat) : Int)
theorem chcP_len (n len : Nat) : (chcP n len).length = len := by simp [chcP]
theorem chcP_succ (n len : Nat) : chcP n (len + 1) = chcP n len ++ [((n / 2 ^ len % 2 : Nat) : Int)] := by simp [chcP, List.range_succ]
theorem div_half (n i : Nat) : n / 2 ^ i / 2 = n / 2 ^ (i + 1) := by rw [Nat.div_div_eq_div_mul, Nat.pow_succ]
/-- how many of the first k runs go wrong -/
def cntP (bad : Nat → Bool) (k : Nat) : Nat := (List.range k).countP bad
theorem cntP_succ (bad : Nat → Bool) (k : Nat) : cntP bad (k + 1) = cntP bad k + if bad k = true then 1 else 0 := by
  unfold cntP
  rw [List.range_succ, List.countP_append]
  simp [List.countP_cons]
theorem cntP_le (bad : Nat → Bool) (k : Nat) : cntP bad k ≤ k := by
  have := List.countP_le_length (p := bad) (l := List.range k)
  simpa [cntP] using this
/-- the first of k runs that goes wrong -/
def fstP (bad : Nat → Bool) (k : Nat) : Option Nat := (List.range k).find? bad
theorem fstP_succ (bad : Nat → Bool) (k : Nat) : fstP bad (k + 1) = match fstP bad k with | some n => some n | none => if bad k = true then some k else none := by
  unfold fstP
  rw [List.range_succ, List.find?_append]
  cases h : (List.range k).find? bad with
  | some n => rfl
  | none =>
    cases hb : bad k <;> simp [hb]
theorem fstP_none {bad : Nat → Bool} {k : Nat} : fstP bad k = none ↔ ∀ i, i < k → bad i = false := by
  unfold fstP
  rw [List.find?_eq_none]
  simp only [List.mem_range, Bool.not_eq_true]
theorem fstP_at {bad : Nat → Bool} {k m : Nat} (hk : k < m) (h : ∀ i, i < k → bad i = false) (hb : bad k = true) : fstP bad m = some k := by
  induction m with
  | zero => omega
  | succ m ih =>
    rw [fstP_succ]
    by_cases e : k = m
    · subst e
      rw [fstP_none.2 h]
      simp [hb]
    · rw [ih (by omega)]
theorem fstP_lt {bad : Nat → Bool} {k m : Nat} (h : fstP bad m = some k) : k < m := by
  unfold fstP at h
  have := List.mem_of_find?_eq_some h
  simpa using this
theorem cntP_zero {bad : Nat → Bool} {k : Nat} : cntP bad k = 0 ↔ fstP bad k = none := by
  rw [fstP_none]
  unfold cntP
  rw [List.countP_eq_zero]
  simp only [List.mem_range, Bool.not_eq_true]
end Go.Proofs.YtfioaohadanjmaaGreat

/- spec: l8Choices, l8Runs, l8Wrong, l8Right, CountWrong, FirstWrong, SafeUpTo. -/
namespace Go.Proofs.YtfioaohadanjmaaGreat
open Go.RowKit Go.Lib

def lenOk (ts : List Int) (l : List St) (a : Int) : Bool := validP ts l && withinP a 0 6
theorem lenOk_parts {ts : List Int} {l : List St} {a : Int} (h : lenOk ts l a = true) : validP ts l = true ∧ ∃ m : Nat, a = m ∧ m ≤ 6 := by
  unfold lenOk at h
  rw [Bool.and_eq_true] at h
  refine ⟨h.1, a.toNat, ?_⟩
  have h2 := h.2
  simp only [withinP, Bool.and_eq_true, decide_eq_true_eq] at h2
  omega
/-- the run with the choices' number n goes wrong -/
def badP (ts : List Int) (l : List St) (m n : Nat) : Bool := (progX ts l (chcP n m) 80).1 != 0 && (progX ts l (chcP n m) 80).1 != 1
def cntX (ts : List Int) (l : List St) (a : Int) : Nat × Nat := if lenOk ts l a = true then (cntP (badP ts l a.toNat) (2 ^ a.toNat), 2 ^ a.toNat) else (0, 0)
def fstX (ts : List Int) (l : List St) (a : Int) : List Int × Bool := if lenOk ts l a = true then (match fstP (badP ts l a.toNat) (2 ^ a.toNat) with | some n => (chcP n a.toNat, true) | none => ([], false)) else ([], false)
def safX (ts : List Int) (l : List St) (a : Int) : Bool := lenOk ts l a && !(fstX ts l a).2
theorem fstX_len (ts : List Int) (l : List St) (a : Int) : (fstX ts l a).1.length ≤ 1000 := by
  unfold fstX
  split
  · rename_i h
    obtain ⟨-, m, rfl, hm⟩ := lenOk_parts h
    split
    · rw [chcP_len, Int.toNat_natCast]; omega
    · simp
  · simp
theorem pow6 {m : Nat} (h : m ≤ 6) : 2 ^ m ≤ 64 := Nat.pow_le_pow_right (n := 2) (by omega) h
/-- a count, and a bound -/
def CwRet (w : World) (r : Nat × Nat) (e : Ending) (w' : World) : Prop := e = .returned (.tuple #[.int .i64 (r.1 : Nat), .int .i64 (r.2 : Nat)]) ∧ Below w.heap.size w w'
/-- choices, and whether there are some -/
def FwRet (w : World) (r : List Int × Bool) (e : Ending) (w' : World) : Prop := ∃ v, e = .returned (.tuple #[v, .bool r.2]) ∧ OInts w' w.heap.size v r.1 ∧ Below w.heap.size w w'
set_option maxHeartbeats 2000000 in
set_option maxRecDepth 100000 in
theorem l8Runs_any (m : Nat) (hm : m ≤ 6) (w : World) : Calls Tryz.prog 44 #[.int .i64 (m : Nat)] w fun e w' => e = .returned (.int .i64 ((2 ^ m : Nat) : Int)) ∧ w = w' := by
  go_enter Tryz.func44, Tryz.ntmps44
  go_wp2_with (at_builtin; fail)
  go_loopw [3, 4] (fun p i wr => ∃ (k pk : Nat), k ≤ m ∧ i = .int .i64 k ∧ p = .int .i64 (pk : Nat) ∧ pk = 2 ^ k ∧ w = wr) (fun _ i _ => m - (intOf i).toNat)
  case atStart => exact ⟨0, 1, Nat.zero_le _, rfl, rfl, rfl, rfl⟩
  case round =>
    obtain ⟨k, pk, hk, rfl, rfl, hpk, rfl⟩ := hrel
    have HPK := Lib.hid hpk
    have hp64 : pk ≤ 64 := by rw [hpk]; exact pow6 (by omega)
    clear hpk
    by_cases hlt : k < m
    · go_wp2_with (at_builtin; fail)
      exact ⟨⟨k + 1, pk * 2, by omega, by go_num, by go_num, by rw [HPK.out, Nat.pow_succ], by first | trivial | rfl⟩, by simp [intOf] <;> omega⟩
    · obtain rfl : k = m := by omega
      go_wp2_with (at_builtin; fail)
      go_ret
      exact ⟨by rw [← HPK.out]; rfl, rfl⟩
set_option maxHeartbeats 2000000 in
set_option maxRecDepth 100000 in
theorem l8Choices_any (n m : Nat) (hn : n ≤ 64) (hm : m ≤ 6) (w : World) : Calls Tryz.prog 46 #[.int .i64 (n : Nat), .int .i64 (m : Nat)] w (IntsOwn w (chcP n m)) := by
  have HE := Lib.hid (OInts.empty w w.heap.size (Nat.le_refl _))
  have HBE := Lib.hid (bel_a w (.cells #[] 3))
  go_enter Tryz.func46, Tryz.ntmps46
  go_wp2_with (at_builtin; fail)
  generalize w.alloc (.cells #[] 3) = W at *
  go_loopw [0, 5, 6] (fun a v i wr => ∃ (k q : Nat), k ≤ m ∧ i = .int .i64 k ∧ a = .int .i64 (q : Nat) ∧ q = n / 2 ^ k ∧ q ≤ 64 ∧ OInts wr w.heap.size v (chcP n k) ∧ Below w.heap.size w wr) (fun _ _ i _ => m - (intOf i).toNat)
  case atStart => exact ⟨0, n, Nat.zero_le _, rfl, rfl, by simp, hn, HE.out, HBE.out⟩
  case round =>
    obtain ⟨k, q, hk, rfl, rfl, hq, hq6, ho, hbw⟩ := hrel
    have HQ := Lib.hid hq
    have HO := Lib.hid ho
    have HBW := Lib.hid hbw
    have hsw := hbw.size
    obtain ⟨A, c, rfl, hc⟩ := ho.slice
    have HCL : Hid ((chcP n k).length = k) := Lib.hid (chcP_len n k)
    rw [chcP_len] at hc HO ⊢
    clear hq ho hbw
    by_cases hlt : k < m
    · have ht2 : ((q : Nat) : Int).tmod 2 = ((q % 2 : Nat) : Int) := by rw [Int.tmod_eq_emod_of_nonneg (by omega)]; omega
      have hd2 : ((q : Nat) : Int).tdiv 2 = ((q / 2 : Nat) : Int) := by rw [Int.tdiv_eq_ediv_of_nonneg (by omega)]; omega
      have HSU : Hid (chcP n k ++ [((q % 2 : Nat) : Int)] = chcP n (k + 1)) := Lib.hid (by rw [chcP_succ, HQ.out])
      have HQ2 : Hid (q / 2 = n / 2 ^ (k + 1)) := Lib.hid (by rw [HQ.out, div_half])
      go_wp2_with (at_builtin; go_must (refine wpList_push_int rfl (.tmp 13) (.tmp 16) rfl HO.out hsw (by rw [HCL.out]; omega) _ rfl rfl ?_); intro v' w' hP' hE'; (have HB2 := Lib.hid (HBW.out.trans (((Evo.alloc w.heap.size 3 _ _).trans hE').below hsw))); (have HP2 := Lib.hid hP'); clear hP' hE')
      exact ⟨⟨k + 1, q / 2, by omega, by go_num, by go_num, HQ2.out, by omega, by rw [← HSU.out]; exact HP2.out, HB2.out⟩, by simp [intOf] <;> omega⟩
    · obtain rfl : k = m := by omega
      go_wp2_with (at_builtin; fail)
      go_ret
      exact ⟨_, rfl, HO.out, HBW.out⟩
set_option maxHeartbeats 2000000 in
set_option maxRecDepth 100000 in
theorem l8Most_any (w : World) : Calls Tryz.prog 70 #[] w fun e w' => e = .returned (.int .i64 80) ∧ w = w' := by
  go_enter Tryz.func70, Tryz.ntmps70
  go_wp2_with (at_builtin; fail)
  go_ret
  exact ⟨rfl, rfl⟩
set_option maxHeartbeats 4000000 in
set_option maxRecDepth 100000 in
theorem l8Right_any (vt vb : Value) (ts : List Int) (l : List St) (most : Int) (B : Nat) (w : World) (ht : IntS w B vt ts) (hl : StS w B vb l) (hB : B ≤ w.heap.size) (hsz : szL l ≤ 4194300) :
    Calls Tryz.prog 43 #[.agg #[vt, vb], .int .i64 most] w fun e w' => e = .returned (.bool (lenOk ts l most)) ∧ Below w.heap.size w w' := by
  have HPV := Lib.hid (sProgramValid_any vt vb ts l B (w.alloc (.cells #[vt, vb] 31)) (ht.low (bel_a w _) hB) (hl.low (bel_a w _) hB) (by simp; omega) (by omega))
  have HB0 := Lib.hid (bel_a w (.cells #[vt, vb] 31))
  go_enter Tryz.func43, Tryz.ntmps43
  go_wp2_with (at_builtin; fail)
  refine HPV.out.mono ?_
  rintro e w1 ⟨rfl, hb1⟩
  have HB1 := Lib.hid (HB0.out.trans (hb1.mono (by simp)))
  clear hb1
  cases hv : validP ts l
  · have HR : Hid (lenOk ts l most = false) := Lib.hid (by unfold lenOk; rw [hv]; rfl)
    clear hv
    go_wp2_with (at_builtin; fail)
    go_ret
    exact ⟨by rw [HR.out]; rfl, HB1.out⟩
  · by_cases h0 : 0 ≤ most
    · have q0 : decide (most ≥ 0) = true := decide_eq_true h0
      by_cases h1 : most ≤ 6
      · have q1 : decide (most ≤ 6) = true := decide_eq_true h1
        have HR : Hid (lenOk ts l most = true) := Lib.hid (by unfold lenOk withinP; rw [hv, decide_eq_true h0, decide_eq_true h1]; rfl)
        clear hv
        go_wp2_with (at_builtin; fail)
        go_ret
        exact ⟨by rw [HR.out]; rfl, HB1.out⟩
      · have q1 : decide (most ≤ 6) = false := decide_eq_false h1
        have HR : Hid (lenOk ts l most = false) := Lib.hid (by unfold lenOk withinP; rw [hv, decide_eq_true h0, decide_eq_false h1]; rfl)
        clear hv
        go_wp2_with (at_builtin; fail)
        go_ret
        exact ⟨by rw [HR.out]; rfl, HB1.out⟩
    · have q0 : decide (most ≥ 0) = false := decide_eq_false h0
      have HR : Hid (lenOk ts l most = false) := Lib.hid (by unfold lenOk withinP; rw [hv, decide_eq_false h0]; rfl)
      clear hv
      go_wp2_with (at_builtin; fail)
      go_ret
      exact ⟨by rw [HR.out]; rfl, HB1.out⟩

end Go.Proofs.YtfioaohadanjmaaGreat
