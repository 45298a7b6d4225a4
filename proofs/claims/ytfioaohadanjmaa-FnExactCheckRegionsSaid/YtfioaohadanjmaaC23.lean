import Derived.Test.YtfioaohadanjmaaC16
import Derived.Test.YtfioaohadanjmaaC17
import Derived.Test.YtfioaohadanjmaaC22
set_option linter.unusedVariables false

/- eqIssue, eqIssueS, markIssueS, heldIssueS. -/
namespace Go.Proofs.Ytfioaohadanjmaa
open Go.RowKit

theorem ne_false_i (z : Int) : (z != z) = false := by simp
/-- marks: k, k + 1, .., three for each issue -/
def uptoI (k : Int) (n : Nat) : List Iss := (List.range n).map fun i => ⟨k + 3 * (i : Nat), k + 3 * (i : Nat) + 1, k + 3 * (i : Nat) + 1 + 1⟩
theorem uptoI_len (k : Int) (n : Nat) : (uptoI k n).length = n := by simp [uptoI]
theorem uptoI_succ (k : Int) (n : Nat) : uptoI k (n + 1) = uptoI k n ++ [⟨k + 3 * (n : Nat), k + 3 * (n : Nat) + 1, k + 3 * (n : Nat) + 1 + 1⟩] := by simp [uptoI, List.range_succ]
theorem uptoI_get {k : Int} {n j : Nat} (h : j < n) : (uptoI k n)[j]'(by rw [uptoI_len]; exact h) = ⟨k + 3 * (j : Nat), k + 3 * (j : Nat) + 1, k + 3 * (j : Nat) + 1 + 1⟩ := by simp [uptoI]
theorem isCells_set3 (a r : List Iss) (x y : Iss) : (((isCells (a ++ x :: r)).set (a.length * 3) (.int .i64 y.pt)).set (a.length * 3 + 1) (.int .i64 y.kd)).set (a.length * 3 + 2) (.int .i64 y.wt) = isCells (a ++ y :: r) := by
  have h := isCells_len a
  rw [isCells_append, isCells_append, List.set_append_right _ _ (by omega), List.set_append_right _ _ (by omega), List.set_append_right _ _ (by omega), h]
  simp [isCells]
theorem OIs.put3 {w : World} {base g c : Nat} {n : Nat} {a r : List Iss} {x : Iss} (h : OIs w base (.slice (some ⟨g, 0, none⟩) n c) (a ++ x :: r)) (hn : n = (a ++ x :: r).length) (y : Iss) :
    OIs (((w.setCell ⟨g, a.length * 3, none⟩ (.int .i64 y.pt)).setCell ⟨g, a.length * 3 + 1, none⟩ (.int .i64 y.kd)).setCell ⟨g, a.length * 3 + 2, none⟩ (.int .i64 y.wt)) base (.slice (some ⟨g, 0, none⟩) n c) (a ++ y :: r) := by
  subst hn
  have h1 := (World.ownsRow.stored h (a.length * 3) (.int .i64 y.pt)).1
  have h2 := (World.ownsRow.stored h1 (a.length * 3 + 1) (.int .i64 y.kd)).1
  have h3 := (World.ownsRow.stored h2 (a.length * 3 + 2) (.int .i64 y.wt)).1
  rw [isCells_set3] at h3
  unfold OIs
  simpa using h3
theorem OIs.first {w : World} {base : Nat} {A : Option Addr} {n c : Nat} {l : List Iss} (h : OIs w base (.slice A n c) l) (hl : 0 < l.length) :
    ∃ g, A = some ⟨g, 0, none⟩ ∧ base ≤ g ∧ g < w.heap.size ∧ n = l.length ∧ ∃ cs : List Value, RowB w g 35 cs := by
  rcases h.2 with ⟨e, h0⟩ | ⟨g, cap, cur, e, hb, hh, _⟩
  · omega
  · injection e with e1 e2 e3
    subst e1 e2
    exact ⟨g, rfl, hb, row_lt hh, rfl, cur.toList, by unfold RowB; rw [Array.toArray_toList]; exact hh⟩
theorem OIs.own_lt {w : World} {base : Nat} {v : Value} {l : List Iss} (h : OIs w base v l) {b : Nat} (hb : v.ownBlock = some b) : base ≤ b ∧ b < w.heap.size := by
  rcases h.2 with ⟨rfl, _⟩ | ⟨g, cap, cur, rfl, hbg, hh, _⟩
  · cases hb
  · injection hb with hb
    have e : g = b := hb
    subst e
    exact ⟨hbg, row_lt hh⟩
theorem OIs.move {w w' : World} {base base' : Nat} {v : Value} {l : List Iss} (h : OIs w base v l) (hb : base' ≤ base) (hk : ∀ b, base ≤ b → b < w.heap.size → w'.heap[b]? = w.heap[b]?) : OIs w' base' v l := by
  refine ⟨h.1, ?_⟩
  rcases h.2 with h' | ⟨g, cap, cur, rfl, hbg, hh, rest⟩
  · exact .inl h'
  · exact .inr ⟨g, cap, cur, rfl, by omega, (hk g hbg (row_lt hh)).trans hh, rest⟩
theorem OIs.ch {w w' : World} {base lo hi : Nat} {Q : Nat → Prop} {v : Value} {l : List Iss} (h : OIs w base v l) (hc : Ch Q w w') (hq : ∀ b, Q b → lo ≤ b ∧ b < hi) (hb : hi ≤ base) : OIs w' base v l :=
  h.move (Nat.le_refl _) fun b h1 h2 => hc.oth b h2 fun hp => by have := (hq b hp).2; omega
theorem OIs.ownMk {w w' : World} {base lo : Nat} {v : Value} {l : List Iss} (h : OIs w base v l) (hm : Mk (fun b => v.ownBlock = some b) w w') (hlo : lo ≤ base) : Below lo w w' :=
  hm.bel fun b e => Nat.le_trans hlo (h.own_lt e).1

set_option maxHeartbeats 2000000 in
set_option maxRecDepth 100000 in
theorem eqIssue_any (a b c : Int) (w : World) : Calls Try.prog 17 #[.agg #[.int .i64 a, .int .i64 b, .int .i64 c], .agg #[.int .i64 a, .int .i64 b, .int .i64 c]] w (TruRet w) := by
  have HB := Lib.hid ((bel_a w (.cells #[.int .i64 a, .int .i64 b, .int .i64 c] 35)).alloc (by simp) (.cells #[.int .i64 a, .int .i64 b, .int .i64 c] 35))
  have h1 := ne_false_i a
  have h2 := ne_false_i b
  have h3 := ne_false_i c
  go_enter Try.func17, Try.ntmps17
  go_wp2_with (at_builtin; fail)
  go_ret
  exact ⟨rfl, HB.out⟩
set_option maxHeartbeats 2000000 in
set_option maxRecDepth 100000 in
theorem eqIssueS_any (va vb : Value) (l : List Iss) (Ba Bb : Nat) (w : World) (h1 : IsS w Ba va l) (h2 : IsS w Bb vb l) (hBa : Ba ≤ w.heap.size) (hBb : Bb ≤ w.heap.size) :
    Calls Try.prog 20 #[va, vb] w (TruRet w) := by
  have H1 := Lib.hid h1
  have H2 := Lib.hid h2
  obtain ⟨A1, c1, rfl, hc1⟩ := h1.slice
  obtain ⟨A2, c2, rfl, hc2⟩ := h2.slice
  have hln : l.length ≤ 100000 := by
    obtain ⟨_, _, _, _, h, _⟩ := h1
    exact h
  have hle : ((l.length : Int) != (l.length : Int)) = false := by simp
  clear h1 h2
  go_enter Try.func20, Try.ntmps20
  go_wp2_with (at_builtin; fail)
  clear hle
  go_loopw [5] (fun i wr => ∃ k : Nat, k ≤ l.length ∧ i = .int .i64 k ∧ Below w.heap.size w wr) (fun i _ => l.length - (intOf i).toNat)
  case atStart => exact ⟨0, Nat.zero_le _, rfl, Below.refl _ _⟩
  case round =>
    obtain ⟨k, hk, rfl, hbw⟩ := hrel
    have HBW := Lib.hid hbw
    have hsw := hbw.size
    clear hbw
    by_cases hlt : k < l.length
    · obtain ⟨b1, o1, rfl, hb1, p0, p1, p2⟩ := (H1.out.low HBW.out hBa).get hlt
      obtain ⟨b2, o2, rfl, hb2, q0, q1, q2⟩ := (H2.out.low HBW.out hBb).get hlt
      generalize l[k]'hlt = s at *
      have HC := Lib.hid (fun (wz : World) => eqIssue_any s.pt s.kd s.wt wz)
      go_wp2_with (at_builtin; fail)
      go_region_law (first
        | (go_simp; go_at_call 17; refine (HC.out _).mono ?_; rintro e w3 ⟨rfl, hb3⟩; (have HB3 := Lib.hid (HBW.out.trans ((show Below wr.heap.size wr w3 from (Below.refl wr.heap.size wr).drew.trans hb3).mono hsw))); clear hb3)
        | fail)
      all_goals
        go_wp2_with (at_builtin; fail)
        exact ⟨⟨k + 1, by omega, by go_num, HB3.out⟩, by simp [intOf] <;> omega⟩
    · go_wp2_with (at_builtin; fail)
      go_ret
      exact ⟨rfl, HBW.out⟩
set_option maxHeartbeats 2000000 in
set_option maxRecDepth 100000 in
theorem markIssueS_any (v : Value) (l : List Iss) (k : Int) (base : Nat) (w : World) (h : OIs w base v l) (h0 : 0 ≤ k) (h1 : k + 3 * l.length ≤ 1099511627776) :
    Calls Try.prog 22 #[v, .int .i64 k] w fun e w' => e = .returned (.int .i64 (k + 3 * l.length)) ∧ OIs w' base v (uptoI k l.length) ∧ Mk (fun b => v.ownBlock = some b) w w' := by
  obtain ⟨A, c, rfl, hc⟩ := h.slice
  have H0 := Lib.hid h
  clear h
  go_enter Try.func22, Try.ntmps22
  go_wp2_with (at_builtin; fail)
  go_loopw [1, 5] (fun kv i wr => ∃ (j : Nat) (K : Int), j ≤ l.length ∧ i = .int .i64 j ∧ kv = .int .i64 K ∧ K = k + 3 * j ∧ OIs wr base (.slice A l.length c) (uptoI k j ++ l.drop j) ∧ Mk (fun b => (Value.slice A l.length c).ownBlock = some b) w wr) (fun _ i _ => l.length - (intOf i).toNat)
  case atStart => exact ⟨0, k, Nat.zero_le _, rfl, rfl, by simp, by simpa [uptoI] using H0.out, Mk.refl _ _⟩
  case round =>
    obtain ⟨j, K, hj, rfl, rfl, hK, ho, hm⟩ := hrel
    have HK := Lib.hid hK
    have hlen : (uptoI k j ++ l.drop j).length = l.length := by rw [List.length_append, uptoI_len, List.length_drop]; omega
    have hK0 : 0 ≤ K := by omega
    by_cases hlt : j < l.length
    · have hK1 : K + 3 ≤ 1099511627776 := by omega
      obtain ⟨g, rfl, hg, hgs, -, cs, hrow⟩ := ho.first (by omega)
      rw [List.drop_eq_getElem_cons hlt] at ho hlen
      have HO := Lib.hid (ho.put3 hlen.symm ⟨K, K + 1, K + 1 + 1⟩)
      rw [uptoI_len] at HO
      have HE : Hid (uptoI k j ++ (⟨K, K + 1, K + 1 + 1⟩ : Iss) :: l.drop (j + 1) = uptoI k (j + 1) ++ l.drop (j + 1)) := Lib.hid (by rw [uptoI_succ, List.append_assoc, hK]; rfl)
      rw [HE.out] at HO
      have ho2 := ho
      rw [← hlen] at ho2
      have hL : ∀ d, d < 3 → ∃ u, wr.cell? ⟨g, j * 3 + d, none⟩ = some u ∧ wr.frozen? ⟨g, j * 3 + d, none⟩ = false := fun d hd => by
        have h1 := World.ownsRow.cellAt ho2 (j * 3 + d) (by rw [hlen]; omega)
        have h2 : j * 3 + d < (isCells (uptoI k j ++ l[j] :: l.drop (j + 1))).length := by rw [isCells_len, hlen]; omega
        exact ⟨_, h1.trans (List.getElem?_eq_getElem h2), World.ownsRow.frozenAt ho2 _⟩
      obtain ⟨u0, d0, f0⟩ := hL 0 (by omega)
      obtain ⟨u1, d1, f1⟩ := hL 1 (by omega)
      obtain ⟨u2, d2, f2⟩ := hL 2 (by omega)
      rw [Nat.add_zero] at d0 f0
      have HM := Lib.hid (((hm.trans (Mk.set_other hrow (by decide) (j * 3) (.int .i64 K) rfl)).trans (Mk.set_other (hrow.set_ (j * 3) (.int .i64 K)) (by decide) (j * 3 + 1) (.int .i64 (K + 1)) rfl)).trans (Mk.set_other ((hrow.set_ (j * 3) (.int .i64 K)).set_ (j * 3 + 1) (.int .i64 (K + 1))) (by decide) (j * 3 + 2) (.int .i64 (K + 1 + 1)) rfl))
      clear hL ho ho2 hm hrow hlen hK HE
      go_wp2_with (at_builtin; fail)
      exact ⟨⟨j + 1, _, by omega, by go_num, rfl, by have := HK.out; omega, HO.out, HM.out⟩, by simp [intOf] <;> omega⟩
    · have hjl : j = l.length := by omega
      have HJ := Lib.hid hjl
      have HO := Lib.hid ho
      have HM := Lib.hid hm
      clear hjl ho hm hlen hK
      go_wp2_with (at_builtin; fail)
      go_ret
      refine ⟨by rw [HK.out, HJ.out]; rfl, ?_, HM.out⟩
      have := HO.out
      rw [HJ.out] at this
      simpa using this
set_option maxHeartbeats 2000000 in
set_option maxRecDepth 100000 in
theorem heldIssueS_any (v : Value) (n : Nat) (k : Int) (B : Nat) (w : World) (h : IsS w B v (uptoI k n)) (h0 : 0 ≤ k) (h1 : k + 3 * n ≤ 1099511627776) :
    Calls Try.prog 23 #[v, .int .i64 k] w fun e w' => e = .returned (.int .i64 (k + 3 * n)) ∧ w = w' := by
  have HS := Lib.hid h
  obtain ⟨A, c, rfl, hc⟩ := h.slice
  have hl := uptoI_len k n
  rw [hl] at hc
  clear h
  go_enter Try.func23, Try.ntmps23
  rw [hl]
  go_wp2_with (at_builtin; fail)
  go_loopw [1, 5] (fun kv i wr => ∃ (j : Nat) (K : Int), j ≤ n ∧ i = .int .i64 j ∧ kv = .int .i64 K ∧ K = k + 3 * j ∧ w = wr) (fun _ i _ => n - (intOf i).toNat)
  case atStart => exact ⟨0, k, Nat.zero_le _, rfl, rfl, by simp, rfl⟩
  case round =>
    obtain ⟨j, K, hj, rfl, rfl, hK, rfl⟩ := hrel
    have HK := Lib.hid hK
    have hK0 : 0 ≤ K := by omega
    by_cases hlt : j < n
    · obtain ⟨b, off, rfl, hb, d0, d1, d2⟩ := HS.out.get (i := j) (by omega)
      rw [uptoI_get hlt] at d0 d1 d2
      simp only [← hK] at d0 d1 d2
      have hK1 : K + 3 ≤ 1099511627776 := by omega
      have x0 := ne_false_i K
      have x1 := ne_false_i (K + 1)
      have x2 := ne_false_i (K + 1 + 1)
      clear hK
      go_wp2_with (at_builtin; fail)
      exact ⟨⟨j + 1, _, by omega, by go_num, rfl, by have := HK.out; omega, by first | trivial | rfl⟩, by simp [intOf] <;> omega⟩
    · obtain rfl : j = n := by omega
      clear hK
      go_wp2_with (at_builtin; fail)
      go_ret
      exact ⟨by rw [HK.out]; rfl, rfl⟩

end Go.Proofs.Ytfioaohadanjmaa
