import Derived.Test.YtfioaohadanjmaaGreatU07
import Derived.Test.YtfioaohadanjmaaGreatU08
set_option linter.unusedVariables false

/- markIntS, markStmtS, markProgram, heldIntS. -/
namespace Go.Proofs.YtfioaohadanjmaaGreat
open Go.RowKit

/-- k, k + 1, .., n of them -/
def upto (k : Int) (n : Nat) : List Int := (List.range n).map fun i => k + (i : Nat)
theorem upto_len (k : Int) (n : Nat) : (upto k n).length = n := by simp [upto]
theorem upto_succ (k : Int) (n : Nat) : upto k (n + 1) = upto k n ++ [k + (n : Nat)] := by simp [upto, List.range_succ]
theorem upto_get {k : Int} {n j : Nat} (h : j < n) : (upto k n).getD j 0 = k + (j : Nat) := by simp [upto, List.getD, h]
theorem upto_set {k : Int} {l : List Int} {j : Nat} (h : j < l.length) : (upto k j ++ l.drop j).set j (k + (j : Nat)) = upto k (j + 1) ++ l.drop (j + 1) := by
  rw [List.set_append_right _ _ (by rw [upto_len]; exact Nat.le_refl _), upto_len, Nat.sub_self, List.drop_eq_getElem_cons h, List.set_cons_zero, upto_succ, List.append_assoc, List.cons_append, List.nil_append]
theorem Mk.mono {P Q : Nat → Prop} {w w' : World} (h : Mk P w w') (hq : ∀ b, P b → Q b) : Mk Q w w' :=
  ⟨h.os, h.tape, h.output, h.size, fun b hb => h.oth b fun hp => hb (hq b hp), h.row⟩
/-- w' is w but for new blocks and those that meet Q -/
structure Ch (Q : Nat → Prop) (w w' : World) : Prop where
  os : w'.os = w.os
  tape : w'.tape = w.tape
  output : w'.output = w.output
  size : w.heap.size ≤ w'.heap.size
  oth : ∀ b : Nat, b < w.heap.size → ¬ Q b → w'.heap[b]? = w.heap[b]?
theorem Ch.bel {Q : Nat → Prop} {w w' : World} (h : Ch Q w w') {lo : Nat} (hlo : lo ≤ w.heap.size) (hl : ∀ b, Q b → lo ≤ b) : Below lo w w' :=
  ⟨h.os, h.tape, h.output, h.size, fun b hb => h.oth b (by omega) fun hp => by have := hl b hp; omega⟩
theorem Ch.cell {Q : Nat → Prop} {w w' : World} (h : Ch Q w w') {b o : Nat} {u : Value} (hc : w.cell? ⟨b, o, none⟩ = some u) (hq : ¬ Q b) : w'.cell? ⟨b, o, none⟩ = some u := by
  have hb : b < w.heap.size := by
    rcases Nat.lt_or_ge b w.heap.size with h | h
    · exact h
    · simp [World.cell?, Array.getElem?_eq_none h] at hc
  exact (World.cell?_of_block (w := w) (a := ⟨b, o, none⟩) (h.oth b hb hq)).trans hc

theorem OInts.first {w : World} {base : Nat} {A : Option Addr} {n c : Nat} {l : List Int} (h : OInts w base (.slice A n c) l) (hl : 0 < l.length) :
    ∃ g, A = some ⟨g, 0, none⟩ ∧ base ≤ g ∧ g < w.heap.size ∧ n = l.length ∧ ∃ cs : List Value, RowB w g 3 cs := by
  rcases h.2 with ⟨e, h0⟩ | ⟨g, cap, cur, e, hb, hh, _⟩
  · omega
  · injection e with e1 e2 e3
    subst e1 e2
    exact ⟨g, rfl, hb, row_lt hh, rfl, cur.toList, by unfold RowB; rw [Array.toArray_toList]; exact hh⟩
theorem OInts.cellK {w : World} {base g n c : Nat} {l : List Int} (h : OInts w base (.slice (some ⟨g, 0, none⟩) n c) l) (hn : n = l.length) {k : Nat} (hk : k < l.length) : w.cell? ⟨g, k, none⟩ = some (.int .i64 (l.getD k 0)) ∧ w.frozen? ⟨g, k, none⟩ = false := by
  subst hn
  refine ⟨?_, World.ownsRow.frozenAt h k⟩
  rw [World.ownsRow.cellAt h k (by omega), List.getElem?_map, List.getElem?_eq_getElem hk, getD_lt hk]; rfl
theorem OInts.putK {w : World} {base g n c : Nat} {l : List Int} (h : OInts w base (.slice (some ⟨g, 0, none⟩) n c) l) (hn : n = l.length) (k : Nat) (x : Int) : OInts (w.setCell ⟨g, k, none⟩ (.int .i64 x)) base (.slice (some ⟨g, 0, none⟩) n c) (l.set k x) := by
  subst hn
  have := (World.ownsRow.stored h k (.int .i64 x)).1
  unfold OInts
  rw [List.length_set, List.map_set]
  exact this
set_option maxHeartbeats 400000 in
theorem markIntS_any (v : Value) (l : List Int) (k : Int) (base : Nat) (w : World) (h : OInts w base v l) (h0 : 0 ≤ k) (h1 : k + l.length ≤ 1099511627776) :
    Calls Tryz.prog 17 #[v, .int .i64 k] w fun e w' => e = .returned (.int .i64 (k + l.length)) ∧ OInts w' base v (upto k l.length) ∧ Mk (fun b => v.ownBlock = some b) w w' := by
  obtain ⟨A, c, rfl, hc⟩ := h.slice
  have H0 := Lib.hid h
  clear h
  go_enter Tryz.func17, Tryz.ntmps17
  go_wp2_with (at_builtin; fail)
  go_loopw [1, 5] (fun kv i wr => ∃ (j : Nat), j ≤ l.length ∧ i = .int .i64 j ∧ kv = .int .i64 (k + j) ∧ OInts wr base (.slice A l.length c) (upto k j ++ l.drop j) ∧ Mk (fun b => (Value.slice A l.length c).ownBlock = some b) w wr) (fun _ i _ => l.length - (intOf i).toNat)
  case atStart => exact ⟨0, Nat.zero_le _, rfl, by simp, by simpa [upto] using H0.out, Mk.refl _ _⟩
  case round =>
    obtain ⟨j, hj, rfl, rfl, ho, hm⟩ := hrel
    have hlen : (upto k j ++ l.drop j).length = l.length := by rw [List.length_append, upto_len, List.length_drop]; omega
    have HO := Lib.hid ho
    have HM := Lib.hid hm
    have HLEN := Lib.hid hlen
    by_cases hlt : j < l.length
    · obtain ⟨g, rfl, hg, hgs, -, cs, hrow⟩ := ho.first (by omega)
      obtain ⟨c0, f0⟩ := ho.cellK hlen.symm (k := j) (by omega)
      have HP := Lib.hid (ho.putK hlen.symm j (k + (j : Nat)))
      have HS := Lib.hid (upto_set (k := k) hlt)
      have HMK := Lib.hid (hm.trans (Mk.set_other hrow (by decide) j (.int .i64 (k + (j : Nat))) rfl))
      rw [upto_set hlt] at HP
      generalize (upto k j ++ l.drop j).getD j 0 = x at *
      clear ho hm hrow hlen
      go_wp2_with (at_builtin; fail)
      exact ⟨⟨j + 1, by omega, by go_num, by go_num, HP.out, HMK.out⟩, by simp [intOf] <;> omega⟩
    · have hjl : j = l.length := by omega
      have HJ := Lib.hid hjl
      clear hjl ho hm hlen
      go_wp2_with (at_builtin; fail)
      go_ret
      refine ⟨by rw [HJ.out]; rfl, ?_, HM.out⟩
      have := HO.out
      rw [HJ.out] at this
      simpa using this
set_option maxHeartbeats 400000 in
theorem heldIntS_any (v : Value) (n : Nat) (k : Int) (B : Nat) (w : World) (h : IntS w B v (upto k n)) (h0 : 0 ≤ k) (h1 : k + n ≤ 1099511627776) :
    Calls Tryz.prog 18 #[v, .int .i64 k] w fun e w' => e = .returned (.int .i64 (k + n)) ∧ w = w' := by
  obtain ⟨A, c, rfl, hc, hm, hr⟩ := h
  rw [upto_len] at hc hm
  have hl := upto_len k n
  go_enter Tryz.func18, Tryz.ntmps18
  rw [hl]
  go_wp2_with (at_builtin; fail)
  go_loopw [1, 5] (fun kv i wr => ∃ (j : Nat), j ≤ n ∧ i = .int .i64 j ∧ kv = .int .i64 (k + j) ∧ w = wr) (fun _ i _ => n - (intOf i).toNat)
  case atStart => exact ⟨0, Nat.zero_le _, rfl, by simp, rfl⟩
  case round =>
    obtain ⟨j, hj, rfl, rfl, rfl⟩ := hrel
    by_cases hlt : j < n
    · obtain ⟨b, off, rfl, hb, hcell⟩ := hr.int_at (k := j) (by omega)
      have hck := hcell j (by omega)
      rw [upto_get hlt] at hck
      have hx : ((k + (j : Nat) : Int) != k + (j : Nat)) = false := by simp
      clear hcell
      go_wp2_with (at_builtin; fail)
      exact ⟨⟨j + 1, by omega, by go_num, by go_num, by first | trivial | rfl⟩, by simp [intOf] <;> omega⟩
    · obtain rfl : j = n := by omega
      go_wp2_with (at_builtin; fail)
      go_ret
      exact ⟨rfl, rfl⟩
def MkOk (m : Nat) : Prop := ∀ (v : Value) (l : List St) (P : Nat → Prop) (t : Bool) (k : Int) (w : World), szL l ≤ m → TrS w P t v l → 0 ≤ k → k + 4 * szL l ≤ 1099511627776 →
  Calls Tryz.prog 42 #[v, .int .i64 k] w fun e w' => e = .returned (.int .i64 (k + 4 * szL l)) ∧ Mk P w w'
set_option maxHeartbeats 800000 in
set_option maxRecDepth 100000 in
theorem mkS_of (m : Nat) (ih : ∀ j, j < m → MkOk j) : MkOk m := by
  intro v l P t k w hm hl h0 h1
  have hll := len_le_szL l
  obtain ⟨b, c, rfl, hPb, hbs, hc⟩ := hl.slice
  have IH := Lib.hid ih
  have HL := Lib.hid hl
  clear ih hl
  go_enter Tryz.func42, Tryz.ntmps42
  go_wp2_with (at_builtin; fail)
  go_loopw [1, 5] (fun kv i wr => ∃ (j : Nat) (K : Int), j ≤ l.length ∧ i = .int .i64 j ∧ kv = .int .i64 K ∧ K = k + 4 * szL (l.take j) ∧ Mk P w wr) (fun _ i _ => l.length - (intOf i).toNat)
  case atStart => exact ⟨0, _, Nat.zero_le _, rfl, rfl, by simp [szL], Mk.refl _ _⟩
  case round =>
    obtain ⟨j, K, hj, rfl, rfl, hK, hmk⟩ := hrel
    have HMK := Lib.hid hmk
    have HK := Lib.hid hK
    have hts := szL_take_le l j
    have hK0 : 0 ≤ K := by omega
    by_cases hlt : j < l.length
    · have hts2 := szL_take_le l (j + 1)
      rw [szL_take_succ l j hlt] at hts2
      have HTS := Lib.hid (szL_take_succ l j hlt)
      have hsz := szL_mem hlt
      rw [l[j].sz_eq] at hsz
      have HG := Lib.hid (fun (wz : World) (hz : Mk P w wz) => (HL.out.marked hz).get hlt)
      obtain ⟨cs, tv, ev, -, hrow, hcs, -, -, -, -⟩ := HG.out wr hmk
      generalize l[j]'hlt = s at *
      have hci : ∀ d, d < 4 → ∃ u, wr.cell? ⟨b, j * 6 + d, none⟩ = some u := fun d hd => by
        rw [hrow.cell]
        exact ⟨_, List.getElem?_eq_getElem (by omega)⟩
      obtain ⟨u0, hu0⟩ := hci 0 (by omega)
      obtain ⟨u1, hu1⟩ := hci 1 (by omega)
      obtain ⟨u2, hu2⟩ := hci 2 (by omega)
      obtain ⟨u3, hu3⟩ := hci 3 (by omega)
      rw [Nat.add_zero] at hu0
      have g0 := hrow.frozen (j * 6)
      have g1 := hrow.frozen (j * 6 + 1)
      have g2 := hrow.frozen (j * 6 + 2)
      have g3 := hrow.frozen (j * 6 + 3)
      have hKb : K + 4 ≤ 1099511627776 := by omega
      clear hci hrow hmk hK
      go_upto_region 12 with (at_builtin; fail)
      have HM4 := Lib.hid ((((HMK.out.trans (Mk.set_ (j * 6) (.int .i64 K) hPb (by omega))).trans (Mk.set_ (j * 6 + 1) (.int .i64 (K + 1)) hPb (by omega))).trans (Mk.set_ (j * 6 + 2) (.int .i64 (K + 1 + 1)) hPb (by omega))).trans (Mk.set_ (j * 6 + 3) (.int .i64 (K + 1 + 1 + 1)) hPb (by omega)))
      clear hu0 hu1 hu2 hu3 g0 g1 g2 g3 HMK
      generalize (((wr.setCell ⟨b, j * 6, none⟩ (.int .i64 K)).setCell ⟨b, j * 6 + 1, none⟩ (.int .i64 (K + 1))).setCell ⟨b, j * 6 + 2, none⟩ (.int .i64 (K + 1 + 1))).setCell ⟨b, j * 6 + 3, none⟩ (.int .i64 (K + 1 + 1 + 1)) = w4 at *
      obtain ⟨cs, tv, ev, -, hrow, hcs, ht4, -, ht, -⟩ := HG.out w4 HM4.out
      obtain ⟨b1, n1, rfl, -⟩ := ht.slice
      have c4 : w4.cell? ⟨b, j * 6 + 4, none⟩ = some (.slice (some ⟨b1, 0, none⟩) s.th.length n1) := (hrow.cell _).trans ht4
      have HT := Lib.hid ht
      clear hrow hcs ht4 ht
      obtain ⟨K2, hK2⟩ : ∃ K2, K2 = K + 1 + 1 + 1 + 1 := ⟨_, rfl⟩
      rw [← hK2]
      have hK20 : 0 ≤ K2 := by omega
      have hK21 : K2 + 4 * szL s.th + 4 * szL s.el ≤ 1099511627776 := by have := HTS.out; have := HK.out; omega
      have HK2 := Lib.hid hK2
      clear hK2
      go_wp2_with (at_builtin; fail)
      refine (IH.out (szL s.th) (by omega) _ s.th P _ K2 w4 (Nat.le_refl _) HT.out hK20 (by omega)).mono ?_
      rintro e w5 ⟨rfl, hm5⟩
      have HM5 := Lib.hid (HM4.out.trans hm5)
      clear c4 hm5
      obtain ⟨cs, tv, ev, -, hrow, hcs, -, ht5, -, he⟩ := HG.out w5 HM5.out
      obtain ⟨b2, n2, rfl, -⟩ := he.slice
      have c5 : w5.cell? ⟨b, j * 6 + 5, none⟩ = some (.slice (some ⟨b2, 0, none⟩) s.el.length n2) := (hrow.cell _).trans ht5
      have HE := Lib.hid he
      clear hrow hcs ht5 he
      obtain ⟨K3, hK3⟩ : ∃ K3, K3 = K2 + 4 * szL s.th := ⟨_, rfl⟩
      rw [← hK3]
      have hK30 : 0 ≤ K3 := by omega
      have hK31 : K3 + 4 * szL s.el ≤ 1099511627776 := by omega
      have HK3 := Lib.hid hK3
      clear hK3
      go_wp2_with (at_builtin; fail)
      refine (IH.out (szL s.el) (by omega) _ s.el P _ K3 w5 (Nat.le_refl _) HE.out hK30 hK31).mono ?_
      rintro e w6 ⟨rfl, hm6⟩
      have HM6 := Lib.hid (HM5.out.trans hm6)
      clear c5 hm6
      obtain ⟨K4, hK4⟩ : ∃ K4, K4 = K3 + 4 * szL s.el := ⟨_, rfl⟩
      rw [← hK4]
      have HK4 := Lib.hid hK4
      clear hK4
      go_wp2_with (at_builtin; fail)
      exact ⟨⟨j + 1, K4, by omega, by go_num, rfl, by have := HTS.out; have := HK.out; have := HK2.out; have := HK3.out; have := HK4.out; omega, HM6.out⟩, by simp [intOf] <;> omega⟩
    · have hjl : j = l.length := by omega
      have HJ := Lib.hid hjl
      clear hjl hmk hK
      go_wp2_with (at_builtin; fail)
      go_ret
      refine ⟨?_, HMK.out⟩
      have := HK.out
      rw [take_all HJ.out] at this
      rw [this]; rfl
theorem mkS_any (m : Nat) : MkOk m := by
  induction m using Nat.strongRecOn with
  | _ m ih => exact mkS_of m ih
set_option maxHeartbeats 400000 in
theorem markProgram_any (vt vb : Value) (ts : List Int) (l : List St) (base : Nat) (P : Nat → Prop) (t : Bool) (k : Int) (w : World) (ht : OInts w base vt ts) (hl : TrS w P t vb l) (h0 : 0 ≤ k) (h1 : k + ts.length + 4 * szL l ≤ 1099511627776) :
    Calls Tryz.prog 16 #[.agg #[vt, vb], .int .i64 k] w fun e w' => e = .returned (.int .i64 (k + ts.length + 4 * szL l)) ∧ Ch (fun b => vt.ownBlock = some b ∨ P b) w w' := by
  obtain ⟨A1, c1, rfl, -⟩ := ht.slice
  obtain ⟨b2, c2, rfl, hPb, hbs, hc2⟩ := hl.slice
  have HX := Lib.hid (RowB.new w [.slice A1 ts.length c1, .slice (some ⟨b2, 0, none⟩) l.length c2] 31)
  have HB1 := Lib.hid (bel_a w (.cells #[.slice A1 ts.length c1, .slice (some ⟨b2, 0, none⟩) l.length c2] 31))
  have hto : ∀ g, (Value.slice A1 ts.length c1).ownBlock = some g → g < w.heap.size := fun g e => (ht.own_lt e).2
  have HT := Lib.hid (ht.bel HB1.out)
  have HL := Lib.hid (hl.frame (P' := fun b => P b ∧ b < w.heap.size) (w' := w.alloc (.cells #[.slice A1 ts.length c1, .slice (some ⟨b2, 0, none⟩) l.length c2] 31)) fun b hp hb => ⟨⟨hp, hb⟩, HB1.out.block b hb⟩)
  clear ht hl
  go_enter Tryz.func16, Tryz.ntmps16
  go_upto_region 1 with (at_builtin; fail)
  generalize w.alloc (.cells #[.slice A1 ts.length c1, .slice (some ⟨b2, 0, none⟩) l.length c2] 31) = W at *
  have x0 := HX.out.cell 0
  simp only [List.getElem?_cons_zero] at x0
  go_wp2_with (at_builtin; fail)
  refine (markIntS_any _ ts k base W HT.out h0 (by omega)).mono ?_
  rintro e w2 ⟨rfl, -, hm2⟩
  have HL2 := Lib.hid (HL.out.marked hm2)
  have HX2 : Hid (RowB w2 w.heap.size 31 _) := Lib.hid ((hm2.oth w.heap.size fun e => by have := hto _ e; omega).trans HX.out)
  have HM2 := Lib.hid hm2
  have x1 := HX2.out.cell 1
  simp only [List.getElem?_cons_zero, List.getElem?_cons_succ] at x1
  obtain ⟨K, hK⟩ : ∃ K, K = k + ts.length := ⟨_, rfl⟩
  rw [← hK]
  have HK := Lib.hid hK
  have hK0 : 0 ≤ K := by omega
  have hK1 : K + 4 * szL l ≤ 1099511627776 := by omega
  clear hK hm2 x0
  go_wp2_with (at_builtin; fail)
  refine (mkS_any (szL l) _ l _ _ K w2 (Nat.le_refl _) HL2.out hK0 hK1).mono ?_
  rintro e w3 ⟨rfl, hm3⟩
  go_wp2_with (at_builtin; fail)
  go_ret
  refine ⟨by rw [HK.out]; rfl, (hm3.os.trans HM2.out.os).trans HB1.out.os, ?_, ?_, ?_, fun b hb hq => ?_⟩
  · exact (hm3.tape.trans HM2.out.tape).trans HB1.out.tape
  · exact (hm3.output.trans HM2.out.output).trans HB1.out.output
  · have := hm3.size
    have := HM2.out.size
    have := HB1.out.size
    omega
  · exact ((hm3.oth b fun h => hq (.inr h.1)).trans (HM2.out.oth b fun h => hq (.inl h))).trans (HB1.out.block b hb)

end Go.Proofs.YtfioaohadanjmaaGreat
