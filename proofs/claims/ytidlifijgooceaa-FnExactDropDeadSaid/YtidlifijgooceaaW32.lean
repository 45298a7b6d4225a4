import Derived.Test.YtidlifijgooceaaW31
import Derived.Test.YtidlifijgooceaaW25
set_option linter.unusedVariables false

/- Marks in a tree of different rows stay: markStmtS, markProgram, heldStmtS, heldProgram. -/
namespace Go.Proofs.Ytidlifijgooceaa
open Go.RowKit

mutual
/-- a statement marked from k on -/
def mkS : Int → St → St
  | k, .mk _ _ _ _ th el => .mk k (k + 1) (k + 1 + 1) (k + 1 + 1 + 1) (mkL (k + 1 + 1 + 1 + 1) th) (mkL (k + 1 + 1 + 1 + 1 + 4 * szL th) el)
def mkL : Int → List St → List St
  | _, [] => []
  | k, s :: r => mkS k s :: mkL (k + 4 * s.sz) r
end
theorem mkL_append (k : Int) (a b : List St) : mkL k (a ++ b) = mkL k a ++ mkL (k + 4 * szL a) b := by
  induction a generalizing k with
  | nil => simp [mkL, szL]
  | cons s r ih =>
    have e : k + 4 * (s.sz : Int) + 4 * (szL r : Int) = k + 4 * ((s.sz + szL r : Nat) : Int) := by push_cast; omega
    simp only [List.cons_append, mkL, ih, szL, e]
theorem mkL_len (k : Int) (l : List St) : (mkL k l).length = l.length := by
  induction l generalizing k with
  | nil => rfl
  | cons s r ih => simp [mkL, ih]
theorem mkS_eq (k : Int) (s : St) : mkS k s = .mk k (k + 1) (k + 1 + 1) (k + 1 + 1 + 1) (mkL (k + 1 + 1 + 1 + 1) s.th) (mkL (k + 1 + 1 + 1 + 1 + 4 * szL s.th) s.el) := by cases s; rfl
/-- the list with its first j statements marked -/
def mkU (k : Int) (l : List St) (j : Nat) : List St := mkL k (l.take j) ++ l.drop j
theorem mkU_len {k : Int} {l : List St} {j : Nat} (hj : j ≤ l.length) : (mkU k l j).length = l.length := by
  unfold mkU; rw [List.length_append, mkL_len, List.length_take, List.length_drop]; omega
theorem mkU_get {k : Int} {l : List St} {j : Nat} (hj : j < l.length) : (mkU k l j)[j]'(by rw [mkU_len (by omega)]; exact hj) = l[j] := by
  unfold mkU
  have e : (mkL k (l.take j)).length = j := by rw [mkL_len, List.length_take]; omega
  rw [List.getElem_append_right (by omega)]
  simp [e]
theorem mkU_set {k : Int} {l : List St} {j : Nat} (hj : j < l.length) : (mkU k l j).set j (mkS (k + 4 * szL (l.take j)) l[j]) = mkU k l (j + 1) := by
  unfold mkU
  have e : (mkL k (l.take j)).length = j := by rw [mkL_len, List.length_take]; omega
  rw [List.set_append_right _ _ (by omega), e, Nat.sub_self, List.drop_eq_getElem_cons hj, List.set_cons_zero, take_succ_get l j hj, mkL_append]
  simp [mkL]
theorem mkU_zero (k : Int) (l : List St) : mkU k l 0 = l := by simp [mkU, mkL]
theorem mkU_all (k : Int) (l : List St) : mkU k l l.length = mkL k l := by simp [mkU]
/-- four numbers stored in a statement of a row -/
theorem LvF.set4 {w : World} {g cap : Nat} {cs : List Value} {l : List St} {tv ev : Nat → Value} (h : LvF w g cap cs l tv ev) {j : Nat} (hj : j < l.length) (a b c d : Int) (th el : List St) :
    ∃ cs', LvF ((((w.setCell ⟨g, j * 6, none⟩ (.int .i64 a)).setCell ⟨g, j * 6 + 1, none⟩ (.int .i64 b)).setCell ⟨g, j * 6 + 2, none⟩ (.int .i64 c)).setCell ⟨g, j * 6 + 3, none⟩ (.int .i64 d)) g cap cs' (l.set j (.mk a b c d th el)) tv ev := by
  have hlen := h.len
  have hle := h.le
  obtain ⟨cs', hr, hl, hc⟩ := RowB.putL [.int .i64 a, .int .i64 b, .int .i64 c, .int .i64 d] (j * 6) w cs h.row (by simp; omega)
  refine ⟨cs', hr, by rw [hl]; exact hlen, by simpa using hle, h.cm, fun i hi => ?_, fun i hi => ?_⟩
  · have hi2 : i < l.length := by simpa using hi
    by_cases hij : i = j
    · subst hij
      rw [hc, hc, hc, hc, if_pos ⟨by omega, by simp⟩, if_pos ⟨by omega, by simp⟩, if_pos ⟨by omega, by simp⟩, if_pos ⟨by omega, by simp⟩]
      simp [St.op, St.x, St.y, St.n]
    · have e : (l.set j (.mk a b c d th el))[i] = l[i] := List.getElem_set_ne (Ne.symm hij) _
      rw [e, hc, hc, hc, hc, if_neg (by simp; omega), if_neg (by simp; omega), if_neg (by simp; omega), if_neg (by simp; omega)]
      exact h.ci i hi2
  · have hi2 : i < l.length := by simpa using hi
    rw [hc, hc, if_neg (by simp; omega), if_neg (by simp; omega)]
    exact h.cv i hi2
theorem DT.put {w w2 : World} {P : Nat → Prop} {g cap : Nat} {cs : List Value} {l : List St} {tv ev : Nat → Value} {Pt Pe : Nat → Nat → Prop} {j : Nat} {s : St} (hg : P g) (ht : ∀ i (h : i < l.length), DT w (Pt i) (tv i) l[i].th) (he : ∀ i (h : i < l.length), DT w (Pe i) (ev i) l[i].el)
    (st : ∀ i b, i < l.length → (Pt i b ∨ Pe i b) → P b ∧ b ≠ g) (dj : ∀ i j b, i < l.length → j < l.length → (Pt i b → ¬ Pe j b) ∧ (i ≠ j → (Pt i b → ¬ Pt j b) ∧ (Pe i b → ¬ Pe j b)))
    (hj : j < l.length) (hr : LvF w2 g cap cs (l.set j s) tv ev) (ho : ∀ b : Nat, b ≠ g → ¬ Pt j b → ¬ Pe j b → w2.heap[b]? = w.heap[b]?) (h1 : DT w2 (Pt j) (tv j) s.th) (h2 : DT w2 (Pe j) (ev j) s.el) :
    DT w2 P (.slice (some ⟨g, 0, none⟩) l.length cap) (l.set j s) := by
  have el : (l.set j s).length = l.length := by simp
  rw [← el]
  refine .mk P g cap cs _ tv ev Pt Pe hg hr (fun i hi => ?_) (fun i hi => ?_) (fun i b hi hb => st i b (by rw [el] at hi; exact hi) hb) (fun i i' b hi hi' => dj i i' b (by rw [el] at hi; exact hi) (by rw [el] at hi'; exact hi'))
  · rw [el] at hi
    by_cases hij : i = j
    · subst hij; simpa using h1
    · rw [List.getElem_set_ne (Ne.symm hij)]
      exact (ht i hi).frame fun b hb _ => ho b (st i b hi (.inl hb)).2 (fun h => ((dj i j b hi hj).2 hij).1 hb h) fun h => (dj i j b hi hj).1 hb h
  · rw [el] at hi
    by_cases hij : i = j
    · subst hij; simpa using h2
    · rw [List.getElem_set_ne (Ne.symm hij)]
      exact (he i hi).frame fun b hb _ => ho b (st i b hi (.inr hb)).2 (fun h => (dj j i b hj hi).1 h hb) fun h => ((dj i j b hi hj).2 hij).2 hb h
theorem DT.open_ {w : World} {P : Nat → Prop} {A : Option Addr} {n cap : Nat} {l : List St} (h : DT w P (.slice A n cap) l) (h0 : 0 < l.length) :
    ∃ g cs tv ev, ∃ Pt Pe : Nat → Nat → Prop, A = some ⟨g, 0, none⟩ ∧ n = l.length ∧ P g ∧ LvF w g cap cs l tv ev ∧ (∀ i (h : i < l.length), DT w (Pt i) (tv i) l[i].th) ∧ (∀ i (h : i < l.length), DT w (Pe i) (ev i) l[i].el) ∧
      (∀ i b, i < l.length → (Pt i b ∨ Pe i b) → P b ∧ b ≠ g) ∧ (∀ i j b, i < l.length → j < l.length → (Pt i b → ¬ Pe j b) ∧ (i ≠ j → (Pt i b → ¬ Pt j b) ∧ (Pe i b → ¬ Pe j b))) := by
  generalize hv : Value.slice A n cap = v at h
  cases h with
  | nil => simp at h0
  | mk P g cap cs l tv ev Pt Pe hg hr ht he st dj =>
    injection hv with e1 e2 e3
    subst e1 e2 e3
    exact ⟨g, cs, tv, ev, Pt, Pe, rfl, rfl, hg, hr, ht, he, st, dj⟩
def MdOk (m : Nat) : Prop := ∀ (v : Value) (l : List St) (P : Nat → Prop) (k : Int) (w : World), szL l ≤ m → DT w P v l → 0 ≤ k → k + 4 * szL l ≤ 1099511627776 →
  Calls Try.prog 83 #[v, .int .i64 k] w fun e w' => e = .returned (.int .i64 (k + 4 * szL l)) ∧ DT w' P v (mkL k l) ∧ Mk P w w'
set_option maxHeartbeats 1600000 in
set_option maxRecDepth 100000 in
theorem mdS_of (m : Nat) (ih : ∀ j, j < m → MdOk j) : MdOk m := by
  intro v l P k w hm hl h0 h1
  have hll := len_le_szL l
  obtain ⟨A, c, rfl, hc⟩ := hl.slice
  have IH := Lib.hid ih
  have HL := Lib.hid hl
  clear ih hl
  go_enter Try.func83, Try.ntmps83
  go_wp2_with (at_builtin; fail)
  go_loopw [1, 5] (fun kv i wr => ∃ (j : Nat) (K : Int), j ≤ l.length ∧ i = .int .i64 j ∧ kv = .int .i64 K ∧ K = k + 4 * szL (l.take j) ∧ DT wr P (.slice A l.length c) (mkU k l j) ∧ Mk P w wr) (fun _ i _ => l.length - (intOf i).toNat)
  case atStart => exact ⟨0, _, Nat.zero_le _, rfl, rfl, by simp [szL], by rw [mkU_zero]; exact HL.out, Mk.refl _ _⟩
  case round =>
    obtain ⟨j, K, hj, rfl, rfl, hK, hdt, hmk⟩ := hrel
    have HMK := Lib.hid hmk
    have HK := Lib.hid hK
    have hts := szL_take_le l j
    have hK0 : 0 ≤ K := by omega
    by_cases hlt : j < l.length
    · have hts2 := szL_take_le l (j + 1)
      rw [szL_take_succ l j hlt] at hts2
      have HTS := Lib.hid (szL_take_succ l j hlt)
      have hsz := szL_mem hlt
      rw [l[j].sz_eq] at hsz
      have HU := Lib.hid (mkU_set (k := k) hlt)
      rw [← hK] at HU
      have hul := mkU_len (k := k) hj
      have hug := mkU_get (k := k) hlt
      obtain ⟨U, hU⟩ : ∃ U, U = mkU k l j := ⟨_, rfl⟩
      have hjU : j < U.length := by rw [hU, hul]; exact hlt
      have hgU : U[j]'hjU = l[j] := by subst hU; exact hug
      rw [← hU] at hdt HU hul
      generalize l[j]'hlt = s at *
      clear hU hug
      obtain ⟨g, cs, tv, ev, Pt, Pe, rfl, -, hg, hr, ht, he, st, dj⟩ := hdt.open_ (by omega)
      · clear hdt
        have hlen := hr.len
        have hle := hr.le
        have hci : ∀ d, d < 6 → ∃ u, wr.cell? ⟨g, j * 6 + d, none⟩ = some u := fun d hd => by
          rw [hr.row.cell]
          exact ⟨_, List.getElem?_eq_getElem (by omega)⟩
        obtain ⟨u0, hu0⟩ := hci 0 (by omega)
        obtain ⟨u1, hu1⟩ := hci 1 (by omega)
        obtain ⟨u2, hu2⟩ := hci 2 (by omega)
        obtain ⟨u3, hu3⟩ := hci 3 (by omega)
        rw [Nat.add_zero] at hu0
        have g0 := hr.row.frozen (j * 6)
        have g1 := hr.row.frozen (j * 6 + 1)
        have g2 := hr.row.frozen (j * 6 + 2)
        have g3 := hr.row.frozen (j * 6 + 3)
        have hKb : K + 4 ≤ 1099511627776 := by omega
        have htj := ht j hjU
        have hej := he j hjU
        rw [hgU] at htj hej
        obtain ⟨A1, n1, e1, -⟩ := htj.slice
        obtain ⟨A2, n2, e2, -⟩ := hej.slice
        obtain ⟨cs4, hr4⟩ := hr.set4 hjU K (K + 1) (K + 1 + 1) (K + 1 + 1 + 1) (mkL (K + 1 + 1 + 1 + 1) s.th) (mkL (K + 1 + 1 + 1 + 1 + 4 * szL s.th) s.el)
        have hv4 := hr4.cv j (by simpa using hjU)
        rw [e1, e2] at hv4
        rw [← mkS_eq] at hr4
        have HM4 : Hid (Mk (fun b => b = g) wr ((((wr.setCell ⟨g, j * 6, none⟩ (.int .i64 K)).setCell ⟨g, j * 6 + 1, none⟩ (.int .i64 (K + 1))).setCell ⟨g, j * 6 + 2, none⟩ (.int .i64 (K + 1 + 1))).setCell ⟨g, j * 6 + 3, none⟩ (.int .i64 (K + 1 + 1 + 1)))) :=
          Lib.hid ((((Mk.set_ (P := fun b => b = g) (j * 6) (.int .i64 K) rfl (by omega)).trans (Mk.set_ (P := fun b => b = g) (j * 6 + 1) (.int .i64 (K + 1)) rfl (by omega))).trans (Mk.set_ (P := fun b => b = g) (j * 6 + 2) (.int .i64 (K + 1 + 1)) rfl (by omega))).trans (Mk.set_ (P := fun b => b = g) (j * 6 + 3) (.int .i64 (K + 1 + 1 + 1)) rfl (by omega)))
        have HR4 := Lib.hid hr4
        have HTJ := Lib.hid htj
        have HEJ := Lib.hid hej
        have HT := Lib.hid ht
        have HE := Lib.hid he
        have HST := Lib.hid st
        have HDJ := Lib.hid dj
        have HE1 := Lib.hid e1
        have HE2 := Lib.hid e2
        rw [e1] at HTJ
        rw [e2] at HEJ
        have HUL := Lib.hid hul
        clear hci hmk hK hr hr4 htj hej ht he st dj e1 e2 hlen hle hgU
        go_upto_region 12 with (at_builtin; fail)
        clear hu0 hu1 hu2 hu3 g0 g1 g2 g3
        generalize (((wr.setCell ⟨g, j * 6, none⟩ (.int .i64 K)).setCell ⟨g, j * 6 + 1, none⟩ (.int .i64 (K + 1))).setCell ⟨g, j * 6 + 2, none⟩ (.int .i64 (K + 1 + 1))).setCell ⟨g, j * 6 + 3, none⟩ (.int .i64 (K + 1 + 1 + 1)) = w4 at *
        have c4 : w4.cell? ⟨g, j * 6 + 4, none⟩ = some (.slice A1 s.th.length n1) := (HR4.out.row.cell _).trans hv4.1
        have HV5 := Lib.hid hv4.2
        clear hv4
        have HT4 := Lib.hid (HTJ.out.frame (w' := w4) fun b hb _ => HM4.out.oth b (HST.out j b hjU (.inl hb)).2)
        have HE4 := Lib.hid (HEJ.out.frame (w' := w4) fun b hb _ => HM4.out.oth b (HST.out j b hjU (.inr hb)).2)
        obtain ⟨K2, hK2⟩ : ∃ K2, K2 = K + 1 + 1 + 1 + 1 := ⟨_, rfl⟩
        have hK20 : 0 ≤ K2 := by omega
        have hK21 : K2 + 4 * szL s.th + 4 * szL s.el ≤ 1099511627776 := by have := HTS.out; have := HK.out; omega
        have HMS : Hid (mkS K s = .mk K (K + 1) (K + 1 + 1) (K + 1 + 1 + 1) (mkL K2 s.th) (mkL (K2 + 4 * szL s.th) s.el)) := Lib.hid (by rw [hK2]; exact mkS_eq K s)
        have HK2 := Lib.hid hK2
        rw [← hK2]
        clear hK2
        go_wp2_with (at_builtin; fail)
        refine (IH.out (szL s.th) (by omega) _ s.th _ K2 w4 (Nat.le_refl _) HT4.out hK20 (by omega)).mono ?_
        rintro e w5 ⟨rfl, hd5, hm5⟩
        have hrow5 : RowB w5 g 87 cs4 := (hm5.oth g fun h => (HST.out j g hjU (.inl h)).2 rfl).trans HR4.out.row
        have c5 : w5.cell? ⟨g, j * 6 + 5, none⟩ = some (.slice A2 s.el.length n2) := (hrow5.cell _).trans HV5.out
        have HD5 := Lib.hid hd5
        have HM5 := Lib.hid hm5
        have HE5 := Lib.hid (HE4.out.frame (w' := w5) fun b hb _ => hm5.oth b fun h => (HDJ.out j j b hjU hjU).1 h hb)
        obtain ⟨K3, hK3⟩ : ∃ K3, K3 = K2 + 4 * szL s.th := ⟨_, rfl⟩
        have hK30 : 0 ≤ K3 := by omega
        have hK31 : K3 + 4 * szL s.el ≤ 1099511627776 := by omega
        rw [← hK3] at HMS ⊢
        have HK3 := Lib.hid hK3
        clear hK3 c4 hd5 hm5 hrow5
        go_wp2_with (at_builtin; fail)
        refine (IH.out (szL s.el) (by omega) _ s.el _ K3 w5 (Nat.le_refl _) HE5.out hK30 hK31).mono ?_
        rintro e w6 ⟨rfl, hd6, hm6⟩
        have HD6 := Lib.hid hd6
        have HT6 := Lib.hid (HD5.out.frame (w' := w6) fun b hb _ => hm6.oth b fun h => (HDJ.out j j b hjU hjU).1 hb h)
        have HR6 : Hid (LvF w6 g c cs4 (U.set j (mkS K s)) tv ev) := Lib.hid (HR4.out.keep ((hm6.oth g fun h => (HST.out j g hjU (.inr h)).2 rfl).trans (HM5.out.oth g fun h => (HST.out j g hjU (.inl h)).2 rfl)))
        have HMF : Hid (Mk P wr w6) := Lib.hid (((HM4.out.mono fun b hb => by rw [hb]; exact hg).trans (HM5.out.mono fun b hb => (HST.out j b hjU (.inl hb)).1)).trans (hm6.mono fun b hb => (HST.out j b hjU (.inr hb)).1))
        have HOF : Hid (∀ b : Nat, b ≠ g → ¬ Pt j b → ¬ Pe j b → w6.heap[b]? = wr.heap[b]?) := Lib.hid fun b h1 h2 h3 => ((hm6.oth b h3).trans (HM5.out.oth b h2)).trans (HM4.out.oth b h1)
        have HP : Hid (DT w6 P (.slice (some ⟨g, 0, none⟩) l.length c) (mkU k l (j + 1))) := Lib.hid (by
          have e1 := HE1.out
          have e2 := HE2.out
          have hms := HMS.out
          have h1 : DT w6 (Pt j) (tv j) (mkS K s).th := by rw [hms, e1]; exact HT6.out
          have h2 : DT w6 (Pe j) (ev j) (mkS K s).el := by rw [hms, e2]; exact HD6.out
          have := DT.put hg HT.out HE.out HST.out HDJ.out hjU HR6.out HOF.out h1 h2
          rw [HU.out, HUL.out] at this
          exact this)
        obtain ⟨K4, hK4⟩ : ∃ K4, K4 = K3 + 4 * szL s.el := ⟨_, rfl⟩
        rw [← hK4]
        have HK4 := Lib.hid hK4
        clear hK4 c5 hd6 hm6
        go_wp2_with (at_builtin; fail)
        exact ⟨⟨j + 1, K4, by omega, by go_num, rfl, by have := HTS.out; have := HK.out; have := HK2.out; have := HK3.out; have := HK4.out; omega, HP.out, HMK.out.trans HMF.out⟩, by simp [intOf] <;> omega⟩
    · have hjl : j = l.length := by omega
      have HJ := Lib.hid hjl
      have HD := Lib.hid hdt
      clear hjl hmk hK hdt
      go_wp2_with (at_builtin; fail)
      go_ret
      refine ⟨?_, ?_, HMK.out⟩
      · have := HK.out
        rw [take_all HJ.out] at this
        rw [this]; rfl
      · have := HD.out
        rw [HJ.out, mkU_all] at this
        exact this
theorem mdS_any (m : Nat) : MdOk m := by
  induction m using Nat.strongRecOn with
  | _ m ih => exact mdS_of m ih
theorem mkL_get {k : Int} {l : List St} {j : Nat} (hj : j < l.length) : (mkL k l)[j]'(by rw [mkL_len]; exact hj) = mkS (k + 4 * szL (l.take j)) l[j] := by
  have e : (mkL k (l.take j)).length = j := by rw [mkL_len, List.length_take]; omega
  have e2 : mkL k l = mkL k (l.take j) ++ mkL (k + 4 * szL (l.take j)) (l.drop j) := by rw [← mkL_append, List.take_append_drop]
  have e3 : (mkL k l)[j]? = some (mkS (k + 4 * szL (l.take j)) l[j]) := by
    rw [e2, List.getElem?_append_right (by omega), e, Nat.sub_self, List.drop_eq_getElem_cons hj]
    simp [mkL]
  rw [List.getElem?_eq_getElem (by rw [mkL_len]; exact hj)] at e3
  injection e3
def HdOk (m : Nat) : Prop := ∀ (v : Value) (l : List St) (B : Nat) (k : Int) (w : World), szL l ≤ m → StS w B v (mkL k l) → 0 ≤ k → k + 4 * szL l ≤ 1099511627776 →
  Calls Try.prog 84 #[v, .int .i64 k] w fun e w' => e = .returned (.int .i64 (k + 4 * szL l)) ∧ w = w'
set_option maxHeartbeats 1600000 in
set_option maxRecDepth 100000 in
theorem hdS_of (m : Nat) (ih : ∀ j, j < m → HdOk j) : HdOk m := by
  intro v l B k w hm hl h0 h1
  have hll := len_le_szL l
  obtain ⟨A, c, rfl, hc⟩ := hl.slice
  rw [mkL_len] at hl hc
  have IH := Lib.hid ih
  have HL := Lib.hid hl
  have HML := mkL_len k l
  clear ih hl
  rw [HML]
  clear HML
  go_enter Try.func84, Try.ntmps84
  go_wp2_with (at_builtin; fail)
  go_loopw [1, 5] (fun kv i wr => ∃ (j : Nat) (K : Int), j ≤ l.length ∧ i = .int .i64 j ∧ kv = .int .i64 K ∧ K = k + 4 * szL (l.take j) ∧ w = wr) (fun _ i _ => l.length - (intOf i).toNat)
  case atStart => exact ⟨0, _, Nat.zero_le _, rfl, rfl, by simp [szL], rfl⟩
  case round =>
    obtain ⟨j, K, hj, rfl, rfl, hK, rfl⟩ := hrel
    have HK := Lib.hid hK
    have hts := szL_take_le l j
    have hK0 : 0 ≤ K := by omega
    by_cases hlt : j < l.length
    · have hts2 := szL_take_le l (j + 1)
      rw [szL_take_succ l j hlt] at hts2
      have HTS : Hid (szL (l.take (j + 1)) = szL (l.take j) + (1 + szL l[j].th + szL l[j].el)) := Lib.hid (szL_take_succ l j hlt)
      have hsz := szL_mem hlt
      rw [l[j].sz_eq] at hsz
      have hjm : j < (mkL k l).length := by rw [mkL_len]; exact hlt
      obtain ⟨b, off, tv, ev, rfl, hb, hth, hel, c0, c1, c2, c3, c4, c5⟩ := HL.out.get hjm
      rw [mkL_get hlt, ← hK, mkS_eq] at hth hel c0 c1 c2 c3
      generalize (l[j]'hlt).th = T at *
      generalize (l[j]'hlt).el = E at *
      simp only [St.op, St.x, St.y, St.n, St.th, St.el] at hth hel c0 c1 c2 c3
      obtain ⟨A4, n4, rfl, -⟩ := hth.slice
      obtain ⟨A5, n5, rfl, -⟩ := hel.slice
      rw [mkL_len] at hth hel c4 c5
      have HTH := Lib.hid hth
      have HEL := Lib.hid hel
      have hn : ∀ z : Int, (z != z) = false := fun z => by simp
      have n0 := hn K
      have n1 := hn (K + 1)
      have n2 := hn (K + 1 + 1)
      have n3 := hn (K + 1 + 1 + 1)
      have hKb : K + 4 + 4 * szL T + 4 * szL E ≤ 1099511627776 := by have := HTS.out; have := HK.out; omega
      clear hn hth hel hK hjm
      go_upto_region 16 with (at_builtin; fail)
      obtain ⟨K2, hK2⟩ : ∃ K2, K2 = K + 1 + 1 + 1 + 1 := ⟨_, rfl⟩
      have hK20 : 0 ≤ K2 := by omega
      have HK2 := Lib.hid hK2
      rw [← hK2] at HTH HEL ⊢
      have hK21 : K2 + 4 * szL T + 4 * szL E ≤ 1099511627776 := by omega
      clear hK2 c0 c1 c2 c3 n0 n1 n2 n3
      go_wp2_with (at_builtin; fail)
      refine (IH.out (szL T) (by omega) _ T _ K2 w (Nat.le_refl _) HTH.out hK20 (by omega)).mono ?_
      rintro e w5 ⟨rfl, rfl⟩
      obtain ⟨K3, hK3⟩ : ∃ K3, K3 = K2 + 4 * szL T := ⟨_, rfl⟩
      have hK30 : 0 ≤ K3 := by omega
      have hK31 : K3 + 4 * szL E ≤ 1099511627776 := by omega
      rw [← hK3] at HEL ⊢
      have HK3 := Lib.hid hK3
      clear hK3 c4
      go_wp2_with (at_builtin; fail)
      refine (IH.out (szL E) (by omega) _ E _ K3 w (Nat.le_refl _) HEL.out hK30 hK31).mono ?_
      rintro e w6 ⟨rfl, rfl⟩
      obtain ⟨K4, hK4⟩ : ∃ K4, K4 = K3 + 4 * szL E := ⟨_, rfl⟩
      rw [← hK4]
      have hK40 : 0 ≤ K4 := by omega
      have HK4 := Lib.hid hK4
      clear hK4 c5
      go_wp2_with (at_builtin; fail)
      exact ⟨⟨j + 1, K4, by omega, by go_num, rfl, by have := HTS.out; have := HK.out; have := HK2.out; have := HK3.out; have := HK4.out; omega, by first | trivial | rfl⟩, by simp [intOf] <;> omega⟩
    · have hjl : j = l.length := by omega
      have HJ := Lib.hid hjl
      clear hjl hK
      go_wp2_with (at_builtin; fail)
      go_ret
      refine ⟨?_, rfl⟩
      have := HK.out
      rw [take_all HJ.out] at this
      rw [this]; rfl
theorem hdS_any (m : Nat) : HdOk m := by
  induction m using Nat.strongRecOn with
  | _ m ih => exact hdS_of m ih
set_option maxHeartbeats 400000 in
/-- a program marked: its own ints and its tree -/
theorem markProgram_dt (vt vb : Value) (ts : List Int) (l : List St) (base lo hi : Nat) (k : Int) (w : World) (ht : OInts w base vt ts) (hown : ∀ g, vt.ownBlock = some g → g < lo) (hl : DT w (rg lo hi) vb l) (hhi : hi ≤ w.heap.size) (h0 : 0 ≤ k) (h1 : k + ts.length + 4 * szL l ≤ 1099511627776) :
    Calls Try.prog 35 #[.agg #[vt, vb], .int .i64 k] w fun e w' => e = .returned (.int .i64 (k + ts.length + 4 * szL l)) ∧ OInts w' base vt (upto k ts.length) ∧ DT w' (rg lo hi) vb (mkL (k + ts.length) l) ∧ Ch (fun b => vt.ownBlock = some b ∨ rg lo hi b) w w' := by
  obtain ⟨A1, c1, rfl, -⟩ := ht.slice
  obtain ⟨A2, c2, rfl, hc2⟩ := hl.slice
  have HX := Lib.hid (RowB.new w [.slice A1 ts.length c1, .slice A2 l.length c2] 26)
  have HB1 := Lib.hid (bel_a w (.cells #[.slice A1 ts.length c1, .slice A2 l.length c2] 26))
  have hto : ∀ g, (Value.slice A1 ts.length c1).ownBlock = some g → g < w.heap.size := fun g e => (ht.own_lt e).2
  have HT := Lib.hid (ht.bel HB1.out)
  have HL := Lib.hid (hl.bel HB1.out)
  have HOW := Lib.hid hown
  clear ht hl hown
  go_enter Try.func35, Try.ntmps35
  go_upto_region 1 with (at_builtin; fail)
  generalize w.alloc (.cells #[.slice A1 ts.length c1, .slice A2 l.length c2] 26) = W at *
  have x0 := HX.out.cell 0
  simp only [List.getElem?_cons_zero] at x0
  go_wp2_with (at_builtin; fail)
  refine (markIntS_any _ ts k base W HT.out h0 (by omega)).mono ?_
  rintro e w2 ⟨rfl, ho2, hm2⟩
  have HL2 := Lib.hid (HL.out.frame (w' := w2) fun b hb _ => hm2.oth b fun e => by have := HOW.out b e; have := hb.1; omega)
  have HX2 : Hid (RowB w2 w.heap.size 26 _) := Lib.hid ((hm2.oth w.heap.size fun e => by have := hto _ e; omega).trans HX.out)
  have HM2 := Lib.hid hm2
  have HO2 := Lib.hid ho2
  have x1 := HX2.out.cell 1
  simp only [List.getElem?_cons_zero, List.getElem?_cons_succ] at x1
  obtain ⟨K, hK⟩ : ∃ K, K = k + ts.length := ⟨_, rfl⟩
  rw [← hK]
  have HK := Lib.hid hK
  have hK0 : 0 ≤ K := by omega
  have hK1 : K + 4 * szL l ≤ 1099511627776 := by omega
  clear hK hm2 ho2 x0
  go_wp2_with (at_builtin; fail)
  refine (mdS_any (szL l) _ l _ K w2 (Nat.le_refl _) HL2.out hK0 hK1).mono ?_
  rintro e w3 ⟨rfl, hd3, hm3⟩
  go_wp2_with (at_builtin; fail)
  go_ret
  refine ⟨by rw [HK.out]; rfl, HO2.out.keepBlk (Nat.le_refl _) fun g e => hm3.oth g fun h => by have := HOW.out g e; have := h.1; omega, by rw [← HK.out]; exact hd3, (hm3.os.trans HM2.out.os).trans HB1.out.os, ?_, ?_, ?_, fun b hb hq => ?_⟩
  · exact (hm3.tape.trans HM2.out.tape).trans HB1.out.tape
  · exact (hm3.output.trans HM2.out.output).trans HB1.out.output
  · have := hm3.size
    have := HM2.out.size
    have := HB1.out.size
    omega
  · exact ((hm3.oth b fun h => hq (.inr h)).trans (HM2.out.oth b fun h => hq (.inl h))).trans (HB1.out.block b hb)
set_option maxHeartbeats 400000 in
theorem heldProgram_any (vt vb : Value) (n : Nat) (l : List St) (B : Nat) (k : Int) (w : World) (ht : IntS w B vt (upto k n)) (hl : StS w B vb (mkL (k + n) l)) (hB : B ≤ w.heap.size) (h0 : 0 ≤ k) (h1 : k + n + 4 * szL l ≤ 1099511627776) :
    Calls Try.prog 36 #[.agg #[vt, vb], .int .i64 k] w fun e w' => e = .returned (.int .i64 (k + n + 4 * szL l)) ∧ Below w.heap.size w w' := by
  have ht0 := ht
  obtain ⟨A1, c1, rfl, -⟩ := ht0
  obtain ⟨A2, c2, rfl, hc2⟩ := hl.slice
  have HX := Lib.hid (RowB.new w [.slice A1 (upto k n).length c1, .slice A2 (mkL (k + n) l).length c2] 26)
  have HB1 := Lib.hid (bel_a w (.cells #[.slice A1 (upto k n).length c1, .slice A2 (mkL (k + n) l).length c2] 26))
  have HT := Lib.hid (ht.low HB1.out hB)
  have HL := Lib.hid (hl.low HB1.out hB)
  obtain ⟨L1, hL1⟩ : ∃ L1, L1 = (upto k n).length := ⟨_, rfl⟩
  obtain ⟨L2, hL2⟩ : ∃ L2, L2 = (mkL (k + n) l).length := ⟨_, rfl⟩
  rw [← hL1] at HX HB1 HT ⊢
  rw [← hL2] at HX HB1 HT HL ⊢
  rw [← hL1] at HL
  clear ht hl hL1 hL2
  go_enter Try.func36, Try.ntmps36
  go_upto_region 1 with (at_builtin; fail)
  generalize w.alloc (.cells #[.slice A1 L1 c1, .slice A2 L2 c2] 26) = W at *
  have x0 := HX.out.cell 0
  have x1 := HX.out.cell 1
  simp only [List.getElem?_cons_zero, List.getElem?_cons_succ] at x0 x1
  go_wp2_with (at_builtin; fail)
  refine (heldIntS_any _ n k B W HT.out h0 (by omega)).mono ?_
  rintro e w2 ⟨rfl, rfl⟩
  obtain ⟨K, hK⟩ : ∃ K, K = k + n := ⟨_, rfl⟩
  rw [← hK] at HL ⊢
  have HK := Lib.hid hK
  have hK0 : 0 ≤ K := by omega
  have hK1 : K + 4 * szL l ≤ 1099511627776 := by omega
  clear hK x0
  go_wp2_with (at_builtin; fail)
  refine (hdS_any (szL l) _ l B K W (Nat.le_refl _) HL.out hK0 hK1).mono ?_
  rintro e w3 ⟨rfl, rfl⟩
  obtain ⟨K2, hK2⟩ : ∃ K2, K2 = K + 4 * szL l := ⟨_, rfl⟩
  rw [← hK2]
  have HK2 := Lib.hid hK2
  have hK20 : 0 ≤ K2 := by omega
  clear hK2
  go_wp2_with (at_builtin; fail)
  go_ret
  exact ⟨by rw [HK2.out, HK.out]; rfl, HB1.out⟩

end Go.Proofs.Ytidlifijgooceaa
