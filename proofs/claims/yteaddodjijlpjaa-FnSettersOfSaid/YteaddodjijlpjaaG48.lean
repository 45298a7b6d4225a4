import Derived.Test.YteaddodjijlpjaaG46
set_option linter.unusedVariables false

/- spec.l10Merge. -/
namespace Go.Proofs.Yteaddodjijlpjaa
open Go.RowKit

/-- rows r' are r with what af has, as far as place (k, j) -/
structure MgI (m s : Nat) (r af r' : List (List Bool)) (c : Bool) (k j : Nat) : Prop where
  len : r'.length = m
  inn : ∀ v, v < m → (r'.getD v []).length = s
  get : ∀ v e, v < m → e < s → rget r' v e = if v < k ∨ (v = k ∧ e < j) then (rget r v e || rget af v e) else rget r v e
  yes : c = true → ∃ v e, v < m ∧ e < s ∧ rget r v e = false ∧ rget af v e = true
  no : c = false → r' = r
theorem MgI.start {m s : Nat} {r af : List (List Bool)} (hl : r.length = m) (hi : ∀ v, v < m → (r.getD v []).length = s) : MgI m s r af r false 0 0 :=
  ⟨hl, hi, fun v e _ _ => by rw [if_neg (by omega)], fun h => (by cases h), fun _ => rfl⟩
theorem MgI.next {m s k j : Nat} {r af r' : List (List Bool)} {c : Bool} (h : MgI m s r af r' c k j) (hj : j = s) : MgI m s r af r' c (k + 1) 0 := by
  refine ⟨h.len, h.inn, fun v e hv he => ?_, h.yes, h.no⟩
  rw [h.get v e hv he]
  by_cases h1 : v < k ∨ (v = k ∧ e < j)
  · rw [if_pos h1, if_pos (by omega)]
  · rw [if_neg h1, if_neg (by omega)]
theorem MgI.same {m s k j : Nat} {r af r' : List (List Bool)} {c : Bool} (h : MgI m s r af r' c k j) (hk : k < m) (hj : j < s) (hs : rget af k j = false ∨ rget r' k j = true) : MgI m s r af r' c k (j + 1) := by
  refine ⟨h.len, h.inn, fun v e hv he => ?_, h.yes, h.no⟩
  have h0 := h.get v e hv he
  by_cases h1 : v < k ∨ (v = k ∧ e < j)
  · rw [if_pos h1] at h0; rw [h0, if_pos (by omega)]
  · rw [if_neg h1] at h0
    by_cases h2 : v = k ∧ e = j
    · obtain ⟨rfl, rfl⟩ := h2
      rw [if_pos (by omega), h0]
      rcases hs with hs | hs
      · rw [hs, Bool.or_false]
      · rw [← h0, hs]; rfl
    · rw [h0, if_neg (by omega)]
theorem MgI.set {m s k j : Nat} {r af r' : List (List Bool)} {c : Bool} (h : MgI m s r af r' c k j) (hk : k < m) (hj : j < s) (ha : rget af k j = true) (h0 : rget r' k j = false) : MgI m s r af (rset r' k j true) true k (j + 1) := by
  have hkl : k < r'.length := by rw [h.len]; exact hk
  have hjl : j < (r'.getD k []).length := by rw [h.inn k hk]; exact hj
  have hr0 : rget r k j = false := by
    have := h.get k j hk hj
    rw [if_neg (by omega), h0] at this
    exact this.symm
  refine ⟨by rw [rset_len]; exact h.len, fun v hv => by rw [rset_row hkl]; exact h.inn v hv, fun v e hv he => ?_, fun _ => ⟨k, j, hk, hj, hr0, ha⟩, fun h => (by cases h)⟩
  rw [rget_rset hkl hjl]
  by_cases h2 : v = k ∧ e = j
  · obtain ⟨rfl, rfl⟩ := h2
    rw [if_pos ⟨rfl, rfl⟩, if_pos (by omega), ha, Bool.or_true]
  · rw [if_neg h2, h.get v e hv he]
    by_cases h1 : v < k ∨ (v = k ∧ e < j)
    · rw [if_pos h1, if_pos (by omega)]
    · rw [if_neg h1, if_neg (by omega)]
theorem MgI.done {m s k : Nat} {r af r' : List (List Bool)} {c : Bool} (h : MgI m s r af r' c k 0) (hk : k = m) : Mrg m s r af r' :=
  ⟨h.len, h.inn, fun v e hv he => by rw [h.get v e hv he, if_pos (by omega)]⟩

def MgRet (w : World) (base m s : Nat) (vto : Value) (rb : List Nat) (r af : List (List Bool)) (e : Ending) (w' : World) : Prop :=
  ∃ c r', e = .returned (.bool c) ∧ BRow w' base vto rb s r' ∧ Mrg m s r af r' ∧ (c = true → ∃ v e, v < m ∧ e < s ∧ rget r v e = false ∧ rget af v e = true) ∧ (c = false → r' = r) ∧ Onl (fun b => ∃ u, u < m ∧ b = rb.getD u 0) w w'
set_option maxHeartbeats 4000000 in
set_option maxRecDepth 100000 in
theorem l10Merge_any (vto vfr : Value) (base m s : Nat) (rb : List Nat) (r af : List (List Bool)) (Pf : Nat → Prop) (w : World) (hb : BRow w base vto rb s r) (hl : r.length = m) (hi : ∀ v, v < m → (r.getD v []).length = s)
    (hf : RwX w Pf vfr af) (hfl : af.length = m) (hfi : ∀ v, v < m → (af.getD v []).length = s) (hP : ∀ b u, Pf b → u < m → b ≠ rb.getD u 0) (hm : m ≤ 100) (hs : s ≤ 100) :
    Calls Try.prog 94 #[vto, vfr] w (MgRet w base m s vto rb r af) := by
  have HF := Lib.hid hf
  have HFI := Lib.hid hfi
  have HFL := Lib.hid hfl
  have HP := Lib.hid hP
  have H0 := Lib.hid (MgI.start (af := af) hl hi)
  have HB := Lib.hid hb
  have hfl1 : af.length ≤ m := by omega
  have hfl2 : m ≤ af.length := by omega
  have hrl1 : r.length ≤ m := by omega
  have hrl2 : m ≤ r.length := by omega
  obtain ⟨Af, cf, rfl, hcf⟩ := hf.slice
  obtain ⟨At, ct, rfl, hct⟩ := hb.slice
  clear hb hf hfl hfi hP hl hi
  go_enter Try.func94, Try.ntmps94
  go_wp2_with fail
  go_loopw [5, 6] (fun c' i' wr => ∃ (c : Bool) (k : Nat) (r' : List (List Bool)), c' = .bool c ∧ i' = .int .i64 k ∧ k ≤ m ∧ BRow wr base (.slice At r.length ct) rb s r' ∧ MgI m s r af r' c k 0 ∧ Onl (fun b => ∃ u, u < m ∧ b = rb.getD u 0) w wr) (fun _ i' _ => m - (intOf i').toNat)
  case atStart => exact ⟨false, 0, r, rfl, rfl, by omega, HB.out, H0.out, Onl.refl _ _⟩
  case round =>
    obtain ⟨c, k, r', rfl, rfl, hk, hbr, hmi, hon⟩ := hrel
    have HBR := Lib.hid hbr
    have HMI := Lib.hid hmi
    have HON := Lib.hid hon
    clear hbr hmi hon
    by_cases hlt : k < m
    · have hka : k < af.length := by omega
      obtain ⟨wo, rfl⟩ : ∃ wo : World, wo = wr := ⟨_, rfl⟩
      go_wp2_with fail
      go_loopw [5, 7] (fun c' i' wr => ∃ (c : Bool) (j : Nat) (r' : List (List Bool)), c' = .bool c ∧ i' = .int .i64 j ∧ j ≤ s ∧ BRow wr base (.slice At r.length ct) rb s r' ∧ MgI m s r af r' c k j ∧ Onl (fun b => ∃ u, u < m ∧ b = rb.getD u 0) w wr) (fun _ i' _ => s - (intOf i').toNat)
      case atStart => exact ⟨c, 0, r', rfl, rfl, by omega, HBR.out, HMI.out, HON.out⟩
      case round =>
        obtain ⟨c, j, r', rfl, rfl, hj, hbr, hmi, hon⟩ := hrel
        have HBR := Lib.hid hbr
        have HMI := Lib.hid hmi
        have HON := Lib.hid hon
        have HFW := Lib.hid (HF.out.onl hon fun b hb => fun ⟨u, hu, e⟩ => HP.out b u hb hu e)
        obtain ⟨b1, o1, rv, rfl, hpb, hbl, e9, hcell, hrow⟩ := HFW.out.at_ hka
        have hfk := HFI.out k hlt
        obtain ⟨Ar, cr, rfl, hcr⟩ := hrow.slice
        rw [hfk] at hcell hcr
        have HROW := Lib.hid hrow
        have HFK := Lib.hid hfk
        clear hbr hmi hon hpb hrow hfk e9
        by_cases hjl : j < s
        · obtain ⟨b2, o2, rfl, hpb, hbl2, e9, hcj⟩ := BoolX.at_ (A := Ar) (n := (af.getD k []).length) HROW.out (k := j) (by rw [HFK.out]; exact hjl)
          obtain ⟨y, hy⟩ : ∃ y, y = rget af k j := ⟨_, rfl⟩
          have hcy : wr.cell? ⟨b2, o2 + j, none⟩ = some (.bool y) := by rw [hy]; exact hcj
          have hr'l : r'.length = m := HMI.out.len
          obtain ⟨go, c4, ego, hgo, hgo2, hgo3, hgc, -⟩ := HBR.out.form (by omega)
          injection ego with e1 e8 e2
          subst e1 e2
          have hgk := hgc k (by omega)
          have hrow2 := HBR.out.row k (by omega)
          have hrk : (r'.getD k []).length = s := HMI.out.inn k hlt
          have hcx : wr.cell? ⟨rb.getD k 0, j, none⟩ = some (.bool (rget r' k j)) := by rw [hrow2.1.cell, bv_get (by rw [hrk]; exact hjl)]; rfl
          have hfr := hrow2.1.frozen j
          have hkr : k < r.length := by omega
          obtain ⟨x, hx⟩ : ∃ x, x = rget r' k j := ⟨_, rfl⟩
          obtain ⟨rk, hrkb⟩ : ∃ rk, rk = rb.getD k 0 := ⟨_, rfl⟩
          rw [← hx] at hcx
          rw [← hrkb] at hgk hcx hfr
          have HX := Lib.hid hx
          have HY := Lib.hid hy
          have HRK := Lib.hid hrkb
          have HRL := Lib.hid hr'l
          clear hgc e8 hrow2 hrk hx hy hrkb hr'l hcj hpb e9
          cases y
          · go_wp2_with fail
            exact ⟨⟨c, j + 1, r', rfl, by go_num, by omega, HBR.out, HMI.out.same hlt hjl (.inl HY.out.symm), HON.out⟩, by simp [intOf] <;> omega⟩
          · cases x
            · go_wp2_with fail
              have hset := HBR.out.set (i := k) (u := j) (by rw [HRL.out]; exact hlt) true
              rw [← HRK.out] at hset
              exact ⟨⟨true, j + 1, _, rfl, by go_num, by omega, hset, HMI.out.set hlt hjl HY.out.symm HX.out.symm, HON.out.trans (Onl.set (S := fun b => ∃ u, u < m ∧ b = rb.getD u 0) _ ⟨k, hlt, HRK.out⟩ _ _)⟩, by simp [intOf] <;> omega⟩
            · go_wp2_with fail
              exact ⟨⟨c, j + 1, r', rfl, by go_num, by omega, HBR.out, HMI.out.same hlt hjl (.inr HX.out.symm), HON.out⟩, by simp [intOf] <;> omega⟩
        · have hje : j = s := by omega
          have HN := Lib.hid (HMI.out.next hje)
          clear hje
          go_wp2_with fail
          exact ⟨⟨c, k + 1, r', rfl, by go_num, by omega, HBR.out, HN.out, HON.out⟩, by simp [intOf] <;> omega⟩
    · have hke : k = m := by omega
      have HD := Lib.hid (HMI.out.done hke)
      clear hke
      go_wp2_with fail
      go_ret
      exact ⟨c, r', rfl, HBR.out, HD.out, HMI.out.yes, HMI.out.no, HON.out⟩

end Go.Proofs.Yteaddodjijlpjaa
