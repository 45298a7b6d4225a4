import Derived.Test.YtfioaohadanjmaaC26
import Derived.Test.YtfioaohadanjmaaC18
set_option linter.unusedVariables false

/- Rows of rows of rows of bools; spec.l4Add, l10Value. -/
namespace Go.Proofs.Ytfioaohadanjmaa
open Go.RowKit

theorem BRow.onl {S : Nat → Prop} {w w' : World} {base m : Nat} {v : Value} {rb : List Nat} {rows : List (List Bool)} (h : BRow w base v rb m rows) (k : Onl S w w') (hv : ∀ g, v.ownBlock = some g → ¬ S g) (hr : ∀ i, i < rows.length → ¬ S (rb.getD i 0)) : BRow w' base v rb m rows :=
  ⟨own_onl h.own k hv, h.len, fun i hi => ⟨(h.row i hi).1.onl k (hr i hi), (h.row i hi).2⟩, h.inj⟩
theorem BRow.base {w : World} {base base' m : Nat} {v : Value} {rb : List Nat} {rows : List (List Bool)} (h : BRow w base v rb m rows) (hb : base' ≤ base) : BRow w base' v rb m rows := by
  refine ⟨⟨h.own.1, ?_⟩, h.len, fun i hi => ⟨(h.row i hi).1, by have := (h.row i hi).2; omega⟩, h.inj⟩
  rcases h.own.2 with h' | ⟨g, cap, cur, rfl, hbg, rest⟩
  · exact .inl h'
  · exact .inr ⟨g, cap, cur, rfl, by omega, rest⟩
theorem BRow.own_ne {w : World} {base m : Nat} {v : Value} {rb : List Nat} {rows : List (List Bool)} (h : BRow w base v rb m rows) {g b : Nat} {l : List Value} (hg : v.ownBlock = some g) (hb : RowB w b 4 l) : g ≠ b := by
  rcases h.own.2 with ⟨rfl, _⟩ | ⟨g', cap, cur, rfl, _, hh, _⟩
  · cases hg
  · injection hg with hg
    have e : g' = g := hg
    subst e
    rintro rfl
    unfold RowB at hb
    rw [hh] at hb
    injection hb with hb
    injection hb with _ hT
    exact absurd hT (by decide)

/-- rows of rows of bools, one for each point -/
structure B3 (w : World) (base : Nat) (vo : Value) (mv : List Value) (rbs : List (List Nat)) (s : Nat) (R : List (List (List Bool))) : Prop where
  own : w.ownsRow base 57 1 vo R.length mv
  ml : mv.length = R.length
  rl : rbs.length = R.length
  mid : ∀ i, i < R.length → BRow w base (mv.getD i (.slice none 0 0)) (rbs.getD i []) s (R.getD i [])
  sep : ∀ i j, i < R.length → j < R.length → i ≠ j → ∀ u v, u < (R.getD i []).length → v < (R.getD j []).length → (rbs.getD i []).getD u 0 ≠ (rbs.getD j []).getD v 0
theorem B3.empty (w : World) (base s : Nat) (hb : base ≤ w.heap.size) : B3 (w.alloc (.cells #[] 57)) base (.slice (some ⟨w.heap.size, 0, none⟩) 0 0) [] [] s [] :=
  ⟨World.ownsRow_lit (base := base) (e := 57) (size := 1) w #[] 0 hb (by simp [maxLen]) rfl, rfl, rfl, fun i h => by simp at h, fun i j h => by simp at h⟩
theorem B3.slice {w : World} {base s : Nat} {vo : Value} {mv : List Value} {rbs : List (List Nat)} {R : List (List (List Bool))} (h : B3 w base vo mv rbs s R) : ∃ A c, vo = .slice A R.length c ∧ R.length ≤ c := by
  rcases h.own.2 with ⟨rfl, h0⟩ | ⟨g, cap, cur, rfl, _, _, hc, _⟩
  · exact ⟨none, 0, by rw [h0], by omega⟩
  · exact ⟨_, cap, rfl, hc⟩
theorem B3.low {w w' : World} {base s : Nat} {vo : Value} {mv : List Value} {rbs : List (List Nat)} {R : List (List (List Bool))} (h : B3 w base vo mv rbs s R) (hb : Below w.heap.size w w') : B3 w' base vo mv rbs s R :=
  ⟨h.own.kept (grown_bel hb (Nat.le_refl _) none) (by cases vo.ownBlock <;> simp), h.ml, h.rl, fun i hi => (h.mid i hi).low hb, h.sep⟩
theorem B3.at_ {w : World} {base s n c : Nat} {A : Option Addr} {mv : List Value} {rbs : List (List Nat)} {R : List (List (List Bool))} (h : B3 w base (.slice A n c) mv rbs s R) {k : Nat} (hk : k < R.length) :
    ∃ g, A = some ⟨g, 0, none⟩ ∧ base ≤ g ∧ g < w.heap.size ∧ n = R.length ∧ w.cell? ⟨g, k, none⟩ = some (mv.getD k (.slice none 0 0)) := by
  obtain ⟨A', c', e, _⟩ := h.slice
  injection e with _ e2 _
  subst e2
  obtain ⟨g, cap, e, hb, hlt⟩ := World.ownsRow.form h.own (by omega)
  injection e with e1 _ e3
  subst e1 e3
  refine ⟨g, rfl, hb, hlt, rfl, ?_⟩
  have hkl : k < mv.length := by rw [h.ml]; exact hk
  rw [h.own.cellAt k (by omega), List.getElem?_eq_getElem hkl, getD_lt hkl]
set_option maxHeartbeats 1000000 in
theorem l4Add_any (g n c : Nat) (vf : Value) (l fl : List Bool) (w : World) (hr : RowB w g 4 (bv l)) (hf : BoolX w (fun b => b ≠ g) vf fl) (hn : n = l.length) (hl : fl.length ≤ l.length) (hl2 : l.length ≤ 100000) :
    Calls Try.prog 103 #[.slice (some ⟨g, 0, none⟩) n c, vf] w fun e w' => e = .returned (.tuple #[]) ∧ ∃ r, RowB w' g 4 (bv r) ∧ r.length = l.length ∧ (∀ e, e < fl.length → r.getD e false = (l.getD e false || fl.getD e false)) ∧ (∀ e, fl.length ≤ e → r.getD e false = l.getD e false) ∧ Onl (fun b => b = g) w w' := by
  have HR := Lib.hid hr
  have HF := Lib.hid hf
  have HN := Lib.hid hn
  have hn1 : l.length ≤ n := by omega
  have hn2 : n ≤ l.length := by omega
  obtain ⟨Af, cf, rfl, hcf⟩ := hf.slice
  clear hr hf hn
  go_enter Try.func103, Try.ntmps103
  go_wp2_with fail
  go_loopw [4] (fun i wr => ∃ (k : Nat) (r : List Bool), k ≤ fl.length ∧ i = .int .i64 k ∧ RowB wr g 4 (bv r) ∧ r.length = l.length ∧ (∀ e, e < l.length → r.getD e false = if e < k then (l.getD e false || fl.getD e false) else l.getD e false) ∧ Onl (fun b => b = g) w wr) (fun i _ => fl.length - (intOf i).toNat)
  case atStart => exact ⟨0, l, by omega, rfl, HR.out, rfl, fun e _ => by simp, Onl.refl _ _⟩
  case round =>
    obtain ⟨k, r, hk, rfl, hrw, hrl, hre, hon⟩ := hrel
    have HRW := Lib.hid hrw
    have HRL := Lib.hid hrl
    have HRE := Lib.hid hre
    have HON := Lib.hid hon
    have HFW := Lib.hid (HF.out.frame hon.size fun b hb hl => ⟨hb, hon.block b hl hb⟩)
    clear hrw hrl hre hon
    by_cases hlt : k < fl.length
    · have hkl : k < l.length := by omega
      obtain ⟨b1, o1, rfl, hb1, hbl, e9, hck⟩ := HFW.out.at_ hlt
      have hb1' : b1 ≠ g := hb1
      have hcr : wr.cell? ⟨g, k, none⟩ = some (.bool (r.getD k false)) := by rw [HRW.out.cell, bv_get (by rw [HRL.out]; exact hkl)]
      have hfr := HRW.out.frozen k
      have HX := Lib.hid (HRE.out k hkl)
      rw [if_neg (Nat.lt_irrefl k)] at HX
      obtain ⟨x, hx⟩ : ∃ x, x = r.getD k false := ⟨_, rfl⟩
      obtain ⟨y, hy⟩ : ∃ y, y = fl.getD k false := ⟨_, rfl⟩
      rw [← hx] at hcr HX
      rw [← hy] at hck
      have HY := Lib.hid hy
      have hkn : k < n := by omega
      have hkn2 : (k : Int) < (n : Int) := by omega
      have HEND : Hid (∀ z, z = (x || y) → (∀ e, e < l.length → (r.set k z).getD e false = if e < k + 1 then (l.getD e false || fl.getD e false) else l.getD e false)) := Lib.hid fun z hz e he => by
        rw [getD_setT (by rw [HRL.out]; exact hkl), HRE.out e he]
        by_cases h : e = k
        · subst h; rw [if_pos rfl, if_pos (by omega), ← HX.out, ← HY.out, hz]
        · rw [if_neg h]
          by_cases h2 : e < k
          · rw [if_pos h2, if_pos (by omega)]
          · rw [if_neg h2, if_neg (by omega)]
      clear hx hy e9 hb1
      cases x
      · go_wp2_with fail
        exact ⟨⟨k + 1, r.set k y, by omega, by go_num, by rw [← bv_set]; exact HRW.out.set_ k _, by rw [List.length_set]; exact HRL.out, HEND.out y rfl, HON.out.trans (Onl.set (S := fun b => b = g) _ rfl _ _)⟩, by simp [intOf] <;> omega⟩
      · go_wp2_with fail
        exact ⟨⟨k + 1, r.set k true, by omega, by go_num, by rw [← bv_set]; exact HRW.out.set_ k _, by rw [List.length_set]; exact HRL.out, HEND.out true rfl, HON.out.trans (Onl.set (S := fun b => b = g) _ rfl _ _)⟩, by simp [intOf] <;> omega⟩
    · have hke : k = fl.length := by omega
      have HRE2 : Hid (∀ e, e < l.length → r.getD e false = if e < fl.length then (l.getD e false || fl.getD e false) else l.getD e false) := Lib.hid (by rw [← hke]; exact HRE.out)
      clear hke
      go_wp2_with fail
      go_end0
      refine ⟨rfl, r, HRW.out, HRL.out, fun e he => ?_, fun e he => ?_, HON.out⟩
      · rw [HRE2.out e (by omega), if_pos he]
      · by_cases h : e < l.length
        · rw [HRE2.out e h, if_neg (by omega)]
        · rw [getD_ge (by rw [HRL.out]; omega), getD_ge (by omega)]

end Go.Proofs.Ytfioaohadanjmaa

/- spec.l10After. -/
namespace Go.Proofs.Ytfioaohadanjmaa
open Go.RowKit

theorem OBools.ofRow {w : World} {base g s : Nat} {l : List Bool} (h : RowB w g 4 (bv l)) (hb : base ≤ g) (hl : l.length = s) (hm : s ≤ 100000) : OBools w base (.slice (some ⟨g, 0, none⟩) s s) l := by
  refine ⟨by rw [bv_len, Nat.mul_one], .inr ⟨g, s, (bv l).toArray, by rw [hl], hb, h, by omega, by simp only [maxLen]; omega, by simp [bv_len]; omega, ?_⟩⟩
  rw [Nat.mul_one, ← bv_len, List.take_length]
theorem wpList_app_bools2 {ops : Array Oper} {rest : List Oper} {o : Oper} {a : Act} {Q : Exit → Act → World → Prop} {w : World} (hgd : o.guard = none) (s x : Operand)
    (ho : o.op = .call { callee := .builtin .append, args := #[s, x], argTypes := #[59, 59] })
    (base : Nat) (v : Value) (l : List Bool) (hs : a.eval s = v) (hP : OBools w base v l) (B : Nat) (vs : Value) (ts : List Bool) (hx : a.eval x = vs) (hr : BoolS w B vs ts) (hb : base ≤ w.heap.size) (hn : l.length + ts.length ≤ 8388608)
    (h : ∀ v' w', OBools w' base v' (l ++ ts) → Below base w w' → wpList Try.prog ops Q rest (a.put o.dst v') w') : wpList Try.prog ops Q (o :: rest) a w :=
  wpList_app_bools hgd s x ho base v l hs hP B vs ts hx hr hb hn fun v' w' h1 h2 _ => h v' w' h1 ((Evo.grown (T := 4) hP h2).below hb)

theorem afr_mk {ts : List Int} {G : Nat → Pt → Nat → Bool} {C : Pt → Bool} {s i : Nat} {p : Pt} {before rows : List (List Bool)} (hl : rows.length = ts.length) (h : ∀ u, u < ts.length → (rows.getD u []).length = s ∧ ∀ e, e < s → rget rows u e = (rget before u e && !(useP ts p.op p.x p.y (u : Nat) == 2))) (hs : setsP p.op p.x < 0) : AfR ts G C s i p before rows :=
  ⟨hl, fun v hv => (h v hv).1, fun v e hv he => by rw [(h v hv).2 e he]; unfold aftB; rw [if_neg (by omega)]⟩
theorem afr_set {ts : List Int} {G : Nat → Pt → Nat → Bool} {C : Pt → Bool} {s i x : Nat} {p : Pt} {before rows : List (List Bool)} {vl : List Bool} (hl : rows.length = ts.length) (h : ∀ u, u < ts.length → (rows.getD u []).length = s ∧ ∀ e, e < s → rget rows u e = (rget before u e && !(useP ts p.op p.x p.y (u : Nat) == 2))) (hx : setsP p.op p.x = (x : Int)) (hxl : x < ts.length)
    (hvl : vl.length = s) (hv : ∀ e, e < s → vl.getD e false = (G i p e || (C p && rget before p.y.toNat e))) : AfR ts G C s i p before (rows.set x vl) := by
  refine ⟨by simp [hl], fun v hv2 => ?_, fun v e hv2 he => ?_⟩
  · rw [getD_setT (by omega)]; split
    · exact hvl
    · exact (h v hv2).1
  · unfold rget
    rw [getD_setT (by omega)]
    unfold aftB
    by_cases e1 : v = x
    · rw [if_pos e1, if_pos (by omega)]; exact hv e he
    · rw [if_neg e1, if_neg (by omega)]; exact (h v hv2).2 e he

end Go.Proofs.Ytfioaohadanjmaa

/- spec.l10Merge. -/
namespace Go.Proofs.Ytfioaohadanjmaa
open Go.RowKit

/-- rows r' are r with what af has, as far as place (k, j) -/
structure MgI (m s : Nat) (r af r' : List (List Bool)) (c : Bool) (k j : Nat) : Prop where
  len : r'.length = m
  inn : ∀ v, v < m → (r'.getD v []).length = s
  get : ∀ v e, v < m → e < s → rget r' v e = if v < k ∨ (v = k ∧ e < j) then (rget r v e || rget af v e) else rget r v e
  yes : c = true → ∃ v e, v < m ∧ e < s ∧ rget r v e = false ∧ rget af v e = true
  no : c = false → r' = r
theorem MgI.start {m s : Nat} {r af : List (List Bool)} (hl : r.length = m) (hi : ∀ v, v < m → (r.getD v []).length = s) : MgI m s r af r false 0 0 :=
  ⟨hl, hi, fun v e _ _ => by rw [if_neg (by omega)], fun h => (by cases h), fun _ => rfl⟩
theorem MgI.next {m s k j : Nat} {r af r' : List (List Bool)} {c : Bool} (h : MgI m s r af r' c k j) (hj : j = s) : MgI m s r af r' c (k + 1) 0 := by
  refine ⟨h.len, h.inn, fun v e hv he => ?_, h.yes, h.no⟩
  rw [h.get v e hv he]
  by_cases h1 : v < k ∨ (v = k ∧ e < j)
  · rw [if_pos h1, if_pos (by omega)]
  · rw [if_neg h1, if_neg (by omega)]
theorem MgI.set {m s k j : Nat} {r af r' : List (List Bool)} {c : Bool} (h : MgI m s r af r' c k j) (hk : k < m) (hj : j < s) (ha : rget af k j = true) (h0 : rget r' k j = false) : MgI m s r af (rset r' k j true) true k (j + 1) := by
  have hkl : k < r'.length := by rw [h.len]; exact hk
  have hjl : j < (r'.getD k []).length := by rw [h.inn k hk]; exact hj
  have hr0 : rget r k j = false := by
    have := h.get k j hk hj
    rw [if_neg (by omega), h0] at this
    exact this.symm
  refine ⟨by rw [rset_len]; exact h.len, fun v hv => by rw [rset_row hkl]; exact h.inn v hv, fun v e hv he => ?_, fun _ => ⟨k, j, hk, hj, hr0, ha⟩, fun h => (by cases h)⟩
  rw [rget_rset hkl hjl]
  by_cases h2 : v = k ∧ e = j
  · obtain ⟨rfl, rfl⟩ := h2
    rw [if_pos ⟨rfl, rfl⟩, if_pos (by omega), ha, Bool.or_true]
  · rw [if_neg h2, h.get v e hv he]
    by_cases h1 : v < k ∨ (v = k ∧ e < j)
    · rw [if_pos h1, if_pos (by omega)]
    · rw [if_neg h1, if_neg (by omega)]
theorem MgI.done {m s k : Nat} {r af r' : List (List Bool)} {c : Bool} (h : MgI m s r af r' c k 0) (hk : k = m) : Mrg m s r af r' :=
  ⟨h.len, h.inn, fun v e hv he => by rw [h.get v e hv he, if_pos (by omega)]⟩

end Go.Proofs.Ytfioaohadanjmaa
