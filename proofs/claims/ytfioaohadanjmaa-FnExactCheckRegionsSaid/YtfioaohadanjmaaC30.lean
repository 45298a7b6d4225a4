import Derived.Test.YtfioaohadanjmaaC29
set_option linter.unusedVariables false

/- The list of states of spec.l4Flow. -/
namespace Go.Proofs.Ytfioaohadanjmaa
open Go.RowKit

theorem Try.infoSt4 : (Try.prog.info? 99).map (fun i => (i.zero, i.size, i.bytes)) = some (some (.agg #[.slice none 0 0, .slice none 0 0]), 2, 48) := by kernel_rfl
def c4 (s : Nat) : List (Value × Nat) → List Value
  | [] => []
  | x :: r => x.1 :: .slice (some ⟨x.2, 0, none⟩) s s :: c4 s r
theorem c4_append (s : Nat) (a b : List (Value × Nat)) : c4 s (a ++ b) = c4 s a ++ c4 s b := by
  induction a with
  | nil => rfl
  | cons x r ih => simp [c4, ih]
def dq : Value × Nat := (.slice none 0 0, 0)
theorem c4_at (s : Nat) {ps : List (Value × Nat)} {i : Nat} (hi : i < ps.length) : (c4 s ps)[i * 2]? = some (ps.getD i dq).1 ∧ (c4 s ps)[i * 2 + 1]? = some (.slice (some ⟨(ps.getD i dq).2, 0, none⟩) s s) := by
  induction ps generalizing i with
  | nil => simp at hi
  | cons x r ih =>
    cases i with
    | zero => simp [c4]
    | succ i =>
      have := ih (i := i) (by simpa using hi)
      simp only [c4, show (i + 1) * 2 = i * 2 + 2 by omega, show i * 2 + 2 + 1 = i * 2 + 1 + 2 by omega, List.getElem?_cons_succ]
      simpa using this
/-- states, one for each point -/
structure B4 (w : World) (base : Nat) (vo : Value) (ps : List (Value × Nat)) (rbs : List (List Nat)) (s : Nat) (R : List (List (List Bool))) (Q : List (List Bool)) : Prop where
  own : w.ownsRow base 99 2 vo R.length (c4 s ps)
  pl : ps.length = R.length
  rl : rbs.length = R.length
  ql : Q.length = R.length
  mid : ∀ i, i < R.length → BRow w base (ps.getD i dq).1 (rbs.getD i []) s (R.getD i [])
  plc : ∀ i, i < R.length → RowB w (ps.getD i dq).2 4 (bv (Q.getD i [])) ∧ base ≤ (ps.getD i dq).2
  sep : ∀ i j, i < R.length → j < R.length → i ≠ j → ∀ u v, u < (R.getD i []).length → v < (R.getD j []).length → (rbs.getD i []).getD u 0 ≠ (rbs.getD j []).getD v 0
  sepP : ∀ i j, i < R.length → j < R.length → ∀ u, u < (R.getD j []).length → (ps.getD i dq).2 ≠ (rbs.getD j []).getD u 0
  injP : ∀ i j, i < R.length → j < R.length → (ps.getD i dq).2 = (ps.getD j dq).2 → i = j
theorem B4.empty (w : World) (base s : Nat) (hb : base ≤ w.heap.size) : B4 (w.alloc (.cells #[] 99)) base (.slice (some ⟨w.heap.size, 0, none⟩) 0 0) [] [] s [] [] :=
  ⟨World.ownsRow_lit (base := base) (e := 99) (size := 2) w #[] 0 hb (by simp [maxLen]) rfl, rfl, rfl, rfl, fun i h => by simp at h, fun i h => by simp at h, fun i j h => by simp at h, fun i j h => by simp at h, fun i j h => by simp at h⟩
theorem B4.slice {w : World} {base s : Nat} {vo : Value} {ps : List (Value × Nat)} {rbs : List (List Nat)} {R : List (List (List Bool))} {Q : List (List Bool)} (h : B4 w base vo ps rbs s R Q) : ∃ A c, vo = .slice A R.length c ∧ R.length ≤ c := by
  rcases h.own.2 with ⟨rfl, h0⟩ | ⟨g, cap, cur, rfl, _, _, hc, _⟩
  · exact ⟨none, 0, by rw [h0], by omega⟩
  · exact ⟨_, cap, rfl, hc⟩
theorem B4.low {w w' : World} {base s : Nat} {vo : Value} {ps : List (Value × Nat)} {rbs : List (List Nat)} {R : List (List (List Bool))} {Q : List (List Bool)} (h : B4 w base vo ps rbs s R Q) (hb : Below w.heap.size w w') : B4 w' base vo ps rbs s R Q :=
  ⟨h.own.kept (grown_bel hb (Nat.le_refl _) none) (by cases vo.ownBlock <;> simp), h.pl, h.rl, h.ql, fun i hi => (h.mid i hi).low hb, fun i hi => ⟨(h.plc i hi).1.low hb (h.plc i hi).1.lt, (h.plc i hi).2⟩, h.sep, h.sepP, h.injP⟩
theorem B4.at_ {w : World} {base s n c : Nat} {A : Option Addr} {ps : List (Value × Nat)} {rbs : List (List Nat)} {R : List (List (List Bool))} {Q : List (List Bool)} (h : B4 w base (.slice A n c) ps rbs s R Q) {k : Nat} (hk : k < R.length) :
    ∃ g, A = some ⟨g, 0, none⟩ ∧ base ≤ g ∧ g < w.heap.size ∧ n = R.length ∧ w.cell? ⟨g, k * 2, none⟩ = some (ps.getD k dq).1 ∧ w.cell? ⟨g, k * 2 + 1, none⟩ = some (.slice (some ⟨(ps.getD k dq).2, 0, none⟩) s s) := by
  obtain ⟨A', c', e, _⟩ := h.slice
  injection e with _ e2 _
  subst e2
  obtain ⟨g, cap, e, hb, hlt⟩ := World.ownsRow.form h.own (by omega)
  injection e with e1 _ e3
  subst e1 e3
  have h4 := c4_at s (ps := ps) (i := k) (by rw [h.pl]; exact hk)
  exact ⟨g, rfl, hb, hlt, rfl, (h.own.cellAt _ (by omega)).trans h4.1, (h.own.cellAt _ (by omega)).trans h4.2⟩
theorem getD_snocL {α : Type} {l : List α} {x d : α} {i : Nat} (hi : i < l.length + 1) : (l ++ [x]).getD i d = if i < l.length then l.getD i d else x := by
  by_cases h : i < l.length
  · rw [if_pos h, getD_lt (by simp; omega), List.getElem_append_left h, getD_lt h]
  · have : i = l.length := by omega
    subst this
    rw [if_neg h]; simp [List.getD]
/-- append(out, state) -/
theorem wpList_push_b4 {ops : Array Oper} {rest : List Oper} {o : Oper} {a : Act} {K : Exit → Act → World → Prop} {w : World} {base s pb base2 : Nat} {vo : Value} {ps : List (Value × Nat)} {rbs : List (List Nat)} {R : List (List (List Bool))} {Q : List (List Bool)} (hgd : o.guard = none) (sp x : Operand)
    (ho : o.op = .call { callee := .builtin .append, args := #[sp, x], argTypes := #[95, 95] })
    (hP : B4 w base vo ps rbs s R Q) (hb : base ≤ w.heap.size) (hn : R.length + 1 ≤ 100000) (xv : Value) (rb : List Nat) (rows : List (List Bool)) (q : List Bool) (hr : BRow w base2 xv rb s rows) (hq : RowB w pb 4 (bv q)) (hb2 : base ≤ pb) (hpb : pb < base2)
    (hlow : ∀ i u, i < R.length → u < (R.getD i []).length → (rbs.getD i []).getD u 0 < pb) (hlowP : ∀ i, i < R.length → (ps.getD i dq).2 < pb)
    (hs : a.eval sp = vo) (hx : a.eval x = .slice (some ⟨w.heap.size, 0, none⟩) 1 1)
    (h : ∀ v' w', B4 w' base v' (ps ++ [(xv, pb)]) (rbs ++ [rb]) s (R ++ [rows]) (Q ++ [q]) → Below base w w' → wpList Try.prog ops K rest (a.put o.dst v') w') :
    wpList Try.prog ops K (o :: rest) a (w.alloc (.cells #[xv, .slice (some ⟨pb, 0, none⟩) s s] 99)) := by
  obtain ⟨i0, hi0, hz0, hz1, hz2⟩ := info_parts Try.infoSt4
  have hown := World.ownsRow.alloc hP.own (.cells #[xv, .slice (some ⟨pb, 0, none⟩) s s] 99)
  have hr1 := heap_alloc_new w (.cells #[xv, .slice (some ⟨pb, 0, none⟩) s s] 99)
  have hx1 : xv.oneCell' = true := by obtain ⟨A, c, rfl, _⟩ := hr.slice; rfl
  refine wpList_append_own_at _ hgd sp x 95 ho base 99 i0 _ 2 48 Try.underlying95 hi0 hz0 hz1 hz2 rfl (by omega) vo R.length _ hs hown ⟨w.heap.size, 0, none⟩ 1 1 [xv, .slice (some ⟨pb, 0, none⟩) s s] hx rfl ?_ ?_ (by simp only [maxLen]; omega) (by omega) (by simp; omega) ?_
  · intro j u hu
    have : (w.alloc (.cells #[xv, .slice (some ⟨pb, 0, none⟩) s s] 99)).cell? ⟨w.heap.size, j, none⟩ = some u := by
      rw [cell_of_row _ _ _ _ _ _ hr1]; simpa using hu
    unfold Addr.add
    by_cases hj : j = 0
    · subst hj; simpa using this
    · simpa [hj] using this
  · intro u hu
    simp at hu
    rcases hu with rfl | rfl
    · exact hx1
    · rfl
  · intro v' w' k1 k2 k3 k4
    have hev := Evo.grown (T := 99) hown k2
    have hba := bel_a w (.cells #[xv, .slice (some ⟨pb, 0, none⟩) s s] 99)
    have hkeep : ∀ {b m : Nat} {v : Value} {rb : List Nat} {rows : List (List Bool)}, BRow w b v rb m rows → BRow w' b v rb m rows := fun hv => by
      have h1 := hv.low hba
      exact ⟨hev.own h1.own (by decide), h1.len, fun i hi => ⟨by have := hev.box (h1.row i hi).1 (by decide); exact this, (h1.row i hi).2⟩, h1.inj⟩
    have hkeepP : ∀ {g : Nat} {l : List Bool}, RowB w g 4 (bv l) → RowB w' g 4 (bv l) := fun hv => hev.box (hv.alloc _) (by decide)
    have eR : ∀ i, i < (R ++ [rows]).length → (R ++ [rows]).getD i [] = if i < R.length then R.getD i [] else rows := fun i hi => getD_snocL (by simpa using hi)
    have eQ : ∀ i, i < (R ++ [rows]).length → (Q ++ [q]).getD i [] = if i < R.length then Q.getD i [] else q := fun i hi => by rw [getD_snocL (by rw [hP.ql]; simpa using hi), hP.ql]
    have eB : ∀ i, i < (R ++ [rows]).length → (rbs ++ [rb]).getD i [] = if i < R.length then rbs.getD i [] else rb := fun i hi => by rw [getD_snocL (by rw [hP.rl]; simpa using hi), hP.rl]
    have eP : ∀ i, i < (R ++ [rows]).length → (ps ++ [(xv, pb)]).getD i dq = if i < R.length then ps.getD i dq else (xv, pb) := fun i hi => by rw [getD_snocL (by rw [hP.pl]; simpa using hi), hP.pl]
    refine h v' w' ⟨by rw [List.length_append, c4_append]; exact k1, by simp [hP.pl], by simp [hP.rl], by simp [hP.ql], fun i hi => ?_, fun i hi => ?_, fun i j hi hj hij u v hu hv => ?_, fun i j hi hj u hu => ?_, fun i j hi hj he => ?_⟩ ((hba.mono hb).trans (hev.below (by simp; omega)))
    · rw [eP i hi, eB i hi, eR i hi]
      split
      · exact hkeep (hP.mid i (by assumption))
      · exact hkeep (hr.base (by omega))
    · rw [eP i hi, eQ i hi]
      split
      · exact ⟨hkeepP (hP.plc i (by assumption)).1, (hP.plc i (by assumption)).2⟩
      · exact ⟨hkeepP hq, hb2⟩
    · rw [eB i hi, eB j hj]
      rw [eR i hi] at hu
      rw [eR j hj] at hv
      split at hu <;> split at hv
      · rename_i h1 h2
        rw [if_pos h1, if_pos h2]; exact hP.sep i j h1 h2 hij u v hu hv
      · rename_i h1 h2
        rw [if_pos h1, if_neg h2]
        have := hlow i u h1 hu
        have := (hr.row v hv).2
        omega
      · rename_i h1 h2
        rw [if_neg h1, if_pos h2]
        have := hlow j v h2 hv
        have := (hr.row u hu).2
        omega
      · simp at hi hj; omega
    · rw [eP i hi, eB j hj]
      rw [eR j hj] at hu
      by_cases h1 : i < R.length
      · rw [if_pos h1]
        split at hu
        · rename_i h2
          rw [if_pos h2]; exact hP.sepP i j h1 h2 u hu
        · rename_i h2
          rw [if_neg h2]
          have := hlowP i h1
          have := (hr.row u hu).2
          omega
      · rw [if_neg h1]
        split at hu
        · rename_i h2
          rw [if_pos h2]
          have := hlow j u h2 hu
          show pb ≠ _
          omega
        · rename_i h2
          rw [if_neg h2]
          have := (hr.row u hu).2
          show pb ≠ _
          omega
    · rw [eP i hi, eP j hj] at he
      simp at hi hj
      split at he <;> split at he
      · exact hP.injP i j (by assumption) (by assumption) he
      · have := hlowP i (by assumption)
        have he' : (ps.getD i dq).2 = pb := he
        omega
      · have := hlowP j (by assumption)
        have he' : pb = (ps.getD j dq).2 := he
        omega
      · omega
theorem B4.own_ne {w : World} {base s : Nat} {vo : Value} {ps : List (Value × Nat)} {rbs : List (List Nat)} {R : List (List (List Bool))} {Q : List (List Bool)} (h : B4 w base vo ps rbs s R Q) {g b : Nat} {l : List Value} (hg : vo.ownBlock = some g) (hb : RowB w b 4 l) : g ≠ b := by
  rcases h.own.2 with ⟨rfl, _⟩ | ⟨g', cap, cur, rfl, _, hh, _⟩
  · cases hg
  · injection hg with hg
    have e : g' = g := hg
    subst e
    rintro rfl
    unfold RowB at hb
    rw [hh] at hb
    injection hb with hb
    injection hb with _ hT
    exact absurd hT (by decide)
/-- one point's placed row turned -/
theorem B4.setP {w w' : World} {base s n : Nat} {vo : Value} {ps : List (Value × Nat)} {rbs : List (List Nat)} {R : List (List (List Bool))} {Q : List (List Bool)} {q : List Bool} (h : B4 w base vo ps rbs s R Q) (hn : n < R.length)
    (hp : RowB w' (ps.getD n dq).2 4 (bv q)) (hk : Onl (fun b => b = (ps.getD n dq).2) w w') : B4 w' base vo ps rbs s R (Q.set n q) := by
  have hnQ : n < Q.length := by rw [h.ql]; exact hn
  refine ⟨own_onl h.own hk fun g hg e => h.own_ne hg (h.plc n hn).1 e, h.pl, h.rl, by rw [List.length_set]; exact h.ql, fun i hi => (h.mid i hi).onl hk (fun g hg e => (h.mid i hi).own_ne hg (h.plc n hn).1 e) fun u hu e => h.sepP n i hn hi u hu (by have e' : (rbs.getD i []).getD u 0 = (ps.getD n dq).2 := e; exact e'.symm), fun i hi => ?_, h.sep, h.sepP, h.injP⟩
  rw [getD_setT hnQ]
  by_cases e : i = n
  · subst e; rw [if_pos rfl]; exact ⟨hp, (h.plc i hi).2⟩
  · rw [if_neg e]
    exact ⟨(h.plc i hi).1.onl hk fun e' => e (h.injP i n hi hn e'), (h.plc i hi).2⟩
/-- one row of one point turned -/
theorem B4.setR {w w' : World} {base s n v : Nat} {vo : Value} {ps : List (Value × Nat)} {rbs : List (List Nat)} {R : List (List (List Bool))} {Q : List (List Bool)} {r : List Bool} (h : B4 w base vo ps rbs s R Q) (hn : n < R.length) (hv : v < (R.getD n []).length)
    (hp : RowB w' ((rbs.getD n []).getD v 0) 4 (bv r)) (hk : Onl (fun b => b = (rbs.getD n []).getD v 0) w w') : B4 w' base vo ps rbs s (R.set n ((R.getD n []).set v r)) Q := by
  have eR : ∀ i, ((R.set n ((R.getD n []).set v r)).getD i []).length = (R.getD i []).length := fun i => by
    rw [getD_setT hn]; split
    · rename_i e; subst e; simp
    · rfl
  have hrow := ((h.mid n hn).row v hv).1
  refine ⟨by rw [List.length_set]; exact own_onl h.own hk fun g hg e => h.own_ne hg hrow e, by rw [List.length_set]; exact h.pl, by rw [List.length_set]; exact h.rl, by rw [List.length_set]; exact h.ql, fun i hi => ?_, fun i hi => ?_, fun i j hi hj hij u v hu hv => ?_, fun i j hi hj u hu => ?_, fun i j hi hj he => ?_⟩
  · rw [List.length_set] at hi
    rw [getD_setT hn]
    by_cases e : i = n
    · subst e
      rw [if_pos rfl]
      have hm := h.mid i hi
      refine ⟨by rw [List.length_set]; exact own_onl hm.own hk fun g hg e => hm.own_ne hg hrow e, by rw [List.length_set]; exact hm.len, fun u hu => ?_, fun u v hu hv he => ?_⟩
      · rw [List.length_set] at hu
        rw [getD_setT hv]
        by_cases e2 : u = v
        · subst e2; rw [if_pos rfl]; exact ⟨hp, (hm.row u hu).2⟩
        · rw [if_neg e2]
          exact ⟨(hm.row u hu).1.onl hk fun e' => e2 (hm.inj u v hu hv e'), (hm.row u hu).2⟩
      · rw [List.length_set] at hu hv
        exact hm.inj u v hu hv he
    · rw [if_neg e]
      exact (h.mid i hi).onl hk (fun g hg e' => (h.mid i hi).own_ne hg hrow e') fun u hu e' => h.sep i n hi hn e u v hu hv e'
  · rw [List.length_set] at hi
    exact ⟨(h.plc i hi).1.onl hk fun e' => h.sepP i n hi hn v hv e', (h.plc i hi).2⟩
  · rw [List.length_set] at hi hj
    rw [eR] at hu hv
    exact h.sep i j hi hj hij u v hu hv
  · rw [List.length_set] at hi hj
    rw [eR] at hu
    exact h.sepP i j hi hj u hu
  · rw [List.length_set] at hi hj
    exact h.injP i j hi hj he

end Go.Proofs.Ytfioaohadanjmaa
