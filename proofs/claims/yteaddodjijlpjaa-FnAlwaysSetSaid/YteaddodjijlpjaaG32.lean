import Derived.Test.YteaddodjijlpjaaG31
import Derived.Test.YteaddodjijlpjaaG29
set_option linter.unusedVariables false

/- Rows of rows of rows of bools; spec.l4Add, l10Value. -/
namespace Go.Proofs.Yteaddodjijlpjaa
open Go.RowKit

theorem BRow.onl {S : Nat → Prop} {w w' : World} {base m : Nat} {v : Value} {rb : List Nat} {rows : List (List Bool)} (h : BRow w base v rb m rows) (k : Onl S w w') (hv : ∀ g, v.ownBlock = some g → ¬ S g) (hr : ∀ i, i < rows.length → ¬ S (rb.getD i 0)) : BRow w' base v rb m rows :=
  ⟨own_onl h.own k hv, h.len, fun i hi => ⟨(h.row i hi).1.onl k (hr i hi), (h.row i hi).2⟩, h.inj⟩
theorem BRow.base {w : World} {base base' m : Nat} {v : Value} {rb : List Nat} {rows : List (List Bool)} (h : BRow w base v rb m rows) (hb : base' ≤ base) : BRow w base' v rb m rows := by
  refine ⟨⟨h.own.1, ?_⟩, h.len, fun i hi => ⟨(h.row i hi).1, by have := (h.row i hi).2; omega⟩, h.inj⟩
  rcases h.own.2 with h' | ⟨g, cap, cur, rfl, hbg, rest⟩
  · exact .inl h'
  · exact .inr ⟨g, cap, cur, rfl, by omega, rest⟩
theorem BRow.own_ne {w : World} {base m : Nat} {v : Value} {rb : List Nat} {rows : List (List Bool)} (h : BRow w base v rb m rows) {g b : Nat} {l : List Value} (hg : v.ownBlock = some g) (hb : RowB w b 4 l) : g ≠ b := by
  rcases h.own.2 with ⟨rfl, _⟩ | ⟨g', cap, cur, rfl, _, hh, _⟩
  · cases hg
  · injection hg with hg
    have e : g' = g := hg
    subst e
    rintro rfl
    unfold RowB at hb
    rw [hh] at hb
    injection hb with hb
    injection hb with _ hT
    exact absurd hT (by decide)

theorem Try.infoBss : (Try.prog.info? 72).map (fun i => (i.zero, i.size, i.bytes)) = some (some (.slice none 0 0), 1, 24) := by kernel_rfl
/-- rows of rows of bools, one for each point -/
structure B3 (w : World) (base : Nat) (vo : Value) (mv : List Value) (rbs : List (List Nat)) (s : Nat) (R : List (List (List Bool))) : Prop where
  own : w.ownsRow base 72 1 vo R.length mv
  ml : mv.length = R.length
  rl : rbs.length = R.length
  mid : ∀ i, i < R.length → BRow w base (mv.getD i (.slice none 0 0)) (rbs.getD i []) s (R.getD i [])
  sep : ∀ i j, i < R.length → j < R.length → i ≠ j → ∀ u v, u < (R.getD i []).length → v < (R.getD j []).length → (rbs.getD i []).getD u 0 ≠ (rbs.getD j []).getD v 0
theorem B3.empty (w : World) (base s : Nat) (hb : base ≤ w.heap.size) : B3 (w.alloc (.cells #[] 72)) base (.slice (some ⟨w.heap.size, 0, none⟩) 0 0) [] [] s [] :=
  ⟨World.ownsRow_lit (base := base) (e := 72) (size := 1) w #[] 0 hb (by simp [maxLen]) rfl, rfl, rfl, fun i h => by simp at h, fun i j h => by simp at h⟩
theorem B3.slice {w : World} {base s : Nat} {vo : Value} {mv : List Value} {rbs : List (List Nat)} {R : List (List (List Bool))} (h : B3 w base vo mv rbs s R) : ∃ A c, vo = .slice A R.length c ∧ R.length ≤ c := by
  rcases h.own.2 with ⟨rfl, h0⟩ | ⟨g, cap, cur, rfl, _, _, hc, _⟩
  · exact ⟨none, 0, by rw [h0], by omega⟩
  · exact ⟨_, cap, rfl, hc⟩
theorem B3.low {w w' : World} {base s : Nat} {vo : Value} {mv : List Value} {rbs : List (List Nat)} {R : List (List (List Bool))} (h : B3 w base vo mv rbs s R) (hb : Below w.heap.size w w') : B3 w' base vo mv rbs s R :=
  ⟨h.own.kept (grown_bel hb (Nat.le_refl _) none) (by cases vo.ownBlock <;> simp), h.ml, h.rl, fun i hi => (h.mid i hi).low hb, h.sep⟩
theorem B3.at_ {w : World} {base s n c : Nat} {A : Option Addr} {mv : List Value} {rbs : List (List Nat)} {R : List (List (List Bool))} (h : B3 w base (.slice A n c) mv rbs s R) {k : Nat} (hk : k < R.length) :
    ∃ g, A = some ⟨g, 0, none⟩ ∧ base ≤ g ∧ g < w.heap.size ∧ n = R.length ∧ w.cell? ⟨g, k, none⟩ = some (mv.getD k (.slice none 0 0)) := by
  obtain ⟨A', c', e, _⟩ := h.slice
  injection e with _ e2 _
  subst e2
  obtain ⟨g, cap, e, hb, hlt⟩ := World.ownsRow.form h.own (by omega)
  injection e with e1 _ e3
  subst e1 e3
  refine ⟨g, rfl, hb, hlt, rfl, ?_⟩
  have hkl : k < mv.length := by rw [h.ml]; exact hk
  rw [h.own.cellAt k (by omega), List.getElem?_eq_getElem hkl, getD_lt hkl]
/-- append(out, row) -/
theorem wpList_push_b3 {ops : Array Oper} {rest : List Oper} {o : Oper} {a : Act} {Q : Exit → Act → World → Prop} {w : World} {base base2 s : Nat} {vo : Value} {mv : List Value} {rbs : List (List Nat)} {R : List (List (List Bool))} (hgd : o.guard = none) (sp x : Operand)
    (ho : o.op = .call { callee := .builtin .append, args := #[sp, x], argTypes := #[73, 73] })
    (hP : B3 w base vo mv rbs s R) (hb : base ≤ w.heap.size) (hn : R.length + 1 ≤ 100000) (xv : Value) (rb : List Nat) (rows : List (List Bool)) (hr : BRow w base2 xv rb s rows) (hb2 : base ≤ base2) (hlow : ∀ i u, i < R.length → u < (R.getD i []).length → (rbs.getD i []).getD u 0 < base2)
    (hs : a.eval sp = vo) (hx : a.eval x = .slice (some ⟨w.heap.size, 0, none⟩) 1 1)
    (h : ∀ v' w', B3 w' base v' (mv ++ [xv]) (rbs ++ [rb]) s (R ++ [rows]) → Below base w w' → wpList Try.prog ops Q rest (a.put o.dst v') w') :
    wpList Try.prog ops Q (o :: rest) a (w.alloc (.cells #[xv] 72)) := by
  obtain ⟨i0, hi0, hz0, hz1, hz2⟩ := info_parts Try.infoBss
  have hown := World.ownsRow.alloc hP.own (.cells #[xv] 72)
  have hr1 := heap_alloc_new w (.cells #[xv] 72)
  have hx1 : xv.oneCell' = true := by obtain ⟨A, c, rfl, _⟩ := hr.slice; rfl
  refine wpList_append_own_at _ hgd sp x 73 ho base 72 i0 _ 1 24 Try.underlying73 hi0 hz0 hz1 hz2 rfl (by omega) vo R.length _ hs hown ⟨w.heap.size, 0, none⟩ 1 1 [xv] hx rfl ?_ ?_ (by simp only [maxLen]; omega) (by omega) (by simp; omega) ?_
  · intro j u hu
    have hj : j = 0 := by
      rcases Nat.eq_zero_or_pos j with h | h
      · exact h
      · rw [List.getElem?_eq_none (by simp; omega)] at hu; cases hu
    subst hj
    have : (w.alloc (.cells #[xv] 72)).cell? ⟨w.heap.size, 0, none⟩ = some u := by
      rw [cell_of_row _ _ _ _ _ _ hr1]; simpa using hu
    simpa [Addr.add] using this
  · intro u hu
    simp at hu
    subst hu; exact hx1
  · intro v' w' k1 k2 k3 k4
    have hev := Evo.grown (T := 72) hown k2
    have hkeep : ∀ {b m : Nat} {v : Value} {rb : List Nat} {rows : List (List Bool)}, BRow w b v rb m rows → BRow w' b v rb m rows := fun hv => by
      have h1 := hv.low (bel_a w (.cells #[xv] 72))
      exact ⟨hev.own h1.own (by decide), h1.len, fun i hi => ⟨by have := hev.box (h1.row i hi).1 (by decide); exact this, (h1.row i hi).2⟩, h1.inj⟩
    have eR : ∀ i, i < (R ++ [rows]).length → (R ++ [rows]).getD i [] = if i < R.length then R.getD i [] else rows := fun i hi => by
      by_cases hil : i < R.length
      · rw [if_pos hil, getD_lt hi, List.getElem_append_left hil, getD_lt hil]
      · have hie : i = R.length := by simp at hi; omega
        subst hie; simp [List.getD]
    have eB : ∀ i, i < (R ++ [rows]).length → (rbs ++ [rb]).getD i [] = if i < R.length then rbs.getD i [] else rb := fun i hi => by
      by_cases hil : i < R.length
      · rw [if_pos hil, getD_lt (by simp [hP.rl]; omega), List.getElem_append_left (by rw [hP.rl]; exact hil), getD_lt (by rw [hP.rl]; exact hil)]
      · have hie : i = rbs.length := by rw [hP.rl]; simp at hi; omega
        subst hie
        rw [if_neg hil]; simp [List.getD]
    have eM : ∀ i, i < (R ++ [rows]).length → (mv ++ [xv]).getD i (.slice none 0 0) = if i < R.length then mv.getD i (.slice none 0 0) else xv := fun i hi => by
      by_cases hil : i < R.length
      · rw [if_pos hil, getD_lt (by simp [hP.ml]; omega), List.getElem_append_left (by rw [hP.ml]; exact hil), getD_lt (by rw [hP.ml]; exact hil)]
      · have hie : i = mv.length := by rw [hP.ml]; simp at hi; omega
        subst hie
        rw [if_neg hil]; simp [List.getD]
    refine h v' w' ⟨by rw [List.length_append]; exact k1, by simp [hP.ml], by simp [hP.rl], fun i hi => ?_, fun i j hi hj hij u v hu hv => ?_⟩ (((bel_a w _).mono hb).trans (hev.below (by simp; omega)))
    · rw [eM i hi, eB i hi, eR i hi]
      split
      · exact hkeep (hP.mid i (by assumption))
      · exact hkeep (hr.base hb2)
    · rw [eB i hi, eB j hj]
      rw [eR i hi] at hu
      rw [eR j hj] at hv
      split at hu <;> split at hv
      · rename_i h1 h2
        rw [if_pos h1, if_pos h2]; exact hP.sep i j h1 h2 hij u v hu hv
      · rename_i h1 h2
        rw [if_pos h1, if_neg h2]
        have := hlow i u h1 hu
        have := (hr.row v hv).2
        omega
      · rename_i h1 h2
        rw [if_neg h1, if_pos h2]
        have := hlow j v h2 hv
        have := (hr.row u hu).2
        omega
      · simp at hi hj; omega
/-- one point's rows turned -/
theorem B3.merge {w w' : World} {base s n : Nat} {vo : Value} {mv : List Value} {rbs : List (List Nat)} {R : List (List (List Bool))} {r' : List (List Bool)} (h : B3 w base vo mv rbs s R) (hn : n < R.length) (hl : r'.length = (R.getD n []).length)
    (hb : BRow w' base (mv.getD n (.slice none 0 0)) (rbs.getD n []) s r') (hk : Onl (fun b => ∃ u, u < (R.getD n []).length ∧ b = (rbs.getD n []).getD u 0) w w') : B3 w' base vo mv rbs s (R.set n r') := by
  have eR : ∀ i, ((R.set n r').getD i []).length = (R.getD i []).length := fun i => by
    rw [getD_setT hn]; split
    · rename_i e; subst e; exact hl
    · rfl
  refine ⟨?_, by rw [List.length_set]; exact h.ml, by rw [List.length_set]; exact h.rl, fun i hi => ?_, fun i j hi hj hij u v hu hv => ?_⟩
  · rw [List.length_set]
    refine own_onl h.own hk fun g hg => ?_
    rintro ⟨u, hu, rfl⟩
    have hr := ((h.mid n hn).row u hu).1
    rcases h.own.2 with ⟨e, _⟩ | ⟨g', cap, cur, e, _, hh, _⟩
    · rw [e] at hg; cases hg
    · rw [e] at hg
      injection hg with hg
      have e' : g' = (rbs.getD n []).getD u 0 := hg
      rw [e'] at hh
      unfold RowB at hr
      rw [hh] at hr
      injection hr with hr
      injection hr with _ hT
      exact absurd hT (by decide)
  · rw [List.length_set] at hi
    rw [getD_setT hn]
    by_cases e : i = n
    · subst e; rw [if_pos rfl]; exact hb
    · rw [if_neg e]
      refine (h.mid i hi).onl hk (fun g hg => ?_) fun v hv => ?_
      · rintro ⟨u, hu, rfl⟩
        exact (h.mid i hi).own_ne hg ((h.mid n hn).row u hu).1 rfl
      · rintro ⟨u, hu, hb⟩
        exact h.sep i n hi hn e v u hv hu hb
  · rw [List.length_set] at hi hj
    rw [eR] at hu hv
    exact h.sep i j hi hj hij u v hu hv

set_option maxHeartbeats 1000000 in
theorem l4Add_any (g n c : Nat) (vf : Value) (l fl : List Bool) (w : World) (hr : RowB w g 4 (bv l)) (hf : BoolX w (fun b => b ≠ g) vf fl) (hn : n = l.length) (hl : fl.length ≤ l.length) (hl2 : l.length ≤ 100000) :
    Calls Try.prog 130 #[.slice (some ⟨g, 0, none⟩) n c, vf] w fun e w' => e = .returned (.tuple #[]) ∧ ∃ r, RowB w' g 4 (bv r) ∧ r.length = l.length ∧ (∀ e, e < fl.length → r.getD e false = (l.getD e false || fl.getD e false)) ∧ (∀ e, fl.length ≤ e → r.getD e false = l.getD e false) ∧ Onl (fun b => b = g) w w' := by
  have HR := Lib.hid hr
  have HF := Lib.hid hf
  have HN := Lib.hid hn
  have hn1 : l.length ≤ n := by omega
  have hn2 : n ≤ l.length := by omega
  obtain ⟨Af, cf, rfl, hcf⟩ := hf.slice
  clear hr hf hn
  go_enter Try.func130, Try.ntmps130
  go_wp2_with fail
  go_loopw [4] (fun i wr => ∃ (k : Nat) (r : List Bool), k ≤ fl.length ∧ i = .int .i64 k ∧ RowB wr g 4 (bv r) ∧ r.length = l.length ∧ (∀ e, e < l.length → r.getD e false = if e < k then (l.getD e false || fl.getD e false) else l.getD e false) ∧ Onl (fun b => b = g) w wr) (fun i _ => fl.length - (intOf i).toNat)
  case atStart => exact ⟨0, l, by omega, rfl, HR.out, rfl, fun e _ => by simp, Onl.refl _ _⟩
  case round =>
    obtain ⟨k, r, hk, rfl, hrw, hrl, hre, hon⟩ := hrel
    have HRW := Lib.hid hrw
    have HRL := Lib.hid hrl
    have HRE := Lib.hid hre
    have HON := Lib.hid hon
    have HFW := Lib.hid (HF.out.frame hon.size fun b hb hl => ⟨hb, hon.block b hl hb⟩)
    clear hrw hrl hre hon
    by_cases hlt : k < fl.length
    · have hkl : k < l.length := by omega
      obtain ⟨b1, o1, rfl, hb1, hbl, e9, hck⟩ := HFW.out.at_ hlt
      have hb1' : b1 ≠ g := hb1
      have hcr : wr.cell? ⟨g, k, none⟩ = some (.bool (r.getD k false)) := by rw [HRW.out.cell, bv_get (by rw [HRL.out]; exact hkl)]
      have hfr := HRW.out.frozen k
      have HX := Lib.hid (HRE.out k hkl)
      rw [if_neg (Nat.lt_irrefl k)] at HX
      obtain ⟨x, hx⟩ : ∃ x, x = r.getD k false := ⟨_, rfl⟩
      obtain ⟨y, hy⟩ : ∃ y, y = fl.getD k false := ⟨_, rfl⟩
      rw [← hx] at hcr HX
      rw [← hy] at hck
      have HY := Lib.hid hy
      have hkn : k < n := by omega
      have hkn2 : (k : Int) < (n : Int) := by omega
      have HEND : Hid (∀ z, z = (x || y) → (∀ e, e < l.length → (r.set k z).getD e false = if e < k + 1 then (l.getD e false || fl.getD e false) else l.getD e false)) := Lib.hid fun z hz e he => by
        rw [getD_setT (by rw [HRL.out]; exact hkl), HRE.out e he]
        by_cases h : e = k
        · subst h; rw [if_pos rfl, if_pos (by omega), ← HX.out, ← HY.out, hz]
        · rw [if_neg h]
          by_cases h2 : e < k
          · rw [if_pos h2, if_pos (by omega)]
          · rw [if_neg h2, if_neg (by omega)]
      clear hx hy e9 hb1
      cases x
      · go_wp2_with fail
        exact ⟨⟨k + 1, r.set k y, by omega, by go_num, by rw [← bv_set]; exact HRW.out.set_ k _, by rw [List.length_set]; exact HRL.out, HEND.out y rfl, HON.out.trans (Onl.set (S := fun b => b = g) _ rfl _ _)⟩, by simp [intOf] <;> omega⟩
      · go_wp2_with fail
        exact ⟨⟨k + 1, r.set k true, by omega, by go_num, by rw [← bv_set]; exact HRW.out.set_ k _, by rw [List.length_set]; exact HRL.out, HEND.out true rfl, HON.out.trans (Onl.set (S := fun b => b = g) _ rfl _ _)⟩, by simp [intOf] <;> omega⟩
    · have hke : k = fl.length := by omega
      have HRE2 : Hid (∀ e, e < l.length → r.getD e false = if e < fl.length then (l.getD e false || fl.getD e false) else l.getD e false) := Lib.hid (by rw [← hke]; exact HRE.out)
      clear hke
      go_wp2_with fail
      go_end0
      refine ⟨rfl, r, HRW.out, HRL.out, fun e he => ?_, fun e he => ?_, HON.out⟩
      · rw [HRE2.out e (by omega), if_pos he]
      · by_cases h : e < l.length
        · rw [HRE2.out e h, if_neg (by omega)]
        · rw [getD_ge (by rw [HRL.out]; omega), getD_ge (by omega)]

/-- what l10Value answers -/
def VaRet (w : World) (s : Nat) (G : Nat → Pt → Nat → Bool) (C : Pt → Bool) (i : Nat) (p : Pt) (before : List (List Bool)) (e : Ending) (w' : World) : Prop :=
  ∃ g vl, e = .returned (.slice (some ⟨g, 0, none⟩) s s) ∧ w.heap.size ≤ g ∧ RowB w' g 4 (bv vl) ∧ vl.length = s ∧ (∀ e, e < s → vl.getD e false = (G i p e || (C p && rget before p.y.toNat e))) ∧ Below w.heap.size w w'
theorem rep_get {s e : Nat} : (List.replicate s false).getD e false = false := by
  by_cases h : e < s
  · rw [getD_lt (by simpa using h)]; simp
  · rw [getD_ge (by simpa using h)]
/-- the box of the program, the box of the point, the row: three new blocks -/
def w3 (w : World) (vt vb nv : Value) (p : Pt) (ls : List Value) : World := ((w.alloc (.cells #[vt, vb] 26)).alloc (.cells #[.int .i64 p.op, .int .i64 p.x, .int .i64 p.y, .int .i64 p.n, nv] 39)).alloc (.cells ls.toArray 4)
theorem w3_row (w : World) (vt vb nv : Value) (p : Pt) (ls : List Value) : RowB (w3 w vt vb nv p ls) (w.heap.size + 2) 4 ls := by
  have h1 := RowB.new ((w.alloc (.cells #[vt, vb] 26)).alloc (.cells #[.int .i64 p.op, .int .i64 p.x, .int .i64 p.y, .int .i64 p.n, nv] 39)) ls 4
  rw [World.size_alloc, World.size_alloc] at h1
  exact h1
theorem w3_pt (w : World) (vt vb nv : Value) (p : Pt) (ls : List Value) : RowB (w3 w vt vb nv p ls) (w.heap.size + 1) 39 [.int .i64 p.op, .int .i64 p.x, .int .i64 p.y, .int .i64 p.n, nv] := by
  have h2 := (RowB.new (w.alloc (.cells #[vt, vb] 26)) [.int .i64 p.op, .int .i64 p.x, .int .i64 p.y, .int .i64 p.n, nv] 39).alloc (.cells ls.toArray 4)
  rw [World.size_alloc] at h2
  exact h2
theorem w3_bel (w : World) (vt vb nv : Value) (p : Pt) (ls : List Value) : Below w.heap.size w (w3 w vt vb nv p ls) := ((bel_a w _).alloc (by simp) _).alloc (by simp; omega) _
theorem w3_size (w : World) (vt vb nv : Value) (p : Pt) (ls : List Value) : (w3 w vt vb nv p ls).heap.size = w.heap.size + 3 := by simp [w3]

/-- one place set -/
theorem va_one {w : World} {vt vb nv : Value} {p : Pt} {s i j : Nat} {G : Nat → Pt → Nat → Bool} {C : Pt → Bool} {before : List (List Bool)} (hj : j < s) (h : ∀ e, e < s → (e == j) = (G i p e || (C p && rget before p.y.toNat e))) :
    VaRet w s G C i p before (.returned (.slice (some ⟨w.heap.size + 2, 0, none⟩) s s)) (w3 w vt vb nv p ((bv (List.replicate s false)).set j (.bool true))) := by
  refine ⟨w.heap.size + 2, (List.replicate s false).set j true, rfl, by omega, by rw [← bv_set]; exact w3_row _ _ _ _ _ _, by simp, fun e he => ?_, w3_bel _ _ _ _ _ _⟩
  rw [getD_setT (by simpa using hj), rep_get, ← h e he]
  by_cases h : e = j <;> simp [h]
/-- no place set -/
theorem va_none {w : World} {vt vb nv : Value} {p : Pt} {s i : Nat} {G : Nat → Pt → Nat → Bool} {C : Pt → Bool} {before : List (List Bool)} (h : ∀ e, e < s → false = (G i p e || (C p && rget before p.y.toNat e))) :
    VaRet w s G C i p before (.returned (.slice (some ⟨w.heap.size + 2, 0, none⟩) s s)) (w3 w vt vb nv p (bv (List.replicate s false))) :=
  ⟨w.heap.size + 2, List.replicate s false, rfl, by omega, w3_row _ _ _ _ _ _, by simp, fun e he => by rw [rep_get]; exact h e he, w3_bel _ _ _ _ _ _⟩

set_option maxHeartbeats 1000000 in
set_option maxRecDepth 100000 in
theorem l10Value_set (vt vb vbf nv : Value) (i s : Nat) (p : Pt) (before : List (List Bool)) (w : World) (hi : i < s) (hs : s ≤ 100000) :
    Calls Try.prog 118 #[.agg #[vt, vb], .agg #[.int .i64 p.op, .int .i64 p.x, .int .i64 p.y, .int .i64 p.n, nv], .int .i64 (i : Nat), vbf, .int .i64 1, .int .i64 (s : Nat)] w (VaRet w s Gset Cset i p before) := by
  have hmk := make_bools s (by omega)
  have h1 := w3_row w vt vb nv p (bv (List.replicate s false))
  have hfr := h1.frozen i
  have hck := h1.cell i
  rw [bv_get (by simpa using hi), rep_get] at hck
  unfold w3 at hfr hck
  clear h1
  go_enter Try.func118, Try.ntmps118
  go_wp2_with fail
  go_ret
  exact va_one hi fun e he => by simp [Gset, Cset]
set_option maxHeartbeats 1000000 in
set_option maxRecDepth 100000 in
theorem l10Value_box (vt vb vbf nv : Value) (i s : Nat) (p : Pt) (before : List (List Bool)) (w : World) (hi : i < s) (hs : s ≤ 100000) (ho : p.op = 2) :
    Calls Try.prog 118 #[.agg #[vt, vb], .agg #[.int .i64 p.op, .int .i64 p.x, .int .i64 p.y, .int .i64 p.n, nv], .int .i64 (i : Nat), vbf, .int .i64 0, .int .i64 (s : Nat)] w (VaRet w s Gcell Ccell i p before) := by
  have HV := Lib.hid (va_one (w := w) (vt := vt) (vb := vb) (nv := nv) (p := p) (G := Gcell) (C := Ccell) (i := i) (before := before) hi fun e he => by simp [Gcell, Ccell, ho])
  obtain ⟨op, px, py, pn, nx⟩ := p
  simp only at ho HV ⊢
  subst ho
  have hmk := make_bools s (by omega)
  have h1 := w3_row w vt vb nv ⟨2, px, py, pn, nx⟩ (bv (List.replicate s false))
  have hfr := h1.frozen i
  have hck := h1.cell i
  rw [bv_get (by simpa using hi), rep_get] at hck
  unfold w3 at hfr hck
  clear h1
  go_enter Try.func118, Try.ntmps118
  go_wp2_with fail
  go_ret
  exact HV.out
set_option maxHeartbeats 1000000 in
set_option maxRecDepth 100000 in
theorem l10Value_int (vt vb vbf nv : Value) (i s : Nat) (p : Pt) (before : List (List Bool)) (w : World) (ho : p.op = 1) (hn : 0 ≤ p.n ∧ p.n < s) (hs : s ≤ 10) :
    Calls Try.prog 118 #[.agg #[vt, vb], .agg #[.int .i64 p.op, .int .i64 p.x, .int .i64 p.y, .int .i64 p.n, nv], .int .i64 (i : Nat), vbf, .int .i64 2, .int .i64 (s : Nat)] w (VaRet w s Gnum Cnum i p before) := by
  obtain ⟨m, hm⟩ : ∃ m : Nat, p.n = m := ⟨p.n.toNat, by omega⟩
  have hms : m < s := by omega
  have HV := Lib.hid (va_one (w := w) (vt := vt) (vb := vb) (nv := nv) (p := p) (G := Gnum) (C := Cnum) (i := i) (before := before) hms fun e he => by
    rw [Bool.eq_iff_iff]; simp [Gnum, Cnum, ho, hm]; omega)
  obtain ⟨op, px, py, pn, nx⟩ := p
  simp only at ho hm HV ⊢
  subst ho hm
  have hmk := make_bools s (by omega)
  have h1 := w3_row w vt vb nv ⟨1, px, py, m, nx⟩ (bv (List.replicate s false))
  have hfr := h1.frozen m
  have hck := h1.cell m
  rw [bv_get (by simpa using hms), rep_get] at hck
  unfold w3 at hfr hck
  clear h1 hn
  go_enter Try.func118, Try.ntmps118
  go_wp2_with fail
  go_ret
  exact HV.out
set_option maxHeartbeats 1000000 in
set_option maxRecDepth 100000 in
theorem l10Value_none (vt vb vbf nv : Value) (i s : Nat) (kd : Int) (p : Pt) (before : List (List Bool)) (w : World) (hs : s ≤ 100000) (hk : (kd = 0 ∧ ¬ p.op = 2 ∧ ¬ p.op = 3 ∧ ¬ p.op = 4 ∧ ¬ p.op = 5) ∨ (kd = 2 ∧ ¬ p.op = 1 ∧ ¬ p.op = 3 ∧ ¬ p.op = 6)) :
    Calls Try.prog 118 #[.agg #[vt, vb], .agg #[.int .i64 p.op, .int .i64 p.x, .int .i64 p.y, .int .i64 p.n, nv], .int .i64 (i : Nat), vbf, .int .i64 kd, .int .i64 (s : Nat)] w (VaRet w s (if kd = 0 then Gcell else Gnum) (if kd = 0 then Ccell else Cnum) i p before) := by
  have hmk := make_bools s (by omega)
  rcases hk with ⟨rfl, h2, h3, h4, h5⟩ | ⟨rfl, h2, h3, h4⟩
  · have HV := Lib.hid (va_none (w := w) (vt := vt) (vb := vb) (nv := nv) (p := p) (s := s) (G := if (0 : Int) = 0 then Gcell else Gnum) (C := if (0 : Int) = 0 then Ccell else Cnum) (i := i) (before := before) fun e he => by simp [Gcell, Ccell, h2, h3, h4, h5])
    have b2 : (p.op == 2) = false := by simpa using h2
    have b3 : (p.op == 3) = false := by simpa using h3
    have b4 : (p.op == 4) = false := by simpa using h4
    have b5 : (p.op == 5) = false := by simpa using h5
    go_enter Try.func118, Try.ntmps118
    go_wp2_with fail
    go_ret
    exact HV.out
  · have HV := Lib.hid (va_none (w := w) (vt := vt) (vb := vb) (nv := nv) (p := p) (s := s) (G := if (2 : Int) = 0 then Gcell else Gnum) (C := if (2 : Int) = 0 then Ccell else Cnum) (i := i) (before := before) fun e he => by simp [Gnum, Cnum, h2, h3, h4])
    go_enter Try.func118, Try.ntmps118
    go_wp2_with fail
    go_ret
    exact HV.out
set_option maxHeartbeats 2000000 in
set_option maxRecDepth 100000 in
theorem l10Value_copy (vt vb vbf nv : Value) (i s : Nat) (kd : Int) (p : Pt) (before : List (List Bool)) (P : Nat → Prop) (w : World) (hs : s ≤ 100000) (hk : (kd = 0 ∧ (p.op = 3 ∨ p.op = 4 ∨ p.op = 5)) ∨ (kd = 2 ∧ p.op = 3)) (hb : RwX w P vbf before) (hy0 : 0 ≤ p.y) (hy : p.y < before.length) (hl : (before.getD p.y.toNat []).length = s) :
    Calls Try.prog 118 #[.agg #[vt, vb], .agg #[.int .i64 p.op, .int .i64 p.x, .int .i64 p.y, .int .i64 p.n, nv], .int .i64 (i : Nat), vbf, .int .i64 kd, .int .i64 (s : Nat)] w (VaRet w s (if kd = 0 then Gcell else Gnum) (if kd = 0 then Ccell else Cnum) i p before) := by
  have hmk := make_bools s (by omega)
  have HFIN : Hid (∀ e, e < s → (before.getD p.y.toNat []).getD e false = ((if kd = 0 then Gcell else Gnum) i p e || ((if kd = 0 then Ccell else Cnum) p && rget before p.y.toNat e))) := Lib.hid fun e he => by
    rcases hk with ⟨rfl, h⟩ | ⟨rfl, h⟩
    · rcases h with h | h | h <;> simp [Gcell, Ccell, h, rget]
    · simp [Gnum, Cnum, h, rget]
  obtain ⟨op, px, py, pn, nx⟩ := p
  simp only at hk hy0 hy hl HFIN ⊢
  rcases hk with ⟨rfl, rfl | rfl | rfl⟩ | ⟨rfl, rfl⟩
  · have h1 := w3_row w vt vb nv ⟨3, px, py, pn, nx⟩ (bv (List.replicate s false))
    have h3 := w3_bel w vt vb nv ⟨3, px, py, pn, nx⟩ (bv (List.replicate s false))
    have h4 := w3_size w vt vb nv ⟨3, px, py, pn, nx⟩ (bv (List.replicate s false))
    obtain ⟨Ab, cb, rfl, hcb⟩ := hb.slice
    obtain ⟨b, off, rv, rfl, hP, hbl, e9, hcell, hrow⟩ := hb.at_ (i := py.toNat) (by omega)
    have hcy := (h3.cell (p := ⟨b, off + py.toNat, none⟩) hbl).trans hcell
    have HRX : Hid (BoolX (w3 w vt vb nv ⟨3, px, py, pn, nx⟩ (bv (List.replicate s false))) (fun b => b ≠ w.heap.size + 2) rv (before.getD py.toNat [])) := Lib.hid (hrow.frame h3.size fun b hp hl => ⟨by omega, h3.block b hl⟩)
    have H1 := Lib.hid h1
    have H3 := Lib.hid h3
    obtain ⟨Ar, cr, rfl, hcr⟩ := hrow.slice
    rw [hl] at hcy hcr HRX
    have HL := Lib.hid hl
    generalize hBR : before.getD py.toNat [] = br at *
    unfold w3 at hcy
    clear h1 h3 h4 hb hP hbl e9 hcell hrow hl hBR
    have HADD := Lib.hid (l4Add_any (w.heap.size + 2) s s (.slice Ar s cr) (List.replicate s false) br (w3 w vt vb nv ⟨3, px, py, pn, nx⟩ (bv (List.replicate s false))) H1.out HRX.out (by simp) (by rw [HL.out]; simp) (by simpa using hs))
    go_enter Try.func118, Try.ntmps118
    go_wp2_with fail
    refine HADD.out.mono ?_
    rintro e w5 ⟨rfl, r, hr, hrl, hre, -, hon⟩
    have HRR := Lib.hid hr
    have HRL := Lib.hid hrl
    have HRE := Lib.hid hre
    have HBB := Lib.hid (H3.out.trans (hon.below (B := w.heap.size) H3.out.size (fun k hk => by omega)))
    clear hr hrl hre hon
    go_wp2_with fail
    go_ret
    exact ⟨w.heap.size + 2, r, rfl, by omega, HRR.out, by rw [HRL.out]; simp, fun e he => by rw [HRE.out e (by rw [HL.out]; exact he), rep_get, Bool.false_or]; exact HFIN.out e he, HBB.out⟩
  · have h1 := w3_row w vt vb nv ⟨4, px, py, pn, nx⟩ (bv (List.replicate s false))
    have h3 := w3_bel w vt vb nv ⟨4, px, py, pn, nx⟩ (bv (List.replicate s false))
    have h4 := w3_size w vt vb nv ⟨4, px, py, pn, nx⟩ (bv (List.replicate s false))
    obtain ⟨Ab, cb, rfl, hcb⟩ := hb.slice
    obtain ⟨b, off, rv, rfl, hP, hbl, e9, hcell, hrow⟩ := hb.at_ (i := py.toNat) (by omega)
    have hcy := (h3.cell (p := ⟨b, off + py.toNat, none⟩) hbl).trans hcell
    have HRX : Hid (BoolX (w3 w vt vb nv ⟨4, px, py, pn, nx⟩ (bv (List.replicate s false))) (fun b => b ≠ w.heap.size + 2) rv (before.getD py.toNat [])) := Lib.hid (hrow.frame h3.size fun b hp hl => ⟨by omega, h3.block b hl⟩)
    have H1 := Lib.hid h1
    have H3 := Lib.hid h3
    obtain ⟨Ar, cr, rfl, hcr⟩ := hrow.slice
    rw [hl] at hcy hcr HRX
    have HL := Lib.hid hl
    generalize hBR : before.getD py.toNat [] = br at *
    unfold w3 at hcy
    clear h1 h3 h4 hb hP hbl e9 hcell hrow hl hBR
    have HADD := Lib.hid (l4Add_any (w.heap.size + 2) s s (.slice Ar s cr) (List.replicate s false) br (w3 w vt vb nv ⟨4, px, py, pn, nx⟩ (bv (List.replicate s false))) H1.out HRX.out (by simp) (by rw [HL.out]; simp) (by simpa using hs))
    go_enter Try.func118, Try.ntmps118
    go_wp2_with fail
    refine HADD.out.mono ?_
    rintro e w5 ⟨rfl, r, hr, hrl, hre, -, hon⟩
    have HRR := Lib.hid hr
    have HRL := Lib.hid hrl
    have HRE := Lib.hid hre
    have HBB := Lib.hid (H3.out.trans (hon.below (B := w.heap.size) H3.out.size (fun k hk => by omega)))
    clear hr hrl hre hon
    go_wp2_with fail
    go_ret
    exact ⟨w.heap.size + 2, r, rfl, by omega, HRR.out, by rw [HRL.out]; simp, fun e he => by rw [HRE.out e (by rw [HL.out]; exact he), rep_get, Bool.false_or]; exact HFIN.out e he, HBB.out⟩
  · have h1 := w3_row w vt vb nv ⟨5, px, py, pn, nx⟩ (bv (List.replicate s false))
    have h3 := w3_bel w vt vb nv ⟨5, px, py, pn, nx⟩ (bv (List.replicate s false))
    have h4 := w3_size w vt vb nv ⟨5, px, py, pn, nx⟩ (bv (List.replicate s false))
    obtain ⟨Ab, cb, rfl, hcb⟩ := hb.slice
    obtain ⟨b, off, rv, rfl, hP, hbl, e9, hcell, hrow⟩ := hb.at_ (i := py.toNat) (by omega)
    have hcy := (h3.cell (p := ⟨b, off + py.toNat, none⟩) hbl).trans hcell
    have HRX : Hid (BoolX (w3 w vt vb nv ⟨5, px, py, pn, nx⟩ (bv (List.replicate s false))) (fun b => b ≠ w.heap.size + 2) rv (before.getD py.toNat [])) := Lib.hid (hrow.frame h3.size fun b hp hl => ⟨by omega, h3.block b hl⟩)
    have H1 := Lib.hid h1
    have H3 := Lib.hid h3
    obtain ⟨Ar, cr, rfl, hcr⟩ := hrow.slice
    rw [hl] at hcy hcr HRX
    have HL := Lib.hid hl
    generalize hBR : before.getD py.toNat [] = br at *
    unfold w3 at hcy
    clear h1 h3 h4 hb hP hbl e9 hcell hrow hl hBR
    have HADD := Lib.hid (l4Add_any (w.heap.size + 2) s s (.slice Ar s cr) (List.replicate s false) br (w3 w vt vb nv ⟨5, px, py, pn, nx⟩ (bv (List.replicate s false))) H1.out HRX.out (by simp) (by rw [HL.out]; simp) (by simpa using hs))
    go_enter Try.func118, Try.ntmps118
    go_wp2_with fail
    refine HADD.out.mono ?_
    rintro e w5 ⟨rfl, r, hr, hrl, hre, -, hon⟩
    have HRR := Lib.hid hr
    have HRL := Lib.hid hrl
    have HRE := Lib.hid hre
    have HBB := Lib.hid (H3.out.trans (hon.below (B := w.heap.size) H3.out.size (fun k hk => by omega)))
    clear hr hrl hre hon
    go_wp2_with fail
    go_ret
    exact ⟨w.heap.size + 2, r, rfl, by omega, HRR.out, by rw [HRL.out]; simp, fun e he => by rw [HRE.out e (by rw [HL.out]; exact he), rep_get, Bool.false_or]; exact HFIN.out e he, HBB.out⟩
  · have h1 := w3_row w vt vb nv ⟨3, px, py, pn, nx⟩ (bv (List.replicate s false))
    have h3 := w3_bel w vt vb nv ⟨3, px, py, pn, nx⟩ (bv (List.replicate s false))
    have h4 := w3_size w vt vb nv ⟨3, px, py, pn, nx⟩ (bv (List.replicate s false))
    obtain ⟨Ab, cb, rfl, hcb⟩ := hb.slice
    obtain ⟨b, off, rv, rfl, hP, hbl, e9, hcell, hrow⟩ := hb.at_ (i := py.toNat) (by omega)
    have hcy := (h3.cell (p := ⟨b, off + py.toNat, none⟩) hbl).trans hcell
    have HRX : Hid (BoolX (w3 w vt vb nv ⟨3, px, py, pn, nx⟩ (bv (List.replicate s false))) (fun b => b ≠ w.heap.size + 2) rv (before.getD py.toNat [])) := Lib.hid (hrow.frame h3.size fun b hp hl => ⟨by omega, h3.block b hl⟩)
    have H1 := Lib.hid h1
    have H3 := Lib.hid h3
    obtain ⟨Ar, cr, rfl, hcr⟩ := hrow.slice
    rw [hl] at hcy hcr HRX
    have HL := Lib.hid hl
    generalize hBR : before.getD py.toNat [] = br at *
    unfold w3 at hcy
    clear h1 h3 h4 hb hP hbl e9 hcell hrow hl hBR
    have HADD := Lib.hid (l4Add_any (w.heap.size + 2) s s (.slice Ar s cr) (List.replicate s false) br (w3 w vt vb nv ⟨3, px, py, pn, nx⟩ (bv (List.replicate s false))) H1.out HRX.out (by simp) (by rw [HL.out]; simp) (by simpa using hs))
    go_enter Try.func118, Try.ntmps118
    go_wp2_with fail
    refine HADD.out.mono ?_
    rintro e w5 ⟨rfl, r, hr, hrl, hre, -, hon⟩
    have HRR := Lib.hid hr
    have HRL := Lib.hid hrl
    have HRE := Lib.hid hre
    have HBB := Lib.hid (H3.out.trans (hon.below (B := w.heap.size) H3.out.size (fun k hk => by omega)))
    clear hr hrl hre hon
    go_wp2_with fail
    go_ret
    exact ⟨w.heap.size + 2, r, rfl, by omega, HRR.out, by rw [HRL.out]; simp, fun e he => by rw [HRE.out e (by rw [HL.out]; exact he), rep_get, Bool.false_or]; exact HFIN.out e he, HBB.out⟩
set_option maxHeartbeats 2000000 in
set_option maxRecDepth 100000 in
theorem l10Value_load (vt vb vbf nv : Value) (i s : Nat) (p : Pt) (before : List (List Bool)) (w : World) (hs : s ≤ 10) (ho : p.op = 6) :
    Calls Try.prog 118 #[.agg #[vt, vb], .agg #[.int .i64 p.op, .int .i64 p.x, .int .i64 p.y, .int .i64 p.n, nv], .int .i64 (i : Nat), vbf, .int .i64 2, .int .i64 (s : Nat)] w (VaRet w s Gnum Cnum i p before) := by
  have hmk := make_bools s (by omega)
  have HFIN : Hid (∀ e, e < s → true = (Gnum i p e || (Cnum p && rget before p.y.toNat e))) := Lib.hid fun e he => by simp [Gnum, ho]; omega
  obtain ⟨op, px, py, pn, nx⟩ := p
  simp only at ho HFIN ⊢
  subst ho
  have H1 := Lib.hid (w3_row w vt vb nv ⟨6, px, py, pn, nx⟩ (bv (List.replicate s false)))
  have H3 := Lib.hid (w3_bel w vt vb nv ⟨6, px, py, pn, nx⟩ (bv (List.replicate s false)))
  go_enter Try.func118, Try.ntmps118
  go_wp2_with fail
  go_loopw [14] (fun i wr => ∃ (k : Nat) (r : List Bool), k ≤ s ∧ i = .int .i64 k ∧ RowB wr (w.heap.size + 2) 4 (bv r) ∧ r.length = s ∧ (∀ e, e < k → r.getD e false = true) ∧ Below w.heap.size w wr) (fun i _ => s - (intOf i).toNat)
  case atStart => exact ⟨0, List.replicate s false, by omega, rfl, H1.out, by simp, fun e he => by omega, H3.out⟩
  case round =>
    obtain ⟨k, r, hk, rfl, hr, hrl, hre, hb⟩ := hrel
    have HR := Lib.hid hr
    have HRL := Lib.hid hrl
    have HRE := Lib.hid hre
    have HB := Lib.hid hb
    clear hr hrl hre hb
    by_cases hlt : k < s
    · have hck : wr.cell? ⟨w.heap.size + 2, k, none⟩ = some (.bool (r.getD k false)) := by rw [HR.out.cell, bv_get (by rw [HRL.out]; exact hlt)]
      have hfr := HR.out.frozen k
      go_wp2_with fail
      refine ⟨⟨k + 1, r.set k true, by omega, by go_num, by rw [← bv_set]; exact HR.out.set_ k _, by rw [List.length_set]; exact HRL.out, fun e he => ?_, HB.out.setCell (p := ⟨w.heap.size + 2, k, none⟩) (Nat.le_add_right _ _) _⟩, by simp [intOf] <;> omega⟩
      rw [getD_setT (by rw [HRL.out]; exact hlt)]
      split
      · rfl
      · exact HRE.out e (by omega)
    · have hke : k = s := by omega
      have HRE2 : Hid (∀ e, e < s → r.getD e false = true) := Lib.hid (by rw [← hke]; exact HRE.out)
      clear hke
      go_wp2_with fail
      go_ret
      exact ⟨w.heap.size + 2, r, rfl, by omega, HR.out, HRL.out, fun e he => by rw [HRE2.out e he]; exact HFIN.out e he, HB.out⟩

end Go.Proofs.Yteaddodjijlpjaa

/- spec.l10After. -/
namespace Go.Proofs.Yteaddodjijlpjaa
open Go.RowKit

theorem OBools.ofRow {w : World} {base g s : Nat} {l : List Bool} (h : RowB w g 4 (bv l)) (hb : base ≤ g) (hl : l.length = s) (hm : s ≤ 100000) : OBools w base (.slice (some ⟨g, 0, none⟩) s s) l := by
  refine ⟨by rw [bv_len, Nat.mul_one], .inr ⟨g, s, (bv l).toArray, by rw [hl], hb, h, by omega, by simp only [maxLen]; omega, by simp [bv_len]; omega, ?_⟩⟩
  rw [Nat.mul_one, ← bv_len, List.take_length]
theorem wpList_app_bools2 {ops : Array Oper} {rest : List Oper} {o : Oper} {a : Act} {Q : Exit → Act → World → Prop} {w : World} (hgd : o.guard = none) (s x : Operand)
    (ho : o.op = .call { callee := .builtin .append, args := #[s, x], argTypes := #[54, 54] })
    (base : Nat) (v : Value) (l : List Bool) (hs : a.eval s = v) (hP : OBools w base v l) (B : Nat) (vs : Value) (ts : List Bool) (hx : a.eval x = vs) (hr : BoolS w B vs ts) (hb : base ≤ w.heap.size) (hn : l.length + ts.length ≤ 8388608)
    (h : ∀ v' w', OBools w' base v' (l ++ ts) → Below base w w' → wpList Try.prog ops Q rest (a.put o.dst v') w') : wpList Try.prog ops Q (o :: rest) a w :=
  wpList_app_bools hgd s x ho base v l hs hP B vs ts hx hr hb hn fun v' w' h1 h2 _ => h v' w' h1 ((Evo.grown (T := 4) hP h2).below hb)

theorem snocR {k s : Nat} {rows before : List (List Bool)} {r : List Bool} {f : Nat → Bool} (hl : rows.length = k) (h : ∀ u, u < k → (rows.getD u []).length = s ∧ ∀ e, e < s → rget rows u e = (rget before u e && f u)) (hr : r.length = s) (hre : ∀ e, e < s → r.getD e false = (rget before k e && f k)) :
    ∀ u, u < k + 1 → ((rows ++ [r]).getD u []).length = s ∧ ∀ e, e < s → rget (rows ++ [r]) u e = (rget before u e && f u) := by
  intro u hu
  by_cases h1 : u < k
  · have e1 : (rows ++ [r]).getD u [] = rows.getD u [] := by rw [getD_lt (by simp; omega), List.getElem_append_left (by omega), getD_lt (by omega)]
    unfold rget
    rw [e1]
    exact h u h1
  · have hue : u = rows.length := by omega
    subst hue
    have e1 : (rows ++ [r]).getD rows.length [] = r := by simp [List.getD]
    unfold rget
    rw [e1]
    exact ⟨hr, fun e he => by rw [hre e he, hl]; rfl⟩
theorem afr_mk {ts : List Int} {G : Nat → Pt → Nat → Bool} {C : Pt → Bool} {s i : Nat} {p : Pt} {before rows : List (List Bool)} (hl : rows.length = ts.length) (h : ∀ u, u < ts.length → (rows.getD u []).length = s ∧ ∀ e, e < s → rget rows u e = (rget before u e && !(useP ts p.op p.x p.y (u : Nat) == 2))) (hs : setsP p.op p.x < 0) : AfR ts G C s i p before rows :=
  ⟨hl, fun v hv => (h v hv).1, fun v e hv he => by rw [(h v hv).2 e he]; unfold aftB; rw [if_neg (by omega)]⟩
theorem afr_set {ts : List Int} {G : Nat → Pt → Nat → Bool} {C : Pt → Bool} {s i x : Nat} {p : Pt} {before rows : List (List Bool)} {vl : List Bool} (hl : rows.length = ts.length) (h : ∀ u, u < ts.length → (rows.getD u []).length = s ∧ ∀ e, e < s → rget rows u e = (rget before u e && !(useP ts p.op p.x p.y (u : Nat) == 2))) (hx : setsP p.op p.x = (x : Int)) (hxl : x < ts.length)
    (hvl : vl.length = s) (hv : ∀ e, e < s → vl.getD e false = (G i p e || (C p && rget before p.y.toNat e))) : AfR ts G C s i p before (rows.set x vl) := by
  refine ⟨by simp [hl], fun v hv2 => ?_, fun v e hv2 he => ?_⟩
  · rw [getD_setT (by omega)]; split
    · exact hvl
    · exact (h v hv2).1
  · unfold rget
    rw [getD_setT (by omega)]
    unfold aftB
    by_cases e1 : v = x
    · rw [if_pos e1, if_pos (by omega)]; exact hv e he
    · rw [if_neg e1, if_neg (by omega)]; exact (h v hv2).2 e he
/-- what the sets of kind kd are -/
def KdOk (kd : Int) (s : Nat) (ts : List Int) (pts : List Pt) (G : Nat → Pt → Nat → Bool) (C : Pt → Bool) : Prop :=
  ∀ (vt vb vbf nv : Value) (i : Nat) (p : Pt) (before : List (List Bool)) (P : Nat → Prop) (w : World), pts[i]? = some p → RwX w P vbf before → before.length = ts.length → (∀ v, v < ts.length → (before.getD v []).length = s) → 0 ≤ setsP p.op p.x →
    Calls Try.prog 118 #[.agg #[vt, vb], .agg #[.int .i64 p.op, .int .i64 p.x, .int .i64 p.y, .int .i64 p.n, nv], .int .i64 (i : Nat), vbf, .int .i64 kd, .int .i64 (s : Nat)] w (VaRet w s G C i p before)
theorem kd_set {ts : List Int} {pts : List Pt} (g : Good ts pts) : KdOk 1 pts.length ts pts Gset Cset := fun vt vb vbf nv i p before P w hp _ _ _ _ =>
  l10Value_set vt vb vbf nv i _ p before w (idx_lt hp) (by have := g.len; omega)
theorem kd_cell {ts : List Int} {pts : List Pt} (g : Good ts pts) : KdOk 0 pts.length ts pts Gcell Ccell := fun vt vb vbf nv i p before P w hp hb hl hr _ => by
  have hpl := g.len
  by_cases h2 : p.op = 2
  · exact l10Value_box vt vb vbf nv i _ p before w (idx_lt hp) (by omega) h2
  · by_cases h3 : p.op = 3 ∨ p.op = 4 ∨ p.op = 5
    · have hy := g.y hp (by omega)
      exact l10Value_copy vt vb vbf nv i pts.length 0 p before P w (by omega) (.inl ⟨rfl, h3⟩) hb hy.1 (by omega) (hr _ (by omega))
    · exact l10Value_none vt vb vbf nv i pts.length 0 p before w (by omega) (.inl ⟨rfl, h2, by omega, by omega, by omega⟩)
theorem kd_num {ts : List Int} {pts : List Pt} (g : Good ts pts) : KdOk 2 10 ts pts Gnum Cnum := fun vt vb vbf nv i p before P w hp hb hl hr _ => by
  by_cases h1 : p.op = 1
  · have hn := g.n hp (by omega)
    exact l10Value_int vt vb vbf nv i 10 p before w h1 ⟨hn.1, by omega⟩ (by omega)
  · by_cases h3 : p.op = 3
    · have hy := g.y hp (by omega)
      exact l10Value_copy vt vb vbf nv i 10 2 p before P w (by omega) (.inr ⟨rfl, h3⟩) hb hy.1 (by omega) (hr _ (by omega))
    · by_cases h6 : p.op = 6
      · exact l10Value_load vt vb vbf nv i 10 p before w (by omega) h6
      · exact l10Value_none vt vb vbf nv i 10 2 p before w (by omega) (.inr ⟨rfl, h1, h3, h6⟩)
/-- what l10After answers -/
def AfrRet (w : World) (ts : List Int) (G : Nat → Pt → Nat → Bool) (C : Pt → Bool) (s i : Nat) (p : Pt) (before : List (List Bool)) (e : Ending) (w' : World) : Prop :=
  ∃ v af, e = .returned v ∧ RwX w' (fun b => w.heap.size ≤ b) v af ∧ AfR ts G C s i p before af ∧ Below w.heap.size w w'
set_option maxHeartbeats 4000000 in
set_option maxRecDepth 100000 in
theorem l10After_any (vt vb vbf nv : Value) (kd : Int) (ts : List Int) (pts : List Pt) (G : Nat → Pt → Nat → Bool) (C : Pt → Bool) (i s B : Nat) (p : Pt) (before : List (List Bool)) (P : Nat → Prop) (w : World)
    (ht : IntS w B vt ts) (hB : B ≤ w.heap.size) (hp : pts[i]? = some p) (hb : RwX w P vbf before) (hl : before.length = ts.length) (hr : ∀ v, v < ts.length → (before.getD v []).length = s) (hk : KdOk kd s ts pts G C) (hx : setsP p.op p.x < ts.length) (hs : s ≤ 100) (h6 : ts.length ≤ 6) :
    Calls Try.prog 93 #[.agg #[vt, vb], .agg #[.int .i64 p.op, .int .i64 p.x, .int .i64 p.y, .int .i64 p.n, nv], .int .i64 (i : Nat), vbf, .int .i64 kd, .int .i64 (s : Nat)] w (AfrRet w ts G C s i p before) := by
  have HB := Lib.hid hb
  have HR := Lib.hid hr
  have HK := Lib.hid hk
  have HP := Lib.hid hp
  have HL := Lib.hid hl
  have HT := Lib.hid ht
  have hl1 : before.length ≤ ts.length := by omega
  have hl2 : ts.length ≤ before.length := by omega
  obtain ⟨Ab, cb, rfl, hcb⟩ := hb.slice
  obtain ⟨At, ct, rfl, -⟩ := ht
  have H0 := Lib.hid ((bel_a w (.cells #[.slice At ts.length ct, vb] 26)).alloc (by simp) (.cells #[.int .i64 p.op, .int .i64 p.x, .int .i64 p.y, .int .i64 p.n, nv] 39))
  have h0s : ((w.alloc (.cells #[.slice At ts.length ct, vb] 26)).alloc (.cells #[.int .i64 p.op, .int .i64 p.x, .int .i64 p.y, .int .i64 p.n, nv] 39)).heap.size = w.heap.size + 2 := by simp
  have H1 := Lib.hid ((RowB.new w [.slice At ts.length ct, vb] 26).alloc (.cells #[.int .i64 p.op, .int .i64 p.x, .int .i64 p.y, .int .i64 p.n, nv] 39))
  have H2 : Hid (RowB ((w.alloc (.cells #[.slice At ts.length ct, vb] 26)).alloc (.cells #[.int .i64 p.op, .int .i64 p.x, .int .i64 p.y, .int .i64 p.n, nv] 39)) (w.heap.size + 1) 39 [.int .i64 p.op, .int .i64 p.x, .int .i64 p.y, .int .i64 p.n, nv]) := Lib.hid (by
    have := RowB.new (w.alloc (.cells #[.slice At ts.length ct, vb] 26)) [.int .i64 p.op, .int .i64 p.x, .int .i64 p.y, .int .i64 p.n, nv] 39
    rw [World.size_alloc] at this
    exact this)
  have hmk := make_bools s (by omega)
  have HMK := Lib.hid hmk
  clear hb hr hk hp hl hmk
  go_enter Try.func93, Try.ntmps93
  go_wp2_with (at_builtin; fail)
  change Code.wp _ _ _ _ (((w.alloc (.cells #[.slice At ts.length ct, vb] 26)).alloc (.cells #[.int .i64 p.op, .int .i64 p.x, .int .i64 p.y, .int .i64 p.n, nv] 39)).alloc (.cells #[] 54))
  generalize (w.alloc (.cells #[.slice At ts.length ct, vb] 26)).alloc (.cells #[.int .i64 p.op, .int .i64 p.x, .int .i64 p.y, .int .i64 p.n, nv] 39) = W at *
  have HO0 := Lib.hid (ORw.empty W W.heap.size (Nat.le_refl _))
  rw [h0s] at HO0
  have HBA := Lib.hid (bel_a W (.cells #[] 54))
  go_loopw [13, 14] (fun v i' wr => ∃ (k : Nat) (vs : List Value) (rows : List (List Bool)), k ≤ before.length ∧ i' = .int .i64 k ∧ ORw wr (w.heap.size + 2) v vs rows ∧ rows.length = k ∧ (∀ u, u < k → (rows.getD u []).length = s ∧ ∀ e, e < s → rget rows u e = (rget before u e && !(useP ts p.op p.x p.y (u : Nat) == 2))) ∧ Below W.heap.size W wr) (fun _ i' _ => before.length - (intOf i').toNat)
  case atStart => exact ⟨0, [], [], by omega, rfl, HO0.out, rfl, fun u hu => by omega, HBA.out⟩
  case round =>
    obtain ⟨k, vs, rows, hk, rfl, hO, hrl, hre, hbw⟩ := hrel
    have HO := Lib.hid hO
    have HRL := Lib.hid hrl
    have HRE := Lib.hid hre
    have HBW := Lib.hid hbw
    have hsw := hbw.size
    have hrl1 : rows.length ≤ k := by omega
    have hx0 : wr.cell? ⟨w.heap.size, 0, none⟩ = some (.slice At ts.length ct) := ((H1.out.low hbw (by omega)).cell 0).trans rfl
    have y0 : wr.cell? ⟨w.heap.size + 1, 0, none⟩ = some (.int .i64 p.op) := ((H2.out.low hbw (by omega)).cell 0).trans rfl
    have y1 : wr.cell? ⟨w.heap.size + 1, 1, none⟩ = some (.int .i64 p.x) := ((H2.out.low hbw (by omega)).cell 1).trans rfl
    have y2 : wr.cell? ⟨w.heap.size + 1, 2, none⟩ = some (.int .i64 p.y) := ((H2.out.low hbw (by omega)).cell 2).trans rfl
    have y3 : wr.cell? ⟨w.heap.size + 1, 3, none⟩ = some (.int .i64 p.n) := ((H2.out.low hbw (by omega)).cell 3).trans rfl
    have y4 : wr.cell? ⟨w.heap.size + 1, 4, none⟩ = some nv := ((H2.out.low hbw (by omega)).cell 4).trans rfl
    have HTW := Lib.hid ((HT.out.low H0.out hB).low hbw (by omega))
    obtain ⟨A1, c1, rfl, hc1⟩ := hO.slice
    clear hO hre hbw
    by_cases hlt : k < before.length
    · clear hrl
      go_wp2_with (at_builtin; fail)
      refine (l3Use_any _ ts B _ _ _ _ _ _ _ HTW.out (by omega) (by omega) (by omega)).mono ?_
      rintro e w3 ⟨rfl, hb3⟩
      have HB3 := Lib.hid (HBW.out.trans (hb3.mono hsw))
      have HO3 := Lib.hid (HO.out.bel hb3)
      have hs3 := HB3.out.size
      clear hb3 hx0 y0 y1 y2 y3 y4
      cases hu : (useP ts p.op p.x p.y (k : Nat) == 2)
      · have HU := Lib.hid hu
        have HRX := Lib.hid (HB.out.frame (P' := P) (w' := w3) (by have := H0.out.size; omega) fun b hp hl => ⟨hp, ((H0.out.trans (HB3.out.mono (by have := H0.out.size; omega))).block b hl)⟩)
        obtain ⟨b, off, rv, rfl, -, hbl, e9, hcell, hrow⟩ := HRX.out.at_ (i := k) hlt
        have HBS := Lib.hid hrow.toS
        have hlk : (before.getD k []).length = s := HR.out k (by omega)
        have HLK := Lib.hid hlk
        generalize hbk : before.getD k [] = bk at *
        have HBK := Lib.hid hbk
        obtain ⟨Ar, cr, rfl, hcr⟩ := hrow.slice
        have HE := Lib.hid (OBools.empty w3 w3.heap.size (Nat.le_refl _))
        have HE2 := Lib.hid (bel_a w3 (.cells #[] 4))
        clear hrow hlk hbk e9
        have tok1 : True := trivial
        go_wp2_with (at_builtin; first
          | (have _t := tok1; refine wpList_app_bools2 rfl (.tmp 35) (.tmp 39) rfl w3.heap.size _ [] rfl HE.out w3.heap.size _ bk rfl (HBS.out.low HE2.out (Nat.le_refl _)) (by simp) (by have := HLK.out; simp; omega) ?_; intro v' w' hP' hE'; clear tok1 _t; (have hX4 := OBools.base (base' := w.heap.size + 2) hP' (by omega)); (rw [List.nil_append] at hX4); (have HX4 := Lib.hid hX4); (have HB4 := Lib.hid (HE2.out.trans hE')); (have HO4 := Lib.hid (HO3.out.bel HB4.out)); (have hs4 := HB4.out.size); (obtain ⟨A5, c5, rfl, hc5⟩ := hX4.slice); clear hP' hE' hX4)
          | (refine wpList_push_orw rfl (.tmp 34) (.tmp 41) rfl HO4.out (by omega) (by omega) _ _ HX4.out rfl rfl ?_; intro v5 w5 hP5 hE5)
          | fail)
        have hl5 : (rows ++ [bk]).length = k + 1 := by rw [List.length_append, HRL.out]; rfl
        exact ⟨⟨k + 1, _, _, by omega, by go_num, hP5, hl5, snocR (f := fun u => !(useP ts p.op p.x p.y (u : Nat) == 2)) HRL.out HRE.out HLK.out (fun e he => by rw [HU.out]; unfold rget; rw [HBK.out]; simp), (HB3.out.trans (HB4.out.mono (by omega))).trans (hE5.mono (by omega))⟩, by simp [intOf] <;> omega⟩
      · have HU := Lib.hid hu
        have hmk := HMK.out
        have HOZ : Hid (OBools (w3.alloc (.cells (bv (List.replicate s false)).toArray 4)) (w.heap.size + 2) (.slice (some ⟨w3.heap.size, 0, none⟩) s s) (List.replicate s false)) := Lib.hid (OBools.ofRow (RowB.new _ _ _) (by omega) (by simp) (by omega))
        have HB4 := Lib.hid (bel_a w3 (.cells (bv (List.replicate s false)).toArray 4))
        have HO4 := Lib.hid (HO3.out.bel HB4.out)
        have hs4 : (w3.alloc (.cells (bv (List.replicate s false)).toArray 4)).heap.size = w3.heap.size + 1 := by simp
        have HRZ : Hid ((List.replicate s false).length = s ∧ ∀ e, (List.replicate s false).getD e false = false) := Lib.hid ⟨by simp, fun e => rep_get⟩
        generalize List.replicate s false = rz at *
        go_wp2_with (at_builtin; first
          | (rw [← hs4]; fail)
          | (refine wpList_push_orw rfl (.tmp 29) (.tmp 32) rfl HO4.out (by omega) (by omega) _ _ HOZ.out rfl (by rw [hs4]; rfl) ?_; intro v5 w5 hP5 hE5)
          | fail)
        have hl5 : (rows ++ [rz]).length = k + 1 := by rw [List.length_append, HRL.out]; rfl
        exact ⟨⟨k + 1, _, _, by omega, by go_num, hP5, hl5, snocR (f := fun u => !(useP ts p.op p.x p.y (u : Nat) == 2)) HRL.out HRE.out HRZ.out.1 (fun e he => by rw [HU.out, HRZ.out.2]; simp), (HB3.out.trans (HB4.out.mono (by omega))).trans (hE5.mono (by omega))⟩, by simp [intOf] <;> omega⟩
    · have hke : k = ts.length := by omega
      have HRL2 : Hid (rows.length = ts.length) := Lib.hid (by omega)
      have HRE2 : Hid (∀ u, u < ts.length → (rows.getD u []).length = s ∧ ∀ e, e < s → rget rows u e = (rget before u e && !(useP ts p.op p.x p.y (u : Nat) == 2))) := Lib.hid (by rw [← hke]; exact HRE.out)
      clear hke hrl
      go_wp2_with (at_builtin; fail)
      refine (l3Set_any _ _ _ _ _ _).mono ?_
      rintro e w3 ⟨rfl, hb3⟩
      have HB3 := Lib.hid (HBW.out.trans (hb3.mono hsw))
      have HO3 := Lib.hid (HO.out.bel hb3)
      have hs3 := HB3.out.size
      have hx0' := (hb3.cell (p := ⟨w.heap.size, 0, none⟩) (by show w.heap.size < _; omega)).trans hx0
      have hx1' : w3.cell? ⟨w.heap.size, 1, none⟩ = some vb := ((H1.out.low HB3.out (by omega)).cell 1).trans rfl
      have y0' := (hb3.cell (p := ⟨w.heap.size + 1, 0, none⟩) (by show w.heap.size + 1 < _; omega)).trans y0
      have y1' := (hb3.cell (p := ⟨w.heap.size + 1, 1, none⟩) (by show w.heap.size + 1 < _; omega)).trans y1
      have y2' := (hb3.cell (p := ⟨w.heap.size + 1, 2, none⟩) (by show w.heap.size + 1 < _; omega)).trans y2
      have y3' := (hb3.cell (p := ⟨w.heap.size + 1, 3, none⟩) (by show w.heap.size + 1 < _; omega)).trans y3
      have y4' := (hb3.cell (p := ⟨w.heap.size + 1, 4, none⟩) (by show w.heap.size + 1 < _; omega)).trans y4
      clear hb3 hx0 y0 y1 y2 y3 y4
      by_cases hs0 : 0 ≤ setsP p.op p.x
      · obtain ⟨x, hxe⟩ : ∃ x : Nat, setsP p.op p.x = x := ⟨(setsP p.op p.x).toNat, by omega⟩
        have hxl : x < ts.length := by omega
        have HX := Lib.hid hxe
        have HRX := Lib.hid (HB.out.frame (P' := P) (w' := w3) (by have := H0.out.size; omega) fun b hp hl => ⟨hp, ((H0.out.trans (HB3.out.mono (by have := H0.out.size; omega))).block b hl)⟩)
        have HVA := Lib.hid (HK.out (.slice At ts.length ct) vb _ nv i p before P w3 HP.out HRX.out HL.out HR.out hs0)
        rw [hxe]
        clear hs0 hxe hx
        go_wp2_with (at_builtin; fail)
        refine HVA.out.mono ?_
        rintro e w5 ⟨g5, vl, rfl, hg5, hrow, hvl, hve, hb5⟩
        have HO5 := Lib.hid (HO3.out.bel hb5)
        have HX5 := Lib.hid (OBools.ofRow (base := w.heap.size + 2) hrow (by omega) hvl (by omega))
        have HVL := Lib.hid hvl
        have HVE := Lib.hid hve
        have HB5 := Lib.hid (HB3.out.trans (hb5.mono (by omega)))
        obtain ⟨go, rfl, hgo, hgl, e9, hco, hfo⟩ := HO5.out.at_ (k := x) (by rw [HRL2.out]; exact hxl)
        have hxr : x < rows.length := by rw [HRL2.out]; exact hxl
        clear e9 hb5 hrow hvl hve
        go_wp2_with (at_builtin; fail)
        go_ret
        have hO6 := HO5.out.set hxr HX5.out
        have hlen : ∀ i, i < (rows.set x vl).length → ((rows.set x vl).getD i []).length ≤ 4194304 := fun i hi => by
          rw [getD_setT hxr]; split
          · rw [HVL.out]; omega
          · rw [(HRE2.out i (by rw [List.length_set, HRL2.out] at hi; exact hi)).1]; omega
        have hX6 := hO6.toX hlen
        refine ⟨_, rows.set x vl, rfl, hX6.frame (Nat.le_refl _) fun b hb _ => ⟨by have hb' : w.heap.size + 2 ≤ b := hb; show w.heap.size ≤ b; omega, rfl⟩, afr_set HRL2.out HRE2.out HX.out hxl HVL.out HVE.out, ?_⟩
        exact (H0.out.trans (HB5.out.mono H0.out.size)).setCell (p := ⟨go, x, none⟩) (by show w.heap.size ≤ go; omega) _
      · have hs1 : setsP p.op p.x < 0 := by omega
        go_wp2_with (at_builtin; fail)
        go_ret
        have hX6 := HO3.out.toX (fun i hi => by rw [(HRE2.out i (by rw [HRL2.out] at hi; exact hi)).1]; omega)
        exact ⟨_, rows, rfl, hX6.frame (Nat.le_refl _) fun b hb _ => ⟨by have hb' : w.heap.size + 2 ≤ b := hb; show w.heap.size ≤ b; omega, rfl⟩, afr_mk HRL2.out HRE2.out hs1, H0.out.trans (HB3.out.mono H0.out.size)⟩

end Go.Proofs.Yteaddodjijlpjaa

/- spec.l10Merge. -/
namespace Go.Proofs.Yteaddodjijlpjaa
open Go.RowKit

/-- rows r' are r with what af has, as far as place (k, j) -/
structure MgI (m s : Nat) (r af r' : List (List Bool)) (c : Bool) (k j : Nat) : Prop where
  len : r'.length = m
  inn : ∀ v, v < m → (r'.getD v []).length = s
  get : ∀ v e, v < m → e < s → rget r' v e = if v < k ∨ (v = k ∧ e < j) then (rget r v e || rget af v e) else rget r v e
  yes : c = true → ∃ v e, v < m ∧ e < s ∧ rget r v e = false ∧ rget af v e = true
  no : c = false → r' = r
theorem MgI.start {m s : Nat} {r af : List (List Bool)} (hl : r.length = m) (hi : ∀ v, v < m → (r.getD v []).length = s) : MgI m s r af r false 0 0 :=
  ⟨hl, hi, fun v e _ _ => by rw [if_neg (by omega)], fun h => (by cases h), fun _ => rfl⟩
theorem MgI.next {m s k j : Nat} {r af r' : List (List Bool)} {c : Bool} (h : MgI m s r af r' c k j) (hj : j = s) : MgI m s r af r' c (k + 1) 0 := by
  refine ⟨h.len, h.inn, fun v e hv he => ?_, h.yes, h.no⟩
  rw [h.get v e hv he]
  by_cases h1 : v < k ∨ (v = k ∧ e < j)
  · rw [if_pos h1, if_pos (by omega)]
  · rw [if_neg h1, if_neg (by omega)]
theorem MgI.same {m s k j : Nat} {r af r' : List (List Bool)} {c : Bool} (h : MgI m s r af r' c k j) (hk : k < m) (hj : j < s) (hs : rget af k j = false ∨ rget r' k j = true) : MgI m s r af r' c k (j + 1) := by
  refine ⟨h.len, h.inn, fun v e hv he => ?_, h.yes, h.no⟩
  have h0 := h.get v e hv he
  by_cases h1 : v < k ∨ (v = k ∧ e < j)
  · rw [if_pos h1] at h0; rw [h0, if_pos (by omega)]
  · rw [if_neg h1] at h0
    by_cases h2 : v = k ∧ e = j
    · obtain ⟨rfl, rfl⟩ := h2
      rw [if_pos (by omega), h0]
      rcases hs with hs | hs
      · rw [hs, Bool.or_false]
      · rw [← h0, hs]; rfl
    · rw [h0, if_neg (by omega)]
theorem MgI.set {m s k j : Nat} {r af r' : List (List Bool)} {c : Bool} (h : MgI m s r af r' c k j) (hk : k < m) (hj : j < s) (ha : rget af k j = true) (h0 : rget r' k j = false) : MgI m s r af (rset r' k j true) true k (j + 1) := by
  have hkl : k < r'.length := by rw [h.len]; exact hk
  have hjl : j < (r'.getD k []).length := by rw [h.inn k hk]; exact hj
  have hr0 : rget r k j = false := by
    have := h.get k j hk hj
    rw [if_neg (by omega), h0] at this
    exact this.symm
  refine ⟨by rw [rset_len]; exact h.len, fun v hv => by rw [rset_row hkl]; exact h.inn v hv, fun v e hv he => ?_, fun _ => ⟨k, j, hk, hj, hr0, ha⟩, fun h => (by cases h)⟩
  rw [rget_rset hkl hjl]
  by_cases h2 : v = k ∧ e = j
  · obtain ⟨rfl, rfl⟩ := h2
    rw [if_pos ⟨rfl, rfl⟩, if_pos (by omega), ha, Bool.or_true]
  · rw [if_neg h2, h.get v e hv he]
    by_cases h1 : v < k ∨ (v = k ∧ e < j)
    · rw [if_pos h1, if_pos (by omega)]
    · rw [if_neg h1, if_neg (by omega)]
theorem MgI.done {m s k : Nat} {r af r' : List (List Bool)} {c : Bool} (h : MgI m s r af r' c k 0) (hk : k = m) : Mrg m s r af r' :=
  ⟨h.len, h.inn, fun v e hv he => by rw [h.get v e hv he, if_pos (by omega)]⟩

def MgRet (w : World) (base m s : Nat) (vto : Value) (rb : List Nat) (r af : List (List Bool)) (e : Ending) (w' : World) : Prop :=
  ∃ c r', e = .returned (.bool c) ∧ BRow w' base vto rb s r' ∧ Mrg m s r af r' ∧ (c = true → ∃ v e, v < m ∧ e < s ∧ rget r v e = false ∧ rget af v e = true) ∧ (c = false → r' = r) ∧ Onl (fun b => ∃ u, u < m ∧ b = rb.getD u 0) w w'
set_option maxHeartbeats 4000000 in
set_option maxRecDepth 100000 in
theorem l10Merge_any (vto vfr : Value) (base m s : Nat) (rb : List Nat) (r af : List (List Bool)) (Pf : Nat → Prop) (w : World) (hb : BRow w base vto rb s r) (hl : r.length = m) (hi : ∀ v, v < m → (r.getD v []).length = s)
    (hf : RwX w Pf vfr af) (hfl : af.length = m) (hfi : ∀ v, v < m → (af.getD v []).length = s) (hP : ∀ b u, Pf b → u < m → b ≠ rb.getD u 0) (hm : m ≤ 100) (hs : s ≤ 100) :
    Calls Try.prog 94 #[vto, vfr] w (MgRet w base m s vto rb r af) := by
  have HF := Lib.hid hf
  have HFI := Lib.hid hfi
  have HFL := Lib.hid hfl
  have HP := Lib.hid hP
  have H0 := Lib.hid (MgI.start (af := af) hl hi)
  have HB := Lib.hid hb
  have hfl1 : af.length ≤ m := by omega
  have hfl2 : m ≤ af.length := by omega
  have hrl1 : r.length ≤ m := by omega
  have hrl2 : m ≤ r.length := by omega
  obtain ⟨Af, cf, rfl, hcf⟩ := hf.slice
  obtain ⟨At, ct, rfl, hct⟩ := hb.slice
  clear hb hf hfl hfi hP hl hi
  go_enter Try.func94, Try.ntmps94
  go_wp2_with fail
  go_loopw [5, 6] (fun c' i' wr => ∃ (c : Bool) (k : Nat) (r' : List (List Bool)), c' = .bool c ∧ i' = .int .i64 k ∧ k ≤ m ∧ BRow wr base (.slice At r.length ct) rb s r' ∧ MgI m s r af r' c k 0 ∧ Onl (fun b => ∃ u, u < m ∧ b = rb.getD u 0) w wr) (fun _ i' _ => m - (intOf i').toNat)
  case atStart => exact ⟨false, 0, r, rfl, rfl, by omega, HB.out, H0.out, Onl.refl _ _⟩
  case round =>
    obtain ⟨c, k, r', rfl, rfl, hk, hbr, hmi, hon⟩ := hrel
    have HBR := Lib.hid hbr
    have HMI := Lib.hid hmi
    have HON := Lib.hid hon
    clear hbr hmi hon
    by_cases hlt : k < m
    · have hka : k < af.length := by omega
      obtain ⟨wo, rfl⟩ : ∃ wo : World, wo = wr := ⟨_, rfl⟩
      go_wp2_with fail
      go_loopw [5, 7] (fun c' i' wr => ∃ (c : Bool) (j : Nat) (r' : List (List Bool)), c' = .bool c ∧ i' = .int .i64 j ∧ j ≤ s ∧ BRow wr base (.slice At r.length ct) rb s r' ∧ MgI m s r af r' c k j ∧ Onl (fun b => ∃ u, u < m ∧ b = rb.getD u 0) w wr) (fun _ i' _ => s - (intOf i').toNat)
      case atStart => exact ⟨c, 0, r', rfl, rfl, by omega, HBR.out, HMI.out, HON.out⟩
      case round =>
        obtain ⟨c, j, r', rfl, rfl, hj, hbr, hmi, hon⟩ := hrel
        have HBR := Lib.hid hbr
        have HMI := Lib.hid hmi
        have HON := Lib.hid hon
        have HFW := Lib.hid (HF.out.onl hon fun b hb => fun ⟨u, hu, e⟩ => HP.out b u hb hu e)
        obtain ⟨b1, o1, rv, rfl, hpb, hbl, e9, hcell, hrow⟩ := HFW.out.at_ hka
        have hfk := HFI.out k hlt
        obtain ⟨Ar, cr, rfl, hcr⟩ := hrow.slice
        rw [hfk] at hcell hcr
        have HROW := Lib.hid hrow
        have HFK := Lib.hid hfk
        clear hbr hmi hon hpb hrow hfk e9
        by_cases hjl : j < s
        · obtain ⟨b2, o2, rfl, hpb, hbl2, e9, hcj⟩ := BoolX.at_ (A := Ar) (n := (af.getD k []).length) HROW.out (k := j) (by rw [HFK.out]; exact hjl)
          obtain ⟨y, hy⟩ : ∃ y, y = rget af k j := ⟨_, rfl⟩
          have hcy : wr.cell? ⟨b2, o2 + j, none⟩ = some (.bool y) := by rw [hy]; exact hcj
          have hr'l : r'.length = m := HMI.out.len
          obtain ⟨go, c4, ego, hgo, hgo2, hgo3, hgc, -⟩ := HBR.out.form (by omega)
          injection ego with e1 e8 e2
          subst e1 e2
          have hgk := hgc k (by omega)
          have hrow2 := HBR.out.row k (by omega)
          have hrk : (r'.getD k []).length = s := HMI.out.inn k hlt
          have hcx : wr.cell? ⟨rb.getD k 0, j, none⟩ = some (.bool (rget r' k j)) := by rw [hrow2.1.cell, bv_get (by rw [hrk]; exact hjl)]; rfl
          have hfr := hrow2.1.frozen j
          have hkr : k < r.length := by omega
          obtain ⟨x, hx⟩ : ∃ x, x = rget r' k j := ⟨_, rfl⟩
          obtain ⟨rk, hrkb⟩ : ∃ rk, rk = rb.getD k 0 := ⟨_, rfl⟩
          rw [← hx] at hcx
          rw [← hrkb] at hgk hcx hfr
          have HX := Lib.hid hx
          have HY := Lib.hid hy
          have HRK := Lib.hid hrkb
          have HRL := Lib.hid hr'l
          clear hgc e8 hrow2 hrk hx hy hrkb hr'l hcj hpb e9
          cases y
          · go_wp2_with fail
            exact ⟨⟨c, j + 1, r', rfl, by go_num, by omega, HBR.out, HMI.out.same hlt hjl (.inl HY.out.symm), HON.out⟩, by simp [intOf] <;> omega⟩
          · cases x
            · go_wp2_with fail
              have hset := HBR.out.set (i := k) (u := j) (by rw [HRL.out]; exact hlt) true
              rw [← HRK.out] at hset
              exact ⟨⟨true, j + 1, _, rfl, by go_num, by omega, hset, HMI.out.set hlt hjl HY.out.symm HX.out.symm, HON.out.trans (Onl.set (S := fun b => ∃ u, u < m ∧ b = rb.getD u 0) _ ⟨k, hlt, HRK.out⟩ _ _)⟩, by simp [intOf] <;> omega⟩
            · go_wp2_with fail
              exact ⟨⟨c, j + 1, r', rfl, by go_num, by omega, HBR.out, HMI.out.same hlt hjl (.inr HX.out.symm), HON.out⟩, by simp [intOf] <;> omega⟩
        · have hje : j = s := by omega
          have HN := Lib.hid (HMI.out.next hje)
          clear hje
          go_wp2_with fail
          exact ⟨⟨c, k + 1, r', rfl, by go_num, by omega, HBR.out, HN.out, HON.out⟩, by simp [intOf] <;> omega⟩
    · have hke : k = m := by omega
      have HD := Lib.hid (HMI.out.done hke)
      clear hke
      go_wp2_with fail
      go_ret
      exact ⟨c, r', rfl, HBR.out, HD.out, HMI.out.yes, HMI.out.no, HON.out⟩

end Go.Proofs.Yteaddodjijlpjaa
