import Derived.Test.YtidlifijgooceaaW17
import Derived.RegionTactic
import Derived.Deep.RegionHeld3
import Derived.Test.YtidlifijgooceaaW07
import Derived.Test.YtidlifijgooceaaW10
import Derived.Deep.RegionHeld
import Derived.Below
set_option linter.unusedVariables false

/- append of a whole slice of ints; l1CopyOf. -/
namespace Go.Proofs.Ytidlifijgooceaa
open Go.RowKit

theorem run_app_nil (w : World) (base : Nat) (ty : TypeId) (v : Value) (l : List Int) (hP : OInts w base v l) (c : Nat) : (Builtin.append_ #[23, 23] ty #[v, .slice none 0 c]).run Try.prog w = .ok v w := by
  obtain ⟨i0, hi0, hz0, hz1, hz2⟩ := info_parts Try.infoInt
  rcases hP.2 with ⟨rfl, h0⟩ | ⟨g, cap, cur, rfl, _, _, hnc, _⟩
  · simp [Builtin.append_, run_underlying Try.underlying23, sizeOf, typeInfo, hi0, Builtin.lenOf, Builtin.firstCells]
  · simp [Builtin.append_, run_underlying Try.underlying23, sizeOf, typeInfo, hi0, Builtin.lenOf, Builtin.firstCells, hnc, storeCells]
theorem run_app_ints (w : World) (base : Nat) (ty : TypeId) (v : Value) (l : List Int) (hP : OInts w base v l) (B : Nat) (vs : Value) (ts : List Int) (hr : IntS w B vs ts) (hb : base ≤ w.heap.size) (hn : l.length + ts.length ≤ 8388608) :
    ∃ v' w', (Builtin.append_ #[23, 23] ty #[v, vs]).run Try.prog w = .ok v' w' ∧ OInts w' base v' (l ++ ts) ∧ w.grownBy w' v.ownBlock ∧ (v'.ownBlock = v.ownBlock ∨ v'.ownBlock = some w.heap.size) := by
  obtain ⟨A, c, rfl, hc, hm, hrd⟩ := hr
  rcases Nat.eq_zero_or_pos ts.length with h0 | h0
  · have hts : ts = [] := List.length_eq_zero_iff.1 h0
    subst hts
    rcases A with _ | ad
    · exact ⟨v, w, run_app_nil w base ty v l hP c, by simpa using hP, World.grownBy.refl w _, .inl rfl⟩
    · obtain ⟨i0, hi0, hz0, hz1, hz2⟩ := info_parts Try.infoInt
      obtain ⟨v', w', hrun, h2, h3, _, h5⟩ := run_append_own_at (P := Try.prog) w base 23 ty 3 i0 _ 1 8 Try.underlying23 hi0 hz0 hz1 hz2 rfl (by omega) v l.length _ hP ad 0 c [] rfl (fun j u h => by simp at h) (fun u h => by simp at h) (by simp only [maxLen]; omega) (by omega) hb
      exact ⟨v', w', hrun, by simpa [OInts] using h2, h3, h5⟩
  · obtain ⟨b, off, rfl, hbl, hcell⟩ := hrd.2 h0
    obtain ⟨i0, hi0, hz0, hz1, hz2⟩ := info_parts Try.infoInt
    obtain ⟨v', w', hrun, h2, h3, _, h5⟩ := run_append_own_at (P := Try.prog) w base 23 ty 3 i0 _ 1 8 Try.underlying23 hi0 hz0 hz1 hz2 rfl (by omega) v l.length _ hP ⟨b, off, none⟩ ts.length c (ts.map (.int .i64)) (by simp)
      (fun j u h => by
        rcases Nat.eq_zero_or_pos j with hj | hj
        · subst hj; simpa [Addr.add] using hcell 0 u h
        · have := hcell j u h
          have hj0 : j ≠ 0 := by omega
          simpa [Addr.add, hj0] using this)
      (fun u h => by obtain ⟨x, _, rfl⟩ := List.mem_map.1 h; rfl) (by simp only [maxLen]; omega) (by omega) hb
    exact ⟨v', w', hrun, by simpa [OInts] using h2, h3, h5⟩
theorem wp_app_ints {o : Oper} {a : Act} {K : Act → World → Prop} {Q : Exit → Act → World → Prop} {w : World} (s x : Operand)
    (ho : o.op = .call { callee := .builtin .append, args := #[s, x], argTypes := #[23, 23] })
    (base : Nat) (v : Value) (l : List Int) (hs : a.eval s = v) (hP : OInts w base v l) (B : Nat) (vs : Value) (ts : List Int) (hx : a.eval x = vs) (hr : IntS w B vs ts) (hb : base ≤ w.heap.size) (hn : l.length + ts.length ≤ 8388608)
    (h : ∀ v' w', OInts w' base v' (l ++ ts) → w.grownBy w' v.ownBlock → (v'.ownBlock = v.ownBlock ∨ v'.ownBlock = some w.heap.size) → K (a.put o.dst v') w') : o.wp Try.prog a w K Q := by
  obtain ⟨v', w', hrun, h2, h3, h4⟩ := run_app_ints w base o.type v l hP B vs ts hr hb hn
  unfold Oper.wp execOp
  simp only [ho, resolve, invoke, builtin, Sem.run_bind, Sem.run_pure, Result.andThen_ok, List.map_toArray, List.map_cons, List.map_nil, hs, hx, hrun]
  exact h v' w' h2 h3 h4
theorem step_app_ints {ops : Array Oper} {o : Oper} {a : Act} {K : Act → World → Prop} {Q : Exit → Act → World → Prop} {E : Prop} {w : World} (hgd : o.guard = none) (s x : Operand)
    (ho : o.op = .call { callee := .builtin .append, args := #[s, x], argTypes := #[23, 23] })
    (base : Nat) (v : Value) (l : List Int) (hs : a.eval s = v) (hP : OInts w base v l) (B : Nat) (vs : Value) (ts : List Int) (hx : a.eval x = vs) (hr : IntS w B vs ts) (hb : base ≤ w.heap.size) (hn : l.length + ts.length ≤ 8388608)
    (h : ∀ v' w', OInts w' base v' (l ++ ts) → w.grownBy w' v.ownBlock → (v'.ownBlock = v.ownBlock ∨ v'.ownBlock = some w.heap.size) → K (a.put o.dst v') w') :
    if Region.wanted o (yielded ops a.tmps) = true then Oper.wp Try.prog o a w K Q else E := by
  have hw : Region.wanted o (yielded ops a.tmps) = true := by simp [Region.wanted, hgd]
  rw [if_pos hw]
  exact wp_app_ints s x ho base v l hs hP B vs ts hx hr hb hn h

theorem OInts.move {w w' : World} {base base' : Nat} {v : Value} {l : List Int} (h : OInts w base v l) (hb : base' ≤ base) (hk : ∀ b, base ≤ b → b < w.heap.size → w'.heap[b]? = w.heap[b]?) : OInts w' base' v l := by
  refine ⟨h.1, ?_⟩
  rcases h.2 with h' | ⟨g, cap, cur, rfl, hbg, hh, rest⟩
  · exact .inl h'
  · exact .inr ⟨g, cap, cur, rfl, by omega, (hk g hbg (row_lt hh)).trans hh, rest⟩
theorem OInts.own_lt {w : World} {base : Nat} {v : Value} {l : List Int} (h : OInts w base v l) {g : Nat} (e : v.ownBlock = some g) : base ≤ g ∧ g < w.heap.size := World.ownsRow.lt h g e
theorem OSt.own_lt {w : World} {base : Nat} {v : Value} {l : List St} (h : OSt w base v l) {g : Nat} (e : v.ownBlock = some g) : base ≤ g ∧ g < w.heap.size := by
  obtain ⟨es, rfl, h2, _⟩ := h
  exact h2.lt g e
theorem OSt.move {w w' : World} {base base' : Nat} {v : Value} {l : List St} (h : OSt w base v l) (hs : w.heap.size ≤ w'.heap.size) (hb : base' ≤ base) (hk : ∀ b, base ≤ b → b < w.heap.size → w'.heap[b]? = w.heap[b]?) : OSt w' base' v l := by
  obtain ⟨es, rfl, h2, h3⟩ := h
  refine ⟨es, rfl, ⟨h2.1, ?_⟩, fun e he => ?_⟩
  · rcases h2.2 with h' | ⟨g, cap, cur, rfl, hbg, hh, rest⟩
    · exact .inl h'
    · exact .inr ⟨g, cap, cur, rfl, by omega, (hk g hbg (row_lt hh)).trans hh, rest⟩
  · obtain ⟨k1, k2⟩ := h3 e he
    have hk' : ∀ b, (base ≤ b ∧ v.ownBlock ≠ some b) → b < w.heap.size → (base' ≤ b ∧ v.ownBlock ≠ some b) ∧ w'.heap[b]? = w.heap[b]? := fun b hb' hl => ⟨⟨by omega, hb'.2⟩, hk b hb'.1 hl⟩
    exact ⟨k1.frame hs hk', k2.frame hs hk'⟩

theorem grown_far {W w w' : World} {r : Nat} {row : Option Nat} (h : W.grownBy w (some r)) (k : w.grownBy w' row) (hf : ∀ n, row = some n → W.heap.size ≤ n) : W.grownBy w' (some r) :=
  ⟨k.os.trans h.os, k.tape.trans h.tape, k.output.trans h.output, Nat.le_trans h.size k.size, fun i hi hne => (k.block i (Nat.lt_of_lt_of_le hi h.size) (fun e => by have := hf i e.symm; omega)).trans (h.block i hi hne)⟩
def CpRet (w : World) (ts : List Int) (l : List St) (e : Ending) (w' : World) : Prop :=
  ∃ vt vb lo, e = .returned (.agg #[vt, vb]) ∧ OInts w' w.heap.size vt ts ∧ (∀ g, vt.ownBlock = some g → g < lo) ∧ OSt w' lo vb l ∧ w.heap.size ≤ lo ∧ lo ≤ w'.heap.size ∧ Below w.heap.size w w'
/-- a copied program: the types' row lies below the statements' blocks -/
theorem cp_close {w wf W : World} {base lo : Nat} {vt vb : Value} {ts : List Int} {l : List St} (hB0 : Below w.heap.size w wf) (hlo : w.heap.size + 2 ≤ lo) (hlo2 : lo ≤ wf.heap.size) (hos : OSt wf lo vb l)
    (hbase : w.heap.size + 2 ≤ base) (hoi : OInts wf base vt ts) (hne : ∀ g, vt.ownBlock = some g → g < lo)
    (hW : wf.grownBy W (some (w.heap.size + 1))) : CpRet w ts l (.returned (.agg #[vt, vb])) W := by
  have hk : ∀ b, w.heap.size + 2 ≤ b → b < wf.heap.size → W.heap[b]? = wf.heap[b]? := fun b hb hl => hW.block b hl (fun e => by injection e with e; omega)
  exact ⟨vt, vb, lo, rfl, hoi.move (by omega) fun b hb hl => hk b (by omega) hl, hne, hos.move hW.size (Nat.le_refl _) fun b hb hl => hk b (by omega) hl, by omega, by have := hW.size; omega,
    hB0.trans ⟨hW.os, hW.tape, hW.output, hW.size, fun k hk' => hW.block k (by have := hB0.size; omega) (fun e => by injection e with e; omega)⟩⟩

set_option maxHeartbeats 4000000 in
set_option maxRecDepth 100000 in
theorem copyOf_any (vt vb : Value) (ts : List Int) (l : List St) (B : Nat) (w : World) (ht : IntS w B vt ts) (hl : StS w B vb l) (hB : B ≤ w.heap.size) (hts : ts.length ≤ 700) (hsz : szL l ≤ 4194000) :
    Calls Try.prog 52 #[.agg #[vt, vb]] w (CpRet w ts l) := by
  have ht0 := ht
  have hl0 := hl
  obtain ⟨At, ct, rfl, -⟩ := ht0
  obtain ⟨Ab, cb, rfl, -⟩ := hl0.slice

  have hA := bel_a w (.cells #[.slice At ts.length ct, .slice Ab l.length cb] 26)
  have hB2 := bel_a (w.alloc (.cells #[.slice At ts.length ct, .slice Ab l.length cb] 26)) (.cells #[.slice none 0 0, .slice none 0 0] 26)
  have hAB := hA.trans (hB2.mono hA.size)
  have hr0 := row_below (heap_alloc_new w (.cells #[.slice At ts.length ct, .slice Ab l.length cb] 26)) hB2
  have hr1 := heap_alloc_new (w.alloc (.cells #[.slice At ts.length ct, .slice Ab l.length cb] 26)) (.cells #[.slice none 0 0, .slice none 0 0] 26)
  have hsz1 : (w.alloc (.cells #[.slice At ts.length ct, .slice Ab l.length cb] 26)).heap.size = w.heap.size + 1 := by simp
  rw [hsz1] at hr1
  have hsW : ((w.alloc (.cells #[.slice At ts.length ct, .slice Ab l.length cb] 26)).alloc (.cells #[.slice none 0 0, .slice none 0 0] 26)).heap.size = w.heap.size + 2 := by simp
  go_enter Try.func52, Try.ntmps52
  go_wp2_with fail
  generalize (w.alloc (.cells #[.slice At ts.length ct, .slice Ab l.length cb] 26)).alloc (.cells #[.slice none 0 0, .slice none 0 0] 26) = W at *
  have q0 : W.cell? ⟨w.heap.size, 0, none⟩ = some (.slice At ts.length ct) := by rw [cell_of_row _ _ _ _ _ _ hr0]; rfl
  have q1 : W.cell? ⟨w.heap.size, 1, none⟩ = some (.slice Ab l.length cb) := by rw [cell_of_row _ _ _ _ _ _ hr0]; rfl
  have CE : ∀ w', (w'.cell? ⟨w.heap.size, 0, none⟩ = some (.slice At ts.length ct) ∧ w'.cell? ⟨w.heap.size, 1, none⟩ = some (.slice Ab l.length cb) ∧ W.grownBy w' (some (w.heap.size + 1))) → Calls Try.prog 69 #[.slice Ab l.length cb] w' (CopyRet w' l) := fun w' h =>
    copy_any (szL l) hsz _ l B w' (Nat.le_refl _) ((hl.low hAB hB).keep fun b o hb => World.cell?_of_block (w := W) (a := ⟨b, o, none⟩) (h.2.2.block b (by omega) (fun e => by injection e with e; omega))) (by have := h.2.2.size; omega)
  have HCE := Lib.hid CE
  have HT := Lib.hid (ht.low hAB hB)
  have HAB := Lib.hid hAB
  have HR1 := Lib.hid hr1
  have SOF : ∀ w', W.grownBy w' (some (w.heap.size + 1)) → (w'.cell? ⟨w.heap.size, 0, none⟩ = some (.slice At ts.length ct) ∧ w'.cell? ⟨w.heap.size, 1, none⟩ = some (.slice Ab l.length cb) ∧ W.grownBy w' (some (w.heap.size + 1))) := fun w' h =>
    ⟨(World.cell?_of_block (w := W) (a := ⟨w.heap.size, 0, none⟩) (h.block w.heap.size (by omega) (fun e => by injection e with e; omega))).trans q0, (World.cell?_of_block (w := W) (a := ⟨w.heap.size, 1, none⟩) (h.block w.heap.size (by omega) (fun e => by injection e with e; omega))).trans q1, h⟩
  have GOF : ∀ w', (w'.cell? ⟨w.heap.size, 0, none⟩ = some (.slice At ts.length ct) ∧ w'.cell? ⟨w.heap.size, 1, none⟩ = some (.slice Ab l.length cb) ∧ W.grownBy w' (some (w.heap.size + 1))) → W.grownBy w' (some (w.heap.size + 1)) := fun w' h => h.2.2
  have HT0' : ∀ w', W.grownBy w' (some (w.heap.size + 1)) → IntS w' w.heap.size (.slice At ts.length ct) ts := fun w' h => ((ht.low hAB hB).more hB).keep fun b o hb => World.cell?_of_block (w := W) (a := ⟨b, o, none⟩) (h.block b (by omega) (fun e => by injection e with e; omega))
  have HT0 := Lib.hid HT0'
  clear HT0'
  have SO := Lib.hid SOF
  have GO := Lib.hid GOF
  clear hA hB2 hsz1 hr0 CE ht hl hAB hr1 SOF GOF q0 q1
  have tok1 : True := trivial
  go_region_held3 (fun w' => (w'.cell? ⟨w.heap.size, 0, none⟩ = some (.slice At ts.length ct) ∧ w'.cell? ⟨w.heap.size, 1, none⟩ = some (.slice Ab l.length cb) ∧ W.grownBy w' (some (w.heap.size + 1))))
    (first | exact SO.out _ (grown_bel ((Below.refl _ _).drew) (Nat.le_refl _) _) | exact SO.out _ (grown_bel ((bel_a _ _).drew) (Nat.le_refl _) _) | exact SO.out _ (by assumption) | exact SO.out _ (grown_alloc (GO.out _ (by assumption)) _) | exact SO.out _ (grown_tr (grown_tr (GO.out _ (by assumption)) (grown_set _ _ _ _)) (grown_set _ _ _ _)))
    (first
      | (go_at_call 69; (with_reducible refine (HCE.out _ (by assumption)).mono ?_); (rintro e w2 ⟨v2, rfl, hos, hb2⟩); (have gr2 := grown_below' (GO.out _ (by assumption)) hb2); (have hrb := row_below HRA.out hb2); (have HRB := Lib.hid hrb); (have z0 : w2.cell? ⟨w.heap.size + 1, 0, none⟩ = some (.slice none 0 0) := by (rw [cell_of_row _ _ _ _ _ _ hrb]; rfl)); (have z1 : w2.cell? ⟨w.heap.size + 1, 1, none⟩ = some (.slice none 0 0) := by (rw [cell_of_row _ _ _ _ _ _ hrb]; rfl)); (have zf0 := frozen_of_row w2 (w.heap.size + 1) 0 _ _ hrb); (have zf1 := frozen_of_row w2 (w.heap.size + 1) 1 _ _ hrb); clear hrb; (obtain ⟨A2, c2, rfl, -⟩ := hos.slice))
      | ((have _t := tok1); clear tok1 _t; (refine step_app_ints (by rfl) (.tmp 3) (.tmp 5) (by rfl) W.heap.size (.slice (some ⟨w.heap.size + 2, 0, none⟩) 0 0) [] (by rfl) (by rw [← hsW]; exact OInts.empty W W.heap.size (Nat.le_refl _)) w.heap.size _ ts (by rfl) (HT0.out _ (GO.out _ (by assumption))) (by have := (GO.out _ (by assumption)).size; omega) (by simp; omega) ?_); intro v' w' hoi hgw hor; (have gr1 : W.grownBy w' (some (w.heap.size + 1)) := grown_far (GO.out _ (by assumption)) hgw (fun n e => by simp [Value.ownBlock] at e; omega)); (have hra := (hgw.block (w.heap.size + 1) (by simp; omega) (by simp [Value.ownBlock])).trans (row_below HR1.out ((bel_a W _).drew))); (have HRA := Lib.hid hra); clear hra; (have HOI := Lib.hid hoi); (have HGW := Lib.hid hgw); (have HOR := Lib.hid hor); (obtain ⟨A', c', rfl, -⟩ := hoi.slice); clear hoi hgw hor))
  go_wp2_with fail
  have hs1 := gr1.size
  have hs2 := hb2.size
  refine bodyPost_ret (results_cell_row rfl _ _ (w.heap.size + 1) 26 _ (0, 0) _ rfl (box2 HRB.out _ _).1 Try.underlying26 rfl rfl) rfl ?_
  exact cp_close (lo := w'.heap.size) (base := W.heap.size) (HAB.out.trans ⟨gr2.os, gr2.tape, gr2.output, gr2.size, fun k hk => gr2.block k (by omega) (fun e => by injection e with e; omega)⟩) (by omega) hs2 hos (by omega)
    (HOI.out.move (Nat.le_refl _) fun b h1 h2 => hb2.block b h2) (fun g e => (HOI.out.own_lt e).2) (box2 HRB.out _ _).2

end Go.Proofs.Ytidlifijgooceaa

/- Plain: rows of bools that say what is live. No program in sight. -/
namespace Go.Proofs.Ytidlifijgooceaa

def rget (rows : List (List Bool)) (i v : Nat) : Bool := (rows.getD i []).getD v false
def rset (rows : List (List Bool)) (i v : Nat) (b : Bool) : List (List Bool) := rows.set i ((rows.getD i []).set v b)
theorem getD_setL {α : Type} {l : List α} {i k : Nat} {d x : α} (hk : k < l.length) : (l.set k x).getD i d = if i = k then x else l.getD i d := by
  by_cases h : i = k
  · subst h; simp [List.getD, hk]
  · simp [List.getD, h, Ne.symm h]
theorem rget_rset {rows : List (List Bool)} {i v : Nat} {b : Bool} (hi : i < rows.length) (hv : v < (rows.getD i []).length) (j u : Nat) : rget (rset rows i v b) j u = if j = i ∧ u = v then b else rget rows j u := by
  unfold rget rset
  rw [getD_setL hi]
  by_cases hj : j = i
  · subst hj
    rw [if_pos rfl, getD_setL hv]
    by_cases hu : u = v
    · simp [hu]
    · simp [hu]
  · simp [hj]
theorem rset_len (rows : List (List Bool)) (i v : Nat) (b : Bool) : (rset rows i v b).length = rows.length := by simp [rset]
theorem rset_row {rows : List (List Bool)} {i v : Nat} {b : Bool} (hi : i < rows.length) (j : Nat) : ((rset rows i v b).getD j []).length = (rows.getD j []).length := by
  unfold rset
  rw [getD_setL hi]
  split
  · rename_i h; subst h; simp
  · rfl
/-- how many places of the rows are not set -/
def muR (rows : List (List Bool)) : Nat := (rows.map fun r => (r.filter fun b => !b).length).sum
theorem filter_set_lt {l : List Bool} {v : Nat} (hv : v < l.length) (h : l.getD v false = false) : ((l.set v true).filter fun b => !b).length < (l.filter fun b => !b).length := by
  induction l generalizing v with
  | nil => simp at hv
  | cons a r ih =>
    cases v with
    | zero => simp [List.getD] at h; subst h; simp
    | succ v =>
      have := ih (v := v) (by simpa using hv) (by simpa [List.getD] using h)
      cases a <;> simp <;> omega
theorem sum_set_ltL {α : Type} {f : α → Nat} {l : List α} {k : Nat} {m : α} (hk : k < l.length) (h : f m < f l[k]) : ((l.set k m).map f).sum < (l.map f).sum := by
  induction l generalizing k with
  | nil => simp at hk
  | cons a r ih =>
    cases k with
    | zero => simp at h ⊢; omega
    | succ k =>
      have := ih (k := k) (by simpa using hk) (by simpa using h)
      simp only [List.set_cons_succ, List.map_cons, List.sum_cons]
      omega
theorem muR_set {rows : List (List Bool)} {i v : Nat} (hi : i < rows.length) (hv : v < (rows.getD i []).length) (h : rget rows i v = false) : muR (rset rows i v true) < muR rows := by
  refine sum_set_ltL (f := fun r : List Bool => (r.filter fun b => !b).length) hi ?_
  rw [getD_lt hi] at hv
  unfold rget at h
  rw [getD_lt hi] at h ⊢
  exact filter_set_lt hv h

/-- what is used at a point, or is live behind it and not set at it -/
def needB (ts : List Int) (q : Pt) (b : Bool) (v : Nat) : Bool := (useP ts q.op q.x q.y (v : Nat) != 0) || (b && decide (setsP q.op q.x ≠ (v : Nat)))
structure LvI (ts : List Int) (pts : List Pt) (rows : List (List Bool)) : Prop where
  len : rows.length = pts.length
  row : ∀ i, i < rows.length → (rows.getD i []).length = ts.length
  sound : ∀ i v, rget rows i v = true → ∃ p, pts[i]? = some p ∧ ∃ k ∈ p.next, Nd ts pts k v
theorem LvI.init (ts : List Int) (pts : List Pt) : LvI ts pts (List.replicate pts.length (List.replicate ts.length false)) := by
  have hr : ∀ i, i < pts.length → (List.replicate pts.length (List.replicate ts.length false)).getD i [] = List.replicate ts.length false := fun i hi => by
    rw [getD_lt (by simpa using hi)]; simp
  refine ⟨by simp, fun i hi => ?_, fun i v h => ?_⟩
  · rw [hr i (by simpa using hi)]; simp
  · exfalso
    unfold rget at h
    by_cases hi : i < pts.length
    · rw [hr i hi] at h
      by_cases hv : v < ts.length
      · rw [getD_lt (by simpa using hv)] at h; simp at h
      · rw [getD_ge (by simpa using hv)] at h; cases h
    · rw [getD_ge (l := List.replicate pts.length (List.replicate ts.length false)) (by simpa using hi)] at h; simp at h
theorem LvI.need {ts : List Int} {pts : List Pt} {rows : List (List Bool)} (h : LvI ts pts rows) {n v : Nat} {q : Pt} (hq : pts[n]? = some q) (hv : v < ts.length) (hn : needB ts q (rget rows n v) v = true) : Nd ts pts n v := by
  unfold needB at hn
  rw [Bool.or_eq_true, Bool.and_eq_true] at hn
  rcases hn with hn | ⟨hn, hs⟩
  · exact .use hq hv (by simpa using hn)
  · obtain ⟨p, hp, k, hk, hd⟩ := h.sound n v hn
    rw [hq] at hp; injection hp with hp; subst hp
    exact .flow hq hk hd (by simpa using hs)
theorem LvI.upd {ts : List Int} {pts : List Pt} {rows : List (List Bool)} (h : LvI ts pts rows) {i n v : Nat} {p q : Pt} (hp : pts[i]? = some p) (hn : n ∈ p.next) (hq : pts[n]? = some q) (hv : v < ts.length) (hi : i < rows.length) (hnd : needB ts q (rget rows n v) v = true) :
    LvI ts pts (rset rows i v true) := by
  have hd := h.need hq hv hnd
  refine ⟨by rw [rset_len, h.len], fun j hj => by rw [rset_row hi, h.row j (by simpa [rset_len] using hj)], fun j u hu => ?_⟩
  rw [rget_rset hi (by rw [h.row i hi]; exact hv)] at hu
  split at hu
  · rename_i e
    obtain ⟨rfl, rfl⟩ := e
    exact ⟨p, hp, n, hn, hd⟩
  · exact h.sound j u hu
theorem LvI.done {ts : List Int} {pts : List Pt} {rows : List (List Bool)} (h : LvI ts pts rows) (hnx : ∀ p ∈ pts, ∀ k ∈ p.next, k < pts.length)
    (hc : ∀ i p, pts[i]? = some p → ∀ n ∈ p.next, ∀ q, pts[n]? = some q → ∀ v, v < ts.length → needB ts q (rget rows n v) v = true → rget rows i v = true) (i v : Nat) :
    rget rows i v = true ↔ ∃ p, pts[i]? = some p ∧ ∃ k ∈ p.next, Nd ts pts k v := by
  refine ⟨h.sound i v, ?_⟩
  have hall : ∀ k v, Nd ts pts k v → ∀ i p, pts[i]? = some p → k ∈ p.next → rget rows i v = true := by
    intro k v hd
    induction hd with
    | @use k v q hq hv hu =>
      intro i p hp hk
      exact hc i p hp k hk q hq v hv (by unfold needB; rw [Bool.or_eq_true]; left; simpa using hu)
    | @flow k j v q hq hj hd hs ih =>
      intro i p hp hk
      have hr := ih k q hq hj
      exact hc i p hp k hk q hq v hd.lt (by unfold needB; rw [hr]; simp [hs])
  rintro ⟨p, hp, k, hk, hd⟩
  exact hall k v hd i p hp hk
end Go.Proofs.Ytidlifijgooceaa

/- Words for rows of bools that a call makes. -/
namespace Go.Proofs.Ytidlifijgooceaa
open Go.RowKit

theorem Try.infoBs : (Try.prog.info? 88).map (fun i => (i.zero, i.size, i.bytes)) = some (some (.slice none 0 0), 1, 24) := by kernel_rfl
/-- rows of bools: the outer row's cells lead to blocks of their own -/
structure BRow (w : World) (base : Nat) (v : Value) (rb : List Nat) (m : Nat) (rows : List (List Bool)) : Prop where
  own : w.ownsRow base 88 1 v rows.length (rb.map fun r => .slice (some ⟨r, 0, none⟩) m m)
  len : rb.length = rows.length
  row : ∀ i, i < rows.length → RowB w (rb.getD i 0) 4 (bv (rows.getD i [])) ∧ base ≤ rb.getD i 0
  inj : ∀ i j, i < rows.length → j < rows.length → rb.getD i 0 = rb.getD j 0 → i = j
theorem BRow.empty (w : World) (base m : Nat) (hb : base ≤ w.heap.size) : BRow (w.alloc (.cells #[] 88)) base (.slice (some ⟨w.heap.size, 0, none⟩) 0 0) [] m [] :=
  ⟨World.ownsRow_lit (base := base) (e := 88) (size := 1) w #[] 0 hb (by simp [maxLen]) rfl, rfl, fun i h => by simp at h, fun i j h => by simp at h⟩
theorem BRow.slice {w : World} {base : Nat} {v : Value} {rb : List Nat} {m : Nat} {rows : List (List Bool)} (h : BRow w base v rb m rows) : ∃ A c, v = .slice A rows.length c ∧ rows.length ≤ c := by
  rcases h.own.2 with ⟨rfl, h0⟩ | ⟨g, cap, cur, rfl, _, _, hc, _⟩
  · exact ⟨none, 0, by rw [h0], by omega⟩
  · exact ⟨_, cap, rfl, hc⟩
theorem BRow.form {w : World} {base : Nat} {v : Value} {rb : List Nat} {m : Nat} {rows : List (List Bool)} (h : BRow w base v rb m rows) (hn : 0 < rows.length) :
    ∃ g c, v = .slice (some ⟨g, 0, none⟩) rows.length c ∧ base ≤ g ∧ g < w.heap.size ∧ rows.length ≤ c ∧ (∀ i, i < rows.length → w.cell? ⟨g, i, none⟩ = some (.slice (some ⟨rb.getD i 0, 0, none⟩) m m)) ∧ ∃ cs fr, w.heap[g]? = some (.cells cs 88 fr) := by
  have ho := h.own
  obtain ⟨g, c, rfl, hb, hlt⟩ := ho.form hn
  refine ⟨g, c, rfl, hb, hlt, ?_, fun i hi => ?_, ?_⟩
  · rcases ho.2 with ⟨e, _⟩ | ⟨g', cap', cur, e, _, _, hc, _⟩
    · cases e
    · injection e with e1 e2 e3; subst e3; exact hc
  · have hil : i < rb.length := by rw [h.len]; exact hi
    rw [ho.cellAt i (by omega), List.getElem?_map, List.getElem?_eq_getElem hil, getD_lt hil]; rfl
  · rcases ho.2 with ⟨e, _⟩ | ⟨g', cap', cur, e, _, hh, _⟩
    · cases e
    · injection e with e1 e2 e3
      injection e1 with e1
      injection e1 with e1
      subst e1
      exact ⟨_, _, hh⟩
theorem BRow.low {w w' : World} {base : Nat} {v : Value} {rb : List Nat} {m : Nat} {rows : List (List Bool)} (h : BRow w base v rb m rows) (hb : Below w.heap.size w w') : BRow w' base v rb m rows :=
  ⟨h.own.kept (grown_bel hb (Nat.le_refl _) none) (by cases v.ownBlock <;> simp), h.len, fun i hi => ⟨(h.row i hi).1.low hb (h.row i hi).1.lt, (h.row i hi).2⟩, h.inj⟩
theorem BRow.set {w : World} {base : Nat} {v : Value} {rb : List Nat} {m : Nat} {rows : List (List Bool)} (h : BRow w base v rb m rows) {i u : Nat} (hi : i < rows.length) (b : Bool) :
    BRow (w.setCell ⟨rb.getD i 0, u, none⟩ (.bool b)) base v rb m (rset rows i u b) := by
  have hne : v.ownBlock ≠ some (rb.getD i 0) := by
    rcases h.own.2 with ⟨rfl, _⟩ | ⟨g, cap, cur, rfl, _, hh, _⟩
    · simp [Value.ownBlock]
    · intro e
      injection e with e
      have e' : g = rb.getD i 0 := e
      have hr := (h.row i hi).1
      unfold RowB at hr
      rw [← e', hh] at hr
      injection hr with hr
      injection hr with _ hT
      exact absurd hT (by decide)
  refine ⟨by rw [rset_len]; exact h.own.kept (grown_set w _ u _) (.inr hne), by rw [rset_len]; exact h.len, fun j hj => ?_, by rw [rset_len]; exact h.inj⟩
  rw [rset_len] at hj
  refine ⟨?_, (h.row j hj).2⟩
  unfold rset
  rw [getD_setL hi]
  by_cases e : j = i
  · subst e
    rw [if_pos rfl, ← bv_set]
    exact (h.row j hj).1.set_ u _
  · rw [if_neg e]
    exact (h.row j hj).1.other (fun hh => e (h.inj j i hj hi hh)) u _
/-- append(out, make([]bool, m)) -/
theorem wpList_push_row {ops : Array Oper} {rest : List Oper} {o : Oper} {a : Act} {Q : Exit → Act → World → Prop} {w : World} {base m : Nat} {vo : Value} {rb : List Nat} {rows : List (List Bool)} (hgd : o.guard = none) (s x : Operand)
    (ho : o.op = .call { callee := .builtin .append, args := #[s, x], argTypes := #[89, 89] })
    (hP : BRow w base vo rb m rows) (hb : base ≤ w.heap.size) (hn : rows.length + 1 ≤ 100000) (row : List Bool)
    (hs : a.eval s = vo) (hx : a.eval x = .slice (some ⟨w.heap.size + 1, 0, none⟩) 1 1)
    (h : ∀ v' w', BRow w' base v' (rb ++ [w.heap.size]) m (rows ++ [row]) → Below base w w' → wpList Try.prog ops Q rest (a.put o.dst v') w') :
    wpList Try.prog ops Q (o :: rest) a ((w.alloc (.cells (bv row).toArray 4)).alloc (.cells #[.slice (some ⟨w.heap.size, 0, none⟩) m m] 88)) := by
  obtain ⟨i0, hi0, hz0, hz1, hz2⟩ := info_parts Try.infoBs
  have hb1 := bel_a w (.cells (bv row).toArray 4)
  have hs1 : (w.alloc (.cells (bv row).toArray 4)).heap.size = w.heap.size + 1 := by simp
  have hb2 := bel_a (w.alloc (.cells (bv row).toArray 4)) (.cells #[.slice (some ⟨w.heap.size, 0, none⟩) m m] 88)
  have hr1 : RowB ((w.alloc (.cells (bv row).toArray 4)).alloc (.cells #[.slice (some ⟨w.heap.size, 0, none⟩) m m] 88)) w.heap.size 4 (bv row) := (RowB.new w (bv row) 4).alloc _
  have hr2 := heap_alloc_new (w.alloc (.cells (bv row).toArray 4)) (.cells #[.slice (some ⟨w.heap.size, 0, none⟩) m m] 88)
  rw [hs1] at hr2
  have hb12 := hb1.trans (hb2.mono hb1.size)
  have hP2 := hP.low hb12
  have hsz : ((w.alloc (.cells (bv row).toArray 4)).alloc (.cells #[.slice (some ⟨w.heap.size, 0, none⟩) m m] 88)).heap.size = w.heap.size + 2 := by simp
  generalize (w.alloc (.cells (bv row).toArray 4)).alloc (.cells #[.slice (some ⟨w.heap.size, 0, none⟩) m m] 88) = W at *
  refine wpList_append_own_at _ hgd s x 89 ho base 88 i0 _ 1 24 Try.underlying89 hi0 hz0 hz1 hz2 rfl (by omega) vo rows.length _ hs hP2.own ⟨w.heap.size + 1, 0, none⟩ 1 1 [.slice (some ⟨w.heap.size, 0, none⟩) m m] hx rfl ?_ ?_ (by simp only [maxLen]; omega) (by omega) (by omega) ?_
  · intro j u hu
    have hj : j = 0 := by
      rcases Nat.eq_zero_or_pos j with h | h
      · exact h
      · rw [List.getElem?_eq_none (by simp; omega)] at hu; cases hu
    subst hj
    have : W.cell? ⟨w.heap.size + 1, 0, none⟩ = some u := by
      rw [cell_of_row _ _ _ _ _ _ hr2]
      simpa using hu
    simpa [Addr.add] using this
  · intro u hu
    simp at hu
    subst hu; rfl
  · intro v' w' k1 k2 k3 k4
    have hownT : ∀ (b : Nat) (T : TypeId) (cs : Array Value), W.heap[b]? = some (Obj.cells cs T (0, 0)) → T ≠ 88 → w'.heap[b]? = some (Obj.cells cs T (0, 0)) := by
      intro b T cs hr hT
      refine (k2.block b ?_ fun e => ?_).trans hr
      · rcases Nat.lt_or_ge b W.heap.size with h' | h'
        · exact h'
        · rw [Array.getElem?_eq_none h'] at hr; cases hr
      · rcases hP2.own.2 with ⟨rfl, _⟩ | ⟨g, cap, cur, rfl, _, hh, _⟩
        · cases e
        · injection e with e
          have e' : b = g := e
          subst e'
          rw [hr] at hh
          injection hh with hh
          injection hh with _ hT'
          exact hT hT'
    have hlt : ∀ i, i < rows.length → rb.getD i 0 < w.heap.size := fun i hi => (hP.row i hi).1.lt
    have hgl : ∀ i, i < (rows ++ [row]).length → (rb ++ [w.heap.size]).getD i 0 = if i < rows.length then rb.getD i 0 else w.heap.size := by
      intro i hi
      by_cases h : i < rows.length
      · rw [if_pos h, getD_lt (by rw [List.length_append, hP.len]; omega), getD_lt (by rw [hP.len]; exact h), List.getElem_append_left]
      · have hi' : i = rows.length := by simp at hi; omega
        rw [if_neg h, getD_lt (by simp [hP.len, hi'])]
        rw [List.getElem_append_right (by rw [hP.len]; omega)]; simp
    refine h v' w' ⟨?_, by simp [hP.len], fun i hi => ?_, fun i j hi hj he => ?_⟩ ?_
    · rw [List.map_append, List.length_append]; exact k1
    · rw [hgl i hi]
      by_cases hil : i < rows.length
      · rw [if_pos hil, getD_lt hi, List.getElem_append_left hil]
        refine ⟨?_, (hP.row i hil).2⟩
        have := hownT _ _ _ (hP2.row i hil).1 (by decide)
        rw [getD_lt hil] at this
        exact this
      · have hi' : i = rows.length := by simp at hi; omega
        rw [if_neg hil, getD_lt hi, List.getElem_append_right (by omega)]
        refine ⟨?_, hb⟩
        have e := hownT _ _ _ hr1 (by decide)
        simpa [RowB] using e
    · rw [hgl i hi, hgl j hj] at he
      simp at hi hj
      split at he <;> split at he
      · exact hP.inj i j (by assumption) (by assumption) he
      · have := hlt i (by assumption); omega
      · have := hlt j (by assumption); omega
      · omega
    · refine (hb12.mono hb).trans ⟨k2.os, k2.tape, k2.output, k2.size, fun k hk => k2.block k (by omega) fun e => ?_⟩
      have := (hP2.own.lt k e.symm).1
      omega

end Go.Proofs.Ytidlifijgooceaa

/- A region that draws its order, each of whose operations has a known value in every world that meets a condition S and keeps S: it may be walked in the order of the text. No program in sight. -/
namespace Go.Proofs.Ytidlifijgooceaa
open Go Go.RowKit

section
variable {P : Program} {ops : Array Oper} {Q : Exit → Act → World → Prop} {md : Region.Mode} {S : World → Prop}

/-- what an operation does when it is carried out: it yields v and keeps S -/
def DoesS (P : Program) (S : World → Prop) (o : Oper) (v : Value) (a : Act) : Prop :=
  (∀ w, S w → ∃ w', (execOp a.eval o).run P w = .ok (.value v) w' ∧ S w') ∨
  (v = undef ∧ ∀ w, S w → ∃ w', (execOp a.eval o).run P w = .ok .skip w' ∧ S w') ∨
  (∃ f args, ∀ w, S w → (execOp a.eval o).run P w = .ok (.enter f args) w ∧ Calls P f args w fun e w' => e = .returned v ∧ S w')
def StepS (P : Program) (ops : Array Oper) (S : World → Prop) (o : Oper) (v : Value) (a : Act) : Prop :=
  (Region.wanted o (yielded ops a.tmps) = true ∧ DoesS P S o v a) ∨ (Region.wanted o (yielded ops a.tmps) = false ∧ v = undef)

theorem StepS.of_same {o : Oper} {v : Value} {a a' : Act} (hy : StepS P ops S o v a) (he : execOp a'.eval o = execOp a.eval o)
    (hw : Region.wanted o (yielded ops a'.tmps) = Region.wanted o (yielded ops a.tmps)) : StepS P ops S o v a' := by
  unfold StepS DoesS at *
  rw [he, hw]
  exact hy

theorem StepS.wpOp {i : Nat} {o : Oper} {v : Value} {a : Act} (hi : ops[i]? = some o) (hy : StepS P ops S o v a)
    {K : Act → World → Prop} {w : World} (hS : S w) (h : ∀ w', S w' → K (a.put o.dst v) w') : wpOp P ops Q i K a w := by
  unfold Go.wpOp
  simp only [hi]
  rcases hy with ⟨hw, hd⟩ | ⟨hw, rfl⟩
  · simp only [hw, if_true]
    refine .inl ?_
    unfold Oper.wp
    rcases hd with hd | ⟨rfl, hd⟩ | ⟨f, args, hd⟩
    · obtain ⟨w', hr, hS'⟩ := hd w hS
      rw [hr]; exact h w' hS'
    · obtain ⟨w', hr, hS'⟩ := hd w hS
      rw [hr]; exact h w' hS'
    · obtain ⟨hr, hc⟩ := hd w hS
      rw [hr]
      refine Calls.mono hc fun e w' he => ?_
      obtain ⟨rfl, hS'⟩ := he
      exact h w' hS'
  · simp only [hw, Bool.false_eq_true, if_false]; exact h w hS

/-- in whatever order -/
def Det (P : Program) (md : Region.Mode) (ops : Array Oper) (Q : Exit → Act → World → Prop) (S : World → Prop) : Nat → Array Bool → Act → Prop
  | 0, listed, a => Region.ready md ops listed = [] ∧ ∀ w, S w → Q .normal a w
  | fuel + 1, listed, a => (Region.ready md ops listed = [] → ∀ w, S w → Q .normal a w) ∧
    ∀ i ∈ Region.ready md ops listed, ∃ o v, ops[i]? = some o ∧ StepS P ops S o v a ∧ Det P md ops Q S fuel (listed.setIfInBounds i true) (a.put o.dst v)

theorem wpAny_of_det : ∀ (fuel : Nat) (listed : Array Bool) (a : Act), Det P md ops Q S fuel listed a → ∀ w, S w → wpAny P md ops Q fuel listed a w
  | 0, _, _, h, w, hS => ⟨h.1, h.2 w hS⟩
  | fuel + 1, listed, a, h, w, hS => ⟨fun h0 => h.1 h0 w hS, fun i hi => by
      obtain ⟨o, v, ho, hst, hd⟩ := h.2 i hi
      exact hst.wpOp ho hS fun w' hS' => wpAny_of_det fuel _ _ hd w' hS'⟩

theorem Det.first {i : Nat} {oi : Oper} {v : Value} (hi : ops[i]? = some oi) (hsel : ∀ (j : Nat) (o : Oper) cs b, ops[j]? = some o → o.op ≠ .select cs b) :
    ∀ (fuel : Nat) (listed : Array Bool) (a : Act),
      (∀ j oj, ops[j]? = some oj → j ≠ i → listed.getD j true = false → (∀ e ∈ oj.after, Region.binds md e = true → e.on ≠ i) → oi.apart ops oj = true) →
      i ∈ Region.ready md ops listed → StepS P ops S oi v a →
      Det P md ops Q S fuel (listed.setIfInBounds i true) (a.put oi.dst v) → Det P md ops Q S (fuel + 1) listed a := by
  intro fuel
  induction fuel with
  | zero =>
    intro listed a _ hr hy H
    refine ⟨fun h => (by rw [h] at hr; cases hr), fun j hj => ?_⟩
    by_cases hji : j = i
    · subst hji; exact ⟨oi, v, hi, hy, H⟩
    · have := ready_mono hj hji
      rw [H.1] at this
      cases this
  | succ fuel ih =>
    intro listed a hfree hr hy H
    refine ⟨fun h => (by rw [h] at hr; cases hr), fun j hj => ?_⟩
    by_cases hji : j = i
    · subst hji; exact ⟨oi, v, hi, hy, H⟩
    · obtain ⟨oj', u, hoj', hst, hd⟩ := H.2 j (ready_mono hj hji)
      obtain ⟨hjun, oj, hoj, hall⟩ := mem_ready.1 hj
      rw [hoj] at hoj'
      injection hoj' with e
      subst e
      have hnot : ∀ e ∈ oj.after, Region.binds md e = true → e.on ≠ i := fun e he hb heq => by
        have h1 := hall e he hb
        have h0 := (mem_ready.1 hr).1
        rw [heq] at h1
        rcases Nat.lt_or_ge i listed.size with h' | h'
        · simp [h'] at h0 h1; rw [h0] at h1; cases h1
        · simp [Array.getElem?_eq_none h'] at h1
      obtain ⟨h1, h2, h3⟩ := Oper.apart_spec (hfree j oj hoj hji hjun hnot)
      have hstj : StepS P ops S oj u a := hst.of_same (execOp_put oj (fun cs b => hsel j oj cs b hoj) a oi.dst v h1).symm (wanted_put oj a oi.dst v h1).symm
      have hsti : StepS P ops S oi v (a.put oj.dst u) := hy.of_same (execOp_put oi (fun cs b => hsel i oi cs b hi) a oj.dst u h3) (wanted_put oi a oj.dst u h3)
      have hfree' : ∀ k ok, ops[k]? = some ok → k ≠ i → (listed.setIfInBounds j true).getD k true = false →
          (∀ e ∈ ok.after, Region.binds md e = true → e.on ≠ i) → oi.apart ops ok = true := fun k ok hk hki hun hno => by
        refine hfree k ok hk hki ?_ hno
        by_cases hjk : j = k
        · subst hjk; exact hjun
        · rw [getD_set_ne true hjk] at hun; exact hun
      refine ⟨oj, u, hoj, hstj, ih (listed.setIfInBounds j true) (a.put oj.dst u) hfree' (ready_mono hr (Ne.symm hji)) hsti ?_⟩
      rw [Array.setIfInBounds_comm _ _ hji, ← Act.put_comm a v u h2]
      exact hd

/-- in the order of the text, from operation i on -/
def SeqS (P : Program) (ops : Array Oper) (Q : Exit → Act → World → Prop) (S : World → Prop) : List Oper → Act → Prop
  | [], a => ∀ w, S w → Q .normal a w
  | o :: rest, a => ∃ v, StepS P ops S o v a ∧ SeqS P ops Q S rest (a.put o.dst v)

/-- the first i operations have come up -/
def doneTo (n i : Nat) : Array Bool := Array.ofFn fun j : Fin n => decide (j.val < i)
theorem doneTo_get (n i j : Nat) (d : Bool) : (doneTo n i).getD j d = if j < n then decide (j < i) else d := by
  unfold doneTo
  by_cases h : j < n
  · rw [if_pos h]; simp [Array.getD_eq_getD_getElem?, h]
  · rw [if_neg h]; simp [Array.getD_eq_getD_getElem?, h]
theorem doneTo_succ (n i : Nat) : (doneTo n i).setIfInBounds i true = doneTo n (i + 1) := by
  apply Array.ext
  · simp [doneTo]
  · intro j h1 h2
    have hj : j < n := by simpa [doneTo] using h2
    rw [Array.getElem_setIfInBounds (by simpa [doneTo] using hj)]
    simp only [doneTo, Array.getElem_ofFn]
    split
    · rename_i e; subst e; simp
    · rename_i e; rw [decide_eq_decide]; omega
theorem doneTo_zero (n : Nat) : Array.replicate n false = doneTo n 0 := by
  apply Array.ext
  · simp [doneTo]
  · intro j h1 h2; simp [doneTo]

/-- operation i waits for none behind it, and those behind it that do not wait for it are apart from it -/
def seqAt (md : Region.Mode) (ops : Array Oper) (i : Nat) : Bool :=
  match ops[i]? with
  | none => true
  | some oi => oi.after.all (fun e => !Region.binds md e || decide (e.on < i)) &&
    (List.range ops.size).all fun j => decide (j ≤ i) || match ops[j]? with
      | some oj => oj.after.any (fun e => Region.binds md e && e.on == i) || oi.apart ops oj
      | none => true
def seqOk (md : Region.Mode) (ops : Array Oper) : Bool := Region.noSelect ops && (List.range ops.size).all (seqAt md ops)

theorem ready_done {n : Nat} (hn : ops.size = n) : Region.ready md ops (doneTo n n) = [] := by
  apply List.eq_nil_iff_forall_not_mem.2
  intro j hj
  have h := (mem_ready.1 hj)
  obtain ⟨o, ho, _⟩ := h.2
  have hlt : j < ops.size := (Array.getElem?_eq_some_iff.1 ho).1
  have h0 := h.1
  rw [doneTo_get, if_pos (by omega)] at h0
  simp at h0; omega

theorem Det.of_seq (hok : seqOk md ops = true) : ∀ (fuel i : Nat) (a : Act), fuel + i = ops.size → SeqS P ops Q S (ops.toList.drop i) a → Det P md ops Q S fuel (doneTo ops.size i) a := by
  have hok' := hok
  simp only [seqOk, Bool.and_eq_true, List.all_eq_true, List.mem_range] at hok'
  obtain ⟨hs, hat⟩ := hok'
  intro fuel
  induction fuel with
  | zero =>
    intro i a hi h
    have : i = ops.size := by omega
    subst this
    rw [List.drop_of_length_le (by simp)] at h
    exact ⟨ready_done rfl, h⟩
  | succ fuel ih =>
    intro i a hi h
    have hlt : i < ops.size := by omega
    have hd : ops.toList.drop i = ops[i] :: ops.toList.drop (i + 1) := by
      rw [List.drop_eq_getElem_cons (by simpa using hlt)]; simp
    rw [hd] at h
    obtain ⟨v, hst, hrest⟩ := h
    have hget : ops[i]? = some ops[i] := Array.getElem?_eq_getElem hlt
    have hA := hat i hlt
    simp only [seqAt, hget, Bool.and_eq_true, List.all_eq_true, List.mem_range, Array.all_eq_true_iff_forall_mem] at hA
    have hdn := ih (i + 1) _ (by omega) hrest
    rw [← doneTo_succ] at hdn
    refine Det.first hget (Region.noSelect_spec hs) fuel (doneTo ops.size i) a ?_ ?_ hst hdn
    · intro j oj hj hne hun hno
      have hjl : j < ops.size := (Array.getElem?_eq_some_iff.1 hj).1
      rw [doneTo_get, if_pos hjl] at hun
      have hji : i < j := by simp at hun; omega
      have h2 := hA.2 j hjl
      simp only [hj, Bool.or_eq_true, decide_eq_true_eq] at h2
      rcases h2 with h2 | h2 | h2
      · omega
      · obtain ⟨e, he, hb⟩ := Array.any_eq_true'.1 h2
        simp only [Bool.and_eq_true, beq_iff_eq] at hb
        exact absurd hb.2 (hno e he hb.1)
      · exact h2
    · rw [mem_ready]
      refine ⟨by rw [doneTo_get, if_pos hlt]; simp, ops[i], hget, fun e he hb => ?_⟩
      have h1 := hA.1 e he
      simp only [hb, Bool.not_true, Bool.false_or, decide_eq_true_eq] at h1
      rw [doneTo_get, if_pos (by omega)]; simpa using h1

/-- the law -/
theorem wp_region_seq {id : Nat} {l : List Oper} {a : Act} {w : World} (S : World → Prop) (hm : P.follows .mixedOrders = true) (hok : seqOk .any l.toArray = true) (hS : S w.drew)
    (h : SeqS P l.toArray Q S l a) : (Code.region id l.toArray true).wp P Q a w := by
  refine wp_region_any hm ?_
  rw [doneTo_zero]
  exact wpAny_of_det _ _ _ (Det.of_seq hok l.toArray.size 0 a (by omega) (by simpa using h)) w.drew hS

theorem SeqS.skip {o : Oper} {rest : List Oper} {a : Act} (hw : Region.wanted o (yielded ops a.tmps) = false) (h : SeqS P ops Q S rest (a.put o.dst undef)) : SeqS P ops Q S (o :: rest) a :=
  ⟨undef, .inr ⟨hw, rfl⟩, h⟩
theorem SeqS.pure {o : Oper} {rest : List Oper} {a : Act} {v : Value} (hw : Region.wanted o (yielded ops a.tmps) = true) (hv : ∀ w, S w → (execOp a.eval o).run P w = .ok (.value v) w) (h : SeqS P ops Q S rest (a.put o.dst v)) : SeqS P ops Q S (o :: rest) a :=
  ⟨v, .inl ⟨hw, .inl fun w hS => ⟨w, hv w hS, hS⟩⟩, h⟩
theorem SeqS.call {o : Oper} {rest : List Oper} {a : Act} {v : Value} {f : FuncId} {args : Array Value} (hw : Region.wanted o (yielded ops a.tmps) = true) (he : ∀ w, (execOp a.eval o).run P w = .ok (.enter f args) w) (hc : ∀ w, S w → Calls P f args w fun e w' => e = .returned v ∧ S w') (h : SeqS P ops Q S rest (a.put o.dst v)) : SeqS P ops Q S (o :: rest) a :=
  ⟨v, .inl ⟨hw, .inr (.inr ⟨f, args, fun w hS => ⟨he w, hc w hS⟩⟩)⟩, h⟩

end
theorem bcell {W w1 : World} (hb : Below W.heap.size W w1) : (∀ b o, b < W.heap.size → w1.cell? ⟨b, o, none⟩ = W.cell? ⟨b, o, none⟩) ∧ (∀ b o, b < W.heap.size → w1.frozen? ⟨b, o, none⟩ = W.frozen? ⟨b, o, none⟩) :=
  ⟨fun b o h => hb.cell (p := ⟨b, o, none⟩) h, fun b o h => hb.frozen (p := ⟨b, o, none⟩) h⟩
end Go.Proofs.Ytidlifijgooceaa
