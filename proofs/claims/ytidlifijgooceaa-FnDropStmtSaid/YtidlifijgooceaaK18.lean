import Derived.Test.YtidlifijgooceaaK17
import Derived.RegionTactic
import Derived.Deep.RegionHeld3
import Derived.Test.YtidlifijgooceaaK01
import Derived.Test.YtidlifijgooceaaK06
import Derived.Test.YtidlifijgooceaaK07
set_option linter.unusedVariables false

/- append of a whole slice of ints; l1CopyOf. -/
namespace Go.Proofs.Ytidlifijgooceaa
open Go.RowKit

theorem run_app_nil (w : World) (base : Nat) (ty : TypeId) (v : Value) (l : List Int) (hP : OInts w base v l) (c : Nat) : (Builtin.append_ #[23, 23] ty #[v, .slice none 0 c]).run Try.prog w = .ok v w := by
  obtain ⟨i0, hi0, hz0, hz1, hz2⟩ := info_parts Try.infoInt
  rcases hP.2 with ⟨rfl, h0⟩ | ⟨g, cap, cur, rfl, _, _, hnc, _⟩
  · simp [Builtin.append_, run_underlying Try.underlying23, sizeOf, typeInfo, hi0, Builtin.lenOf, Builtin.firstCells]
  · simp [Builtin.append_, run_underlying Try.underlying23, sizeOf, typeInfo, hi0, Builtin.lenOf, Builtin.firstCells, hnc, storeCells]
theorem run_app_ints (w : World) (base : Nat) (ty : TypeId) (v : Value) (l : List Int) (hP : OInts w base v l) (B : Nat) (vs : Value) (ts : List Int) (hr : IntS w B vs ts) (hb : base ≤ w.heap.size) (hn : l.length + ts.length ≤ 8388608) :
    ∃ v' w', (Builtin.append_ #[23, 23] ty #[v, vs]).run Try.prog w = .ok v' w' ∧ OInts w' base v' (l ++ ts) ∧ w.grownBy w' v.ownBlock ∧ (v'.ownBlock = v.ownBlock ∨ v'.ownBlock = some w.heap.size) := by
  obtain ⟨A, c, rfl, hc, hm, hrd⟩ := hr
  rcases Nat.eq_zero_or_pos ts.length with h0 | h0
  · have hts : ts = [] := List.length_eq_zero_iff.1 h0
    subst hts
    rcases A with _ | ad
    · exact ⟨v, w, run_app_nil w base ty v l hP c, by simpa using hP, World.grownBy.refl w _, .inl rfl⟩
    · obtain ⟨i0, hi0, hz0, hz1, hz2⟩ := info_parts Try.infoInt
      obtain ⟨v', w', hrun, h2, h3, _, h5⟩ := run_append_own_at (P := Try.prog) w base 23 ty 3 i0 _ 1 8 Try.underlying23 hi0 hz0 hz1 hz2 rfl (by omega) v l.length _ hP ad 0 c [] rfl (fun j u h => by simp at h) (fun u h => by simp at h) (by simp only [maxLen]; omega) (by omega) hb
      exact ⟨v', w', hrun, by simpa [OInts] using h2, h3, h5⟩
  · obtain ⟨b, off, rfl, hbl, hcell⟩ := hrd.2 h0
    obtain ⟨i0, hi0, hz0, hz1, hz2⟩ := info_parts Try.infoInt
    obtain ⟨v', w', hrun, h2, h3, _, h5⟩ := run_append_own_at (P := Try.prog) w base 23 ty 3 i0 _ 1 8 Try.underlying23 hi0 hz0 hz1 hz2 rfl (by omega) v l.length _ hP ⟨b, off, none⟩ ts.length c (ts.map (.int .i64)) (by simp)
      (fun j u h => by
        rcases Nat.eq_zero_or_pos j with hj | hj
        · subst hj; simpa [Addr.add] using hcell 0 u h
        · have := hcell j u h
          have hj0 : j ≠ 0 := by omega
          simpa [Addr.add, hj0] using this)
      (fun u h => by obtain ⟨x, _, rfl⟩ := List.mem_map.1 h; rfl) (by simp only [maxLen]; omega) (by omega) hb
    exact ⟨v', w', hrun, by simpa [OInts] using h2, h3, h5⟩
theorem wp_app_ints {o : Oper} {a : Act} {K : Act → World → Prop} {Q : Exit → Act → World → Prop} {w : World} (s x : Operand)
    (ho : o.op = .call { callee := .builtin .append, args := #[s, x], argTypes := #[23, 23] })
    (base : Nat) (v : Value) (l : List Int) (hs : a.eval s = v) (hP : OInts w base v l) (B : Nat) (vs : Value) (ts : List Int) (hx : a.eval x = vs) (hr : IntS w B vs ts) (hb : base ≤ w.heap.size) (hn : l.length + ts.length ≤ 8388608)
    (h : ∀ v' w', OInts w' base v' (l ++ ts) → w.grownBy w' v.ownBlock → (v'.ownBlock = v.ownBlock ∨ v'.ownBlock = some w.heap.size) → K (a.put o.dst v') w') : o.wp Try.prog a w K Q := by
  obtain ⟨v', w', hrun, h2, h3, h4⟩ := run_app_ints w base o.type v l hP B vs ts hr hb hn
  unfold Oper.wp execOp
  simp only [ho, resolve, invoke, builtin, Sem.run_bind, Sem.run_pure, Result.andThen_ok, List.map_toArray, List.map_cons, List.map_nil, hs, hx, hrun]
  exact h v' w' h2 h3 h4
theorem step_app_ints {ops : Array Oper} {o : Oper} {a : Act} {K : Act → World → Prop} {Q : Exit → Act → World → Prop} {E : Prop} {w : World} (hgd : o.guard = none) (s x : Operand)
    (ho : o.op = .call { callee := .builtin .append, args := #[s, x], argTypes := #[23, 23] })
    (base : Nat) (v : Value) (l : List Int) (hs : a.eval s = v) (hP : OInts w base v l) (B : Nat) (vs : Value) (ts : List Int) (hx : a.eval x = vs) (hr : IntS w B vs ts) (hb : base ≤ w.heap.size) (hn : l.length + ts.length ≤ 8388608)
    (h : ∀ v' w', OInts w' base v' (l ++ ts) → w.grownBy w' v.ownBlock → (v'.ownBlock = v.ownBlock ∨ v'.ownBlock = some w.heap.size) → K (a.put o.dst v') w') :
    if Region.wanted o (yielded ops a.tmps) = true then Oper.wp Try.prog o a w K Q else E := by
  have hw : Region.wanted o (yielded ops a.tmps) = true := by simp [Region.wanted, hgd]
  rw [if_pos hw]
  exact wp_app_ints s x ho base v l hs hP B vs ts hx hr hb hn h

theorem OInts.move {w w' : World} {base base' : Nat} {v : Value} {l : List Int} (h : OInts w base v l) (hb : base' ≤ base) (hk : ∀ b, base ≤ b → b < w.heap.size → w'.heap[b]? = w.heap[b]?) : OInts w' base' v l := by
  refine ⟨h.1, ?_⟩
  rcases h.2 with h' | ⟨g, cap, cur, rfl, hbg, hh, rest⟩
  · exact .inl h'
  · exact .inr ⟨g, cap, cur, rfl, by omega, (hk g hbg (row_lt hh)).trans hh, rest⟩
theorem OInts.own_lt {w : World} {base : Nat} {v : Value} {l : List Int} (h : OInts w base v l) {g : Nat} (e : v.ownBlock = some g) : base ≤ g ∧ g < w.heap.size := World.ownsRow.lt h g e
theorem OSt.own_lt {w : World} {base : Nat} {v : Value} {l : List St} (h : OSt w base v l) {g : Nat} (e : v.ownBlock = some g) : base ≤ g ∧ g < w.heap.size := by
  obtain ⟨es, rfl, h2, _⟩ := h
  exact h2.lt g e
theorem OSt.move {w w' : World} {base base' : Nat} {v : Value} {l : List St} (h : OSt w base v l) (hs : w.heap.size ≤ w'.heap.size) (hb : base' ≤ base) (hk : ∀ b, base ≤ b → b < w.heap.size → w'.heap[b]? = w.heap[b]?) : OSt w' base' v l := by
  obtain ⟨es, rfl, h2, h3⟩ := h
  refine ⟨es, rfl, ⟨h2.1, ?_⟩, fun e he => ?_⟩
  · rcases h2.2 with h' | ⟨g, cap, cur, rfl, hbg, hh, rest⟩
    · exact .inl h'
    · exact .inr ⟨g, cap, cur, rfl, by omega, (hk g hbg (row_lt hh)).trans hh, rest⟩
  · obtain ⟨k1, k2⟩ := h3 e he
    have hk' : ∀ b, (base ≤ b ∧ v.ownBlock ≠ some b) → b < w.heap.size → (base' ≤ b ∧ v.ownBlock ≠ some b) ∧ w'.heap[b]? = w.heap[b]? := fun b hb' hl => ⟨⟨by omega, hb'.2⟩, hk b hb'.1 hl⟩
    exact ⟨k1.frame hs hk', k2.frame hs hk'⟩

theorem grown_far {W w w' : World} {r : Nat} {row : Option Nat} (h : W.grownBy w (some r)) (k : w.grownBy w' row) (hf : ∀ n, row = some n → W.heap.size ≤ n) : W.grownBy w' (some r) :=
  ⟨k.os.trans h.os, k.tape.trans h.tape, k.output.trans h.output, Nat.le_trans h.size k.size, fun i hi hne => (k.block i (Nat.lt_of_lt_of_le hi h.size) (fun e => by have := hf i e.symm; omega)).trans (h.block i hi hne)⟩
def CpRet (w : World) (ts : List Int) (l : List St) (e : Ending) (w' : World) : Prop :=
  ∃ vt vb lo, e = .returned (.agg #[vt, vb]) ∧ OInts w' w.heap.size vt ts ∧ (∀ g, vt.ownBlock = some g → g < lo) ∧ OSt w' lo vb l ∧ w.heap.size ≤ lo ∧ lo ≤ w'.heap.size ∧ Below w.heap.size w w'
/-- a copied program: the types' row lies below the statements' blocks -/
theorem cp_close {w wf W : World} {base lo : Nat} {vt vb : Value} {ts : List Int} {l : List St} (hB0 : Below w.heap.size w wf) (hlo : w.heap.size + 2 ≤ lo) (hlo2 : lo ≤ wf.heap.size) (hos : OSt wf lo vb l)
    (hbase : w.heap.size + 2 ≤ base) (hoi : OInts wf base vt ts) (hne : ∀ g, vt.ownBlock = some g → g < lo)
    (hW : wf.grownBy W (some (w.heap.size + 1))) : CpRet w ts l (.returned (.agg #[vt, vb])) W := by
  have hk : ∀ b, w.heap.size + 2 ≤ b → b < wf.heap.size → W.heap[b]? = wf.heap[b]? := fun b hb hl => hW.block b hl (fun e => by injection e with e; omega)
  exact ⟨vt, vb, lo, rfl, hoi.move (by omega) fun b hb hl => hk b (by omega) hl, hne, hos.move hW.size (Nat.le_refl _) fun b hb hl => hk b (by omega) hl, by omega, by have := hW.size; omega,
    hB0.trans ⟨hW.os, hW.tape, hW.output, hW.size, fun k hk' => hW.block k (by have := hB0.size; omega) (fun e => by injection e with e; omega)⟩⟩

set_option maxHeartbeats 4000000 in
set_option maxRecDepth 100000 in
theorem copyOf_any (vt vb : Value) (ts : List Int) (l : List St) (B : Nat) (w : World) (ht : IntS w B vt ts) (hl : StS w B vb l) (hB : B ≤ w.heap.size) (hts : ts.length ≤ 700) (hsz : szL l ≤ 4194000) :
    Calls Try.prog 52 #[.agg #[vt, vb]] w (CpRet w ts l) := by
  have ht0 := ht
  have hl0 := hl
  obtain ⟨At, ct, rfl, -⟩ := ht0
  obtain ⟨Ab, cb, rfl, -⟩ := hl0.slice

  have hA := bel_a w (.cells #[.slice At ts.length ct, .slice Ab l.length cb] 26)
  have hB2 := bel_a (w.alloc (.cells #[.slice At ts.length ct, .slice Ab l.length cb] 26)) (.cells #[.slice none 0 0, .slice none 0 0] 26)
  have hAB := hA.trans (hB2.mono hA.size)
  have hr0 := row_below (heap_alloc_new w (.cells #[.slice At ts.length ct, .slice Ab l.length cb] 26)) hB2
  have hr1 := heap_alloc_new (w.alloc (.cells #[.slice At ts.length ct, .slice Ab l.length cb] 26)) (.cells #[.slice none 0 0, .slice none 0 0] 26)
  have hsz1 : (w.alloc (.cells #[.slice At ts.length ct, .slice Ab l.length cb] 26)).heap.size = w.heap.size + 1 := by simp
  rw [hsz1] at hr1
  have hsW : ((w.alloc (.cells #[.slice At ts.length ct, .slice Ab l.length cb] 26)).alloc (.cells #[.slice none 0 0, .slice none 0 0] 26)).heap.size = w.heap.size + 2 := by simp
  go_enter Try.func52, Try.ntmps52
  go_wp2_with fail
  generalize (w.alloc (.cells #[.slice At ts.length ct, .slice Ab l.length cb] 26)).alloc (.cells #[.slice none 0 0, .slice none 0 0] 26) = W at *
  have q0 : W.cell? ⟨w.heap.size, 0, none⟩ = some (.slice At ts.length ct) := by rw [cell_of_row _ _ _ _ _ _ hr0]; rfl
  have q1 : W.cell? ⟨w.heap.size, 1, none⟩ = some (.slice Ab l.length cb) := by rw [cell_of_row _ _ _ _ _ _ hr0]; rfl
  have CE : ∀ w', (w'.cell? ⟨w.heap.size, 0, none⟩ = some (.slice At ts.length ct) ∧ w'.cell? ⟨w.heap.size, 1, none⟩ = some (.slice Ab l.length cb) ∧ W.grownBy w' (some (w.heap.size + 1))) → Calls Try.prog 69 #[.slice Ab l.length cb] w' (CopyRet w' l) := fun w' h =>
    copy_any (szL l) hsz _ l B w' (Nat.le_refl _) ((hl.low hAB hB).keep fun b o hb => World.cell?_of_block (w := W) (a := ⟨b, o, none⟩) (h.2.2.block b (by omega) (fun e => by injection e with e; omega))) (by have := h.2.2.size; omega)
  have HCE := Lib.hid CE
  have HT := Lib.hid (ht.low hAB hB)
  have HAB := Lib.hid hAB
  have HR1 := Lib.hid hr1
  have SOF : ∀ w', W.grownBy w' (some (w.heap.size + 1)) → (w'.cell? ⟨w.heap.size, 0, none⟩ = some (.slice At ts.length ct) ∧ w'.cell? ⟨w.heap.size, 1, none⟩ = some (.slice Ab l.length cb) ∧ W.grownBy w' (some (w.heap.size + 1))) := fun w' h =>
    ⟨(World.cell?_of_block (w := W) (a := ⟨w.heap.size, 0, none⟩) (h.block w.heap.size (by omega) (fun e => by injection e with e; omega))).trans q0, (World.cell?_of_block (w := W) (a := ⟨w.heap.size, 1, none⟩) (h.block w.heap.size (by omega) (fun e => by injection e with e; omega))).trans q1, h⟩
  have GOF : ∀ w', (w'.cell? ⟨w.heap.size, 0, none⟩ = some (.slice At ts.length ct) ∧ w'.cell? ⟨w.heap.size, 1, none⟩ = some (.slice Ab l.length cb) ∧ W.grownBy w' (some (w.heap.size + 1))) → W.grownBy w' (some (w.heap.size + 1)) := fun w' h => h.2.2
  have HT0' : ∀ w', W.grownBy w' (some (w.heap.size + 1)) → IntS w' w.heap.size (.slice At ts.length ct) ts := fun w' h => ((ht.low hAB hB).more hB).keep fun b o hb => World.cell?_of_block (w := W) (a := ⟨b, o, none⟩) (h.block b (by omega) (fun e => by injection e with e; omega))
  have HT0 := Lib.hid HT0'
  clear HT0'
  have SO := Lib.hid SOF
  have GO := Lib.hid GOF
  clear hA hB2 hsz1 hr0 CE ht hl hAB hr1 SOF GOF q0 q1
  have tok1 : True := trivial
  go_region_held3 (fun w' => (w'.cell? ⟨w.heap.size, 0, none⟩ = some (.slice At ts.length ct) ∧ w'.cell? ⟨w.heap.size, 1, none⟩ = some (.slice Ab l.length cb) ∧ W.grownBy w' (some (w.heap.size + 1))))
    (first | exact SO.out _ (grown_bel ((Below.refl _ _).drew) (Nat.le_refl _) _) | exact SO.out _ (grown_bel ((bel_a _ _).drew) (Nat.le_refl _) _) | exact SO.out _ (by assumption) | exact SO.out _ (grown_alloc (GO.out _ (by assumption)) _) | exact SO.out _ (grown_tr (grown_tr (GO.out _ (by assumption)) (grown_set _ _ _ _)) (grown_set _ _ _ _)))
    (first
      | (go_at_call 69; (with_reducible refine (HCE.out _ (by assumption)).mono ?_); (rintro e w2 ⟨v2, rfl, hos, hb2⟩); (have gr2 := grown_below' (GO.out _ (by assumption)) hb2); (have hrb := row_below HRA.out hb2); (have HRB := Lib.hid hrb); (have z0 : w2.cell? ⟨w.heap.size + 1, 0, none⟩ = some (.slice none 0 0) := by (rw [cell_of_row _ _ _ _ _ _ hrb]; rfl)); (have z1 : w2.cell? ⟨w.heap.size + 1, 1, none⟩ = some (.slice none 0 0) := by (rw [cell_of_row _ _ _ _ _ _ hrb]; rfl)); (have zf0 := frozen_of_row w2 (w.heap.size + 1) 0 _ _ hrb); (have zf1 := frozen_of_row w2 (w.heap.size + 1) 1 _ _ hrb); clear hrb; (obtain ⟨A2, c2, rfl, -⟩ := hos.slice))
      | ((have _t := tok1); clear tok1 _t; (refine step_app_ints (by rfl) (.tmp 3) (.tmp 5) (by rfl) W.heap.size (.slice (some ⟨w.heap.size + 2, 0, none⟩) 0 0) [] (by rfl) (by rw [← hsW]; exact OInts.empty W W.heap.size (Nat.le_refl _)) w.heap.size _ ts (by rfl) (HT0.out _ (GO.out _ (by assumption))) (by have := (GO.out _ (by assumption)).size; omega) (by simp; omega) ?_); intro v' w' hoi hgw hor; (have gr1 : W.grownBy w' (some (w.heap.size + 1)) := grown_far (GO.out _ (by assumption)) hgw (fun n e => by simp [Value.ownBlock] at e; omega)); (have hra := (hgw.block (w.heap.size + 1) (by simp; omega) (by simp [Value.ownBlock])).trans (row_below HR1.out ((bel_a W _).drew))); (have HRA := Lib.hid hra); clear hra; (have HOI := Lib.hid hoi); (have HGW := Lib.hid hgw); (have HOR := Lib.hid hor); (obtain ⟨A', c', rfl, -⟩ := hoi.slice); clear hoi hgw hor))
  go_wp2_with fail
  have hs1 := gr1.size
  have hs2 := hb2.size
  refine bodyPost_ret (results_cell_row rfl _ _ (w.heap.size + 1) 26 _ (0, 0) _ rfl (box2 HRB.out _ _).1 Try.underlying26 rfl rfl) rfl ?_
  exact cp_close (lo := w'.heap.size) (base := W.heap.size) (HAB.out.trans ⟨gr2.os, gr2.tape, gr2.output, gr2.size, fun k hk => gr2.block k (by omega) (fun e => by injection e with e; omega)⟩) (by omega) hs2 hos (by omega)
    (HOI.out.move (Nat.le_refl _) fun b h1 h2 => hb2.block b h2) (fun g e => (HOI.out.own_lt e).2) (box2 HRB.out _ _).2

end Go.Proofs.Ytidlifijgooceaa

/- Plain: what flows into variables along points (cells, numbers, setters, loans), as a least set. No program in sight. -/
namespace Go.Proofs.Ytidlifijgooceaa

/-- the sum of f below n -/
def sumN : Nat → (Nat → Nat) → Nat
  | 0, _ => 0
  | n + 1, f => sumN n f + f n
theorem sumN_le {n : Nat} {f g : Nat → Nat} (h : ∀ i, i < n → f i ≤ g i) : sumN n f ≤ sumN n g := by
  induction n with
  | zero => exact Nat.le_refl _
  | succ n ih => have := ih fun i hi => h i (by omega); have := h n (by omega); simp only [sumN]; omega
theorem sumN_lt {n k : Nat} {f g : Nat → Nat} (h : ∀ i, i < n → f i ≤ g i) (hk : k < n) (hlt : f k < g k) : sumN n f < sumN n g := by
  induction n with
  | zero => omega
  | succ n ih =>
    have h1 := h n (by omega)
    have h2 := sumN_le (n := n) (f := f) (g := g) fun i hi => h i (by omega)
    simp only [sumN]
    by_cases e : k = n
    · subst e; omega
    · have := ih (fun i hi => h i (by omega)) (by omega); omega
/-- how many entries are no -/
def muB (n m s : Nat) (st : Nat → Nat → Nat → Bool) : Nat := sumN n fun i => sumN m fun v => sumN s fun e => if st i v e then 0 else 1
theorem one_le {a b : Bool} (h : a = true → b = true) : (if b then 0 else 1) ≤ (if a then 0 else 1) := by
  cases a <;> cases b <;> simp at h ⊢
theorem muB_lt {n m s i v e : Nat} {st st' : Nat → Nat → Nat → Bool} (h : ∀ i v e, st i v e = true → st' i v e = true) (hi : i < n) (hv : v < m) (he : e < s) (h0 : st i v e = false) (h1 : st' i v e = true) : muB n m s st' < muB n m s st :=
  sumN_lt (fun i _ => sumN_le fun v _ => sumN_le fun e _ => one_le (h i v e)) hi
    (sumN_lt (fun v _ => sumN_le fun e _ => one_le (h i v e)) hv (sumN_lt (fun e _ => one_le (h i v e)) he (by rw [h0, h1]; decide)))

/-- what v has behind point i (p), where b says what there is before it -/
def aftB (ts : List Int) (G : Nat → Pt → Nat → Bool) (C : Pt → Bool) (i : Nat) (p : Pt) (b : Nat → Nat → Bool) (v e : Nat) : Bool :=
  if setsP p.op p.x = (v : Int) then G i p e || (C p && b p.y.toNat e) else b v e && !(useP ts p.op p.x p.y (v : Int) == 2)
/-- what v has before a point -/
inductive Fl (ts : List Int) (pts : List Pt) (G : Nat → Pt → Nat → Bool) (C : Pt → Bool) : Nat → Nat → Nat → Prop
  | gen {i k v e : Nat} {p : Pt} (hp : pts[i]? = some p) (hk : k ∈ p.next) (hv : v < ts.length) (hs : setsP p.op p.x = (v : Int)) (h : G i p e = true) : Fl ts pts G C k v e
  | copy {i k v e : Nat} {p : Pt} (hp : pts[i]? = some p) (hk : k ∈ p.next) (hv : v < ts.length) (hs : setsP p.op p.x = (v : Int)) (hc : C p = true) (hi : Fl ts pts G C i p.y.toNat e) : Fl ts pts G C k v e
  | keep {i k v e : Nat} {p : Pt} (hp : pts[i]? = some p) (hk : k ∈ p.next) (hv : v < ts.length) (hs : setsP p.op p.x ≠ (v : Int)) (ht : useP ts p.op p.x p.y (v : Int) ≠ 2) (hi : Fl ts pts G C i v e) : Fl ts pts G C k v e
theorem Fl.lt {ts : List Int} {pts : List Pt} {G : Nat → Pt → Nat → Bool} {C : Pt → Bool} {i v e : Nat} (h : Fl ts pts G C i v e) : v < ts.length := by
  cases h <;> assumption
theorem Fl.size {ts : List Int} {pts : List Pt} {G : Nat → Pt → Nat → Bool} {C : Pt → Bool} {s i v e : Nat} (h : Fl ts pts G C i v e) (hg : ∀ i p e, pts[i]? = some p → G i p e = true → e < s) : e < s := by
  induction h with
  | gen hp _ _ _ h => exact hg _ _ _ hp h
  | copy _ _ _ _ _ _ ih => exact ih
  | keep _ _ _ _ _ _ ih => exact ih
/-- one step goes on being right -/
theorem Fl.aft {ts : List Int} {pts : List Pt} {G : Nat → Pt → Nat → Bool} {C : Pt → Bool} {b : Nat → Nat → Bool} {i k v e : Nat} {p : Pt} (hb : ∀ v e, b v e = true → Fl ts pts G C i v e) (hp : pts[i]? = some p) (hk : k ∈ p.next) (hv : v < ts.length) (h : aftB ts G C i p b v e = true) : Fl ts pts G C k v e := by
  unfold aftB at h
  split at h
  · rename_i hs
    rw [Bool.or_eq_true, Bool.and_eq_true] at h
    rcases h with h | ⟨hc, h⟩
    · exact .gen hp hk hv hs h
    · exact .copy hp hk hv hs hc (hb _ _ h)
  · rename_i hs
    rw [Bool.and_eq_true] at h
    exact .keep hp hk hv hs (by simpa using h.2) (hb _ _ h.1)
/-- where nothing is missing any more, all is there -/
theorem Fl.done {ts : List Int} {pts : List Pt} {G : Nat → Pt → Nat → Bool} {C : Pt → Bool} {st : Nat → Nat → Nat → Bool} {s : Nat} (hg : ∀ i p e, pts[i]? = some p → G i p e = true → e < s)
    (hc : ∀ i p k v e, pts[i]? = some p → k ∈ p.next → v < ts.length → e < s → aftB ts G C i p (st i) v e = true → st k v e = true) {i v e : Nat} (h : Fl ts pts G C i v e) : st i v e = true := by
  have hs := h.size hg
  induction h with
  | gen hp hk hv hs' h => exact hc _ _ _ _ _ hp hk hv hs (by unfold aftB; rw [if_pos hs', h]; rfl)
  | copy hp hk hv hs' hc' _ ih => exact hc _ _ _ _ _ hp hk hv hs (by unfold aftB; rw [if_pos hs', hc', ih hs]; simp)
  | keep hp hk hv hs' ht _ ih => exact hc _ _ _ _ _ hp hk hv hs (by unfold aftB; rw [if_neg hs', ih hs]; simpa using ht)

def Gcell (i : Nat) (p : Pt) (e : Nat) : Bool := p.op == 2 && e == i
def Ccell (p : Pt) : Bool := p.op == 3 || p.op == 4 || p.op == 5
def Gset (i : Nat) (_ : Pt) (e : Nat) : Bool := e == i
def Cset (_ : Pt) : Bool := false
def Gloan (i : Nat) (p : Pt) (e : Nat) : Bool := (p.op == 4 || p.op == 5) && e == i
def Cloan (ts : List Int) (p : Pt) : Bool := p.op == 3 || ((p.op == 4 || p.op == 5) && isRefP (typeOfP ts p.y))

end Go.Proofs.Ytidlifijgooceaa

/- Plain: runs with choices. No program in sight. -/
namespace Go.Proofs.Ytidlifijgooceaa

/-- the point that comes next, the choices that are left -/
def stepP (p : Pt) (cs : List Int) : Nat := if p.next.length = 2 then (if (cs.headD 1) % 2 = 0 then p.next.getD 0 0 else p.next.getD 1 0) else p.next.getD 0 0
def restP (p : Pt) (cs : List Int) : List Int := if p.next.length = 2 then cs.drop 1 else cs
def ptD (pts : List Pt) (k : Nat) : Pt := pts.getD k ⟨11, 0, 0, 0, []⟩
theorem ptD_get {pts : List Pt} {k : Nat} (hk : k < pts.length) : ptD pts k = pts[k] := getD_lt hk
/-- a run from a point on, with at most m points before the last one -/
def runF (pts : List Pt) : Nat → Nat → List Int → List Nat × Bool
  | 0, a, _ => if (ptD pts a).op = 11 then ([a], true) else ([], false)
  | m + 1, a, cs => if (ptD pts a).op = 11 then ([a], true) else (a :: (runF pts m (stepP (ptD pts a) cs) (restP (ptD pts a) cs)).1, (runF pts m (stepP (ptD pts a) cs) (restP (ptD pts a) cs)).2)
theorem runF_end {pts : List Pt} {m a : Nat} {cs : List Int} (h : (ptD pts a).op = 11) : runF pts m a cs = ([a], true) := by
  cases m <;> simp only [runF, h, if_true]
theorem runF_cut {pts : List Pt} {a : Nat} {cs : List Int} (h : (ptD pts a).op ≠ 11) : runF pts 0 a cs = ([], false) := by
  simp only [runF, if_neg h]
theorem runF_go {pts : List Pt} {m a : Nat} {cs : List Int} (h : (ptD pts a).op ≠ 11) : runF pts (m + 1) a cs = (a :: (runF pts m (stepP (ptD pts a) cs) (restP (ptD pts a) cs)).1, (runF pts m (stepP (ptD pts a) cs) (restP (ptD pts a) cs)).2) := by
  simp only [runF, if_neg h]
end Go.Proofs.Ytidlifijgooceaa

/- Plain: which points lead to which. No program in sight. -/
namespace Go.Proofs.Ytidlifijgooceaa

/-- a leads to b in one step or more -/
inductive Lds (pts : List Pt) : Nat → Nat → Prop
  | one {a b : Nat} {p : Pt} (hp : pts[a]? = some p) (hb : b ∈ p.next) : Lds pts a b
  | more {a k b : Nat} {p : Pt} (hp : pts[a]? = some p) (hk : k ∈ p.next) (h : Lds pts k b) : Lds pts a b
theorem Lds.trans {pts : List Pt} {a b c : Nat} (h : Lds pts a b) (k : Lds pts b c) : Lds pts a c := by
  induction h with
  | one hp hb => exact .more hp hb k
  | more hp hk _ ih => exact .more hp hk (ih k)
theorem Lds.snoc {pts : List Pt} {a b c : Nat} {p : Pt} (h : Lds pts a b) (hp : pts[b]? = some p) (hc : c ∈ p.next) : Lds pts a c := h.trans (.one hp hc)
theorem getD_setT {α : Type} {l : List α} {k i : Nat} {x d : α} (hk : k < l.length) : (l.set k x).getD i d = if i = k then x else l.getD i d := by
  by_cases h : i = k
  · subst h; simp [List.getD, hk]
  · simp [List.getD, h, Ne.symm h]
/-- the state of the search for what a leads to: marks, and the points that are still to be looked at -/
structure FrI (pts : List Pt) (a : Nat) (fl : List Bool) (q : List Nat) : Prop where
  len : fl.length = pts.length
  snd : ∀ k, fl.getD k false = true → Lds pts a k
  qok : ∀ k ∈ q, Lds pts a k ∧ k < pts.length
  st : ∀ p, pts[a]? = some p → ∀ k ∈ p.next, fl.getD k false = true ∨ k ∈ q
  cl : ∀ k p, fl.getD k false = true → pts[k]? = some p → ∀ j ∈ p.next, fl.getD j false = true ∨ j ∈ q
theorem FrI.init {pts : List Pt} {a : Nat} {p : Pt} (hp : pts[a]? = some p) (hn : ∀ p ∈ pts, ∀ k ∈ p.next, k < pts.length) : FrI pts a (List.replicate pts.length false) p.next := by
  have h0 : ∀ k, (List.replicate pts.length false).getD k false = false := fun k => by
    by_cases hk : k < pts.length
    · rw [getD_lt (by simpa using hk)]; simp
    · rw [getD_ge (by simpa using hk)]
  refine ⟨by simp, fun k hk => ?_, fun k hk => ⟨.one hp hk, hn _ (List.mem_of_getElem? hp) _ hk⟩, fun p' hp' k hk => ?_, fun k p' hk => ?_⟩
  · rw [h0] at hk; cases hk
  · rw [hp] at hp'; injection hp' with e; subst e; exact .inr hk
  · rw [h0] at hk; cases hk
theorem FrI.skip {pts : List Pt} {a k : Nat} {fl : List Bool} {r : List Nat} (h : FrI pts a fl (k :: r)) (hk : fl.getD k false = true) : FrI pts a fl r := by
  refine ⟨h.len, h.snd, fun j hj => h.qok j (List.mem_cons_of_mem _ hj), fun p hp j hj => ?_, fun i p hi hp j hj => ?_⟩
  · rcases h.st p hp j hj with h1 | h1
    · exact .inl h1
    · rcases List.mem_cons.1 h1 with rfl | h2
      · exact .inl hk
      · exact .inr h2
  · rcases h.cl i p hi hp j hj with h1 | h1
    · exact .inl h1
    · rcases List.mem_cons.1 h1 with rfl | h2
      · exact .inl hk
      · exact .inr h2
theorem FrI.done {pts : List Pt} {a : Nat} {fl : List Bool} (h : FrI pts a fl []) (k : Nat) : fl.getD k false = true ↔ Lds pts a k := by
  have cl : ∀ i k, fl.getD i false = true → Lds pts i k → fl.getD k false = true := fun i k hi hl => by
    induction hl with
    | one hp hb => exact (h.cl _ _ hi hp _ hb).resolve_right (by simp)
    | more hp hk _ ih => exact ih ((h.cl _ _ hi hp _ hk).resolve_right (by simp))
  refine ⟨h.snd k, fun hl => ?_⟩
  cases hl with
  | one hp hb => exact (h.st _ hp _ hb).resolve_right (by simp)
  | more hp hk hl => exact cl _ _ ((h.st _ hp _ hk).resolve_right (by simp)) hl
end Go.Proofs.Ytidlifijgooceaa

/- Plain: the state of a search whose sets are numbers of 64 bits, six for each point. No program in sight. -/
namespace Go.Proofs.Ytidlifijgooceaa

def top64 : Nat := 2 ^ 64
theorem bit_lt64 {m e : Nat} (hm : m < top64) (h : m.testBit e = true) : e < 64 := by
  rcases Nat.lt_or_ge e 64 with h1 | h1
  · exact h1
  · rw [Nat.testBit_lt_two_pow (Nat.lt_of_lt_of_le hm (Nat.pow_le_pow_right (n := 2) (by omega) h1))] at h; cases h
theorem or_top {a b : Nat} (ha : a < top64) (hb : b < top64) : a ||| b < top64 := Nat.or_lt_two_pow ha hb
/-- two numbers of 64 bits whose or differs from the first: some bit is new -/
theorem or_new {a b : Nat} (ha : a < top64) (hb : b < top64) (h : a ||| b ≠ a) : ∃ e, e < 64 ∧ a.testBit e = false ∧ b.testBit e = true := by
  refine Classical.byContradiction fun hno => h ?_
  apply Nat.eq_of_testBit_eq
  intro e
  rw [Nat.testBit_or]
  cases h1 : a.testBit e
  · cases h2 : b.testBit e
    · rfl
    · exact absurd ⟨e, bit_lt64 hb h2, h1, h2⟩ hno
  · rfl
theorem or_bits {a b : Nat} : a ||| b = a ↔ ∀ e, b.testBit e = true → a.testBit e = true := by
  constructor
  · intro h e he
    rw [← h, Nat.testBit_or, he, Bool.or_true]
  · intro h
    apply Nat.eq_of_testBit_eq
    intro e
    rw [Nat.testBit_or]
    cases h2 : b.testBit e
    · simp
    · rw [h e h2]; rfl
def stF (fs : List Nat) (i v e : Nat) : Bool := decide (v < 6) && (fs.getD (i * 6 + v) 0).testBit e
structure TrI (ts : List Int) (pts : List Pt) (G : Nat → Pt → Nat → Bool) (C : Pt → Bool) (fs : List Nat) : Prop where
  len : fs.length = pts.length * 6
  small : ∀ m ∈ fs, m < top64
  snd : ∀ i v e, stF fs i v e = true → Fl ts pts G C i v e
theorem TrI.init (ts : List Int) (pts : List Pt) (G : Nat → Pt → Nat → Bool) (C : Pt → Bool) : TrI ts pts G C (List.replicate (pts.length * 6) 0) := by
  refine ⟨by simp, fun m hm => ?_, fun i v e h => ?_⟩
  · rw [(List.mem_replicate.1 hm).2]; exact Nat.two_pow_pos _
  · have h0 : (List.replicate (pts.length * 6) 0).getD (i * 6 + v) 0 = 0 := by
      by_cases hk : i * 6 + v < pts.length * 6
      · rw [getD_lt (by simpa using hk)]; simp
      · rw [getD_ge (by simpa using hk)]
    unfold stF at h
    rw [h0] at h; simp at h
theorem getD_small {fs : List Nat} (h : ∀ m ∈ fs, m < top64) (k : Nat) : fs.getD k 0 < top64 := by
  by_cases hk : k < fs.length
  · rw [getD_lt hk]; exact h _ (List.getElem_mem hk)
  · rw [getD_ge (by omega)]; exact Nat.two_pow_pos _
theorem stF_set {fs : List Nat} {k v s i u e : Nat} (hk : k * 6 + v < fs.length) (hv : v < 6) : stF (fs.set (k * 6 + v) (fs.getD (k * 6 + v) 0 ||| s)) i u e = (stF fs i u e || (decide (i = k) && decide (u = v) && s.testBit e)) := by
  unfold stF
  rw [getD_setT hk]
  by_cases hu : u < 6
  · rw [decide_eq_true hu]
    by_cases e1 : i = k
    · by_cases e2 : u = v
      · rw [if_pos (by omega), e1, e2, Nat.testBit_or]; simp
      · rw [if_neg (by omega)]; simp [e2]
    · rw [if_neg (by omega)]; simp [e1]
  · have : ¬ u = v := by omega
    simp [hu, this]
theorem TrI.upd {ts : List Int} {pts : List Pt} {G : Nat → Pt → Nat → Bool} {C : Pt → Bool} {fs : List Nat} {k v s : Nat} (h : TrI ts pts G C fs) (hk : k < pts.length) (hv : v < 6) (hs : s < top64) (hf : ∀ e, s.testBit e = true → Fl ts pts G C k v e) : TrI ts pts G C (fs.set (k * 6 + v) (fs.getD (k * 6 + v) 0 ||| s)) := by
  have hl : k * 6 + v < fs.length := by rw [h.len]; omega
  refine ⟨by simp [h.len], fun m hm => ?_, fun i u e he => ?_⟩
  · rcases List.mem_or_eq_of_mem_set hm with hm | rfl
    · exact h.small m hm
    · exact or_top (getD_small h.small _) hs
  · rw [stF_set hl hv, Bool.or_eq_true] at he
    rcases he with he | he
    · exact h.snd i u e he
    · simp only [Bool.and_eq_true, decide_eq_true_eq] at he
      obtain ⟨⟨rfl, rfl⟩, he⟩ := he
      exact hf e he
theorem TrI.mu {fs : List Nat} {n k v s : Nat} (hl : fs.length = n * 6) (hsm : ∀ m ∈ fs, m < top64) (hk : k < n) (hv : v < 6) (hs : s < top64) (hne : fs.getD (k * 6 + v) 0 ||| s ≠ fs.getD (k * 6 + v) 0) : muB n 6 64 (stF (fs.set (k * 6 + v) (fs.getD (k * 6 + v) 0 ||| s))) < muB n 6 64 (stF fs) := by
  have hkl : k * 6 + v < fs.length := by rw [hl]; omega
  obtain ⟨e, he, h0, h1⟩ := or_new (getD_small hsm _) hs hne
  refine muB_lt (i := k) (v := v) (e := e) (fun i u e h => ?_) hk hv he ?_ ?_
  · rw [stF_set hkl hv, h]; rfl
  · unfold stF; rw [decide_eq_true hv, h0]; rfl
  · rw [stF_set hkl hv, h1]; simp
/-- the sets behind a point -/
def AfL (ts : List Int) (G : Nat → Pt → Nat → Bool) (C : Pt → Bool) (i : Nat) (p : Pt) (b : Nat → Nat → Bool) (af : List Nat) : Prop := af.length = 6 ∧ ∀ v, v < 6 → af.getD v 0 < top64 ∧ ∀ e, (af.getD v 0).testBit e = aftB ts G C i p b v e
theorem AfL.snd {ts : List Int} {pts : List Pt} {G : Nat → Pt → Nat → Bool} {C : Pt → Bool} {fs af : List Nat} {i k v e : Nat} {p : Pt} (h : TrI ts pts G C fs) (ha : AfL ts G C i p (stF fs i) af) (hp : pts[i]? = some p) (hk : k ∈ p.next) (hx : setsP p.op p.x < ts.length) (hv : v < 6) (he : (af.getD v 0).testBit e = true) : Fl ts pts G C k v e := by
  rw [(ha.2 v hv).2 e] at he
  by_cases hvl : v < ts.length
  · exact Fl.aft (h.snd i) hp hk hvl he
  · unfold aftB at he
    split at he
    · rename_i hs; omega
    · rw [Bool.and_eq_true] at he
      exact absurd (h.snd i v e he.1).lt hvl
theorem afl_rest {ts : List Int} {pts : List Pt} {G : Nat → Pt → Nat → Bool} {C : Pt → Bool} {ns : List Nat} {k v tk : Nat} {p : Pt} (h : TrI ts pts G C ns) (hv : v < 6) (ht : tk.testBit v = (decide (v < ts.length) && (useP ts p.op p.x p.y (v : Nat) == 2))) (e : Nat) :
    (if tk.testBit v = true then 0 else ns.getD (k * 6 + v) 0).testBit e = (stF ns k v e && !(useP ts p.op p.x p.y (v : Nat) == 2)) := by
  have h1 : (ns.getD (k * 6 + v) 0).testBit e = stF ns k v e := by unfold stF; rw [decide_eq_true hv, Bool.true_and]
  by_cases hvl : v < ts.length
  · rw [decide_eq_true hvl, Bool.true_and] at ht
    rw [ht]
    cases hu : (useP ts p.op p.x p.y (v : Nat) == 2)
    · simp [← h1]
    · simp
  · rw [decide_eq_false hvl, Bool.false_and] at ht
    rw [ht]
    have h2 : stF ns k v e = false := by
      cases hh : stF ns k v e
      · rfl
      · exact absurd (h.snd k v e hh).lt hvl
    rw [if_neg (by simp), h1, h2]; rfl
theorem afl_lt {ts : List Int} {pts : List Pt} {G : Nat → Pt → Nat → Bool} {C : Pt → Bool} {ns : List Nat} {k v tk : Nat} (h : TrI ts pts G C ns) : (if tk.testBit v = true then 0 else ns.getD (k * 6 + v) 0) < top64 := by
  split
  · exact Nat.two_pow_pos _
  · exact getD_small h.small _
theorem AfL.neg {ts : List Int} {pts : List Pt} {G : Nat → Pt → Nat → Bool} {C : Pt → Bool} {ns af : List Nat} {k tk : Nat} {p : Pt} (h : TrI ts pts G C ns) (hl : af.length = 6) (haf : ∀ u, u < 6 → af.getD u 0 = if tk.testBit u = true then 0 else ns.getD (k * 6 + u) 0)
    (ht : ∀ u : Nat, u < 6 → tk.testBit u = (decide (u < ts.length) && (useP ts p.op p.x p.y (u : Nat) == 2))) (hs : setsP p.op p.x < 0) : AfL ts G C k p (stF ns k) af := by
  refine ⟨hl, fun v hv => ⟨?_, fun e => ?_⟩⟩
  · rw [haf v hv]; exact afl_lt h
  · rw [haf v hv, afl_rest h hv (ht v hv)]
    unfold aftB
    rw [if_neg (by omega)]
theorem AfL.pos {ts : List Int} {pts : List Pt} {G : Nat → Pt → Nat → Bool} {C : Pt → Bool} {ns af fv : List Nat} {k tk x s : Nat} {p : Pt} (h : TrI ts pts G C ns) (hl : af.length = 6) (haf : ∀ u, u < 6 → af.getD u 0 = if tk.testBit u = true then 0 else ns.getD (k * 6 + u) 0)
    (ht : ∀ u : Nat, u < 6 → tk.testBit u = (decide (u < ts.length) && (useP ts p.op p.x p.y (u : Nat) == 2))) (hs : setsP p.op p.x = (x : Int)) (hx : x < 6) (hs64 : s < top64) (hfl : fv.length = 6) (hfv : ∀ u, u < 6 → fv.getD u 0 = ns.getD (k * 6 + u) 0)
    (hsb : ∀ e, s.testBit e = (G k p e || (C p && (fv.getD p.y.toNat 0).testBit e))) : AfL ts G C k p (stF ns k) (af.set x s) := by
  refine ⟨by simp [hl], fun v hv => ?_⟩
  rw [getD_setT (by omega)]
  by_cases e1 : v = x
  · rw [if_pos e1]
    refine ⟨hs64, fun e => ?_⟩
    unfold aftB
    rw [if_pos (by omega), hsb e]
    unfold stF
    by_cases hy : p.y.toNat < 6
    · rw [decide_eq_true hy, Bool.true_and, hfv _ hy]
    · rw [decide_eq_false hy, Bool.false_and, getD_ge (by omega)]; simp
  · rw [if_neg e1]
    refine ⟨?_, fun e => ?_⟩
    · rw [haf v hv]; exact afl_lt h
    · rw [haf v hv, afl_rest h hv (ht v hv)]
      unfold aftB
      rw [if_neg (by omega)]
/-- along all edges of point i nothing is missing -/
def ClT (ts : List Int) (pts : List Pt) (G : Nat → Pt → Nat → Bool) (C : Pt → Bool) (fs : List Nat) (i : Nat) : Prop :=
  ∀ p, pts[i]? = some p → ∀ k ∈ p.next, ∀ v, v < 6 → ∀ e, aftB ts G C i p (stF fs i) v e = true → stF fs k v e = true
theorem TrI.done {ts : List Int} {pts : List Pt} {G : Nat → Pt → Nat → Bool} {C : Pt → Bool} {fs : List Nat} (h : TrI ts pts G C fs) (h6 : ts.length ≤ 6) (hg : ∀ i p e, pts[i]? = some p → G i p e = true → e < 64) (hc : ∀ i, i < pts.length → ClT ts pts G C fs i) (i v e : Nat) : stF fs i v e = true ↔ Fl ts pts G C i v e := by
  refine ⟨h.snd i v e, fun hf => Fl.done (s := 64) (st := stF fs) hg (fun i p k v e hp hk hv _ ha => ?_) hf⟩
  refine hc i ?_ p hp k hk v (by omega) e ha
  rcases Nat.lt_or_ge i pts.length with h | h
  · exact h
  · rw [List.getElem?_eq_none h] at hp; cases hp

end Go.Proofs.Ytidlifijgooceaa

/- Words on uint64; impl.loanBits. -/
namespace Go.Proofs.Ytidlifijgooceaa
open Go.RowKit

/-- sets as uint64 -/
def uv (ms : List Nat) : List Value := ms.map fun m => .int .u64 (m : Nat)
theorem uv_len (ms : List Nat) : (uv ms).length = ms.length := by simp [uv]
theorem uv_get {ms : List Nat} {k : Nat} (hk : k < ms.length) : (uv ms)[k]? = some (.int .u64 (ms.getD k 0 : Nat)) := by
  rw [List.getElem?_eq_getElem (by rw [uv_len]; exact hk), getD_lt hk]; simp [uv]
theorem uv_set (ms : List Nat) (k m : Nat) : (uv ms).set k (.int .u64 (m : Nat)) = uv (ms.set k m) := by simp [uv, List.map_set]
theorem top_eq : top64 = 18446744073709551616 := by unfold top64; decide
theorem or_u64 {a b : Nat} (ha : a < top64) (hb : b < top64) : bits .or .u64 (a : Int) (b : Int) = ((a ||| b : Nat) : Int) := u64_or_nat a b (by rw [top_eq] at ha; exact ha) (by rw [top_eq] at hb; exact hb)
theorem and_u64 {a b : Nat} (ha : a < top64) (hb : b < top64) : bits .and .u64 (a : Int) (b : Int) = ((a &&& b : Nat) : Int) := u64_and_nat a b (by rw [top_eq] at ha; exact ha) (by rw [top_eq] at hb; exact hb)
theorem wrap_u64 {m : Nat} (hm : m < top64) : IntKind.u64.wrap (m : Int) = (m : Int) := by
  rw [top_eq] at hm
  simp only [IntKind.wrap, IntKind.bits, IntKind.signed]
  simp; omega
theorem pow_u64 {k : Nat} (hk : k ≤ 63) : IntKind.u64.wrap (2 ^ k) = ((2 ^ k : Nat) : Int) := by
  have h : 2 ^ k < top64 := Nat.pow_lt_pow_right (by omega) (by omega)
  rw [← wrap_u64 h]; simp
theorem bit_u64 {m k : Nat} (hm : m < top64) : (bits .and .u64 ((m : Int) / 2 ^ k) 1 == 1) = m.testBit k := by
  have h1 := and_u64 (a := m / 2 ^ k) (b := 1) (Nat.lt_of_le_of_lt (Nat.div_le_self _ _) hm) (by rw [top_eq]; decide)
  have h2 : ((m : Int) / 2 ^ k) = ((m / 2 ^ k : Nat) : Int) := by simp
  rw [Nat.and_one_is_mod] at h1
  rw [h2, show bits .and .u64 ((m / 2 ^ k : Nat) : Int) 1 = ((m / 2 ^ k % 2 : Nat) : Int) from h1, Nat.testBit_eq_decide_div_mod_eq, Bool.eq_iff_iff]
  simp only [beq_iff_eq, decide_eq_true_eq]
  omega
theorem pow_bit (k e : Nat) : (2 ^ k).testBit e = (e == k) := by
  rw [Nat.testBit_two_pow, Bool.eq_iff_iff]; simp; exact eq_comm

/-- ints that the call owns -/
def IntsOwn (w : World) (l : List Int) (e : Ending) (w' : World) : Prop := ∃ v, e = .returned v ∧ OInts w' w.heap.size v l ∧ Below w.heap.size w w'
set_option maxHeartbeats 1000000 in
theorem loanBits_own (m : Nat) (hm : m < top64) (w : World) :
    Calls Try.prog 93 #[.int .u64 (m : Nat)] w (IntsOwn w (lst 64 m.testBit)) := by
  have HM := Lib.hid hm
  go_enter Try.func93, Try.ntmps93
  go_wp2_with fail
  go_loopw [3, 5] (fun v i wr => ∃ (k : Nat) (o : List Int), k ≤ 64 ∧ i = .int .i64 k ∧ o = lst k m.testBit ∧ OInts wr w.heap.size v o ∧ Below w.heap.size w wr) (fun _ i _ => 64 - (intOf i).toNat)
  case atStart => exact ⟨0, [], by omega, rfl, rfl, OInts.nil w _, Below.refl _ _⟩
  case round =>
    obtain ⟨k, o, hk, rfl, ho, hP, hb⟩ := hrel
    have hol : o.length ≤ k := by rw [ho]; exact lst_len _ _
    have HO := Lib.hid ho
    clear ho
    obtain ⟨A', c', rfl, hc'⟩ := hP.slice
    by_cases hlt : k < 64
    · have hbt := bit_u64 (k := k) HM.out
      cases hx : m.testBit k
      · rw [hx] at hbt
        have HX := Lib.hid hx
        clear hx
        go_wp2_with (at_builtin; fail)
        exact ⟨⟨k + 1, o, by omega, by go_num, by rw [lst_succ_false HX.out]; exact HO.out, hP, hb⟩, by simp [intOf]; omega⟩
      · rw [hx] at hbt
        have HX := Lib.hid hx
        clear hx
        go_wp2_with (at_builtin; go_must (refine wpList_push_int rfl (.tmp 13) (.tmp 15) rfl hP hb.size (by omega) _ rfl rfl ?_); intro v' w' hP' hE')
        exact ⟨⟨k + 1, _, by omega, by go_num, by rw [lst_succ_true HX.out, HO.out], hP', hb.trans ((((Evo.alloc w.heap.size 3 _ _).trans hE').below hb.size))⟩, by simp [intOf]; omega⟩
    · have hkl : k = 64 := by omega
      subst hkl
      go_wp2_with (at_builtin; fail)
      go_ret
      refine ⟨_, rfl, ?_, hb⟩
      rw [← HO.out]
      exact hP
theorem loanBits_any (m : Nat) (hm : m < top64) (w : World) :
    Calls Try.prog 93 #[.int .u64 (m : Nat)] w (IntsRet w (lst 64 m.testBit)) :=
  (loanBits_own m hm w).mono fun _ _ ⟨v, he, ho, hb⟩ => ⟨v, he, ho.toS (by have := lst_len 64 m.testBit; omega), hb⟩

end Go.Proofs.Ytidlifijgooceaa
