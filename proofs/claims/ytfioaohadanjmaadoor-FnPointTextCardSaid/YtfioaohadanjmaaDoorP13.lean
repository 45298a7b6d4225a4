import Derived.Test.YtfioaohadanjmaaDoorP12
import Derived.RegionTactic
import Derived.Deep.RegionHeld3
set_option linter.unusedVariables false

/- append of a whole slice of ints; l1CopyOf. -/
namespace Go.Proofs.YtfioaohadanjmaaDoor
open Go.RowKit

theorem run_app_nil (w : World) (base : Nat) (ty : TypeId) (v : Value) (l : List Int) (hP : OInts w base v l) (c : Nat) : (Builtin.append_ #[23, 23] ty #[v, .slice none 0 c]).run Tryd.prog w = .ok v w := by
  obtain ⟨i0, hi0, hz0, hz1, hz2⟩ := info_parts Tryd.infoInt
  rcases hP.2 with ⟨rfl, h0⟩ | ⟨g, cap, cur, rfl, _, _, hnc, _⟩
  · simp [Builtin.append_, run_underlying Tryd.underlying23, sizeOf, typeInfo, hi0, Builtin.lenOf, Builtin.firstCells]
  · simp [Builtin.append_, run_underlying Tryd.underlying23, sizeOf, typeInfo, hi0, Builtin.lenOf, Builtin.firstCells, hnc, storeCells]
theorem run_app_ints (w : World) (base : Nat) (ty : TypeId) (v : Value) (l : List Int) (hP : OInts w base v l) (B : Nat) (vs : Value) (ts : List Int) (hr : IntS w B vs ts) (hb : base ≤ w.heap.size) (hn : l.length + ts.length ≤ 8388608) :
    ∃ v' w', (Builtin.append_ #[23, 23] ty #[v, vs]).run Tryd.prog w = .ok v' w' ∧ OInts w' base v' (l ++ ts) ∧ w.grownBy w' v.ownBlock ∧ (v'.ownBlock = v.ownBlock ∨ v'.ownBlock = some w.heap.size) := by
  obtain ⟨A, c, rfl, hc, hm, hrd⟩ := hr
  rcases Nat.eq_zero_or_pos ts.length with h0 | h0
  · have hts : ts = [] := List.length_eq_zero_iff.1 h0
    subst hts
    rcases A with _ | ad
    · exact ⟨v, w, run_app_nil w base ty v l hP c, by simpa using hP, World.grownBy.refl w _, .inl rfl⟩
    · obtain ⟨i0, hi0, hz0, hz1, hz2⟩ := info_parts Tryd.infoInt
      obtain ⟨v', w', hrun, h2, h3, _, h5⟩ := run_append_own_at (P := Tryd.prog) w base 23 ty 3 i0 _ 1 8 Tryd.underlying23 hi0 hz0 hz1 hz2 rfl (by omega) v l.length _ hP ad 0 c [] rfl (fun j u h => by simp at h) (fun u h => by simp at h) (by simp only [maxLen]; omega) (by omega) hb
      exact ⟨v', w', hrun, by simpa [OInts] using h2, h3, h5⟩
  · obtain ⟨b, off, rfl, hbl, hcell⟩ := hrd.2 h0
    obtain ⟨i0, hi0, hz0, hz1, hz2⟩ := info_parts Tryd.infoInt
    obtain ⟨v', w', hrun, h2, h3, _, h5⟩ := run_append_own_at (P := Tryd.prog) w base 23 ty 3 i0 _ 1 8 Tryd.underlying23 hi0 hz0 hz1 hz2 rfl (by omega) v l.length _ hP ⟨b, off, none⟩ ts.length c (ts.map (.int .i64)) (by simp)
      (fun j u h => by
        rcases Nat.eq_zero_or_pos j with hj | hj
        · subst hj; simpa [Addr.add] using hcell 0 u h
        · have := hcell j u h
          have hj0 : j ≠ 0 := by omega
          simpa [Addr.add, hj0] using this)
      (fun u h => by obtain ⟨x, _, rfl⟩ := List.mem_map.1 h; rfl) (by simp only [maxLen]; omega) (by omega) hb
    exact ⟨v', w', hrun, by simpa [OInts] using h2, h3, h5⟩
theorem wp_app_ints {o : Oper} {a : Act} {K : Act → World → Prop} {Q : Exit → Act → World → Prop} {w : World} (s x : Operand)
    (ho : o.op = .call { callee := .builtin .append, args := #[s, x], argTypes := #[23, 23] })
    (base : Nat) (v : Value) (l : List Int) (hs : a.eval s = v) (hP : OInts w base v l) (B : Nat) (vs : Value) (ts : List Int) (hx : a.eval x = vs) (hr : IntS w B vs ts) (hb : base ≤ w.heap.size) (hn : l.length + ts.length ≤ 8388608)
    (h : ∀ v' w', OInts w' base v' (l ++ ts) → w.grownBy w' v.ownBlock → (v'.ownBlock = v.ownBlock ∨ v'.ownBlock = some w.heap.size) → K (a.put o.dst v') w') : o.wp Tryd.prog a w K Q := by
  obtain ⟨v', w', hrun, h2, h3, h4⟩ := run_app_ints w base o.type v l hP B vs ts hr hb hn
  unfold Oper.wp execOp
  simp only [ho, resolve, invoke, builtin, Sem.run_bind, Sem.run_pure, Result.andThen_ok, List.map_toArray, List.map_cons, List.map_nil, hs, hx, hrun]
  exact h v' w' h2 h3 h4
theorem step_app_ints {ops : Array Oper} {o : Oper} {a : Act} {K : Act → World → Prop} {Q : Exit → Act → World → Prop} {E : Prop} {w : World} (hgd : o.guard = none) (s x : Operand)
    (ho : o.op = .call { callee := .builtin .append, args := #[s, x], argTypes := #[23, 23] })
    (base : Nat) (v : Value) (l : List Int) (hs : a.eval s = v) (hP : OInts w base v l) (B : Nat) (vs : Value) (ts : List Int) (hx : a.eval x = vs) (hr : IntS w B vs ts) (hb : base ≤ w.heap.size) (hn : l.length + ts.length ≤ 8388608)
    (h : ∀ v' w', OInts w' base v' (l ++ ts) → w.grownBy w' v.ownBlock → (v'.ownBlock = v.ownBlock ∨ v'.ownBlock = some w.heap.size) → K (a.put o.dst v') w') :
    if Region.wanted o (yielded ops a.tmps) = true then Oper.wp Tryd.prog o a w K Q else E := by
  have hw : Region.wanted o (yielded ops a.tmps) = true := by simp [Region.wanted, hgd]
  rw [if_pos hw]
  exact wp_app_ints s x ho base v l hs hP B vs ts hx hr hb hn h

theorem OInts.move {w w' : World} {base base' : Nat} {v : Value} {l : List Int} (h : OInts w base v l) (hb : base' ≤ base) (hk : ∀ b, base ≤ b → b < w.heap.size → w'.heap[b]? = w.heap[b]?) : OInts w' base' v l := by
  refine ⟨h.1, ?_⟩
  rcases h.2 with h' | ⟨g, cap, cur, rfl, hbg, hh, rest⟩
  · exact .inl h'
  · exact .inr ⟨g, cap, cur, rfl, by omega, (hk g hbg (row_lt hh)).trans hh, rest⟩
theorem OInts.own_lt {w : World} {base : Nat} {v : Value} {l : List Int} (h : OInts w base v l) {g : Nat} (e : v.ownBlock = some g) : base ≤ g ∧ g < w.heap.size := World.ownsRow.lt h g e
theorem OSt.own_lt {w : World} {base : Nat} {v : Value} {l : List St} (h : OSt w base v l) {g : Nat} (e : v.ownBlock = some g) : base ≤ g ∧ g < w.heap.size := by
  obtain ⟨es, rfl, h2, _⟩ := h
  exact h2.lt g e
theorem OSt.move {w w' : World} {base base' : Nat} {v : Value} {l : List St} (h : OSt w base v l) (hs : w.heap.size ≤ w'.heap.size) (hb : base' ≤ base) (hk : ∀ b, base ≤ b → b < w.heap.size → w'.heap[b]? = w.heap[b]?) : OSt w' base' v l := by
  obtain ⟨es, rfl, h2, h3⟩ := h
  refine ⟨es, rfl, ⟨h2.1, ?_⟩, fun e he => ?_⟩
  · rcases h2.2 with h' | ⟨g, cap, cur, rfl, hbg, hh, rest⟩
    · exact .inl h'
    · exact .inr ⟨g, cap, cur, rfl, by omega, (hk g hbg (row_lt hh)).trans hh, rest⟩
  · obtain ⟨k1, k2⟩ := h3 e he
    have hk' : ∀ b, (base ≤ b ∧ v.ownBlock ≠ some b) → b < w.heap.size → (base' ≤ b ∧ v.ownBlock ≠ some b) ∧ w'.heap[b]? = w.heap[b]? := fun b hb' hl => ⟨⟨by omega, hb'.2⟩, hk b hb'.1 hl⟩
    exact ⟨k1.frame hs hk', k2.frame hs hk'⟩

theorem grown_far {W w w' : World} {r : Nat} {row : Option Nat} (h : W.grownBy w (some r)) (k : w.grownBy w' row) (hf : ∀ n, row = some n → W.heap.size ≤ n) : W.grownBy w' (some r) :=
  ⟨k.os.trans h.os, k.tape.trans h.tape, k.output.trans h.output, Nat.le_trans h.size k.size, fun i hi hne => (k.block i (Nat.lt_of_lt_of_le hi h.size) (fun e => by have := hf i e.symm; omega)).trans (h.block i hi hne)⟩
def CpRet (w : World) (ts : List Int) (l : List St) (e : Ending) (w' : World) : Prop :=
  ∃ vt vb lo, e = .returned (.agg #[vt, vb]) ∧ OInts w' w.heap.size vt ts ∧ (∀ g, vt.ownBlock = some g → g < lo) ∧ OSt w' lo vb l ∧ w.heap.size ≤ lo ∧ lo ≤ w'.heap.size ∧ Below w.heap.size w w'
/-- a copied program: the types' row lies below the statements' blocks -/
theorem cp_close {w wf W : World} {base lo : Nat} {vt vb : Value} {ts : List Int} {l : List St} (hB0 : Below w.heap.size w wf) (hlo : w.heap.size + 2 ≤ lo) (hlo2 : lo ≤ wf.heap.size) (hos : OSt wf lo vb l)
    (hbase : w.heap.size + 2 ≤ base) (hoi : OInts wf base vt ts) (hne : ∀ g, vt.ownBlock = some g → g < lo)
    (hW : wf.grownBy W (some (w.heap.size + 1))) : CpRet w ts l (.returned (.agg #[vt, vb])) W := by
  have hk : ∀ b, w.heap.size + 2 ≤ b → b < wf.heap.size → W.heap[b]? = wf.heap[b]? := fun b hb hl => hW.block b hl (fun e => by injection e with e; omega)
  exact ⟨vt, vb, lo, rfl, hoi.move (by omega) fun b hb hl => hk b (by omega) hl, hne, hos.move hW.size (Nat.le_refl _) fun b hb hl => hk b (by omega) hl, by omega, by have := hW.size; omega,
    hB0.trans ⟨hW.os, hW.tape, hW.output, hW.size, fun k hk' => hW.block k (by have := hB0.size; omega) (fun e => by injection e with e; omega)⟩⟩

set_option maxHeartbeats 4000000 in
set_option maxRecDepth 100000 in
theorem copyOf_any (vt vb : Value) (ts : List Int) (l : List St) (B : Nat) (w : World) (ht : IntS w B vt ts) (hl : StS w B vb l) (hB : B ≤ w.heap.size) (hts : ts.length ≤ 700) (hsz : szL l ≤ 4194000) :
    Calls Tryd.prog 41 #[.agg #[vt, vb]] w (CpRet w ts l) := by
  have ht0 := ht
  have hl0 := hl
  obtain ⟨At, ct, rfl, -⟩ := ht0
  obtain ⟨Ab, cb, rfl, -⟩ := hl0.slice

  have hA := bel_a w (.cells #[.slice At ts.length ct, .slice Ab l.length cb] 29)
  have hB2 := bel_a (w.alloc (.cells #[.slice At ts.length ct, .slice Ab l.length cb] 29)) (.cells #[.slice none 0 0, .slice none 0 0] 29)
  have hAB := hA.trans (hB2.mono hA.size)
  have hr0 := row_below (heap_alloc_new w (.cells #[.slice At ts.length ct, .slice Ab l.length cb] 29)) hB2
  have hr1 := heap_alloc_new (w.alloc (.cells #[.slice At ts.length ct, .slice Ab l.length cb] 29)) (.cells #[.slice none 0 0, .slice none 0 0] 29)
  have hsz1 : (w.alloc (.cells #[.slice At ts.length ct, .slice Ab l.length cb] 29)).heap.size = w.heap.size + 1 := by simp
  rw [hsz1] at hr1
  have hsW : ((w.alloc (.cells #[.slice At ts.length ct, .slice Ab l.length cb] 29)).alloc (.cells #[.slice none 0 0, .slice none 0 0] 29)).heap.size = w.heap.size + 2 := by simp
  go_enter Tryd.func41, Tryd.ntmps41
  go_wp2_with fail
  generalize (w.alloc (.cells #[.slice At ts.length ct, .slice Ab l.length cb] 29)).alloc (.cells #[.slice none 0 0, .slice none 0 0] 29) = W at *
  have q0 : W.cell? ⟨w.heap.size, 0, none⟩ = some (.slice At ts.length ct) := by rw [cell_of_row _ _ _ _ _ _ hr0]; rfl
  have q1 : W.cell? ⟨w.heap.size, 1, none⟩ = some (.slice Ab l.length cb) := by rw [cell_of_row _ _ _ _ _ _ hr0]; rfl
  have CE : ∀ w', (w'.cell? ⟨w.heap.size, 0, none⟩ = some (.slice At ts.length ct) ∧ w'.cell? ⟨w.heap.size, 1, none⟩ = some (.slice Ab l.length cb) ∧ W.grownBy w' (some (w.heap.size + 1))) → Calls Tryd.prog 51 #[.slice Ab l.length cb] w' (CopyRet w' l) := fun w' h =>
    copy_any (szL l) hsz _ l B w' (Nat.le_refl _) ((hl.low hAB hB).keep fun b o hb => World.cell?_of_block (w := W) (a := ⟨b, o, none⟩) (h.2.2.block b (by omega) (fun e => by injection e with e; omega))) (by have := h.2.2.size; omega)
  have HCE := Lib.hid CE
  have HT := Lib.hid (ht.low hAB hB)
  have HAB := Lib.hid hAB
  have HR1 := Lib.hid hr1
  have SOF : ∀ w', W.grownBy w' (some (w.heap.size + 1)) → (w'.cell? ⟨w.heap.size, 0, none⟩ = some (.slice At ts.length ct) ∧ w'.cell? ⟨w.heap.size, 1, none⟩ = some (.slice Ab l.length cb) ∧ W.grownBy w' (some (w.heap.size + 1))) := fun w' h =>
    ⟨(World.cell?_of_block (w := W) (a := ⟨w.heap.size, 0, none⟩) (h.block w.heap.size (by omega) (fun e => by injection e with e; omega))).trans q0, (World.cell?_of_block (w := W) (a := ⟨w.heap.size, 1, none⟩) (h.block w.heap.size (by omega) (fun e => by injection e with e; omega))).trans q1, h⟩
  have GOF : ∀ w', (w'.cell? ⟨w.heap.size, 0, none⟩ = some (.slice At ts.length ct) ∧ w'.cell? ⟨w.heap.size, 1, none⟩ = some (.slice Ab l.length cb) ∧ W.grownBy w' (some (w.heap.size + 1))) → W.grownBy w' (some (w.heap.size + 1)) := fun w' h => h.2.2
  have HT0' : ∀ w', W.grownBy w' (some (w.heap.size + 1)) → IntS w' w.heap.size (.slice At ts.length ct) ts := fun w' h => ((ht.low hAB hB).more hB).keep fun b o hb => World.cell?_of_block (w := W) (a := ⟨b, o, none⟩) (h.block b (by omega) (fun e => by injection e with e; omega))
  have HT0 := Lib.hid HT0'
  clear HT0'
  have SO := Lib.hid SOF
  have GO := Lib.hid GOF
  clear hA hB2 hsz1 hr0 CE ht hl hAB hr1 SOF GOF q0 q1
  have tok1 : True := trivial
  go_region_held3 (fun w' => (w'.cell? ⟨w.heap.size, 0, none⟩ = some (.slice At ts.length ct) ∧ w'.cell? ⟨w.heap.size, 1, none⟩ = some (.slice Ab l.length cb) ∧ W.grownBy w' (some (w.heap.size + 1))))
    (first | exact SO.out _ (grown_bel ((Below.refl _ _).drew) (Nat.le_refl _) _) | exact SO.out _ (grown_bel ((bel_a _ _).drew) (Nat.le_refl _) _) | exact SO.out _ (by assumption) | exact SO.out _ (grown_alloc (GO.out _ (by assumption)) _) | exact SO.out _ (grown_tr (grown_tr (GO.out _ (by assumption)) (grown_set _ _ _ _)) (grown_set _ _ _ _)))
    (first
      | (go_at_call 51; (with_reducible refine (HCE.out _ (by assumption)).mono ?_); (rintro e w2 ⟨v2, rfl, hos, hb2⟩); (have gr2 := grown_below' (GO.out _ (by assumption)) hb2); (have hrb := row_below HRA.out hb2); (have HRB := Lib.hid hrb); (have z0 : w2.cell? ⟨w.heap.size + 1, 0, none⟩ = some (.slice none 0 0) := by (rw [cell_of_row _ _ _ _ _ _ hrb]; rfl)); (have z1 : w2.cell? ⟨w.heap.size + 1, 1, none⟩ = some (.slice none 0 0) := by (rw [cell_of_row _ _ _ _ _ _ hrb]; rfl)); (have zf0 := frozen_of_row w2 (w.heap.size + 1) 0 _ _ hrb); (have zf1 := frozen_of_row w2 (w.heap.size + 1) 1 _ _ hrb); clear hrb; (obtain ⟨A2, c2, rfl, -⟩ := hos.slice))
      | ((have _t := tok1); clear tok1 _t; (refine step_app_ints (by rfl) (.tmp 3) (.tmp 5) (by rfl) W.heap.size (.slice (some ⟨w.heap.size + 2, 0, none⟩) 0 0) [] (by rfl) (by rw [← hsW]; exact OInts.empty W W.heap.size (Nat.le_refl _)) w.heap.size _ ts (by rfl) (HT0.out _ (GO.out _ (by assumption))) (by have := (GO.out _ (by assumption)).size; omega) (by simp; omega) ?_); intro v' w' hoi hgw hor; (have gr1 : W.grownBy w' (some (w.heap.size + 1)) := grown_far (GO.out _ (by assumption)) hgw (fun n e => by simp [Value.ownBlock] at e; omega)); (have hra := (hgw.block (w.heap.size + 1) (by simp; omega) (by simp [Value.ownBlock])).trans (row_below HR1.out ((bel_a W _).drew))); (have HRA := Lib.hid hra); clear hra; (have HOI := Lib.hid hoi); (have HGW := Lib.hid hgw); (have HOR := Lib.hid hor); (obtain ⟨A', c', rfl, -⟩ := hoi.slice); clear hoi hgw hor))
  go_wp2_with fail
  have hs1 := gr1.size
  have hs2 := hb2.size
  refine bodyPost_ret (results_cell_row rfl _ _ (w.heap.size + 1) 29 _ (0, 0) _ rfl (box2 HRB.out _ _).1 Tryd.underlying29 rfl rfl) rfl ?_
  exact cp_close (lo := w'.heap.size) (base := W.heap.size) (HAB.out.trans ⟨gr2.os, gr2.tape, gr2.output, gr2.size, fun k hk => gr2.block k (by omega) (fun e => by injection e with e; omega)⟩) (by omega) hs2 hos (by omega)
    (HOI.out.move (Nat.le_refl _) fun b h1 h2 => hb2.block b h2) (fun g e => (HOI.out.own_lt e).2) (box2 HRB.out _ _).2

end Go.Proofs.YtfioaohadanjmaaDoor

/- Words for l1Mutate: a field of a statement turns; a statement is struck; a statement is put behind. -/
namespace Go.Proofs.YtfioaohadanjmaaDoor
open Go.RowKit

theorem szL_set {l : List St} {k : Nat} (hk : k < l.length) (s : St) (h : s.sz = l[k].sz) : szL (l.set k s) = szL l := by
  induction l generalizing k with
  | nil => simp at hk
  | cons a r ih =>
    cases k with
    | zero => simp only [List.set_cons_zero, szL]; simp at h; omega
    | succ k =>
      have := ih (k := k) (by simpa using hk) (by simpa using h)
      simp only [List.set_cons_succ, szL]; omega
def St.upd (j : Nat) (x : Int) : St → St
  | .mk op a b n th el => if j = 0 then .mk x a b n th el else if j = 1 then .mk op x b n th el else if j = 2 then .mk op a x n th el else .mk op a b x th el
theorem St.upd_sz (j : Nat) (x : Int) (s : St) : (s.upd j x).sz = s.sz := by
  cases s; simp only [St.upd]; repeat' split
  all_goals rfl
theorem St.upd_th (j : Nat) (x : Int) (s : St) : (s.upd j x).th = s.th ∧ (s.upd j x).el = s.el := by
  cases s; simp only [St.upd]; repeat' split
  all_goals exact ⟨rfl, rfl⟩
theorem St.upd_eq {j : Nat} (x : Int) (s : St) (hj : j < 4) : s.upd j x = .mk (if j = 0 then x else s.op) (if j = 1 then x else s.x) (if j = 2 then x else s.y) (if j = 3 then x else s.n) s.th s.el := by
  cases s
  rcases (show j = 0 ∨ j = 1 ∨ j = 2 ∨ j = 3 by omega) with rfl | rfl | rfl | rfl <;> rfl
theorem cell_set_same {w : World} {b o : Nat} {u v : Value} (h : w.cell? ⟨b, o, none⟩ = some u) : (w.setCell ⟨b, o, none⟩ v).cell? ⟨b, o, none⟩ = some v := World.cell?_setCell_same (w := w) (a := ⟨b, o, none⟩) (v := v) (u := u) h
theorem cell_set_off {w : World} {b o o' : Nat} {v : Value} (h : o ≠ o') : (w.setCell ⟨b, o, none⟩ v).cell? ⟨b, o', none⟩ = w.cell? ⟨b, o', none⟩ := World.cell?_setCell_other (w := w) (a := ⟨b, o, none⟩) (b := ⟨b, o', none⟩) (v := v) (fun e => h (by injection e))
theorem OSt.form {w : World} {base : Nat} {v : Value} {l : List St} (h : OSt w base v l) (hn : 0 < l.length) : ∃ g cap, v = .slice (some ⟨g, 0, none⟩) l.length cap ∧ base ≤ g ∧ g < w.heap.size ∧ l.length ≤ cap ∧
    (∀ i (hi : i < l.length), ∃ tv ev, w.cell? ⟨g, i * 6, none⟩ = some (.int .i64 l[i].op) ∧ w.cell? ⟨g, i * 6 + 1, none⟩ = some (.int .i64 l[i].x) ∧ w.cell? ⟨g, i * 6 + 2, none⟩ = some (.int .i64 l[i].y) ∧ w.cell? ⟨g, i * 6 + 3, none⟩ = some (.int .i64 l[i].n) ∧
      w.cell? ⟨g, i * 6 + 4, none⟩ = some tv ∧ w.cell? ⟨g, i * 6 + 5, none⟩ = some ev ∧ StX w (fun b => base ≤ b ∧ g ≠ b) tv l[i].th ∧ StX w (fun b => base ≤ b ∧ g ≠ b) ev l[i].el) ∧ (∀ j, w.frozen? ⟨g, j, none⟩ = false) := by
  obtain ⟨es, rfl, h2, h3⟩ := h
  simp only [List.length_map] at hn
  obtain ⟨g, cap, rfl, hb, hlt⟩ := h2.form hn
  refine ⟨g, cap, by simp, hb, hlt, ?_, fun i hi => ?_, fun j => ?_⟩
  · rcases h2.2 with ⟨e, _⟩ | ⟨g', cap', cur, e, _, _, hc, _⟩
    · cases e
    · injection e with e1 e2 e3; subst e3; simpa using hc
  · have hi' : i < es.length := by simpa using hi
    obtain ⟨a0, a1, a2, a3, a4, a5⟩ := seCells_at hi'
    have hat : ∀ j, j < 6 → w.cell? ⟨g, i * 6 + j, none⟩ = (seCells es)[i * 6 + j]? := fun j hj => h2.cellAt _ (by omega)
    have hat0 : w.cell? ⟨g, i * 6, none⟩ = (seCells es)[i * 6]? := hat 0 (by omega)
    have k := h3 es[i] (List.getElem_mem hi')
    refine ⟨es[i].tv, es[i].ev, ?_⟩
    simp only [hat0, hat 1 (by omega), hat 2 (by omega), hat 3 (by omega), hat 4 (by omega), hat 5 (by omega), a0, a1, a2, a3, a4, a5, List.getElem_map]
    refine ⟨by first | trivial | rfl, by first | trivial | rfl, by first | trivial | rfl, by first | trivial | rfl, by first | trivial | rfl, by first | trivial | rfl, ?_, ?_⟩
    · exact k.1.frame (Nat.le_refl _) fun b hb' _ => ⟨⟨hb'.1, fun e => hb'.2 (by rw [e]; rfl)⟩, rfl⟩
    · exact k.2.frame (Nat.le_refl _) fun b hb' _ => ⟨⟨hb'.1, fun e => hb'.2 (by rw [e]; rfl)⟩, rfl⟩
  · rcases h2.2 with ⟨e, _⟩ | ⟨g', cap', cur, e, _, hh, _⟩
    · cases e
    · injection e with e1 e2 e3
      injection e1 with e1
      injection e1 with e1
      subst e1
      exact frozen_of_row w g j _ _ hh
/-- a field of a statement of an owned row turns -/
theorem OSt.upd {w : World} {base g cap : Nat} {l : List St} (h : OSt w base (.slice (some ⟨g, 0, none⟩) l.length cap) l) {k : Nat} (hk : k < l.length) (j : Nat) (hj : j < 4) (x : Int) :
    ∃ l', StX (w.setCell ⟨g, k * 6 + j, none⟩ (.int .i64 x)) (fun b => base ≤ b) (.slice (some ⟨g, 0, none⟩) l.length cap) l' ∧ szL l' = szL l := by
  obtain ⟨g', cap', e, hb, hlt, hc, hcell, _⟩ := h.form (by omega)
  injection e with e1 e2 e3
  injection e1 with e1
  injection e1 with e1
  subst e1 e3
  refine ⟨l.set k (l[k].upd j x), ?_, szL_set hk _ (St.upd_sz _ _ _)⟩
  have hlen : l.length = (l.set k (l[k].upd j x)).length := by simp
  have hgs := grown_set w g (k * 6 + j) (.int .i64 x)
  have hcl := fun (i : Nat) (hi : i < l.length) => hcell i hi
  have hget : ∀ i (hi : i < (l.set k (l[k].upd j x)).length), (l.set k (l[k].upd j x))[i] = if k = i then l[k].upd j x else l[i]'(by simpa using hi) := fun i hi => List.getElem_set ..
  rw [show (Value.slice (some ⟨g, 0, none⟩) l.length cap) = .slice (some ⟨g, 0, none⟩) (l.set k (l[k].upd j x)).length cap by rw [← hlen]]
  refine .mk _ cap _ (fun i => if hi : i < l.length then (hcl i hi).choose else .slice none 0 0) (fun i => if hi : i < l.length then (hcl i hi).choose_spec.choose else .slice none 0 0) (by simpa using hc) (fun hn => ⟨g, 0, rfl, hb, by rw [size_set]; exact hlt, fun i hi => ?_⟩) (fun i hi => ?_) (fun i hi => ?_)
  · have hi' : i < l.length := by simpa using hi
    obtain ⟨c0, c1, c2, c3, c4, c5, -, -⟩ := (hcl i hi').choose_spec.choose_spec
    rw [hget]
    simp only [Nat.zero_add, dif_pos hi']
    by_cases hki : k = i
    · subst hki
      rw [if_pos rfl]
      have hoff : ∀ j', j ≠ j' → ∀ u, w.cell? ⟨g, k * 6 + j', none⟩ = some u → (w.setCell ⟨g, k * 6 + j, none⟩ (.int .i64 x)).cell? ⟨g, k * 6 + j', none⟩ = some u := fun j' hj' u hu => (cell_set_off (by omega)).trans hu
      have hoff0 : j ≠ 0 → (w.setCell ⟨g, k * 6 + j, none⟩ (.int .i64 x)).cell? ⟨g, k * 6, none⟩ = some (.int .i64 l[k].op) := fun hj' => (cell_set_off (by omega)).trans c0
      rw [St.upd_eq x l[k] hj]
      rcases (show j = 0 ∨ j = 1 ∨ j = 2 ∨ j = 3 by omega) with rfl | rfl | rfl | rfl
      · exact ⟨cell_set_same c0, hoff 1 (by omega) _ c1, hoff 2 (by omega) _ c2, hoff 3 (by omega) _ c3, hoff 4 (by omega) _ c4, hoff 5 (by omega) _ c5⟩
      · exact ⟨hoff0 (by omega), cell_set_same c1, hoff 2 (by omega) _ c2, hoff 3 (by omega) _ c3, hoff 4 (by omega) _ c4, hoff 5 (by omega) _ c5⟩
      · exact ⟨hoff0 (by omega), hoff 1 (by omega) _ c1, cell_set_same c2, hoff 3 (by omega) _ c3, hoff 4 (by omega) _ c4, hoff 5 (by omega) _ c5⟩
      · exact ⟨hoff0 (by omega), hoff 1 (by omega) _ c1, hoff 2 (by omega) _ c2, cell_set_same c3, hoff 4 (by omega) _ c4, hoff 5 (by omega) _ c5⟩
    · rw [if_neg hki]
      exact ⟨(cell_set_off (by omega)).trans c0, (cell_set_off (by omega)).trans c1, (cell_set_off (by omega)).trans c2, (cell_set_off (by omega)).trans c3, (cell_set_off (by omega)).trans c4, (cell_set_off (by omega)).trans c5⟩
  · have hi' : i < l.length := by simpa using hi
    obtain ⟨-, -, -, -, -, -, t, -⟩ := (hcl i hi').choose_spec.choose_spec
    rw [hget, dif_pos hi']
    have : (if k = i then l[k].upd j x else l[i]).th = l[i].th := by
      split
      · rename_i e; subst e; exact (St.upd_th _ _ _).1
      · rfl
    rw [this]
    exact t.frame hgs.size fun b hb' hl' => ⟨hb'.1, hgs.block b hl' (fun e => by injection e with e; exact hb'.2 e.symm)⟩
  · have hi' : i < l.length := by simpa using hi
    obtain ⟨-, -, -, -, -, -, -, t⟩ := (hcl i hi').choose_spec.choose_spec
    rw [hget, dif_pos hi']
    have : (if k = i then l[k].upd j x else l[i]).el = l[i].el := by
      split
      · rename_i e; subst e; exact (St.upd_th _ _ _).2
      · rfl
    rw [this]
    exact t.frame hgs.size fun b hb' hl' => ⟨hb'.1, hgs.block b hl' (fun e => by injection e with e; exact hb'.2 e.symm)⟩

/-- an owned row of statements whose statements' own rows lie in blocks of R -/
def OStR (w : World) (base : Nat) (R : Nat → Prop) (v : Value) (l : List St) : Prop :=
  ∃ es : List Se, l = es.map Se.st ∧ w.ownsRow base 47 6 v es.length (seCells es) ∧
    ∀ e ∈ es, StX w (fun b => (base ≤ b ∧ R b) ∧ v.ownBlock ≠ some b) e.tv e.th ∧ StX w (fun b => (base ≤ b ∧ R b) ∧ v.ownBlock ≠ some b) e.ev e.el
theorem OStR.to {w : World} {base : Nat} {R : Nat → Prop} {v : Value} {l : List St} (h : OStR w base R v l) : OSt w base v l := by
  obtain ⟨es, rfl, h2, h3⟩ := h
  exact ⟨es, rfl, h2, fun e he => ⟨(h3 e he).1.frame (Nat.le_refl _) fun b hb _ => ⟨⟨hb.1.1, hb.2⟩, rfl⟩, (h3 e he).2.frame (Nat.le_refl _) fun b hb _ => ⟨⟨hb.1.1, hb.2⟩, rfl⟩⟩⟩
theorem OSt.toR {w w' : World} {base : Nat} {R : Nat → Prop} {v : Value} {l : List St} (h : OSt w base v l) (hs : w.heap.size ≤ w'.heap.size) (hk : ∀ b, base ≤ b → b < w.heap.size → R b ∧ w'.heap[b]? = w.heap[b]?) : OStR w' base R v l := by
  obtain ⟨es, rfl, h2, h3⟩ := h
  refine ⟨es, rfl, ⟨h2.1, ?_⟩, fun e he => ?_⟩
  · rcases h2.2 with h' | ⟨g, cap, cur, rfl, hbg, hh, rest⟩
    · exact .inl h'
    · exact .inr ⟨g, cap, cur, rfl, hbg, (hk g hbg (row_lt hh)).2.trans hh, rest⟩
  · obtain ⟨k1, k2⟩ := h3 e he
    have hk' : ∀ b, (base ≤ b ∧ v.ownBlock ≠ some b) → b < w.heap.size → ((base ≤ b ∧ R b) ∧ v.ownBlock ≠ some b) ∧ w'.heap[b]? = w.heap[b]? := fun b hb' hl => ⟨⟨⟨hb'.1, (hk b hb'.1 hl).1⟩, hb'.2⟩, (hk b hb'.1 hl).2⟩
    exact ⟨k1.frame hs hk', k2.frame hs hk'⟩
/-- a store to a block that is none of the rows' -/
theorem OStR.setX {w : World} {base g : Nat} {R : Nat → Prop} {v : Value} {l : List St} (h : OStR w base R v l) (hown : v.ownBlock ≠ some g) (hR : ¬ R g) (i : Nat) (u : Value) : OStR (w.setCell ⟨g, i, none⟩ u) base R v l := by
  obtain ⟨es, rfl, h2, h3⟩ := h
  have hg := grown_set w g i u
  have hk' : ∀ b, ((base ≤ b ∧ R b) ∧ v.ownBlock ≠ some b) → b < w.heap.size → ((base ≤ b ∧ R b) ∧ v.ownBlock ≠ some b) ∧ (w.setCell ⟨g, i, none⟩ u).heap[b]? = w.heap[b]? := fun b hb' hl => ⟨hb', hg.block b hl (fun e => hR (by injection e with e; subst e; exact hb'.1.2))⟩
  exact ⟨es, rfl, h2.kept hg (.inr hown), fun e he => ⟨(h3 e he).1.frame hg.size hk', (h3 e he).2.frame hg.size hk'⟩⟩
/-- what leaves alone the rows from base on that are of R -/
theorem OStR.move {w w' : World} {base : Nat} {R : Nat → Prop} {v : Value} {l : List St} (h : OStR w base R v l) (hs : w.heap.size ≤ w'.heap.size) (hown : ∀ g, v.ownBlock = some g → w'.heap[g]? = w.heap[g]?) (hk : ∀ b, base ≤ b → R b → b < w.heap.size → w'.heap[b]? = w.heap[b]?) : OStR w' base R v l := by
  obtain ⟨es, rfl, h2, h3⟩ := h
  refine ⟨es, rfl, ⟨h2.1, ?_⟩, fun e he => ?_⟩
  · rcases h2.2 with h' | ⟨g, cap, cur, rfl, hbg, hh, rest⟩
    · exact .inl h'
    · exact .inr ⟨g, cap, cur, rfl, hbg, (hown g rfl).trans hh, rest⟩
  · obtain ⟨k1, k2⟩ := h3 e he
    have hk' : ∀ b, ((base ≤ b ∧ R b) ∧ v.ownBlock ≠ some b) → b < w.heap.size → ((base ≤ b ∧ R b) ∧ v.ownBlock ≠ some b) ∧ w'.heap[b]? = w.heap[b]? := fun b hb' hl => ⟨hb', hk b hb'.1.1 hb'.1.2 hl⟩
    exact ⟨k1.frame hs hk', k2.frame hs hk'⟩
/-- append(out, more...) for statements -/
theorem run_app_st (w : World) (base : Nat) (R : Nat → Prop) (ty : TypeId) (v : Value) (l : List St) (hP : OStR w base R v l) (hb : base ≤ w.heap.size) (es2 : List Se) (ad : Addr) (c : Nat) (hn : l.length + es2.length ≤ 1000000)
    (hc : ∀ j u, (seCells es2)[j]? = some u → w.cell? (ad.add j) = some u) (hx : ∀ e ∈ es2, StX w (fun b => (base ≤ b ∧ R b) ∧ v.ownBlock ≠ some b) e.tv e.th ∧ StX w (fun b => (base ≤ b ∧ R b) ∧ v.ownBlock ≠ some b) e.ev e.el) :
    ∃ v' w', (Builtin.append_ #[27, 27] ty #[v, .slice (some ad) es2.length c]).run Tryd.prog w = .ok v' w' ∧ OStR w' base R v' (l ++ es2.map Se.st) ∧ w.grownBy w' v.ownBlock ∧ (v'.ownBlock = v.ownBlock ∨ v'.ownBlock = some w.heap.size) := by
  obtain ⟨i0, hi0, hz0, hz1, hz2⟩ := info_parts Tryd.infoSt
  obtain ⟨es, rfl, h2, h3⟩ := hP
  have hone : ∀ u ∈ seCells es2, u.oneCell' = true := by
    clear hc hn
    induction es2 with
    | nil => intro u hu; simp [seCells] at hu
    | cons e r ih =>
      intro u hu
      have k := hx e (by simp)
      simp only [seCells, List.mem_cons] at hu
      rcases hu with rfl | rfl | rfl | rfl | rfl | rfl | hu
      · rfl
      · rfl
      · rfl
      · rfl
      · exact k.1.one
      · exact k.2.one
      · exact ih (fun e' he' => hx e' (by simp [he'])) u hu
  simp only [List.length_map] at hn
  obtain ⟨v', w', hrun, k1, k2, _, k4⟩ := run_append_own_at (P := Tryd.prog) w base 27 ty 47 i0 _ 6 80 Tryd.underlying27 hi0 hz0 hz1 hz2 rfl (by omega) v es.length _ h2 ad es2.length c (seCells es2) (seCells_len _) hc hone (by simp only [maxLen]; omega) (by omega) hb
  have hkeep : ∀ b, ((base ≤ b ∧ R b) ∧ v.ownBlock ≠ some b) → b < w.heap.size → ((base ≤ b ∧ R b) ∧ v'.ownBlock ≠ some b) ∧ w'.heap[b]? = w.heap[b]? := by
    intro b hb' hl
    refine ⟨⟨hb'.1, ?_⟩, k2.block b hl (fun e => hb'.2 e.symm)⟩
    rcases k4 with hv | hv
    · rw [hv]; exact hb'.2
    · rw [hv]; intro e; injection e with e; omega
  refine ⟨v', w', hrun, ⟨es ++ es2, by simp, ?_, fun e he => ?_⟩, k2, k4⟩
  · rw [seCells_append, List.length_append]; exact k1
  · rcases List.mem_append.1 he with he | he
    · exact ⟨(h3 e he).1.frame k2.size hkeep, (h3 e he).2.frame k2.size hkeep⟩
    · exact ⟨(hx e he).1.frame k2.size hkeep, (hx e he).2.frame k2.size hkeep⟩
theorem wp_app_st {o : Oper} {a : Act} {K : Act → World → Prop} {Q : Exit → Act → World → Prop} {w : World} (s x : Operand)
    (ho : o.op = .call { callee := .builtin .append, args := #[s, x], argTypes := #[27, 27] })
    (base : Nat) (R : Nat → Prop) (v : Value) (l : List St) (hs : a.eval s = v) (hP : OStR w base R v l) (hb : base ≤ w.heap.size) (es2 : List Se) (ad : Addr) (m c : Nat) (hm : m = es2.length) (hx : a.eval x = .slice (some ad) m c) (hn : l.length + es2.length ≤ 1000000)
    (hc : ∀ j u, (seCells es2)[j]? = some u → w.cell? (ad.add j) = some u) (hxx : ∀ e ∈ es2, StX w (fun b => (base ≤ b ∧ R b) ∧ v.ownBlock ≠ some b) e.tv e.th ∧ StX w (fun b => (base ≤ b ∧ R b) ∧ v.ownBlock ≠ some b) e.ev e.el)
    (h : ∀ v' w', OStR w' base R v' (l ++ es2.map Se.st) → w.grownBy w' v.ownBlock → (v'.ownBlock = v.ownBlock ∨ v'.ownBlock = some w.heap.size) → K (a.put o.dst v') w') : o.wp Tryd.prog a w K Q := by
  subst hm
  obtain ⟨v', w', hrun, h2, h3, h4⟩ := run_app_st w base R o.type v l hP hb es2 ad c hn hc hxx
  unfold Oper.wp execOp
  simp only [ho, resolve, invoke, builtin, Sem.run_bind, Sem.run_pure, Result.andThen_ok, List.map_toArray, List.map_cons, List.map_nil, hs, hx, hrun]
  exact h v' w' h2 h3 h4
theorem step_app_st {ops : Array Oper} {o : Oper} {a : Act} {K : Act → World → Prop} {Q : Exit → Act → World → Prop} {E : Prop} {w : World} (hgd : o.guard = none) (s x : Operand)
    (ho : o.op = .call { callee := .builtin .append, args := #[s, x], argTypes := #[27, 27] })
    (base : Nat) (R : Nat → Prop) (v : Value) (l : List St) (hs : a.eval s = v) (hP : OStR w base R v l) (hb : base ≤ w.heap.size) (es2 : List Se) (ad : Addr) (m c : Nat) (hm : m = es2.length) (hx : a.eval x = .slice (some ad) m c) (hn : l.length + es2.length ≤ 1000000)
    (hc : ∀ j u, (seCells es2)[j]? = some u → w.cell? (ad.add j) = some u) (hxx : ∀ e ∈ es2, StX w (fun b => (base ≤ b ∧ R b) ∧ v.ownBlock ≠ some b) e.tv e.th ∧ StX w (fun b => (base ≤ b ∧ R b) ∧ v.ownBlock ≠ some b) e.ev e.el)
    (h : ∀ v' w', OStR w' base R v' (l ++ es2.map Se.st) → w.grownBy w' v.ownBlock → (v'.ownBlock = v.ownBlock ∨ v'.ownBlock = some w.heap.size) → K (a.put o.dst v') w') :
    if Region.wanted o (yielded ops a.tmps) = true then Oper.wp Tryd.prog o a w K Q else E := by
  have hw : Region.wanted o (yielded ops a.tmps) = true := by simp [Region.wanted, hgd]
  rw [if_pos hw]
  exact wp_app_st s x ho base R v l hs hP hb es2 ad m c hm hx hn hc hxx h
/-- the first k statements of an owned row, with the room behind -/
theorem OStR.cut {w : World} {base g n cap : Nat} {R : Nat → Prop} {l : List St} (h : OStR w base R (.slice (some ⟨g, 0, none⟩) n cap) l) {k : Nat} (hk : k < l.length) :
    OStR w base R (.slice (some ⟨g, 0, none⟩) k cap) (l.take k) ∧ ∃ es2 : List Se, l.drop (k + 1) = es2.map Se.st ∧ (∀ j u, (seCells es2)[j]? = some u → w.cell? ⟨g, (k + 1) * 6 + j, none⟩ = some u) ∧
      (∀ e ∈ es2, StX w (fun b => (base ≤ b ∧ R b) ∧ (Value.slice (some ⟨g, 0, none⟩) k cap).ownBlock ≠ some b) e.tv e.th ∧ StX w (fun b => (base ≤ b ∧ R b) ∧ (Value.slice (some ⟨g, 0, none⟩) k cap).ownBlock ≠ some b) e.ev e.el) := by
  obtain ⟨es, rfl, h2, h3⟩ := h
  have hk' : k < es.length := by simpa using hk
  have hne : n = es.length := by
    rcases h2.2 with ⟨e, _⟩ | ⟨g', cap', cur, e, _⟩
    · cases e
    · injection e
  subst hne
  have hse : seCells es = seCells (es.take k) ++ seCells (es.drop k) := by rw [← seCells_append, List.take_append_drop]
  have hse2 : seCells es = seCells (es.take (k + 1)) ++ seCells (es.drop (k + 1)) := by rw [← seCells_append, List.take_append_drop]
  have hl1 : (seCells (es.take k)).length = k * 6 := by rw [seCells_len]; simp; omega
  have hl2 : (seCells (es.take (k + 1))).length = (k + 1) * 6 := by rw [seCells_len]; simp; omega
  refine ⟨⟨es.take k, by simp [List.map_take], ?_, fun e he => h3 e (List.mem_of_mem_take he)⟩, es.drop (k + 1), by simp [List.map_drop], fun j u hu => ?_, fun e he => h3 e (List.mem_of_mem_drop he)⟩
  · have hlen : (es.take k).length = k := by simp; omega
    rw [hlen]
    refine ⟨by rw [hl1], .inr ?_⟩
    rcases h2.2 with ⟨e, _⟩ | ⟨g', cap', cur, e, hb, hh, hc, hm, hs, hcur⟩
    · cases e
    · injection e with e1 e2 e3
      injection e1 with e1
      injection e1 with e1
      subst e1 e3
      refine ⟨g, cap, cur, rfl, hb, hh, by omega, hm, hs, ?_⟩
      have e1 : cur.toList.take (k * 6) = (cur.toList.take (es.length * 6)).take (k * 6) := by rw [List.take_take, Nat.min_eq_left (by omega)]
      rw [e1, hcur, hse, List.take_left' hl1]
  · have hj : j < (seCells (es.drop (k + 1))).length := by
      rcases Nat.lt_or_ge j (seCells (es.drop (k + 1))).length with h | h
      · exact h
      · rw [List.getElem?_eq_none h] at hu; cases hu
    have hlen : (seCells es).length = es.length * 6 := seCells_len _
    have e : (seCells es)[(k + 1) * 6 + j]? = some u := by
      rw [hse2, List.getElem?_append_right (by omega), hl2, Nat.add_sub_cancel_left]; exact hu
    rw [← e]
    have hlt : (k + 1) * 6 + j < es.length * 6 := by
      rw [← hlen, hse2, List.length_append, hl2]; omega
    exact h2.cellAt _ hlt

theorem OStR.first {w : World} {base : Nat} {R : Nat → Prop} {v : Value} {l : List St} (h : OStR w base R v l) (hn : 0 < l.length) : ∃ (g cap : Nat) (e : Se), v = .slice (some ⟨g, 0, none⟩) l.length cap ∧ base ≤ g ∧ g < w.heap.size ∧ l.head? = some e.st ∧
    w.cell? ⟨g, 0, none⟩ = some (.int .i64 e.op) ∧ w.cell? ⟨g, 1, none⟩ = some (.int .i64 e.x) ∧ w.cell? ⟨g, 2, none⟩ = some (.int .i64 e.y) ∧ w.cell? ⟨g, 3, none⟩ = some (.int .i64 e.n) ∧ w.cell? ⟨g, 4, none⟩ = some e.tv ∧ w.cell? ⟨g, 5, none⟩ = some e.ev ∧
    StX w (fun b => (base ≤ b ∧ R b) ∧ v.ownBlock ≠ some b) e.tv e.th ∧ StX w (fun b => (base ≤ b ∧ R b) ∧ v.ownBlock ≠ some b) e.ev e.el := by
  obtain ⟨es, rfl, h2, h3⟩ := h
  simp only [List.length_map] at hn
  obtain ⟨e, r, rfl⟩ : ∃ e r, es = e :: r := by
    cases es with
    | nil => simp at hn
    | cons e r => exact ⟨e, r, rfl⟩
  obtain ⟨g, cap, rfl, hb, hlt⟩ := h2.form hn
  have hat : ∀ j, j < 6 → w.cell? ⟨g, j, none⟩ = (seCells (e :: r))[j]? := fun j hj => h2.cellAt _ (by simp; omega)
  exact ⟨g, cap, e, by simp, hb, hlt, rfl, hat 0 (by omega), hat 1 (by omega), hat 2 (by omega), hat 3 (by omega), hat 4 (by omega), hat 5 (by omega), (h3 e (by simp)).1, (h3 e (by simp)).2⟩
theorem seOne {w : World} {b : Nat} {T : TypeId} {fr : Nat × Nat} (e : Se) (h : w.heap[b]? = some (.cells #[.int .i64 e.op, .int .i64 e.x, .int .i64 e.y, .int .i64 e.n, e.tv, e.ev] T fr)) : ∀ j u, (seCells [e])[j]? = some u → w.cell? ((⟨b, 0, none⟩ : Addr).add j) = some u := by
  intro j u hu
  have hc : w.cell? ⟨b, j, none⟩ = some u := by
    rw [cell_of_row _ _ _ _ _ _ h]
    simpa [seCells] using hu
  by_cases hj : j = 0
  · subst hj; simpa [Addr.add] using hc
  · simpa [Addr.add, hj] using hc

theorem OStR.own_ne {w : World} {base b : Nat} {R : Nat → Prop} {v : Value} {l : List St} {cs : Array Value} {T : TypeId} {fr : Nat × Nat} (h : OStR w base R v l) (hr : w.heap[b]? = some (.cells cs T fr)) (hT : T ≠ 47) : v.ownBlock ≠ some b := by
  obtain ⟨es, rfl, h2, _⟩ := h
  rcases h2.2 with ⟨rfl, _⟩ | ⟨g, cap, cur, rfl, _, hh, _⟩
  · simp [Value.ownBlock]
  · intro e
    injection e with e
    have e' : g = b := e
    subst e'
    rw [hr] at hh
    injection hh with hh
    injection hh with _ hT'
    exact hT hT'
theorem OStR.own_ge {w : World} {base g : Nat} {R : Nat → Prop} {v : Value} {l : List St} (h : OStR w base R v l) (e : v.ownBlock = some g) : base ≤ g := by
  obtain ⟨es, rfl, h2, _⟩ := h
  exact (h2.lt g e).1

end Go.Proofs.YtfioaohadanjmaaDoor
