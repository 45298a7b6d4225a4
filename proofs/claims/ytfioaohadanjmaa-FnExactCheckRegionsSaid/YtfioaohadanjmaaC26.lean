import Derived.Test.YtfioaohadanjmaaC25
import Derived.ArgAppend
import Derived.Test.YtfioaohadanjmaaC11
import Derived.Test.YtfioaohadanjmaaC10
set_option linter.unusedVariables false

/- Words for a queue of ints, and for the rows that stand beside it. -/
namespace Go.Proofs.Ytfioaohadanjmaa
open Go.RowKit

/-- a slice of a block of its own, that loses its head and grows at its end -/
def Qu (w : World) (base : Nat) (v : Value) (q : List Nat) : Prop :=
  ∃ g off cap, ∃ cur : Array Value, v = .slice (some ⟨g, off, none⟩) q.length cap ∧ base ≤ g ∧ w.heap[g]? = some (.cells cur 3 (0, 0)) ∧ q.length ≤ cap ∧ off + cap ≤ cur.size ∧ ∀ j, j < q.length → cur[off + j]? = some (.int .i64 (q.getD j 0 : Nat))
theorem Qu.bel {w w' : World} {base : Nat} {v : Value} {q : List Nat} (h : Qu w base v q) (hb : Below w.heap.size w w') : Qu w' base v q := by
  obtain ⟨g, off, cap, cur, e, h1, h2, h3⟩ := h
  have hg : g < w.heap.size := by
    rcases Nat.lt_or_ge g w.heap.size with h | h
    · exact h
    · rw [Array.getElem?_eq_none h] at h2; cases h2
  exact ⟨g, off, cap, cur, e, h1, (hb.block g hg).trans h2, h3⟩
theorem Qu.other {w : World} {base : Nat} {v : Value} {q : List Nat} (h : Qu w base v q) {b : Nat} (hb : b < base) (i : Nat) (u : Value) : Qu (w.setCell ⟨b, i, none⟩ u) base v q := by
  obtain ⟨g, off, cap, cur, e, h1, h2, h3⟩ := h
  exact ⟨g, off, cap, cur, e, h1, (heap_setCell_other w ⟨b, i, none⟩ g u (by show g ≠ b; omega)).trans h2, h3⟩
theorem Qu.head {w : World} {base : Nat} {v : Value} {a : Nat} {q : List Nat} (h : Qu w base v (a :: q)) :
    ∃ g off c, v = .slice (some ⟨g, off, none⟩) (q.length + 1) (c + 1) ∧ q.length ≤ c ∧ g < w.heap.size ∧ w.cell? ⟨g, off, none⟩ = some (.int .i64 (a : Nat)) ∧ (∀ off', (off' = off ∧ c = 0 ∨ off' = off + 1) → Qu w base (.slice (some ⟨g, off', none⟩) q.length c) q) := by
  obtain ⟨g, off, cap, cur, e, h1, h2, h3, h4, h5⟩ := h
  obtain ⟨c, rfl⟩ : ∃ c, cap = c + 1 := ⟨cap - 1, by simp at h3; omega⟩
  simp only [List.length_cons] at h3 h5
  have hg : g < w.heap.size := by
    rcases Nat.lt_or_ge g w.heap.size with h | h
    · exact h
    · rw [Array.getElem?_eq_none h] at h2; cases h2
  refine ⟨g, off, c, e, by omega, hg, ?_, fun off' ho => ⟨g, off', c, cur, rfl, h1, h2, by omega, by omega, fun j hj => ?_⟩⟩
  · rw [cell_of_row _ _ _ _ _ _ h2]
    have := h5 0 (by omega)
    simpa using this
  · rcases ho with ⟨-, hc⟩ | rfl
    · omega
    · have := h5 (j + 1) (by omega)
      rw [show off + 1 + j = off + (j + 1) by omega, this]
      simp [List.getD]

/-- the memory of spec.l3Forward -/
structure FQ (W : World) (G S : Nat) (rows : List (List Bool)) (seen : List Bool) (vs : List Value) (vq : Value) (q : List Nat) : Prop where
  lt : G < S
  out : RowB W G 59 vs
  vl : vs.length = rows.length
  row : ∀ i, i < rows.length → OBools W (S + 1) (vs.getD i (.slice none 0 0)) (rows.getD i [])
  sn : RowB W S 4 (bv seen)
  que : Qu W (S + 1) vq q
theorem FQ.bel {W W' : World} {G S : Nat} {rows : List (List Bool)} {seen : List Bool} {vs : List Value} {vq : Value} {q : List Nat} (h : FQ W G S rows seen vs vq q) (hb : Below W.heap.size W W') : FQ W' G S rows seen vs vq q :=
  ⟨h.lt, h.out.low hb h.out.lt, h.vl, fun i hi => (h.row i hi).bel hb, h.sn.low hb h.sn.lt, h.que.bel hb⟩
theorem FQ.see {W : World} {G S : Nat} {rows : List (List Bool)} {seen : List Bool} {vs : List Value} {vq : Value} {q : List Nat} (h : FQ W G S rows seen vs vq q) (n : Nat) : FQ (W.setCell ⟨S, n, none⟩ (.bool true)) G S rows (seen.set n true) vs vq q :=
  ⟨h.lt, h.out.other (by have := h.lt; omega) _ _, h.vl, fun i hi => (h.row i hi).other (by omega) _ _, by have := h.sn.set_ n (.bool true); rwa [bv_set] at this, h.que.other (by omega) _ _⟩
theorem FQ.put {W : World} {G S : Nat} {rows : List (List Bool)} {seen : List Bool} {vs : List Value} {vq : Value} {q : List Nat} (h : FQ W G S rows seen vs vq q) {n : Nat} {v : Value} {r : List Bool} (hn : n < rows.length) (hv : OBools W (S + 1) v r) : FQ (W.setCell ⟨G, n, none⟩ v) G S (rows.set n r) seen (vs.set n v) vq q := by
  have hl := h.lt
  refine ⟨h.lt, h.out.set_ n v, by rw [List.length_set, List.length_set, h.vl], fun i hi => ?_, h.sn.other (by omega) _ _, h.que.other (by omega) _ _⟩
  rw [row_set hn]
  by_cases hi' : i = n
  · subst hi'
    rw [if_pos rfl, show (vs.set i v).getD i (.slice none 0 0) = v by simp [List.getD, show i < vs.length by rw [h.vl]; exact hn]]
    exact hv.other (by omega) _ _
  · rw [if_neg hi', show (vs.set n v).getD i (.slice none 0 0) = vs.getD i (.slice none 0 0) by simp [List.getD, Ne.symm hi']]
    exact (h.row i (by simpa using hi)).other (by omega) _ _
/-- append(work, n) -/
theorem wpList_push_q {ops : Array Oper} {rest : List Oper} {o : Oper} {a : Act} {Q : Exit → Act → World → Prop} {W : World} {G S : Nat} {rows : List (List Bool)} {seen : List Bool} {vs : List Value} {vq : Value} {q : List Nat} (hgd : o.guard = none) (s x : Operand)
    (ho : o.op = .call { callee := .builtin .append, args := #[s, x], argTypes := #[22, 22] })
    (h : FQ W G S rows seen vs vq q) (hq : q.length ≤ 100000) (n : Nat) (hs : a.eval s = vq) (hx : a.eval x = .slice (some ⟨W.heap.size, 0, none⟩) 1 1) {B : Nat} (hB : B ≤ S + 1)
    (hK : ∀ v' w', FQ w' G S rows seen vs v' (q ++ [n]) → (∀ u l, OBools W (S + 1) u l → OBools w' (S + 1) u l) → Below B W w' → wpList Try.prog ops Q rest (a.put o.dst v') w') :
    wpList Try.prog ops Q (o :: rest) a (W.alloc (.cells #[.int .i64 (n : Nat)] 3)) := by
  obtain ⟨i0, hi0, hz0, hz1, hz2⟩ := info_parts Try.infoInt
  have hsl := h.sn.lt
  have hA := h.bel (bel_a W (.cells #[.int .i64 (n : Nat)] 3))
  have hb2 := bel_a W (.cells #[.int .i64 (n : Nat)] 3)
  have hr := heap_alloc_new W (.cells #[.int .i64 (n : Nat)] 3)
  have hsW : (W.alloc (.cells #[.int .i64 (n : Nat)] 3)).heap.size = W.heap.size + 1 := by simp
  generalize W.alloc (.cells #[.int .i64 (n : Nat)] 3) = W1 at *
  obtain ⟨g, off, cap, cur, e, h1, h2, h3, h4, h5⟩ := hA.que
  subst e
  have hcell : ∀ j u, (q.map fun (m : Nat) => Value.int .i64 (m : Int))[j]? = some u → W1.cell? ⟨g, off + j, none⟩ = some u := by
    intro j u hu
    have hj : j < q.length := by
      rcases Nat.lt_or_ge j q.length with hh | hh
      · exact hh
      · rw [List.getElem?_eq_none (by simpa using hh)] at hu; cases hu
    rw [cell_of_row _ _ _ _ _ _ h2, h5 j hj]
    rw [List.getElem?_map, List.getElem?_eq_getElem hj] at hu
    rw [getD_lt hj]
    simpa using hu
  refine wpList_append_arg W1 hgd s x 22 ho 3 i0 _ 1 8 Try.underlying22 hi0 hz0 hz1 hz2 rfl (by omega) g off q.length cap (q.map fun (m : Nat) => Value.int .i64 (m : Int)) hs (by simp) hcell ⟨W.heap.size, 0, none⟩ 1 1 [.int .i64 (n : Nat)] hx rfl ?_ ?_ (fun hroom j hj => ?_) (by simp only [maxLen]; omega) (by omega) (fun hroom => ?_) (fun hgrow v' w' hown hgr => ?_)
  · intro j u hu
    have hj : j = 0 := by
      rcases Nat.eq_zero_or_pos j with h | h
      · exact h
      · rw [List.getElem?_eq_none (by simp; omega)] at hu; cases hu
    subst hj
    have : W1.cell? ⟨W.heap.size, 0, none⟩ = some u := by
      rw [cell_of_row _ _ _ _ _ _ hr]
      simpa using hu
    simpa [Addr.add] using this
  · intro u hu
    simp at hu
    subst hu; rfl
  · obtain rfl : j = 0 := by simp at hj; omega
    refine ⟨?_, frozen_of_row _ _ _ _ _ h2⟩
    rw [cell_of_row _ _ _ _ _ _ h2, Array.getElem?_eq_getElem (by omega)]; rfl
  · have hob : ∀ u l, OBools W1 (S + 1) u l → OBools (W1.setCell ⟨g, off + q.length * 1, none⟩ (.int .i64 (n : Nat))) (S + 1) u l := fun u l hu => by
      refine hu.kept (grown_set W1 g _ _) (.inr ?_)
      rcases hu.2 with ⟨hv, _⟩ | ⟨g', cap', cur', hv, _, hh, _⟩
      · rw [hv]; simp [Value.ownBlock]
      · rw [hv]
        intro he
        have he' : g' = g := Option.some.inj he
        subst he'
        rw [h2] at hh
        injection hh with hh
        injection hh with _ hT
        revert hT; decide
    refine hK _ _ ⟨hA.lt, ?_, hA.vl, fun i hi => hob _ _ (hA.row i hi), ?_, ?_⟩ (fun u l hu => hob _ _ (hu.bel hb2)) ?_
    · exact hA.out.other (by have := hA.lt; omega) _ _
    · exact hA.sn.other (by omega) _ _
    · refine ⟨g, off, cap, cur.set! (off + q.length * 1) (.int .i64 (n : Nat)), by rw [List.length_append]; rfl, h1, ?_, by rw [List.length_append]; exact hroom, by simpa using h4, fun j hj => ?_⟩
      · have := heap_setCell_same W1 g (off + q.length * 1) cur 3 (.int .i64 (n : Nat)) h2
        simpa [World.setCells] using this
      · simp only [List.length_append, List.length_cons, List.length_nil] at hj
        by_cases hjq : j < q.length
        · rw [show (q ++ [n]).getD j 0 = q.getD j 0 by rw [getD_lt (by simp; omega), getD_lt hjq, List.getElem_append_left hjq], ← h5 j hjq]
          simp only [Array.set!_eq_setIfInBounds, Array.getElem?_setIfInBounds]
          rw [if_neg (by omega)]
        · have : j = q.length := by omega
          subst this
          simp only [Array.set!_eq_setIfInBounds, Array.getElem?_setIfInBounds, Nat.mul_one]
          rw [if_pos trivial, if_pos (by omega)]
          simp [List.getD]
    · exact (hb2.mono (by omega)).trans ((Below.refl B W1).setCell (p := ⟨g, _, none⟩) (by show B ≤ g; omega) _)
  · have hb3 : Below W1.heap.size W1 w' := ⟨hgr.os, hgr.tape, hgr.output, hgr.size, fun k hk => hgr.block k hk (by simp)⟩
    have hA3 := hA.bel hb3
    refine hK _ _ ⟨hA.lt, hA3.out, hA3.vl, hA3.row, hA3.sn, ?_⟩ (fun u l hu => (hu.bel hb2).bel hb3) ((hb2.mono (by omega)).trans (hb3.mono (by omega)))
    rcases hown.2 with ⟨_, h0⟩ | ⟨g', cap', cur', hv, hbg, hh, hc1, _, hc2, hc3⟩
    · omega
    · refine ⟨g', 0, cap', cur', by rw [hv, List.length_append]; rfl, by omega, hh, by rw [List.length_append]; exact hc1, by omega, fun j hj => ?_⟩
      have e1 : (cur'.toList.take ((q.length + 1) * 1))[j]? = cur'[0 + j]? := by
        rw [List.getElem?_take, if_pos (by simpa using hj)]
        simp
      rw [← e1, hc3]
      have hmap : (q.map (fun (m : Nat) => Value.int .i64 (m : Int)) ++ [Value.int .i64 (n : Nat)]) = (q ++ [n]).map (fun (m : Nat) => Value.int .i64 (m : Int)) := by simp
      rw [hmap, List.getElem?_map, List.getElem?_eq_getElem hj, getD_lt hj]
      rfl

theorem getD_rep {α : Type} (m i : Nat) (x d : α) (h : i < m) : (List.replicate m x).getD i d = x := by simp [List.getD, h]
theorem FQ.first (w1 : World) (m nt : Nat) (r0 : List Bool) (hr : r0.length = nt) (h2 : nt ≤ 1000) :
    FQ ((((w1.alloc (.cells (Value.slice (some ⟨w1.heap.size + 1 + 1, 0, none⟩) nt nt :: List.replicate m (Value.slice none 0 0)).toArray 59)).alloc (.cells (Value.bool true :: bv (List.replicate m false)).toArray 4)).alloc (.cells (bv r0).toArray 4)).alloc (.cells #[.int .i64 0] 3))
      w1.heap.size (w1.heap.size + 1) (r0 :: List.replicate m []) (true :: List.replicate m false) (Value.slice (some ⟨w1.heap.size + 1 + 1, 0, none⟩) nt nt :: List.replicate m (Value.slice none 0 0)) (.slice (some ⟨w1.heap.size + 1 + 1 + 1, 0, none⟩) 1 1) [0] := by
  have k1 := RowB.new w1 (Value.slice (some ⟨w1.heap.size + 1 + 1, 0, none⟩) nt nt :: List.replicate m (Value.slice none 0 0)) 59
  have s1 : (w1.alloc (.cells (Value.slice (some ⟨w1.heap.size + 1 + 1, 0, none⟩) nt nt :: List.replicate m (Value.slice none 0 0)).toArray 59)).heap.size = w1.heap.size + 1 := by simp
  generalize w1.alloc (.cells (Value.slice (some ⟨w1.heap.size + 1 + 1, 0, none⟩) nt nt :: List.replicate m (Value.slice none 0 0)).toArray 59) = w2 at *
  have k2 := RowB.new w2 (Value.bool true :: bv (List.replicate m false)) 4
  have s2 : (w2.alloc (.cells (Value.bool true :: bv (List.replicate m false)).toArray 4)).heap.size = w2.heap.size + 1 := by simp
  have k1' := k1.alloc (.cells (Value.bool true :: bv (List.replicate m false)).toArray 4)
  generalize w2.alloc (.cells (Value.bool true :: bv (List.replicate m false)).toArray 4) = w3 at *
  have k3 := RowB.new w3 (bv r0) 4
  have s3 : (w3.alloc (.cells (bv r0).toArray 4)).heap.size = w3.heap.size + 1 := by simp
  have k1'' := k1'.alloc (.cells (bv r0).toArray 4)
  have k2'' := k2.alloc (.cells (bv r0).toArray 4)
  generalize w3.alloc (.cells (bv r0).toArray 4) = w4 at *
  have k4 := RowB.new w4 [.int .i64 0] 3
  rw [s1] at k2''
  rw [s2, s1] at k3
  rw [s3, s2, s1] at k4
  refine ⟨by omega, k1''.alloc _, by simp, fun i hi => ?_, k2''.alloc _, ⟨w1.heap.size + 1 + 1 + 1, 0, 1, #[.int .i64 0], rfl, by omega, k4, by simp, by simp, fun j hj => ?_⟩⟩
  · cases i with
    | zero =>
      refine ⟨by simp [bv], .inr ⟨w1.heap.size + 1 + 1, nt, (bv r0).toArray, by simp [hr], by omega, k3.alloc _, by simp [hr], by simp only [maxLen]; omega, by simp [bv, hr], ?_⟩⟩
      simp [bv]
      exact List.take_of_length_le (by simp)
    | succ i =>
      have him : i < m := by simpa using hi
      have e1 : (r0 :: List.replicate m ([] : List Bool)).getD (i + 1) [] = [] := getD_rep m i [] [] him
      have e2 : (Value.slice (some ⟨w1.heap.size + 1 + 1, 0, none⟩) nt nt :: List.replicate m (Value.slice none 0 0)).getD (i + 1) (Value.slice none 0 0) = Value.slice none 0 0 := getD_rep m i _ _ him
      rw [e1, e2]
      exact World.ownsRow_nil _ _ _ _
  · obtain rfl : j = 0 := by simp at hj; omega
    rfl
theorem WkO.first (ev : Bool) (ts : List Int) (pts : List Pt) (m : Nat) (hm : pts.length = m + 1) : WkO ev ts pts (List.replicate ts.length false :: List.replicate m []) (true :: List.replicate m false) [0] := by
  have hs : ∀ i, i < pts.length → seenAt (true :: List.replicate m false) i → i = 0 := by
    intro i hi hs
    cases i with
    | zero => rfl
    | succ i =>
      have e : (true :: List.replicate m false).getD (i + 1) false = false := getD_rep m i _ _ (by omega)
      unfold seenAt at hs
      rw [e] at hs; cases hs
  have ha : ∀ v, v < ts.length → acR ev (List.replicate ts.length false :: List.replicate m []) 0 v = (false != ev) := by
    intro v hv
    unfold acR rget
    rw [show (List.replicate ts.length false :: List.replicate m ([] : List Bool)).getD 0 [] = List.replicate ts.length false from rfl, getD_rep _ _ _ _ hv]
  refine ⟨⟨by simp [hm], by simp [hm], fun i hi h => ?_, fun i hi h => ?_, fun i v hi hv h ha' => ?_, rfl, fun he v hv => by rw [ha v hv, he]; rfl, fun i hi => ?_⟩, fun i hi h => .inl (by rw [hs i hi h]; simp)⟩
  · rw [hs i hi h]; simp
  · cases i with
    | zero => exact absurd rfl h
    | succ i => exact getD_rep m i _ _ (by omega)
  · rw [hs i hi h] at ha' ⊢
    rw [ha v hv] at ha'
    exact .init hv (by simpa [accB] using ha')
  · obtain rfl : i = 0 := by simpa using hi
    exact ⟨by omega, rfl⟩

theorem FQ.cellG {W : World} {G S : Nat} {rows : List (List Bool)} {seen : List Bool} {vs : List Value} {vq : Value} {q : List Nat} (h : FQ W G S rows seen vs vq q) {n k c : Nat} {A : Option Addr} (hn : n < rows.length) (e : vs.getD n (.slice none 0 0) = .slice A k c) : W.cell? ⟨G, n, none⟩ = some (.slice A k c) := by
  rw [h.out.cell n, ← e, getD_lt (by rw [h.vl]; exact hn)]
  exact List.getElem?_eq_getElem _
theorem FQ.cellS {W : World} {G S : Nat} {rows : List (List Bool)} {seen : List Bool} {vs : List Value} {vq : Value} {q : List Nat} (h : FQ W G S rows seen vs vq q) {n : Nat} (hn : n < seen.length) : W.cell? ⟨S, n, none⟩ = some (.bool (seen.getD n false)) := by
  rw [h.sn.cell n, bv_get hn]
theorem FQ.old {W : World} {G S : Nat} {rows : List (List Bool)} {seen : List Bool} {vs : List Value} {vq : Value} {q : List Nat} (h : FQ W G S rows seen vs vq q) {n c : Nat} {A : Option Addr} (hn : n < rows.length) (h6 : (rows.getD n []).length ≤ 1000) (e : vs.getD n (.slice none 0 0) = .slice A (rows.getD n []).length c) : BoolS W W.heap.size (.slice A (rows.getD n []).length c) (rows.getD n []) := by
  have := (h.row n hn).toS (by omega)
  rwa [e] at this
theorem WkN.go {ev : Bool} {ts : List Int} {pts : List Pt} {rows : List (List Bool)} {seen : List Bool} {a k n : Nat} {r0 aft : List Bool} {q : List Nat} {p : Pt} (h : WkN ev ts pts a r0 k rows seen q)
    (hp : pts[a]? = some p) (hn : p.next[k]? = some n) (hnl : n < pts.length) (hal : aft.length = ts.length) (haf : ∀ v, v < ts.length → aft.getD v false = vlB ts p (r0.getD v false) v) :
    WkN ev ts pts a r0 (k + 1) (rows.set n (joinP ev (rows.getD n []) aft)) (seen.set n true) (q ++ [n]) := by
  obtain ⟨hk, e⟩ := List.getElem?_eq_some_iff.1 hn
  exact h.step hp hk e.symm hnl hal haf (.inl rfl)
theorem WkN.stay {ev : Bool} {ts : List Int} {pts : List Pt} {rows : List (List Bool)} {seen : List Bool} {a k n : Nat} {r0 aft : List Bool} {q : List Nat} {p : Pt} (h : WkN ev ts pts a r0 k rows seen q)
    (hp : pts[a]? = some p) (hn : p.next[k]? = some n) (hnl : n < pts.length) (hal : aft.length = ts.length) (haf : ∀ v, v < ts.length → aft.getD v false = vlB ts p (r0.getD v false) v)
    (hs : seen.getD n false = true) (he : rows.getD n [] = joinP ev (rows.getD n []) aft) : WkN ev ts pts a r0 (k + 1) rows seen q := by
  obtain ⟨hk, e⟩ := List.getElem?_eq_some_iff.1 hn
  have := h.step hp hk e.symm hnl hal haf (.inr ⟨rfl, hs, he⟩)
  have hnr : n < rows.length := by rw [h.i.len]; exact hnl
  have hns : n < seen.length := by rw [h.i.slen]; exact hnl
  rw [getD_lt hns] at hs
  rw [← he, getD_lt hnr, List.set_getElem_self hnr] at this
  rw [show seen.set n true = seen by rw [← hs]; exact List.set_getElem_self hns] at this
  exact this

end Go.Proofs.Ytfioaohadanjmaa

/- Plain: the state of a search whose sets are rows of bools, one for each point and variable. No program in sight. -/
namespace Go.Proofs.Ytfioaohadanjmaa

def get3 (R : List (List (List Bool))) (i v e : Nat) : Bool := rget (R.getD i []) v e
structure RwI (ts : List Int) (pts : List Pt) (G : Nat → Pt → Nat → Bool) (C : Pt → Bool) (s : Nat) (R : List (List (List Bool))) : Prop where
  len : R.length = pts.length
  row : ∀ i, i < R.length → (R.getD i []).length = ts.length
  inn : ∀ i v, i < R.length → v < ts.length → ((R.getD i []).getD v []).length = s
  snd : ∀ i v e, get3 R i v e = true → Fl ts pts G C i v e
theorem RwI.init (ts : List Int) (pts : List Pt) (G : Nat → Pt → Nat → Bool) (C : Pt → Bool) (s : Nat) : RwI ts pts G C s (List.replicate pts.length (List.replicate ts.length (List.replicate s false))) := by
  have h1 : ∀ i, i < pts.length → (List.replicate pts.length (List.replicate ts.length (List.replicate s false))).getD i [] = List.replicate ts.length (List.replicate s false) := fun i hi => by
    rw [getD_lt (by simpa using hi)]; simp
  have h2 : ∀ v, v < ts.length → (List.replicate ts.length (List.replicate s false)).getD v [] = List.replicate s false := fun v hv => by
    rw [getD_lt (by simpa using hv)]; simp
  refine ⟨by simp, fun i hi => by rw [h1 i (by simpa using hi)]; simp, fun i v hi hv => by rw [h1 i (by simpa using hi), h2 v hv]; simp, fun i v e h => ?_⟩
  unfold get3 rget at h
  by_cases hi : i < pts.length
  · rw [h1 i hi] at h
    by_cases hv : v < ts.length
    · rw [h2 v hv] at h
      by_cases he : e < s
      · rw [getD_lt (by simpa using he)] at h; simp at h
      · rw [getD_ge (by simpa using he)] at h; cases h
    · rw [getD_ge (l := List.replicate ts.length (List.replicate s false)) (by simpa using hv)] at h; simp at h
  · rw [getD_ge (l := List.replicate pts.length _) (by simpa using hi)] at h; simp at h
/-- the rows r' are the rows r and what af has -/
structure Mrg (m s : Nat) (r af r' : List (List Bool)) : Prop where
  len : r'.length = m
  inn : ∀ v, v < m → (r'.getD v []).length = s
  get : ∀ v e, v < m → e < s → rget r' v e = (rget r v e || rget af v e)
theorem rget_out {m s : Nat} {r : List (List Bool)} (hl : r.length = m) (hi : ∀ v, v < m → (r.getD v []).length = s) {v e : Nat} (h : rget r v e = true) : v < m ∧ e < s := by
  unfold rget at h
  rcases Nat.lt_or_ge v m with hv | hv
  · refine ⟨hv, ?_⟩
    rcases Nat.lt_or_ge e s with he | he
    · exact he
    · rw [getD_ge (l := r.getD v []) (by rw [hi v hv]; exact he)] at h; cases h
  · rw [getD_ge (l := r) (by omega)] at h; simp at h
theorem RwI.upd {ts : List Int} {pts : List Pt} {G : Nat → Pt → Nat → Bool} {C : Pt → Bool} {s n : Nat} {R : List (List (List Bool))} {af r' : List (List Bool)} (h : RwI ts pts G C s R) (hn : n < R.length) (hm : Mrg ts.length s (R.getD n []) af r')
    (ha : ∀ v e, v < ts.length → e < s → rget af v e = true → Fl ts pts G C n v e) : RwI ts pts G C s (R.set n r') := by
  refine ⟨by rw [List.length_set]; exact h.len, fun i hi => ?_, fun i v hi hv => ?_, fun i v e he => ?_⟩
  · rw [List.length_set] at hi
    rw [getD_setT hn]; split
    · exact hm.len
    · exact h.row i hi
  · rw [List.length_set] at hi
    rw [getD_setT hn]; split
    · exact hm.inn v hv
    · exact h.inn i v hi hv
  · unfold get3 at he
    rw [getD_setT hn] at he
    split at he
    · rename_i e1; subst e1
      have ho := rget_out hm.len hm.inn he
      rw [hm.get v e ho.1 ho.2, Bool.or_eq_true] at he
      rcases he with he | he
      · exact h.snd i v e he
      · exact ha v e ho.1 ho.2 he
    · exact h.snd i v e he
theorem get3_up {ts : List Int} {pts : List Pt} {G : Nat → Pt → Nat → Bool} {C : Pt → Bool} {s n : Nat} {R : List (List (List Bool))} {af r' : List (List Bool)} (h : RwI ts pts G C s R) (hn : n < R.length) (hm : Mrg ts.length s (R.getD n []) af r') (i v e : Nat) (he : get3 R i v e = true) : get3 (R.set n r') i v e = true := by
  unfold get3 at *
  rw [getD_setT hn]
  split
  · rename_i e1; subst e1
    have ho := rget_out (h.row i hn) (h.inn i · hn) he
    rw [hm.get v e ho.1 ho.2, he]; rfl
  · exact he
theorem RwI.mu {ts : List Int} {pts : List Pt} {G : Nat → Pt → Nat → Bool} {C : Pt → Bool} {s n v e : Nat} {R : List (List (List Bool))} {af r' : List (List Bool)} (h : RwI ts pts G C s R) (hn : n < R.length) (hm : Mrg ts.length s (R.getD n []) af r')
    (hv : v < ts.length) (he : e < s) (h0 : rget (R.getD n []) v e = false) (h1 : rget af v e = true) : muB pts.length ts.length s (get3 (R.set n r')) < muB pts.length ts.length s (get3 R) := by
  refine muB_lt (i := n) (v := v) (e := e) (fun i u f hf => get3_up h hn hm i u f hf) (by rw [← h.len]; exact hn) hv he h0 ?_
  unfold get3
  rw [getD_setT hn, if_pos rfl, hm.get v e hv he, h1, Bool.or_true]
/-- the rows behind a point -/
structure AfR (ts : List Int) (G : Nat → Pt → Nat → Bool) (C : Pt → Bool) (s i : Nat) (p : Pt) (r af : List (List Bool)) : Prop where
  len : af.length = ts.length
  inn : ∀ v, v < ts.length → (af.getD v []).length = s
  get : ∀ v e, v < ts.length → e < s → rget af v e = aftB ts G C i p (rget r) v e
theorem AfR.snd {ts : List Int} {pts : List Pt} {G : Nat → Pt → Nat → Bool} {C : Pt → Bool} {s i k v e : Nat} {p : Pt} {R : List (List (List Bool))} {af : List (List Bool)} (h : RwI ts pts G C s R) (ha : AfR ts G C s i p (R.getD i []) af) (hp : pts[i]? = some p) (hk : k ∈ p.next) (hv : v < ts.length) (he : e < s) (hh : rget af v e = true) : Fl ts pts G C k v e := by
  rw [ha.get v e hv he] at hh
  exact Fl.aft (fun u f hf => h.snd i u f hf) hp hk hv hh
/-- along the edge from i (p) to k nothing is missing in R -/
def ClE (ts : List Int) (G : Nat → Pt → Nat → Bool) (C : Pt → Bool) (s : Nat) (R : List (List (List Bool))) (i : Nat) (p : Pt) (k : Nat) : Prop := ∀ v e, v < ts.length → e < s → aftB ts G C i p (rget (R.getD i [])) v e = true → get3 R k v e = true
def ClR (ts : List Int) (pts : List Pt) (G : Nat → Pt → Nat → Bool) (C : Pt → Bool) (s : Nat) (R : List (List (List Bool))) (i : Nat) : Prop := ∀ p, pts[i]? = some p → ∀ k ∈ p.next, ClE ts G C s R i p k
theorem RwI.done {ts : List Int} {pts : List Pt} {G : Nat → Pt → Nat → Bool} {C : Pt → Bool} {s : Nat} {R : List (List (List Bool))} (h : RwI ts pts G C s R) (hg : ∀ i p e, pts[i]? = some p → G i p e = true → e < s) (hc : ∀ i, i < pts.length → ClR ts pts G C s R i) (i v e : Nat) : get3 R i v e = true ↔ Fl ts pts G C i v e := by
  refine ⟨h.snd i v e, fun hf => Fl.done (s := s) (st := get3 R) hg (fun i p k v e hp hk hv he ha => ?_) hf⟩
  refine hc i ?_ p hp k hk v e hv he ha
  rcases Nat.lt_or_ge i pts.length with h | h
  · exact h
  · rw [List.getElem?_eq_none h] at hp; cases hp

end Go.Proofs.Ytfioaohadanjmaa

/- Words for rows of bools that are read, that a call owns, and that stand in rows of rows. -/
namespace Go.Proofs.Ytfioaohadanjmaa
open Go.RowKit

/-- only blocks in S have turned -/
structure Onl (S : Nat → Prop) (w w' : World) : Prop where
  os : w'.os = w.os
  tape : w'.tape = w.tape
  output : w'.output = w.output
  size : w.heap.size ≤ w'.heap.size
  block : ∀ k, k < w.heap.size → ¬ S k → w'.heap[k]? = w.heap[k]?
theorem Onl.refl (S : Nat → Prop) (w : World) : Onl S w w := ⟨rfl, rfl, rfl, Nat.le_refl _, fun _ _ _ => rfl⟩
theorem Onl.trans {S : Nat → Prop} {a b c : World} (h : Onl S a b) (k : Onl S b c) : Onl S a c :=
  ⟨k.os.trans h.os, k.tape.trans h.tape, k.output.trans h.output, Nat.le_trans h.size k.size, fun i hi hn => (k.block i (Nat.lt_of_lt_of_le hi h.size) hn).trans (h.block i hi hn)⟩
theorem Onl.set {S : Nat → Prop} (w : World) {g : Nat} (hg : S g) (i : Nat) (u : Value) : Onl S w (w.setCell ⟨g, i, none⟩ u) :=
  ⟨rfl, rfl, rfl, by simp [World.setCell], fun k _ hn => heap_setCell_other w ⟨g, i, none⟩ k u (fun e => hn (by rw [e]; exact hg))⟩
theorem Onl.bel {S : Nat → Prop} {w w' : World} (h : Below w.heap.size w w') : Onl S w w' := ⟨h.os, h.tape, h.output, h.size, fun k hk _ => h.block k hk⟩
theorem Onl.below {S : Nat → Prop} {w w' : World} {B : Nat} (h : Onl S w w') (hB : B ≤ w.heap.size) (hS : ∀ k, S k → B ≤ k) : Below B w w' :=
  ⟨h.os, h.tape, h.output, h.size, fun k hk => h.block k (by omega) (fun hs => by have := hS k hs; omega)⟩
theorem Onl.mono {S S' : Nat → Prop} {w w' : World} (h : Onl S w w') (hs : ∀ k, S k → S' k) : Onl S' w w' := ⟨h.os, h.tape, h.output, h.size, fun k hk hn => h.block k hk fun hh => hn (hs k hh)⟩
theorem RowB.onl {S : Nat → Prop} {w w' : World} {g : Nat} {t : TypeId} {l : List Value} (h : RowB w g t l) (k : Onl S w w') (hg : ¬ S g) : RowB w' g t l := (k.block g h.lt hg).trans h
theorem own_onl {S : Nat → Prop} {w w' : World} {base e size n : Nat} {v : Value} {xs : List Value} (h : w.ownsRow base e size v n xs) (k : Onl S w w') (hg : ∀ g, v.ownBlock = some g → ¬ S g) : w'.ownsRow base e size v n xs := by
  refine ⟨h.1, ?_⟩
  rcases h.2 with h' | ⟨g, cap, cur, rfl, hb, hh, hr⟩
  · exact .inl h'
  · refine .inr ⟨g, cap, cur, rfl, hb, ?_, hr⟩
    have hlt := (h.lt g rfl).2
    exact (k.block g hlt (hg g rfl)).trans hh

/-- the slice v reads as the bools l, its block meets P -/
def BoolX (w : World) (P : Nat → Prop) (v : Value) (l : List Bool) : Prop :=
  ∃ A c, v = .slice A l.length c ∧ l.length ≤ c ∧ l.length ≤ 4194304 ∧ (0 < l.length → ∃ b off, A = some ⟨b, off, none⟩ ∧ P b ∧ b < w.heap.size ∧ ∀ j, j < l.length → w.cell? ⟨b, off + j, none⟩ = some (.bool (l.getD j false)))
theorem BoolX.frame {w w' : World} {P P' : Nat → Prop} {v : Value} {l : List Bool} (h : BoolX w P v l) (hs : w.heap.size ≤ w'.heap.size) (hk : ∀ b, P b → b < w.heap.size → P' b ∧ w'.heap[b]? = w.heap[b]?) : BoolX w' P' v l := by
  obtain ⟨A, c, e, h1, h2, h3⟩ := h
  refine ⟨A, c, e, h1, h2, fun hn => ?_⟩
  obtain ⟨b, off, e, hp, hb, hc⟩ := h3 hn
  have k := hk b hp hb
  exact ⟨b, off, e, k.1, by omega, fun j hj => (World.cell?_of_block (w := w) (a := ⟨b, off + j, none⟩) k.2).trans (hc j hj)⟩
theorem BoolX.bel {w w' : World} {P : Nat → Prop} {v : Value} {l : List Bool} (h : BoolX w P v l) (hb : Below w.heap.size w w') : BoolX w' P v l := h.frame hb.size fun b hp hl => ⟨hp, hb.block b hl⟩
theorem BoolX.imp {w : World} {P P' : Nat → Prop} {v : Value} {l : List Bool} (h : BoolX w P v l) (hp : ∀ b, P b → b < w.heap.size → P' b) : BoolX w P' v l := h.frame (Nat.le_refl _) fun b h1 h2 => ⟨hp b h1 h2, rfl⟩
theorem BoolX.toS {w : World} {P : Nat → Prop} {v : Value} {l : List Bool} (h : BoolX w P v l) : BoolS w w.heap.size v l := by
  obtain ⟨A, c, e, h1, h2, h3⟩ := h
  refine ⟨A, c, e, h1, h2, by simp, fun hn => ?_⟩
  obtain ⟨b, off, e, _, hb, hc⟩ := h3 hn
  refine ⟨b, off, e, hb, fun j u hu => ?_⟩
  have hj : j < l.length := by have := (List.getElem?_eq_some_iff.1 hu).1; simpa using this
  rw [hc j hj, ← hu, List.getElem?_map, List.getElem?_eq_getElem hj, getD_lt hj]; rfl
theorem RowB.toX {w : World} {g c : Nat} {l : List Bool} {P : Nat → Prop} (h : RowB w g 4 (bv l)) (hP : P g) (hl : l.length ≤ 4194304) (hc : l.length ≤ c) : BoolX w P (.slice (some ⟨g, 0, none⟩) l.length c) l :=
  ⟨_, _, rfl, hc, hl, fun _ => ⟨g, 0, rfl, hP, h.lt, fun j hj => by rw [Nat.zero_add, h.cell, bv_get hj]⟩⟩
theorem OBools.toX {w : World} {base : Nat} {v : Value} {l : List Bool} (h : OBools w base v l) (hl : l.length ≤ 4194304) : BoolX w (fun b => base ≤ b) v l := by
  obtain ⟨A, c, rfl, hc⟩ := h.slice
  refine ⟨A, c, rfl, hc, hl, fun hn => ?_⟩
  obtain ⟨g, e, hb, hlt, -⟩ := h.at_ hn
  subst e
  refine ⟨g, 0, rfl, hb, hlt, fun j hj => ?_⟩
  obtain ⟨g', e, -, -, -, hcj, -⟩ := h.at_ hj
  injection e with e
  injection e with e
  subst e
  rw [Nat.zero_add]; exact hcj
theorem BoolX.slice {w : World} {P : Nat → Prop} {v : Value} {l : List Bool} (h : BoolX w P v l) : ∃ A c, v = .slice A l.length c ∧ l.length ≤ c := by
  obtain ⟨A, c, e, h1, _⟩ := h
  exact ⟨A, c, e, h1⟩
theorem BoolX.at_ {w : World} {P : Nat → Prop} {A : Option Addr} {n c : Nat} {l : List Bool} (h : BoolX w P (.slice A n c) l) {k : Nat} (hk : k < l.length) : ∃ b off, A = some ⟨b, off, none⟩ ∧ P b ∧ b < w.heap.size ∧ n = l.length ∧ w.cell? ⟨b, off + k, none⟩ = some (.bool (l.getD k false)) := by
  obtain ⟨A', c', e, h1, h2, h3⟩ := h
  injection e with e1 e2 e3
  subst e1 e2
  obtain ⟨b, off, e, hp, hb, hc⟩ := h3 (by omega)
  exact ⟨b, off, e, hp, hb, rfl, hc k hk⟩

/-- the slice v reads as the rows -/
def RwX (w : World) (P : Nat → Prop) (v : Value) (rows : List (List Bool)) : Prop :=
  ∃ A c, ∃ rv : Nat → Value, v = .slice A rows.length c ∧ rows.length ≤ c ∧ (0 < rows.length → ∃ b off, A = some ⟨b, off, none⟩ ∧ P b ∧ b < w.heap.size ∧ ∀ i, i < rows.length → w.cell? ⟨b, off + i, none⟩ = some (rv i)) ∧
    ∀ i, i < rows.length → BoolX w P (rv i) (rows.getD i [])
theorem RwX.frame {w w' : World} {P P' : Nat → Prop} {v : Value} {l : List (List Bool)} (h : RwX w P v l) (hs : w.heap.size ≤ w'.heap.size) (hk : ∀ b, P b → b < w.heap.size → P' b ∧ w'.heap[b]? = w.heap[b]?) : RwX w' P' v l := by
  obtain ⟨A, c, rv, e, h1, h2, h3⟩ := h
  refine ⟨A, c, rv, e, h1, fun hn => ?_, fun i hi => (h3 i hi).frame hs hk⟩
  obtain ⟨b, off, e, hp, hb, hc⟩ := h2 hn
  have k := hk b hp hb
  exact ⟨b, off, e, k.1, by omega, fun j hj => (World.cell?_of_block (w := w) (a := ⟨b, off + j, none⟩) k.2).trans (hc j hj)⟩
theorem RwX.bel {w w' : World} {P : Nat → Prop} {v : Value} {l : List (List Bool)} (h : RwX w P v l) (hb : Below w.heap.size w w') : RwX w' P v l := h.frame hb.size fun b hp hl => ⟨hp, hb.block b hl⟩
theorem RwX.onl {S : Nat → Prop} {w w' : World} {P : Nat → Prop} {v : Value} {l : List (List Bool)} (h : RwX w P v l) (hb : Onl S w w') (hP : ∀ b, P b → ¬ S b) : RwX w' P v l := h.frame hb.size fun b hp hl => ⟨hp, hb.block b hl (hP b hp)⟩
theorem RwX.slice {w : World} {P : Nat → Prop} {v : Value} {l : List (List Bool)} (h : RwX w P v l) : ∃ A c, v = .slice A l.length c ∧ l.length ≤ c := by
  obtain ⟨A, c, rv, e, h1, _⟩ := h
  exact ⟨A, c, e, h1⟩
theorem RwX.at_ {w : World} {P : Nat → Prop} {A : Option Addr} {n c : Nat} {l : List (List Bool)} (h : RwX w P (.slice A n c) l) {i : Nat} (hi : i < l.length) :
    ∃ b off rv, A = some ⟨b, off, none⟩ ∧ P b ∧ b < w.heap.size ∧ n = l.length ∧ w.cell? ⟨b, off + i, none⟩ = some rv ∧ BoolX w P rv (l.getD i []) := by
  obtain ⟨A', c', rv, e, h1, h2, h3⟩ := h
  injection e with e1 e2 e3
  subst e1 e2
  obtain ⟨b, off, e, hp, hb, hc⟩ := h2 (by omega)
  exact ⟨b, off, rv i, e, hp, hb, rfl, hc i hi, h3 i hi⟩
theorem BRow.toX {w : World} {base m : Nat} {v : Value} {rb : List Nat} {rows : List (List Bool)} (h : BRow w base v rb m rows) (hm : ∀ i, i < rows.length → (rows.getD i []).length = m) (hm2 : m ≤ 4194304) : RwX w (fun b => base ≤ b) v rows := by
  obtain ⟨A, c, rfl, hc⟩ := h.slice
  refine ⟨A, c, fun i => .slice (some ⟨rb.getD i 0, 0, none⟩) m m, rfl, hc, fun hn => ?_, fun i hi => ?_⟩
  · obtain ⟨g, c', e, hb, hlt, -, hcell, -⟩ := h.form hn
    injection e with e1 _ e2
    subst e1 e2
    exact ⟨g, 0, rfl, hb, hlt, fun i hi => by rw [Nat.zero_add]; exact hcell i hi⟩
  · have hr := h.row i hi
    have := RowB.toX (P := fun b => base ≤ b) (c := m) hr.1 hr.2 (by rw [hm i hi]; exact hm2) (by rw [hm i hi]; exact Nat.le_refl _)
    rw [hm i hi] at this
    exact this

/-- rows that a call owns, in whatever slices -/
structure ORw (w : World) (base : Nat) (v : Value) (vs : List Value) (rows : List (List Bool)) : Prop where
  own : w.ownsRow base 59 1 v rows.length vs
  len : vs.length = rows.length
  row : ∀ i, i < rows.length → OBools w base (vs.getD i (.slice none 0 0)) (rows.getD i [])
theorem ORw.empty (w : World) (base : Nat) (hb : base ≤ w.heap.size) : ORw (w.alloc (.cells #[] 59)) base (.slice (some ⟨w.heap.size, 0, none⟩) 0 0) [] [] :=
  ⟨World.ownsRow_lit (base := base) (e := 59) (size := 1) w #[] 0 hb (by simp [maxLen]) rfl, rfl, fun i h => by simp at h⟩
theorem ORw.slice {w : World} {base : Nat} {v : Value} {vs : List Value} {l : List (List Bool)} (h : ORw w base v vs l) : ∃ A c, v = .slice A l.length c ∧ l.length ≤ c := by
  rcases h.own.2 with ⟨rfl, h0⟩ | ⟨g, cap, cur, rfl, _, _, hc, _⟩
  · exact ⟨none, 0, by rw [h0], by omega⟩
  · exact ⟨_, cap, rfl, hc⟩
theorem ORw.bel {w w' : World} {base : Nat} {v : Value} {vs : List Value} {l : List (List Bool)} (h : ORw w base v vs l) (hb : Below w.heap.size w w') : ORw w' base v vs l :=
  ⟨h.own.kept (grown_bel hb (Nat.le_refl _) none) (by cases v.ownBlock <;> simp), h.len, fun i hi => (h.row i hi).bel hb⟩
theorem ORw.at_ {w : World} {base : Nat} {A : Option Addr} {n c : Nat} {vs : List Value} {l : List (List Bool)} (h : ORw w base (.slice A n c) vs l) {k : Nat} (hk : k < l.length) :
    ∃ g, A = some ⟨g, 0, none⟩ ∧ base ≤ g ∧ g < w.heap.size ∧ n = l.length ∧ w.cell? ⟨g, k, none⟩ = some (vs.getD k (.slice none 0 0)) ∧ w.frozen? ⟨g, k, none⟩ = false := by
  obtain ⟨A', c', e, _⟩ := h.slice
  injection e with _ e2 _
  subst e2
  obtain ⟨g, cap, e, hb, hlt⟩ := World.ownsRow.form h.own (by omega)
  injection e with e1 _ e3
  subst e1 e3
  refine ⟨g, rfl, hb, hlt, rfl, ?_, h.own.frozenAt k⟩
  have hkl : k < vs.length := by rw [h.len]; exact hk
  rw [h.own.cellAt k (by omega), List.getElem?_eq_getElem hkl, getD_lt hkl]
theorem ORw.set {w : World} {base g n c k : Nat} {vs : List Value} {l : List (List Bool)} {x : Value} {r : List Bool} (h : ORw w base (.slice (some ⟨g, 0, none⟩) n c) vs l) (hk : k < l.length) (hx : OBools w base x r) : ORw (w.setCell ⟨g, k, none⟩ x) base (.slice (some ⟨g, 0, none⟩) n c) (vs.set k x) (l.set k r) := by
  have hn : n = l.length := by
    obtain ⟨A, c', e, _⟩ := h.slice
    injection e
  subst hn
  have h1 := World.ownsRow.stored h.own k x
  have hev := Evo.grown (T := 59) h.own h1.2
  have hkeep : ∀ {v : Value} {r : List Bool}, OBools w base v r → OBools (w.setCell ⟨g, k, none⟩ x) base v r := fun hv => hev.own hv (by decide)
  refine ⟨by rw [List.length_set]; exact h1.1, by rw [List.length_set, List.length_set, h.len], fun i hi => ?_⟩
  rw [List.length_set] at hi
  rw [getD_setT (by rw [h.len]; exact hk), getD_setT hk]
  by_cases e : i = k
  · rw [if_pos e, if_pos e]; exact hkeep hx
  · rw [if_neg e, if_neg e]; exact hkeep (h.row i hi)
theorem ORw.toX {w : World} {base : Nat} {v : Value} {vs : List Value} {rows : List (List Bool)} (h : ORw w base v vs rows) (hl : ∀ i, i < rows.length → (rows.getD i []).length ≤ 4194304) : RwX w (fun b => base ≤ b) v rows := by
  obtain ⟨A, c, rfl, hc⟩ := h.slice
  refine ⟨A, c, fun i => vs.getD i (.slice none 0 0), rfl, hc, fun hn => ?_, fun i hi => (h.row i hi).toX (hl i hi)⟩
  obtain ⟨g, e, hb, hlt, -⟩ := h.at_ hn
  subst e
  refine ⟨g, 0, rfl, hb, hlt, fun i hi => ?_⟩
  obtain ⟨g', e, -, -, -, hcell, -⟩ := h.at_ hi
  injection e with e
  injection e with e
  subst e
  rw [Nat.zero_add]; exact hcell
end Go.Proofs.Ytfioaohadanjmaa
