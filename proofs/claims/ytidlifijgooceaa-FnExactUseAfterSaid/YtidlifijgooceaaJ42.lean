import Derived.Test.YtidlifijgooceaaJ41
import Derived.Test.YtidlifijgooceaaJ17
import Derived.Deep.RegionLaw
import Derived.Test.YtidlifijgooceaaJ31
set_option linter.unusedVariables false

/- append laws as steps of a region that draws; spec.l4Start, l4Copy. -/
namespace Go.Proofs.Ytidlifijgooceaa
open Go.RowKit

theorem step_append_own_at {P : Program} {ops : Array Oper} {o : Oper} {a : Act} {K : Act → World → Prop} {Q : Exit → Act → World → Prop} {E : Prop} {w : World} (hgd : o.guard = none) (s x : Operand) (t : TypeId)
    (ho : o.op = .call { callee := .builtin .append, args := #[s, x], argTypes := #[t, t] })
    (base : Nat) (e : TypeId) (i : TypeInfo) (z : Value) (size bytes : Nat) (ht : P.underlying t = some (.slice e)) (hi : P.info? e = some i) (hz : i.zero = some z)
    (hsize : i.size = size) (hby : i.bytes = bytes) (hzs : z.cells.size = size) (hsz : 0 < size)
    (v : Value) (n : Nat) (xs : List Value) (hs : a.eval s = v) (hown : w.ownsRow base e size v n xs)
    (ad : Addr) (m c : Nat) (news : List Value) (hx : a.eval x = .slice (some ad) m c) (hl : news.length = m * size) (hnews : ∀ j u, news[j]? = some u → w.cell? (ad.add j) = some u) (h1 : ∀ u ∈ news, u.oneCell' = true)
    (h63 : n + m ≤ maxLen) (hbytes : (n + m) * bytes ≤ 140737488355328) (hbase : base ≤ w.heap.size)
    (h : ∀ v' w', w'.ownsRow base e size v' (n + m) (xs ++ news) → w.grownBy w' v.ownBlock → (v' = .slice none 0 0 ↔ v = .slice none 0 0 ∧ m = 0) → (v'.ownBlock = v.ownBlock ∨ v'.ownBlock = some w.heap.size) → K (a.put o.dst v') w') :
    if Region.wanted o (yielded ops a.tmps) = true then Oper.wp P o a w K Q else E := by
  have hw : Region.wanted o (yielded ops a.tmps) = true := by simp [Region.wanted, hgd]
  rw [if_pos hw]
  obtain ⟨v', w', hr, h2, h3, h4, h5⟩ := run_append_own_at (P := P) w base t o.type e i z size bytes ht hi hz hsize hby hzs hsz v n xs hown ad m c news hl hnews h1 h63 hbytes hbase
  unfold Oper.wp execOp
  simp only [ho, resolve, invoke, builtin, Sem.run_bind, Sem.run_pure, Result.andThen_ok, List.map_toArray, List.map_cons, List.map_nil, hs, hx, hr]
  exact h _ _ h2 h3 h4 h5
theorem step_push_row {ops : Array Oper} {o : Oper} {a : Act} {K : Act → World → Prop} {E : Prop} {Q : Exit → Act → World → Prop} {W : World} {base m g bx : Nat} {vo : Value} {rb : List Nat} {rows : List (List Bool)} (hgd : o.guard = none) (s x : Operand)
    (ho : o.op = .call { callee := .builtin .append, args := #[s, x], argTypes := #[89, 89] })
    (hP2 : BRow W base vo rb m rows) (hb : base ≤ W.heap.size) (hn : rows.length + 1 ≤ 100000) (row : List Bool) (hr1 : RowB W g 4 (bv row)) (hbg : base ≤ g) (hne : ∀ i, i < rows.length → rb.getD i 0 ≠ g)
    (hs : a.eval s = vo) (hx : a.eval x = .slice (some ⟨bx, 0, none⟩) 1 1) (hr2 : W.cell? ⟨bx, 0, none⟩ = some (.slice (some ⟨g, 0, none⟩) m m))
    (h : ∀ v' w', BRow w' base v' (rb ++ [g]) m (rows ++ [row]) → Below base W w' → K (a.put o.dst v') w') :
    if Region.wanted o (yielded ops a.tmps) = true then Oper.wp Try.prog o a W K Q else E := by
  obtain ⟨i0, hi0, hz0, hz1, hz2⟩ := info_parts Try.infoBs
  refine step_append_own_at hgd s x 89 ho base 88 i0 _ 1 24 Try.underlying89 hi0 hz0 hz1 hz2 rfl (by omega) vo rows.length _ hs hP2.own ⟨bx, 0, none⟩ 1 1 [.slice (some ⟨g, 0, none⟩) m m] hx rfl ?_ ?_ (by simp only [maxLen]; omega) (by omega) (by omega) ?_
  · intro j u hu
    have hj : j = 0 := by
      rcases Nat.eq_zero_or_pos j with h | h
      · exact h
      · rw [List.getElem?_eq_none (by simp; omega)] at hu; cases hu
    subst hj
    have : W.cell? ⟨bx, 0, none⟩ = some u := by
      rw [hr2]; simpa using hu
    simpa [Addr.add] using this
  · intro u hu
    simp at hu
    subst hu; rfl
  · intro v' w' k1 k2 k3 k4
    have hownT : ∀ (b : Nat) (T : TypeId) (cs : Array Value), W.heap[b]? = some (Obj.cells cs T (0, 0)) → T ≠ 88 → w'.heap[b]? = some (Obj.cells cs T (0, 0)) := by
      intro b T cs hr hT
      refine (k2.block b ?_ fun e => ?_).trans hr
      · rcases Nat.lt_or_ge b W.heap.size with h' | h'
        · exact h'
        · rw [Array.getElem?_eq_none h'] at hr; cases hr
      · rcases hP2.own.2 with ⟨rfl, _⟩ | ⟨g, cap, cur, rfl, _, hh, _⟩
        · cases e
        · injection e with e
          have e' : b = g := e
          subst e'
          rw [hr] at hh
          injection hh with hh
          injection hh with _ hT'
          exact hT hT'
    have hgl : ∀ i, i < (rows ++ [row]).length → (rb ++ [g]).getD i 0 = if i < rows.length then rb.getD i 0 else g := by
      intro i hi
      by_cases h : i < rows.length
      · rw [if_pos h, getD_lt (by rw [List.length_append, hP2.len]; omega), getD_lt (by rw [hP2.len]; exact h), List.getElem_append_left]
      · have hi' : i = rows.length := by simp at hi; omega
        rw [if_neg h, getD_lt (by simp [hP2.len, hi'])]
        rw [List.getElem_append_right (by rw [hP2.len]; omega)]; simp
    refine h v' w' ⟨?_, by simp [hP2.len], fun i hi => ?_, fun i j hi hj he => ?_⟩ ?_
    · rw [List.map_append, List.length_append]; exact k1
    · rw [hgl i hi]
      by_cases hil : i < rows.length
      · rw [if_pos hil, getD_lt hi, List.getElem_append_left hil]
        refine ⟨?_, (hP2.row i hil).2⟩
        have := hownT _ _ _ (hP2.row i hil).1 (by decide)
        rw [getD_lt hil] at this
        exact this
      · have hi' : i = rows.length := by simp at hi; omega
        rw [if_neg hil, getD_lt hi, List.getElem_append_right (by omega)]
        refine ⟨?_, hbg⟩
        have e := hownT _ _ _ hr1 (by decide)
        simpa [RowB] using e
    · rw [hgl i hi, hgl j hj] at he
      simp at hi hj
      split at he <;> split at he
      · exact hP2.inj i j (by assumption) (by assumption) he
      · exact absurd he (hne i (by assumption))
      · exact absurd he.symm (hne j (by assumption))
      · omega
    · refine (Below.refl base W).trans ⟨k2.os, k2.tape, k2.output, k2.size, fun k hk => k2.block k (by omega) fun e => ?_⟩
      have := (hP2.own.lt k e.symm).1
      omega
theorem step_push_orw {ops : Array Oper} {o : Oper} {a : Act} {K : Act → World → Prop} {E : Prop} {Q : Exit → Act → World → Prop} {W : World} {base bx : Nat} {vo : Value} {vs : List Value} {rows : List (List Bool)} (hgd : o.guard = none) (s x : Operand)
    (ho : o.op = .call { callee := .builtin .append, args := #[s, x], argTypes := #[89, 89] })
    (hP : ORw W base vo vs rows) (hb : base ≤ W.heap.size) (hn : rows.length + 1 ≤ 100000) (xv : Value) (r : List Bool) (hr : OBools W base xv r)
    (hs : a.eval s = vo) (hx : a.eval x = .slice (some ⟨bx, 0, none⟩) 1 1) (hr2 : W.cell? ⟨bx, 0, none⟩ = some xv)
    (h : ∀ v' w', ORw w' base v' (vs ++ [xv]) (rows ++ [r]) → Below base W w' → K (a.put o.dst v') w') :
    if Region.wanted o (yielded ops a.tmps) = true then Oper.wp Try.prog o a W K Q else E := by
  obtain ⟨i0, hi0, hz0, hz1, hz2⟩ := info_parts Try.infoBs
  have hown := hP.own
  have hx1 : xv.oneCell' = true := by obtain ⟨A, c, rfl, _⟩ := hr.slice; rfl
  refine step_append_own_at hgd s x 89 ho base 88 i0 _ 1 24 Try.underlying89 hi0 hz0 hz1 hz2 rfl (by omega) vo rows.length _ hs hown ⟨bx, 0, none⟩ 1 1 [xv] hx rfl ?_ ?_ (by simp only [maxLen]; omega) (by omega) hb ?_
  · intro j u hu
    have hj : j = 0 := by
      rcases Nat.eq_zero_or_pos j with h | h
      · exact h
      · rw [List.getElem?_eq_none (by simp; omega)] at hu; cases hu
    subst hj
    have : W.cell? ⟨bx, 0, none⟩ = some u := by
      rw [hr2]; simpa using hu
    simpa [Addr.add] using this
  · intro u hu
    simp at hu
    subst hu; exact hx1
  · intro v' w' k1 k2 k3 k4
    have hev := Evo.grown (T := 88) hown k2
    have hkeep : ∀ {v : Value} {r : List Bool}, OBools W base v r → OBools w' base v r := fun hv => hev.own hv (by decide)
    refine h v' w' ⟨by rw [List.length_append]; exact k1, by simp [hP.len], fun i hi => ?_⟩ (hev.below hb)
    by_cases hil : i < rows.length
    · have e1 : (vs ++ [xv]).getD i (.slice none 0 0) = vs.getD i (.slice none 0 0) := by
        rw [getD_lt (by simp [hP.len]; omega), List.getElem_append_left (by rw [hP.len]; exact hil), getD_lt (by rw [hP.len]; exact hil)]
      have e2 : (rows ++ [r]).getD i [] = rows.getD i [] := by
        rw [getD_lt hi, List.getElem_append_left hil, getD_lt hil]
      rw [e1, e2]
      exact hkeep (hP.row i hil)
    · have hie : i = rows.length := by simp at hi; omega
      subst hie
      have e1 : (vs ++ [xv]).getD rows.length (.slice none 0 0) = xv := by rw [← hP.len]; simp [List.getD]
      have e2 : (rows ++ [r]).getD rows.length [] = r := by simp [List.getD]
      rw [e1, e2]
      exact hkeep hr
theorem step_app_bools {ops : Array Oper} {o : Oper} {a : Act} {K : Act → World → Prop} {Q : Exit → Act → World → Prop} {E : Prop} {w : World} (hgd : o.guard = none) (s x : Operand)
    (ho : o.op = .call { callee := .builtin .append, args := #[s, x], argTypes := #[88, 88] })
    (base : Nat) (v : Value) (l : List Bool) (hs : a.eval s = v) (hP : OBools w base v l) (B : Nat) (vs : Value) (ts : List Bool) (hx : a.eval x = vs) (hr : BoolS w B vs ts) (hb : base ≤ w.heap.size) (hn : l.length + ts.length ≤ 8388608)
    (h : ∀ v' w', OBools w' base v' (l ++ ts) → Below base w w' → K (a.put o.dst v') w') : if Region.wanted o (yielded ops a.tmps) = true then Oper.wp Try.prog o a w K Q else E := by
  have hw : Region.wanted o (yielded ops a.tmps) = true := by simp [Region.wanted, hgd]
  rw [if_pos hw]
  obtain ⟨v', w', hrun, h2, h3, _⟩ := run_app_bools w base o.type v l hP B vs ts hr hb hn
  unfold Oper.wp execOp
  simp only [ho, resolve, invoke, builtin, Sem.run_bind, Sem.run_pure, Result.andThen_ok, List.map_toArray, List.map_cons, List.map_nil, hs, hx, hrun]
  exact h v' w' h2 ((Evo.grown (T := 4) hP h3).below hb)

theorem BRow.setLow {w : World} {base m : Nat} {v : Value} {rb : List Nat} {rows : List (List Bool)} {g : Nat} (h : BRow w base v rb m rows) (hg : g < base) (i : Nat) (u : Value) : BRow (w.setCell ⟨g, i, none⟩ u) base v rb m rows :=
  h.onl (Onl.set (S := fun b => b = g) w rfl i u) (fun k hk e => by have := (World.ownsRow.lt h.own k hk).1; omega) (fun i hi e => by have := (h.row i hi).2; omega)
theorem BRow.nil (w : World) (base m : Nat) : BRow w base (.slice none 0 0) [] m [] := ⟨World.ownsRow_nil _ _ _ _, rfl, fun i h => by simp at h, fun i j h => by simp at h⟩
/-- what l4Start answers: rows and a row, all no -/
def StaRet (w : World) (n s : Nat) (e : Ending) (w' : World) : Prop :=
  ∃ v rb, e = .returned (.agg #[v, .slice (some ⟨w.heap.size + 1, 0, none⟩) s s]) ∧ BRow w' (w.heap.size + 3) v rb s (List.replicate n (List.replicate s false)) ∧ RowB w' (w.heap.size + 1) 4 (bv (List.replicate s false)) ∧ Below w.heap.size w w'
set_option maxHeartbeats 2000000 in
set_option maxRecDepth 100000 in
theorem l4Start_any (n s : Nat) (hn : n ≤ 6) (hs : s ≤ 100) (w : World) :
    Calls Try.prog 134 #[.int .i64 (n : Nat), .int .i64 (s : Nat)] w (StaRet w n s) := by
  have hmk := make_bools s (by omega)
  have HMK := Lib.hid hmk
  go_enter Try.func134, Try.ntmps134
  go_wp2_with (at_builtin; fail)
  have HRS : Hid (∀ k, List.replicate (k + 1) (List.replicate s false) = List.replicate k (List.replicate s false) ++ [List.replicate s false]) := Lib.hid fun k => by simp [List.replicate_succ']
  generalize hrz : List.replicate s false = rz at *
  have HRZ := Lib.hid hrz
  clear hrz
  have HW : Hid ((((w.alloc (.cells #[.slice none 0 0, .slice none 0 0] 102)).alloc (.cells (bv rz).toArray 4)).alloc (.cells #[.slice none 0 0, .slice (some ⟨w.heap.size + 1, 0, none⟩) s s] 102)).heap.size = w.heap.size + 3) := Lib.hid (by simp)
  have HB0 : Hid (Below w.heap.size w (((w.alloc (.cells #[.slice none 0 0, .slice none 0 0] 102)).alloc (.cells (bv rz).toArray 4)).alloc (.cells #[.slice none 0 0, .slice (some ⟨w.heap.size + 1, 0, none⟩) s s] 102))) := Lib.hid (((bel_a w _).alloc (by simp) _).alloc (by simp <;> omega) _)
  have HR0 : Hid ((((w.alloc (.cells #[.slice none 0 0, .slice none 0 0] 102)).alloc (.cells (bv rz).toArray 4)).alloc (.cells #[.slice none 0 0, .slice (some ⟨w.heap.size + 1, 0, none⟩) s s] 102)).heap[w.heap.size]? = some (.cells #[.slice none 0 0, .slice none 0 0] 102 (0, 0))) := Lib.hid (row_below (row_below (heap_alloc_new w _) (bel_a _ _)) (bel_a _ _))
  have HR1 : Hid (RowB (((w.alloc (.cells #[.slice none 0 0, .slice none 0 0] 102)).alloc (.cells (bv rz).toArray 4)).alloc (.cells #[.slice none 0 0, .slice (some ⟨w.heap.size + 1, 0, none⟩) s s] 102)) (w.heap.size + 1) 4 (bv rz)) := Lib.hid (by
    have h := (RowB.new (w.alloc (.cells #[.slice none 0 0, .slice none 0 0] 102)) (bv rz) 4).alloc (.cells #[.slice none 0 0, .slice (some ⟨w.heap.size + 1, 0, none⟩) s s] 102)
    rw [show (w.alloc (.cells #[.slice none 0 0, .slice none 0 0] 102)).heap.size = w.heap.size + 1 by simp] at h
    exact h)
  have HR2 : Hid ((((w.alloc (.cells #[.slice none 0 0, .slice none 0 0] 102)).alloc (.cells (bv rz).toArray 4)).alloc (.cells #[.slice none 0 0, .slice (some ⟨w.heap.size + 1, 0, none⟩) s s] 102)).heap[w.heap.size + 2]? = some (.cells #[.slice none 0 0, .slice (some ⟨w.heap.size + 1, 0, none⟩) s s] 102 (0, 0))) := Lib.hid (by
    have h := heap_alloc_new ((w.alloc (.cells #[.slice none 0 0, .slice none 0 0] 102)).alloc (.cells (bv rz).toArray 4)) (.cells #[.slice none 0 0, .slice (some ⟨w.heap.size + 1, 0, none⟩) s s] 102)
    rw [show ((w.alloc (.cells #[.slice none 0 0, .slice none 0 0] 102)).alloc (.cells (bv rz).toArray 4)).heap.size = w.heap.size + 2 by simp] at h
    exact h)
  change Code.wp _ _ _ _ (((w.alloc (.cells #[.slice none 0 0, .slice none 0 0] 102)).alloc (.cells (bv rz).toArray 4)).alloc (.cells #[.slice none 0 0, .slice (some ⟨w.heap.size + 1, 0, none⟩) s s] 102))
  generalize (((w.alloc (.cells #[.slice none 0 0, .slice none 0 0] 102)).alloc (.cells (bv rz).toArray 4)).alloc (.cells #[.slice none 0 0, .slice (some ⟨w.heap.size + 1, 0, none⟩) s s] 102)) = w0 at *
  go_loopw [6] (fun i wr => ∃ (k : Nat) (v : Value) (rb : List Nat), k ≤ n ∧ i = .int .i64 k ∧ BRow wr (w.heap.size + 3) v rb s (List.replicate k rz) ∧ wr.heap[w.heap.size + 2]? = some (.cells #[v, .slice (some ⟨w.heap.size + 1, 0, none⟩) s s] 102 (0, 0)) ∧ RowB wr (w.heap.size + 1) 4 (bv rz) ∧ wr.heap[w.heap.size]? = some (.cells #[.slice none 0 0, .slice none 0 0] 102 (0, 0)) ∧ Below w.heap.size w wr ∧ w.heap.size + 3 ≤ wr.heap.size) (fun i _ => n - (intOf i).toNat)
  case atStart => exact ⟨0, .slice none 0 0, [], Nat.zero_le _, rfl, BRow.nil _ _ _, HR2.out, HR1.out, HR0.out, HB0.out, by have := HW.out; omega⟩
  case round =>
    obtain ⟨k, v, rb, hk, rfl, hbr, hr2, hr1, hr0, hbw, hsz⟩ := hrel
    have HBR := Lib.hid hbr
    have HX2 := Lib.hid hr2
    have HX1 := Lib.hid hr1
    have HX0 := Lib.hid hr0
    have HBW := Lib.hid hbw
    obtain ⟨A, c, rfl, hc⟩ := hbr.slice
    rw [List.length_replicate] at hc
    have hlen : (List.replicate k rz).length = k := by simp
    rw [hlen] at HX2
    have c0 : wr.cell? ⟨w.heap.size + 2, 0, none⟩ = some (.slice A k c) := by rw [cell_of_row _ _ _ _ _ _ HX2.out]; rfl
    have c1 : wr.cell? ⟨w.heap.size + 2, 1, none⟩ = some (.slice (some ⟨w.heap.size + 1, 0, none⟩) s s) := by rw [cell_of_row _ _ _ _ _ _ HX2.out]; rfl
    have f0 := frozen_of_row wr (w.heap.size + 2) 0 _ _ HX2.out
    rw [hlen] at HBR
    clear hbr hr2 hr1 hr0 hbw hlen
    by_cases hlt : k < n
    · have hmk := HMK.out
      have c0a : ∀ o, (wr.alloc o).cell? ⟨w.heap.size + 2, 0, none⟩ = some (.slice A k c) := fun o => by rw [cell_of_row _ _ _ _ _ _ (row_below HX2.out (bel_a wr o))]; rfl
      have c0b : ∀ o o', ((wr.alloc o).alloc o').cell? ⟨w.heap.size + 2, 0, none⟩ = some (.slice A k c) := fun o o' => by rw [cell_of_row _ _ _ _ _ _ (row_below (row_below HX2.out (bel_a wr o)) (bel_a _ o'))]; rfl
      go_wp2_with (at_builtin; fail)
      have hbx := ((bel_a wr (.cells (bv rz).toArray 4)).alloc (by simp) (.cells #[.slice (some ⟨wr.heap.size, 0, none⟩) s s] 88)).drew
      have HBX := Lib.hid hbx
      have HRX : Hid (RowB ((wr.alloc (.cells (bv rz).toArray 4)).alloc (.cells #[.slice (some ⟨wr.heap.size, 0, none⟩) s s] 88)).drew wr.heap.size 4 (bv rz)) := Lib.hid ((RowB.new wr (bv rz) 4).alloc _)
      have HCX : Hid (((wr.alloc (.cells (bv rz).toArray 4)).alloc (.cells #[.slice (some ⟨wr.heap.size, 0, none⟩) s s] 88)).drew.cell? ⟨wr.heap.size + 1, 0, none⟩ = some (.slice (some ⟨wr.heap.size, 0, none⟩) s s)) := Lib.hid (by
        have h := heap_alloc_new (wr.alloc (.cells (bv rz).toArray 4)) (.cells #[.slice (some ⟨wr.heap.size, 0, none⟩) s s] 88)
        rw [show (wr.alloc (.cells (bv rz).toArray 4)).heap.size = wr.heap.size + 1 by simp] at h
        exact cell_of_row _ _ _ _ _ _ h)
      have HPX := Lib.hid (HBR.out.low hbx)
      have HNE : Hid (∀ i, i < (List.replicate k rz).length → rb.getD i 0 ≠ wr.heap.size) := Lib.hid fun i hi e => by
        have := (HBR.out.row i hi).1.lt; omega
      have HKL : Hid ((List.replicate k rz).length = k) := Lib.hid (by simp)
      have HNX := Lib.hid (HRS.out k)
      clear hbx
      have hbd : wr.heap.size + 2 ≤ ((wr.alloc (.cells (bv rz).toArray 4)).alloc (.cells #[.slice (some ⟨wr.heap.size, 0, none⟩) s s] 88)).drew.heap.size := by simp
      generalize List.replicate k rz = rs at *
      go_region_law (first
        | (refine step_push_row (by rfl) (.tmp 16) (.tmp 19) (by rfl) HPX.out (by omega) (by have := HKL.out; omega) rz HRX.out (by omega) HNE.out (by simp [Act.eval]) (by simp [Act.eval]) HCX.out ?_; intro v' w' hP' hE'; (have HB' := Lib.hid ((HBX.out.mono (by omega)).trans hE')); (have HX2' := Lib.hid ((HB'.out.block _ (by omega)).trans HX2.out)); (have c0' : w'.cell? ⟨w.heap.size + 2, 0, none⟩ = some (.slice A k c) := by (rw [cell_of_row _ _ _ _ _ _ HX2'.out]; rfl)); (have f0' := frozen_of_row w' (w.heap.size + 2) 0 _ _ HX2'.out); (have HP' := Lib.hid hP'); (obtain ⟨A', c', rfl, hc'⟩ := hP'.slice); clear hP' hE')
        | fail)
      all_goals
        go_wp2_with (at_builtin; fail)
        rw [← HNX.out] at HP'
        have HL' : Hid ((List.replicate (k + 1) rz).length = rs.length + 1) := Lib.hid (by rw [HNX.out, List.length_append]; rfl)
        exact ⟨⟨k + 1, _, _, by omega, by go_num, HP'.out.setLow (by omega) 0 _, (heap_setCell_same w' (w.heap.size + 2) 0 _ _ _ HX2'.out).trans (by simp [HKL.out]), (HX1.out.low HB'.out (by omega)).other (by omega) 0 _, (heap_setCell_other w' ⟨w.heap.size + 2, 0, none⟩ w.heap.size _ (by show w.heap.size ≠ w.heap.size + 2; omega)).trans ((HB'.out.block _ (by omega)).trans HX0.out), (HBW.out.trans (HB'.out.mono (by omega))).setCell (p := ⟨w.heap.size + 2, 0, none⟩) (by show w.heap.size ≤ w.heap.size + 2; omega) _, by rw [size_set]; have := HB'.out.size; omega⟩, by simp [intOf] <;> omega⟩
    · have hkn : k = n := by omega
      have HBN : Hid (BRow wr (w.heap.size + 3) (.slice A k c) rb s (List.replicate n rz)) := Lib.hid (by rw [← hkn]; exact HBR.out)
      have q0 : wr.cell? ⟨w.heap.size, 0, none⟩ = some (.slice none 0 0) := by rw [cell_of_row _ _ _ _ _ _ HX0.out]; rfl
      have q1 : wr.cell? ⟨w.heap.size, 1, none⟩ = some (.slice none 0 0) := by rw [cell_of_row _ _ _ _ _ _ HX0.out]; rfl
      have fr0 := frozen_of_row wr w.heap.size 0 _ _ HX0.out
      have fr1 := frozen_of_row wr w.heap.size 1 _ _ HX0.out
      clear hkn f0
      go_wp2_with (at_builtin; fail)
      have HS2 := Lib.hid (box2 HX0.out (.slice A k c) (.slice (some ⟨w.heap.size + 1, 0, none⟩) s s))
      refine bodyPost_ret (results_cell_row rfl _ _ w.heap.size 102 _ (0, 0) _ rfl HS2.out.1 Try.underlying102 rfl rfl) rfl ⟨.slice A k c, rb, rfl, ?_, ?_, ?_⟩
      · rw [HRZ.out]; exact (HBN.out.setLow (g := w.heap.size) (by omega) 0 _).setLow (g := w.heap.size) (by omega) 1 _
      · rw [HRZ.out]; exact (HX1.out.other (g' := w.heap.size) (by omega) 0 _).other (g' := w.heap.size) (by omega) 1 _
      · exact HBW.out.trans ((grown_below HS2.out.2 (show w.heap.size < _ by omega)))

theorem Onl.ofBelow {w w' : World} {B : Nat} (h : Below B w w') : Onl (fun b => B ≤ b) w w' := ⟨h.os, h.tape, h.output, h.size, fun k _ hn => h.block k (by have : ¬ B ≤ k := hn; omega)⟩
theorem OBools.keep {w w' : World} {lo B : Nat} {v : Value} {l : List Bool} (h : OBools w lo v l) (hn : ∀ g, v.ownBlock = some g → g < B) (hb : Below B w w') : OBools w' lo v l :=
  own_onl h (Onl.ofBelow hb) fun g hg e => by have e' : B ≤ g := e; have := hn g hg; omega
theorem takeAll_ORw {w : World} {base k : Nat} {v : Value} {vs : List Value} {F : List (List Bool)} (h : ORw w base v vs (F.take k)) (e : k = F.length) : ORw w base v vs F := by
  rwa [e, List.take_length] at h
theorem ORw.nil (w : World) (base : Nat) : ORw w base (.slice none 0 0) [] [] := ⟨World.ownsRow_nil _ _ _ _, rfl, fun i h => by simp at h⟩
theorem OBools.own_lt {w : World} {base : Nat} {v : Value} {l : List Bool} (h : OBools w base v l) {g : Nat} (e : v.ownBlock = some g) : base ≤ g ∧ g < w.heap.size := World.ownsRow.lt h g e
theorem OBools.setLow {w : World} {base : Nat} {v : Value} {l : List Bool} {g : Nat} (h : OBools w base v l) (hg : ∀ k, v.ownBlock = some k → k ≠ g) (i : Nat) (u : Value) : OBools (w.setCell ⟨g, i, none⟩ u) base v l :=
  own_onl h (Onl.set (S := fun b => b = g) w rfl i u) hg
theorem ORw.setLow {w : World} {base : Nat} {v : Value} {vs : List Value} {l : List (List Bool)} {g : Nat} (h : ORw w base v vs l) (hg : g < base) (i : Nat) (u : Value) : ORw (w.setCell ⟨g, i, none⟩ u) base v vs l :=
  ⟨own_onl h.own (Onl.set (S := fun b => b = g) w rfl i u) (fun k hk e => by have := (World.ownsRow.lt h.own k hk).1; omega), h.len, fun j hj => (h.row j hj).setLow (fun k hk e => by have := ((h.row j hj).own_lt hk).1; omega) i u⟩
/-- a state that a call owns: rows, and a row in a block below theirs -/
structure OSta (w : World) (lo base : Nat) (vf vp : Value) (vs : List Value) (F : List (List Bool)) (P : List Bool) : Prop where
  le : lo ≤ base
  fr : ORw w base vf vs F
  pl : OBools w lo vp P
  ne : ∀ g, vp.ownBlock = some g → g < base
  sz : base ≤ w.heap.size
/-- what l4Copy answers -/
def CopRet (w : World) (F : List (List Bool)) (P : List Bool) (e : Ending) (w' : World) : Prop :=
  ∃ vf vp vs base, e = .returned (.agg #[vf, vp]) ∧ OSta w' w.heap.size base vf vp vs F P ∧ Below w.heap.size w w'
set_option maxHeartbeats 4000000 in
set_option maxRecDepth 100000 in
theorem l4Copy_any (vf vp : Value) (F : List (List Bool)) (P : List Bool) (Pf : Nat → Prop) (w : World) (hf : RwX w Pf vf F) (hp : BoolX w Pf vp P) (hF : F.length ≤ 6) (hFi : ∀ v, v < F.length → (F.getD v []).length ≤ 100) (hPl : P.length ≤ 100) :
    Calls Try.prog 159 #[.agg #[vf, vp]] w (CopRet w F P) := by
  have HF := Lib.hid hf
  have HP := Lib.hid hp
  have HFI := Lib.hid hFi
  obtain ⟨Af, cf, rfl, hcf⟩ := hf.slice
  obtain ⟨Ap, cp, rfl, hcp⟩ := hp.slice
  clear hf hp hFi
  have hb1 := (bel_a w (.cells #[.slice Af F.length cf, .slice Ap P.length cp] 102)).alloc (by simp) (.cells #[.slice none 0 0, .slice none 0 0] 102)
  have HB1 := Lib.hid hb1
  have HW1 : Hid (((w.alloc (.cells #[.slice Af F.length cf, .slice Ap P.length cp] 102)).alloc (.cells #[.slice none 0 0, .slice none 0 0] 102)).heap.size = w.heap.size + 2) := Lib.hid (by simp)
  have HR1 : Hid (((w.alloc (.cells #[.slice Af F.length cf, .slice Ap P.length cp] 102)).alloc (.cells #[.slice none 0 0, .slice none 0 0] 102)).heap[w.heap.size]? = some (.cells #[.slice Af F.length cf, .slice Ap P.length cp] 102 (0, 0))) := Lib.hid (row_below (heap_alloc_new w _) (bel_a _ _))
  have HR2 : Hid (((w.alloc (.cells #[.slice Af F.length cf, .slice Ap P.length cp] 102)).alloc (.cells #[.slice none 0 0, .slice none 0 0] 102)).heap[w.heap.size + 1]? = some (.cells #[.slice none 0 0, .slice none 0 0] 102)) := Lib.hid (by
    have h := heap_alloc_new (w.alloc (.cells #[.slice Af F.length cf, .slice Ap P.length cp] 102)) (.cells #[.slice none 0 0, .slice none 0 0] 102)
    rw [show (w.alloc (.cells #[.slice Af F.length cf, .slice Ap P.length cp] 102)).heap.size = w.heap.size + 1 by simp] at h
    exact h)
  have HE := Lib.hid (OBools.empty ((w.alloc (.cells #[.slice Af F.length cf, .slice Ap P.length cp] 102)).alloc (.cells #[.slice none 0 0, .slice none 0 0] 102)) (w.heap.size + 2) (by rw [HW1.out]; omega))
  rw [HW1.out] at HE
  have HEB := Lib.hid (bel_a ((w.alloc (.cells #[.slice Af F.length cf, .slice Ap P.length cp] 102)).alloc (.cells #[.slice none 0 0, .slice none 0 0] 102)) (.cells #[] 4))
  have HPS := Lib.hid ((HP.out.frame (P' := Pf) (HB1.out.trans (HEB.out.mono HB1.out.size)).size fun b hp hl => ⟨hp, (HB1.out.trans (HEB.out.mono HB1.out.size)).block b hl⟩).toS)
  clear hb1
  go_enter Try.func159, Try.ntmps159
  go_wp2_with (at_builtin; go_must (refine wpList_app_bools2 rfl (.tmp 5) (.tmp 7) rfl (w.heap.size + 2) _ [] rfl HE.out _ _ P rfl HPS.out (by simp) (by simp; omega) ?_); intro v' w' hP' hE'; (rw [List.nil_append] at hP'); (obtain ⟨A3, c3, rfl, hc3⟩ := hP'.slice))
  have HB2 := Lib.hid ((HB1.out.trans (HEB.out.mono HB1.out.size)).trans (hE'.mono (by omega)))
  have HE3 : Hid (Below (w.heap.size + 2) ((w.alloc (.cells #[.slice Af F.length cf, .slice Ap P.length cp] 102)).alloc (.cells #[.slice none 0 0, .slice none 0 0] 102)) w') := Lib.hid ((HEB.out.mono (by rw [HW1.out]; omega)).trans hE')
  have HR1b := Lib.hid ((HE3.out.block _ (by omega)).trans HR1.out)
  have HR2b := Lib.hid ((HE3.out.block _ (by omega)).trans HR2.out)
  have hs2 : w.heap.size + 2 ≤ w'.heap.size := by have := HE3.out.size; rw [HW1.out] at this; exact this
  have HP3 := Lib.hid (hP'.bel (bel_a w' (.cells #[.slice none 0 0, .slice A3 P.length c3] 102)))
  have HPN : Hid (∀ g, (Value.slice A3 P.length c3).ownBlock = some g → g < w'.heap.size) := Lib.hid fun g e => (hP'.own_lt e).2
  have HR1c := Lib.hid (row_below HR1b.out (bel_a w' (.cells #[.slice none 0 0, .slice A3 P.length c3] 102)))
  have HR2c := Lib.hid (row_below HR2b.out (bel_a w' (.cells #[.slice none 0 0, .slice A3 P.length c3] 102)))
  have HR3 := Lib.hid (heap_alloc_new w' (.cells #[.slice none 0 0, .slice A3 P.length c3] 102))
  have HB3 := Lib.hid (HB2.out.alloc (by omega) (.cells #[.slice none 0 0, .slice A3 P.length c3] 102))
  have hs3 : (w'.alloc (.cells #[.slice none 0 0, .slice A3 P.length c3] 102)).heap.size = w'.heap.size + 1 := by simp
  obtain ⟨t, ht⟩ : ∃ t, t = w'.heap.size := ⟨_, rfl⟩
  rw [← ht] at HR3 HPN hs3
  have HTE := Lib.hid ht
  have htl : w.heap.size + 2 ≤ t := by omega
  clear hP' hE' ht hs2 HR1b HR2b HR1 HR2 HB2 HE3
  rw [← HTE.out]
  generalize w'.alloc (.cells #[.slice none 0 0, .slice A3 P.length c3] 102) = w3 at *
  go_loopw [4] (fun i wr => ∃ (k : Nat) (v : Value) (vs : List Value), k ≤ F.length ∧ i = .int .i64 k ∧ ORw wr (t + 1) v vs (F.take k) ∧ wr.heap[t]? = some (.cells #[v, .slice A3 P.length c3] 102 (0, 0)) ∧ OBools wr (w.heap.size + 2) (.slice A3 P.length c3) P ∧ wr.heap[w.heap.size]? = some (.cells #[.slice Af F.length cf, .slice Ap P.length cp] 102 (0, 0)) ∧ wr.heap[w.heap.size + 1]? = some (.cells #[.slice none 0 0, .slice none 0 0] 102) ∧ Below w.heap.size w wr ∧ t + 1 ≤ wr.heap.size) (fun i _ => F.length - (intOf i).toNat)
  case atStart => exact ⟨0, .slice none 0 0, [], Nat.zero_le _, rfl, ORw.nil _ _, HR3.out, HP3.out, HR1c.out, HR2c.out, HB3.out, by omega⟩
  case round =>
    obtain ⟨k, v, vs, hk, rfl, hO, hr3, hpl, hr1, hr2, hbw, hsz⟩ := hrel
    have HO := Lib.hid hO
    have HX3 := Lib.hid hr3
    have HPL := Lib.hid hpl
    have HX1 := Lib.hid hr1
    have HX2 := Lib.hid hr2
    have HBW := Lib.hid hbw
    obtain ⟨A, c, rfl, hc⟩ := hO.slice
    have hlen : (F.take k).length = k := by simp; omega
    rw [hlen] at HX3 hc HO
    have c0 : wr.cell? ⟨t, 0, none⟩ = some (.slice A k c) := by rw [cell_of_row _ _ _ _ _ _ HX3.out]; rfl
    have c1 : wr.cell? ⟨t, 1, none⟩ = some (.slice A3 P.length c3) := by rw [cell_of_row _ _ _ _ _ _ HX3.out]; rfl
    have b0 : wr.cell? ⟨w.heap.size, 0, none⟩ = some (.slice Af F.length cf) := by rw [cell_of_row _ _ _ _ _ _ HX1.out]; rfl
    have b1 : wr.cell? ⟨w.heap.size, 1, none⟩ = some (.slice Ap P.length cp) := by rw [cell_of_row _ _ _ _ _ _ HX1.out]; rfl
    clear hO hr3 hpl hr1 hr2 hbw hlen
    by_cases hlt : k < F.length
    · have HFW := Lib.hid (HF.out.frame (P' := Pf) (w' := wr) HBW.out.size fun b hp hl => ⟨hp, HBW.out.block b hl⟩)
      obtain ⟨b, off, rv, rfl, -, hbl, e9, hcell, hrow⟩ := HFW.out.at_ hlt
      have HBS := Lib.hid hrow.toS
      have hlk := HFI.out k hlt
      have HTK : Hid (F.take (k + 1) = F.take k ++ [F.getD k []]) := Lib.hid (by rw [take_succ_get F k hlt, getD_lt hlt])
      generalize F.getD k [] = rk at *
      obtain ⟨Ar, cr, rfl, hcr⟩ := hrow.slice
      have hE4 := OBools.empty wr wr.heap.size (Nat.le_refl _)
      have HBE := Lib.hid ((bel_a wr (.cells #[] 4)).drew)
      have HE4 : Hid (OBools (wr.alloc (.cells #[] 4)).drew wr.heap.size (.slice (some ⟨wr.heap.size, 0, none⟩) 0 0) []) := Lib.hid hE4
      have HS4 := Lib.hid (HBS.out.low HBE.out (Nat.le_refl _))
      have c0a : ∀ o, (wr.alloc o).cell? ⟨t, 0, none⟩ = some (.slice A k c) := fun o => by rw [cell_of_row _ _ _ _ _ _ (row_below HX3.out (bel_a wr o))]; rfl
      have b0a : ∀ o, (wr.alloc o).cell? ⟨w.heap.size, 0, none⟩ = some (.slice (some ⟨b, off, none⟩) F.length cf) := fun o => by rw [cell_of_row _ _ _ _ _ _ (row_below HX1.out (bel_a wr o))]; rfl
      have hca : ∀ o, (wr.alloc o).cell? ⟨b, off + k, none⟩ = some (.slice Ar rk.length cr) := fun o => ((bel_a wr o).cell (p := ⟨b, off + k, none⟩) hbl).trans hcell
      clear hrow e9 hE4
      have tok1 : True := trivial
      go_wp2_with (at_builtin; fail)
      go_region_law (first
        | (have _t := tok1; refine step_app_bools (by rfl) (.tmp 19) (.tmp 24) (by rfl) wr.heap.size _ [] (by simp [Act.eval]) HE4.out wr.heap.size _ rk (by simp [Act.eval]) HS4.out (by simp <;> omega) (by simp <;> omega) ?_; intro v4 w4 hP4 hE4; clear tok1 _t; (rw [List.nil_append] at hP4); (have HB4 := Lib.hid (HBE.out.trans hE4)); (obtain ⟨A4, c4, rfl, hc4⟩ := hP4.slice); (have hs4 : wr.heap.size + 1 ≤ w4.heap.size := by (have := hE4.size; simpa using this)); (have HBA := Lib.hid (bel_a w4 (.cells #[.slice A4 rk.length c4] 88)));
            (have HO5 := Lib.hid ((HO.out.bel HB4.out).bel HBA.out)); (have HP5 := Lib.hid ((hP4.base (show t + 1 ≤ wr.heap.size by omega)).bel HBA.out)); (have HC5 : Hid ((w4.alloc (.cells #[.slice A4 rk.length c4] 88)).cell? ⟨w4.heap.size, 0, none⟩ = some (.slice A4 rk.length c4)) := Lib.hid (cell_of_row _ _ _ _ _ _ (heap_alloc_new w4 _))); (have HX34 := Lib.hid ((HB4.out.block t (by omega)).trans HX3.out)); (have c04 : w4.cell? ⟨t, 0, none⟩ = some (.slice A k c) := by (rw [cell_of_row _ _ _ _ _ _ HX34.out]; rfl)); (have c04a : ∀ o, (w4.alloc o).cell? ⟨t, 0, none⟩ = some (.slice A k c) := fun o => by (rw [cell_of_row _ _ _ _ _ _ (row_below HX34.out (bel_a w4 o))]; rfl)); clear hP4 hE4)
        | (refine step_push_orw (by rfl) (.tmp 18) (.tmp 26) (by rfl) HO5.out (by simp; omega) (by have := List.length_take_le k F; omega) _ rk HP5.out (by simp [Act.eval]) (by simp [Act.eval]) HC5.out ?_; intro v6 w6 hP6 hE6; (have HB6 := Lib.hid ((HBA.out.mono (show t + 1 ≤ w4.heap.size by omega)).trans hE6)); (have HX36 := Lib.hid ((HB6.out.block t (by omega)).trans HX34.out)); (have c06 : w6.cell? ⟨t, 0, none⟩ = some (.slice A k c) := by (rw [cell_of_row _ _ _ _ _ _ HX36.out]; rfl)); (have f06 := frozen_of_row w6 t 0 _ _ HX36.out); (have HP6 := Lib.hid hP6); (obtain ⟨A6, c6, rfl, hc6⟩ := hP6.slice); clear hP6 hE6)
        | fail)
      all_goals
        have HBW6 := Lib.hid ((HB4.out.mono (show t + 1 ≤ wr.heap.size by omega)).trans HB6.out)
        rw [← HTK.out] at HP6
        go_wp2_with (at_builtin; fail)
        exact ⟨⟨k + 1, _, _, by omega, by go_num, HP6.out.setLow (by omega) 0 _, (heap_setCell_same w6 t 0 _ _ _ HX36.out).trans (by simp; omega), (HPL.out.keep HPN.out (HBW6.out.mono (by omega))).setLow (fun k hk e => by have := HPN.out k hk; omega) 0 _, (heap_setCell_other w6 ⟨t, 0, none⟩ w.heap.size _ (by show w.heap.size ≠ t; omega)).trans ((HBW6.out.block _ (by omega)).trans HX1.out), (heap_setCell_other w6 ⟨t, 0, none⟩ (w.heap.size + 1) _ (by show w.heap.size + 1 ≠ t; omega)).trans ((HBW6.out.block _ (by omega)).trans HX2.out), (HBW.out.trans (HBW6.out.mono (by omega))).setCell (p := ⟨t, 0, none⟩) (by show w.heap.size ≤ t; omega) _, by rw [size_set]; have := HBW6.out.size; omega⟩, by simp [intOf] <;> omega⟩
    · have hkn : k = F.length := by omega
      have HBN : Hid (ORw wr (t + 1) (.slice A k c) vs F) := Lib.hid (takeAll_ORw HO.out hkn)
      have q0 : wr.cell? ⟨w.heap.size + 1, 0, none⟩ = some (.slice none 0 0) := by rw [cell_of_row _ _ _ _ _ _ HX2.out]; rfl
      have q1 : wr.cell? ⟨w.heap.size + 1, 1, none⟩ = some (.slice none 0 0) := by rw [cell_of_row _ _ _ _ _ _ HX2.out]; rfl
      have fr0 := frozen_of_row wr (w.heap.size + 1) 0 _ _ HX2.out
      have fr1 := frozen_of_row wr (w.heap.size + 1) 1 _ _ HX2.out
      clear hkn
      go_wp2_with (at_builtin; fail)
      have HS2 := Lib.hid (box2 HX2.out (.slice A k c) (.slice A3 P.length c3))
      refine bodyPost_ret (results_cell_row rfl _ _ (w.heap.size + 1) 102 _ (0, 0) _ rfl HS2.out.1 Try.underlying102 rfl rfl) rfl ⟨.slice A k c, .slice A3 P.length c3, vs, t + 1, rfl, ⟨by omega, ?_, ?_, ?_, by simp only [size_set]; omega⟩, ?_⟩
      · exact (HBN.out.setLow (g := w.heap.size + 1) (by omega) 0 _).setLow (g := w.heap.size + 1) (by omega) 1 _
      · refine OBools.base (base := w.heap.size + 2) ((HPL.out.setLow (g := w.heap.size + 1) (fun k hk e => ?_) 0 _).setLow (g := w.heap.size + 1) (fun k hk e => ?_) 1 _) (by omega)
        · have := (HPL.out.own_lt hk).1; omega
        · have := (HPL.out.own_lt hk).1; omega
      · exact fun g hg => by have := HPN.out g hg; omega
      · exact HBW.out.trans ((grown_below HS2.out.2 (show w.heap.size + 1 < _ by omega)).mono (by omega))

end Go.Proofs.Ytidlifijgooceaa

/- Plain: bounds of regions, and the least regions that keep them. No program in sight. -/
namespace Go.Proofs.Ytidlifijgooceaa

/-- a bound: the region of v has a loan (src < 0), or all that the region of src has (loan < 0) -/
structure Bd where
  v : Int
  loan : Int
  src : Int
def bdsPt (ts : List Int) (i : Nat) (p : Pt) : List Bd := (if lonB p then [⟨p.x, (i : Nat), -1⟩] else []) ++ (if (lonB p || p.op == 3) && isRefP (typeOfP ts p.y) then [⟨p.x, -1, p.y⟩] else [])
def bdsL (ts : List Int) (at_ : Nat) : List Pt → List Bd
  | [] => []
  | p :: r => bdsPt ts at_ p ++ bdsL ts (at_ + 1) r
theorem bdsL_mem {ts : List Int} {at_ : Nat} {L : List Pt} {b : Bd} : b ∈ bdsL ts at_ L ↔ ∃ i p, L[i]? = some p ∧ b ∈ bdsPt ts (at_ + i) p := by
  induction L generalizing at_ with
  | nil => simp [bdsL]
  | cons q r ih =>
    simp only [bdsL, List.mem_append, ih]
    constructor
    · rintro (h | ⟨i, p, hp, h⟩)
      · exact ⟨0, q, rfl, h⟩
      · exact ⟨i + 1, p, by simpa using hp, by rwa [show at_ + (i + 1) = at_ + 1 + i by omega]⟩
    · rintro ⟨i, p, hp, h⟩
      cases i with
      | zero => simp at hp; subst hp; exact .inl h
      | succ i => exact .inr ⟨i, p, by simpa using hp, by rwa [show at_ + (i + 1) = at_ + 1 + i by omega] at h⟩
theorem bdsPt_mem {ts : List Int} {i : Nat} {p : Pt} {b : Bd} : b ∈ bdsPt ts i p ↔ (lonB p = true ∧ b = ⟨p.x, (i : Nat), -1⟩) ∨ ((lonB p = true ∨ p.op = 3) ∧ isRefP (typeOfP ts p.y) = true ∧ b = ⟨p.x, -1, p.y⟩) := by
  unfold bdsPt
  rw [List.mem_append]
  refine or_congr ?_ ?_
  · by_cases h : lonB p = true
    · simp [h]
    · simp [h]
  · by_cases h : ((lonB p || p.op == 3) && isRefP (typeOfP ts p.y)) = true
    · rw [if_pos h]; simp at h; simp [h]
    · rw [if_neg h]; simp at h ⊢; intro h1 h2; exact absurd h2 (by simp [h h1])
/-- the bounds of a program's points -/
def bds (ts : List Int) (pts : List Pt) : List Bd := bdsL ts 0 pts
/-- the bounds speak of variables and loans that are there -/
structure BdOk (n m : Nat) (b : Bd) : Prop where
  v0 : 0 ≤ b.v
  v1 : b.v < n
  alt : (b.src = -1 ∧ 0 ≤ b.loan ∧ b.loan < m) ∨ (b.loan = -1 ∧ 0 ≤ b.src ∧ b.src < n)
/-- the least regions -/
inductive Rg (bs : List Bd) : Nat → Nat → Prop
  | base {v e : Nat} (h : ⟨(v : Nat), (e : Nat), -1⟩ ∈ bs) : Rg bs v e
  | step {v u e : Nat} (h : ⟨(v : Nat), -1, (u : Nat)⟩ ∈ bs) (hu : Rg bs u e) : Rg bs v e
theorem Rg.lt {bs : List Bd} {n m v e : Nat} (h : Rg bs v e) (hok : ∀ b ∈ bs, BdOk n m b) : v < n := by
  cases h with
  | base h => have := (hok _ h).v1; simpa using this
  | step h => have := (hok _ h).v1; simpa using this
theorem Rg.size {bs : List Bd} {n m v e : Nat} (h : Rg bs v e) (hok : ∀ b ∈ bs, BdOk n m b) : e < m := by
  induction h with
  | base h => rcases (hok _ h).alt with ⟨_, _, h3⟩ | ⟨h1, _, _⟩
              · simpa using h3
              · simp at h1
  | step _ _ ih => exact ih
/-- what a bound asks of sets -/
def keepB (s : Nat → Nat → Bool) (b : Bd) : Prop := if b.src < 0 then s b.v.toNat b.loan.toNat = true else ∀ e, s b.src.toNat e = true → s b.v.toNat e = true
theorem Rg.done {bs : List Bd} {n m v e : Nat} {s : Nat → Nat → Bool} (hok : ∀ b ∈ bs, BdOk n m b) (hk : ∀ b ∈ bs, keepB s b) (h : Rg bs v e) : s v e = true := by
  induction h with
  | base h => have := hk _ h; unfold keepB at this; simpa using this
  | @step v u e h _ ih =>
    have := hk _ h
    unfold keepB at this
    rw [if_neg (by simp)] at this
    simpa using this e (by simpa using ih)
/-- a bound's step stays right -/
theorem Rg.bound {bs : List Bd} {n m e : Nat} {b : Bd} {s : Nat → Nat → Bool} (hok : ∀ b ∈ bs, BdOk n m b) (hs : ∀ v e, s v e = true → Rg bs v e) (hb : b ∈ bs) (h : if b.src < 0 then e = b.loan.toNat else s b.src.toNat e = true) : Rg bs b.v.toNat e := by
  have ho := hok b hb
  have hv : ((b.v.toNat : Nat) : Int) = b.v := by have := ho.v0; omega
  rcases ho.alt with ⟨h1, h2, h3⟩ | ⟨h1, h2, h3⟩
  · rw [if_pos (by omega)] at h
    refine .base ?_
    rw [hv, h, show ((b.loan.toNat : Nat) : Int) = b.loan by omega, ← h1]; exact hb
  · rw [if_neg (by omega)] at h
    refine .step (u := b.src.toNat) ?_ (hs _ _ h)
    rw [hv, show ((b.src.toNat : Nat) : Int) = b.src by omega, ← h1]; exact hb

/-- what is there after k rounds, at the least -/
def Rk (bs : List Bd) : Nat → Nat → Nat → Prop
  | 0, _, _ => False
  | k + 1, v, e => (⟨(v : Nat), (e : Nat), -1⟩ : Bd) ∈ bs ∨ Rk bs k v e ∨ ∃ u : Nat, (⟨(v : Nat), -1, (u : Nat)⟩ : Bd) ∈ bs ∧ Rk bs k u e
theorem Rk.rg {bs : List Bd} {k v e : Nat} (h : Rk bs k v e) : Rg bs v e := by
  induction k generalizing v with
  | zero => exact h.elim
  | succ k ih =>
    rcases h with h | h | ⟨u, hu, h⟩
    · exact .base h
    · exact ih h
    · exact .step hu (ih h)
theorem Rk.up {bs : List Bd} {k j v e : Nat} (h : Rk bs k v e) (hk : k ≤ j) : Rk bs j v e := by
  induction j with
  | zero => have : k = 0 := by omega
            subst this; exact h
  | succ j ih =>
    by_cases e : k = j + 1
    · subst e; exact h
    · exact .inr (.inl (ih (by omega)))
theorem Rk.stop {bs : List Bd} {k e : Nat} (h : ∀ v, Rk bs (k + 1) v e → Rk bs k v e) {v : Nat} (hr : Rg bs v e) : Rk bs k v e := by
  induction hr with
  | base hb => exact h _ (.inl hb)
  | step hb _ ih => exact h _ (.inr (.inr ⟨_, hb, ih h⟩))
/-- n + 1 rounds are enough for n variables -/
theorem Rk.all {bs : List Bd} {n m v e : Nat} (hok : ∀ b ∈ bs, BdOk n m b) (h : Rg bs v e) : Rk bs (n + 1) v e := by
  refine Classical.byContradiction fun hno => ?_
  have grow : ∀ k, k ≤ n + 1 → k ≤ sumN n fun u => if dec (Rk bs k u e) then 1 else 0 := by
    intro k
    induction k with
    | zero => intro _; exact Nat.zero_le _
    | succ k ih =>
      intro hk
      have h1 := ih (by omega)
      have hne : ¬ ∀ u, Rk bs (k + 1) u e → Rk bs k u e := fun hs => hno ((Rk.stop hs h).up (by omega))
      obtain ⟨u, hu⟩ := Classical.not_forall.1 hne
      have hu2 : Rk bs (k + 1) u e ∧ ¬ Rk bs k u e := Classical.byContradiction fun hh => hu fun h1 => Classical.byContradiction fun h2 => hh ⟨h1, h2⟩
      have := sumN_lt (n := n) (k := u) (f := fun u => if dec (Rk bs k u e) then 1 else 0) (g := fun u => if dec (Rk bs (k + 1) u e) then 1 else 0) (fun i _ => by
        by_cases h : Rk bs k i e
        · simp only [dec_true h, dec_true (h.up (Nat.le_succ k))]; omega
        · simp only [dec_false h]; simp) (hu2.1.rg.lt hok) (by simp only [dec_true hu2.1, dec_false hu2.2]; simp)
      omega
  have h1 := grow (n + 1) (Nat.le_refl _)
  have h2 : ∀ n, (sumN n fun u => if dec (Rk bs (n + 1) u e) then 1 else 0) ≤ n := fun n => by
    have : ∀ (f : Nat → Nat) n, (∀ i, f i ≤ 1) → sumN n f ≤ n := fun f n hf => by
      induction n with
      | zero => exact Nat.le_refl _
      | succ n ih => have := hf n; simp only [sumN]; omega
    exact this _ n fun i => by split <;> omega
  have := h2 n
  omega
/-- sets that have what k rounds give, and along which the first i bounds were gone once more -/
structure RdI (bs : List Bd) (k i : Nat) (s : Nat → Nat → Bool) : Prop where
  snd : ∀ v e, s v e = true → Rg bs v e
  has : ∀ v e, Rk bs k v e → s v e = true
  part : ∀ b ∈ bs.take i, if b.src < 0 then s b.v.toNat b.loan.toNat = true else ∀ e, Rk bs k b.src.toNat e → s b.v.toNat e = true
theorem RdI.next {bs : List Bd} {n m k : Nat} {s : Nat → Nat → Bool} (hok : ∀ b ∈ bs, BdOk n m b) (h : RdI bs k bs.length s) : RdI bs (k + 1) 0 s := by
  refine ⟨h.snd, fun v e hr => ?_, fun b hb => by simp at hb⟩
  have hp := h.part
  rw [List.take_length] at hp
  rcases hr with hr | hr | ⟨u, hb, hr⟩
  · have := hp _ hr; simpa using this
  · exact h.has v e hr
  · have := hp _ hb
    rw [if_neg (by simp)] at this
    simpa using this e (by simpa using hr)
theorem RdI.go {bs : List Bd} {n m k i : Nat} {s s' : Nat → Nat → Bool} (hok : ∀ b ∈ bs, BdOk n m b) (h : RdI bs k i s) (hi : i < bs.length)
    (hs : ∀ v e, s' v e = true ↔ s v e = true ∨ (v = bs[i].v.toNat ∧ if bs[i].src < 0 then e = bs[i].loan.toNat else s bs[i].src.toNat e = true)) : RdI bs k (i + 1) s' := by
  have up : ∀ v e, s v e = true → s' v e = true := fun v e h => (hs v e).2 (.inl h)
  refine ⟨fun v e h2 => ?_, fun v e h2 => up v e (h.has v e h2), fun b hb => ?_⟩
  · rcases (hs v e).1 h2 with h3 | ⟨rfl, h3⟩
    · exact h.snd v e h3
    · exact Rg.bound hok h.snd (List.getElem_mem hi) h3
  · rw [take_succ_get bs i hi, List.mem_append, List.mem_singleton] at hb
    rcases hb with hb | rfl
    · have := h.part b hb
      by_cases h1 : b.src < 0
      · rw [if_pos h1] at this ⊢; exact up _ _ this
      · rw [if_neg h1] at this ⊢; exact fun e he => up _ _ (this e he)
    · by_cases h1 : bs[i].src < 0
      · rw [if_pos h1]; exact (hs _ _).2 (.inr ⟨rfl, by rw [if_pos h1]⟩)
      · rw [if_neg h1]; exact fun e he => (hs _ _).2 (.inr ⟨rfl, by rw [if_neg h1]; exact h.has _ _ he⟩)
theorem RdI.done {bs : List Bd} {n m k : Nat} {s : Nat → Nat → Bool} (hok : ∀ b ∈ bs, BdOk n m b) (h : RdI bs k 0 s) (hk : n + 1 ≤ k) (v e : Nat) : s v e = true ↔ Rg bs v e :=
  ⟨h.snd v e, fun hr => h.has v e ((Rk.all hok hr).up hk)⟩

/-- from where a value can come lies in the region -/
theorem Fl.region {ts : List Int} {pts : List Pt} {i v e : Nat} (g : Good ts pts) (h : Fl ts pts Gloan (Cloan ts) i v e) : Rg (bds ts pts) v e := by
  have hx : ∀ (v : Nat) (p : Pt), (p.op = 3 ∨ p.op = 4 ∨ p.op = 5) → setsP p.op p.x = (v : Nat) → p.x = (v : Nat) := fun v p ho hs => by
    rw [← hs]; unfold setsP; rw [if_pos (by omega)]
  induction h with
  | @gen i k v e p hp hk hv hs h =>
    obtain ⟨ho, rfl⟩ := Gloan_iff.1 h
    refine .base (bdsL_mem.2 ⟨e, p, hp, bdsPt_mem.2 (.inl ⟨lonB_iff.2 ho, ?_⟩)⟩)
    rw [hx v p (.inr ho) hs, Nat.zero_add]
  | @copy i k v e p hp hk hv hs hc hi ih =>
    have hr := (hi.loanOf g).2.2
    have ho : p.op = 3 ∨ p.op = 4 ∨ p.op = 5 := by
      unfold Cloan at hc; simp at hc
      rcases hc with h | ⟨h, _⟩ <;> omega
    have hy : ((p.y.toNat : Nat) : Int) = p.y := by
      rcases g.ok p (List.mem_of_getElem? hp) with hh | hh | hh | hh
      · omega
      · omega
      · omega
      · have := typeOf_in (simple_y hh (by omega)); omega
    rw [hy] at hr
    refine .step (u := p.y.toNat) (bdsL_mem.2 ⟨i, p, hp, bdsPt_mem.2 (.inr ⟨?_, hr, ?_⟩)⟩) ih
    · rcases ho with h | h
      · exact .inr h
      · exact .inl (lonB_iff.2 h)
    · rw [hx v p ho hs, hy]
  | keep _ _ _ _ _ _ ih => exact ih

end Go.Proofs.Ytidlifijgooceaa
