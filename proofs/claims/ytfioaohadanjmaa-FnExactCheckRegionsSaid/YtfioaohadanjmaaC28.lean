import Derived.Test.YtfioaohadanjmaaC27
import Derived.Test.YtfioaohadanjmaaC11
import Derived.Deep.RegionLaw
import Derived.Test.YtfioaohadanjmaaC18
import Derived.Deep.CutBlock
import Derived.Deep.DeepCutAuto
set_option linter.unusedVariables false

/- append laws as steps of a region that draws; spec.l4Start, l4Copy. -/
namespace Go.Proofs.Ytfioaohadanjmaa
open Go.RowKit

theorem step_append_own_at {P : Program} {ops : Array Oper} {o : Oper} {a : Act} {K : Act → World → Prop} {Q : Exit → Act → World → Prop} {E : Prop} {w : World} (hgd : o.guard = none) (s x : Operand) (t : TypeId)
    (ho : o.op = .call { callee := .builtin .append, args := #[s, x], argTypes := #[t, t] })
    (base : Nat) (e : TypeId) (i : TypeInfo) (z : Value) (size bytes : Nat) (ht : P.underlying t = some (.slice e)) (hi : P.info? e = some i) (hz : i.zero = some z)
    (hsize : i.size = size) (hby : i.bytes = bytes) (hzs : z.cells.size = size) (hsz : 0 < size)
    (v : Value) (n : Nat) (xs : List Value) (hs : a.eval s = v) (hown : w.ownsRow base e size v n xs)
    (ad : Addr) (m c : Nat) (news : List Value) (hx : a.eval x = .slice (some ad) m c) (hl : news.length = m * size) (hnews : ∀ j u, news[j]? = some u → w.cell? (ad.add j) = some u) (h1 : ∀ u ∈ news, u.oneCell' = true)
    (h63 : n + m ≤ maxLen) (hbytes : (n + m) * bytes ≤ 140737488355328) (hbase : base ≤ w.heap.size)
    (h : ∀ v' w', w'.ownsRow base e size v' (n + m) (xs ++ news) → w.grownBy w' v.ownBlock → (v' = .slice none 0 0 ↔ v = .slice none 0 0 ∧ m = 0) → (v'.ownBlock = v.ownBlock ∨ v'.ownBlock = some w.heap.size) → K (a.put o.dst v') w') :
    if Region.wanted o (yielded ops a.tmps) = true then Oper.wp P o a w K Q else E := by
  have hw : Region.wanted o (yielded ops a.tmps) = true := by simp [Region.wanted, hgd]
  rw [if_pos hw]
  obtain ⟨v', w', hr, h2, h3, h4, h5⟩ := run_append_own_at (P := P) w base t o.type e i z size bytes ht hi hz hsize hby hzs hsz v n xs hown ad m c news hl hnews h1 h63 hbytes hbase
  unfold Oper.wp execOp
  simp only [ho, resolve, invoke, builtin, Sem.run_bind, Sem.run_pure, Result.andThen_ok, List.map_toArray, List.map_cons, List.map_nil, hs, hx, hr]
  exact h _ _ h2 h3 h4 h5
theorem step_push_row {ops : Array Oper} {o : Oper} {a : Act} {K : Act → World → Prop} {E : Prop} {Q : Exit → Act → World → Prop} {W : World} {base m g bx : Nat} {vo : Value} {rb : List Nat} {rows : List (List Bool)} (hgd : o.guard = none) (s x : Operand)
    (ho : o.op = .call { callee := .builtin .append, args := #[s, x], argTypes := #[57, 57] })
    (hP2 : BRow W base vo rb m rows) (hb : base ≤ W.heap.size) (hn : rows.length + 1 ≤ 100000) (row : List Bool) (hr1 : RowB W g 4 (bv row)) (hbg : base ≤ g) (hne : ∀ i, i < rows.length → rb.getD i 0 ≠ g)
    (hs : a.eval s = vo) (hx : a.eval x = .slice (some ⟨bx, 0, none⟩) 1 1) (hr2 : W.cell? ⟨bx, 0, none⟩ = some (.slice (some ⟨g, 0, none⟩) m m))
    (h : ∀ v' w', BRow w' base v' (rb ++ [g]) m (rows ++ [row]) → Below base W w' → K (a.put o.dst v') w') :
    if Region.wanted o (yielded ops a.tmps) = true then Oper.wp Try.prog o a W K Q else E := by
  obtain ⟨i0, hi0, hz0, hz1, hz2⟩ := info_parts Try.infoBs
  refine step_append_own_at hgd s x 57 ho base 59 i0 _ 1 24 Try.underlying57 hi0 hz0 hz1 hz2 rfl (by omega) vo rows.length _ hs hP2.own ⟨bx, 0, none⟩ 1 1 [.slice (some ⟨g, 0, none⟩) m m] hx rfl ?_ ?_ (by simp only [maxLen]; omega) (by omega) (by omega) ?_
  · intro j u hu
    have hj : j = 0 := by
      rcases Nat.eq_zero_or_pos j with h | h
      · exact h
      · rw [List.getElem?_eq_none (by simp; omega)] at hu; cases hu
    subst hj
    have : W.cell? ⟨bx, 0, none⟩ = some u := by
      rw [hr2]; simpa using hu
    simpa [Addr.add] using this
  · intro u hu
    simp at hu
    subst hu; rfl
  · intro v' w' k1 k2 k3 k4
    have hownT : ∀ (b : Nat) (T : TypeId) (cs : Array Value), W.heap[b]? = some (Obj.cells cs T (0, 0)) → T ≠ 59 → w'.heap[b]? = some (Obj.cells cs T (0, 0)) := by
      intro b T cs hr hT
      refine (k2.block b ?_ fun e => ?_).trans hr
      · rcases Nat.lt_or_ge b W.heap.size with h' | h'
        · exact h'
        · rw [Array.getElem?_eq_none h'] at hr; cases hr
      · rcases hP2.own.2 with ⟨rfl, _⟩ | ⟨g, cap, cur, rfl, _, hh, _⟩
        · cases e
        · injection e with e
          have e' : b = g := e
          subst e'
          rw [hr] at hh
          injection hh with hh
          injection hh with _ hT'
          exact hT hT'
    have hgl : ∀ i, i < (rows ++ [row]).length → (rb ++ [g]).getD i 0 = if i < rows.length then rb.getD i 0 else g := by
      intro i hi
      by_cases h : i < rows.length
      · rw [if_pos h, getD_lt (by rw [List.length_append, hP2.len]; omega), getD_lt (by rw [hP2.len]; exact h), List.getElem_append_left]
      · have hi' : i = rows.length := by simp at hi; omega
        rw [if_neg h, getD_lt (by simp [hP2.len, hi'])]
        rw [List.getElem_append_right (by rw [hP2.len]; omega)]; simp
    refine h v' w' ⟨?_, by simp [hP2.len], fun i hi => ?_, fun i j hi hj he => ?_⟩ ?_
    · rw [List.map_append, List.length_append]; exact k1
    · rw [hgl i hi]
      by_cases hil : i < rows.length
      · rw [if_pos hil, getD_lt hi, List.getElem_append_left hil]
        refine ⟨?_, (hP2.row i hil).2⟩
        have := hownT _ _ _ (hP2.row i hil).1 (by decide)
        rw [getD_lt hil] at this
        exact this
      · have hi' : i = rows.length := by simp at hi; omega
        rw [if_neg hil, getD_lt hi, List.getElem_append_right (by omega)]
        refine ⟨?_, hbg⟩
        have e := hownT _ _ _ hr1 (by decide)
        simpa [RowB] using e
    · rw [hgl i hi, hgl j hj] at he
      simp at hi hj
      split at he <;> split at he
      · exact hP2.inj i j (by assumption) (by assumption) he
      · exact absurd he (hne i (by assumption))
      · exact absurd he.symm (hne j (by assumption))
      · omega
    · refine (Below.refl base W).trans ⟨k2.os, k2.tape, k2.output, k2.size, fun k hk => k2.block k (by omega) fun e => ?_⟩
      have := (hP2.own.lt k e.symm).1
      omega
theorem step_push_orw {ops : Array Oper} {o : Oper} {a : Act} {K : Act → World → Prop} {E : Prop} {Q : Exit → Act → World → Prop} {W : World} {base bx : Nat} {vo : Value} {vs : List Value} {rows : List (List Bool)} (hgd : o.guard = none) (s x : Operand)
    (ho : o.op = .call { callee := .builtin .append, args := #[s, x], argTypes := #[57, 57] })
    (hP : ORw W base vo vs rows) (hb : base ≤ W.heap.size) (hn : rows.length + 1 ≤ 100000) (xv : Value) (r : List Bool) (hr : OBools W base xv r)
    (hs : a.eval s = vo) (hx : a.eval x = .slice (some ⟨bx, 0, none⟩) 1 1) (hr2 : W.cell? ⟨bx, 0, none⟩ = some xv)
    (h : ∀ v' w', ORw w' base v' (vs ++ [xv]) (rows ++ [r]) → Below base W w' → K (a.put o.dst v') w') :
    if Region.wanted o (yielded ops a.tmps) = true then Oper.wp Try.prog o a W K Q else E := by
  obtain ⟨i0, hi0, hz0, hz1, hz2⟩ := info_parts Try.infoBs
  have hown := hP.own
  have hx1 : xv.oneCell' = true := by obtain ⟨A, c, rfl, _⟩ := hr.slice; rfl
  refine step_append_own_at hgd s x 57 ho base 59 i0 _ 1 24 Try.underlying57 hi0 hz0 hz1 hz2 rfl (by omega) vo rows.length _ hs hown ⟨bx, 0, none⟩ 1 1 [xv] hx rfl ?_ ?_ (by simp only [maxLen]; omega) (by omega) hb ?_
  · intro j u hu
    have hj : j = 0 := by
      rcases Nat.eq_zero_or_pos j with h | h
      · exact h
      · rw [List.getElem?_eq_none (by simp; omega)] at hu; cases hu
    subst hj
    have : W.cell? ⟨bx, 0, none⟩ = some u := by
      rw [hr2]; simpa using hu
    simpa [Addr.add] using this
  · intro u hu
    simp at hu
    subst hu; exact hx1
  · intro v' w' k1 k2 k3 k4
    have hev := Evo.grown (T := 59) hown k2
    have hkeep : ∀ {v : Value} {r : List Bool}, OBools W base v r → OBools w' base v r := fun hv => hev.own hv (by decide)
    refine h v' w' ⟨by rw [List.length_append]; exact k1, by simp [hP.len], fun i hi => ?_⟩ (hev.below hb)
    by_cases hil : i < rows.length
    · have e1 : (vs ++ [xv]).getD i (.slice none 0 0) = vs.getD i (.slice none 0 0) := by
        rw [getD_lt (by simp [hP.len]; omega), List.getElem_append_left (by rw [hP.len]; exact hil), getD_lt (by rw [hP.len]; exact hil)]
      have e2 : (rows ++ [r]).getD i [] = rows.getD i [] := by
        rw [getD_lt hi, List.getElem_append_left hil, getD_lt hil]
      rw [e1, e2]
      exact hkeep (hP.row i hil)
    · have hie : i = rows.length := by simp at hi; omega
      subst hie
      have e1 : (vs ++ [xv]).getD rows.length (.slice none 0 0) = xv := by rw [← hP.len]; simp [List.getD]
      have e2 : (rows ++ [r]).getD rows.length [] = r := by simp [List.getD]
      rw [e1, e2]
      exact hkeep hr
theorem step_app_bools {ops : Array Oper} {o : Oper} {a : Act} {K : Act → World → Prop} {Q : Exit → Act → World → Prop} {E : Prop} {w : World} (hgd : o.guard = none) (s x : Operand)
    (ho : o.op = .call { callee := .builtin .append, args := #[s, x], argTypes := #[59, 59] })
    (base : Nat) (v : Value) (l : List Bool) (hs : a.eval s = v) (hP : OBools w base v l) (B : Nat) (vs : Value) (ts : List Bool) (hx : a.eval x = vs) (hr : BoolS w B vs ts) (hb : base ≤ w.heap.size) (hn : l.length + ts.length ≤ 8388608)
    (h : ∀ v' w', OBools w' base v' (l ++ ts) → Below base w w' → K (a.put o.dst v') w') : if Region.wanted o (yielded ops a.tmps) = true then Oper.wp Try.prog o a w K Q else E := by
  have hw : Region.wanted o (yielded ops a.tmps) = true := by simp [Region.wanted, hgd]
  rw [if_pos hw]
  obtain ⟨v', w', hrun, h2, h3, _⟩ := run_app_bools w base o.type v l hP B vs ts hr hb hn
  unfold Oper.wp execOp
  simp only [ho, resolve, invoke, builtin, Sem.run_bind, Sem.run_pure, Result.andThen_ok, List.map_toArray, List.map_cons, List.map_nil, hs, hx, hrun]
  exact h v' w' h2 ((Evo.grown (T := 4) hP h3).below hb)

theorem BRow.setLow {w : World} {base m : Nat} {v : Value} {rb : List Nat} {rows : List (List Bool)} {g : Nat} (h : BRow w base v rb m rows) (hg : g < base) (i : Nat) (u : Value) : BRow (w.setCell ⟨g, i, none⟩ u) base v rb m rows :=
  h.onl (Onl.set (S := fun b => b = g) w rfl i u) (fun k hk e => by have := (World.ownsRow.lt h.own k hk).1; omega) (fun i hi e => by have := (h.row i hi).2; omega)
theorem BRow.nil (w : World) (base m : Nat) : BRow w base (.slice none 0 0) [] m [] := ⟨World.ownsRow_nil _ _ _ _, rfl, fun i h => by simp at h, fun i j h => by simp at h⟩
/-- what l4Start answers: rows and a row, all no -/
def StaRet (w : World) (n s : Nat) (e : Ending) (w' : World) : Prop :=
  ∃ v rb, e = .returned (.agg #[v, .slice (some ⟨w.heap.size + 1, 0, none⟩) s s]) ∧ BRow w' (w.heap.size + 3) v rb s (List.replicate n (List.replicate s false)) ∧ RowB w' (w.heap.size + 1) 4 (bv (List.replicate s false)) ∧ Below w.heap.size w w'
set_option maxHeartbeats 2000000 in
set_option maxRecDepth 100000 in
theorem l4Start_any (n s : Nat) (hn : n ≤ 6) (hs : s ≤ 100) (w : World) :
    Calls Try.prog 100 #[.int .i64 (n : Nat), .int .i64 (s : Nat)] w (StaRet w n s) := by
  have hmk := make_bools s (by omega)
  have HMK := Lib.hid hmk
  go_enter Try.func100, Try.ntmps100
  go_wp2_with (at_builtin; fail)
  have HRS : Hid (∀ k, List.replicate (k + 1) (List.replicate s false) = List.replicate k (List.replicate s false) ++ [List.replicate s false]) := Lib.hid fun k => by simp [List.replicate_succ']
  generalize hrz : List.replicate s false = rz at *
  have HRZ := Lib.hid hrz
  clear hrz
  have HW : Hid ((((w.alloc (.cells #[.slice none 0 0, .slice none 0 0] 99)).alloc (.cells (bv rz).toArray 4)).alloc (.cells #[.slice none 0 0, .slice (some ⟨w.heap.size + 1, 0, none⟩) s s] 99)).heap.size = w.heap.size + 3) := Lib.hid (by simp)
  have HB0 : Hid (Below w.heap.size w (((w.alloc (.cells #[.slice none 0 0, .slice none 0 0] 99)).alloc (.cells (bv rz).toArray 4)).alloc (.cells #[.slice none 0 0, .slice (some ⟨w.heap.size + 1, 0, none⟩) s s] 99))) := Lib.hid (((bel_a w _).alloc (by simp) _).alloc (by simp <;> omega) _)
  have HR0 : Hid ((((w.alloc (.cells #[.slice none 0 0, .slice none 0 0] 99)).alloc (.cells (bv rz).toArray 4)).alloc (.cells #[.slice none 0 0, .slice (some ⟨w.heap.size + 1, 0, none⟩) s s] 99)).heap[w.heap.size]? = some (.cells #[.slice none 0 0, .slice none 0 0] 99 (0, 0))) := Lib.hid (row_below (row_below (heap_alloc_new w _) (bel_a _ _)) (bel_a _ _))
  have HR1 : Hid (RowB (((w.alloc (.cells #[.slice none 0 0, .slice none 0 0] 99)).alloc (.cells (bv rz).toArray 4)).alloc (.cells #[.slice none 0 0, .slice (some ⟨w.heap.size + 1, 0, none⟩) s s] 99)) (w.heap.size + 1) 4 (bv rz)) := Lib.hid (by
    have h := (RowB.new (w.alloc (.cells #[.slice none 0 0, .slice none 0 0] 99)) (bv rz) 4).alloc (.cells #[.slice none 0 0, .slice (some ⟨w.heap.size + 1, 0, none⟩) s s] 99)
    rw [show (w.alloc (.cells #[.slice none 0 0, .slice none 0 0] 99)).heap.size = w.heap.size + 1 by simp] at h
    exact h)
  have HR2 : Hid ((((w.alloc (.cells #[.slice none 0 0, .slice none 0 0] 99)).alloc (.cells (bv rz).toArray 4)).alloc (.cells #[.slice none 0 0, .slice (some ⟨w.heap.size + 1, 0, none⟩) s s] 99)).heap[w.heap.size + 2]? = some (.cells #[.slice none 0 0, .slice (some ⟨w.heap.size + 1, 0, none⟩) s s] 99 (0, 0))) := Lib.hid (by
    have h := heap_alloc_new ((w.alloc (.cells #[.slice none 0 0, .slice none 0 0] 99)).alloc (.cells (bv rz).toArray 4)) (.cells #[.slice none 0 0, .slice (some ⟨w.heap.size + 1, 0, none⟩) s s] 99)
    rw [show ((w.alloc (.cells #[.slice none 0 0, .slice none 0 0] 99)).alloc (.cells (bv rz).toArray 4)).heap.size = w.heap.size + 2 by simp] at h
    exact h)
  change Code.wp _ _ _ _ (((w.alloc (.cells #[.slice none 0 0, .slice none 0 0] 99)).alloc (.cells (bv rz).toArray 4)).alloc (.cells #[.slice none 0 0, .slice (some ⟨w.heap.size + 1, 0, none⟩) s s] 99))
  generalize (((w.alloc (.cells #[.slice none 0 0, .slice none 0 0] 99)).alloc (.cells (bv rz).toArray 4)).alloc (.cells #[.slice none 0 0, .slice (some ⟨w.heap.size + 1, 0, none⟩) s s] 99)) = w0 at *
  go_loopw [6] (fun i wr => ∃ (k : Nat) (v : Value) (rb : List Nat), k ≤ n ∧ i = .int .i64 k ∧ BRow wr (w.heap.size + 3) v rb s (List.replicate k rz) ∧ wr.heap[w.heap.size + 2]? = some (.cells #[v, .slice (some ⟨w.heap.size + 1, 0, none⟩) s s] 99 (0, 0)) ∧ RowB wr (w.heap.size + 1) 4 (bv rz) ∧ wr.heap[w.heap.size]? = some (.cells #[.slice none 0 0, .slice none 0 0] 99 (0, 0)) ∧ Below w.heap.size w wr ∧ w.heap.size + 3 ≤ wr.heap.size) (fun i _ => n - (intOf i).toNat)
  case atStart => exact ⟨0, .slice none 0 0, [], Nat.zero_le _, rfl, BRow.nil _ _ _, HR2.out, HR1.out, HR0.out, HB0.out, by have := HW.out; omega⟩
  case round =>
    obtain ⟨k, v, rb, hk, rfl, hbr, hr2, hr1, hr0, hbw, hsz⟩ := hrel
    have HBR := Lib.hid hbr
    have HX2 := Lib.hid hr2
    have HX1 := Lib.hid hr1
    have HX0 := Lib.hid hr0
    have HBW := Lib.hid hbw
    obtain ⟨A, c, rfl, hc⟩ := hbr.slice
    rw [List.length_replicate] at hc
    have hlen : (List.replicate k rz).length = k := by simp
    rw [hlen] at HX2
    have c0 : wr.cell? ⟨w.heap.size + 2, 0, none⟩ = some (.slice A k c) := by rw [cell_of_row _ _ _ _ _ _ HX2.out]; rfl
    have c1 : wr.cell? ⟨w.heap.size + 2, 1, none⟩ = some (.slice (some ⟨w.heap.size + 1, 0, none⟩) s s) := by rw [cell_of_row _ _ _ _ _ _ HX2.out]; rfl
    have f0 := frozen_of_row wr (w.heap.size + 2) 0 _ _ HX2.out
    rw [hlen] at HBR
    clear hbr hr2 hr1 hr0 hbw hlen
    by_cases hlt : k < n
    · have hmk := HMK.out
      have c0a : ∀ o, (wr.alloc o).cell? ⟨w.heap.size + 2, 0, none⟩ = some (.slice A k c) := fun o => by rw [cell_of_row _ _ _ _ _ _ (row_below HX2.out (bel_a wr o))]; rfl
      have c0b : ∀ o o', ((wr.alloc o).alloc o').cell? ⟨w.heap.size + 2, 0, none⟩ = some (.slice A k c) := fun o o' => by rw [cell_of_row _ _ _ _ _ _ (row_below (row_below HX2.out (bel_a wr o)) (bel_a _ o'))]; rfl
      go_wp2_with (at_builtin; fail)
      have hbx := ((bel_a wr (.cells (bv rz).toArray 4)).alloc (by simp) (.cells #[.slice (some ⟨wr.heap.size, 0, none⟩) s s] 59)).drew
      have HBX := Lib.hid hbx
      have HRX : Hid (RowB ((wr.alloc (.cells (bv rz).toArray 4)).alloc (.cells #[.slice (some ⟨wr.heap.size, 0, none⟩) s s] 59)).drew wr.heap.size 4 (bv rz)) := Lib.hid ((RowB.new wr (bv rz) 4).alloc _)
      have HCX : Hid (((wr.alloc (.cells (bv rz).toArray 4)).alloc (.cells #[.slice (some ⟨wr.heap.size, 0, none⟩) s s] 59)).drew.cell? ⟨wr.heap.size + 1, 0, none⟩ = some (.slice (some ⟨wr.heap.size, 0, none⟩) s s)) := Lib.hid (by
        have h := heap_alloc_new (wr.alloc (.cells (bv rz).toArray 4)) (.cells #[.slice (some ⟨wr.heap.size, 0, none⟩) s s] 59)
        rw [show (wr.alloc (.cells (bv rz).toArray 4)).heap.size = wr.heap.size + 1 by simp] at h
        exact cell_of_row _ _ _ _ _ _ h)
      have HPX := Lib.hid (HBR.out.low hbx)
      have HNE : Hid (∀ i, i < (List.replicate k rz).length → rb.getD i 0 ≠ wr.heap.size) := Lib.hid fun i hi e => by
        have := (HBR.out.row i hi).1.lt; omega
      have HKL : Hid ((List.replicate k rz).length = k) := Lib.hid (by simp)
      have HNX := Lib.hid (HRS.out k)
      clear hbx
      have hbd : wr.heap.size + 2 ≤ ((wr.alloc (.cells (bv rz).toArray 4)).alloc (.cells #[.slice (some ⟨wr.heap.size, 0, none⟩) s s] 59)).drew.heap.size := by simp
      generalize List.replicate k rz = rs at *
      go_region_law (first
        | (refine step_push_row (by rfl) (.tmp 16) (.tmp 19) (by rfl) HPX.out (by omega) (by have := HKL.out; omega) rz HRX.out (by omega) HNE.out (by simp [Act.eval]) (by simp [Act.eval]) HCX.out ?_; intro v' w' hP' hE'; (have HB' := Lib.hid ((HBX.out.mono (by omega)).trans hE')); (have HX2' := Lib.hid ((HB'.out.block _ (by omega)).trans HX2.out)); (have c0' : w'.cell? ⟨w.heap.size + 2, 0, none⟩ = some (.slice A k c) := by (rw [cell_of_row _ _ _ _ _ _ HX2'.out]; rfl)); (have f0' := frozen_of_row w' (w.heap.size + 2) 0 _ _ HX2'.out); (have HP' := Lib.hid hP'); (obtain ⟨A', c', rfl, hc'⟩ := hP'.slice); clear hP' hE')
        | fail)
      all_goals
        go_wp2_with (at_builtin; fail)
        rw [← HNX.out] at HP'
        have HL' : Hid ((List.replicate (k + 1) rz).length = rs.length + 1) := Lib.hid (by rw [HNX.out, List.length_append]; rfl)
        exact ⟨⟨k + 1, _, _, by omega, by go_num, HP'.out.setLow (by omega) 0 _, (heap_setCell_same w' (w.heap.size + 2) 0 _ _ _ HX2'.out).trans (by simp [HKL.out]), (HX1.out.low HB'.out (by omega)).other (by omega) 0 _, (heap_setCell_other w' ⟨w.heap.size + 2, 0, none⟩ w.heap.size _ (by show w.heap.size ≠ w.heap.size + 2; omega)).trans ((HB'.out.block _ (by omega)).trans HX0.out), (HBW.out.trans (HB'.out.mono (by omega))).setCell (p := ⟨w.heap.size + 2, 0, none⟩) (by show w.heap.size ≤ w.heap.size + 2; omega) _, by rw [size_set]; have := HB'.out.size; omega⟩, by simp [intOf] <;> omega⟩
    · have hkn : k = n := by omega
      have HBN : Hid (BRow wr (w.heap.size + 3) (.slice A k c) rb s (List.replicate n rz)) := Lib.hid (by rw [← hkn]; exact HBR.out)
      have q0 : wr.cell? ⟨w.heap.size, 0, none⟩ = some (.slice none 0 0) := by rw [cell_of_row _ _ _ _ _ _ HX0.out]; rfl
      have q1 : wr.cell? ⟨w.heap.size, 1, none⟩ = some (.slice none 0 0) := by rw [cell_of_row _ _ _ _ _ _ HX0.out]; rfl
      have fr0 := frozen_of_row wr w.heap.size 0 _ _ HX0.out
      have fr1 := frozen_of_row wr w.heap.size 1 _ _ HX0.out
      clear hkn f0
      go_wp2_with (at_builtin; fail)
      have HS2 := Lib.hid (box2 HX0.out (.slice A k c) (.slice (some ⟨w.heap.size + 1, 0, none⟩) s s))
      refine bodyPost_ret (results_cell_row rfl _ _ w.heap.size 99 _ (0, 0) _ rfl HS2.out.1 Try.underlying99 rfl rfl) rfl ⟨.slice A k c, rb, rfl, ?_, ?_, ?_⟩
      · rw [HRZ.out]; exact (HBN.out.setLow (g := w.heap.size) (by omega) 0 _).setLow (g := w.heap.size) (by omega) 1 _
      · rw [HRZ.out]; exact (HX1.out.other (g' := w.heap.size) (by omega) 0 _).other (g' := w.heap.size) (by omega) 1 _
      · exact HBW.out.trans ((grown_below HS2.out.2 (show w.heap.size < _ by omega)))

theorem Onl.ofBelow {w w' : World} {B : Nat} (h : Below B w w') : Onl (fun b => B ≤ b) w w' := ⟨h.os, h.tape, h.output, h.size, fun k _ hn => h.block k (by have : ¬ B ≤ k := hn; omega)⟩
theorem OBools.keep {w w' : World} {lo B : Nat} {v : Value} {l : List Bool} (h : OBools w lo v l) (hn : ∀ g, v.ownBlock = some g → g < B) (hb : Below B w w') : OBools w' lo v l :=
  own_onl h (Onl.ofBelow hb) fun g hg e => by have e' : B ≤ g := e; have := hn g hg; omega
theorem takeAll_ORw {w : World} {base k : Nat} {v : Value} {vs : List Value} {F : List (List Bool)} (h : ORw w base v vs (F.take k)) (e : k = F.length) : ORw w base v vs F := by
  rwa [e, List.take_length] at h
theorem ORw.nil (w : World) (base : Nat) : ORw w base (.slice none 0 0) [] [] := ⟨World.ownsRow_nil _ _ _ _, rfl, fun i h => by simp at h⟩
theorem OBools.own_lt {w : World} {base : Nat} {v : Value} {l : List Bool} (h : OBools w base v l) {g : Nat} (e : v.ownBlock = some g) : base ≤ g ∧ g < w.heap.size := World.ownsRow.lt h g e
theorem OBools.setLow {w : World} {base : Nat} {v : Value} {l : List Bool} {g : Nat} (h : OBools w base v l) (hg : ∀ k, v.ownBlock = some k → k ≠ g) (i : Nat) (u : Value) : OBools (w.setCell ⟨g, i, none⟩ u) base v l :=
  own_onl h (Onl.set (S := fun b => b = g) w rfl i u) hg
theorem ORw.setLow {w : World} {base : Nat} {v : Value} {vs : List Value} {l : List (List Bool)} {g : Nat} (h : ORw w base v vs l) (hg : g < base) (i : Nat) (u : Value) : ORw (w.setCell ⟨g, i, none⟩ u) base v vs l :=
  ⟨own_onl h.own (Onl.set (S := fun b => b = g) w rfl i u) (fun k hk e => by have := (World.ownsRow.lt h.own k hk).1; omega), h.len, fun j hj => (h.row j hj).setLow (fun k hk e => by have := ((h.row j hj).own_lt hk).1; omega) i u⟩
/-- a state that a call owns: rows, and a row in a block below theirs -/
structure OSta (w : World) (lo base : Nat) (vf vp : Value) (vs : List Value) (F : List (List Bool)) (P : List Bool) : Prop where
  le : lo ≤ base
  fr : ORw w base vf vs F
  pl : OBools w lo vp P
  ne : ∀ g, vp.ownBlock = some g → g < base
  sz : base ≤ w.heap.size
/-- what l4Copy answers -/
def CopRet (w : World) (F : List (List Bool)) (P : List Bool) (e : Ending) (w' : World) : Prop :=
  ∃ vf vp vs base, e = .returned (.agg #[vf, vp]) ∧ OSta w' w.heap.size base vf vp vs F P ∧ Below w.heap.size w w'
set_option maxHeartbeats 4000000 in
set_option maxRecDepth 100000 in
theorem l4Copy_any (vf vp : Value) (F : List (List Bool)) (P : List Bool) (Pf : Nat → Prop) (w : World) (hf : RwX w Pf vf F) (hp : BoolX w Pf vp P) (hF : F.length ≤ 6) (hFi : ∀ v, v < F.length → (F.getD v []).length ≤ 100) (hPl : P.length ≤ 100) :
    Calls Try.prog 141 #[.agg #[vf, vp]] w (CopRet w F P) := by
  have HF := Lib.hid hf
  have HP := Lib.hid hp
  have HFI := Lib.hid hFi
  obtain ⟨Af, cf, rfl, hcf⟩ := hf.slice
  obtain ⟨Ap, cp, rfl, hcp⟩ := hp.slice
  clear hf hp hFi
  have hb1 := (bel_a w (.cells #[.slice Af F.length cf, .slice Ap P.length cp] 99)).alloc (by simp) (.cells #[.slice none 0 0, .slice none 0 0] 99)
  have HB1 := Lib.hid hb1
  have HW1 : Hid (((w.alloc (.cells #[.slice Af F.length cf, .slice Ap P.length cp] 99)).alloc (.cells #[.slice none 0 0, .slice none 0 0] 99)).heap.size = w.heap.size + 2) := Lib.hid (by simp)
  have HR1 : Hid (((w.alloc (.cells #[.slice Af F.length cf, .slice Ap P.length cp] 99)).alloc (.cells #[.slice none 0 0, .slice none 0 0] 99)).heap[w.heap.size]? = some (.cells #[.slice Af F.length cf, .slice Ap P.length cp] 99 (0, 0))) := Lib.hid (row_below (heap_alloc_new w _) (bel_a _ _))
  have HR2 : Hid (((w.alloc (.cells #[.slice Af F.length cf, .slice Ap P.length cp] 99)).alloc (.cells #[.slice none 0 0, .slice none 0 0] 99)).heap[w.heap.size + 1]? = some (.cells #[.slice none 0 0, .slice none 0 0] 99)) := Lib.hid (by
    have h := heap_alloc_new (w.alloc (.cells #[.slice Af F.length cf, .slice Ap P.length cp] 99)) (.cells #[.slice none 0 0, .slice none 0 0] 99)
    rw [show (w.alloc (.cells #[.slice Af F.length cf, .slice Ap P.length cp] 99)).heap.size = w.heap.size + 1 by simp] at h
    exact h)
  have HE := Lib.hid (OBools.empty ((w.alloc (.cells #[.slice Af F.length cf, .slice Ap P.length cp] 99)).alloc (.cells #[.slice none 0 0, .slice none 0 0] 99)) (w.heap.size + 2) (by rw [HW1.out]; omega))
  rw [HW1.out] at HE
  have HEB := Lib.hid (bel_a ((w.alloc (.cells #[.slice Af F.length cf, .slice Ap P.length cp] 99)).alloc (.cells #[.slice none 0 0, .slice none 0 0] 99)) (.cells #[] 4))
  have HPS := Lib.hid ((HP.out.frame (P' := Pf) (HB1.out.trans (HEB.out.mono HB1.out.size)).size fun b hp hl => ⟨hp, (HB1.out.trans (HEB.out.mono HB1.out.size)).block b hl⟩).toS)
  clear hb1
  go_enter Try.func141, Try.ntmps141
  go_wp2_with (at_builtin; go_must (refine wpList_app_bools2 rfl (.tmp 5) (.tmp 7) rfl (w.heap.size + 2) _ [] rfl HE.out _ _ P rfl HPS.out (by simp) (by simp; omega) ?_); intro v' w' hP' hE'; (rw [List.nil_append] at hP'); (obtain ⟨A3, c3, rfl, hc3⟩ := hP'.slice))
  have HB2 := Lib.hid ((HB1.out.trans (HEB.out.mono HB1.out.size)).trans (hE'.mono (by omega)))
  have HE3 : Hid (Below (w.heap.size + 2) ((w.alloc (.cells #[.slice Af F.length cf, .slice Ap P.length cp] 99)).alloc (.cells #[.slice none 0 0, .slice none 0 0] 99)) w') := Lib.hid ((HEB.out.mono (by rw [HW1.out]; omega)).trans hE')
  have HR1b := Lib.hid ((HE3.out.block _ (by omega)).trans HR1.out)
  have HR2b := Lib.hid ((HE3.out.block _ (by omega)).trans HR2.out)
  have hs2 : w.heap.size + 2 ≤ w'.heap.size := by have := HE3.out.size; rw [HW1.out] at this; exact this
  have HP3 := Lib.hid (hP'.bel (bel_a w' (.cells #[.slice none 0 0, .slice A3 P.length c3] 99)))
  have HPN : Hid (∀ g, (Value.slice A3 P.length c3).ownBlock = some g → g < w'.heap.size) := Lib.hid fun g e => (hP'.own_lt e).2
  have HR1c := Lib.hid (row_below HR1b.out (bel_a w' (.cells #[.slice none 0 0, .slice A3 P.length c3] 99)))
  have HR2c := Lib.hid (row_below HR2b.out (bel_a w' (.cells #[.slice none 0 0, .slice A3 P.length c3] 99)))
  have HR3 := Lib.hid (heap_alloc_new w' (.cells #[.slice none 0 0, .slice A3 P.length c3] 99))
  have HB3 := Lib.hid (HB2.out.alloc (by omega) (.cells #[.slice none 0 0, .slice A3 P.length c3] 99))
  have hs3 : (w'.alloc (.cells #[.slice none 0 0, .slice A3 P.length c3] 99)).heap.size = w'.heap.size + 1 := by simp
  obtain ⟨t, ht⟩ : ∃ t, t = w'.heap.size := ⟨_, rfl⟩
  rw [← ht] at HR3 HPN hs3
  have HTE := Lib.hid ht
  have htl : w.heap.size + 2 ≤ t := by omega
  clear hP' hE' ht hs2 HR1b HR2b HR1 HR2 HB2 HE3
  rw [← HTE.out]
  generalize w'.alloc (.cells #[.slice none 0 0, .slice A3 P.length c3] 99) = w3 at *
  go_loopw [4] (fun i wr => ∃ (k : Nat) (v : Value) (vs : List Value), k ≤ F.length ∧ i = .int .i64 k ∧ ORw wr (t + 1) v vs (F.take k) ∧ wr.heap[t]? = some (.cells #[v, .slice A3 P.length c3] 99 (0, 0)) ∧ OBools wr (w.heap.size + 2) (.slice A3 P.length c3) P ∧ wr.heap[w.heap.size]? = some (.cells #[.slice Af F.length cf, .slice Ap P.length cp] 99 (0, 0)) ∧ wr.heap[w.heap.size + 1]? = some (.cells #[.slice none 0 0, .slice none 0 0] 99) ∧ Below w.heap.size w wr ∧ t + 1 ≤ wr.heap.size) (fun i _ => F.length - (intOf i).toNat)
  case atStart => exact ⟨0, .slice none 0 0, [], Nat.zero_le _, rfl, ORw.nil _ _, HR3.out, HP3.out, HR1c.out, HR2c.out, HB3.out, by omega⟩
  case round =>
    obtain ⟨k, v, vs, hk, rfl, hO, hr3, hpl, hr1, hr2, hbw, hsz⟩ := hrel
    have HO := Lib.hid hO
    have HX3 := Lib.hid hr3
    have HPL := Lib.hid hpl
    have HX1 := Lib.hid hr1
    have HX2 := Lib.hid hr2
    have HBW := Lib.hid hbw
    obtain ⟨A, c, rfl, hc⟩ := hO.slice
    have hlen : (F.take k).length = k := by simp; omega
    rw [hlen] at HX3 hc HO
    have c0 : wr.cell? ⟨t, 0, none⟩ = some (.slice A k c) := by rw [cell_of_row _ _ _ _ _ _ HX3.out]; rfl
    have c1 : wr.cell? ⟨t, 1, none⟩ = some (.slice A3 P.length c3) := by rw [cell_of_row _ _ _ _ _ _ HX3.out]; rfl
    have b0 : wr.cell? ⟨w.heap.size, 0, none⟩ = some (.slice Af F.length cf) := by rw [cell_of_row _ _ _ _ _ _ HX1.out]; rfl
    have b1 : wr.cell? ⟨w.heap.size, 1, none⟩ = some (.slice Ap P.length cp) := by rw [cell_of_row _ _ _ _ _ _ HX1.out]; rfl
    clear hO hr3 hpl hr1 hr2 hbw hlen
    by_cases hlt : k < F.length
    · have HFW := Lib.hid (HF.out.frame (P' := Pf) (w' := wr) HBW.out.size fun b hp hl => ⟨hp, HBW.out.block b hl⟩)
      obtain ⟨b, off, rv, rfl, -, hbl, e9, hcell, hrow⟩ := HFW.out.at_ hlt
      have HBS := Lib.hid hrow.toS
      have hlk := HFI.out k hlt
      have HTK : Hid (F.take (k + 1) = F.take k ++ [F.getD k []]) := Lib.hid (by rw [take_succ_get F k hlt, getD_lt hlt])
      generalize F.getD k [] = rk at *
      obtain ⟨Ar, cr, rfl, hcr⟩ := hrow.slice
      have hE4 := OBools.empty wr wr.heap.size (Nat.le_refl _)
      have HBE := Lib.hid ((bel_a wr (.cells #[] 4)).drew)
      have HE4 : Hid (OBools (wr.alloc (.cells #[] 4)).drew wr.heap.size (.slice (some ⟨wr.heap.size, 0, none⟩) 0 0) []) := Lib.hid hE4
      have HS4 := Lib.hid (HBS.out.low HBE.out (Nat.le_refl _))
      have c0a : ∀ o, (wr.alloc o).cell? ⟨t, 0, none⟩ = some (.slice A k c) := fun o => by rw [cell_of_row _ _ _ _ _ _ (row_below HX3.out (bel_a wr o))]; rfl
      have b0a : ∀ o, (wr.alloc o).cell? ⟨w.heap.size, 0, none⟩ = some (.slice (some ⟨b, off, none⟩) F.length cf) := fun o => by rw [cell_of_row _ _ _ _ _ _ (row_below HX1.out (bel_a wr o))]; rfl
      have hca : ∀ o, (wr.alloc o).cell? ⟨b, off + k, none⟩ = some (.slice Ar rk.length cr) := fun o => ((bel_a wr o).cell (p := ⟨b, off + k, none⟩) hbl).trans hcell
      clear hrow e9 hE4
      have tok1 : True := trivial
      go_wp2_with (at_builtin; fail)
      go_region_law (first
        | (have _t := tok1; refine step_app_bools (by rfl) (.tmp 19) (.tmp 24) (by rfl) wr.heap.size _ [] (by simp [Act.eval]) HE4.out wr.heap.size _ rk (by simp [Act.eval]) HS4.out (by simp <;> omega) (by simp <;> omega) ?_; intro v4 w4 hP4 hE4; clear tok1 _t; (rw [List.nil_append] at hP4); (have HB4 := Lib.hid (HBE.out.trans hE4)); (obtain ⟨A4, c4, rfl, hc4⟩ := hP4.slice); (have hs4 : wr.heap.size + 1 ≤ w4.heap.size := by (have := hE4.size; simpa using this)); (have HBA := Lib.hid (bel_a w4 (.cells #[.slice A4 rk.length c4] 59)));
            (have HO5 := Lib.hid ((HO.out.bel HB4.out).bel HBA.out)); (have HP5 := Lib.hid ((hP4.base (show t + 1 ≤ wr.heap.size by omega)).bel HBA.out)); (have HC5 : Hid ((w4.alloc (.cells #[.slice A4 rk.length c4] 59)).cell? ⟨w4.heap.size, 0, none⟩ = some (.slice A4 rk.length c4)) := Lib.hid (cell_of_row _ _ _ _ _ _ (heap_alloc_new w4 _))); (have HX34 := Lib.hid ((HB4.out.block t (by omega)).trans HX3.out)); (have c04 : w4.cell? ⟨t, 0, none⟩ = some (.slice A k c) := by (rw [cell_of_row _ _ _ _ _ _ HX34.out]; rfl)); (have c04a : ∀ o, (w4.alloc o).cell? ⟨t, 0, none⟩ = some (.slice A k c) := fun o => by (rw [cell_of_row _ _ _ _ _ _ (row_below HX34.out (bel_a w4 o))]; rfl)); clear hP4 hE4)
        | (refine step_push_orw (by rfl) (.tmp 18) (.tmp 26) (by rfl) HO5.out (by simp; omega) (by have := List.length_take_le k F; omega) _ rk HP5.out (by simp [Act.eval]) (by simp [Act.eval]) HC5.out ?_; intro v6 w6 hP6 hE6; (have HB6 := Lib.hid ((HBA.out.mono (show t + 1 ≤ w4.heap.size by omega)).trans hE6)); (have HX36 := Lib.hid ((HB6.out.block t (by omega)).trans HX34.out)); (have c06 : w6.cell? ⟨t, 0, none⟩ = some (.slice A k c) := by (rw [cell_of_row _ _ _ _ _ _ HX36.out]; rfl)); (have f06 := frozen_of_row w6 t 0 _ _ HX36.out); (have HP6 := Lib.hid hP6); (obtain ⟨A6, c6, rfl, hc6⟩ := hP6.slice); clear hP6 hE6)
        | fail)
      all_goals
        have HBW6 := Lib.hid ((HB4.out.mono (show t + 1 ≤ wr.heap.size by omega)).trans HB6.out)
        rw [← HTK.out] at HP6
        go_wp2_with (at_builtin; fail)
        exact ⟨⟨k + 1, _, _, by omega, by go_num, HP6.out.setLow (by omega) 0 _, (heap_setCell_same w6 t 0 _ _ _ HX36.out).trans (by simp; omega), (HPL.out.keep HPN.out (HBW6.out.mono (by omega))).setLow (fun k hk e => by have := HPN.out k hk; omega) 0 _, (heap_setCell_other w6 ⟨t, 0, none⟩ w.heap.size _ (by show w.heap.size ≠ t; omega)).trans ((HBW6.out.block _ (by omega)).trans HX1.out), (heap_setCell_other w6 ⟨t, 0, none⟩ (w.heap.size + 1) _ (by show w.heap.size + 1 ≠ t; omega)).trans ((HBW6.out.block _ (by omega)).trans HX2.out), (HBW.out.trans (HBW6.out.mono (by omega))).setCell (p := ⟨t, 0, none⟩) (by show w.heap.size ≤ t; omega) _, by rw [size_set]; have := HBW6.out.size; omega⟩, by simp [intOf] <;> omega⟩
    · have hkn : k = F.length := by omega
      have HBN : Hid (ORw wr (t + 1) (.slice A k c) vs F) := Lib.hid (takeAll_ORw HO.out hkn)
      have q0 : wr.cell? ⟨w.heap.size + 1, 0, none⟩ = some (.slice none 0 0) := by rw [cell_of_row _ _ _ _ _ _ HX2.out]; rfl
      have q1 : wr.cell? ⟨w.heap.size + 1, 1, none⟩ = some (.slice none 0 0) := by rw [cell_of_row _ _ _ _ _ _ HX2.out]; rfl
      have fr0 := frozen_of_row wr (w.heap.size + 1) 0 _ _ HX2.out
      have fr1 := frozen_of_row wr (w.heap.size + 1) 1 _ _ HX2.out
      clear hkn
      go_wp2_with (at_builtin; fail)
      have HS2 := Lib.hid (box2 HX2.out (.slice A k c) (.slice A3 P.length c3))
      refine bodyPost_ret (results_cell_row rfl _ _ (w.heap.size + 1) 99 _ (0, 0) _ rfl HS2.out.1 Try.underlying99 rfl rfl) rfl ⟨.slice A k c, .slice A3 P.length c3, vs, t + 1, rfl, ⟨by omega, ?_, ?_, ?_, by simp only [size_set]; omega⟩, ?_⟩
      · exact (HBN.out.setLow (g := w.heap.size + 1) (by omega) 0 _).setLow (g := w.heap.size + 1) (by omega) 1 _
      · refine OBools.base (base := w.heap.size + 2) ((HPL.out.setLow (g := w.heap.size + 1) (fun k hk e => ?_) 0 _).setLow (g := w.heap.size + 1) (fun k hk e => ?_) 1 _) (by omega)
        · have := (HPL.out.own_lt hk).1; omega
        · have := (HPL.out.own_lt hk).1; omega
      · exact fun g hg => by have := HPN.out g hg; omega
      · exact HBW.out.trans ((grown_below HS2.out.2 (show w.heap.size + 1 < _ by omega)).mono (by omega))

end Go.Proofs.Ytfioaohadanjmaa

/- spec.l4Lose, l4Within. -/
namespace Go.Proofs.Ytfioaohadanjmaa
open Go.RowKit

/-- is e a loan of v? -/
def lonV (pts : List Pt) (v : Int) (e : Nat) : Bool := match pts[e]? with
  | some q => lonB q && (q.y == v)
  | none => false
set_option maxHeartbeats 2000000 in
set_option maxRecDepth 100000 in
theorem l4Lose_any (Af : Option Addr) (nf cf : Nat) (vpts : Value) (gp cp B lo : Nat) (pts : List Pt) (P : List Bool) (v : Int) (w : World) (hps : PtS w B vpts pts) (hB : B ≤ w.heap.size) (hgp : B ≤ gp) (hP : OBools w lo (.slice (some ⟨gp, 0, none⟩) pts.length cp) P) (hl : P.length = pts.length) (hpl : pts.length ≤ 100) :
    Calls Try.prog 143 #[.agg #[.slice Af nf cf, .slice (some ⟨gp, 0, none⟩) pts.length cp], vpts, .int .i64 v] w fun e w' => e = .returned (.tuple #[]) ∧ ∃ P', OBools w' lo (.slice (some ⟨gp, 0, none⟩) pts.length cp) P' ∧ P'.length = pts.length ∧ (∀ e, P'.getD e false = (P.getD e false && !lonV pts v e)) ∧ Onl (fun b => b = gp) w w' := by
  have HPS := Lib.hid hps
  have HP := Lib.hid hP
  have HL := Lib.hid hl
  obtain ⟨Ap, cpp, rfl, hcp, -⟩ := hps.slice
  have hgl : gp < w.heap.size := (hP.own_lt rfl).2
  have HX : Hid ((w.alloc (.cells #[.slice Af nf cf, .slice (some ⟨gp, 0, none⟩) pts.length cp] 99)).heap[w.heap.size]? = some (.cells #[.slice Af nf cf, .slice (some ⟨gp, 0, none⟩) pts.length cp] 99 (0, 0))) := Lib.hid (heap_alloc_new w _)
  have HB0 := Lib.hid (bel_a w (.cells #[.slice Af nf cf, .slice (some ⟨gp, 0, none⟩) pts.length cp] 99))
  have HP0 := Lib.hid (hP.bel HB0.out)
  clear hps hP hl
  go_enter Try.func143, Try.ntmps143
  go_wp2_with (at_builtin; fail)
  generalize w.alloc (.cells #[.slice Af nf cf, .slice (some ⟨gp, 0, none⟩) pts.length cp] 99) = w1 at *
  have hs1 := HB0.out.size
  have hgl1 : gp < w1.heap.size := by omega
  go_loopw [6] (fun i wr => ∃ (k : Nat) (P' : List Bool), k ≤ pts.length ∧ i = .int .i64 k ∧ OBools wr lo (.slice (some ⟨gp, 0, none⟩) pts.length cp) P' ∧ P'.length = pts.length ∧ (∀ e, P'.getD e false = (P.getD e false && !(decide (e < k) && lonV pts v e))) ∧ Onl (fun b => b = gp) w1 wr) (fun i _ => pts.length - (intOf i).toNat)
  case atStart => exact ⟨0, P, Nat.zero_le _, rfl, HP0.out, HL.out, fun e => by simp, Onl.refl _ _⟩
  case round =>
    obtain ⟨k, P', hk, rfl, hP', hl', hge, hon⟩ := hrel
    have HPW := Lib.hid hP'
    have HLW := Lib.hid hl'
    have HGE := Lib.hid hge
    have HON := Lib.hid hon
    have hsw := hon.size
    have hbo := (Onl.below hon (B := gp) (by omega) (fun k e => by have e' : k = gp := e; omega))
    have HPTS := Lib.hid ((HPS.out.low HB0.out hB).low hbo hgp)
    have HXW : Hid (wr.heap[w.heap.size]? = some (.cells #[.slice Af nf cf, .slice (some ⟨gp, 0, none⟩) pts.length cp] 99)) := Lib.hid ((hon.block w.heap.size (row_lt HX.out) (fun e => by have e' : w.heap.size = gp := e; omega)).trans HX.out)
    have b0 : wr.cell? ⟨w.heap.size, 0, none⟩ = some (.slice Af nf cf) := by rw [cell_of_row _ _ _ _ _ _ HXW.out]; rfl
    have b1 : wr.cell? ⟨w.heap.size, 1, none⟩ = some (.slice (some ⟨gp, 0, none⟩) pts.length cp) := by rw [cell_of_row _ _ _ _ _ _ HXW.out]; rfl
    clear hP' hl' hge hon hbo
    by_cases hlt : k < pts.length
    · obtain ⟨bp, op, cq, nv, e, hbp, hcq, hlp, hnx, z0, z1, z2, z3, z4⟩ := HPTS.out.get hlt
      injection e with e1 e9 e2
      subst e1 e2
      clear e9 hnx
      have HLV : Hid (lonV pts v k = (lonB pts[k] && ((pts[k]).y == v))) := Lib.hid (by unfold lonV; rw [List.getElem?_eq_getElem hlt])
      generalize pts[k] = Q at *
      have HNO : Hid (lonV pts v k = false → ∀ e, P'.getD e false = (P.getD e false && !(decide (e < k + 1) && lonV pts v e))) := Lib.hid fun h e => by
        rw [HGE.out e]
        by_cases h1 : e < k
        · rw [decide_eq_true h1, decide_eq_true (by omega)]
        · rw [decide_eq_false h1]
          by_cases h2 : e = k
          · rw [h2, h]; simp
          · rw [decide_eq_false (by omega)]
      have HYES : Hid (lonV pts v k = true → ∀ e, (P'.set k false).getD e false = (P.getD e false && !(decide (e < k + 1) && lonV pts v e))) := Lib.hid fun h e => by
        rw [getD_setT (by rw [HLW.out]; exact hlt)]
        by_cases h2 : e = k
        · rw [if_pos h2, h2, h]; simp
        · rw [if_neg h2, HGE.out e]
          by_cases h1 : e < k
          · rw [decide_eq_true h1, decide_eq_true (by omega)]
          · rw [decide_eq_false h1, decide_eq_false (by omega)]
      obtain ⟨g', eg, -, -, -, hcp2, hfp⟩ := HPW.out.at_ (k := k) (by rw [HLW.out]; exact hlt)
      injection eg with eg
      injection eg with eg
      subst eg
      by_cases hlo : lonB Q = true
      · by_cases hy : Q.y = v
        · have hye : (Q.y == v) = true := by simpa using hy
          have HE := Lib.hid (HYES.out (by rw [HLV.out, hlo, hye]; rfl))
          have hop : Q.op = 4 ∨ Q.op = 5 := lonB_iff.1 hlo
          clear hlo hy
          rcases hop with hop | hop
          · have ho4 : (Q.op == 4) = true := by rw [hop]; rfl
            clear hop
            go_wp2_with (at_builtin; fail)
            exact ⟨⟨k + 1, P'.set k false, by omega, by go_num, HPW.out.set k false, by rw [List.length_set]; exact HLW.out, HE.out, HON.out.trans (Onl.set (S := fun b => b = gp) _ rfl _ _)⟩, by simp [intOf] <;> omega⟩
          · have ho4 : (Q.op == 4) = false := by rw [hop]; rfl
            have ho5 : (Q.op == 5) = true := by rw [hop]; rfl
            clear hop
            go_wp2_with (at_builtin; fail)
            exact ⟨⟨k + 1, P'.set k false, by omega, by go_num, HPW.out.set k false, by rw [List.length_set]; exact HLW.out, HE.out, HON.out.trans (Onl.set (S := fun b => b = gp) _ rfl _ _)⟩, by simp [intOf] <;> omega⟩
        · have hye : (Q.y == v) = false := by simpa using hy
          have HE := Lib.hid (HNO.out (by rw [HLV.out, hye]; simp))
          have hop : Q.op = 4 ∨ Q.op = 5 := lonB_iff.1 hlo
          clear hlo hy
          rcases hop with hop | hop
          · have ho4 : (Q.op == 4) = true := by rw [hop]; rfl
            clear hop
            go_wp2_with (at_builtin; fail)
            exact ⟨⟨k + 1, P', by omega, by go_num, HPW.out, HLW.out, HE.out, HON.out⟩, by simp [intOf] <;> omega⟩
          · have ho4 : (Q.op == 4) = false := by rw [hop]; rfl
            have ho5 : (Q.op == 5) = true := by rw [hop]; rfl
            clear hop
            go_wp2_with (at_builtin; fail)
            exact ⟨⟨k + 1, P', by omega, by go_num, HPW.out, HLW.out, HE.out, HON.out⟩, by simp [intOf] <;> omega⟩
      · rw [Bool.not_eq_true] at hlo
        have HE := Lib.hid (HNO.out (by rw [HLV.out, hlo]; rfl))
        have ho4 : (Q.op == 4) = false := by
          cases h : (Q.op == 4)
          · rfl
          · unfold lonB at hlo; rw [h] at hlo; simp at hlo
        have ho5 : (Q.op == 5) = false := by
          cases h : (Q.op == 5)
          · rfl
          · unfold lonB at hlo; rw [h] at hlo; simp at hlo
        clear hlo
        go_wp2_with (at_builtin; fail)
        exact ⟨⟨k + 1, P', by omega, by go_num, HPW.out, HLW.out, HE.out, HON.out⟩, by simp [intOf] <;> omega⟩
    · have hke : k = pts.length := by omega
      have HFIN : Hid (∀ e, P'.getD e false = (P.getD e false && !lonV pts v e)) := Lib.hid fun e => by
        rw [HGE.out e, hke]
        by_cases h : e < pts.length
        · rw [decide_eq_true h, Bool.true_and]
        · unfold lonV; rw [List.getElem?_eq_none (by omega)]; simp
      clear hke
      go_wp2_with (at_builtin; fail)
      go_end0
      exact ⟨rfl, P', HPW.out, HLW.out, HFIN.out, (Onl.bel HB0.out).trans HON.out⟩

/-- what l4Within answers -/
def WinRet (w : World) (n s : Nat) (Fa : List (List Bool)) (Pa : List Bool) (Fb : List (List Bool)) (Pb : List Bool) (e : Ending) (w' : World) : Prop :=
  ∃ c, e = .returned (.bool c) ∧ (c = true → (∀ e, e < s → Pa.getD e false = true → Pb.getD e false = true) ∧ ∀ v e, v < n → e < s → rget Fa v e = true → rget Fb v e = true) ∧
    (c = false → (∃ e, e < s ∧ Pa.getD e false = true ∧ Pb.getD e false = false) ∨ ∃ v e, v < n ∧ e < s ∧ rget Fa v e = true ∧ rget Fb v e = false) ∧ Below w.heap.size w w'
set_option maxHeartbeats 4000000 in
set_option maxRecDepth 100000 in
theorem l4Within_any (vfa vpa vfb vpb : Value) (n s : Nat) (Fa : List (List Bool)) (Pa : List Bool) (Fb : List (List Bool)) (Pb : List Bool) (Qa Qb : Nat → Prop) (w : World) (hfa : RwX w Qa vfa Fa) (hpa : BoolX w Qa vpa Pa) (hfb : RwX w Qb vfb Fb) (hpb : BoolX w Qb vpb Pb)
    (h1 : Fa.length = n) (h2 : Fb.length = n) (h3 : Pa.length = s) (h4 : Pb.length = s) (h5 : ∀ v, v < n → (Fa.getD v []).length = s) (h6 : ∀ v, v < n → (Fb.getD v []).length = s) (hs : s ≤ 100) (hn : n ≤ 100) :
    Calls Try.prog 102 #[.agg #[vfa, vpa], .agg #[vfb, vpb]] w (WinRet w n s Fa Pa Fb Pb) := by
  obtain ⟨Afa, cfa, rfl, hcfa⟩ := hfa.slice
  obtain ⟨Apa, cpa, rfl, hcpa⟩ := hpa.slice
  obtain ⟨Afb, cfb, rfl, hcfb⟩ := hfb.slice
  obtain ⟨Apb, cpb, rfl, hcpb⟩ := hpb.slice
  have HX0 : Hid (((w.alloc (.cells #[.slice Afa Fa.length cfa, .slice Apa Pa.length cpa] 99 (0, 0))).alloc (.cells #[.slice Afb Fb.length cfb, .slice Apb Pb.length cpb] 99 (0, 0))).heap[w.heap.size]? = some (.cells #[.slice Afa Fa.length cfa, .slice Apa Pa.length cpa] 99 (0, 0))) := Lib.hid (row_below (heap_alloc_new w _) (bel_a _ _))
  have HX1 : Hid (((w.alloc (.cells #[.slice Afa Fa.length cfa, .slice Apa Pa.length cpa] 99 (0, 0))).alloc (.cells #[.slice Afb Fb.length cfb, .slice Apb Pb.length cpb] 99 (0, 0))).heap[w.heap.size + 1]? = some (.cells #[.slice Afb Fb.length cfb, .slice Apb Pb.length cpb] 99 (0, 0))) := Lib.hid (by
    have h := heap_alloc_new (w.alloc (.cells #[.slice Afa Fa.length cfa, .slice Apa Pa.length cpa] 99 (0, 0))) (.cells #[.slice Afb Fb.length cfb, .slice Apb Pb.length cpb] 99 (0, 0))
    rw [show (w.alloc (.cells #[.slice Afa Fa.length cfa, .slice Apa Pa.length cpa] 99 (0, 0))).heap.size = w.heap.size + 1 by simp] at h
    exact h)
  have HB0 : Hid (Below w.heap.size w ((w.alloc (.cells #[.slice Afa Fa.length cfa, .slice Apa Pa.length cpa] 99 (0, 0))).alloc (.cells #[.slice Afb Fb.length cfb, .slice Apb Pb.length cpb] 99 (0, 0)))) := Lib.hid ((bel_a w _).alloc (by simp) _)
  have HFA := Lib.hid (hfa.bel HB0.out)
  have HPA := Lib.hid (hpa.bel HB0.out)
  have HFB := Lib.hid (hfb.bel HB0.out)
  have HPB := Lib.hid (hpb.bel HB0.out)
  have HRA := Lib.hid h5
  have HRB := Lib.hid h6
  clear hfa hpa hfb hpb h5 h6
  have h3a : Pa.length ≤ s := by omega
  have h3b : s ≤ Pa.length := by omega
  have h4b : s ≤ Pb.length := by omega
  have h1a : Fa.length ≤ n := by omega
  have h1b : n ≤ Fa.length := by omega
  have h2b : n ≤ Fb.length := by omega
  have H3 := Lib.hid h3
  have H4 := Lib.hid h4
  clear h1 h2 h3 h4
  go_enter Try.func102, Try.ntmps102
  go_wp2_with (at_builtin; fail)
  generalize ((w.alloc (.cells #[.slice Afa Fa.length cfa, .slice Apa Pa.length cpa] 99 (0, 0))).alloc (.cells #[.slice Afb Fb.length cfb, .slice Apb Pb.length cpb] 99 (0, 0))) = w2 at *
  have a0 : w2.cell? ⟨w.heap.size, 0, none⟩ = some (.slice Afa Fa.length cfa) := by rw [cell_of_row _ _ _ _ _ _ HX0.out]; rfl
  have a1 : w2.cell? ⟨w.heap.size, 1, none⟩ = some (.slice Apa Pa.length cpa) := by rw [cell_of_row _ _ _ _ _ _ HX0.out]; rfl
  have d0 : w2.cell? ⟨w.heap.size + 1, 0, none⟩ = some (.slice Afb Fb.length cfb) := by rw [cell_of_row _ _ _ _ _ _ HX1.out]; rfl
  have d1 : w2.cell? ⟨w.heap.size + 1, 1, none⟩ = some (.slice Apb Pb.length cpb) := by rw [cell_of_row _ _ _ _ _ _ HX1.out]; rfl
  go_loopw [5] (fun i wr => ∃ k : Nat, k ≤ s ∧ i = .int .i64 k ∧ (∀ e, e < k → (Pa.getD e false = true → Pb.getD e false = true) ∧ ∀ v, v < n → rget Fa v e = true → rget Fb v e = true) ∧ w2 = wr) (fun i _ => s - (intOf i).toNat)
  case atStart => exact ⟨0, Nat.zero_le _, rfl, fun e he => by omega, rfl⟩
  case round =>
    obtain ⟨k, hk, rfl, hge, rfl⟩ := hrel
    have HGE := Lib.hid hge
    clear hge
    by_cases hlt : k < s
    · obtain ⟨b1, o1, rfl, -, hb1, e9, hca⟩ := HPA.out.at_ (k := k) (by omega)
      obtain ⟨b2, o2, rfl, -, hb2, e9, hcb⟩ := HPB.out.at_ (k := k) (by omega)
      have hka : k < Pa.length := by omega
      have hkb : k < Pb.length := by omega
      clear e9
      obtain ⟨x, hx⟩ : ∃ x, x = Pa.getD k false := ⟨_, rfl⟩
      obtain ⟨y, hy⟩ : ∃ y, y = Pb.getD k false := ⟨_, rfl⟩
      rw [← hx] at hca
      rw [← hy] at hcb
      have HX := Lib.hid hx
      have HY := Lib.hid hy
      clear hx hy
      by_cases hxy : x = true ∧ y = false
      · obtain ⟨rfl, rfl⟩ := hxy
        go_wp2_with (at_builtin; fail)
        go_ret
        exact ⟨false, rfl, fun h => (by cases h), fun _ => .inl ⟨k, hlt, HX.out.symm, HY.out.symm⟩, HB0.out⟩
      · have HXY : Hid (Pa.getD k false = true → Pb.getD k false = true) := Lib.hid fun h => by
          rw [← HX.out] at h; rw [← HY.out]
          cases y
          · exact absurd ⟨h, rfl⟩ hxy
          · rfl
        have hcase : x = false ∨ (x = true ∧ y = true) := by
          cases x
          · exact .inl rfl
          · cases y
            · exact absurd ⟨rfl, rfl⟩ hxy
            · exact .inr ⟨rfl, rfl⟩
        clear hxy
        go_upto_region 4 with (at_builtin; fail)
        go_cut [26] from 7 to 52 (fun s26 wx => s26 = .bool false ∧ w2 = wx)
        case first =>
          rcases hcase with rfl | ⟨rfl, rfl⟩
          · go_wp2_with (at_builtin; fail)
            go_meet
            exact ⟨rfl, rfl⟩
          · go_wp2_with (at_builtin; fail)
            go_meet
            exact ⟨rfl, rfl⟩
        case rest =>
          obtain ⟨rfl, rfl⟩ := hcut
          clear hcase hca hcb
          go_wp2_with (at_builtin; fail)
          go_loopw [6] (fun i wr => ∃ j : Nat, j ≤ n ∧ i = .int .i64 j ∧ (∀ v, v < j → rget Fa v k = true → rget Fb v k = true) ∧ w2 = wr) (fun i _ => n - (intOf i).toNat)
          case atStart => exact ⟨0, Nat.zero_le _, rfl, fun v hv => by omega, rfl⟩
          case round =>
            obtain ⟨j, hj, rfl, hje, rfl⟩ := hrel
            have HJE := Lib.hid hje
            clear hje
            by_cases hjl : j < n
            · obtain ⟨b3, o3, rv3, rfl, -, hb3, e9, hc3, hr3⟩ := HFA.out.at_ (i := j) (by omega)
              obtain ⟨b4, o4, rv4, rfl, -, hb4, e9, hc4, hr4⟩ := HFB.out.at_ (i := j) (by omega)
              have hlA : k < (Fa.getD j []).length := by rw [HRA.out j hjl]; exact hlt
              have hlB : k < (Fb.getD j []).length := by rw [HRB.out j hjl]; exact hlt
              have hjA : j < Fa.length := by omega
              have hjB : j < Fb.length := by omega
              have HGA : Hid (rget Fa j k = (Fa.getD j []).getD k false) := Lib.hid rfl
              have HGB : Hid (rget Fb j k = (Fb.getD j []).getD k false) := Lib.hid rfl
              generalize Fa.getD j [] = ra at *
              generalize Fb.getD j [] = rb at *
              obtain ⟨A3, c3, rfl, hcc3⟩ := hr3.slice
              obtain ⟨A4, c4, rfl, hcc4⟩ := hr4.slice
              obtain ⟨b5, o5, rfl, -, hb5, e9, hc5⟩ := hr3.at_ hlA
              obtain ⟨b6, o6, rfl, -, hb6, e9, hc6⟩ := hr4.at_ hlB
              clear e9 hr3 hr4
              rw [← HGA.out] at hc5
              rw [← HGB.out] at hc6
              have HPp : Hid (∃ p, p = rget Fa j k) := Lib.hid ⟨_, rfl⟩
              obtain ⟨p, hp⟩ : ∃ p, p = rget Fa j k := ⟨_, rfl⟩
              obtain ⟨q, hq⟩ : ∃ q, q = rget Fb j k := ⟨_, rfl⟩
              rw [← hp] at hc5
              rw [← hq] at hc6
              clear HPp
              have HPp := Lib.hid hp
              have HQq := Lib.hid hq
              clear hp hq
              by_cases hpq : p = true ∧ q = false
              · obtain ⟨rfl, rfl⟩ := hpq
                go_wp2_with (at_builtin; fail)
                go_ret
                exact ⟨false, rfl, fun h => (by cases h), fun _ => .inr ⟨j, k, hjl, hlt, HPp.out.symm, HQq.out.symm⟩, HB0.out⟩
              · have HPQ : Hid (∀ v, v < j + 1 → rget Fa v k = true → rget Fb v k = true) := Lib.hid fun v hv h => by
                  by_cases hvj : v < j
                  · exact HJE.out v hvj h
                  · have : v = j := by omega
                    subst this
                    rw [← HPp.out] at h; rw [← HQq.out]
                    cases q
                    · exact absurd ⟨h, rfl⟩ hpq
                    · rfl
                have hcase : p = false ∨ (p = true ∧ q = true) := by
                  cases p
                  · exact .inl rfl
                  · cases q
                    · exact absurd ⟨rfl, rfl⟩ hpq
                    · exact .inr ⟨rfl, rfl⟩
                clear hpq
                go_upto_region 9 with (at_builtin; fail)
                go_cut [52] from 27 to 52 (fun s52 wx => s52 = .bool false ∧ w2 = wx)
                case first =>
                  rcases hcase with rfl | ⟨rfl, rfl⟩
                  · go_wp2_with (at_builtin; fail)
                    go_meet
                    exact ⟨rfl, rfl⟩
                  · go_wp2_with (at_builtin; fail)
                    go_meet
                    exact ⟨rfl, rfl⟩
                case rest =>
                  obtain ⟨rfl, rfl⟩ := hcut
                  go_wp2_with (at_builtin; fail)
                  exact ⟨⟨j + 1, by omega, by go_num, HPQ.out, trivial⟩, by simp [intOf] <;> omega⟩
            · have hjn : j = n := by omega
              have HEN : Hid (∀ e, e < k + 1 → (Pa.getD e false = true → Pb.getD e false = true) ∧ ∀ v, v < n → rget Fa v e = true → rget Fb v e = true) := Lib.hid fun e he => by
                by_cases hek : e < k
                · exact HGE.out e hek
                · have : e = k := by omega
                  subst this
                  exact ⟨HXY.out, by rw [← hjn]; exact HJE.out⟩
              clear hjn
              go_wp2_with (at_builtin; fail)
              exact ⟨⟨k + 1, by omega, by go_num, HEN.out, trivial⟩, by simp [intOf] <;> omega⟩
    · have hks : k = s := by omega
      have HEN : Hid ((∀ e, e < s → Pa.getD e false = true → Pb.getD e false = true) ∧ ∀ v e, v < n → e < s → rget Fa v e = true → rget Fb v e = true) := Lib.hid (by
        rw [← hks]
        exact ⟨fun e he => (HGE.out e he).1, fun v e hv he => (HGE.out e he).2 v hv⟩)
      clear hks
      go_wp2_with (at_builtin; fail)
      go_ret
      exact ⟨true, rfl, fun _ => HEN.out, fun h => (by cases h), HB0.out⟩

end Go.Proofs.Ytfioaohadanjmaa
