import Derived.Test.YtidlifijgooceaaP26
import Derived.Test.YtidlifijgooceaaP18
import Derived.Test.YtidlifijgooceaaP29
import Derived.Test.YtidlifijgooceaaP30
set_option linter.unusedVariables false

/- append of a whole owned slice of statements; impl.SequenceOf. -/
namespace Go.Proofs.Ytidlifijgooceaa
open Go.RowKit

theorem run_app_sts_nil (w : World) (base : Nat) (ty : TypeId) (v : Value) (l : List St) (hP : OSt w base v l) (c : Nat) : (Builtin.append_ #[24, 24] ty #[v, .slice none 0 c]).run Try.prog w = .ok v w := by
  obtain ⟨i0, hi0, hz0, hz1, hz2⟩ := info_parts Try.infoSt
  obtain ⟨es, rfl, h2, -⟩ := hP
  rcases h2.2 with ⟨rfl, h0⟩ | ⟨g, cap, cur, rfl, _, _, hnc, _⟩
  · simp [Builtin.append_, run_underlying Try.underlying24, sizeOf, typeInfo, hi0, Builtin.lenOf, Builtin.firstCells]
  · simp [Builtin.append_, run_underlying Try.underlying24, sizeOf, typeInfo, hi0, Builtin.lenOf, Builtin.firstCells, hnc, storeCells]
/-- an owned row of statements, all of whose blocks lie below top -/
def OStU (w : World) (base top : Nat) (v : Value) (l : List St) : Prop :=
  ∃ es : List Se, l = es.map Se.st ∧ w.ownsRow base 87 6 v es.length (seCells es) ∧ (∀ g, v.ownBlock = some g → g < top) ∧
    ∀ e ∈ es, StX w (fun b => base ≤ b ∧ b < top ∧ v.ownBlock ≠ some b) e.tv e.th ∧ StX w (fun b => base ≤ b ∧ b < top ∧ v.ownBlock ≠ some b) e.ev e.el
theorem OSt.toU {w : World} {base : Nat} {v : Value} {l : List St} (h : OSt w base v l) : OStU w base w.heap.size v l := by
  have hlt := fun g e => (h.own_lt (g := g) e).2
  obtain ⟨es, rfl, h2, h3⟩ := h
  exact ⟨es, rfl, h2, hlt, fun e he => ⟨(h3 e he).1.frame (Nat.le_refl _) fun b hb hl => ⟨⟨hb.1, hl, hb.2⟩, rfl⟩, (h3 e he).2.frame (Nat.le_refl _) fun b hb hl => ⟨⟨hb.1, hl, hb.2⟩, rfl⟩⟩⟩
theorem OStU.below {w w' : World} {base top : Nat} {v : Value} {l : List St} (h : OStU w base top v l) (hb : Below w.heap.size w w') : OStU w' base top v l := by
  obtain ⟨es, rfl, h2, ht, h3⟩ := h
  have hg : w.grownBy w' none := grown_bel hb (Nat.le_refl _) none
  refine ⟨es, rfl, h2.kept hg ?_, ht, fun e he => ?_⟩
  · cases v.ownBlock <;> simp
  · obtain ⟨k1, k2⟩ := h3 e he
    exact ⟨k1.frame hb.size fun b hb' hl => ⟨hb', hb.block b hl⟩, k2.frame hb.size fun b hb' hl => ⟨hb', hb.block b hl⟩⟩
theorem OStU.toO {w : World} {base top : Nat} {v : Value} {l : List St} (h : OStU w base top v l) : OSt w base v l := by
  obtain ⟨es, rfl, h2, ht, h3⟩ := h
  exact ⟨es, rfl, h2, fun e he => ⟨(h3 e he).1.frame (Nat.le_refl _) fun b hb hl => ⟨⟨hb.1, hb.2.2⟩, rfl⟩, (h3 e he).2.frame (Nat.le_refl _) fun b hb hl => ⟨⟨hb.1, hb.2.2⟩, rfl⟩⟩⟩
theorem row_keep {W w' : World} {base n g : Nat} {v : Value} {xs : List Value} {t : TypeId} (h : w'.ownsRow base t 6 v n xs) (hne : v.ownBlock ≠ some g) (hk : ∀ b, b ≠ g → b < w'.heap.size → W.heap[b]? = w'.heap[b]?) : W.ownsRow base t 6 v n xs := by
  refine ⟨h.1, ?_⟩
  rcases h.2 with h' | ⟨g', cap, cur, rfl, hbg, hh, rest⟩
  · exact .inl h'
  · exact .inr ⟨g', cap, cur, rfl, hbg, (hk g' (fun e => hne (by rw [e]; rfl)) (row_lt hh)).trans hh, rest⟩
theorem run_app_sts (w : World) (base base2 top : Nat) (ty : TypeId) (v v2 : Value) (l l2 : List St) (hP : OStU w base top v l) (hQ : OSt w base2 v2 l2) (hbb : base ≤ top) (htb : top < base2) (htw : top < w.heap.size) (hn : l.length + l2.length ≤ 4194304) :
    ∃ v' w', (Builtin.append_ #[24, 24] ty #[v, v2]).run Try.prog w = .ok v' w' ∧ w.grownBy w' v.ownBlock ∧ (v'.ownBlock = v.ownBlock ∨ v'.ownBlock = some w.heap.size) ∧
      ∀ W : World, w'.heap.size ≤ W.heap.size → (∀ b, b ≠ top → b < w'.heap.size → W.heap[b]? = w'.heap[b]?) → OSt W base v' (l ++ l2) := by
  have hP0 := hP.toO
  have hb : base ≤ w.heap.size := by omega
  obtain ⟨es2, rfl, k2, k3⟩ := hQ
  rcases k2.2 with ⟨rfl, h0⟩ | ⟨g2, cap2, cur2, rfl, hg2, hh2, hnc2, hcm2, hcs2, htk2⟩
  · have : es2 = [] := List.length_eq_zero_iff.1 h0
    subst this
    obtain ⟨es, rfl, h2, ht, h3⟩ := hP
    refine ⟨v, w, run_app_sts_nil w base ty v _ hP0 0, World.grownBy.refl w _, .inl rfl, fun W hs hk => ?_⟩
    have hf : ∀ b, (base ≤ b ∧ b < top ∧ v.ownBlock ≠ some b) → b < w.heap.size → (base ≤ b ∧ v.ownBlock ≠ some b) ∧ W.heap[b]? = w.heap[b]? := fun b hb' hl => ⟨⟨hb'.1, hb'.2.2⟩, hk b (by omega) hl⟩
    exact ⟨es, by simp, row_keep h2 (fun e => by have := ht _ e; omega) hk, fun e he => ⟨(h3 e he).1.frame hs hf, (h3 e he).2.frame hs hf⟩⟩
  · obtain ⟨i0, hi0, hz0, hz1, hz2⟩ := info_parts Try.infoSt
    obtain ⟨es, rfl, h2, ht, h3⟩ := hP
    have hrow2 : w.ownsRow base2 87 6 (.slice (some ⟨g2, 0, none⟩) es2.length cap2) es2.length (seCells es2) := k2
    obtain ⟨v', w', hrun, q1, q2, -, q4⟩ := run_append_own_at (P := Try.prog) w base 24 ty 87 i0 _ 6 80 Try.underlying24 hi0 hz0 hz1 hz2 rfl (by omega) v es.length _ h2 ⟨g2, 0, none⟩ es2.length cap2 (seCells es2) (seCells_len es2)
      (fun j u h => by
        have hj : j < (seCells es2).length := by
          rcases Nat.lt_or_ge j (seCells es2).length with h' | h'
          · exact h'
          · rw [List.getElem?_eq_none h'] at h; cases h
        have := hrow2.cellAt j (by rw [seCells_len] at hj; omega)
        rw [h] at this
        unfold Addr.add
        by_cases hj0 : j = 0
        · subst hj0; simpa using this
        · simpa [hj0] using this)
      (fun u hu => by
        have : ∀ (es : List Se), (∀ e ∈ es, Value.oneCell' e.tv = true ∧ Value.oneCell' e.ev = true) → ∀ u ∈ seCells es, u.oneCell' = true := by
          intro es
          induction es with
          | nil => intro _ u hu; simp [seCells] at hu
          | cons e r ih =>
            intro he u hu
            simp only [seCells, List.mem_cons] at hu
            have h0 := he e (by simp)
            rcases hu with rfl | rfl | rfl | rfl | rfl | rfl | hu
            · rfl
            · rfl
            · rfl
            · rfl
            · exact h0.1
            · exact h0.2
            · exact ih (fun e' h' => he e' (by simp [h'])) u hu
        exact this es2 (fun e he => ⟨(k3 e he).1.one, (k3 e he).2.one⟩) u hu)
      (by simp at hn; simp only [maxLen]; omega) (by simp at hn; omega) hb
    refine ⟨v', w', hrun, q2, q4, fun W hs hk => ?_⟩
    have hs2 := q2.size
    have hf1 : ∀ b, (base ≤ b ∧ b < top ∧ v.ownBlock ≠ some b) → b < w.heap.size → (base ≤ b ∧ v'.ownBlock ≠ some b) ∧ W.heap[b]? = w.heap[b]? := by
      intro b hb' hl
      refine ⟨⟨hb'.1, ?_⟩, (hk b (by omega) (by omega)).trans (q2.block b hl (fun e => hb'.2.2 e.symm))⟩
      rcases q4 with hv | hv
      · rw [hv]; exact hb'.2.2
      · rw [hv]; intro e; injection e with e; omega
    have hf2 : ∀ b, (base2 ≤ b ∧ (Value.slice (some ⟨g2, 0, none⟩) es2.length cap2).ownBlock ≠ some b) → b < w.heap.size → (base ≤ b ∧ v'.ownBlock ≠ some b) ∧ W.heap[b]? = w.heap[b]? := by
      intro b hb' hl
      have hnv : v.ownBlock ≠ some b := fun e => by have := ht _ e; omega
      refine ⟨⟨by omega, ?_⟩, (hk b (by omega) (by omega)).trans (q2.block b hl (fun e => hnv e.symm))⟩
      rcases q4 with hv | hv
      · rw [hv]; exact hnv
      · rw [hv]; intro e; injection e with e; omega
    refine ⟨es ++ es2, by simp, ?_, ?_⟩
    · rw [seCells_append, List.length_append]
      refine row_keep q1 (fun e => ?_) hk
      rcases q4 with hv | hv
      · rw [hv] at e; have := ht _ e; omega
      · rw [hv] at e; injection e with e; omega
    · intro e he
      rcases List.mem_append.1 he with he | he
      · obtain ⟨a, b⟩ := h3 e he
        exact ⟨a.frame (by omega) hf1, b.frame (by omega) hf1⟩
      · obtain ⟨a, b⟩ := k3 e he
        exact ⟨a.frame (by omega) hf2, b.frame (by omega) hf2⟩
theorem step_app_sts {ops : Array Oper} {o : Oper} {a : Act} {K : Act → World → Prop} {Q : Exit → Act → World → Prop} {E : Prop} {w : World} (hgd : o.guard = none) (s x : Operand)
    (ho : o.op = .call { callee := .builtin .append, args := #[s, x], argTypes := #[24, 24] })
    (base base2 top : Nat) (v v2 : Value) (l l2 : List St) (hs : a.eval s = v) (hP : OStU w base top v l) (hx : a.eval x = v2) (hQ : OSt w base2 v2 l2) (hbb : base ≤ top) (htb : top < base2) (htw : top < w.heap.size) (hn : l.length + l2.length ≤ 4194304)
    (h : ∀ v' w', w.grownBy w' v.ownBlock → (∀ W : World, w'.heap.size ≤ W.heap.size → (∀ b, b ≠ top → b < w'.heap.size → W.heap[b]? = w'.heap[b]?) → OSt W base v' (l ++ l2)) → K (a.put o.dst v') w') :
    if Region.wanted o (yielded ops a.tmps) = true then Oper.wp Try.prog o a w K Q else E := by
  have hw : Region.wanted o (yielded ops a.tmps) = true := by simp [Region.wanted, hgd]
  rw [if_pos hw]
  obtain ⟨v', w', hrun, h3, -, h4⟩ := run_app_sts w base base2 top o.type v v2 l l2 hP hQ hbb htb htw hn
  unfold Oper.wp execOp
  simp only [ho, resolve, invoke, builtin, Sem.run_bind, Sem.run_pure, Result.andThen_ok, List.map_toArray, List.map_cons, List.map_nil, hs, hx, hrun]
  exact h v' w' h3 h4
theorem boxR {w : World} {g : Nat} {t : TypeId} {v0 v1 : Value} (h : RowB w g t [v0, v1]) (u0 u1 : Value) : ((w.setCell ⟨g, 0, none⟩ u0).setCell ⟨g, 1, none⟩ u1).heap[g]? = some (.cells #[u0, u1] t (0, 0)) := ((h.set_ 0 u0).set_ 1 u1)
theorem OInts.moveTo {w w' : World} {base lo : Nat} {v : Value} {l : List Int} (h : OInts w base v l) (hne : ∀ g, v.ownBlock = some g → g < lo) (hk : ∀ b, base ≤ b → b < lo → w'.heap[b]? = w.heap[b]?) : OInts w' base v l := by
  refine ⟨h.1, ?_⟩
  rcases h.2 with h' | ⟨g, cap, cur, rfl, hbg, hh, rest⟩
  · exact .inl h'
  · exact .inr ⟨g, cap, cur, rfl, hbg, (hk g hbg (hne g rfl)).trans hh, rest⟩
theorem cat_close {w3 w4 w6 w7 : World} {lo : Nat} {v4 v7 x y : Value} {T : TypeId} {l : List St} (h34 : Below w3.heap.size w3 w4) (hlo : w3.heap.size ≤ lo) (hlo4 : lo ≤ w4.heap.size) (how : ∀ g, v4.ownBlock = some g → lo ≤ g)
    (h46 : Below w4.heap.size w4 w6) (hg7 : w6.grownBy w7 v4.ownBlock) (hX : RowB w7 w4.heap.size T [x, y]) (hK : ∀ W : World, w7.heap.size ≤ W.heap.size → (∀ b, b ≠ w4.heap.size → b < w7.heap.size → W.heap[b]? = w7.heap[b]?) → OSt W lo v7 l) :
    OSt (w7.setCell ⟨w4.heap.size, 1, none⟩ v7) lo v7 l ∧ RowB (w7.setCell ⟨w4.heap.size, 1, none⟩ v7) w4.heap.size T [x, v7] ∧ Below w3.heap.size w3 (w7.setCell ⟨w4.heap.size, 1, none⟩ v7) ∧
      (∀ b, b < lo → (w7.setCell ⟨w4.heap.size, 1, none⟩ v7).heap[b]? = w4.heap[b]?) ∧ w4.heap.size < (w7.setCell ⟨w4.heap.size, 1, none⟩ v7).heap.size := by
  have hset : ∀ b, b ≠ w4.heap.size → (w7.setCell ⟨w4.heap.size, 1, none⟩ v7).heap[b]? = w7.heap[b]? := fun b hb => Below.heap_setCell w7 ⟨w4.heap.size, 1, none⟩ v7 b hb
  have hsz : (w7.setCell ⟨w4.heap.size, 1, none⟩ v7).heap.size = w7.heap.size := by simp [World.setCell]
  have hs3 := h34.size
  have hs6 := h46.size
  have hs7 := hg7.size
  have h67 : Below lo w6 w7 := ⟨hg7.os, hg7.tape, hg7.output, hg7.size, fun b hb => hg7.block b (by omega) (fun e => by have := how b e.symm; omega)⟩
  refine ⟨hK _ (by omega) fun b hb _ => hset b hb, hX.set_ 1 v7, ?_, fun b hb => ?_, by have := hX.lt; omega⟩
  · exact (h34.trans ((h46.mono hs3).trans (h67.mono hlo))).setCell (p := ⟨w4.heap.size, 1, none⟩) hs3 _
  · exact (hset b (by omega)).trans ((h67.block b hb).trans (h46.block b (by omega)))
def catOk (ts ts' : List Int) (la lb : List St) : Bool := validP ts la && (validP ts' lb && (eqP ts ts' && validP ts (la ++ lb)))
def CatRet (w : World) (ts ts' : List Int) (la lb : List St) (e : Ending) (w' : World) : Prop :=
  ∃ vt vb, e = .returned (.tuple #[.agg #[vt, vb], .bool (catOk ts ts' la lb)]) ∧ IntS w' w'.heap.size vt (if catOk ts ts' la lb then ts else []) ∧ StS w' w'.heap.size vb (if catOk ts ts' la lb then la ++ lb else []) ∧ Below w.heap.size w w'
set_option maxHeartbeats 4000000 in
set_option maxRecDepth 100000 in
theorem iSequenceOf_any (vt vb vt' vb' : Value) (ts ts' : List Int) (la lb : List St) (B : Nat) (w : World) (ht : IntS w B vt ts) (hl : StS w B vb la) (ht' : IntS w B vt' ts') (hl' : StS w B vb' lb) (hB : B ≤ w.heap.size) (hts : ts.length ≤ 4000000) (hsz : szL la + szL lb ≤ 4194000) :
    Calls Try.prog 19 #[.agg #[vt, vb], .agg #[vt', vb']] w (CatRet w ts ts' la lb) := by
  have hlla := len_le_szL la
  have hllb := len_le_szL lb
  have ht0 := ht
  have ht0' := ht'
  obtain ⟨At, ct, rfl, -, -, -⟩ := ht0
  obtain ⟨Ab, cb, rfl, -⟩ := hl.slice
  obtain ⟨At', ct', rfl, -, -, -⟩ := ht0'
  obtain ⟨Ab', cb', rfl, -⟩ := hl'.slice
  have HR0 := Lib.hid (((RowB.new w [.slice At ts.length ct, .slice Ab la.length cb] 26).alloc (.cells #[.slice At' ts'.length ct', .slice Ab' lb.length cb'] 26)).alloc (.cells #[.slice none 0 0, .slice none 0 0] 26))
  have HR1 := Lib.hid ((RowB.new (w.alloc (.cells #[.slice At ts.length ct, .slice Ab la.length cb] 26)) [.slice At' ts'.length ct', .slice Ab' lb.length cb'] 26).alloc (.cells #[.slice none 0 0, .slice none 0 0] 26))
  have HR2 := Lib.hid (RowB.new ((w.alloc (.cells #[.slice At ts.length ct, .slice Ab la.length cb] 26)).alloc (.cells #[.slice At' ts'.length ct', .slice Ab' lb.length cb'] 26)) [.slice none 0 0, .slice none 0 0] 26)
  have HB0 := Lib.hid (((bel_a w (.cells #[.slice At ts.length ct, .slice Ab la.length cb] 26)).alloc (by simp) (.cells #[.slice At' ts'.length ct', .slice Ab' lb.length cb'] 26)).alloc (by simp; omega) (.cells #[.slice none 0 0, .slice none 0 0] 26))
  have hz1 : (w.alloc (.cells #[.slice At ts.length ct, .slice Ab la.length cb] 26)).heap.size = w.heap.size + 1 := by simp
  have hz2 : ((w.alloc (.cells #[.slice At ts.length ct, .slice Ab la.length cb] 26)).alloc (.cells #[.slice At' ts'.length ct', .slice Ab' lb.length cb'] 26)).heap.size = w.heap.size + 2 := by simp
  rw [hz1] at HR1
  rw [hz2] at HR2
  have HT := Lib.hid ht
  have HL := Lib.hid hl
  have HT' := Lib.hid ht'
  have HL' := Lib.hid hl'
  clear hz1 hz2 ht hl ht' hl'
  go_enter Try.func19, Try.ntmps19
  go_upto_region 1 with (at_builtin; fail)
  generalize ((w.alloc (.cells #[.slice At ts.length ct, .slice Ab la.length cb] 26)).alloc (.cells #[.slice At' ts'.length ct', .slice Ab' lb.length cb'] 26)).alloc (.cells #[.slice none 0 0, .slice none 0 0] 26) = W at *
  have FAIL : Hid (catOk ts ts' la lb = false → ∀ W', Below w.heap.size w W' → CatRet w ts ts' la lb (.returned (.tuple #[.agg #[.slice none 0 0, .slice none 0 0], .bool false])) W') := Lib.hid fun h W' hW => by
    refine ⟨_, _, by rw [h], ?_, ?_, hW⟩ <;> rw [h] <;> first | exact IntS.nil' _ _ _ _ | exact StS.zero _
  have c0 := HR0.out.cell 0
  have c1 := HR0.out.cell 1
  have d0 := HR1.out.cell 0
  have d1 := HR1.out.cell 1
  simp only [List.getElem?_cons_zero, List.getElem?_cons_succ] at c0 c1 d0 d1
  have hsW := HB0.out.size
  go_wp2_with (at_builtin; fail)
  refine (iProgramValid_any _ _ ts la B W (HT.out.low HB0.out hB) (HL.out.low HB0.out hB) (by omega) (by omega)).mono ?_
  rintro e w1 ⟨rfl, hb1⟩
  have HB1 := Lib.hid (HB0.out.trans (hb1.mono hsW))
  have HR0 := Lib.hid (HR0.out.low hb1 HR0.out.lt)
  have HR1 := Lib.hid (HR1.out.low hb1 HR1.out.lt)
  have HR2 := Lib.hid (HR2.out.low hb1 HR2.out.lt)
  clear c0 c1 d0 d1 hb1
  have c0 := HR0.out.cell 0
  have c1 := HR0.out.cell 1
  have d0 := HR1.out.cell 0
  have d1 := HR1.out.cell 1
  have y0 := HR2.out.cell 0
  have y1 := HR2.out.cell 1
  have yf0 := HR2.out.frozen 0
  have yf1 := HR2.out.frozen 1
  simp only [List.getElem?_cons_zero, List.getElem?_cons_succ] at c0 c1 d0 d1 y0 y1
  have hs1 := HB1.out.size
  cases hok : validP ts la
  · have HNO := Lib.hid (FAIL.out (by unfold catOk; rw [hok]; rfl))
    clear hok
    go_wp2_with (at_builtin; fail)
    refine bodyPost_ret (res_box (u := 5) rfl _ _ (w.heap.size + 1 + 1) 26 _ (0, 0) _ rfl (boxR HR2.out (.slice none 0 0) (.slice none 0 0)) Try.underlying26 rfl rfl) rfl ?_
    exact HNO.out _ ((HB1.out.setCell (p := ⟨w.heap.size + 1 + 1, 0, none⟩) (by show w.heap.size ≤ w.heap.size + 1 + 1; omega) _).setCell (p := ⟨w.heap.size + 1 + 1, 1, none⟩) (by show w.heap.size ≤ w.heap.size + 1 + 1; omega) _)
  · have HVA := Lib.hid hok
    clear hok
    go_wp2_with (at_builtin; fail)
    refine (iProgramValid_any _ _ ts' lb B w1 (HT'.out.low HB1.out hB) (HL'.out.low HB1.out hB) (by omega) (by omega)).mono ?_
    rintro e w2 ⟨rfl, hb2⟩
    have HB2 := Lib.hid (HB1.out.trans (hb2.mono hs1))
    have HR0 := Lib.hid (HR0.out.low hb2 HR0.out.lt)
    have HR1 := Lib.hid (HR1.out.low hb2 HR1.out.lt)
    have HR2 := Lib.hid (HR2.out.low hb2 HR2.out.lt)
    clear c0 c1 d0 d1 y0 y1 yf0 yf1 hb2
    have c0 := HR0.out.cell 0
    have c1 := HR0.out.cell 1
    have d0 := HR1.out.cell 0
    have d1 := HR1.out.cell 1
    have y0 := HR2.out.cell 0
    have y1 := HR2.out.cell 1
    have yf0 := HR2.out.frozen 0
    have yf1 := HR2.out.frozen 1
    simp only [List.getElem?_cons_zero, List.getElem?_cons_succ] at c0 c1 d0 d1 y0 y1
    have hs2 := HB2.out.size
    cases hok : validP ts' lb
    · have HNO := Lib.hid (FAIL.out (by unfold catOk; rw [HVA.out, hok]; rfl))
      clear hok
      go_wp2_with (at_builtin; fail)
      refine bodyPost_ret (res_box (u := 5) rfl _ _ (w.heap.size + 1 + 1) 26 _ (0, 0) _ rfl (boxR HR2.out (.slice none 0 0) (.slice none 0 0)) Try.underlying26 rfl rfl) rfl ?_
      exact HNO.out _ ((HB2.out.setCell (p := ⟨w.heap.size + 1 + 1, 0, none⟩) (by show w.heap.size ≤ w.heap.size + 1 + 1; omega) _).setCell (p := ⟨w.heap.size + 1 + 1, 1, none⟩) (by show w.heap.size ≤ w.heap.size + 1 + 1; omega) _)
    · have HVB := Lib.hid hok
      clear hok
      go_wp2_with (at_builtin; fail)
      refine (equal_any _ _ ts ts' B w2 (HT.out.low HB2.out hB) (HT'.out.low HB2.out hB)).mono ?_
      rintro e w3 ⟨rfl, hn3⟩
      have hb3 := below_of_drewN hn3 w2.heap.size
      clear hn3
      have HB3 := Lib.hid (HB2.out.trans (hb3.mono hs2))
      have HR0 := Lib.hid (HR0.out.low hb3 HR0.out.lt)
      have HR1 := Lib.hid (HR1.out.low hb3 HR1.out.lt)
      have HR2 := Lib.hid (HR2.out.low hb3 HR2.out.lt)
      clear c0 c1 d0 d1 y0 y1 yf0 yf1 hb3
      have c0 := HR0.out.cell 0
      have c1 := HR0.out.cell 1
      have d0 := HR1.out.cell 0
      have d1 := HR1.out.cell 1
      have y0 := HR2.out.cell 0
      have y1 := HR2.out.cell 1
      have yf0 := HR2.out.frozen 0
      have yf1 := HR2.out.frozen 1
      simp only [List.getElem?_cons_zero, List.getElem?_cons_succ] at c0 c1 d0 d1 y0 y1
      have hs3 := HB3.out.size
      cases hok : eqP ts ts'
      · have HNO := Lib.hid (FAIL.out (by unfold catOk; rw [HVA.out, HVB.out, hok]; rfl))
        clear hok
        go_wp2_with (at_builtin; fail)
        refine bodyPost_ret (res_box (u := 5) rfl _ _ (w.heap.size + 1 + 1) 26 _ (0, 0) _ rfl (boxR HR2.out (.slice none 0 0) (.slice none 0 0)) Try.underlying26 rfl rfl) rfl ?_
        exact HNO.out _ ((HB3.out.setCell (p := ⟨w.heap.size + 1 + 1, 0, none⟩) (by show w.heap.size ≤ w.heap.size + 1 + 1; omega) _).setCell (p := ⟨w.heap.size + 1 + 1, 1, none⟩) (by show w.heap.size ≤ w.heap.size + 1 + 1; omega) _)
      · have HEQ := Lib.hid hok
        clear hok
        go_wp2_with (at_builtin; fail)
        have HW3 := Lib.hid (show w.heap.size + 1 + 1 < w3.heap.size from HR2.out.lt)
        refine (pown_any _ _ ts la B w3 (HT.out.low HB3.out hB) (HL.out.low HB3.out hB) (by omega) hts (by omega)).mono ?_
        rintro e w4 ⟨v4, u4, lo, rfl, hoi4, hne4, hos4, hlo4, hlo4', hb4⟩
        obtain ⟨P4, p4, rfl, -⟩ := hoi4.slice
        obtain ⟨Q4, q4, rfl, -⟩ := hos4.slice
        have HOI4 := Lib.hid hoi4
        have HNE4 := Lib.hid hne4
        have HOS4 := Lib.hid hos4
        have HB34 := Lib.hid hb4
        have h34 := hb4.size
        clear hoi4 hne4 hos4
        have HB4 := Lib.hid (HB3.out.trans (hb4.mono hs3))
        have HR0 := Lib.hid (HR0.out.low hb4 HR0.out.lt)
        have HR1 := Lib.hid (HR1.out.low hb4 HR1.out.lt)
        have HR2 := Lib.hid (HR2.out.low hb4 HR2.out.lt)
        clear c0 c1 d0 d1 y0 y1 yf0 yf1 hb4
        have c0 := HR0.out.cell 0
        have c1 := HR0.out.cell 1
        have d0 := HR1.out.cell 0
        have d1 := HR1.out.cell 1
        have y0 := HR2.out.cell 0
        have y1 := HR2.out.cell 1
        have yf0 := HR2.out.frozen 0
        have yf1 := HR2.out.frozen 1
        simp only [List.getElem?_cons_zero, List.getElem?_cons_succ] at c0 c1 d0 d1 y0 y1
        have hs4 := HB4.out.size
        go_upto_region 4 with (at_builtin; fail)
        have HX5 := Lib.hid (RowB.new w4 [.slice P4 ts.length p4, .slice Q4 la.length q4] 26)
        have HB5 := Lib.hid (bel_a w4 (.cells #[.slice P4 ts.length p4, .slice Q4 la.length q4] 26))
        have HU5 := Lib.hid (HOS4.out.toU.below HB5.out)
        have HHOW := Lib.hid (fun g e => (HOS4.out.own_lt (g := g) e))
        have hd5 := (HB5.out.cell (p := ⟨w.heap.size + 1, 1, none⟩) HR1.out.lt).trans d1
        generalize w4.alloc (.cells #[.slice P4 ts.length p4, .slice Q4 la.length q4] 26) = w5 at *
        have hs5 := HX5.out.lt
        have o1 := HX5.out.cell 1
        simp only [List.getElem?_cons_zero, List.getElem?_cons_succ] at o1
        go_cut [] from 26 to 32 (fun wx => ∃ Q7 q7, OSt wx lo (.slice Q7 (la.length + lb.length) q7) (la ++ lb) ∧ RowB wx w4.heap.size 26 [.slice P4 ts.length p4, .slice Q7 (la.length + lb.length) q7] ∧ Below w3.heap.size w3 wx ∧ (∀ b, b < lo → wx.heap[b]? = w4.heap[b]?) ∧ w4.heap.size < wx.heap.size)
        case first =>
          have C6 := Lib.hid (own_any (szL lb) (by omega) (.slice Ab' lb.length cb') lb B w5.drew (Nat.le_refl _) (((HL'.out.low HB4.out hB).low HB5.out (by omega)).keep fun _ _ _ => rfl) (by show B ≤ w5.heap.size; omega))
          have tok1 : True := trivial
          go_region_law (first
            | (have _t := tok2; refine step_app_sts (by rfl) (.tmp 27) (.tmp 30) (by rfl) lo w5.heap.size w4.heap.size (.slice Q4 la.length q4) (.slice Q6 lb.length q6) la lb (by rfl) HU6.out (by rfl) HOS6.out hlo4' hs5 (by omega) (by omega) ?_; intro v7 w7 hg7 hK7; clear tok2 _t; (obtain ⟨Q7, q7, hq7, -⟩ := (hK7 w7 (Nat.le_refl _) fun _ _ _ => rfl).slice); (rw [List.length_append] at hq7); (subst hq7); (have HG7 := Lib.hid hg7); (have HK7 := Lib.hid hK7); (have HX7 : Hid (RowB w7 w4.heap.size 26 [.slice P4 ts.length p4, .slice Q4 la.length q4]) := Lib.hid ((hg7.block w4.heap.size (by omega) (fun e => by have := (HHOW.out _ e.symm).2; omega)).trans HX6.out)); (have o7 := HX7.out.cell 1); (have of7 := HX7.out.frozen 1); (simp only [List.getElem?_cons_zero, List.getElem?_cons_succ] at o7); clear hg7 hK7)
            | (have _t := tok1; go_simp; go_at_call 60; refine C6.out.mono ?_; rintro e w6 ⟨v6, rfl, hos6, hb6⟩; clear tok1 _t; (obtain ⟨Q6, q6, rfl, -⟩ := hos6.slice); (have HOS6 := Lib.hid (show OSt w6 w5.heap.size (.slice Q6 lb.length q6) lb from hos6)); (have HB6 := Lib.hid (show Below w5.heap.size w5 w6 from (Below.refl w5.heap.size w5).drew.trans hb6)); (have HU6 := Lib.hid (HU5.out.below HB6.out)); (have HX6 := Lib.hid (HX5.out.low HB6.out hs5)); (have o6 := (HB6.out.cell (p := ⟨w4.heap.size, 1, none⟩) hs5).trans o1); (have hs6 := HB6.out.size); clear hos6 hb6; (have tok2 : True := trivial))
            | fail)
          all_goals
            go_wp2_with (at_builtin; fail)
            go_meet
            exact ⟨_, _, cat_close HB34.out hlo4 hlo4' (fun g e => (HHOW.out g e).1) (HB5.out.trans (HB6.out.mono (by omega))) HG7.out HX7.out HK7.out⟩
        case rest =>
          rename World => w8
          obtain ⟨Q7, q7, hos8, hx8, hb8, hk8, hs8⟩ := hcut
          have HOS8 := Lib.hid hos8
          have HX8 := Lib.hid hx8
          have HW38 := HW3.out
          have HR2 := Lib.hid ((hk8 (w.heap.size + 1 + 1) (by omega)).trans HR2.out)
          have HOI8 := Lib.hid (HOI4.out.moveTo HNE4.out fun b _ h => hk8 b h)
          have HB8 := Lib.hid (HB3.out.trans (hb8.mono hs3))
          have hs38 := hb8.size
          clear hos8 hx8 hb8 hk8 c0 c1 d0 d1 y0 y1 yf0 yf1 hd5 o1
          have o0 := HX8.out.cell 0
          have o1 := HX8.out.cell 1
          simp only [List.getElem?_cons_zero, List.getElem?_cons_succ] at o0 o1
          go_wp2_with (at_builtin; fail)
          refine (iProgramValid_any _ _ ts (la ++ lb) w8.heap.size w8 (HOI8.out.toS (by omega)) (by have := HOS8.out.toX.toS; exact this) (Nat.le_refl _) (by rw [szL_append]; omega)).mono ?_
          rintro e w9 ⟨rfl, hb9⟩
          have HR2 : Hid (RowB w9 (w.heap.size + 1 + 1) 26 [.slice none 0 0, .slice none 0 0]) := Lib.hid (RowB.low HR2.out hb9 (by omega))
          have HX9 := Lib.hid (HX8.out.low hb9 HX8.out.lt)
          have HB9 := Lib.hid (HB8.out.trans (hb9.mono (by omega)))
          have HBS := Lib.hid hb9
          have hs9 := hb9.size
          clear o0 o1 hb9
          have o0 := HX9.out.cell 0
          have o1 := HX9.out.cell 1
          have y0 := HR2.out.cell 0
          have y1 := HR2.out.cell 1
          have yf0 := HR2.out.frozen 0
          have yf1 := HR2.out.frozen 1
          simp only [List.getElem?_cons_zero, List.getElem?_cons_succ] at o0 o1 y0 y1
          cases hok : validP ts (la ++ lb)
          · have HNO := Lib.hid (FAIL.out (by unfold catOk; rw [HVA.out, HVB.out, HEQ.out, hok]; rfl))
            clear hok
            go_wp2_with (at_builtin; fail)
            refine bodyPost_ret (res_box (u := 5) rfl _ _ (w.heap.size + 1 + 1) 26 _ (0, 0) _ rfl (boxR HR2.out (.slice none 0 0) (.slice none 0 0)) Try.underlying26 rfl rfl) rfl ?_
            exact HNO.out _ ((HB9.out.setCell (p := ⟨w.heap.size + 1 + 1, 0, none⟩) (by show w.heap.size ≤ w.heap.size + 1 + 1; omega) _).setCell (p := ⟨w.heap.size + 1 + 1, 1, none⟩) (by show w.heap.size ≤ w.heap.size + 1 + 1; omega) _)
          · have HOK : Hid (catOk ts ts' la lb = true) := Lib.hid (by unfold catOk; rw [HVA.out, HVB.out, HEQ.out, hok]; rfl)
            clear hok
            go_wp2_with (at_builtin; fail)
            refine bodyPost_ret (res_box (u := 5) rfl _ _ (w.heap.size + 1 + 1) 26 _ (0, 0) _ rfl (boxR HR2.out (.slice P4 ts.length p4) (.slice Q7 (la.length + lb.length) q7)) Try.underlying26 rfl rfl) rfl ?_
            have hset : ∀ b, b ≠ w.heap.size + 1 + 1 → ((w9.setCell ⟨w.heap.size + 1 + 1, 0, none⟩ (.slice P4 ts.length p4)).setCell ⟨w.heap.size + 1 + 1, 1, none⟩ (.slice Q7 (la.length + lb.length) q7)).heap[b]? = w9.heap[b]? := fun b hb => by
              rw [Below.heap_setCell _ _ _ _ hb, Below.heap_setCell _ _ _ _ hb]
            have F := own_reads (w' := (w9.setCell ⟨w.heap.size + 1 + 1, 0, none⟩ (.slice P4 ts.length p4)).setCell ⟨w.heap.size + 1 + 1, 1, none⟩ (.slice Q7 (la.length + lb.length) q7)) HOI8.out HOS8.out hlo4 (by simp only [World.size_setCell]; exact hs9) (fun b h1 h2 => (hset b (by omega)).trans (HBS.out.block b h2)) hts
            refine ⟨_, _, by rw [HOK.out]; rfl, ?_, ?_, (HB9.out.setCell (p := ⟨w.heap.size + 1 + 1, 0, none⟩) (by show w.heap.size ≤ w.heap.size + 1 + 1; omega) _).setCell (p := ⟨w.heap.size + 1 + 1, 1, none⟩) (by show w.heap.size ≤ w.heap.size + 1 + 1; omega) _⟩
            · rw [HOK.out]; exact F.1
            · rw [HOK.out]; exact F.2
end Go.Proofs.Ytidlifijgooceaa

/- FnPartsFollow: the walk. -/
namespace Go.Proofs.Ytidlifijgooceaa
open Go.RowKit

set_option maxHeartbeats 8000000
set_option maxRecDepth 100000
theorem fnPartsFollow_any (A : Option Addr) (n c : Nat) (w : World) (hb : Byt w w.heap.size A n) (hm : n ≤ maxLen) (hc : n ≤ c) :
    Calls Try.prog 4 #[.slice A n c] w (LawRet w) := by
  have HB := Lib.hid hb
  clear hb
  by_cases hn : n ≤ 1048576
  · go_enter Try.func4, Try.ntmps4
    go_wp2_with fail
    refine (drawSplitProgram_any A n c _ HB.out hn hc).mono ?_
    rintro e w1 ⟨vt, vb, ts, l, k, rfl, hit, hst, hts, hsz, hb1⟩
    have HP1 := Lib.hid (PgB.new hit hst hb1)
    obtain ⟨At, ct, rfl, hct⟩ := hit.slice
    obtain ⟨Ab, cb, rfl, hcb⟩ := hst.slice
    clear hit hst hb1
    go_wp2_with fail
    generalize w1.alloc (.cells #[.slice At ts.length ct, .slice Ab l.length cb] 26) = W1 at *
    obtain ⟨g, hg⟩ : ∃ g, g = w1.heap.size := ⟨_, rfl⟩
    rw [← hg] at HP1 ⊢
    clear hg
    obtain ⟨tz, HTZ⟩ : ∃ tz, Hid (tz = if splOk ts l k then ts else []) := ⟨_, Lib.hid rfl⟩
    obtain ⟨la, HLA⟩ : ∃ la, Hid (la = if splOk ts l k then l.take k.toNat else []) := ⟨_, Lib.hid rfl⟩
    obtain ⟨lb, HLB⟩ : ∃ lb, Hid (lb = if splOk ts l k then l.drop k.toNat else []) := ⟨_, Lib.hid rfl⟩
    have HSA := Lib.hid (spl_sz HLA.out HLB.out)
    refine (iSplit_any _ _ ts l k _ _ HP1.out.ht HP1.out.hl (Nat.le_refl _) (by omega) (by omega)).mono ?_
    rintro e w2 ⟨vta, vba, vtb, vbb, rfl, hia, hsa, hib, hsb, hb2⟩
    rw [← HTZ.out] at hia hib
    rw [← HLA.out] at hsa
    rw [← HLB.out] at hsb
    obtain ⟨Ta, ta, rfl, -, -, -⟩ := id hia
    obtain ⟨Sa, sa, rfl, -⟩ := hsa.slice
    obtain ⟨Tb, tb, rfl, -, -, -⟩ := id hib
    obtain ⟨Sb, sb, rfl, -⟩ := hsb.slice
    have hA2 := bel_a w2 (.cells #[.slice Ta tz.length ta, .slice Sa la.length sa] 26)
    have hB2 := bel_a (w2.alloc (.cells #[.slice Ta tz.length ta, .slice Sa la.length sa] 26)) (.cells #[.slice Tb tz.length tb, .slice Sb lb.length sb] 26)
    have HP2 := Lib.hid (((HP1.out.bels hb2).bels hA2).bels hB2)
    have HQa := Lib.hid ((PgB.ofS (HP1.out.bels hb2).bel hia hsa).bels hB2)
    have HQb := Lib.hid (PgB.ofS ((HP1.out.bels hb2).bels hA2).bel (hib.bel hA2) ((hsb.low hA2 (Nat.le_refl _)).more hA2.size))
    have hsz2 : (w2.alloc (.cells #[.slice Ta tz.length ta, .slice Sa la.length sa] 26)).heap.size = w2.heap.size + 1 := by simp
    rw [hsz2] at HQb
    clear hA2 hB2 hb2 hia hsa hib hsb hsz2
    go_upto_region 5 with (at_builtin; fail)
    generalize (w2.alloc (.cells #[.slice Ta tz.length ta, .slice Sa la.length sa] 26)).alloc (.cells #[.slice Tb tz.length tb, .slice Sb lb.length sb] 26) = W2 at *
    obtain ⟨ga, hga⟩ : ∃ ga, ga = w2.heap.size := ⟨_, rfl⟩
    obtain ⟨gb, hgb⟩ : ∃ gb, gb = w2.heap.size + 1 := ⟨_, rfl⟩
    rw [← hga] at HQa
    rw [← hgb] at HQb
    rw [← hgb, ← hga]
    clear hga hgb
    have c0 := HP2.out.c0
    have c1 := HP2.out.c1
    go_wp2_with (at_builtin; fail)
    refine (sSplit_any _ _ ts l k _ _ HP2.out.ht HP2.out.hl (Nat.le_refl _) (by omega) (by omega)).mono ?_
    rintro e w3 ⟨vtx, vbx, vty, vby, rfl, hix, hsx, hiy, hsy, hb3⟩
    rw [← HTZ.out] at hix hiy
    rw [← HLA.out] at hsx
    rw [← HLB.out] at hsy
    obtain ⟨Tx, tx, rfl, -, -, -⟩ := id hix
    obtain ⟨Sx, sx, rfl, -⟩ := hsx.slice
    obtain ⟨Ty, ty, rfl, -, -, -⟩ := id hiy
    obtain ⟨Sy, sy, rfl, -⟩ := hsy.slice
    have hA3 := bel_a w3 (.cells #[.slice Tx tz.length tx, .slice Sx la.length sx] 26)
    have hB3 := bel_a (w3.alloc (.cells #[.slice Tx tz.length tx, .slice Sx la.length sx] 26)) (.cells #[.slice Ty tz.length ty, .slice Sy lb.length sy] 26)
    have HP3 := Lib.hid (((HP2.out.bels hb3).bels hA3).bels hB3)
    have HQx := Lib.hid ((PgB.ofS (HP2.out.bels hb3).bel hix hsx).bels hB3)
    have HQy := Lib.hid (PgB.ofS ((HP2.out.bels hb3).bels hA3).bel (hiy.bel hA3) ((hsy.low hA3 (Nat.le_refl _)).more hA3.size))
    have hsz3 : (w3.alloc (.cells #[.slice Tx tz.length tx, .slice Sx la.length sx] 26)).heap.size = w3.heap.size + 1 := by simp
    rw [hsz3] at HQy
    have HQa := Lib.hid (((HQa.out.bels hb3).bels hA3).bels hB3)
    have HQb := Lib.hid (((HQb.out.bels hb3).bels hA3).bels hB3)
    clear hA3 hB3 hb3 hix hsx hiy hsy hsz3 c0 c1
    go_upto_region 6 with (at_builtin; fail)
    generalize (w3.alloc (.cells #[.slice Tx tz.length tx, .slice Sx la.length sx] 26)).alloc (.cells #[.slice Ty tz.length ty, .slice Sy lb.length sy] 26) = W3 at *
    obtain ⟨gx, hgx⟩ : ∃ gx, gx = w3.heap.size := ⟨_, rfl⟩
    obtain ⟨gy, hgy⟩ : ∃ gy, gy = w3.heap.size + 1 := ⟨_, rfl⟩
    rw [← hgx] at HQx
    rw [← hgy] at HQy
    rw [← hgy, ← hgx]
    clear hgx hgy
    cases hq : splOk ts l k
    · have HSQ := Lib.hid hq
      clear hq
      have a0 := HQa.out.c0
      have a1 := HQa.out.c1
      have b0 := HQb.out.c0
      have b1 := HQb.out.c1
      have x0 := HQx.out.c0
      have x1 := HQx.out.c1
      have y0 := HQy.out.c0
      have y1 := HQy.out.c1
      go_wp2_with (at_builtin; fail)
      refine (iProgramSame_same _ _ _ _ tz la _ _ HQa.out.ht HQa.out.hl HQx.out.ht HQx.out.hl (Nat.le_refl _) (by have := HSA.out.1; have := HSA.out.2; omega)).mono ?_
      rintro e w4 ⟨rfl, hb4⟩
      have HP4 := Lib.hid (HP3.out.bels hb4)
      have HQa := Lib.hid (HQa.out.bels hb4)
      have HQb := Lib.hid (HQb.out.bels hb4)
      have HQx := Lib.hid (HQx.out.bels hb4)
      have HQy := Lib.hid (HQy.out.bels hb4)
      clear hb4
      clear a0 a1 b0 b1 x0 x1 y0 y1
      have a0 := HQa.out.c0
      have a1 := HQa.out.c1
      have b0 := HQb.out.c0
      have b1 := HQb.out.c1
      have x0 := HQx.out.c0
      have x1 := HQx.out.c1
      have y0 := HQy.out.c0
      have y1 := HQy.out.c1
      go_wp2_with (at_builtin; fail)
      refine (iProgramSame_same _ _ _ _ tz lb _ _ HQb.out.ht HQb.out.hl HQy.out.ht HQy.out.hl (Nat.le_refl _) (by have := HSA.out.1; have := HSA.out.2; omega)).mono ?_
      rintro e w5 ⟨rfl, hb5⟩
      have HP5 := Lib.hid (HP4.out.bels hb5)
      have HQa := Lib.hid (HQa.out.bels hb5)
      have HQb := Lib.hid (HQb.out.bels hb5)
      have HQx := Lib.hid (HQx.out.bels hb5)
      have HQy := Lib.hid (HQy.out.bels hb5)
      clear hb5
      clear a0 a1 b0 b1 x0 x1 y0 y1
      have a0 := HQa.out.c0
      have a1 := HQa.out.c1
      have b0 := HQb.out.c0
      have b1 := HQb.out.c1
      have x0 := HQx.out.c0
      have x1 := HQx.out.c1
      have y0 := HQy.out.c0
      have y1 := HQy.out.c1
      go_wp2_with (at_builtin; fail)
      refine (iProgramSame_same _ _ _ _ tz la _ _ HQa.out.ht HQa.out.hl HQx.out.ht HQx.out.hl (Nat.le_refl _) (by have := HSA.out.1; have := HSA.out.2; omega)).mono ?_
      rintro e w6 ⟨rfl, hb6⟩
      have HP6 := Lib.hid (HP5.out.bels hb6)
      have HQa := Lib.hid (HQa.out.bels hb6)
      have HQb := Lib.hid (HQb.out.bels hb6)
      have HQx := Lib.hid (HQx.out.bels hb6)
      have HQy := Lib.hid (HQy.out.bels hb6)
      clear hb6
      clear a0 a1 b0 b1 x0 x1 y0 y1
      have a0 := HQa.out.c0
      have a1 := HQa.out.c1
      have b0 := HQb.out.c0
      have b1 := HQb.out.c1
      have x0 := HQx.out.c0
      have x1 := HQx.out.c1
      have y0 := HQy.out.c0
      have y1 := HQy.out.c1
      go_wp2_with (at_builtin; fail)
      refine (iProgramSame_same _ _ _ _ tz lb _ _ HQb.out.ht HQb.out.hl HQy.out.ht HQy.out.hl (Nat.le_refl _) (by have := HSA.out.1; have := HSA.out.2; omega)).mono ?_
      rintro e w7 ⟨rfl, hb7⟩
      have HP7 := Lib.hid (HP6.out.bels hb7)
      have HQa := Lib.hid (HQa.out.bels hb7)
      have HQb := Lib.hid (HQb.out.bels hb7)
      have HQx := Lib.hid (HQx.out.bels hb7)
      have HQy := Lib.hid (HQy.out.bels hb7)
      clear hb7
      clear a0 a1 b0 b1 x0 x1 y0 y1
      have a0 := HQa.out.c0
      have a1 := HQa.out.c1
      have b0 := HQb.out.c0
      have b1 := HQb.out.c1
      have x0 := HQx.out.c0
      have x1 := HQx.out.c1
      have y0 := HQy.out.c0
      have y1 := HQy.out.c1
      go_wp2_with (at_builtin; fail)
      go_ret
      exact ⟨ret_bool (by simp), HP7.out.bel⟩
    · have HSQ := Lib.hid hq
      have HEQ := Lib.hid (spl_eq hq HTZ.out HLA.out HLB.out)
      clear hq
      have a0 := HQa.out.c0
      have a1 := HQa.out.c1
      have b0 := HQb.out.c0
      have b1 := HQb.out.c1
      have x0 := HQx.out.c0
      have x1 := HQx.out.c1
      have y0 := HQy.out.c0
      have y1 := HQy.out.c1
      go_wp2_with (at_builtin; fail)
      refine (iProgramSame_same _ _ _ _ tz la _ _ HQa.out.ht HQa.out.hl HQx.out.ht HQx.out.hl (Nat.le_refl _) (by have := HSA.out.1; have := HSA.out.2; omega)).mono ?_
      rintro e w4 ⟨rfl, hb4⟩
      have HP4 := Lib.hid (HP3.out.bels hb4)
      have HQa := Lib.hid (HQa.out.bels hb4)
      have HQb := Lib.hid (HQb.out.bels hb4)
      have HQx := Lib.hid (HQx.out.bels hb4)
      have HQy := Lib.hid (HQy.out.bels hb4)
      clear hb4
      clear a0 a1 b0 b1 x0 x1 y0 y1
      have a0 := HQa.out.c0
      have a1 := HQa.out.c1
      have b0 := HQb.out.c0
      have b1 := HQb.out.c1
      have x0 := HQx.out.c0
      have x1 := HQx.out.c1
      have y0 := HQy.out.c0
      have y1 := HQy.out.c1
      go_wp2_with (at_builtin; fail)
      refine (iProgramSame_same _ _ _ _ tz lb _ _ HQb.out.ht HQb.out.hl HQy.out.ht HQy.out.hl (Nat.le_refl _) (by have := HSA.out.1; have := HSA.out.2; omega)).mono ?_
      rintro e w5 ⟨rfl, hb5⟩
      have HP5 := Lib.hid (HP4.out.bels hb5)
      have HQa := Lib.hid (HQa.out.bels hb5)
      have HQb := Lib.hid (HQb.out.bels hb5)
      have HQx := Lib.hid (HQx.out.bels hb5)
      have HQy := Lib.hid (HQy.out.bels hb5)
      clear hb5
      clear a0 a1 b0 b1 x0 x1 y0 y1
      have a0 := HQa.out.c0
      have a1 := HQa.out.c1
      have b0 := HQb.out.c0
      have b1 := HQb.out.c1
      have x0 := HQx.out.c0
      have x1 := HQx.out.c1
      have y0 := HQy.out.c0
      have y1 := HQy.out.c1
      go_wp2_with (at_builtin; fail)
      obtain ⟨htz, hll, hval⟩ := HEQ.out
      subst htz
      have HLAW := Lib.hid (parts_follow hval)
      have HOKC : Hid (catOk tz tz la lb = true) := Lib.hid (by
        obtain ⟨ha, hb⟩ := valid_cat hval
        unfold catOk; rw [ha, hb, hval]; simp [eqP])
      rw [← hll] at HLAW
      have HLL := Lib.hid hll
      clear hll hval
      refine (iOpenIssues_any _ _ (.slice none 0 0) tz [] la _ _ HQa.out.ht HQa.out.hl (IntS.nil' _ _ _ _) (Nat.le_refl _) (by have := HSA.out.1; have := HSA.out.2; omega)).mono ?_
      rintro e w6 ⟨v6, rfl, hv6, hb6⟩
      obtain ⟨L1, HL1⟩ : ∃ L1, Hid (L1 = openRes tz la []) := ⟨_, Lib.hid rfl⟩
      rw [← HL1.out] at hv6
      obtain ⟨A1, m1, rfl, hm1, hx1, -⟩ := id hv6
      have HF := Lib.hid hv6
      have HPd := Lib.hid (HP5.out.bels hb6)
      have HQad := Lib.hid (HQa.out.bels hb6)
      have HQbd := Lib.hid (HQb.out.bels hb6)
      clear a0 a1 b0 b1 x0 x1 y0 y1 hb6 hv6
      have a0 := HQad.out.c0
      have a1 := HQad.out.c1
      have b0 := HQbd.out.c0
      have b1 := HQbd.out.c1
      go_wp2_with (at_builtin; fail)
      clear a0 a1 b0 b1
      have hbd := (Below.refl w6.heap.size w6).drew
      have K6 := Lib.hid (And.intro HQad.out.c0 (And.intro HQad.out.c1 (And.intro HQbd.out.c0 HQbd.out.c1)))
      have HPd := Lib.hid (HPd.out.bels hbd)
      have HQad := Lib.hid (HQad.out.bels hbd)
      have HQbd := Lib.hid (HQbd.out.bels hbd)
      clear hbd
      have tok1 : True := trivial
      go_region_held3 (fun w' => w'.cell? ⟨ga, 0, none⟩ = some (.slice Ta tz.length ta) ∧ w'.cell? ⟨ga, 1, none⟩ = some (.slice Sa la.length sa) ∧ w'.cell? ⟨gb, 0, none⟩ = some (.slice Tb tz.length tb) ∧ w'.cell? ⟨gb, 1, none⟩ = some (.slice Sb lb.length sb))
        (first | exact K6.out | exact K7.out | exact K8.out | assumption | go_keep)
        (first
          | (have _t := tok1; go_at_call 16; (refine (iGivesOf_any _ _ _ tz [] la _ _ HQad.out.ht HQad.out.hl (IntS.nil' _ _ _ _) (Nat.le_refl _) (by have := HSA.out.1; have := HSA.out.2; omega)).mono ?_); (rintro e w7 ⟨v7, rfl, hv7, hb7⟩); clear tok1 _t; (obtain ⟨A7, m7, rfl, -, -, -⟩ := id hv7); (have HV7 := Lib.hid hv7); (have HPd := Lib.hid (HPd.out.bels hb7)); (have HQad := Lib.hid (HQad.out.bels hb7)); (have HQbd := Lib.hid (HQbd.out.bels hb7)); (have K7 := Lib.hid (And.intro HQad.out.c0 (And.intro HQad.out.c1 (And.intro HQbd.out.c0 HQbd.out.c1)))); clear hv7 hb7; (have tok2 : True := trivial))
          | (have _t := tok2; go_at_call 17; (refine (iOpenIssues_any _ _ _ tz _ lb _ _ HQbd.out.ht HQbd.out.hl HV7.out (Nat.le_refl _) (by have := HSA.out.1; have := HSA.out.2; omega)).mono ?_); (rintro e w8 ⟨v8, rfl, hv8, hb8⟩); clear tok2 _t; (obtain ⟨L2, HL2⟩ : ∃ L2, Hid (L2 = openRes tz lb (givesRes tz la [])) := ⟨_, Lib.hid rfl⟩); (rw [← HL2.out] at hv8); (obtain ⟨A2, m2, rfl, hm2, hx2, -⟩ := id hv8); (have HPd := Lib.hid (HPd.out.bels hb8)); (have HQad := Lib.hid (HQad.out.bels hb8)); (have HQbd := Lib.hid (HQbd.out.bels hb8)); (have K8 := Lib.hid (And.intro HQad.out.c0 (And.intro HQad.out.c1 (And.intro HQbd.out.c0 HQbd.out.c1)))); clear hv8 hb8)
          | fail)
      have c0 := HPd.out.c0
      have c1 := HPd.out.c1
      go_wp2_with (at_builtin; fail)
      refine (iUnsetUses_any _ _ tz l _ _ HPd.out.ht HPd.out.hl (Nat.le_refl _) (by omega)).mono ?_
      rintro e w9 ⟨v9, rfl, hv9, hb9⟩
      obtain ⟨LU, HLU⟩ : ∃ LU, Hid (LU = unsetRes tz l) := ⟨_, Lib.hid rfl⟩
      rw [← HLU.out] at hv9
      obtain ⟨A9, m9, rfl, hm9, hx9, -⟩ := id hv9
      have HPd := Lib.hid (HPd.out.bels hb9)
      have HQad := Lib.hid (HQad.out.bels hb9)
      have HQbd := Lib.hid (HQbd.out.bels hb9)
      clear c0 c1 hb9 hv9
      have a0 := HQad.out.c0
      have a1 := HQad.out.c1
      have b0 := HQbd.out.c0
      have b1 := HQbd.out.c1
      go_wp2_with (at_builtin; fail)
      refine (iSequenceOf_any _ _ _ _ tz tz la lb _ _ HQad.out.ht HQad.out.hl HQbd.out.ht HQbd.out.hl (Nat.le_refl _) (by omega) (by have := HSA.out.1; have := HSA.out.2; omega)).mono ?_
      rintro e w10 ⟨vs, us, rfl, his, hss, hb10⟩
      rw [HOKC.out, if_pos rfl] at his hss
      rw [HOKC.out]
      rw [← HLL.out] at hss
      obtain ⟨As, ms, rfl, -, -, -⟩ := id his
      obtain ⟨Us, ns, rfl, -⟩ := hss.slice
      have HPe := Lib.hid (HPd.out.bels hb10)
      have hA10 := bel_a w10 (.cells #[.slice As tz.length ms, .slice Us l.length ns] 26)
      have HS := Lib.hid (PgB.ofS HPe.out.bel his hss)
      have HPe := Lib.hid (HPe.out.bels hA10)
      clear a0 a1 b0 b1 his hss hb10 hA10
      have HLE : Hid (LU.length = L1.length + L2.length) := Lib.hid (by rw [HLU.out, HL1.out, HL2.out]; exact HLAW.out)
      go_upto_region 12 with (at_builtin; fail)
      generalize w10.alloc (.cells #[.slice As tz.length ms, .slice Us l.length ns] 26) = W10 at *
      generalize w10.heap.size = gs at *
      rw [HLE.out]
      generalize L1.length = n1 at *
      generalize L2.length = n2 at *
      have c0 := HPe.out.c0
      have c1 := HPe.out.c1
      have s0 := HS.out.c0
      have s1 := HS.out.c1
      go_wp2_with (at_builtin; fail)
      refine (iProgramSame_same _ _ _ _ tz l _ _ HS.out.ht HS.out.hl HPe.out.ht HPe.out.hl (Nat.le_refl _) (by omega)).mono ?_
      rintro e w11 ⟨rfl, hb11⟩
      have HPf := Lib.hid (HPe.out.bels hb11)
      clear hb11
      go_wp2_with (at_builtin; fail)
      go_ret
      exact ⟨ret_bool (by simp), HPf.out.bel⟩
  · have hn1 : (1048576 : Int) < n := by omega
    unfold maxLen at hm
    go_enter Try.func4, Try.ntmps4
    go_wp2_with fail
    go_ret
    exact ⟨rfl, Below.refl _ _⟩

end Go.Proofs.Ytidlifijgooceaa
