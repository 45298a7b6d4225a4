import Derived.Test.YtmaaaiccmllnlaaG29
import Derived.Test.YtmaaaiccmllnlaaG25
import Derived.Test.YtmaaaiccmllnlaaG26
set_option linter.unusedVariables false

/- Words for a queue of ints: a whole slice is appended to it. -/
namespace Go.Proofs.Ytmaaaiccmllnlaa
open Go.RowKit

theorem RowB.setCells {g : Nat} {t : TypeId} : ∀ (vs : List Value) (o : Nat) (w : World) (L : List Value), RowB w g t L → o + vs.length ≤ L.length → ∃ L', RowB (w.setCells g o vs) g t L' ∧ L'.length = L.length ∧ ∀ j, L'[j]? = if o ≤ j ∧ j < o + vs.length then vs[j - o]? else L[j]?
  | [], o, w, L, h, _ => ⟨L, h, rfl, fun j => by rw [if_neg (by simp only [List.length_nil]; omega)]⟩
  | v :: vs, o, w, L, h, hl => by
    simp only [List.length_cons] at hl
    obtain ⟨L', h1, h2, h3⟩ := RowB.setCells vs (o + 1) (w.setCell ⟨g, o, none⟩ v) (L.set o v) (h.set_ o v) (by simp; omega)
    refine ⟨L', h1, by rw [h2]; simp, fun j => ?_⟩
    rw [h3]
    simp only [List.length_cons]
    by_cases e : j = o
    · subst e
      rw [if_neg (by omega), if_pos ⟨by omega, by omega⟩, List.getElem?_set_self (by omega), Nat.sub_self]; rfl
    · by_cases e2 : o + 1 ≤ j ∧ j < o + 1 + vs.length
      · rw [if_pos e2, if_pos ⟨by omega, by omega⟩, show j - o = (j - (o + 1)) + 1 by omega]; rfl
      · rw [if_neg e2, if_neg (by omega), List.getElem?_set_ne (Ne.symm e)]
theorem below_setL {B g : Nat} (hg : B ≤ g) : ∀ (vs : List Value) (o : Nat) (w : World), Below B w (w.setCells g o vs)
  | [], _, w => Below.refl B w
  | v :: r, o, w => ((Below.refl B w).setCell (p := ⟨g, o, none⟩) hg v).trans (below_setL hg r (o + 1) _)
theorem Qu.one {w : World} {base : Nat} (hb : base ≤ w.heap.size) (a : Nat) : Qu (w.alloc (.cells #[.int .i64 (a : Nat)] 3)) base (.slice (some ⟨w.heap.size, 0, none⟩) 1 1) [a] :=
  ⟨w.heap.size, 0, 1, #[.int .i64 (a : Nat)], rfl, hb, heap_alloc_new w _, Nat.le_refl _, by simp, fun j hj => by
    obtain rfl : j = 0 := by simpa using hj
    rfl⟩
theorem Qu.slice {w : World} {base : Nat} {v : Value} {q : List Nat} (h : Qu w base v q) : ∃ g off cap, v = .slice (some ⟨g, off, none⟩) q.length cap ∧ q.length ≤ cap := by
  obtain ⟨g, off, cap, cur, e, h1, h2, h3, h4⟩ := h
  exact ⟨g, off, cap, e, h3⟩
/-- append(work, list...) -/
theorem wpList_app_q {ops : Array Oper} {rest : List Oper} {o : Oper} {a : Act} {Q : Exit → Act → World → Prop} {W : World} {base : Nat} {v : Value} {q : List Nat} (hgd : o.guard = none) (s x : Operand)
    (ho : o.op = .call { callee := .builtin .append, args := #[s, x], argTypes := #[23, 23] })
    (h : Qu W base v q) (hb : base ≤ W.heap.size) (hq : q.length ≤ 100000) {B : Nat} {vs : Value} {nx : List Nat} (hn : IntS W B vs (msk nx)) (hnx : nx.length ≤ 1000) (hs : a.eval s = v) (hx : a.eval x = vs)
    (hK : ∀ v' w', Qu w' base v' (q ++ nx) → Below base W w' → wpList Try.prog ops Q rest (a.put o.dst v') w') :
    wpList Try.prog ops Q (o :: rest) a W := by
  obtain ⟨i0, hi0, hz0, hz1, hz2⟩ := info_parts Try.infoInt
  obtain ⟨g, off, cap, cur, e, h1, h2, h3, h4, h5⟩ := h
  subst e
  obtain ⟨A, c, rfl, hc, hm, hr⟩ := hn
  rw [msk_len] at hc hm hx
  have hcell : ∀ j u, (q.map fun (m : Nat) => Value.int .i64 (m : Int))[j]? = some u → W.cell? ⟨g, off + j, none⟩ = some u := by
    intro j u hu
    have hj : j < q.length := by
      rcases Nat.lt_or_ge j q.length with hh | hh
      · exact hh
      · rw [List.getElem?_eq_none (by simpa using hh)] at hu; cases hu
    rw [cell_of_row _ _ _ _ _ _ h2, h5 j hj]
    rw [List.getElem?_map, List.getElem?_eq_getElem hj] at hu
    rw [getD_lt hj]
    simpa using hu
  cases A with
  | none =>
    have h0 : nx = [] := by
      rcases Nat.eq_zero_or_pos nx.length with h0 | h0
      · exact List.length_eq_zero_iff.1 h0
      · obtain ⟨b, off', e, _⟩ := hr.2 (by rw [msk_len]; exact h0)
        cases e
    subst h0
    refine wpList_plain hgd fun K hK' => ?_
    unfold Oper.wp
    simp [execOp, ho, resolve, invoke, builtin, hs, hx, Builtin.append_, run_underlying Try.underlying23, sizeOf, typeInfo, hi0, Builtin.lenOf, Builtin.firstCells, h3, storeCells, Result.andThen]
    exact hK' _ _ (hK _ _ (by rw [List.append_nil]; exact ⟨g, off, cap, cur, rfl, h1, h2, h3, h4, h5⟩) (Below.refl _ _))
  | some ad =>
    have hsrc : ∀ j u, ((msk nx).map (Value.int .i64))[j]? = some u → W.cell? (ad.add j) = some u := fun j u hu => by
      have hj : 0 < (msk nx).length := by
        rcases Nat.eq_zero_or_pos (msk nx).length with hh | hh
        · rw [List.getElem?_eq_none (by simp only [List.length_map]; omega)] at hu; cases hu
        · exact hh
      obtain ⟨b, off', e, _, hcl⟩ := hr.2 hj
      have e' := Option.some.inj e
      subst e'
      rw [Addr.add_lit]
      exact hcl j u hu
    have hnl : ((msk nx).map (Value.int .i64)).length = nx.length * 1 := by rw [List.length_map, msk_len, Nat.mul_one]
    have hng : ∀ j, j < nx.length → ((msk nx).map (Value.int .i64))[j]? = some (.int .i64 (nx.getD j 0 : Nat)) := fun j hj => by
      rw [getD_lt hj]; simp [msk, hj]
    refine wpList_append_arg W hgd s x 23 ho 3 i0 _ 1 8 Try.underlying23 hi0 hz0 hz1 hz2 rfl (by omega) g off q.length cap (q.map fun (m : Nat) => Value.int .i64 (m : Int)) hs (by simp) hcell ad nx.length c ((msk nx).map (Value.int .i64)) hx hnl hsrc (fun u hu => by obtain ⟨z, _, rfl⟩ := List.mem_map.1 hu; rfl) (fun hroom j hj => ?_) (by simp only [maxLen]; omega) (by omega) (fun hroom => ?_) (fun hgrow v' w' hown hgr => ?_)
    · rw [hnl] at hj
      refine ⟨?_, frozen_of_row _ _ _ _ _ h2⟩
      rw [cell_of_row _ _ _ _ _ _ h2, Array.getElem?_eq_getElem (by omega)]; rfl
    · refine hK _ _ ?_ (below_setL h1 _ _ _)
      have hrow : RowB W g 3 cur.toList := by unfold RowB; simpa using h2
      obtain ⟨L', k1, k2, k3⟩ := RowB.setCells ((msk nx).map (Value.int .i64)) (off + q.length * 1) W cur.toList hrow (by rw [hnl]; simp; omega)
      refine ⟨g, off, cap, L'.toArray, by rw [List.length_append], h1, k1, by rw [List.length_append]; exact hroom, by simp [k2]; omega, fun j hj => ?_⟩
      rw [List.length_append] at hj
      rw [List.getElem?_toArray, k3, hnl]
      by_cases hjq : j < q.length
      · rw [if_neg (by omega), show (q ++ nx).getD j 0 = q.getD j 0 by rw [getD_lt (by simp; omega), getD_lt hjq, List.getElem_append_left hjq], ← h5 j hjq]
        simp
      · rw [if_pos (by omega), show off + j - (off + q.length * 1) = j - q.length by omega, hng _ (by omega), show (q ++ nx).getD j 0 = nx.getD (j - q.length) 0 by
          rw [getD_lt (by simp; omega), getD_lt (show j - q.length < nx.length by omega), List.getElem_append_right (by omega)]]
    · have hb3 : Below W.heap.size W w' := ⟨hgr.os, hgr.tape, hgr.output, hgr.size, fun k hk => hgr.block k hk (by simp)⟩
      refine hK _ _ ?_ (hb3.mono hb)
      rcases hown.2 with ⟨_, h0⟩ | ⟨g', cap', cur', hv, hbg, hh, hc1, _, hc2, hc3⟩
      · omega
      · refine ⟨g', 0, cap', cur', by rw [hv, List.length_append], by omega, hh, by rw [List.length_append]; exact hc1, by omega, fun j hj => ?_⟩
        rw [List.length_append] at hj
        have e1 : (cur'.toList.take ((q.length + nx.length) * 1))[j]? = cur'[0 + j]? := by
          rw [List.getElem?_take, if_pos (by simpa using hj)]
          simp
        rw [← e1, hc3]
        by_cases hjq : j < q.length
        · rw [List.getElem?_append_left (by simpa using hjq), show (q ++ nx).getD j 0 = q.getD j 0 by rw [getD_lt (by simp; omega), getD_lt hjq, List.getElem_append_left hjq], getD_lt hjq]
          simp [hjq]
        · rw [List.getElem?_append_right (by simp; omega), List.length_map, hng _ (by omega), show (q ++ nx).getD j 0 = nx.getD (j - q.length) 0 by
            rw [getD_lt (by simp; omega), getD_lt (show j - q.length < nx.length by omega), List.getElem_append_right (by omega)]]

end Go.Proofs.Ytmaaaiccmllnlaa

/- impl.indices, impl.PathsFrom. -/
namespace Go.Proofs.Ytmaaaiccmllnlaa
open Go.RowKit

set_option maxHeartbeats 4000000 in
set_option maxRecDepth 100000 in
theorem indices_any (g : Nat) (L : List Bool) (n : Nat) (w : World) (hr : RowB w g 4 (bv L)) (hn : n = L.length) (hg : g < w.heap.size) (h64 : n ≤ 64) :
    Calls Try.prog 77 #[.slice (some ⟨g, 0, none⟩) n n] w (IntsRet w (lst n fun i => L.getD i false)) := by
  subst hn
  have hcell : Hid (∀ i, i < L.length → w.cell? ⟨g, i, none⟩ = some (.bool (L.getD i false))) := Lib.hid fun i hi => by rw [hr.cell, bv_get hi]
  clear hr
  obtain ⟨n, hn⟩ : ∃ n, n = L.length := ⟨_, rfl⟩
  rw [← hn] at hcell h64 ⊢
  clear hn
  obtain ⟨f, hf⟩ : ∃ f : Nat → Bool, f = fun i => L.getD i false := ⟨_, rfl⟩
  have HF : Hid (∀ i, i < n → w.cell? ⟨g, i, none⟩ = some (.bool (f i))) := Lib.hid fun i hi => by rw [hcell.out i hi, hf]
  rw [← hf]
  clear hf hcell
  go_enter Try.func77, Try.ntmps77
  go_wp2_with (at_builtin; fail)
  go_loopw [3, 8] (fun v i wr => ∃ (j : Nat) (o : List Int), j ≤ n ∧ i = .int .i64 j ∧ o = lst j f ∧ OInts wr w.heap.size v o ∧ Below w.heap.size w wr) (fun _ i _ => n - (intOf i).toNat)
  case atStart => exact ⟨0, [], by omega, rfl, rfl, OInts.nil _ _, Below.refl _ _⟩
  case round =>
    obtain ⟨j, o, hj, rfl, ho, hP, hbw⟩ := hrel
    have HO := Lib.hid ho
    have hol : o.length ≤ j := by rw [ho]; exact lst_len _ _
    have HP := Lib.hid hP
    have HBW := Lib.hid hbw
    have hsw := hbw.size
    obtain ⟨A', c', rfl, hc'⟩ := hP.slice
    clear ho hP
    by_cases hjl : j < n
    · have hck := (hbw.cell (p := ⟨g, j, none⟩) hg).trans (HF.out j hjl)
      clear hbw
      cases hd : f j
      · rw [hd] at hck
        have HD := Lib.hid hd
        clear hd
        go_wp2_with (at_builtin; fail)
        exact ⟨⟨j + 1, o, by omega, by go_num, by rw [lst_succ_false HD.out]; exact HO.out, HP.out, HBW.out⟩, by simp [intOf] <;> omega⟩
      · rw [hd] at hck
        have HD := Lib.hid hd
        clear hd
        go_wp2_with (at_builtin; go_must (refine wpList_push_int rfl (.tmp 14) (.tmp 16) rfl HP.out (by omega) (by omega) _ rfl rfl ?_); intro v' w' hP' hE')
        exact ⟨⟨j + 1, _, by omega, by go_num, by rw [lst_succ_true HD.out, HO.out], hP', HBW.out.trans ((((Evo.alloc w.heap.size 3 _ _).trans hE').below (by omega)))⟩, by simp [intOf] <;> omega⟩
    · obtain rfl : j = n := by omega
      clear hbw
      go_wp2_with (at_builtin; fail)
      go_ret
      exact ⟨_, rfl, by rw [← HO.out]; exact HP.out.toS (by omega), HBW.out⟩

set_option maxHeartbeats 4000000 in
set_option maxRecDepth 100000 in
theorem iPathsFrom_any (vt vb : Value) (ts : List Int) (l : List St) (a : Int) (B : Nat) (w : World) (ht : IntS w B vt ts) (hl : StS w B vb l) (hB : B ≤ w.heap.size) (hsz : szL l ≤ 4194300) :
    Calls Try.prog 30 #[.agg #[vt, vb], .int .i64 a] w (IntsRet w (frRes l ts a)) := by
  have hb2 : ∀ o o', Below w.heap.size w ((w.alloc o).alloc o') := fun o o' => (bel_a w o).alloc (by simp) o'
  go_enter Try.func30, Try.ntmps30
  go_wp2_with fail
  refine (graphOf_any vt vb _ ts l [a] (w.heap.size + 2) _ ((ht.low (hb2 _ _) hB).more (by omega)) ((hl.low (hb2 _ _) hB).more (by omega)) (by simpa using ints_lit (w.alloc _) [a] 3 (by simp)) (by simp) hsz).mono ?_
  rintro e w1 ⟨vg, rfl, hgr, hb1⟩
  have hb3 := (hb2 _ _).trans (hb1.mono (by simp; omega))
  cases hok : graphOk ts l [a]
  · have HRES : Hid (frRes l ts a = []) := Lib.hid (by unfold frRes; rw [hok, if_neg (by simp)])
    clear hok hgr
    go_wp2_with fail
    go_ret
    exact ⟨_, rfl, by rw [HRES.out]; exact (OInts.nil w1 0).toS (by simp), hb3⟩
  · obtain ⟨hv, k, rfl, hk⟩ := graphOk_one hok
    have GD := Lib.hid (Good.of_valid hv)
    have hplen : (ptsP l).length ≤ 64 := by have := GD.out.len; omega
    have HGG := Lib.hid (hgr hok)
    have HRES : Hid (frRes l ts (k : Nat) = lst (ptsP l).length (fun i => (ldsL (ptsP l) k).getD i false)) := Lib.hid (by
      unfold frRes; rw [if_pos hok]
      refine lst_congr fun i hi => ?_
      rw [ldsL_get hi, Int.toNat_natCast])
    have hs3 := hb3.size
    have HF := Lib.hid (from_any _ ts (ptsP l) w1.heap.size k w1 HGG.out (Nat.le_refl _) GD.out hk)
    clear hok hgr hv
    go_wp2_with (at_builtin; fail)
    refine HF.out.mono ?_
    rintro e w2 ⟨g', rfl, hrow, hb4⟩
    have hgl := hrow.lt
    have HC := Lib.hid (indices_any g' (ldsL (ptsP l) k) _ w2 hrow (ldsL_len _ _).symm hgl hplen)
    have HB4 := Lib.hid (hb3.trans (hb4.mono hs3))
    clear hrow hb4
    go_wp2_with (at_builtin; fail)
    refine HC.out.mono ?_
    rintro e w3 ⟨v3, rfl, hv3, hb5⟩
    have HV3 := Lib.hid hv3
    have HB5 := Lib.hid (HB4.out.trans (hb5.mono HB4.out.size))
    clear hv3 hb5
    go_wp2_with (at_builtin; fail)
    go_ret
    exact ⟨_, rfl, by rw [HRES.out]; exact HV3.out, HB5.out⟩

end Go.Proofs.Ytmaaaiccmllnlaa

/- Plain: loops of a program's points: they come back, and their choice dominates them. No program in sight. -/
namespace Go.Proofs.Ytmaaaiccmllnlaa

mutual
theorem ptsSt_low (at_ : Nat) : ∀ s : St, ∀ p ∈ ptsSt at_ s, ∀ k ∈ p.next, at_ ≤ k
  | .mk op x y n th el => by
    have h1 := ptsL_low (at_ + 1) th
    have h2 := ptsL_low (at_ + 1 + (ptsL (at_ + 1) th).length + 1) el
    intro p hp
    simp only [ptsSt] at hp
    split at hp
    · simp only [List.mem_cons, List.mem_append] at hp
      rcases hp with rfl | hp | rfl | hp
      · simp <;> omega
      · exact fun k hk => by have := h1 p hp k hk; omega
      · simp <;> omega
      · exact fun k hk => by have := h2 p hp k hk; omega
    · split at hp
      · simp only [List.mem_cons, List.mem_append, List.not_mem_nil, or_false] at hp
        rcases hp with rfl | hp | rfl
        · simp <;> omega
        · exact fun k hk => by have := h1 p hp k hk; omega
        · simp
      · simp only [List.mem_singleton] at hp
        subst hp
        simp
theorem ptsL_low (at_ : Nat) : ∀ l : List St, ∀ p ∈ ptsL at_ l, ∀ k ∈ p.next, at_ ≤ k
  | [] => by simp [ptsL]
  | s :: r => by
    have h1 := ptsSt_low at_ s
    have h2 := ptsL_low (at_ + (ptsSt at_ s).length) r
    intro p hp k hk
    simp only [ptsL, List.mem_append] at hp
    rcases hp with hp | hp
    · exact h1 p hp k hk
    · have := h2 p hp k hk; omega
end
theorem ptsSt_ne (at_ : Nat) (s : St) : 1 ≤ (ptsSt at_ s).length := by
  rw [ptsSt_eq]
  repeat' split
  all_goals simp
theorem ptsSt_len9 {at_ : Nat} {s : St} (h : s.op = 9) : (ptsSt at_ s).length = 1 + (ptsL (at_ + 1) s.th).length + 1 + (ptsL (at_ + 1 + (ptsL (at_ + 1) s.th).length + 1) s.el).length := by
  rw [ptsSt_eq, if_pos h]; simp; omega
theorem ptsSt_len10 {at_ : Nat} {s : St} (h : s.op = 10) : (ptsSt at_ s).length = 1 + (ptsL (at_ + 1) s.th).length + 1 := by
  rw [ptsSt_eq, if_neg (by omega), if_pos h]; simp; omega
theorem ptsSt_len1 {at_ : Nat} {s : St} (h : ¬ s.op = 9) (h2 : ¬ s.op = 10) : (ptsSt at_ s).length = 1 := by
  rw [ptsSt_eq, if_neg h, if_neg h2]; simp
theorem Emb.if_ {pts : List Pt} {at_ : Nat} {s : St} (hE : Emb pts at_ (ptsSt at_ s)) (h : s.op = 9) :
    pts[at_]? = some ⟨9, 0, 0, 0, [at_ + 1, at_ + 1 + (ptsL (at_ + 1) s.th).length + 1]⟩ ∧ Emb pts (at_ + 1) (ptsL (at_ + 1) s.th) ∧
    pts[at_ + 1 + (ptsL (at_ + 1) s.th).length]? = some ⟨10, 0, 0, 1, [at_ + 1 + (ptsL (at_ + 1) s.th).length + 1 + (ptsL (at_ + 1 + (ptsL (at_ + 1) s.th).length + 1) s.el).length]⟩ ∧
    Emb pts (at_ + 1 + (ptsL (at_ + 1) s.th).length + 1) (ptsL (at_ + 1 + (ptsL (at_ + 1) s.th).length + 1) s.el) := by
  rw [ptsSt_eq, if_pos h] at hE
  exact ⟨hE.head, hE.tail.left, hE.tail.right.head, hE.tail.right.tail⟩
theorem Emb.loop_ {pts : List Pt} {at_ : Nat} {s : St} (hE : Emb pts at_ (ptsSt at_ s)) (h : s.op = 10) :
    pts[at_]? = some ⟨10, 0, 0, 0, [at_ + 1, at_ + 1 + (ptsL (at_ + 1) s.th).length + 1]⟩ ∧ Emb pts (at_ + 1) (ptsL (at_ + 1) s.th) ∧ pts[at_ + 1 + (ptsL (at_ + 1) s.th).length]? = some ⟨10, 0, 0, 1, [at_]⟩ := by
  rw [ptsSt_eq, if_neg (by omega), if_pos h] at hE
  exact ⟨hE.head, hE.tail.left, hE.tail.right.head⟩
theorem Emb.one_ {pts : List Pt} {at_ : Nat} {s : St} (hE : Emb pts at_ (ptsSt at_ s)) (h : ¬ s.op = 9) (h2 : ¬ s.op = 10) : pts[at_]? = some ⟨s.op, s.x, s.y, s.n, [at_ + 1]⟩ := by
  rw [ptsSt_eq, if_neg h, if_neg h2] at hE
  exact hE.head
/-- a point inside of a piece is one of the piece's -/
theorem Emb.mem {pts : List Pt} {at_ : Nat} {L : List Pt} (hE : Emb pts at_ L) {k : Nat} {p : Pt} (h1 : at_ ≤ k) (h2 : k < at_ + L.length) (hp : pts[k]? = some p) : p ∈ L := by
  have hj : k - at_ < L.length := by omega
  have := hE (k - at_) L[k - at_] (List.getElem?_eq_getElem hj)
  rw [show at_ + (k - at_) = k by omega, hp] at this
  injection this with this
  rw [this]; exact List.getElem_mem hj

mutual
/-- what holds at the first point of a piece and goes on from point to next point holds in all of it, and behind it -/
theorem ptsSt_cl (P : Nat → Prop) (pts : List Pt) (hs : ∀ i k p, P i → pts[i]? = some p → k ∈ p.next → P k) (at_ : Nat) : ∀ s : St, Emb pts at_ (ptsSt at_ s) → P at_ → (∀ j, j < (ptsSt at_ s).length → P (at_ + j)) ∧ P (at_ + (ptsSt at_ s).length)
  | .mk op x y n th el => by
    have h1 := ptsL_cl P pts hs (at_ + 1) th
    have h2 := ptsL_cl P pts hs (at_ + 1 + (ptsL (at_ + 1) th).length + 1) el
    intro hE hR
    by_cases h9 : op = 9
    · obtain ⟨e0, e1, e2, e3⟩ := hE.if_ h9
      rw [ptsSt_len9 (s := .mk op x y n th el) h9]
      simp only [St.th, St.el] at e0 e1 e2 e3 ⊢
      obtain ⟨a1, a2⟩ := h1 e1 (hs _ _ _ hR e0 (by simp))
      obtain ⟨b1, b2⟩ := h2 e3 (hs _ _ _ hR e0 (by simp))
      refine ⟨fun j hj => ?_, by rw [show at_ + (1 + (ptsL (at_ + 1) th).length + 1 + (ptsL (at_ + 1 + (ptsL (at_ + 1) th).length + 1) el).length) = at_ + 1 + (ptsL (at_ + 1) th).length + 1 + (ptsL (at_ + 1 + (ptsL (at_ + 1) th).length + 1) el).length by omega]; exact b2⟩
      rcases Nat.lt_or_ge j 1 with h | h
      · have : j = 0 := by omega
        subst this; exact hR
      · rcases Nat.lt_or_ge (j - 1) (ptsL (at_ + 1) th).length with h' | h'
        · have := a1 (j - 1) h'
          rwa [show at_ + 1 + (j - 1) = at_ + j by omega] at this
        · rcases Nat.lt_or_ge (j - 1) ((ptsL (at_ + 1) th).length + 1) with h'' | h''
          · rw [show at_ + j = at_ + 1 + (ptsL (at_ + 1) th).length by omega]; exact a2
          · have := b1 (j - 2 - (ptsL (at_ + 1) th).length) (by omega)
            rwa [show at_ + 1 + (ptsL (at_ + 1) th).length + 1 + (j - 2 - (ptsL (at_ + 1) th).length) = at_ + j by omega] at this
    · by_cases h10 : op = 10
      · obtain ⟨e0, e1, e2⟩ := hE.loop_ h10
        rw [ptsSt_len10 (s := .mk op x y n th el) h10]
        simp only [St.th] at e0 e1 e2 ⊢
        obtain ⟨a1, a2⟩ := h1 e1 (hs _ _ _ hR e0 (by simp))
        refine ⟨fun j hj => ?_, by rw [show at_ + (1 + (ptsL (at_ + 1) th).length + 1) = at_ + 1 + (ptsL (at_ + 1) th).length + 1 by omega]; exact hs _ _ _ hR e0 (by simp)⟩
        rcases Nat.lt_or_ge j 1 with h | h
        · have : j = 0 := by omega
          subst this; exact hR
        · rcases Nat.lt_or_ge (j - 1) (ptsL (at_ + 1) th).length with h' | h'
          · have := a1 (j - 1) h'
            rwa [show at_ + 1 + (j - 1) = at_ + j by omega] at this
          · rw [show at_ + j = at_ + 1 + (ptsL (at_ + 1) th).length by omega]; exact a2
      · have e0 := hE.one_ h9 h10
        rw [ptsSt_len1 (s := .mk op x y n th el) h9 h10]
        refine ⟨fun j hj => ?_, hs _ _ _ hR e0 (by simp)⟩
        have : j = 0 := by omega
        subst this; exact hR
theorem ptsL_cl (P : Nat → Prop) (pts : List Pt) (hs : ∀ i k p, P i → pts[i]? = some p → k ∈ p.next → P k) (at_ : Nat) : ∀ l : List St, Emb pts at_ (ptsL at_ l) → P at_ → (∀ j, j < (ptsL at_ l).length → P (at_ + j)) ∧ P (at_ + (ptsL at_ l).length)
  | [] => by
    intro _ hR
    exact ⟨fun j hj => by simp [ptsL] at hj, by simpa [ptsL] using hR⟩
  | s :: r => by
    have h1 := ptsSt_cl P pts hs at_ s
    have h2 := ptsL_cl P pts hs (at_ + (ptsSt at_ s).length) r
    simp only [ptsL]
    intro hE hR
    obtain ⟨a1, a2⟩ := h1 hE.left hR
    obtain ⟨b1, b2⟩ := h2 hE.right a2
    rw [List.length_append]
    refine ⟨fun j hj => ?_, by rw [← Nat.add_assoc]; exact b2⟩
    rcases Nat.lt_or_ge j (ptsSt at_ s).length with h | h
    · exact a1 j h
    · have := b1 (j - (ptsSt at_ s).length) (by omega)
      rwa [show at_ + (ptsSt at_ s).length + (j - (ptsSt at_ s).length) = at_ + j by omega] at this
end

/-- a leads to b, or is it -/
def LdE (pts : List Pt) (a b : Nat) : Prop := a = b ∨ Lds pts a b
theorem Lds.to {pts : List Pt} {a k b : Nat} {p : Pt} (hp : pts[a]? = some p) (hk : k ∈ p.next) (h : LdE pts k b) : Lds pts a b := by
  rcases h with rfl | h
  · exact .one hp hk
  · exact .more hp hk h
theorem Lds.toE {pts : List Pt} {a k b : Nat} (h : Lds pts a k) (h2 : LdE pts k b) : Lds pts a b := by
  rcases h2 with rfl | h2
  · exact h
  · exact h.trans h2
theorem exit_first {pts : List Pt} {at_ : Nat} {L : List Pt} (h : ∀ j, j < L.length → Lds pts (at_ + j) (at_ + L.length)) : LdE pts at_ (at_ + L.length) := by
  by_cases h0 : L.length = 0
  · exact .inl (by omega)
  · exact .inr (h 0 (by omega))
mutual
/-- all of a piece leads to what comes behind it -/
theorem ptsSt_exit (pts : List Pt) (at_ : Nat) : ∀ s : St, Emb pts at_ (ptsSt at_ s) → ∀ j, j < (ptsSt at_ s).length → Lds pts (at_ + j) (at_ + (ptsSt at_ s).length)
  | .mk op x y n th el => by
    have h1 := ptsL_exit pts (at_ + 1) th
    have h2 := ptsL_exit pts (at_ + 1 + (ptsL (at_ + 1) th).length + 1) el
    intro hE j hj
    by_cases h9 : op = 9
    · obtain ⟨e0, e1, e2, e3⟩ := hE.if_ h9
      rw [ptsSt_len9 (s := .mk op x y n th el) h9] at hj ⊢
      simp only [St.th, St.el] at e0 e1 e2 e3 hj ⊢
      have a1 := h1 e1
      have b1 := h2 e3
      have b0 := exit_first b1
      have hx : at_ + (1 + (ptsL (at_ + 1) th).length + 1 + (ptsL (at_ + 1 + (ptsL (at_ + 1) th).length + 1) el).length) = at_ + 1 + (ptsL (at_ + 1) th).length + 1 + (ptsL (at_ + 1 + (ptsL (at_ + 1) th).length + 1) el).length := by omega
      rw [hx]
      have hjmp : Lds pts (at_ + 1 + (ptsL (at_ + 1) th).length) (at_ + 1 + (ptsL (at_ + 1) th).length + 1 + (ptsL (at_ + 1 + (ptsL (at_ + 1) th).length + 1) el).length) := .one e2 (by simp)
      rcases Nat.lt_or_ge j 1 with h | h
      · have : j = 0 := by omega
        subst this
        exact Lds.to e0 (k := at_ + 1 + (ptsL (at_ + 1) th).length + 1) (by simp) b0
      · rcases Nat.lt_or_ge (j - 1) (ptsL (at_ + 1) th).length with h' | h'
        · have := a1 (j - 1) h'
          rw [show at_ + 1 + (j - 1) = at_ + j by omega] at this
          exact this.trans hjmp
        · rcases Nat.lt_or_ge (j - 1) ((ptsL (at_ + 1) th).length + 1) with h'' | h''
          · rw [show at_ + j = at_ + 1 + (ptsL (at_ + 1) th).length by omega]; exact hjmp
          · have := b1 (j - 2 - (ptsL (at_ + 1) th).length) (by omega)
            rwa [show at_ + 1 + (ptsL (at_ + 1) th).length + 1 + (j - 2 - (ptsL (at_ + 1) th).length) = at_ + j by omega] at this
    · by_cases h10 : op = 10
      · obtain ⟨e0, e1, e2⟩ := hE.loop_ h10
        rw [ptsSt_len10 (s := .mk op x y n th el) h10] at hj ⊢
        simp only [St.th] at e0 e1 e2 hj ⊢
        have a1 := h1 e1
        have hx : at_ + (1 + (ptsL (at_ + 1) th).length + 1) = at_ + 1 + (ptsL (at_ + 1) th).length + 1 := by omega
        rw [hx]
        have hout : Lds pts at_ (at_ + 1 + (ptsL (at_ + 1) th).length + 1) := .one e0 (by simp)
        have hbk : Lds pts (at_ + 1 + (ptsL (at_ + 1) th).length) (at_ + 1 + (ptsL (at_ + 1) th).length + 1) := .more e2 (by simp) hout
        rcases Nat.lt_or_ge j 1 with h | h
        · have : j = 0 := by omega
          subst this; exact hout
        · rcases Nat.lt_or_ge (j - 1) (ptsL (at_ + 1) th).length with h' | h'
          · have := a1 (j - 1) h'
            rw [show at_ + 1 + (j - 1) = at_ + j by omega] at this
            exact this.trans hbk
          · rw [show at_ + j = at_ + 1 + (ptsL (at_ + 1) th).length by omega]; exact hbk
      · have e0 := hE.one_ h9 h10
        rw [ptsSt_len1 (s := .mk op x y n th el) h9 h10] at hj ⊢
        have : j = 0 := by omega
        subst this
        exact .one e0 (by simp)
theorem ptsL_exit (pts : List Pt) (at_ : Nat) : ∀ l : List St, Emb pts at_ (ptsL at_ l) → ∀ j, j < (ptsL at_ l).length → Lds pts (at_ + j) (at_ + (ptsL at_ l).length)
  | [] => by
    intro _ j hj
    simp [ptsL] at hj
  | s :: r => by
    have h1 := ptsSt_exit pts at_ s
    have h2 := ptsL_exit pts (at_ + (ptsSt at_ s).length) r
    simp only [ptsL]
    intro hE j hj
    have a1 := h1 hE.left
    have b1 := h2 hE.right
    rw [List.length_append] at hj ⊢
    rw [← Nat.add_assoc]
    rcases Nat.lt_or_ge j (ptsSt at_ s).length with h | h
    · exact (a1 j h).toE (exit_first b1)
    · have := b1 (j - (ptsSt at_ s).length) (by omega)
      rwa [show at_ + (ptsSt at_ s).length + (j - (ptsSt at_ s).length) = at_ + j by omega] at this
end

/-- into the points from a to b one comes only by a -/
def Ent (pts : List Pt) (a b : Nat) : Prop := ∀ k p j, pts[k]? = some p → j ∈ p.next → a ≤ j → j < b → (a ≤ k ∧ k < b) ∨ j = a
structure LpOk (pts : List Pt) (i e : Nat) : Prop where
  lt : i + 1 < e
  go : ∀ j, i ≤ j → j < e → Lds pts i j
  back : ∀ j, i ≤ j → j < e → Lds pts j i
  ent : Ent pts i e
/-- what holds for all loops from a to b -/
def Lps (pts : List Pt) (a b : Nat) : Prop := ∀ i p, a ≤ i → i < b → pts[i]? = some p → p.op = 10 → p.n = 0 → ∃ e, p.next = [i + 1, e] ∧ LpOk pts i e ∧ e ≤ b
mutual
theorem ptsSt_lps (pts : List Pt) (at_ : Nat) : ∀ s : St, Emb pts at_ (ptsSt at_ s) → Ent pts at_ (at_ + (ptsSt at_ s).length) → Lps pts at_ (at_ + (ptsSt at_ s).length)
  | .mk op x y n th el => by
    have h1 := ptsL_lps pts (at_ + 1) th
    have h2 := ptsL_lps pts (at_ + 1 + (ptsL (at_ + 1) th).length + 1) el
    intro hE hEnt i p hi1 hi2 hp ho hn
    by_cases h9 : op = 9
    · obtain ⟨e0, e1, e2, e3⟩ := hE.if_ h9
      rw [ptsSt_len9 (s := .mk op x y n th el) h9] at hi2 hEnt ⊢
      simp only [St.th, St.el] at e0 e1 e2 e3 hi2 hEnt ⊢
      have ln := ptsL_next (at_ + 1) th
      have ll := ptsL_low (at_ + 1 + (ptsL (at_ + 1) th).length + 1) el
      generalize hA : (ptsL (at_ + 1) th) = A at *
      generalize hB : ptsL (at_ + 1 + A.length + 1) el = B at *
      have E1 : Ent pts (at_ + 1) (at_ + 1 + A.length) := by
        intro k q j hq hj hj1 hj2
        rcases hEnt k q j hq hj (by omega) (by omega) with hk | hk
        · by_cases k0 : k = at_
          · subst k0; rw [e0] at hq; injection hq with hq; subst hq; simp at hj; omega
          · by_cases k1 : k < at_ + 1 + A.length
            · exact .inl ⟨by omega, k1⟩
            · by_cases k2 : k = at_ + 1 + A.length
              · subst k2; rw [e2] at hq; injection hq with hq; subst hq; simp at hj; omega
              · have := ll q (e3.mem (by omega) (by omega) hq) j hj; omega
        · omega
      have E2 : Ent pts (at_ + 1 + A.length + 1) (at_ + 1 + A.length + 1 + B.length) := by
        intro k q j hq hj hj1 hj2
        rcases hEnt k q j hq hj (by omega) (by omega) with hk | hk
        · by_cases k0 : k = at_
          · subst k0; rw [e0] at hq; injection hq with hq; subst hq; simp at hj; omega
          · by_cases k1 : k < at_ + 1 + A.length
            · have := (ln q (e1.mem (by omega) (by omega) hq)).2.2 j hj; omega
            · by_cases k2 : k = at_ + 1 + A.length
              · subst k2; rw [e2] at hq; injection hq with hq; subst hq; simp at hj; omega
              · exact .inl ⟨by omega, by omega⟩
        · omega
      by_cases k0 : i = at_
      · subst k0; rw [e0] at hp; injection hp with hp; subst hp; simp at ho
      · by_cases k1 : i < at_ + 1 + A.length
        · obtain ⟨e, g1, g2, g3⟩ := h1 e1 E1 i p (by omega) k1 hp ho hn
          exact ⟨e, g1, g2, by omega⟩
        · by_cases k2 : i = at_ + 1 + A.length
          · subst k2; rw [e2] at hp; injection hp with hp; subst hp; simp at hn
          · obtain ⟨e, g1, g2, g3⟩ := h2 e3 E2 i p (by omega) (by omega) hp ho hn
            exact ⟨e, g1, g2, by omega⟩
    · by_cases h10 : op = 10
      · have cl := ptsL_cl (fun j => Lds pts at_ j) pts (fun i k p h hp hk => h.snoc hp hk) (at_ + 1) th
        have ex := ptsL_exit pts (at_ + 1) th
        obtain ⟨e0, e1, e2⟩ := hE.loop_ h10
        rw [ptsSt_len10 (s := .mk op x y n th el) h10] at hi2 hEnt ⊢
        simp only [St.th] at e0 e1 e2 hi2 hEnt ⊢
        obtain ⟨c1, c2⟩ := cl e1 (.one e0 (by simp))
        have ex1 := ex e1
        generalize hA : (ptsL (at_ + 1) th) = A at *
        have E1 : Ent pts (at_ + 1) (at_ + 1 + A.length) := by
          intro k q j hq hj hj1 hj2
          rcases hEnt k q j hq hj (by omega) (by omega) with hk | hk
          · by_cases k0 : k = at_
            · subst k0; rw [e0] at hq; injection hq with hq; subst hq; simp at hj; omega
            · by_cases k1 : k < at_ + 1 + A.length
              · exact .inl ⟨by omega, k1⟩
              · have k2 : k = at_ + 1 + A.length := by omega
                subst k2; rw [e2] at hq; injection hq with hq; subst hq; simp at hj; omega
          · omega
        by_cases k0 : i = at_
        · subst k0; rw [e0] at hp; injection hp with hp; subst hp
          have hb : Lds pts (i + 1 + A.length) i := .one e2 (by simp)
          have hii : Lds pts i i := c2.snoc e2 (by simp)
          refine ⟨i + 1 + A.length + 1, rfl, ⟨by omega, fun j hj1 hj2 => ?_, fun j hj1 hj2 => ?_, by rwa [show i + (1 + A.length + 1) = i + 1 + A.length + 1 by omega] at hEnt⟩, by omega⟩
          · by_cases k1 : j = i
            · subst k1; exact hii
            · by_cases k2 : j = i + 1 + A.length
              · subst k2; exact c2
              · have := c1 (j - i - 1) (by omega)
                rwa [show i + 1 + (j - i - 1) = j by omega] at this
          · by_cases k1 : j = i
            · subst k1; exact hii
            · by_cases k2 : j = i + 1 + A.length
              · subst k2; exact hb
              · have := ex1 (j - i - 1) (by omega)
                rw [show i + 1 + (j - i - 1) = j by omega] at this
                exact this.trans hb
        · by_cases k1 : i < at_ + 1 + A.length
          · obtain ⟨e, g1, g2, g3⟩ := h1 e1 E1 i p (by omega) k1 hp ho hn
            exact ⟨e, g1, g2, by omega⟩
          · have k2 : i = at_ + 1 + A.length := by omega
            subst k2; rw [e2] at hp; injection hp with hp; subst hp; simp at hn
      · have e0 := hE.one_ h9 h10
        rw [ptsSt_len1 (s := .mk op x y n th el) h9 h10] at hi2
        have : i = at_ := by omega
        subst this
        rw [e0] at hp; injection hp with hp; subst hp
        exact absurd ho h10
theorem ptsL_lps (pts : List Pt) (at_ : Nat) : ∀ l : List St, Emb pts at_ (ptsL at_ l) → Ent pts at_ (at_ + (ptsL at_ l).length) → Lps pts at_ (at_ + (ptsL at_ l).length)
  | [] => by
    intro _ _ i p h1 h2
    simp [ptsL] at h2; omega
  | s :: r => by
    have h1 := ptsSt_lps pts at_ s
    have h2 := ptsL_lps pts (at_ + (ptsSt at_ s).length) r
    have ln := ptsSt_next at_ s
    have ll := ptsL_low (at_ + (ptsSt at_ s).length) r
    have hne := ptsSt_ne at_ s
    simp only [ptsL]
    intro hE hEnt i p hi1 hi2 hp ho hn
    rw [List.length_append] at hi2 hEnt ⊢
    have eL := hE.left
    have eR := hE.right
    generalize hA : ptsSt at_ s = A at *
    generalize hB : ptsL (at_ + A.length) r = B at *
    have E1 : Ent pts at_ (at_ + A.length) := by
      intro k q j hq hj hj1 hj2
      rcases hEnt k q j hq hj (by omega) (by omega) with hk | hk
      · by_cases k1 : k < at_ + A.length
        · exact .inl ⟨by omega, k1⟩
        · have := ll q (eR.mem (by omega) (by omega) hq) j hj; omega
      · exact .inr hk
    have E2 : Ent pts (at_ + A.length) (at_ + A.length + B.length) := by
      intro k q j hq hj hj1 hj2
      rcases hEnt k q j hq hj (by omega) (by omega) with hk | hk
      · by_cases k1 : k < at_ + A.length
        · have := (ln q (eL.mem (by omega) (by omega) hq)).2.2 j hj; omega
        · exact .inl ⟨by omega, by omega⟩
      · omega
    by_cases k1 : i < at_ + A.length
    · obtain ⟨e, g1, g2, g3⟩ := h1 eL E1 i p hi1 k1 hp ho hn
      exact ⟨e, g1, g2, by omega⟩
    · obtain ⟨e, g1, g2, g3⟩ := h2 eR E2 i p (by omega) (by omega) hp ho hn
      exact ⟨e, g1, g2, by omega⟩
end
theorem ptsP_emb (l : List St) : Emb (ptsP l) 0 (ptsL 0 l) := fun j p hj => by
  have hlt : j < (ptsL 0 l).length := (List.getElem?_eq_some_iff.1 hj).1
  unfold ptsP
  rw [Nat.zero_add, List.getElem?_append_left hlt]; exact hj
theorem ptsP_end (l : List St) : (ptsP l)[(ptsL 0 l).length]? = some ⟨11, 0, 0, 0, []⟩ := by unfold ptsP; simp
/-- the loops of a program -/
theorem ptsP_loop (l : List St) {i : Nat} {p : Pt} (hp : (ptsP l)[i]? = some p) (ho : p.op = 10) (hn : p.n = 0) : ∃ e, p.next = [i + 1, e] ∧ LpOk (ptsP l) i e ∧ e < (ptsP l).length := by
  have hE := ptsP_emb l
  have hi := (List.getElem?_eq_some_iff.1 hp).1
  rw [ptsP_len] at hi
  have hlt : i < (ptsL 0 l).length := by
    rcases Nat.lt_or_ge i (ptsL 0 l).length with h | h
    · exact h
    · have : i = (ptsL 0 l).length := by omega
      subst this; rw [ptsP_end] at hp; injection hp with hp; subst hp; simp at ho
  have hEnt : Ent (ptsP l) 0 (0 + (ptsL 0 l).length) := by
    intro k q j hq hj hj1 hj2
    have hk := (List.getElem?_eq_some_iff.1 hq).1
    rw [ptsP_len] at hk
    rcases Nat.lt_or_ge k (ptsL 0 l).length with h | h
    · exact .inl ⟨Nat.zero_le _, by omega⟩
    · have : k = (ptsL 0 l).length := by omega
      subst this; rw [ptsP_end] at hq; injection hq with hq; subst hq; simp at hj
  obtain ⟨e, h1, h2, h3⟩ := ptsL_lps (ptsP l) 0 l hE hEnt i p (Nat.zero_le _) (by omega) hp ho hn
  exact ⟨e, h1, h2, by rw [ptsP_len]; omega⟩

/-- a leads to it in no step or more, without passing wo -/
inductive Ard (pts : List Pt) (wo a : Nat) : Nat → Prop
  | refl (h : a ≠ wo) : Ard pts wo a a
  | step {k j : Nat} {p : Pt} (h : Ard pts wo a k) (hp : pts[k]? = some p) (hj : j ∈ p.next) (hne : j ≠ wo) : Ard pts wo a j
theorem Ard.ne {pts : List Pt} {wo a k : Nat} (h : Ard pts wo a k) : k ≠ wo := by cases h <;> assumption
theorem LpOk.dom {pts : List Pt} {i e j : Nat} (h : LpOk pts i e) (h1 : i < j) (h2 : j < e) : ¬ Ard pts i 0 j := by
  intro hr
  induction hr with
  | refl _ => omega
  | @step k j p hk hp hj hne ih =>
    rcases h.ent k p j hp hj (by omega) h2 with hh | hh
    · exact ih (by have := hk.ne; omega) hh.2
    · exact hne hh
/-- the state of the search for what a leads to without passing wo -/
structure ArI (pts : List Pt) (wo a : Nat) (fl : List Bool) (q : List Nat) : Prop where
  len : fl.length = pts.length
  snd : ∀ k, fl.getD k false = true → Ard pts wo a k
  qok : ∀ k ∈ q, (k ≠ wo → Ard pts wo a k) ∧ k < pts.length
  st : a ≠ wo → fl.getD a false = true ∨ a ∈ q
  cl : ∀ k p, fl.getD k false = true → pts[k]? = some p → ∀ j ∈ p.next, j = wo ∨ fl.getD j false = true ∨ j ∈ q
theorem ArI.init {pts : List Pt} {wo a : Nat} (ha : a < pts.length) : ArI pts wo a (List.replicate pts.length false) [a] := by
  have h0 : ∀ k, (List.replicate pts.length false).getD k false = false := fun k => by
    by_cases hk : k < pts.length
    · rw [getD_lt (by simpa using hk)]; simp
    · rw [getD_ge (by simpa using hk)]
  refine ⟨by simp, fun k hk => ?_, fun k hk => ?_, fun _ => .inr (by simp), fun k p hk => ?_⟩
  · rw [h0] at hk; cases hk
  · rw [List.mem_singleton] at hk; subst hk; exact ⟨.refl, ha⟩
  · rw [h0] at hk; cases hk
theorem ArI.skip {pts : List Pt} {wo a k : Nat} {fl : List Bool} {r : List Nat} (h : ArI pts wo a fl (k :: r)) (hk : k = wo ∨ fl.getD k false = true) : ArI pts wo a fl r := by
  refine ⟨h.len, h.snd, fun j hj => h.qok j (List.mem_cons_of_mem _ hj), fun hne => ?_, fun i p hi hp j hj => ?_⟩
  · rcases h.st hne with h1 | h1
    · exact .inl h1
    · rcases List.mem_cons.1 h1 with rfl | h2
      · rcases hk with hk | hk
        · exact absurd hk hne
        · exact .inl hk
      · exact .inr h2
  · rcases h.cl i p hi hp j hj with h1 | h1 | h1
    · exact .inl h1
    · exact .inr (.inl h1)
    · rcases List.mem_cons.1 h1 with rfl | h2
      · rcases hk with hk | hk
        · exact .inl hk
        · exact .inr (.inl hk)
      · exact .inr (.inr h2)
theorem ArI.mark {pts : List Pt} {wo a k : Nat} {fl : List Bool} {r : List Nat} {p : Pt} (h : ArI pts wo a fl (k :: r)) (hne : k ≠ wo) (hp : pts[k]? = some p) (hn : ∀ p ∈ pts, ∀ k ∈ p.next, k < pts.length) : ArI pts wo a (fl.set k true) (r ++ p.next) := by
  have hk := h.qok k List.mem_cons_self
  have hkl : k < fl.length := by rw [h.len]; exact hk.2
  have up : ∀ j, (fl.getD j false = true ∨ j ∈ k :: r) → ((fl.set k true).getD j false = true ∨ j ∈ r ++ p.next) := fun j hj => by
    rw [getD_setT hkl]
    by_cases e : j = k
    · rw [if_pos e]; exact .inl rfl
    · rw [if_neg e]
      rcases hj with h1 | h1
      · exact .inl h1
      · rcases List.mem_cons.1 h1 with h2 | h2
        · exact absurd h2 e
        · exact .inr (List.mem_append_left _ h2)
  refine ⟨by simp [h.len], fun j hj => ?_, fun j hj => ?_, fun ha => up _ (h.st ha), fun i p' hi hp' j hj => ?_⟩
  · rw [getD_setT hkl] at hj
    split at hj
    · rename_i e; subst e; exact hk.1 hne
    · exact h.snd j hj
  · rcases List.mem_append.1 hj with h1 | h1
    · exact h.qok j (List.mem_cons_of_mem _ h1)
    · exact ⟨fun hj => .step (hk.1 hne) hp h1 hj, hn _ (List.mem_of_getElem? hp) _ h1⟩
  · rw [getD_setT hkl] at hi
    split at hi
    · rename_i e; subst e
      rw [hp] at hp'; injection hp' with e; subst e
      exact .inr (.inr (List.mem_append_right _ hj))
    · rcases h.cl i p' hi hp' j hj with h1 | h1
      · exact .inl h1
      · exact .inr (up j h1)
theorem ArI.done {pts : List Pt} {wo a : Nat} {fl : List Bool} (h : ArI pts wo a fl []) (k : Nat) : fl.getD k false = true ↔ Ard pts wo a k := by
  refine ⟨h.snd k, fun hl => ?_⟩
  induction hl with
  | refl hne => exact (h.st hne).resolve_right (by simp)
  | step _ hp hj hne ih => exact ((h.cl _ _ ih hp _ hj).resolve_left hne).resolve_right (by simp)

/-- the last number below m at which f says yes -/
def lastI : Nat → (Nat → Bool) → Option Nat
  | 0, _ => none
  | m + 1, f => if f m then some m else lastI m f
theorem lastI_some {m i : Nat} {f : Nat → Bool} (h : lastI m f = some i) : i < m ∧ f i = true := by
  induction m with
  | zero => simp [lastI] at h
  | succ m ih =>
    simp only [lastI] at h
    split at h
    · rename_i hf; injection h with h; subst h; exact ⟨by omega, hf⟩
    · have := ih h; exact ⟨by omega, this.2⟩
theorem lastI_succ (m : Nat) (f : Nat → Bool) : lastI (m + 1) f = if f m then some m else lastI m f := rfl
theorem lastI_le {m n : Nat} {f : Nat → Bool} (hmn : m ≤ n) : lastI n (fun i => decide (i < m) && f i) = lastI m f := by
  induction n with
  | zero => have : m = 0 := by omega
            subst this; rfl
  | succ n ih =>
    by_cases e : m = n + 1
    · subst e
      clear ih
      have : ∀ k, k ≤ n + 1 → lastI k (fun i => decide (i < n + 1) && f i) = lastI k f := fun k hk => by
        induction k with
        | zero => rfl
        | succ k ih2 => rw [lastI_succ, lastI_succ, ih2 (by omega), decide_eq_true (by omega), Bool.true_and]
      exact this _ (Nat.le_refl _)
    · rw [lastI_succ, decide_eq_false (by omega), Bool.false_and, if_neg (by simp), ih (by omega)]
/-- is i a loop around at_ (if it does not come behind it)? -/
def lpB (pts : List Pt) (at_ i : Nat) : Bool := match pts[i]? with
  | some p => p.op == 10 && p.n == 0 && decide (at_ < p.next.getD 1 0)
  | none => false
def rngL (a e : Nat) : List Int := (List.range (e - a)).map fun j => ((a + j : Nat) : Int)
theorem rngL_len (a e : Nat) : (rngL a e).length = e - a := by simp [rngL]
theorem rngL_get {a e j : Nat} (h : j < (rngL a e).length) : (rngL a e)[j] = ((a + j : Nat) : Int) := by simp [rngL]
theorem rngL_succ {a k : Nat} (h : a ≤ k) : rngL a (k + 1) = rngL a k ++ [((k : Nat) : Int)] := by
  unfold rngL
  rw [show k + 1 - a = (k - a) + 1 by omega, List.range_succ, List.map_append]
  simp; omega
theorem rngL_nil (a : Nat) : rngL a a = [] := by simp [rngL]
def loopAt (pts : List Pt) (at_ : Nat) : List Int := match lastI (at_ + 1) (lpB pts at_) with
  | some i => rngL i ((ptD pts i).next.getD 1 0)
  | none => []
theorem lpB_iff {pts : List Pt} {at_ i : Nat} : lpB pts at_ i = true ↔ ∃ p, pts[i]? = some p ∧ p.op = 10 ∧ p.n = 0 ∧ at_ < p.next.getD 1 0 := by
  unfold lpB
  cases h : pts[i]? with
  | none => simp
  | some p => simp [and_assoc]
/-- the points of the innermost loop: none, or all from its choice on, with what the law asks -/
theorem loopAt_law (l : List St) {at_ : Nat} : loopAt (ptsP l) at_ = [] ∨ ∃ i e, loopAt (ptsP l) at_ = rngL i e ∧ i ≤ at_ ∧ at_ < e ∧ e < (ptsP l).length ∧ (∀ j, i ≤ j → j < e → Lds (ptsP l) at_ j) ∧ (∀ j, i < j → j < e → ¬ Ard (ptsP l) i 0 j) := by
  unfold loopAt
  cases h : lastI (at_ + 1) (lpB (ptsP l) at_) with
  | none => exact .inl rfl
  | some i =>
    right
    obtain ⟨h1, h2⟩ := lastI_some h
    obtain ⟨p, hp, ho, hn, ha⟩ := lpB_iff.1 h2
    obtain ⟨e, hnx, hL, he⟩ := ptsP_loop l hp ho hn
    have hi := (List.getElem?_eq_some_iff.1 hp).1
    have hpe : ptD (ptsP l) i = p := by rw [ptD_get hi]; rw [List.getElem?_eq_getElem hi] at hp; injection hp
    rw [hnx] at ha
    refine ⟨i, e, ?_, by omega, by simpa using ha, he, fun j h1 h2 => (hL.back at_ (by omega) (by simpa using ha)).trans (hL.go j h1 h2), fun j h1 h2 => hL.dom h1 h2⟩
    simp only [hpe, hnx]
    rfl

end Go.Proofs.Ytmaaaiccmllnlaa

/- Dominators: impl.graph.around, impl.graph.dominates, impl.Dominates. -/
namespace Go.Proofs.Ytmaaaiccmllnlaa
open Go.RowKit

noncomputable def ardL (pts : List Pt) (wo a : Nat) : List Bool := (List.range pts.length).map fun k => dec (Ard pts wo a k)
theorem ArI.ardL {pts : List Pt} {wo a : Nat} {fl : List Bool} (h : ArI pts wo a fl []) : fl = ardL pts wo a := by
  apply List.ext_getElem
  · simp [Proofs.Ytmaaaiccmllnlaa.ardL, h.len]
  · intro i h1 h2
    simp only [Proofs.Ytmaaaiccmllnlaa.ardL, List.getElem_map, List.getElem_range]
    rw [Bool.eq_iff_iff, dec_iff, ← h.done i, getD_lt h1]
theorem ardL_get {pts : List Pt} {wo a k : Nat} (hk : k < pts.length) : (ardL pts wo a).getD k false = dec (Ard pts wo a k) := by
  rw [getD_lt (by simpa [ardL] using hk)]; simp [ardL]
theorem ardL_len (pts : List Pt) (wo a : Nat) : (ardL pts wo a).length = pts.length := by simp [ardL]
def ArdRet (w : World) (pts : List Pt) (wo a : Nat) (e : Ending) (w' : World) : Prop :=
  ∃ g, e = .returned (.slice (some ⟨g, 0, none⟩) pts.length pts.length) ∧ RowB w' g 4 (bv (ardL pts wo a)) ∧ Below w.heap.size w w'

set_option maxHeartbeats 4000000 in
set_option maxRecDepth 100000 in
theorem around_any (vg : Value) (ts : List Int) (pts : List Pt) (B a wo : Nat) (w : World) (hg : GrS w B vg ts pts) (hB : B ≤ w.heap.size) (gd : Good ts pts) (ha : a < pts.length) :
    Calls Try.prog 119 #[vg, .int .i64 (a : Nat), .int .i64 (wo : Nat)] w (ArdRet w pts wo a) := by
  have GD := Lib.hid gd
  have hpl := gd.len
  clear gd
  obtain ⟨g, At, ct, vb, Al, cl, rfl, hgB, g0, g1, g2, ht, hp, htl, hpl'⟩ := hg.open_
  have hmk := make_bools pts.length (by omega)
  have HI := Lib.hid (ArI.init (wo := wo) ha)
  have HR := Lib.hid ((RowB.new w (bv (List.replicate pts.length false)) 4).alloc (.cells #[.int .i64 (a : Nat)] 3))
  have HBW := Lib.hid ((bel_a w (.cells (bv (List.replicate pts.length false)).toArray 4)).alloc (by simp) (.cells #[.int .i64 (a : Nat)] 3))
  have HQ := Lib.hid (Qu.one (w := w.alloc (.cells (bv (List.replicate pts.length false)).toArray 4)) (base := w.heap.size + 1) (by simp) a)
  have hsa : (w.alloc (.cells (bv (List.replicate pts.length false)).toArray 4)).heap.size = w.heap.size + 1 := by simp
  rw [hsa] at HQ
  clear hsa
  have HM0 : Hid (muQ (List.replicate pts.length false) [a] ≤ 200) := Lib.hid (by
    unfold muQ
    rw [List.count_replicate_self]
    simp; omega)
  generalize List.replicate pts.length false = fl0 at *
  go_enter Try.func119, Try.ntmps119
  go_wp2_with (at_builtin; fail)
  clear hmk
  go_loopg [8] (muQ fl0 [a] + 1) (fun gk v wr => ∃ (fl : List Bool) (q : List Nat), Qu wr (w.heap.size + 1) v q ∧ RowB wr w.heap.size 4 (bv fl) ∧ ArI pts wo a fl q ∧ (muQ fl q < gk ∧ muQ fl q ≤ 200) ∧ Below w.heap.size w wr)
  case atStart => exact ⟨fl0, [a], HQ.out, HR.out, HI.out, ⟨by omega, HM0.out⟩, HBW.out⟩
  case round =>
    obtain ⟨fl, q, hq, hr, hfi, hmu, hbr⟩ := hrel
    have HR1 := Lib.hid hr
    have HFI := Lib.hid hfi
    have HMU := Lib.hid hmu.1
    have HM2 := Lib.hid hmu.2
    have HB1 := Lib.hid hbr
    have hsr := hbr.size
    have HFL := Lib.hid hfi.len
    have hrl := hr.lt
    clear hmu HI HR HQ HBW
    cases q with
    | nil =>
      obtain ⟨g1', off1, c1, rfl, hc1⟩ := hq.slice
      have HFIN := Lib.hid hfi.ardL
      clear hfi hbr hq hr
      simp only [List.length_nil]
      go_wp2_with (at_builtin; fail)
      go_ret
      exact ⟨w.heap.size, rfl, by rw [← HFIN.out]; exact HR1.out, HB1.out⟩
    | cons k r =>
      obtain ⟨b1, off1, c1, rfl, hqc, hbl, hhd, hpop⟩ := hq.head
      have HPOP := Lib.hid hpop
      have hk := (hfi.qok k (by simp)).2
      have hck : wr.cell? ⟨w.heap.size, k, none⟩ = some (.bool (fl.getD k false)) := by rw [HR1.out.cell, bv_get (by rw [HFL.out]; exact hk)]
      have hfr := HR1.out.frozen k
      have hql : r.length ≤ 200 := by have := HM2.out; simp only [muQ, List.length_cons] at this; omega
      clear hpop hq hfi hr
      by_cases hkw : k = wo
      · have HSK := Lib.hid (HFI.out.skip (.inl hkw))
        have hne : ((k : Int) != (wo : Int)) = false := by simp; omega
        clear hkw hck hfr hbr
        rcases Nat.eq_zero_or_pos c1 with hc0 | hc0
        · subst hc0
          have HT : Hid (Qu wr (w.heap.size + 1) (.slice (some ⟨b1, off1, none⟩) 0 0) r) := Lib.hid (by
            have := HPOP.out off1 (by simp)
            rwa [show r.length = 0 by omega] at this)
          go_wp2_with (at_builtin; fail)
          go_roundg (muQ fl (k :: r))
          case measure => exact HMU.out
          case rel => exact ⟨fl, r, HT.out, HR1.out, HSK.out, ⟨muQ_skip, Nat.le_of_lt (Nat.lt_of_lt_of_le muQ_skip HM2.out)⟩, HB1.out⟩
        · have HT : Hid (Qu wr (w.heap.size + 1) (.slice (some ⟨b1, off1 + 1, none⟩) r.length c1) r) := Lib.hid (HPOP.out (off1 + 1) (by simp))
          go_wp2_with (at_builtin; fail)
          go_roundg (muQ fl (k :: r))
          case measure => exact HMU.out
          case rel => exact ⟨fl, r, HT.out, HR1.out, HSK.out, ⟨muQ_skip, Nat.le_of_lt (Nat.lt_of_lt_of_le muQ_skip HM2.out)⟩, HB1.out⟩
      · have HKW := Lib.hid hkw
        have hne : ((k : Int) != (wo : Int)) = true := by simp; omega
        clear hkw
        cases hfk : fl.getD k false
        · rw [hfk] at hck
          have HFK := Lib.hid hfk
          obtain ⟨b3, off3, c3, nv, e, hb3, hc3, hl3, hnx, z0, z1, z2, z3, z4⟩ := hp.get hk
          injection e with e1 e9 e2
          subst e1 e2
          have HNX := Lib.hid (hnx.low hbr hB)
          have hn2 : pts[k].next.length ≤ 2 := GD.out.next2 _ (List.getElem_mem hk)
          obtain ⟨An2, cn2, rfl, hcn2, hln2, -⟩ := hnx
          simp only [List.length_map] at z4 hcn2 hln2
          have y4 := (hbr.cell (p := ⟨b3, off3 + k * 5 + 4, none⟩) (by show b3 < _; omega)).trans z4
          have y2 := (hbr.cell (p := ⟨g, 2, none⟩) (by show g < _; omega)).trans g2
          have hbn : b3 < w.heap.size := by omega
          have hgn : g < w.heap.size := by omega
          have HMK := Lib.hid (HFI.out.mark HKW.out (List.getElem?_eq_getElem hk) GD.out.next)
          have HMM := Lib.hid (muQ_mark (r := r) (nx := pts[k].next) (show k < fl.length by rw [HFL.out]; exact hk) HFK.out hn2)
          have HNE : Hid (pts[k].next.map (fun k => ((k : Nat) : Int)) = msk pts[k].next) := Lib.hid rfl
          generalize pts[k].next = nx at *
          clear e9 hfk hbr z0 z1 z2 z3 z4
          rcases Nat.eq_zero_or_pos c1 with hc0 | hc0
          · subst hc0
            have HT : Hid (Qu wr (w.heap.size + 1) (.slice (some ⟨b1, off1, none⟩) 0 0) r) := Lib.hid (by
              have := HPOP.out off1 (by simp)
              rwa [show r.length = 0 by omega] at this)
            have HRW : Hid (RowB (wr.setCell ⟨w.heap.size, k, none⟩ (.bool true)) w.heap.size 4 (bv (fl.set k true))) := Lib.hid (by rw [← bv_set]; exact HR1.out.set_ k _)
            have HTW := Lib.hid (HT.out.other (b := w.heap.size) (by omega) k (.bool true))
            have HBW1 : Hid (Below w.heap.size w (wr.setCell ⟨w.heap.size, k, none⟩ (.bool true))) := Lib.hid (HB1.out.setCell (p := ⟨w.heap.size, k, none⟩) (Nat.le_refl _) _)
            have HNXW : Hid (IntS (wr.setCell ⟨w.heap.size, k, none⟩ (.bool true)) B (.slice An2 nx.length cn2) (msk nx)) := Lib.hid (by
              have h := HNX.out.low ((Below.refl w.heap.size wr).setCell (p := ⟨w.heap.size, k, none⟩) (Nat.le_refl _) (.bool true)) hB
              rw [HNE.out, msk_len] at h
              exact h)
            have hsW : (wr.setCell ⟨w.heap.size, k, none⟩ (.bool true)).heap.size = wr.heap.size := by simp [World.setCell]
            go_wp2_with (at_builtin; go_must (refine wpList_app_q rfl (.tmp 39) (.tmp 47) rfl HTW.out (by omega) (by omega) HNXW.out (by omega) rfl rfl ?_); intro v' w' hQ' hE')
            go_roundg (muQ fl (k :: r))
            case measure => exact HMU.out
            case rel => exact ⟨fl.set k true, r ++ nx, hQ', HRW.out.low hE' (by omega), HMK.out, ⟨HMM.out, Nat.le_of_lt (Nat.lt_of_lt_of_le HMM.out HM2.out)⟩, HBW1.out.trans (hE'.mono (by omega))⟩
          · have HT : Hid (Qu wr (w.heap.size + 1) (.slice (some ⟨b1, off1 + 1, none⟩) r.length c1) r) := Lib.hid (HPOP.out (off1 + 1) (by simp))
            have HRW : Hid (RowB (wr.setCell ⟨w.heap.size, k, none⟩ (.bool true)) w.heap.size 4 (bv (fl.set k true))) := Lib.hid (by rw [← bv_set]; exact HR1.out.set_ k _)
            have HTW := Lib.hid (HT.out.other (b := w.heap.size) (by omega) k (.bool true))
            have HBW1 : Hid (Below w.heap.size w (wr.setCell ⟨w.heap.size, k, none⟩ (.bool true))) := Lib.hid (HB1.out.setCell (p := ⟨w.heap.size, k, none⟩) (Nat.le_refl _) _)
            have HNXW : Hid (IntS (wr.setCell ⟨w.heap.size, k, none⟩ (.bool true)) B (.slice An2 nx.length cn2) (msk nx)) := Lib.hid (by
              have h := HNX.out.low ((Below.refl w.heap.size wr).setCell (p := ⟨w.heap.size, k, none⟩) (Nat.le_refl _) (.bool true)) hB
              rw [HNE.out, msk_len] at h
              exact h)
            have hsW : (wr.setCell ⟨w.heap.size, k, none⟩ (.bool true)).heap.size = wr.heap.size := by simp [World.setCell]
            go_wp2_with (at_builtin; go_must (refine wpList_app_q rfl (.tmp 39) (.tmp 47) rfl HTW.out (by omega) (by omega) HNXW.out (by omega) rfl rfl ?_); intro v' w' hQ' hE')
            go_roundg (muQ fl (k :: r))
            case measure => exact HMU.out
            case rel => exact ⟨fl.set k true, r ++ nx, hQ', HRW.out.low hE' (by omega), HMK.out, ⟨HMM.out, Nat.le_of_lt (Nat.lt_of_lt_of_le HMM.out HM2.out)⟩, HBW1.out.trans (hE'.mono (by omega))⟩
        · rw [hfk] at hck
          have HSK := Lib.hid (HFI.out.skip (.inr hfk))
          clear hfk hbr
          rcases Nat.eq_zero_or_pos c1 with hc0 | hc0
          · subst hc0
            have HT : Hid (Qu wr (w.heap.size + 1) (.slice (some ⟨b1, off1, none⟩) 0 0) r) := Lib.hid (by
              have := HPOP.out off1 (by simp)
              rwa [show r.length = 0 by omega] at this)
            go_wp2_with (at_builtin; fail)
            go_roundg (muQ fl (k :: r))
            case measure => exact HMU.out
            case rel => exact ⟨fl, r, HT.out, HR1.out, HSK.out, ⟨muQ_skip, Nat.le_of_lt (Nat.lt_of_lt_of_le muQ_skip HM2.out)⟩, HB1.out⟩
          · have HT : Hid (Qu wr (w.heap.size + 1) (.slice (some ⟨b1, off1 + 1, none⟩) r.length c1) r) := Lib.hid (HPOP.out (off1 + 1) (by simp))
            go_wp2_with (at_builtin; fail)
            go_roundg (muQ fl (k :: r))
            case measure => exact HMU.out
            case rel => exact ⟨fl, r, HT.out, HR1.out, HSK.out, ⟨muQ_skip, Nat.le_of_lt (Nat.lt_of_lt_of_le muQ_skip HM2.out)⟩, HB1.out⟩

set_option maxHeartbeats 4000000 in
set_option maxRecDepth 100000 in
theorem dominates_any (vg : Value) (ts : List Int) (pts : List Pt) (B a b : Nat) (w : World) (hg : GrS w B vg ts pts) (hB : B ≤ w.heap.size) (gd : Good ts pts) (hb : b < pts.length) :
    Calls Try.prog 79 #[vg, .int .i64 (a : Nat), .int .i64 (b : Nat)] w (fun e w' => e = .returned (.bool (a == b || !dec (Ard pts a 0 b))) ∧ Below w.heap.size w w') := by
  have HG := Lib.hid hg
  have GD := Lib.hid gd
  have hpl := gd.len
  clear hg gd
  by_cases hab : a = b
  · subst hab
    have hq : (a == a) = true := by simp
    rw [hq]
    go_enter Try.func79, Try.ntmps79
    go_wp2_with fail
    go_ret
    exact ⟨rfl, Below.refl _ _⟩
  · have hq : (a == b) = false := by simpa using hab
    have hq2 : ((a : Int) == (b : Int)) = false := by simp; omega
    rw [hq]
    have HC := Lib.hid (around_any vg ts pts B 0 a w HG.out hB GD.out (by omega))
    have HGT := Lib.hid (ardL_get (wo := a) (a := 0) hb)
    have HL := Lib.hid (ardL_len pts a 0)
    clear hab
    go_enter Try.func79, Try.ntmps79
    go_wp2_with fail
    refine HC.out.mono ?_
    rintro e w1 ⟨g, rfl, hrow, hb1⟩
    have hc := hrow.cell b
    rw [bv_get (by rw [HL.out]; exact hb), HGT.out] at hc
    clear hrow
    go_wp2_with fail
    go_ret
    exact ⟨rfl, hb1⟩

theorem graphOk_two {ts : List Int} {l : List St} {a b : Int} (h : graphOk ts l [a, b] = true) : validP ts l = true ∧ ∃ k j : Nat, a = k ∧ b = j ∧ k < (ptsP l).length ∧ j < (ptsP l).length := by
  unfold graphOk at h
  simp only [List.all_cons, List.all_nil, Bool.and_true, Bool.and_eq_true] at h
  obtain ⟨h1, h2, h3⟩ := h
  unfold withinP at h2 h3
  simp only [Bool.and_eq_true, decide_eq_true_eq] at h2 h3
  exact ⟨h1, a.toNat, b.toNat, by omega, by omega, by omega, by omega⟩
noncomputable def domRes (ts : List Int) (l : List St) (a b : Int) : Bool := graphOk ts l [a, b] && (a == b || !dec (Ard (ptsP l) a.toNat 0 b.toNat))
set_option maxHeartbeats 4000000 in
set_option maxRecDepth 100000 in
theorem iDominates_any (vt vb : Value) (ts : List Int) (l : List St) (a b : Int) (B : Nat) (w : World) (ht : IntS w B vt ts) (hl : StS w B vb l) (hB : B ≤ w.heap.size) (hsz : szL l ≤ 4194300) :
    Calls Try.prog 31 #[.agg #[vt, vb], .int .i64 a, .int .i64 b] w (fun e w' => e = .returned (.bool (domRes ts l a b)) ∧ Below w.heap.size w w') := by
  have hb2 : ∀ o o', Below w.heap.size w ((w.alloc o).alloc o') := fun o o' => (bel_a w o).alloc (by simp) o'
  go_enter Try.func31, Try.ntmps31
  go_wp2_with fail
  refine (graphOf_any vt vb _ ts l [a, b] (w.heap.size + 2) _ ((ht.low (hb2 _ _) hB).more (by omega)) ((hl.low (hb2 _ _) hB).more (by omega)) (by simpa using ints_lit (w.alloc _) [a, b] 3 (by simp)) (by simp) hsz).mono ?_
  rintro e w1 ⟨vg, rfl, hgr, hb1⟩
  have hb3 := (hb2 _ _).trans (hb1.mono (by simp; omega))
  cases hok : graphOk ts l [a, b]
  · have HRES : Hid (domRes ts l a b = false) := Lib.hid (by unfold domRes; rw [hok]; rfl)
    clear hok hgr
    go_wp2_with fail
    go_ret
    exact ⟨by rw [HRES.out]; rfl, hb3⟩
  · obtain ⟨hv, k, j, rfl, rfl, hk, hj⟩ := graphOk_two hok
    have HRES : Hid (domRes ts l (k : Nat) (j : Nat) = (k == j || !dec (Ard (ptsP l) k 0 j))) := Lib.hid (by
      unfold domRes; rw [hok, Bool.true_and]
      simp only [Int.toNat_natCast]
      congr 1
      rw [Bool.eq_iff_iff]; simp; omega)
    have HC := Lib.hid (dominates_any vg ts (ptsP l) w1.heap.size k j w1 (hgr hok) (Nat.le_refl _) (Good.of_valid hv) hj)
    have HB3 := Lib.hid hb3
    have hs3 := hb3.size
    clear hok hgr hv hb1 hb2 hb3
    go_wp2_with fail
    refine HC.out.mono ?_
    rintro e w2 ⟨rfl, hb4⟩
    have HB4 := Lib.hid (HB3.out.trans (hb4.mono hs3))
    clear hb4
    rw [← HRES.out]
    go_wp2_with fail
    go_ret
    exact ⟨rfl, HB4.out⟩

end Go.Proofs.Ytmaaaiccmllnlaa
