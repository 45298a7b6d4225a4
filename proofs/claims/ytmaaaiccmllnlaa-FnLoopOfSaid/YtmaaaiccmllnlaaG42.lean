import Derived.Test.YtmaaaiccmllnlaaG41
import Derived.Test.YtmaaaiccmllnlaaG23
import Derived.Deep.CutBlock
import Derived.Test.YtmaaaiccmllnlaaG29
import Derived.Test.YtmaaaiccmllnlaaG25
import Derived.Test.YtmaaaiccmllnlaaG38
import Derived.Test.YtmaaaiccmllnlaaG10
import Derived.Test.YtmaaaiccmllnlaaG12
import Derived.Test.YtmaaaiccmllnlaaG28
import Derived.Test.YtmaaaiccmllnlaaG20
set_option linter.unusedVariables false

/- spec.LoopOf. -/
namespace Go.Proofs.Ytmaaaiccmllnlaa
open Go.RowKit

def bestF (pts : List Pt) (k i : Nat) : Bool := decide (i < k + 1) && lpB pts k i
/-- the best loop among the first m points -/
def bestAt (pts : List Pt) (k m : Nat) : List Int := match lastI m (bestF pts k) with
  | some i => rngL i ((ptD pts i).next.getD 1 0)
  | none => []
theorem bestAt_yes {pts : List Pt} {k i : Nat} (h : bestF pts k i = true) : bestAt pts k (i + 1) = rngL i ((ptD pts i).next.getD 1 0) := by unfold bestAt; rw [lastI_succ, h]; rfl
theorem bestAt_no {pts : List Pt} {k i : Nat} (h : bestF pts k i = false) : bestAt pts k (i + 1) = bestAt pts k i := by unfold bestAt; rw [lastI_succ, h]; rfl
theorem bestAt_all {pts : List Pt} {k n : Nat} (h : k + 1 ≤ n) : bestAt pts k n = loopAt pts k := by
  unfold bestAt loopAt bestF
  rw [lastI_le h]
  rfl
theorem bestAt_len {l : List St} {k m : Nat} : (bestAt (ptsP l) k m).length ≤ (ptsP l).length := by
  unfold bestAt
  cases h : lastI m (bestF (ptsP l) k) with
  | none => simp
  | some i =>
    obtain ⟨h1, h2⟩ := lastI_some h
    unfold bestF at h2
    rw [Bool.and_eq_true] at h2
    obtain ⟨p, hp, ho, hn, ha⟩ := lpB_iff.1 h2.2
    obtain ⟨e, hnx, hL, he⟩ := ptsP_loop l hp ho hn
    have hi := (List.getElem?_eq_some_iff.1 hp).1
    have hpe : ptD (ptsP l) i = p := by rw [ptD_get hi]; rw [List.getElem?_eq_getElem hi] at hp; injection hp
    show (rngL i ((ptD (ptsP l) i).next.getD 1 0)).length ≤ _
    rw [rngL_len, hpe, hnx]
    show e - i ≤ _
    omega

set_option maxHeartbeats 4000000 in
set_option maxRecDepth 100000 in
theorem sLoopOf_any (vt vb : Value) (ts : List Int) (l : List St) (a : Int) (B : Nat) (w : World) (ht : IntS w B vt ts) (hl : StS w B vb l) (hB : B ≤ w.heap.size) (hsz : szL l ≤ 4194300) :
    Calls Try.prog 29 #[.agg #[vt, vb], .int .i64 a] w (IntsRet w (loopRes ts l a)) := by
  have HBX := Lib.hid (Boxed.new ht hl hB 26)
  have ht0 := ht
  obtain ⟨At, ct, rfl, hct, -, -⟩ := ht0
  obtain ⟨Ab, cb, rfl, hcb⟩ := hl.slice
  clear ht hl
  go_enter Try.func29, Try.ntmps29
  go_wp2_with (at_builtin; fail)
  refine (sPointsOf_any _ _ ts l B _ HBX.out.ht HBX.out.hl (by have := HBX.out.lt; omega) hsz).mono ?_
  rintro e w1 ⟨vp, rfl, hps, hb1⟩
  have HB1 := Lib.hid (HBX.out.bels hb1 hB).bel
  have HPS := Lib.hid hps
  obtain ⟨Ap, cp, rfl, hcp, hpl⟩ := hps.slice
  have hs1 := HB1.out.size
  clear hps hb1
  by_cases ha : a < 0
  · have HRES : Hid (loopRes ts l a = []) := Lib.hid (by unfold loopRes; rw [graphOk_no (.inl ha)]; rfl)
    have ha1 : decide (a < 0) = true := by simpa using ha
    generalize (pointsP ts l).length = np at *
    go_wp2_with (at_builtin; fail)
    go_ret
    exact ⟨_, rfl, by rw [HRES.out]; exact (OInts.empty w1 w1.heap.size (Nat.le_refl _)).toS (by simp), HB1.out.trans ((bel_a _ _).mono hs1)⟩
  · have ha1 : decide (a < 0) = false := by simpa using ha
    by_cases hal : a < (pointsP ts l).length
    · obtain ⟨hv, hpe, hok⟩ := graphOk_yes (by omega) hal
      rw [hpe] at HPS hcp hpl hal ⊢
      obtain ⟨k, rfl⟩ : ∃ k : Nat, a = k := ⟨a.toNat, by omega⟩
      have hk : k < (ptsP l).length := by omega
      have hplen := (Good.of_valid hv).len
      have HRES : Hid (loopRes ts l (k : Nat) = bestAt (ptsP l) k (ptsP l).length) := Lib.hid (by
        unfold loopRes; rw [if_pos hok, bestAt_all (by omega)]; rfl)
      have hal1 : decide ((k : Int) ≥ ((ptsP l).length : Nat)) = false := by simp; omega
      have HLP := Lib.hid (fun (i : Nat) (p : Pt) (hp : (ptsP l)[i]? = some p) ho hn => ptsP_loop l hp ho hn)
      have HBL := Lib.hid (fun m => bestAt_len (l := l) (k := k) (m := m))
      have HB0 : Hid (bestAt (ptsP l) k 0 = []) := Lib.hid rfl
      clear hv hpe hok hal ha ha1
      generalize ptsP l = pts at *
      have ha1 : decide ((k : Int) < 0) = false := by simp
      go_wp2_with (at_builtin; fail)
      clear hal1
      (try generalize decide ((k : Int) ≥ (pts.length : Int)) = bz1)
      (try generalize decide ((pts.length : Int) ≤ (k : Int)) = bz2)
      (try generalize decide (pts.length ≤ k) = bz3)
      go_loopw [6, 7] (fun v i wr => ∃ i' : Nat, i' ≤ pts.length ∧ i = .int .i64 i' ∧ OInts wr w1.heap.size v (bestAt pts k i') ∧ Below w1.heap.size w1 wr) (fun _ i _ => pts.length - (intOf i).toNat)
      case atStart => exact ⟨0, Nat.zero_le _, rfl, by rw [HB0.out]; exact OInts.empty w1 _ (Nat.le_refl _), bel_a _ _⟩
      case round =>
        obtain ⟨i, hi, rfl, hO, hbw⟩ := hrel
        have HO := Lib.hid hO
        have HBW := Lib.hid hbw
        have hsw := hbw.size
        have hbl := HBL.out i
        obtain ⟨A6, c6, rfl, hc6⟩ := hO.slice
        clear hO
        by_cases hil : i < pts.length
        · obtain ⟨bp, op, cp', nv, e, hbp, hcp', hlp, hnx, z0, z1, z2, z3, z4⟩ := HPS.out.get hil
          injection e with e1 e9 e2
          subst e1 e2
          have HNX := Lib.hid (hnx.low hbw (Nat.le_refl _))
          obtain ⟨An, cn, rfl, hcn, hln, -⟩ := hnx
          have HLQ := Lib.hid (HLP.out i _ (List.getElem?_eq_getElem hil))
          have HPG := Lib.hid (List.getElem?_eq_getElem hil)
          have HPD := Lib.hid (ptD_get hil)
          generalize pts[i] = P at *
          have p0 := (hbw.cell (p := ⟨bp, op + i * 5, none⟩) (by omega)).trans z0
          have p3 := (hbw.cell (p := ⟨bp, op + i * 5 + 3, none⟩) (by omega)).trans z3
          have p4 := (hbw.cell (p := ⟨bp, op + i * 5 + 4, none⟩) (by omega)).trans z4
          simp only [List.length_map] at hcn hln p4
          have hilt : decide ((i : Int) < (pts.length : Int)) = true := decide_eq_true (by omega)
          clear e9 z0 z1 z2 z3 z4 hbw
          by_cases hop : P.op = 10
          · by_cases hn : P.n = 0
            · obtain ⟨e, hnx, hL, hel⟩ := HLQ.out hop hn
              obtain ⟨A2, c2, e2, -, -, hrn⟩ := HNX.out
              injection e2 with e2 e9 e8
              subst e2 e8
              have HF : Hid (bestF pts k i = (decide (i < k + 1) && decide (k < e))) := Lib.hid (by unfold bestF lpB; rw [HPG.out]; simp [hop, hn, hnx])
              have HRG : Hid (bestF pts k i = true → bestAt pts k (i + 1) = rngL i e) := Lib.hid fun h => by rw [bestAt_yes h, HPD.out, hnx]; rfl
              have hie := hL.lt
              rw [hnx] at hrn
              have hnl : P.next.length = 2 := by rw [hnx]; rfl
              rw [hnl] at hcn hln p4
              obtain ⟨bn, on, rfl, hbn, hcell⟩ := Rd.int_at (l := [i + 1, e].map fun k => ((k : Nat) : Int)) (by simpa using hrn) (k := 1) (by simp)
              have hcm : wr.cell? ⟨bn, on + 1, none⟩ = some (.int .i64 (e : Nat)) := by simpa using hcell 1 (by simp)
              rw [hop] at p0
              rw [hn] at p3
              clear hnx hrn hcell e9 hnl hL hop hn
              by_cases hki : k < i
              · have hk1 : decide ((k : Int) < (i : Int)) = true := decide_eq_true (by omega)
                have HSK : Hid (bestAt pts k (i + 1) = bestAt pts k i) := Lib.hid (bestAt_no (by rw [HF.out, decide_eq_false (by omega)]; rfl))
                clear HF HRG
                go_wp2_with (at_builtin; fail)
                exact ⟨⟨i + 1, by omega, by go_num, by rw [HSK.out]; exact HO.out, HBW.out⟩, by simp [intOf] <;> omega⟩
              · have hk1 : decide ((k : Int) < (i : Int)) = false := decide_eq_false (by omega)
                by_cases hke : k < e
                · have hk2 : decide ((k : Int) ≥ (e : Int)) = false := decide_eq_false (by omega)
                  have HNX2 := Lib.hid (HRG.out (by rw [HF.out, decide_eq_true (by omega), decide_eq_true hke]; rfl))
                  have HE0 : Hid (OInts (wr.alloc (.cells #[] 3)) wr.heap.size (.slice (some ⟨wr.heap.size, 0, none⟩) 0 0) (rngL i i)) := Lib.hid (by rw [rngL_nil]; exact OInts.empty wr wr.heap.size (Nat.le_refl _))
                  have HBA := Lib.hid (HBW.out.trans ((bel_a wr (.cells #[] 3)).mono hsw))
                  have q4 := ((bel_a wr (.cells #[] 3)).cell (p := ⟨bp, op + i * 5 + 4, none⟩) (by show bp < _; omega)).trans p4
                  have qm := ((bel_a wr (.cells #[] 3)).cell (p := ⟨bn, on + 1, none⟩) (by show bn < _; omega)).trans hcm
                  obtain ⟨bw0, hbw0⟩ : ∃ bw0, bw0 = wr.heap.size := ⟨_, rfl⟩
                  have hbnr : bn < bw0 := by omega
                  have hwb0 : w1.heap.size ≤ bw0 := by omega
                  have hbpr : bp < bw0 := by omega
                  clear HO
                  go_wp2_with (at_builtin; fail)
                  have hsA : bw0 ≤ (wr.alloc (.cells #[] 3)).heap.size := by simp; omega
                  rw [← hbw0] at HE0 ⊢
                  generalize wr.alloc (.cells #[] 3) = wb at *
                  clear p0 p3 p4 hcm hbw0 hsw
                  have hswb := HBA.out.size
                  clear hk1 hk2
                  (try generalize decide ((k : Int) ≥ (e : Int)) = bz4)
                  (try generalize decide ((e : Int) ≤ (k : Int)) = bz5)
                  (try generalize decide (e ≤ k) = bz6)
                  go_loopw [6, 8] (fun v q wr => ∃ q' : Nat, i ≤ q' ∧ q' ≤ e ∧ q = .int .i64 q' ∧ OInts wr bw0 v (rngL i q') ∧ Below bw0 wb wr) (fun _ q _ => e - (intOf q).toNat)
                  case atStart => exact ⟨i, Nat.le_refl _, by omega, rfl, HE0.out, Below.refl _ _⟩
                  case round =>
                    obtain ⟨q, hq1, hq2, rfl, hP, hbq⟩ := hrel
                    have HP := Lib.hid hP
                    have HBQ := Lib.hid hbq
                    have hsq := hbq.size
                    have hpl2 : (rngL i q).length ≤ 64 := by rw [rngL_len]; omega
                    have y4 := (hbq.cell (p := ⟨bp, op + i * 5 + 4, none⟩) (by show bp < _; omega)).trans q4
                    have ym := (hbq.cell (p := ⟨bn, on + 1, none⟩) (by show bn < _; omega)).trans qm
                    obtain ⟨A8, c8, rfl, hc8⟩ := hP.slice
                    clear hP hbq
                    by_cases hqe : q < e
                    · have hq3 : decide ((q : Int) < (e : Int)) = true := decide_eq_true (by omega)
                      have HSU := Lib.hid (rngL_succ hq1)
                      generalize rngL i q = o at *
                      go_wp2_with (at_builtin; go_must (refine wpList_push_int rfl (.tmp 70) (.tmp 72) rfl HP.out (by omega) (by omega) _ rfl rfl ?_); intro v' w' hP' hE')
                      exact ⟨⟨q + 1, by omega, by omega, by go_num, by rw [HSU.out]; exact hP', HBQ.out.trans ((((Evo.alloc bw0 3 _ _).trans hE').below (by omega)))⟩, by simp [intOf] <;> omega⟩
                    · obtain rfl : q = e := by omega
                      have hq3 : decide ((q : Int) < (q : Int)) = false := decide_eq_false (by omega)
                      have HFI : Hid (OInts wr w1.heap.size (.slice A8 (rngL i q).length c8) (bestAt pts k (i + 1))) := Lib.hid (by rw [HNX2.out]; exact HP.out.move hwb0 fun _ _ _ => rfl)
                      generalize (rngL i q).length = n8 at *
                      have hn8 : n8 = (bestAt pts k (i + 1)).length := by
                        obtain ⟨A9, c9, e9, -⟩ := HFI.out.slice
                        injection e9
                      subst hn8
                      go_wp2_with (at_builtin; fail)
                      exact ⟨⟨i + 1, by omega, by go_num, HFI.out, HBA.out.trans (HBQ.out.mono (by omega))⟩, by simp [intOf] <;> omega⟩
                · have hk2 : decide ((k : Int) ≥ (e : Int)) = true := decide_eq_true (by omega)
                  have HSK : Hid (bestAt pts k (i + 1) = bestAt pts k i) := Lib.hid (bestAt_no (by rw [HF.out, decide_eq_false (by omega : ¬ k < e), Bool.and_false]))
                  clear HF HRG
                  go_wp2_with (at_builtin; fail)
                  exact ⟨⟨i + 1, by omega, by go_num, by rw [HSK.out]; exact HO.out, HBW.out⟩, by simp [intOf] <;> omega⟩
            · have hn1 : (P.n != 0) = true := by simpa using hn
              have ho1 : (P.op != 10) = false := by simpa using hop
              have HSK : Hid (bestAt pts k (i + 1) = bestAt pts k i) := Lib.hid (bestAt_no (by unfold bestF lpB; rw [HPG.out]; simp [hn]))
              clear hop hn
              go_wp2_with (at_builtin; fail)
              exact ⟨⟨i + 1, by omega, by go_num, by rw [HSK.out]; exact HO.out, HBW.out⟩, by simp [intOf] <;> omega⟩
          · have ho1 : (P.op != 10) = true := by simpa using hop
            have HSK : Hid (bestAt pts k (i + 1) = bestAt pts k i) := Lib.hid (bestAt_no (by unfold bestF lpB; rw [HPG.out]; simp [hop]))
            clear hop
            go_wp2_with (at_builtin; fail)
            exact ⟨⟨i + 1, by omega, by go_num, by rw [HSK.out]; exact HO.out, HBW.out⟩, by simp [intOf] <;> omega⟩
        · have hie : i = pts.length := by omega
          have HFIN : Hid (OInts wr w1.heap.size (.slice A6 (bestAt pts k i).length c6) (loopRes ts l (k : Nat))) := Lib.hid (by rw [HRES.out, ← hie]; exact HO.out)
          have hfl : (loopRes ts l (k : Nat)).length ≤ 100 := by rw [HRES.out]; have := HBL.out pts.length; omega
          have hilt : decide ((i : Int) < (pts.length : Int)) = false := decide_eq_false (by omega)
          clear hie hbw HO
          go_wp2_with (at_builtin; fail)
          go_ret
          exact ⟨_, rfl, HFIN.out.toS (by omega), HB1.out.trans (HBW.out.mono hs1)⟩
    · have HRES : Hid (loopRes ts l a = []) := Lib.hid (by unfold loopRes; rw [graphOk_no (.inr (by omega))]; rfl)
      generalize (pointsP ts l).length = np at *
      have hal1 : decide (a ≥ (np : Nat)) = true := by simpa using hal
      go_wp2_with (at_builtin; fail)
      go_ret
      exact ⟨_, rfl, by rw [HRES.out]; exact (OInts.empty w1 w1.heap.size (Nat.le_refl _)).toS (by simp), HB1.out.trans ((bel_a _ _).mono hs1)⟩

end Go.Proofs.Ytmaaaiccmllnlaa

/- Words for a queue of ints: a whole slice is appended to it. -/
namespace Go.Proofs.Ytmaaaiccmllnlaa
open Go.RowKit

theorem RowB.setCells {g : Nat} {t : TypeId} : ∀ (vs : List Value) (o : Nat) (w : World) (L : List Value), RowB w g t L → o + vs.length ≤ L.length → ∃ L', RowB (w.setCells g o vs) g t L' ∧ L'.length = L.length ∧ ∀ j, L'[j]? = if o ≤ j ∧ j < o + vs.length then vs[j - o]? else L[j]?
  | [], o, w, L, h, _ => ⟨L, h, rfl, fun j => by rw [if_neg (by simp only [List.length_nil]; omega)]⟩
  | v :: vs, o, w, L, h, hl => by
    simp only [List.length_cons] at hl
    obtain ⟨L', h1, h2, h3⟩ := RowB.setCells vs (o + 1) (w.setCell ⟨g, o, none⟩ v) (L.set o v) (h.set_ o v) (by simp; omega)
    refine ⟨L', h1, by rw [h2]; simp, fun j => ?_⟩
    rw [h3]
    simp only [List.length_cons]
    by_cases e : j = o
    · subst e
      rw [if_neg (by omega), if_pos ⟨by omega, by omega⟩, List.getElem?_set_self (by omega), Nat.sub_self]; rfl
    · by_cases e2 : o + 1 ≤ j ∧ j < o + 1 + vs.length
      · rw [if_pos e2, if_pos ⟨by omega, by omega⟩, show j - o = (j - (o + 1)) + 1 by omega]; rfl
      · rw [if_neg e2, if_neg (by omega), List.getElem?_set_ne (Ne.symm e)]
theorem below_setL {B g : Nat} (hg : B ≤ g) : ∀ (vs : List Value) (o : Nat) (w : World), Below B w (w.setCells g o vs)
  | [], _, w => Below.refl B w
  | v :: r, o, w => ((Below.refl B w).setCell (p := ⟨g, o, none⟩) hg v).trans (below_setL hg r (o + 1) _)
theorem Qu.one {w : World} {base : Nat} (hb : base ≤ w.heap.size) (a : Nat) : Qu (w.alloc (.cells #[.int .i64 (a : Nat)] 3)) base (.slice (some ⟨w.heap.size, 0, none⟩) 1 1) [a] :=
  ⟨w.heap.size, 0, 1, #[.int .i64 (a : Nat)], rfl, hb, heap_alloc_new w _, Nat.le_refl _, by simp, fun j hj => by
    obtain rfl : j = 0 := by simpa using hj
    rfl⟩
theorem Qu.slice {w : World} {base : Nat} {v : Value} {q : List Nat} (h : Qu w base v q) : ∃ g off cap, v = .slice (some ⟨g, off, none⟩) q.length cap ∧ q.length ≤ cap := by
  obtain ⟨g, off, cap, cur, e, h1, h2, h3, h4⟩ := h
  exact ⟨g, off, cap, e, h3⟩
/-- append(work, list...) -/
theorem wpList_app_q {ops : Array Oper} {rest : List Oper} {o : Oper} {a : Act} {Q : Exit → Act → World → Prop} {W : World} {base : Nat} {v : Value} {q : List Nat} (hgd : o.guard = none) (s x : Operand)
    (ho : o.op = .call { callee := .builtin .append, args := #[s, x], argTypes := #[23, 23] })
    (h : Qu W base v q) (hb : base ≤ W.heap.size) (hq : q.length ≤ 100000) {B : Nat} {vs : Value} {nx : List Nat} (hn : IntS W B vs (msk nx)) (hnx : nx.length ≤ 1000) (hs : a.eval s = v) (hx : a.eval x = vs)
    (hK : ∀ v' w', Qu w' base v' (q ++ nx) → Below base W w' → wpList Try.prog ops Q rest (a.put o.dst v') w') :
    wpList Try.prog ops Q (o :: rest) a W := by
  obtain ⟨i0, hi0, hz0, hz1, hz2⟩ := info_parts Try.infoInt
  obtain ⟨g, off, cap, cur, e, h1, h2, h3, h4, h5⟩ := h
  subst e
  obtain ⟨A, c, rfl, hc, hm, hr⟩ := hn
  rw [msk_len] at hc hm hx
  have hcell : ∀ j u, (q.map fun (m : Nat) => Value.int .i64 (m : Int))[j]? = some u → W.cell? ⟨g, off + j, none⟩ = some u := by
    intro j u hu
    have hj : j < q.length := by
      rcases Nat.lt_or_ge j q.length with hh | hh
      · exact hh
      · rw [List.getElem?_eq_none (by simpa using hh)] at hu; cases hu
    rw [cell_of_row _ _ _ _ _ _ h2, h5 j hj]
    rw [List.getElem?_map, List.getElem?_eq_getElem hj] at hu
    rw [getD_lt hj]
    simpa using hu
  cases A with
  | none =>
    have h0 : nx = [] := by
      rcases Nat.eq_zero_or_pos nx.length with h0 | h0
      · exact List.length_eq_zero_iff.1 h0
      · obtain ⟨b, off', e, _⟩ := hr.2 (by rw [msk_len]; exact h0)
        cases e
    subst h0
    refine wpList_plain hgd fun K hK' => ?_
    unfold Oper.wp
    simp [execOp, ho, resolve, invoke, builtin, hs, hx, Builtin.append_, run_underlying Try.underlying23, sizeOf, typeInfo, hi0, Builtin.lenOf, Builtin.firstCells, h3, storeCells, Result.andThen]
    exact hK' _ _ (hK _ _ (by rw [List.append_nil]; exact ⟨g, off, cap, cur, rfl, h1, h2, h3, h4, h5⟩) (Below.refl _ _))
  | some ad =>
    have hsrc : ∀ j u, ((msk nx).map (Value.int .i64))[j]? = some u → W.cell? (ad.add j) = some u := fun j u hu => by
      have hj : 0 < (msk nx).length := by
        rcases Nat.eq_zero_or_pos (msk nx).length with hh | hh
        · rw [List.getElem?_eq_none (by simp only [List.length_map]; omega)] at hu; cases hu
        · exact hh
      obtain ⟨b, off', e, _, hcl⟩ := hr.2 hj
      have e' := Option.some.inj e
      subst e'
      rw [Addr.add_lit]
      exact hcl j u hu
    have hnl : ((msk nx).map (Value.int .i64)).length = nx.length * 1 := by rw [List.length_map, msk_len, Nat.mul_one]
    have hng : ∀ j, j < nx.length → ((msk nx).map (Value.int .i64))[j]? = some (.int .i64 (nx.getD j 0 : Nat)) := fun j hj => by
      rw [getD_lt hj]; simp [msk, hj]
    refine wpList_append_arg W hgd s x 23 ho 3 i0 _ 1 8 Try.underlying23 hi0 hz0 hz1 hz2 rfl (by omega) g off q.length cap (q.map fun (m : Nat) => Value.int .i64 (m : Int)) hs (by simp) hcell ad nx.length c ((msk nx).map (Value.int .i64)) hx hnl hsrc (fun u hu => by obtain ⟨z, _, rfl⟩ := List.mem_map.1 hu; rfl) (fun hroom j hj => ?_) (by simp only [maxLen]; omega) (by omega) (fun hroom => ?_) (fun hgrow v' w' hown hgr => ?_)
    · rw [hnl] at hj
      refine ⟨?_, frozen_of_row _ _ _ _ _ h2⟩
      rw [cell_of_row _ _ _ _ _ _ h2, Array.getElem?_eq_getElem (by omega)]; rfl
    · refine hK _ _ ?_ (below_setL h1 _ _ _)
      have hrow : RowB W g 3 cur.toList := by unfold RowB; simpa using h2
      obtain ⟨L', k1, k2, k3⟩ := RowB.setCells ((msk nx).map (Value.int .i64)) (off + q.length * 1) W cur.toList hrow (by rw [hnl]; simp; omega)
      refine ⟨g, off, cap, L'.toArray, by rw [List.length_append], h1, k1, by rw [List.length_append]; exact hroom, by simp [k2]; omega, fun j hj => ?_⟩
      rw [List.length_append] at hj
      rw [List.getElem?_toArray, k3, hnl]
      by_cases hjq : j < q.length
      · rw [if_neg (by omega), show (q ++ nx).getD j 0 = q.getD j 0 by rw [getD_lt (by simp; omega), getD_lt hjq, List.getElem_append_left hjq], ← h5 j hjq]
        simp
      · rw [if_pos (by omega), show off + j - (off + q.length * 1) = j - q.length by omega, hng _ (by omega), show (q ++ nx).getD j 0 = nx.getD (j - q.length) 0 by
          rw [getD_lt (by simp; omega), getD_lt (show j - q.length < nx.length by omega), List.getElem_append_right (by omega)]]
    · have hb3 : Below W.heap.size W w' := ⟨hgr.os, hgr.tape, hgr.output, hgr.size, fun k hk => hgr.block k hk (by simp)⟩
      refine hK _ _ ?_ (hb3.mono hb)
      rcases hown.2 with ⟨_, h0⟩ | ⟨g', cap', cur', hv, hbg, hh, hc1, _, hc2, hc3⟩
      · omega
      · refine ⟨g', 0, cap', cur', by rw [hv, List.length_append], by omega, hh, by rw [List.length_append]; exact hc1, by omega, fun j hj => ?_⟩
        rw [List.length_append] at hj
        have e1 : (cur'.toList.take ((q.length + nx.length) * 1))[j]? = cur'[0 + j]? := by
          rw [List.getElem?_take, if_pos (by simpa using hj)]
          simp
        rw [← e1, hc3]
        by_cases hjq : j < q.length
        · rw [List.getElem?_append_left (by simpa using hjq), show (q ++ nx).getD j 0 = q.getD j 0 by rw [getD_lt (by simp; omega), getD_lt hjq, List.getElem_append_left hjq], getD_lt hjq]
          simp [hjq]
        · rw [List.getElem?_append_right (by simp; omega), List.length_map, hng _ (by omega), show (q ++ nx).getD j 0 = nx.getD (j - q.length) 0 by
            rw [getD_lt (by simp; omega), getD_lt (show j - q.length < nx.length by omega), List.getElem_append_right (by omega)]]

end Go.Proofs.Ytmaaaiccmllnlaa

/- Dominators: impl.graph.around, impl.graph.dominates, impl.Dominates. -/
namespace Go.Proofs.Ytmaaaiccmllnlaa
open Go.RowKit

noncomputable def ardL (pts : List Pt) (wo a : Nat) : List Bool := (List.range pts.length).map fun k => dec (Ard pts wo a k)
theorem ArI.ardL {pts : List Pt} {wo a : Nat} {fl : List Bool} (h : ArI pts wo a fl []) : fl = ardL pts wo a := by
  apply List.ext_getElem
  · simp [Proofs.Ytmaaaiccmllnlaa.ardL, h.len]
  · intro i h1 h2
    simp only [Proofs.Ytmaaaiccmllnlaa.ardL, List.getElem_map, List.getElem_range]
    rw [Bool.eq_iff_iff, dec_iff, ← h.done i, getD_lt h1]
theorem ardL_get {pts : List Pt} {wo a k : Nat} (hk : k < pts.length) : (ardL pts wo a).getD k false = dec (Ard pts wo a k) := by
  rw [getD_lt (by simpa [ardL] using hk)]; simp [ardL]
theorem ardL_len (pts : List Pt) (wo a : Nat) : (ardL pts wo a).length = pts.length := by simp [ardL]
def ArdRet (w : World) (pts : List Pt) (wo a : Nat) (e : Ending) (w' : World) : Prop :=
  ∃ g, e = .returned (.slice (some ⟨g, 0, none⟩) pts.length pts.length) ∧ RowB w' g 4 (bv (ardL pts wo a)) ∧ Below w.heap.size w w'

set_option maxHeartbeats 4000000 in
set_option maxRecDepth 100000 in
theorem around_any (vg : Value) (ts : List Int) (pts : List Pt) (B a wo : Nat) (w : World) (hg : GrS w B vg ts pts) (hB : B ≤ w.heap.size) (gd : Good ts pts) (ha : a < pts.length) :
    Calls Try.prog 119 #[vg, .int .i64 (a : Nat), .int .i64 (wo : Nat)] w (ArdRet w pts wo a) := by
  have GD := Lib.hid gd
  have hpl := gd.len
  clear gd
  obtain ⟨g, At, ct, vb, Al, cl, rfl, hgB, g0, g1, g2, ht, hp, htl, hpl'⟩ := hg.open_
  have hmk := make_bools pts.length (by omega)
  have HI := Lib.hid (ArI.init (wo := wo) ha)
  have HR := Lib.hid ((RowB.new w (bv (List.replicate pts.length false)) 4).alloc (.cells #[.int .i64 (a : Nat)] 3))
  have HBW := Lib.hid ((bel_a w (.cells (bv (List.replicate pts.length false)).toArray 4)).alloc (by simp) (.cells #[.int .i64 (a : Nat)] 3))
  have HQ := Lib.hid (Qu.one (w := w.alloc (.cells (bv (List.replicate pts.length false)).toArray 4)) (base := w.heap.size + 1) (by simp) a)
  have hsa : (w.alloc (.cells (bv (List.replicate pts.length false)).toArray 4)).heap.size = w.heap.size + 1 := by simp
  rw [hsa] at HQ
  clear hsa
  have HM0 : Hid (muQ (List.replicate pts.length false) [a] ≤ 200) := Lib.hid (by
    unfold muQ
    rw [List.count_replicate_self]
    simp; omega)
  generalize List.replicate pts.length false = fl0 at *
  go_enter Try.func119, Try.ntmps119
  go_wp2_with (at_builtin; fail)
  clear hmk
  go_loopg [8] (muQ fl0 [a] + 1) (fun gk v wr => ∃ (fl : List Bool) (q : List Nat), Qu wr (w.heap.size + 1) v q ∧ RowB wr w.heap.size 4 (bv fl) ∧ ArI pts wo a fl q ∧ (muQ fl q < gk ∧ muQ fl q ≤ 200) ∧ Below w.heap.size w wr)
  case atStart => exact ⟨fl0, [a], HQ.out, HR.out, HI.out, ⟨by omega, HM0.out⟩, HBW.out⟩
  case round =>
    obtain ⟨fl, q, hq, hr, hfi, hmu, hbr⟩ := hrel
    have HR1 := Lib.hid hr
    have HFI := Lib.hid hfi
    have HMU := Lib.hid hmu.1
    have HM2 := Lib.hid hmu.2
    have HB1 := Lib.hid hbr
    have hsr := hbr.size
    have HFL := Lib.hid hfi.len
    have hrl := hr.lt
    clear hmu HI HR HQ HBW
    cases q with
    | nil =>
      obtain ⟨g1', off1, c1, rfl, hc1⟩ := hq.slice
      have HFIN := Lib.hid hfi.ardL
      clear hfi hbr hq hr
      simp only [List.length_nil]
      go_wp2_with (at_builtin; fail)
      go_ret
      exact ⟨w.heap.size, rfl, by rw [← HFIN.out]; exact HR1.out, HB1.out⟩
    | cons k r =>
      obtain ⟨b1, off1, c1, rfl, hqc, hbl, hhd, hpop⟩ := hq.head
      have HPOP := Lib.hid hpop
      have hk := (hfi.qok k (by simp)).2
      have hck : wr.cell? ⟨w.heap.size, k, none⟩ = some (.bool (fl.getD k false)) := by rw [HR1.out.cell, bv_get (by rw [HFL.out]; exact hk)]
      have hfr := HR1.out.frozen k
      have hql : r.length ≤ 200 := by have := HM2.out; simp only [muQ, List.length_cons] at this; omega
      clear hpop hq hfi hr
      by_cases hkw : k = wo
      · have HSK := Lib.hid (HFI.out.skip (.inl hkw))
        have hne : ((k : Int) != (wo : Int)) = false := by simp; omega
        clear hkw hck hfr hbr
        rcases Nat.eq_zero_or_pos c1 with hc0 | hc0
        · subst hc0
          have HT : Hid (Qu wr (w.heap.size + 1) (.slice (some ⟨b1, off1, none⟩) 0 0) r) := Lib.hid (by
            have := HPOP.out off1 (by simp)
            rwa [show r.length = 0 by omega] at this)
          go_wp2_with (at_builtin; fail)
          go_roundg (muQ fl (k :: r))
          case measure => exact HMU.out
          case rel => exact ⟨fl, r, HT.out, HR1.out, HSK.out, ⟨muQ_skip, Nat.le_of_lt (Nat.lt_of_lt_of_le muQ_skip HM2.out)⟩, HB1.out⟩
        · have HT : Hid (Qu wr (w.heap.size + 1) (.slice (some ⟨b1, off1 + 1, none⟩) r.length c1) r) := Lib.hid (HPOP.out (off1 + 1) (by simp))
          go_wp2_with (at_builtin; fail)
          go_roundg (muQ fl (k :: r))
          case measure => exact HMU.out
          case rel => exact ⟨fl, r, HT.out, HR1.out, HSK.out, ⟨muQ_skip, Nat.le_of_lt (Nat.lt_of_lt_of_le muQ_skip HM2.out)⟩, HB1.out⟩
      · have HKW := Lib.hid hkw
        have hne : ((k : Int) != (wo : Int)) = true := by simp; omega
        clear hkw
        cases hfk : fl.getD k false
        · rw [hfk] at hck
          have HFK := Lib.hid hfk
          obtain ⟨b3, off3, c3, nv, e, hb3, hc3, hl3, hnx, z0, z1, z2, z3, z4⟩ := hp.get hk
          injection e with e1 e9 e2
          subst e1 e2
          have HNX := Lib.hid (hnx.low hbr hB)
          have hn2 : pts[k].next.length ≤ 2 := GD.out.next2 _ (List.getElem_mem hk)
          obtain ⟨An2, cn2, rfl, hcn2, hln2, -⟩ := hnx
          simp only [List.length_map] at z4 hcn2 hln2
          have y4 := (hbr.cell (p := ⟨b3, off3 + k * 5 + 4, none⟩) (by show b3 < _; omega)).trans z4
          have y2 := (hbr.cell (p := ⟨g, 2, none⟩) (by show g < _; omega)).trans g2
          have hbn : b3 < w.heap.size := by omega
          have hgn : g < w.heap.size := by omega
          have HMK := Lib.hid (HFI.out.mark HKW.out (List.getElem?_eq_getElem hk) GD.out.next)
          have HMM := Lib.hid (muQ_mark (r := r) (nx := pts[k].next) (show k < fl.length by rw [HFL.out]; exact hk) HFK.out hn2)
          have HNE : Hid (pts[k].next.map (fun k => ((k : Nat) : Int)) = msk pts[k].next) := Lib.hid rfl
          generalize pts[k].next = nx at *
          clear e9 hfk hbr z0 z1 z2 z3 z4
          rcases Nat.eq_zero_or_pos c1 with hc0 | hc0
          · subst hc0
            have HT : Hid (Qu wr (w.heap.size + 1) (.slice (some ⟨b1, off1, none⟩) 0 0) r) := Lib.hid (by
              have := HPOP.out off1 (by simp)
              rwa [show r.length = 0 by omega] at this)
            have HRW : Hid (RowB (wr.setCell ⟨w.heap.size, k, none⟩ (.bool true)) w.heap.size 4 (bv (fl.set k true))) := Lib.hid (by rw [← bv_set]; exact HR1.out.set_ k _)
            have HTW := Lib.hid (HT.out.other (b := w.heap.size) (by omega) k (.bool true))
            have HBW1 : Hid (Below w.heap.size w (wr.setCell ⟨w.heap.size, k, none⟩ (.bool true))) := Lib.hid (HB1.out.setCell (p := ⟨w.heap.size, k, none⟩) (Nat.le_refl _) _)
            have HNXW : Hid (IntS (wr.setCell ⟨w.heap.size, k, none⟩ (.bool true)) B (.slice An2 nx.length cn2) (msk nx)) := Lib.hid (by
              have h := HNX.out.low ((Below.refl w.heap.size wr).setCell (p := ⟨w.heap.size, k, none⟩) (Nat.le_refl _) (.bool true)) hB
              rw [HNE.out, msk_len] at h
              exact h)
            have hsW : (wr.setCell ⟨w.heap.size, k, none⟩ (.bool true)).heap.size = wr.heap.size := by simp [World.setCell]
            go_wp2_with (at_builtin; go_must (refine wpList_app_q rfl (.tmp 39) (.tmp 47) rfl HTW.out (by omega) (by omega) HNXW.out (by omega) rfl rfl ?_); intro v' w' hQ' hE')
            go_roundg (muQ fl (k :: r))
            case measure => exact HMU.out
            case rel => exact ⟨fl.set k true, r ++ nx, hQ', HRW.out.low hE' (by omega), HMK.out, ⟨HMM.out, Nat.le_of_lt (Nat.lt_of_lt_of_le HMM.out HM2.out)⟩, HBW1.out.trans (hE'.mono (by omega))⟩
          · have HT : Hid (Qu wr (w.heap.size + 1) (.slice (some ⟨b1, off1 + 1, none⟩) r.length c1) r) := Lib.hid (HPOP.out (off1 + 1) (by simp))
            have HRW : Hid (RowB (wr.setCell ⟨w.heap.size, k, none⟩ (.bool true)) w.heap.size 4 (bv (fl.set k true))) := Lib.hid (by rw [← bv_set]; exact HR1.out.set_ k _)
            have HTW := Lib.hid (HT.out.other (b := w.heap.size) (by omega) k (.bool true))
            have HBW1 : Hid (Below w.heap.size w (wr.setCell ⟨w.heap.size, k, none⟩ (.bool true))) := Lib.hid (HB1.out.setCell (p := ⟨w.heap.size, k, none⟩) (Nat.le_refl _) _)
            have HNXW : Hid (IntS (wr.setCell ⟨w.heap.size, k, none⟩ (.bool true)) B (.slice An2 nx.length cn2) (msk nx)) := Lib.hid (by
              have h := HNX.out.low ((Below.refl w.heap.size wr).setCell (p := ⟨w.heap.size, k, none⟩) (Nat.le_refl _) (.bool true)) hB
              rw [HNE.out, msk_len] at h
              exact h)
            have hsW : (wr.setCell ⟨w.heap.size, k, none⟩ (.bool true)).heap.size = wr.heap.size := by simp [World.setCell]
            go_wp2_with (at_builtin; go_must (refine wpList_app_q rfl (.tmp 39) (.tmp 47) rfl HTW.out (by omega) (by omega) HNXW.out (by omega) rfl rfl ?_); intro v' w' hQ' hE')
            go_roundg (muQ fl (k :: r))
            case measure => exact HMU.out
            case rel => exact ⟨fl.set k true, r ++ nx, hQ', HRW.out.low hE' (by omega), HMK.out, ⟨HMM.out, Nat.le_of_lt (Nat.lt_of_lt_of_le HMM.out HM2.out)⟩, HBW1.out.trans (hE'.mono (by omega))⟩
        · rw [hfk] at hck
          have HSK := Lib.hid (HFI.out.skip (.inr hfk))
          clear hfk hbr
          rcases Nat.eq_zero_or_pos c1 with hc0 | hc0
          · subst hc0
            have HT : Hid (Qu wr (w.heap.size + 1) (.slice (some ⟨b1, off1, none⟩) 0 0) r) := Lib.hid (by
              have := HPOP.out off1 (by simp)
              rwa [show r.length = 0 by omega] at this)
            go_wp2_with (at_builtin; fail)
            go_roundg (muQ fl (k :: r))
            case measure => exact HMU.out
            case rel => exact ⟨fl, r, HT.out, HR1.out, HSK.out, ⟨muQ_skip, Nat.le_of_lt (Nat.lt_of_lt_of_le muQ_skip HM2.out)⟩, HB1.out⟩
          · have HT : Hid (Qu wr (w.heap.size + 1) (.slice (some ⟨b1, off1 + 1, none⟩) r.length c1) r) := Lib.hid (HPOP.out (off1 + 1) (by simp))
            go_wp2_with (at_builtin; fail)
            go_roundg (muQ fl (k :: r))
            case measure => exact HMU.out
            case rel => exact ⟨fl, r, HT.out, HR1.out, HSK.out, ⟨muQ_skip, Nat.le_of_lt (Nat.lt_of_lt_of_le muQ_skip HM2.out)⟩, HB1.out⟩

set_option maxHeartbeats 4000000 in
set_option maxRecDepth 100000 in
theorem dominates_any (vg : Value) (ts : List Int) (pts : List Pt) (B a b : Nat) (w : World) (hg : GrS w B vg ts pts) (hB : B ≤ w.heap.size) (gd : Good ts pts) (hb : b < pts.length) :
    Calls Try.prog 79 #[vg, .int .i64 (a : Nat), .int .i64 (b : Nat)] w (fun e w' => e = .returned (.bool (a == b || !dec (Ard pts a 0 b))) ∧ Below w.heap.size w w') := by
  have HG := Lib.hid hg
  have GD := Lib.hid gd
  have hpl := gd.len
  clear hg gd
  by_cases hab : a = b
  · subst hab
    have hq : (a == a) = true := by simp
    rw [hq]
    go_enter Try.func79, Try.ntmps79
    go_wp2_with fail
    go_ret
    exact ⟨rfl, Below.refl _ _⟩
  · have hq : (a == b) = false := by simpa using hab
    have hq2 : ((a : Int) == (b : Int)) = false := by simp; omega
    rw [hq]
    have HC := Lib.hid (around_any vg ts pts B 0 a w HG.out hB GD.out (by omega))
    have HGT := Lib.hid (ardL_get (wo := a) (a := 0) hb)
    have HL := Lib.hid (ardL_len pts a 0)
    clear hab
    go_enter Try.func79, Try.ntmps79
    go_wp2_with fail
    refine HC.out.mono ?_
    rintro e w1 ⟨g, rfl, hrow, hb1⟩
    have hc := hrow.cell b
    rw [bv_get (by rw [HL.out]; exact hb), HGT.out] at hc
    clear hrow
    go_wp2_with fail
    go_ret
    exact ⟨rfl, hb1⟩

theorem graphOk_two {ts : List Int} {l : List St} {a b : Int} (h : graphOk ts l [a, b] = true) : validP ts l = true ∧ ∃ k j : Nat, a = k ∧ b = j ∧ k < (ptsP l).length ∧ j < (ptsP l).length := by
  unfold graphOk at h
  simp only [List.all_cons, List.all_nil, Bool.and_true, Bool.and_eq_true] at h
  obtain ⟨h1, h2, h3⟩ := h
  unfold withinP at h2 h3
  simp only [Bool.and_eq_true, decide_eq_true_eq] at h2 h3
  exact ⟨h1, a.toNat, b.toNat, by omega, by omega, by omega, by omega⟩
noncomputable def domRes (ts : List Int) (l : List St) (a b : Int) : Bool := graphOk ts l [a, b] && (a == b || !dec (Ard (ptsP l) a.toNat 0 b.toNat))
set_option maxHeartbeats 4000000 in
set_option maxRecDepth 100000 in
theorem iDominates_any (vt vb : Value) (ts : List Int) (l : List St) (a b : Int) (B : Nat) (w : World) (ht : IntS w B vt ts) (hl : StS w B vb l) (hB : B ≤ w.heap.size) (hsz : szL l ≤ 4194300) :
    Calls Try.prog 31 #[.agg #[vt, vb], .int .i64 a, .int .i64 b] w (fun e w' => e = .returned (.bool (domRes ts l a b)) ∧ Below w.heap.size w w') := by
  have hb2 : ∀ o o', Below w.heap.size w ((w.alloc o).alloc o') := fun o o' => (bel_a w o).alloc (by simp) o'
  go_enter Try.func31, Try.ntmps31
  go_wp2_with fail
  refine (graphOf_any vt vb _ ts l [a, b] (w.heap.size + 2) _ ((ht.low (hb2 _ _) hB).more (by omega)) ((hl.low (hb2 _ _) hB).more (by omega)) (by simpa using ints_lit (w.alloc _) [a, b] 3 (by simp)) (by simp) hsz).mono ?_
  rintro e w1 ⟨vg, rfl, hgr, hb1⟩
  have hb3 := (hb2 _ _).trans (hb1.mono (by simp; omega))
  cases hok : graphOk ts l [a, b]
  · have HRES : Hid (domRes ts l a b = false) := Lib.hid (by unfold domRes; rw [hok]; rfl)
    clear hok hgr
    go_wp2_with fail
    go_ret
    exact ⟨by rw [HRES.out]; rfl, hb3⟩
  · obtain ⟨hv, k, j, rfl, rfl, hk, hj⟩ := graphOk_two hok
    have HRES : Hid (domRes ts l (k : Nat) (j : Nat) = (k == j || !dec (Ard (ptsP l) k 0 j))) := Lib.hid (by
      unfold domRes; rw [hok, Bool.true_and]
      simp only [Int.toNat_natCast]
      congr 1
      rw [Bool.eq_iff_iff]; simp; omega)
    have HC := Lib.hid (dominates_any vg ts (ptsP l) w1.heap.size k j w1 (hgr hok) (Nat.le_refl _) (Good.of_valid hv) hj)
    have HB3 := Lib.hid hb3
    have hs3 := hb3.size
    clear hok hgr hv hb1 hb2 hb3
    go_wp2_with fail
    refine HC.out.mono ?_
    rintro e w2 ⟨rfl, hb4⟩
    have HB4 := Lib.hid (HB3.out.trans (hb4.mono hs3))
    clear hb4
    rw [← HRES.out]
    go_wp2_with fail
    go_ret
    exact ⟨rfl, HB4.out⟩

end Go.Proofs.Ytmaaaiccmllnlaa

/- FnLoopOf: the plain law, the walk. -/
namespace Go.Proofs.Ytmaaaiccmllnlaa
open Go.RowKit

theorem rngL_mem {a e : Nat} {x : Int} : x ∈ rngL a e ↔ ∃ j : Nat, a ≤ j ∧ j < e ∧ x = (j : Nat) := by
  unfold rngL
  simp only [List.mem_map, List.mem_range]
  constructor
  · rintro ⟨j, hj, rfl⟩; exact ⟨a + j, by omega, by omega, rfl⟩
  · rintro ⟨j, h1, h2, rfl⟩; exact ⟨j - a, by omega, by rw [show a + (j - a) = j by omega]⟩
theorem loop_law {ts : List Int} {l : List St} {a : Int} (h : 0 < (loopRes ts l a).length) : hasP (loopRes ts l a) a = true ∧ ∀ j, j < (loopRes ts l a).length → hasP (frRes l ts a) ((loopRes ts l a).getD j 0) = true ∧ domRes ts l ((loopRes ts l a).getD 0 0) ((loopRes ts l a).getD j 0) = true := by
  cases hok : graphOk ts l [a]
  · unfold loopRes at h; rw [hok, if_neg (by simp)] at h; simp at h
  · obtain ⟨hv, k, rfl, hk⟩ := graphOk_one hok
    have hr : loopRes ts l ((k : Nat) : Int) = loopAt (ptsP l) k := by unfold loopRes; rw [if_pos hok]; rfl
    rw [hr] at h ⊢
    rcases loopAt_law l (at_ := k) with h0 | ⟨i, e, hl, hik, hke, hel, hl1, hl2⟩
    · rw [h0] at h; simp at h
    · rw [hl] at h ⊢
      refine ⟨(hasP_iff _ _).2 (rngL_mem.2 ⟨k, hik, hke, rfl⟩), fun j hj => ?_⟩
      rw [getD_lt h, getD_lt hj, rngL_get, rngL_get]
      rw [rngL_len] at hj
      have hij : i + j < (ptsP l).length := by omega
      refine ⟨?_, ?_⟩
      · unfold frRes
        rw [if_pos hok, lst_has, decide_eq_true hij, Bool.true_and]
        exact dec_true (hl1 _ (by omega) (by omega))
      · unfold domRes
        rw [Bool.and_eq_true]
        refine ⟨?_, ?_⟩
        · unfold graphOk withinP
          rw [hv]
          simp; omega
        · by_cases hj0 : j = 0
          · subst hj0; simp
          · rw [Bool.or_eq_true]
            right
            rw [Int.toNat_natCast, Int.toNat_natCast, Nat.add_zero, dec_false (hl2 _ (by omega) (by omega))]
            rfl

set_option maxHeartbeats 8000000
set_option maxRecDepth 100000
theorem fnLoopOf_any (A : Option Addr) (n c : Nat) (w : World) (hb : Byt w w.heap.size A n) (hm : n ≤ maxLen) (hc : n ≤ c) :
    Calls Try.prog 6 #[.slice A n c] w (LawRet w) := by
  have HB := Lib.hid hb
  clear hb
  by_cases hn : n ≤ 1048576
  · go_enter Try.func6, Try.ntmps6
    go_wp2_with fail
    refine (drawLoopOf_any A n c _ HB.out hn hc).mono ?_
    rintro e w1 ⟨vt, vb, ts, l, a, rfl, hit, hst, hts, hsz, hb1⟩
    have HP1 := Lib.hid (PgB.new hit hst hb1)
    obtain ⟨At, ct, rfl, hct⟩ := hit.slice
    obtain ⟨Ab, cb, rfl, hcb⟩ := hst.slice
    clear hit hst hb1
    go_wp2_with fail
    generalize w1.alloc (.cells #[.slice At ts.length ct, .slice Ab l.length cb] 26) = W1 at *
    obtain ⟨g, hg⟩ : ∃ g, g = w1.heap.size := ⟨_, rfl⟩
    rw [← hg] at HP1 ⊢
    clear hg
    refine (iLoopOf_any _ _ ts l a _ _ HP1.out.ht HP1.out.hl (Nat.le_refl _) (by omega)).mono ?_
    rintro e w2 ⟨v2, rfl, hv2, hb2⟩
    have HV_2 := Lib.hid hv2
    clear hv2
    have HP2 := Lib.hid (HP1.out.bels hb2)
    have c0 := HP2.out.c0
    have c1 := HP2.out.c1
    clear hb2
    go_wp2_with (at_builtin; fail)
    refine (sLoopOf_any _ _ ts l a _ _ HP2.out.ht HP2.out.hl (Nat.le_refl _) (by omega)).mono ?_
    rintro e w3 ⟨v3, rfl, hv3, hb3⟩
    have HS_3 := Lib.hid hv3
    clear hv3
    have HV_3 := Lib.hid (HV_2.out.bel hb3)
    have HP3 := Lib.hid (HP2.out.bels hb3)
    clear c0 c1
    have c0 := HP3.out.c0
    have c1 := HP3.out.c1
    clear hb3
    go_wp2_with fail
    refine (bcInts_any _ _ _ _ _ _ HV_3.out HS_3.out).mono ?_
    rintro e w4 ⟨rfl, n4, rfl⟩
    rw [show eqP (loopRes ts l a) (loopRes ts l a) = true by simp [eqP]]
    have hb4 := below_of_drewN (w := w3) ⟨n4, rfl⟩ w3.heap.size
    have HV_4 := Lib.hid (HV_3.out.bel hb4)
    have HS_4 := Lib.hid (HS_3.out.bel hb4)
    have HP4 := Lib.hid (HP3.out.bels hb4)
    clear c0 c1
    have c0 := HP4.out.c0
    have c1 := HP4.out.c1
    clear hb4
    generalize w3.drewN n4 = w4 at *
    have HLAW := Lib.hid (fun h => loop_law (ts := ts) (l := l) (a := a) h)
    obtain ⟨A2, c2, rfl, hc2, hm2, -⟩ := HV_4.out
    have HCS := Lib.hid (sLoopOf_any _ _ ts l a _ _ HP4.out.ht HP4.out.hl (Nat.le_refl _) (by omega))
    generalize loopRes ts l a = r at *
    by_cases h0 : r.length = 0
    · obtain rfl : r = [] := List.length_eq_zero_iff.1 h0
      simp only [List.length_nil] at hc2 hm2 ⊢
      clear h0
      go_wp2_with (at_builtin; fail)
      refine HCS.out.mono ?_
      rintro e w5 ⟨v5, rfl, hv5, hb5⟩
      have HS_5 := Lib.hid hv5
      clear hv5
      have HV_5 := Lib.hid (HV_4.out.bel hb5)
      have HP5 := Lib.hid (HP4.out.bels hb5)
      clear c0 c1
      have c0 := HP5.out.c0
      have c1 := HP5.out.c1
      clear hb5
      go_wp2_with fail
      refine (bcInts_any _ _ _ _ _ _ HV_5.out HS_5.out).mono ?_
      rintro e w6 ⟨rfl, n6, rfl⟩
      rw [show eqP (([] : List Int)) (([] : List Int)) = true by simp [eqP]]
      have hb6 := below_of_drewN (w := w5) ⟨n6, rfl⟩ w5.heap.size
      have HV_6 := Lib.hid (HV_5.out.bel hb6)
      have HS_6 := Lib.hid (HS_5.out.bel hb6)
      have HP6 := Lib.hid (HP5.out.bels hb6)
      clear c0 c1
      have c0 := HP6.out.c0
      have c1 := HP6.out.c1
      clear hb6
      generalize w5.drewN n6 = w6 at *
      go_wp2_with (at_builtin; fail)
      go_ret
      exact ⟨rfl, HP6.out.bel⟩
    · have HL1 := Lib.hid (HLAW.out (by omega)).1
      have HL2 := Lib.hid (HLAW.out (by omega)).2
      have hz1 : ((r.length : Int) == 0) = false := beq_eq_false_iff_ne.2 (by omega)
      have h0' : 0 < r.length := by omega
      clear h0
      go_wp2_with (at_builtin; fail)
      refine (iPathsFrom_any _ _ ts l a _ _ HP4.out.ht HP4.out.hl (Nat.le_refl _) (by omega)).mono ?_
      rintro e w5 ⟨v5, rfl, hv5, hb5⟩
      have HF_5 := Lib.hid hv5
      clear hv5
      have HV_5 := Lib.hid (HV_4.out.bel hb5)
      have HP5 := Lib.hid (HP4.out.bels hb5)
      clear c0 c1
      have c0 := HP5.out.c0
      have c1 := HP5.out.c1
      clear hb5
      generalize frRes l ts a = fr at *
      go_wp2_with (at_builtin; fail)
      go_loopw [7] (fun i wr => ∃ j : Nat, j ≤ r.length ∧ i = .int .i64 j ∧ Below w5.heap.size w5 wr) (fun i _ => r.length - (intOf i).toNat)
      case atStart => exact ⟨0, Nat.zero_le _, rfl, Below.refl _ _⟩
      case round =>
        obtain ⟨j, hj, rfl, hbw⟩ := hrel
        have HBW := Lib.hid hbw
        have HPW := Lib.hid (HP5.out.bels hbw)
        have HVW := Lib.hid (HV_5.out.bel hbw)
        have HFW := Lib.hid (HF_5.out.bel hbw)
        clear hbw c0 c1
        have c0 := HPW.out.c0
        have c1 := HPW.out.c1
        have hgl := HPW.out.lt
        have hsw := HBW.out.size
        by_cases hjl : j < r.length
        · obtain ⟨A3, c3, e3, -, -, hr3⟩ := HVW.out
          injection e3 with e3 e9 e8
          subst e3 e8
          obtain ⟨b2, o2, rfl, hb2, hcell2⟩ := hr3.int_at hjl
          have d2 := hcell2 j hjl
          have d0 := hcell2 0 h0'
          obtain ⟨hx1, hx2⟩ := HL2.out j hjl
          rw [Nat.add_zero] at d0
          generalize r.getD j 0 = y at *
          generalize r.getD 0 0 = z at *
          have HX1 := Lib.hid hx1
          have HX2 := Lib.hid hx2
          have HCI : Hid (∀ wq, Below wr.heap.size wr wq → Calls Try.prog 21 #[v5, .int .i64 y] wq fun e' w'' => e' = .returned (.bool true) ∧ Below wr.heap.size wr w'') := Lib.hid fun wq hS => (bcIn_any _ fr y _ wq (HFW.out.low hS (Nat.le_refl _))).mono fun e' w'' ⟨h1, h2⟩ => ⟨by rw [h1, HX1.out], by rw [← h2]; exact hS⟩
          have HCD : Hid (∀ wq, Below wr.heap.size wr wq → Calls Try.prog 31 #[.agg #[.slice At ts.length ct, .slice Ab l.length cb], .int .i64 z, .int .i64 y] wq fun e' w'' => e' = .returned (.bool true) ∧ Below wr.heap.size wr w'') := Lib.hid fun wq hS => (iDominates_any _ _ ts l z y _ wq (HPW.out.ht.low hS (Nat.le_refl _)) (HPW.out.hl.low hS (Nat.le_refl _)) hS.size (by omega)).mono fun e' w'' ⟨h1, h2⟩ => ⟨by rw [h1, HX2.out], hS.trans (h2.mono hS.size)⟩
          clear e9 hx1 hx2 hr3 hcell2
          go_upto_region 11 with (at_builtin; fail)
          refine wp_region_seq (Below wr.heap.size wr) (by kernel_rfl) (by kernel_rfl) (Below.refl _ _).drew ?_
          repeat (first
            | (refine SeqS.skip (by rfl) ?_; (try simp only [Act.put, List.setIfInBounds_toArray, List.set_cons_zero, List.set_cons_succ]))
            | (refine SeqS.pure (v := ?_) (by rfl) (fun w' hSw => ?_) ?_; rotate_left; (obtain ⟨hc9, hf9⟩ := bcell hSw; go_simp; with_reducible rfl); (try simp only [Act.put, List.setIfInBounds_toArray, List.set_cons_zero, List.set_cons_succ]))
            | (refine SeqS.call (f := ?_) (args := ?_) (v := ?_) (by rfl) (fun w' => ?_) (fun w' hSw => ?_) ?_; rotate_left 3; (go_simp; constructor; (with_reducible rfl); (with_reducible rfl)); (first | exact HCI.out _ hSw | exact HCD.out _ hSw | fail); (try simp only [Act.put, List.setIfInBounds_toArray, List.set_cons_zero, List.set_cons_succ]))
            | fail)
          intro w11 hb11
          go_wp2_with (at_builtin; fail)
          exact ⟨⟨j + 1, by omega, by go_num, HBW.out.trans (hb11.mono hsw)⟩, by simp [intOf] <;> omega⟩
        · go_wp2_with (at_builtin; fail)
          refine (bcIn_any _ r a _ _ HVW.out).mono ?_
          rintro e w9 ⟨rfl, rfl⟩
          rw [HL1.out]
          go_wp2_with (at_builtin; fail)
          go_ret
          exact ⟨rfl, HPW.out.bel⟩
  · have hn1 : (1048576 : Int) < n := by omega
    unfold maxLen at hm
    go_enter Try.func6, Try.ntmps6
    go_wp2_with fail
    go_ret
    exact ⟨rfl, Below.refl _ _⟩

end Go.Proofs.Ytmaaaiccmllnlaa
