import Derived.Test.YtgmipapdcihdpaaG44
import Derived.Test.YtgmipapdcihdpaaG41
import Derived.Test.YtgmipapdcihdpaaG37
set_option linter.unusedVariables false

/- spec.UnsetUses. -/
namespace Go.Proofs.Ytgmipapdcihdpaa
open Go.RowKit

set_option maxHeartbeats 8000000
set_option maxRecDepth 100000
theorem sUnsetUses_any (vt vb : Value) (ts : List Int) (l : List St) (B : Nat) (w : World) (ht : IntS w B vt ts) (hl : StS w B vb l) (hB : B ≤ w.heap.size) (hsz : szL l ≤ 4194300) :
    Calls Try.prog 36 #[.agg #[vt, vb]] w (IntsRet w (unsetRes ts l)) := by
  have HBX := Lib.hid (Boxed.new ht hl hB 26)
  obtain ⟨At, ct, rfl, hct, -, -⟩ := ht
  obtain ⟨Ab, cb, rfl, hcb⟩ := hl.slice
  clear hl
  go_enter Try.func36, Try.ntmps36
  go_wp2_with fail
  have HO0 := Lib.hid (OInts.empty (w.alloc (.cells #[.slice At ts.length ct, .slice Ab l.length cb] 26)) w.heap.size (by simp))
  have HBY := Lib.hid (HBX.out.bels (bel_a _ (.cells #[] 3)) hB)
  have hlt0 : w.heap.size + 1 < ((w.alloc (.cells #[.slice At ts.length ct, .slice Ab l.length cb] 26)).alloc (.cells #[] 3)).heap.size := by simp
  have d0 := HBY.out.c0
  have d1 := HBY.out.c1
  generalize ((w.alloc (.cells #[.slice At ts.length ct, .slice Ab l.length cb] 26)).alloc (.cells #[] 3)) = W at *
  rw [show (w.alloc (.cells #[.slice At ts.length ct, .slice Ab l.length cb] 26)).heap.size = w.heap.size + 1 by simp] at HO0
  refine (sPointsOf_any _ _ ts l B _ HBY.out.ht HBY.out.hl (by omega) hsz).mono ?_
  rintro e w3 ⟨vp, rfl, hps, hb3⟩
  have HB3 := Lib.hid (HBY.out.bels hb3 hB)
  have hs3 := hb3.size
  have HO3 := Lib.hid (HO0.out.bel hb3)
  have HPS := Lib.hid hps
  have c0 := HB3.out.c0
  have c1 := HB3.out.c1
  obtain ⟨Ap, cp, rfl, hcp, hpl⟩ := hps.slice
  clear hps hb3 d0 d1
  cases hv : validP ts l
  · have HRES : Hid (unsetRes ts l = []) := Lib.hid (by unfold unsetRes; rw [if_neg (by rw [hv]; simp)])
    have hpe : pointsP ts l = [] := by unfold pointsP; rw [if_neg (by rw [hv]; simp)]
    clear hv HPS
    rw [hpe] at hcp hpl ⊢
    clear hpe
    simp only [List.length_nil]
    go_wp2_with fail
    go_ret
    refine ⟨_, rfl, ?_, HB3.out.bel⟩
    rw [HRES.out]
    exact (HO3.out.toS (by simp)).more (Nat.le_refl _)
  · have HV := Lib.hid hv
    have hpe : pointsP ts l = ptsP l := by unfold pointsP; rw [if_pos hv]
    have HRES := Lib.hid (show unsetRes ts l = opnL ts (ptsP l) 0 by unfold unsetRes; rw [if_pos hv])
    have G := Good.of_valid hv
    have h6 := G.h6
    have hpos := G.pos
    have hplen := G.len
    rw [hpe] at HPS hcp hpl ⊢
    clear hv G hpe
    have hl0 : (((ptsP l).length : Int) == 0) = false := by rw [beq_eq_false_iff_ne]; omega
    have hl1 : ¬ ((ptsP l).length = 0) := by omega
    go_wp2_with fail
    refine (l3Forward_any _ _ true ts l B _ HB3.out.ht HB3.out.hl (by omega) HV.out).mono ?_
    rintro e w4 ⟨G, S, vs, rows, seen, vq, rfl, hG, hfq, hrl, hac, hb4⟩
    have HB4 := Lib.hid (HB3.out.bels hb4 hB)
    have HO4 := Lib.hid (HO3.out.bel hb4)
    have HPS4 := Lib.hid (HPS.out.low hb4 (Nat.le_refl _))
    have hs4 := hb4.size
    obtain ⟨pts, hpts⟩ : ∃ pts, pts = ptsP l := ⟨_, rfl⟩
    rw [← hpts] at HRES HPS4 hcp hpl hpos hplen hrl hac hl0 hl1 ⊢
    have HFQ := Lib.hid hfq
    have HAC := Lib.hid hac
    have HRL := Lib.hid hrl
    have hgl := hfq.out.lt
    have HOS := Lib.hid (OutI.start HO4.out (by omega))
    clear hfq hac hb4 hrl hpts c0 c1 HPS
    have c0 := HB4.out.c0
    go_wp2_with (at_builtin; fail)
    go_loopw [3, 6] (fun v i wr => ∃ (k : Nat) (o : List Int), k ≤ pts.length ∧ i = .int .i64 k ∧ o = lst k (fun i => dec (Opn ts pts 0 i)) ∧ OutI w4 wr w.heap.size v o) (fun _ i _ => pts.length - (intOf i).toNat)
    case atStart => exact ⟨0, [], by omega, rfl, rfl, HOS.out⟩
    case round =>
      obtain ⟨k, o, hk, rfl, ho, hO⟩ := hrel
      have HO := Lib.hid hO
      have HOL := Lib.hid ho
      have hol : o.length ≤ k := by rw [ho]; exact lst_len _ _
      have hK := hO.kp
      have hsr := hK.2
      have HKP := Lib.hid hK
      have d0 := hK.1 _ _ _ c0
      obtain ⟨A', c', rfl, hc'⟩ := hO.lenc
      clear hO ho hK
      by_cases hlt : k < pts.length
      · obtain ⟨bp, op, cp', nv, e, hbp, hcp', hlp, hnx, p0, p1, p2, p3, p4⟩ := HPS4.out.get hlt
        injection e with e1 e9 e2
        subst e1 e2
        clear e9
        obtain ⟨An, cn, rfl, hcn, hln, -⟩ := hnx
        simp only [List.length_map] at hcn hln p4
        have q0 := HKP.out.1 _ _ _ p0
        have q1 := HKP.out.1 _ _ _ p1
        have q2 := HKP.out.1 _ _ _ p2
        have q3 := HKP.out.1 _ _ _ p3
        have q4 := HKP.out.1 _ _ _ p4
        have hrk := HRL.out
        obtain ⟨hlk, hval⟩ := HAC.out k hlt
        obtain ⟨Ak, ck, evk, -⟩ := (HFQ.out.row k (by omega)).slice
        have hold := HFQ.out.old (by omega) (by omega) evk
        rw [hlk] at evk hold
        have q5 := HKP.out.1 _ _ _ (HFQ.out.cellG (by omega) evk)
        have HBO := Lib.hid hold
        have HVAL := Lib.hid hval
        have HLK := Lib.hid hlk
        have HUN : Hid (unsB ts pts[k] (rows.getD k []) = dec (Opn ts pts 0 k)) := Lib.hid (by
          rw [Bool.eq_iff_iff, dec_iff]
          unfold unsB
          rw [List.any_eq_true]
          constructor
          · rintro ⟨u, hu, hh⟩
            have hu' := List.mem_range.1 hu
            rw [Bool.and_eq_true] at hh
            have := HVAL.out u hu'
            unfold rget at this
            rw [this] at hh
            exact ⟨_, List.getElem?_eq_getElem hlt, u, hu', by simpa using hh.1, dec_iff.1 (by have := hh.2; revert this; cases dec (Ac true ts pts 0 k u) <;> simp)⟩
          · rintro ⟨p, hp, u, hu, hus, ha⟩
            rw [List.getElem?_eq_getElem hlt] at hp
            injection hp with hp
            subst hp
            refine ⟨u, List.mem_range.2 hu, ?_⟩
            have := HVAL.out u hu
            unfold rget at this
            rw [this, dec_true ha]
            simpa using hus)
        have hbpr : bp < wr.heap.size := by omega
        have hgr : G < wr.heap.size := by omega
        have hwr : w.heap.size < wr.heap.size := by have := HB4.out.lt; omega
        have hkn : ((k : Nat) : Int) < (pts.length : Int) := by omega
        have HSZ := Lib.hid (show w4.heap.size ≤ wr.heap.size from hsr)
        have HT9 := Lib.hid (HB4.out.ht.imp HKP.out)
        have HBO9 := Lib.hid (HBO.out.imp HKP.out)
        generalize pts[k] = P at *
        have HCU : Hid (∀ w', Below wr.heap.size wr w' → Calls Try.prog 72 #[.slice At ts.length ct, .agg #[.int .i64 P.op, .int .i64 P.x, .int .i64 P.y, .int .i64 P.n, .slice An P.next.length cn], .slice Ak ts.length ck] w' fun e w'' => e = .returned (.bool (unsB ts P (rows.getD k []))) ∧ Below wr.heap.size wr w'') :=
          Lib.hid fun w' h => (l3Unset_any _ _ _ ts (rows.getD k []) P B w4.heap.size _ (HT9.out.low h (by omega)) (HBO9.out.low h HSZ.out) (by have := h.size; omega) (by have := h.size; omega) HLK.out (by omega)).mono fun e w'' ⟨he, hb⟩ => ⟨he, h.trans (hb.mono h.size)⟩
        clear hlk hval hold evk hrk hsr p0 p1 p2 p3 p4
        generalize unsB ts P (rows.getD k []) = ub at *
        go_wp2_with (at_builtin; fail)
        refine wp_region_seq (Below wr.heap.size wr) (by kernel_rfl) (by kernel_rfl) (Below.refl _ _).drew ?_
        repeat (first
          | (refine SeqS.skip (by rfl) ?_; (try simp only [Act.put, List.setIfInBounds_toArray, List.set_cons_zero, List.set_cons_succ]))
          | (refine SeqS.pure (v := ?_) (by rfl) (fun w' hSw => ?_) ?_; rotate_left; (obtain ⟨hc9, hf9⟩ := bcell hSw; go_simp; with_reducible rfl); (try simp only [Act.put, List.setIfInBounds_toArray, List.set_cons_zero, List.set_cons_succ]))
          | (refine SeqS.call (f := ?_) (args := ?_) (v := ?_) (by rfl) (fun w' => ?_) (fun w' hSw => ?_) ?_; rotate_left 3; (go_simp; constructor; (with_reducible rfl); (with_reducible rfl)); (first | exact HCU.out _ hSw | fail); (try simp only [Act.put, List.setIfInBounds_toArray, List.set_cons_zero, List.set_cons_succ]))
          | fail)
        intro w2 hb2
        have HB9 := Lib.hid hb2
        have hs9 := hb2.size
        clear hb2
        have HO9 := Lib.hid (HO.out.belc HB9.out)
        cases ub
        · go_wp2_with (at_builtin; fail)
          exact ⟨⟨k + 1, o, by omega, by go_num, by rw [HOL.out, lst_succ_false HUN.out.symm], HO9.out⟩, by simp [intOf] <;> omega⟩
        · go_wp2_with (at_builtin; go_must (refine wpList_push_outI rfl (.tmp 33) (.tmp 35) rfl HO9.out (by omega) _ rfl rfl ?_); intro v' w' hP')
          exact ⟨⟨k + 1, _, by omega, by go_num, by rw [HOL.out, lst_succ_true HUN.out.symm], hP'⟩, by simp [intOf] <;> omega⟩
      · have hke : k = pts.length := by omega
        go_wp2_with (at_builtin; fail)
        go_ret
        refine ⟨_, rfl, ?_, HB4.out.bel.trans HO.out.bel⟩
        rw [HRES.out]
        unfold opnL
        rw [← hke, ← HOL.out]
        exact HO.out.toS (by omega)

end Go.Proofs.Ytgmipapdcihdpaa

/- FnUnsetFirst: the plain law, the walk. -/
namespace Go.Proofs.Ytgmipapdcihdpaa
open Go.RowKit

theorem unset_first (ts : List Int) (l : List St) (v : Nat) (hv : v < ts.length) (hu : (useRes ts l 0 (v : Nat) != 0) = true) : hasP (unsetRes ts l) 0 = true := by
  unfold useRes at hu
  split at hu
  · rename_i h
    have hval : validP ts l = true := (graphOk_one h.1).1
    have hpos := ptsP_pos l
    rw [show (0 : Int) = ((0 : Nat) : Int) from rfl, ptAt_nat hpos] at hu
    unfold unsetRes
    rw [if_pos hval]
    unfold opnL
    rw [show (0 : Int) = ((0 : Nat) : Int) from rfl, lst_has, decide_eq_true hpos, Bool.true_and]
    exact dec_true ⟨_, List.getElem?_eq_getElem hpos, v, hv, by simpa using hu, .init hv (by simp [accB])⟩
  · simp at hu

set_option maxHeartbeats 8000000
set_option maxRecDepth 100000
theorem fnUnsetFirst_any (A : Option Addr) (n c : Nat) (w : World) (hb : Byt w w.heap.size A n) (hm : n ≤ maxLen) (hc : n ≤ c) :
    Calls Try.prog 8 #[.slice A n c] w (LawRet w) := by
  have HB := Lib.hid hb
  clear hb
  by_cases hn : n ≤ 1048576
  · go_enter Try.func8, Try.ntmps8
    go_wp2_with fail
    refine (drawUnsetUses_any A n c _ HB.out hn hc).mono ?_
    rintro e w1 ⟨vt, vb, ts, l, rfl, hit, hst, hts, hsz, hb1⟩
    have HP := Lib.hid (PgB.new hit hst hb1)
    obtain ⟨At, ct, rfl, hct⟩ := hit.slice
    obtain ⟨Ab, cb, rfl, hcb⟩ := hst.slice
    clear hit hst hb1
    go_wp2_with fail
    generalize w1.alloc (.cells #[.slice At ts.length ct, .slice Ab l.length cb] 26) = W1 at *
    obtain ⟨g, hg⟩ : ∃ g, g = w1.heap.size := ⟨_, rfl⟩
    rw [← hg] at HP ⊢
    clear hg
    refine (iUnsetUses_any _ _ ts l _ _ HP.out.ht HP.out.hl (Nat.le_refl _) (by omega)).mono ?_
    rintro e w2 ⟨v2, rfl, hv2, hb2⟩
    have HP2 := Lib.hid (HP.out.bels hb2)
    have HV2 := Lib.hid hv2
    have c0 := HP2.out.c0
    have c1 := HP2.out.c1
    clear hv2 hb2
    go_wp2_with fail
    refine (sUnsetUses_any _ _ ts l _ _ HP2.out.ht HP2.out.hl (Nat.le_refl _) (by omega)).mono ?_
    rintro e w3 ⟨v3, rfl, hv3, hb3⟩
    have HP3 := Lib.hid (HP2.out.bels hb3)
    have HV23 := Lib.hid (HV2.out.bel hb3)
    have HV3 := Lib.hid hv3
    clear hv3 hb3 c0 c1
    go_wp2_with fail
    refine (bcInts_any _ _ _ _ _ _ HV23.out HV3.out).mono ?_
    rintro e w4 ⟨rfl, n4, rfl⟩
    rw [show eqP (unsetRes ts l) (unsetRes ts l) = true by simp [eqP]]
    have HP4 := Lib.hid (HP3.out.bels (below_of_drewN ⟨n4, rfl⟩ _))
    have HV4 := Lib.hid (HV23.out.bel (below_of_drewN ⟨n4, rfl⟩ _))
    generalize w3.drewN n4 = w4 at *
    have c0 := HP4.out.c0
    have c1 := HP4.out.c1
    go_wp2_with fail
    go_loopw [5] (fun i wr => ∃ k : Nat, k ≤ ts.length ∧ i = .int .i64 k ∧ PgB w wr g (.slice At ts.length ct) (.slice Ab l.length cb) ts l ∧ IntS wr wr.heap.size v2 (unsetRes ts l)) (fun i _ => ts.length - (intOf i).toNat)
    case atStart => exact ⟨0, by omega, rfl, HP4.out, HV4.out⟩
    case round =>
      obtain ⟨k, hk, rfl, hP, hV⟩ := hrel
      have HPR := Lib.hid hP
      have HVR := Lib.hid hV
      have c0 := hP.c0
      have c1 := hP.c1
      clear hP hV
      by_cases hlt : k < ts.length
      · have HLAW := Lib.hid (unset_first ts l k hlt)
        go_wp2_with fail
        refine (iUseOf_any _ _ ts l 0 (k : Nat) _ _ HPR.out.ht HPR.out.hl (Nat.le_refl _) (by omega)).mono ?_
        rintro e w5 ⟨rfl, hb5⟩
        have HP5 := Lib.hid (HPR.out.bels hb5)
        have HV5 := Lib.hid (HVR.out.bel hb5)
        clear hb5 c0 c1
        cases hu : (useRes ts l 0 (k : Nat) != 0)
        · go_wp2_with fail
          exact ⟨⟨k + 1, by omega, by go_num, HP5.out, HV5.out⟩, by simp [intOf] <;> omega⟩
        · have HIN := Lib.hid (HLAW.out hu)
          go_wp2_with fail
          refine (bcIn_any _ _ _ _ _ HV5.out).mono ?_
          rintro e w7 ⟨rfl, rfl⟩
          rw [HIN.out]
          go_wp2_with fail
          exact ⟨⟨k + 1, by omega, by go_num, HP5.out, HV5.out⟩, by simp [intOf] <;> omega⟩
      · go_wp2_with fail
        go_ret
        exact ⟨rfl, HPR.out.bel⟩
  · have hn1 : (1048576 : Int) < n := by omega
    unfold maxLen at hm
    go_enter Try.func8, Try.ntmps8
    go_wp2_with fail
    go_ret
    exact ⟨rfl, Below.refl _ _⟩

end Go.Proofs.Ytgmipapdcihdpaa

/- FnUnsetUses: the plain law, the walk. -/
namespace Go.Proofs.Ytgmipapdcihdpaa
open Go.RowKit

theorem unset_at (ts : List Int) (l : List St) {i : Nat} (hi : i < (pointsP ts l).length) :
    hasP (unsetRes ts l) i = (List.range ts.length).any fun v => (useRes ts l (i : Nat) (v : Nat) != 0) && !hasP (alwaysRes ts l (i : Nat)) (v : Nat) := by
  obtain ⟨hval, hpe, hok⟩ := graphOk_yes (ts := ts) (l := l) (a := (i : Int)) (by omega) (by omega)
  have hil : i < (ptsP l).length := by rw [← hpe]; exact hi
  have hu : ∀ v, v < ts.length → useRes ts l (i : Nat) (v : Nat) = useP ts (ptsP l)[i].op (ptsP l)[i].x (ptsP l)[i].y (v : Nat) := fun v hv => by
    have hw : withinP (v : Nat) 0 ((ts.length : Int) - 1) = true := by unfold withinP; simp; omega
    unfold useRes
    rw [if_pos ⟨hok, hw⟩, ptAt_nat hil]
  have ha : ∀ v, v < ts.length → hasP (alwaysRes ts l (i : Nat)) (v : Nat) = !dec (Ac true ts (ptsP l) 0 i v) := fun v hv => by
    unfold alwaysRes
    rw [if_pos hok]
    unfold alwaysAt
    rw [lst_has, decide_eq_true hv, Bool.true_and]
    rfl
  unfold unsetRes
  rw [if_pos hval]
  unfold opnL
  rw [lst_has, decide_eq_true hil, Bool.true_and, Bool.eq_iff_iff, dec_iff, List.any_eq_true]
  constructor
  · rintro ⟨p, hp, v, hv, hus, hac⟩
    rw [List.getElem?_eq_getElem hil] at hp
    injection hp with hp
    subst hp
    refine ⟨v, List.mem_range.2 hv, ?_⟩
    rw [hu v hv, ha v hv, dec_true hac]
    simpa using hus
  · rintro ⟨v, hv, hh⟩
    have hv' := List.mem_range.1 hv
    rw [hu v hv', ha v hv', Bool.not_not, Bool.and_eq_true] at hh
    exact ⟨_, List.getElem?_eq_getElem hil, v, hv', by simpa using hh.1, dec_iff.1 hh.2⟩
theorem any_range_succ (f : Nat → Bool) (k : Nat) : (List.range (k + 1)).any f = ((List.range k).any f || f k) := by rw [List.range_succ, List.any_append]; simp

set_option maxHeartbeats 8000000
set_option maxRecDepth 100000
theorem fnUnsetUses_any (A : Option Addr) (n c : Nat) (w : World) (hb : Byt w w.heap.size A n) (hm : n ≤ maxLen) (hc : n ≤ c) :
    Calls Try.prog 12 #[.slice A n c] w (LawRet w) := by
  have HB := Lib.hid hb
  clear hb
  by_cases hn : n ≤ 1048576
  · go_enter Try.func12, Try.ntmps12
    go_wp2_with fail
    refine (drawUnsetUses_any A n c _ HB.out hn hc).mono ?_
    rintro e w1 ⟨vt, vb, ts, l, rfl, hit, hst, hts, hsz, hb1⟩
    have HP := Lib.hid (PgB.new hit hst hb1)
    obtain ⟨At, ct, rfl, hct⟩ := hit.slice
    obtain ⟨Ab, cb, rfl, hcb⟩ := hst.slice
    clear hit hst hb1
    go_wp2_with fail
    generalize w1.alloc (.cells #[.slice At ts.length ct, .slice Ab l.length cb] 26) = W1 at *
    obtain ⟨g, hg⟩ : ∃ g, g = w1.heap.size := ⟨_, rfl⟩
    rw [← hg] at HP ⊢
    clear hg
    refine (iUnsetUses_any _ _ ts l _ _ HP.out.ht HP.out.hl (Nat.le_refl _) (by omega)).mono ?_
    rintro e w2 ⟨v2, rfl, hv2, hb2⟩
    have HP2 := Lib.hid (HP.out.bels hb2)
    have HV2 := Lib.hid hv2
    have c0 := HP2.out.c0
    have c1 := HP2.out.c1
    clear hv2 hb2
    go_wp2_with fail
    refine (iPointsOf_any _ _ ts l _ _ HP2.out.ht HP2.out.hl (Nat.le_refl _) (by omega)).mono ?_
    rintro e w9 ⟨v9, rfl, hps, hb9⟩
    have HP9 := Lib.hid (HP2.out.bels hb9)
    have HV9 := Lib.hid (HV2.out.bel hb9)
    obtain ⟨Ap, cp, rfl, hcp, hpl⟩ := hps.slice
    clear hb9 hps c0 c1
    have c0 := HP9.out.c0
    have c1 := HP9.out.c1
    have HUN := Lib.hid (fun i (hi : i < (pointsP ts l).length) => unset_at ts l hi)
    generalize (pointsP ts l).length = np at *
    go_wp2_with fail
    refine (sUnsetUses_any _ _ ts l _ _ HP9.out.ht HP9.out.hl (Nat.le_refl _) (by omega)).mono ?_
    rintro e w3 ⟨v3, rfl, hv3, hb3⟩
    have HP3 := Lib.hid (HP9.out.bels hb3)
    have HV23 := Lib.hid (HV9.out.bel hb3)
    have HV3 := Lib.hid hv3
    clear hv3 hb3 c0 c1
    go_wp2_with fail
    refine (bcInts_any _ _ _ _ _ _ HV23.out HV3.out).mono ?_
    rintro e w4 ⟨rfl, n4, rfl⟩
    rw [show eqP (unsetRes ts l) (unsetRes ts l) = true by simp [eqP]]
    have HP4 := Lib.hid (HP3.out.bels (below_of_drewN ⟨n4, rfl⟩ _))
    have HV4 := Lib.hid (HV23.out.bel (below_of_drewN ⟨n4, rfl⟩ _))
    generalize w3.drewN n4 = w4 at *
    have c0 := HP4.out.c0
    have c1 := HP4.out.c1
    go_wp2_with fail
    go_loopw [6] (fun i wr => ∃ k : Nat, k ≤ np ∧ i = .int .i64 k ∧ PgB w wr g (.slice At ts.length ct) (.slice Ab l.length cb) ts l ∧ IntS wr wr.heap.size v2 (unsetRes ts l)) (fun i _ => np - (intOf i).toNat)
    case atStart => exact ⟨0, by omega, rfl, HP4.out, HV4.out⟩
    case round =>
      obtain ⟨k, hk, rfl, hP, hV⟩ := hrel
      have HPR := Lib.hid hP
      have HVR := Lib.hid hV
      have c0 := hP.c0
      have c1 := hP.c1
      clear hP hV
      by_cases hlt : k < np
      · have HLAW := Lib.hid (HUN.out k hlt)
        go_wp2_with fail
        refine (iAlwaysSet_any _ _ ts l (k : Nat) _ _ HPR.out.ht HPR.out.hl (Nat.le_refl _) (by omega)).mono ?_
        rintro e w5 ⟨v5, rfl, hv5, hb5⟩
        have HP5 := Lib.hid (HPR.out.bels hb5)
        have HV5 := Lib.hid (HVR.out.bel hb5)
        have HA5 := Lib.hid hv5
        clear hb5 hv5 c0 c1
        have c0 := HP5.out.c0
        have c1 := HP5.out.c1
        go_wp2_with fail
        go_loopw [8, 9] (fun b i wr => ∃ u : Nat, u ≤ ts.length ∧ i = .int .i64 u ∧ b = .bool ((List.range u).any fun v => (useRes ts l (k : Nat) (v : Nat) != 0) && !hasP (alwaysRes ts l (k : Nat)) (v : Nat)) ∧ PgB w wr g (.slice At ts.length ct) (.slice Ab l.length cb) ts l ∧ IntS wr wr.heap.size v2 (unsetRes ts l) ∧ IntS wr wr.heap.size v5 (alwaysRes ts l (k : Nat))) (fun _ i _ => ts.length - (intOf i).toNat)
        case atStart => exact ⟨0, by omega, rfl, rfl, HP5.out, HV5.out, HA5.out⟩
        case round =>
          obtain ⟨u, hu, rfl, rfl, hP, hV, hA⟩ := hrel
          have HPS := Lib.hid hP
          have HVS := Lib.hid hV
          have HAS := Lib.hid hA
          have c0 := hP.c0
          have c1 := hP.c1
          clear hP hV hA
          by_cases hut : u < ts.length
          · have HSUC := Lib.hid (any_range_succ (fun v => (useRes ts l (k : Nat) (v : Nat) != 0) && !hasP (alwaysRes ts l (k : Nat)) (v : Nat)) u)
            generalize ((List.range u).any fun v => (useRes ts l (k : Nat) (v : Nat) != 0) && !hasP (alwaysRes ts l (k : Nat)) (v : Nat)) = bd at *
            cases bd
            · go_wp2_with fail
              refine (iUseOf_any _ _ ts l (k : Nat) (u : Nat) _ _ HPS.out.ht HPS.out.hl (Nat.le_refl _) (by omega)).mono ?_
              rintro e w6 ⟨rfl, hb6⟩
              have HP6 := Lib.hid (HPS.out.bels hb6)
              have HV6 := Lib.hid (HVS.out.bel hb6)
              have HA6 := Lib.hid (HAS.out.bel hb6)
              clear hb6 c0 c1
              cases hus : (useRes ts l (k : Nat) (u : Nat) != 0)
              · have HUS := Lib.hid hus
                go_wp2_with fail
                exact ⟨⟨u + 1, by omega, by go_num, by rw [HSUC.out, HUS.out]; rfl, HP6.out, HV6.out, HA6.out⟩, by simp [intOf] <;> omega⟩
              · have HUS := Lib.hid hus
                go_wp2_with fail
                refine (bcIn_any _ _ _ _ _ HA6.out).mono ?_
                rintro e w7 ⟨rfl, rfl⟩
                generalize hasP (alwaysRes ts l (k : Nat)) (u : Nat) = hh at *
                go_wp2_with fail
                exact ⟨⟨u + 1, by omega, by go_num, by rw [HSUC.out, HUS.out]; simp, HP6.out, HV6.out, HA6.out⟩, by simp [intOf] <;> omega⟩
            · go_wp2_with fail
              exact ⟨⟨u + 1, by omega, by go_num, by rw [HSUC.out]; simp, HPS.out, HVS.out, HAS.out⟩, by simp [intOf] <;> omega⟩
          · have hue : u = ts.length := by omega
            have HLAW2 : Hid (((List.range u).any fun v => (useRes ts l (k : Nat) (v : Nat) != 0) && !hasP (alwaysRes ts l (k : Nat)) (v : Nat)) = hasP (unsetRes ts l) (k : Nat)) := Lib.hid (by rw [hue]; exact HLAW.out.symm)
            rw [HLAW2.out]
            clear hue
            go_wp2_with fail
            refine (bcIn_any _ _ _ _ _ HVS.out).mono ?_
            rintro e w7 ⟨rfl, rfl⟩
            generalize hasP (unsetRes ts l) (k : Nat) = hh at *
            cases hh
            · go_wp2_with fail
              exact ⟨⟨k + 1, by omega, by go_num, HPS.out, HVS.out⟩, by simp [intOf] <;> omega⟩
            · go_wp2_with fail
              exact ⟨⟨k + 1, by omega, by go_num, HPS.out, HVS.out⟩, by simp [intOf] <;> omega⟩
      · go_wp2_with fail
        go_ret
        exact ⟨rfl, HPR.out.bel⟩
  · have hn1 : (1048576 : Int) < n := by omega
    unfold maxLen at hm
    go_enter Try.func12, Try.ntmps12
    go_wp2_with fail
    go_ret
    exact ⟨rfl, Below.refl _ _⟩

end Go.Proofs.Ytgmipapdcihdpaa
