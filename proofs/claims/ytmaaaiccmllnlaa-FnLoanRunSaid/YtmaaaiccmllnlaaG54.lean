import Derived.Test.YtmaaaiccmllnlaaG53
import Derived.Test.YtmaaaiccmllnlaaG25
import Derived.Test.YtmaaaiccmllnlaaG32
import Derived.Test.YtmaaaiccmllnlaaG10
import Derived.Test.YtmaaaiccmllnlaaG50
import Derived.Test.YtmaaaiccmllnlaaG43
import Derived.Test.YtmaaaiccmllnlaaG42
import Derived.Test.YtmaaaiccmllnlaaG41
import Derived.Test.YtmaaaiccmllnlaaG09
import Derived.Test.YtmaaaiccmllnlaaG24
import Derived.Test.YtmaaaiccmllnlaaG44
import Derived.Test.YtmaaaiccmllnlaaG38
import Derived.Deep.DeepCutAuto
set_option linter.unusedVariables false

/- FnLoanRun: the plain law, the walk. -/
namespace Go.Proofs.Ytmaaaiccmllnlaa
open Go.RowKit

theorem set_lt {ts : List Int} {l : List St} {a : Int} (h : 0 ≤ setRes ts l a) : setRes ts l a < ts.length := by
  unfold setRes at h ⊢
  split at h
  · rename_i hok
    obtain ⟨hval, k, rfl, hk⟩ := graphOk_one hok
    rw [if_pos hok]
    rw [ptAt_nat hk] at h ⊢
    have := ((Good.of_valid hval).ok _ (List.getElem_mem hk)).sets
    omega
  · omega
theorem run_ok25 (ts : List Int) (l : List St) (cs : List Int) : (runRes ts l cs 25).1.length ≤ 61 ∧ (0 < (runRes ts l cs 25).1.length → validP ts l = true ∧ IsRun (ptsP l) 0 (runRes ts l cs 25).1) := by
  unfold runRes
  split
  · rename_i h
    have G := Good.of_valid h.1
    refine ⟨Nat.le_trans (runF_len _ _ _ _) (by decide), fun _ => ⟨h.1, runF_run (fun p hp k hk => G.next p hp k hk) (ptsP_next1 l) _ _ _ G.pos⟩⟩
  · exact ⟨by simp, fun h => by simp at h⟩
def xv (K : List Int) : List Value := K.map (.int .i64)
theorem xv_get {K : List Int} {k : Nat} (hk : k < K.length) : (xv K)[k]? = some (.int .i64 (K.getD k 0)) := by
  simp [xv, List.getElem?_eq_getElem hk, List.getD]
theorem xv_set (K : List Int) (k : Nat) (b : Int) : (xv K).set k (.int .i64 b) = xv (K.set k b) := by simp [xv, List.map_set]
theorem iv_xv (n : Nat) : iv (List.replicate n 0) = xv (List.replicate n 0) := by simp [iv, xv]
/-- what the variables of the run refer to, as the law counts it -/
def CI (ts : List Int) (l : List St) (r : List Nat) (i : Nat) (K : List Int) : Prop := i < r.length → ∀ v : Nat, v < ts.length → 0 ≤ K.getD v 0 → Fl ts (ptsP l) Gloan (Cloan ts) (r.getD i 0) v (K.getD v 0).toNat
theorem CI.first {ts : List Int} {l : List St} {r : List Nat} {K : List Int} (h : ∀ u : Nat, u < ts.length → K.getD u 0 = -1) : CI ts l r 0 K := by
  intro _ v hv h0
  rw [h v hv] at h0
  omega
theorem CI.chk {ts : List Int} {l : List St} {r : List Nat} {i : Nat} {K : List Int} {v : Nat} (h : CI ts l r i K) (hi : i < r.length) (hr : 0 < r.length → validP ts l = true ∧ IsRun (ptsP l) 0 r) (hv : v < ts.length) (h0 : 0 ≤ K.getD v 0) :
    hasP (flRes ts l Gloan (Cloan ts) ((r.getD i 0 : Nat) : Int) (v : Nat)) (K.getD v 0) = true := by
  obtain ⟨hval, hrun⟩ := hr (by omega)
  have hok := graphOk_at hval (hrun.inn i hi)
  have hf := h hi v hv h0
  obtain ⟨⟨p, hp, -⟩, -⟩ := hf.loanOf (Good.of_valid hval)
  have hel : (K.getD v 0).toNat < (ptsP l).length := (List.getElem?_eq_some_iff.1 hp).1
  unfold flRes
  rw [if_pos ⟨hok, by simp [withinP]; omega⟩, Int.toNat_natCast, Int.toNat_natCast, hasP_iff]
  unfold flS
  exact lst_mem.2 ⟨_, hel, dec_true hf, by omega⟩
theorem CI.next {ts : List Int} {l : List St} {r : List Nat} {i : Nat} {K K3 : List Int} {p : Pt} {nxt : Int} (h : CI ts l r i K) (hi : i < r.length) (hr : 0 < r.length → validP ts l = true ∧ IsRun (ptsP l) 0 r) (hp : (ptsP l)[r.getD i 0]? = some p)
    (hn : 0 ≤ nxt → ((p.op = 4 ∨ p.op = 5) ∧ nxt = ((r.getD i 0 : Nat) : Int)) ∨ (p.op = 3 ∧ nxt = K.getD p.y.toNat 0))
    (h2 : ∀ u : Nat, u < ts.length → K3.getD u 0 = if setRes ts l ((r.getD i 0 : Nat) : Int) = (u : Nat) then nxt else if useRes ts l ((r.getD i 0 : Nat) : Int) (u : Nat) = 2 then -1 else K.getD u 0) : CI ts l r (i + 1) K3 := by
  intro hi1 v hv h0
  obtain ⟨hval, hrun⟩ := hr (by omega)
  have hk := hrun.inn i hi
  obtain ⟨p', hp', hnx⟩ := hrun.edge i hi1
  rw [hp] at hp'
  injection hp' with hp'
  subst hp'
  have hok := graphOk_at hval hk
  have hpk : (ptsP l)[r.getD i 0] = p := by
    have e := List.getElem?_eq_getElem hk
    rw [hp] at e
    injection e with e
    exact e.symm
  have hu : useRes ts l ((r.getD i 0 : Nat) : Int) (v : Nat) = useP ts p.op p.x p.y (v : Nat) := by
    unfold useRes; rw [if_pos ⟨hok, by simp [withinP]; omega⟩, ptAt_nat hk, hpk]
  have hs : setRes ts l ((r.getD i 0 : Nat) : Int) = setsP p.op p.x := by
    unfold setRes; rw [if_pos hok, ptAt_nat hk, hpk]
  rw [h2 v hv, hs, hu] at h0 ⊢
  by_cases e : setsP p.op p.x = (v : Nat)
  · rw [if_pos e] at h0 ⊢
    rcases hn h0 with ⟨ho, en⟩ | ⟨hc, en⟩
    · exact .gen hp hnx hv e (Gloan_iff.2 ⟨ho, by omega⟩)
    · have hy := (Good.of_valid hval).y hp (by omega)
      refine .copy hp hnx hv e (by simp [Cloan, hc]) ?_
      rw [en]
      exact h hi p.y.toNat (by omega) (by rw [← en]; exact h0)
  · rw [if_neg e] at h0 ⊢
    by_cases e2 : useP ts p.op p.x p.y (v : Nat) = 2
    · rw [if_pos e2] at h0; omega
    · rw [if_neg e2] at h0 ⊢
      exact .keep hp hnx hv e e2 (h hi v hv h0)
theorem copy_y {ts : List Int} {l : List St} {k : Nat} {p : Pt} (hval : validP ts l = true) (hp : (ptsP l)[k]? = some p) (ho : p.op = 3 ∨ p.op = 4 ∨ p.op = 5) : 0 ≤ p.y ∧ p.y < ts.length := (Good.of_valid hval).y hp (by omega)
/-- what the loop over the variables has done to the list after j of them -/
def UpK (ts : List Int) (l : List St) (y : Nat) (S : List Int) (j : Nat) (cur : List Int) : Prop := cur.length = S.length ∧ ∀ u : Nat, cur.getD u 0 = if u < j ∧ useRes ts l (y : Nat) (u : Nat) = 2 then -1 else S.getD u 0
theorem UpK.zero (ts : List Int) (l : List St) (y : Nat) (S : List Int) : UpK ts l y S 0 S := ⟨rfl, fun u => by simp⟩
theorem getD_set_i (S : List Int) (k u : Nat) (b : Int) (hk : k < S.length) : (S.set k b).getD u 0 = if u = k then b else S.getD u 0 := getD_setT hk
theorem UpK.take {ts : List Int} {l : List St} {y : Nat} {S cur : List Int} {j : Nat} (h : UpK ts l y S j cur) (hj : j < S.length) (hu : useRes ts l (y : Nat) (j : Nat) = 2) : UpK ts l y S (j + 1) (cur.set j (-1)) := by
  refine ⟨by simpa using h.1, fun u => ?_⟩
  rw [getD_set_i _ _ _ _ (by rw [h.1]; exact hj)]
  by_cases e : u = j
  · subst e; rw [if_pos rfl, if_pos ⟨by omega, hu⟩]
  · rw [if_neg e, h.2 u]
    by_cases e2 : u < j ∧ useRes ts l (y : Nat) (u : Nat) = 2
    · rw [if_pos e2, if_pos ⟨by omega, e2.2⟩]
    · rw [if_neg e2, if_neg (fun h => e2 ⟨by omega, h.2⟩)]
theorem UpK.keep {ts : List Int} {l : List St} {y : Nat} {S cur : List Int} {j : Nat} (h : UpK ts l y S j cur) (hu : useRes ts l (y : Nat) (j : Nat) ≠ 2) : UpK ts l y S (j + 1) cur := by
  refine ⟨h.1, fun u => ?_⟩
  rw [h.2 u]
  by_cases e : u = j
  · subst e; rw [if_neg (fun h => hu h.2), if_neg (fun h => hu h.2)]
  · by_cases e2 : u < j ∧ useRes ts l (y : Nat) (u : Nat) = 2
    · rw [if_pos e2, if_pos ⟨by omega, e2.2⟩]
    · rw [if_neg e2, if_neg (fun h => e2 ⟨by omega, h.2⟩)]
theorem UpK.done {ts : List Int} {l : List St} {y : Nat} {S cur : List Int} (h : UpK ts l y S ts.length cur) (u : Nat) (hu : u < ts.length) : cur.getD u 0 = if useRes ts l (y : Nat) (u : Nat) = 2 then -1 else S.getD u 0 := by
  rw [h.2 u]
  by_cases e : useRes ts l (y : Nat) (u : Nat) = 2
  · rw [if_pos ⟨hu, e⟩, if_pos e]
  · rw [if_neg (fun h => e h.2), if_neg e]

set_option maxHeartbeats 8000000
set_option maxRecDepth 100000
theorem fnLoanRun_any (A : Option Addr) (n c : Nat) (w : World) (A' : Option Addr) (n' c' : Nat) (hb : Byt w w.heap.size A n) (hm : n ≤ maxLen) (hc : n ≤ c) (hb' : Byt w w.heap.size A' n') (hm' : n' ≤ maxLen) (hc' : n' ≤ c') :
    Calls Try.prog 14 #[.slice A n c, .slice A' n' c'] w (LawRet w) := by
  have HB := Lib.hid hb
  have HB2 := Lib.hid hb'
  clear hb hb'
  by_cases hn : n ≤ 1048576
  · by_cases hn' : n' ≤ 1048576
    · go_enter Try.func14, Try.ntmps14
      go_wp2_with fail
      refine (drawLiveLoans_any A n c _ HB.out hn hc).mono ?_
      rintro e w1 ⟨vt, vb, ts, l, a, rfl, hit, hst, hts, hsz, hb1⟩
      have HP1 := Lib.hid (PgB.new hit hst hb1)
      obtain ⟨At, ct, rfl, hct⟩ := hit.slice
      obtain ⟨Ab, cb, rfl, hcb⟩ := hst.slice
      clear hit hst hb1
      go_wp2_with fail
      generalize w1.alloc (.cells #[.slice At ts.length ct, .slice Ab l.length cb] 26) = W1 at *
      obtain ⟨g, hg⟩ : ∃ g, g = w1.heap.size := ⟨_, rfl⟩
      rw [← hg] at HP1 ⊢
      clear hg
      refine (iLiveLoans_any _ _ ts l a _ _ HP1.out.ht HP1.out.hl (Nat.le_refl _) (by omega)).mono ?_
      rintro e w2 ⟨v2, rfl, hv2, hb2⟩
      have HV_2 := Lib.hid hv2
      clear hv2
      have HP2 := Lib.hid (HP1.out.bels hb2)
      have c0 := HP2.out.c0
      have c1 := HP2.out.c1
      clear hb2
      go_wp2_with (at_builtin; fail)
      refine (sLiveLoans_any _ _ ts l a _ _ HP2.out.ht HP2.out.hl (Nat.le_refl _) (by omega)).mono ?_
      rintro e w3 ⟨v3, rfl, hv3, hb3⟩
      have HS_3 := Lib.hid hv3
      clear hv3
      have HV_3 := Lib.hid (HV_2.out.bel hb3)
      have HP3 := Lib.hid (HP2.out.bels hb3)
      clear c0 c1
      have c0 := HP3.out.c0
      have c1 := HP3.out.c1
      clear hb3
      go_wp2_with fail
      refine (bcInts_any _ _ _ _ _ _ HV_3.out HS_3.out).mono ?_
      rintro e w4 ⟨rfl, n4, rfl⟩
      rw [show eqP (liveLnRes ts l a) (liveLnRes ts l a) = true by simp [eqP]]
      have hb4 := below_of_drewN (w := w3) ⟨n4, rfl⟩ w3.heap.size
      have HV_4 := Lib.hid (HV_3.out.bel hb4)
      have HS_4 := Lib.hid (HS_3.out.bel hb4)
      have HP4 := Lib.hid (HP3.out.bels hb4)
      clear c0 c1
      have c0 := HP4.out.c0
      have c1 := HP4.out.c1
      clear hb4
      generalize w3.drewN n4 = w4 at *
      generalize liveLnRes ts l a = lc at *
      go_wp2_with (at_builtin; fail)
      refine (drawRunPath_any A' n' c' _ ((HB2.out.keep fun b o hb => (HP4.out.bel).cell (p := ⟨b, o, none⟩) hb).more HP4.out.bel.size) hn' hc').mono ?_
      rintro e w5 ⟨At', Ab', nt', ct', nb', cb', vc, cs, x', rfl, hci, hcs, hb5⟩
      have HC_5 := Lib.hid hci.toS
      clear hci
      have HP5 := Lib.hid (HP4.out.bels hb5)
      clear c0 c1
      have c0 := HP5.out.c0
      have c1 := HP5.out.c1
      clear hb5
      have hgl := HP5.out.lt
      go_wp2_with (at_builtin; fail)
      clear hgl
      have hb6 := bel_a w5 (.cells #[.slice At' nt' ct', .slice Ab' nb' cb'] 26)
      generalize w5.alloc (.cells #[.slice At' nt' ct', .slice Ab' nb' cb'] 26) = w6 at *
      have HC_6 := Lib.hid (HC_5.out.bel hb6)
      have HP6 := Lib.hid (HP5.out.bels hb6)
      clear c0 c1
      have c0 := HP6.out.c0
      have c1 := HP6.out.c1
      clear hb6
      refine (iRunPath_any _ _ _ ts l cs 25 _ _ HP6.out.ht HP6.out.hl HC_6.out (Nat.le_refl _) (by omega)).mono ?_
      rintro e w7 ⟨v7, rfl, hv7, hb7⟩
      have HR_7 := Lib.hid hv7
      clear hv7
      have HP7 := Lib.hid (HP6.out.bels hb7)
      clear c0 c1
      have c0 := HP7.out.c0
      have c1 := HP7.out.c1
      clear hb7
      go_wp2_with (at_builtin; fail)
      refine (iPointsOf_any _ _ ts l _ _ HP7.out.ht HP7.out.hl (Nat.le_refl _) (by omega)).mono ?_
      rintro e w8 ⟨v8, rfl, hv8, hb8⟩
      have HPT_8 := Lib.hid hv8
      obtain ⟨Ap, cp, rfl, hcp, hpl⟩ := hv8.slice
      clear hv8
      have HR_8 := Lib.hid (HR_7.out.bel hb8)
      have HP8 := Lib.hid (HP7.out.bels hb8)
      clear c0 c1
      have c0 := HP8.out.c0
      have c1 := HP8.out.c1
      clear hb8
      obtain ⟨hr61, hrv⟩ := run_ok25 ts l cs
      have HRV := Lib.hid hrv
      generalize (runRes ts l cs 25).1 = r at *
      generalize (runRes ts l cs 25).2 = rb at *
      obtain ⟨A5, c5, rfl, hc5, -, -⟩ := HR_8.out
      have hml : (msk r).length = r.length := by simp [msk]
      clear hrv
      rw [hml] at hc5 ⊢
      have HNPL : Hid (0 < r.length → (pointsP ts l).length = (ptsP l).length) := Lib.hid fun h => by unfold pointsP; rw [if_pos (HRV.out h).1]
      have HPTV : Hid (0 < r.length → PtS w8 w8.heap.size (.slice Ap (pointsP ts l).length cp) (ptsP l)) := Lib.hid fun h => by
        have := HPT_8.out
        unfold pointsP at this ⊢
        rw [if_pos (HRV.out h).1] at this ⊢
        exact this
      generalize (pointsP ts l).length = np at *
      clear HPT_8
      have hmk := make_ints ts.length (by omega)
      rw [iv_xv] at hmk
      go_wp2_with (at_builtin; fail)
      clear hmk c0 c1
      have HB0 := Lib.hid (bel_a w8 (.cells (xv (List.replicate ts.length 0)).toArray 3))
      have HRW0 := Lib.hid (RowB.new w8 (xv (List.replicate ts.length 0)) 3)
      generalize w8.alloc (.cells (xv (List.replicate ts.length 0)).toArray 3) = wM at *
      obtain ⟨rs, hrs⟩ : ∃ rs, rs = w8.heap.size := ⟨_, rfl⟩
      have HRS := Lib.hid hrs
      rw [← hrs] at HRW0 ⊢
      clear hrs
      go_loopw [15] (fun i wr => ∃ (j : Nat) (K : List Int), j ≤ ts.length ∧ i = .int .i64 j ∧ K.length = ts.length ∧ (∀ u : Nat, u < j → K.getD u 0 = -1) ∧ RowB wr rs 3 (xv K) ∧ Below w8.heap.size w8 wr) (fun i _ => ts.length - (intOf i).toNat)
      case atStart => exact ⟨0, _, Nat.zero_le _, rfl, by simp, fun u hu => by omega, HRW0.out, HB0.out⟩
      case round =>
        obtain ⟨j, K, hj, rfl, hKl, hK1, hRS, hbw⟩ := hrel
        have HK1 := Lib.hid hK1
        have HRSW := Lib.hid hRS
        have HBW := Lib.hid hbw
        clear hK1 hRS
        by_cases hjl : j < ts.length
        · have hcv : wr.cell? ⟨rs, j, none⟩ = some (.int .i64 (K.getD j 0)) := by rw [HRSW.out.cell, xv_get (by omega)]
          have hfz := HRSW.out.frozen j
          have HRW := Lib.hid (HRSW.out.set_ j (.int .i64 (-1)))
          have HBK := Lib.hid (hbw.setCell (p := ⟨rs, j, none⟩) (by show w8.heap.size ≤ rs; rw [HRS.out]; exact Nat.le_refl _) (.int .i64 (-1)))
          clear hbw
          go_wp2_with (at_builtin; fail)
          exact ⟨⟨j + 1, K.set j (-1), by omega, by go_num, by simpa using hKl, fun u hu => by
            rw [getD_set_i _ _ _ _ (by omega)]
            by_cases e : u = j
            · rw [if_pos e]
            · rw [if_neg e]; exact HK1.out u (by omega), by rw [← xv_set]; exact HRW.out, HBK.out⟩, by simp [intOf] <;> omega⟩
        · have HCI0 := Lib.hid (CI.first (ts := ts) (l := l) (r := r) (K := K) (fun u hu => HK1.out u (by omega)))
          clear hbw
          go_wp2_with (at_builtin; fail)
          clear HK1
          go_loopg [16] (r.length + 1) (fun gk i wr => ∃ (j : Nat) (K : List Int), j ≤ r.length ∧ r.length - j < gk ∧ i = .int .i64 j ∧ K.length = ts.length ∧ CI ts l r j K ∧ RowB wr rs 3 (xv K) ∧ Below w8.heap.size w8 wr)
          case atStart => exact ⟨0, K, Nat.zero_le _, by omega, rfl, hKl, HCI0.out, HRSW.out, HBW.out⟩
          case round =>
            clear HCI0 HRSW HBW hKl
            obtain ⟨j, K, hj, hgk, rfl, hKl, hCI, hRS, hbw⟩ := hrel
            have HBW := Lib.hid hbw
            have HCI := Lib.hid hCI
            have HRSW := Lib.hid hRS
            have HPW := Lib.hid (HP8.out.bels hbw)
            clear hCI hRS
            by_cases hjl : j < r.length
            · have hry := HR_8.out.low hbw (Nat.le_refl _)
              obtain ⟨A3, c3, e3, -, -, hr3⟩ := hry
              injection e3 with e3 e9 e8
              subst e3 e8
              obtain ⟨b2, o2, rfl, hb2, hcell2⟩ := hr3.int_at (k := j) (by rw [hml]; exact hjl)
              have d2 := hcell2 j (by rw [hml]; exact hjl)
              rw [msk_getD] at d2
              obtain ⟨hval, hrun⟩ := HRV.out (by omega)
              have hyk := hrun.inn j hjl
              have hpts := HPTV.out (by omega)
              have hnpe := HNPL.out (by omega)
              have HCK := Lib.hid (fun (v' : Nat) hv h0 => CI.chk (v := v') HCI.out hjl HRV.out hv h0)
              have HNX := Lib.hid (fun K3 p nxt hp hn h2 => CI.next (K3 := K3) (p := p) (nxt := nxt) HCI.out hjl HRV.out hp hn h2)
              generalize r.getD j 0 = y at *
              obtain ⟨bp, op, cp', nv, e, hbp, hcp', hlp, hnx, p0, p1, p2, p3, p4⟩ := hpts.get hyk
              injection e with e1 e7 e2
              subst e1 e2
              obtain ⟨An, cn, rfl, hcn, hln, -⟩ := hnx
              have HPY := Lib.hid (List.getElem?_eq_getElem hyk)
              have HCY := Lib.hid (fun ho => copy_y hval HPY.out ho)
              have hyn : y < np := by rw [hnpe]; exact hyk
              generalize (ptsP l)[y] = P at *
              have q0 := (hbw.cell (p := ⟨bp, op + y * 5, none⟩) hbp).trans p0
              have q1 := (hbw.cell (p := ⟨bp, op + y * 5 + 1, none⟩) hbp).trans p1
              have q2 := (hbw.cell (p := ⟨bp, op + y * 5 + 2, none⟩) hbp).trans p2
              have q3 := (hbw.cell (p := ⟨bp, op + y * 5 + 3, none⟩) hbp).trans p3
              have q4 := (hbw.cell (p := ⟨bp, op + y * 5 + 4, none⟩) hbp).trans p4
              have hszw := hbw.size
              have HBPL := Lib.hid hbp
              have hbpw : bp < wr.heap.size := by omega
              have c0 := HPW.out.c0
              have c1 := HPW.out.c1
              clear e9 e7 hr3 hcell2 p0 p1 p2 p3 p4 hpts hnpe hyk hrun hval hcp' hln
              simp only [List.length_map] at q4 hcn
              go_upto_region 19 with (at_builtin; fail)
              have hbA := bel_a wr (.cells #[.int .i64 P.op, .int .i64 P.x, .int .i64 P.y, .int .i64 P.n, .slice An P.next.length cn] 51)
              have hRA := heap_alloc_new wr (.cells #[.int .i64 P.op, .int .i64 P.x, .int .i64 P.y, .int .i64 P.n, .slice An P.next.length cn] 51)
              have hsA : (wr.alloc (.cells #[.int .i64 P.op, .int .i64 P.x, .int .i64 P.y, .int .i64 P.n, .slice An P.next.length cn] 51)).heap.size = wr.heap.size + 1 := by simp
              generalize wr.alloc (.cells #[.int .i64 P.op, .int .i64 P.x, .int .i64 P.y, .int .i64 P.n, .slice An P.next.length cn] 51) = wb at *
              have HBB := Lib.hid (hbw.trans (hbA.mono hbw.size))
              have HRB := Lib.hid (HRSW.out.low hbA HRSW.out.lt)
              have HPB := Lib.hid (HPW.out.bels hbA)
              have HDK := Lib.hid ((hbw.cell (p := ⟨b2, o2 + j, none⟩) hb2).symm.trans d2)
              have HD2 := Lib.hid ((hbA.cell (p := ⟨b2, o2 + j, none⟩) (by show b2 < _; omega)).trans d2)
              have x0 : wb.cell? ⟨wr.heap.size, 0, none⟩ = some (.int .i64 P.op) := by rw [cell_of_row _ _ _ _ _ _ hRA]; rfl
              have x2 : wb.cell? ⟨wr.heap.size, 2, none⟩ = some (.int .i64 P.y) := by rw [cell_of_row _ _ _ _ _ _ hRA]; rfl
              obtain ⟨bx, hbx⟩ : ∃ bx, bx = wr.heap.size := ⟨_, rfl⟩
              rw [← hbx] at x0 x2 ⊢
              have hbxl : bx < wb.heap.size := by omega
              have hrsb : rs < wb.heap.size := HRB.out.lt
              clear c0 c1 q0 q1 q2 q3 q4 d2 hRA hbA hbx
              have c0 := HPB.out.c0
              have c1 := HPB.out.c1
              have d2 := HD2.out
              go_wp2_with (at_builtin; fail)
              go_loopw [18] (fun i wr => ∃ v : Nat, v ≤ ts.length ∧ i = .int .i64 v ∧ Below wb.heap.size wb wr) (fun i _ => ts.length - (intOf i).toNat)
              case atStart => exact ⟨0, Nat.zero_le _, rfl, Below.refl _ _⟩
              case round =>
                obtain ⟨v, hv, rfl, hbq⟩ := hrel
                have HBQ := Lib.hid hbq
                have hszq := hbq.size
                have hxq0 := belC hbq x0 hbxl
                have hxq2 := belC hbq x2 hbxl
                have hdq2 := belC hbq d2 (by show b2 < _; omega)
                have HPZ := Lib.hid (HPB.out.bels hbq)
                have HRQ := Lib.hid (HRB.out.low hbq HRB.out.lt)
                clear hbq c0 c1 d2 x0 x2
                have x0 := hxq0
                have x2 := hxq2
                have d2 := hdq2
                have c0 := HPZ.out.c0
                have c1 := HPZ.out.c1
                have hgl := HPZ.out.lt
                clear hxq0 hxq2 hdq2
                by_cases hvl : v < ts.length
                · have d7 : wr.cell? ⟨rs, v, none⟩ = some (.int .i64 (K.getD v 0)) := by rw [HRQ.out.cell, xv_get (by omega)]
                  have hb2z : b2 < wr.heap.size := by omega
                  have hrsz : rs < wr.heap.size := by omega
                  by_cases hk0 : 0 ≤ K.getD v 0
                  · have hk1 : decide (K.getD v 0 ≥ 0) = true := by simpa using hk0
                    have HH := Lib.hid (HCK.out v hvl hk0)
                    obtain ⟨kv, hkv⟩ : ∃ kv, kv = K.getD v 0 := ⟨_, rfl⟩
                    rw [← hkv] at d7 hk1 HH
                    have BEL : Hid (∀ w', w'.cell? ⟨g, 0, none⟩ = some (.slice At ts.length ct) ∧ w'.cell? ⟨g, 1, none⟩ = some (.slice Ab l.length cb) ∧ w'.cell? ⟨b2, o2 + j, none⟩ = some (.int .i64 (y : Nat)) ∧ w'.cell? ⟨rs, v, none⟩ = some (.int .i64 kv) ∧ Below wr.heap.size wr w' → Below wr.heap.size wr w') := Lib.hid fun _ h => h.2.2.2.2
                    clear hk0 hkv
                    go_wp2_with (at_builtin; fail)
                    refine wp_region_held_drew (S := (fun w' => w'.cell? ⟨g, 0, none⟩ = some (.slice At ts.length ct) ∧ w'.cell? ⟨g, 1, none⟩ = some (.slice Ab l.length cb) ∧ w'.cell? ⟨b2, o2 + j, none⟩ = some (.int .i64 (y : Nat)) ∧ w'.cell? ⟨rs, v, none⟩ = some (.int .i64 kv) ∧ Below wr.heap.size wr w')) (by kernel_rfl) ?_ (fun hHeld => ?_)
                    · exact ⟨c0, c1, d2, d7, (Below.refl _ _).drew⟩
                    refine wpAnyH_take (i := 0) (oi := ⟨some 90, _, _, _, _, _⟩) (v := ?_) rfl (by kernel_rfl) (by kernel_rfl) (by kernel_rfl) (fun _ _ _ h => h) (Or.inl ⟨by rfl, fun w' hSw => ?_⟩) (by assumption) ?_
                    rotate_left
                    · (try dsimp only at hSw); go_simp; (try with_reducible rfl)
                    (try simp only [Act.put, List.setIfInBounds_toArray, List.set_cons_zero, List.set_cons_succ])
                    refine wpAnyH_take (i := 1) (oi := ⟨some 91, _, _, _, _, _⟩) (v := ?_) rfl (by kernel_rfl) (by kernel_rfl) (by kernel_rfl) (fun _ _ _ h => h) (Or.inl ⟨by rfl, fun w' hSw => ?_⟩) (by assumption) ?_
                    rotate_left
                    · (try dsimp only at hSw); go_simp; (try with_reducible rfl)
                    (try simp only [Act.put, List.setIfInBounds_toArray, List.set_cons_zero, List.set_cons_succ])
                    refine wpAnyH_take (i := 2) (oi := ⟨some 92, _, _, _, _, _⟩) (v := ?_) rfl (by kernel_rfl) (by kernel_rfl) (by kernel_rfl) (fun _ _ _ h => h) (Or.inl ⟨by rfl, fun w' hSw => ?_⟩) (by assumption) ?_
                    rotate_left
                    · (try dsimp only at hSw); go_simp; (try with_reducible rfl)
                    (try simp only [Act.put, List.setIfInBounds_toArray, List.set_cons_zero, List.set_cons_succ])
                    refine wpAnyH_take (i := 3) (oi := ⟨some 93, _, _, _, _, _⟩) (v := ?_) rfl (by kernel_rfl) (by kernel_rfl) (by kernel_rfl) (fun _ _ _ h => h) (Or.inl ⟨by rfl, fun w' hSw => ?_⟩) (by assumption) ?_
                    rotate_left
                    · (try dsimp only at hSw); go_simp; (try with_reducible rfl)
                    (try simp only [Act.put, List.setIfInBounds_toArray, List.set_cons_zero, List.set_cons_succ])
                    refine wpAnyH_take (i := 4) (oi := ⟨some 94, _, _, _, _, _⟩) (v := ?_) rfl (by kernel_rfl) (by kernel_rfl) (by kernel_rfl) (fun _ _ _ h => h) (Or.inl ⟨by rfl, fun w' hSw => ?_⟩) (by assumption) ?_
                    rotate_left
                    · (try dsimp only at hSw); go_simp; (try with_reducible rfl)
                    (try simp only [Act.put, List.setIfInBounds_toArray, List.set_cons_zero, List.set_cons_succ])
                    refine wpAnyH_take (i := 5) (oi := ⟨some 95, _, _, _, _, _⟩) (v := ?_) rfl (by kernel_rfl) (by kernel_rfl) (by kernel_rfl) (fun _ _ _ h => h) (Or.inl ⟨by rfl, fun w' hSw => ?_⟩) (by assumption) ?_
                    rotate_left
                    · (try dsimp only at hSw); go_simp; (try with_reducible rfl)
                    (try simp only [Act.put, List.setIfInBounds_toArray, List.set_cons_zero, List.set_cons_succ])
                    refine wpAnyH_take (i := 6) (oi := ⟨some 96, _, _, _, _, _⟩) (v := ?_) rfl (by kernel_rfl) (by kernel_rfl) (by kernel_rfl) (fun _ _ _ h => h) (Or.inl ⟨by rfl, fun w' hSw => ?_⟩) (by assumption) ?_
                    rotate_left
                    · (try dsimp only at hSw); go_simp; (try with_reducible rfl)
                    (try simp only [Act.put, List.setIfInBounds_toArray, List.set_cons_zero, List.set_cons_succ])
                    refine wpAnyH_take (i := 7) (oi := ⟨some 97, _, _, _, _, _⟩) (v := ?_) rfl (by kernel_rfl) (by kernel_rfl) (by kernel_rfl) (fun _ _ _ h => h) (Or.inl ⟨by rfl, fun w' hSw => ?_⟩) (by assumption) ?_
                    rotate_left
                    · (try dsimp only at hSw); go_simp; (try with_reducible rfl)
                    (try simp only [Act.put, List.setIfInBounds_toArray, List.set_cons_zero, List.set_cons_succ])
                    refine wpAnyH_take (i := 8) (oi := ⟨some 98, _, _, _, _, _⟩) (v := ?_) rfl (by kernel_rfl) (by kernel_rfl) (by kernel_rfl) (fun _ _ _ h => h) (Or.inl ⟨by rfl, fun w' hSw => ?_⟩) (by assumption) ?_
                    rotate_left
                    · (try dsimp only at hSw); go_simp; (try with_reducible rfl)
                    (try simp only [Act.put, List.setIfInBounds_toArray, List.set_cons_zero, List.set_cons_succ])
                    refine wpAnyH_take (i := 9) (oi := ⟨some 99, _, _, _, _, _⟩) (v := ?_) rfl (by kernel_rfl) (by kernel_rfl) (by kernel_rfl) (fun _ _ _ h => h) (Or.inl ⟨by rfl, fun w' hSw => ?_⟩) (by assumption) ?_
                    rotate_left
                    · (try dsimp only at hSw); go_simp; (try with_reducible rfl)
                    (try simp only [Act.put, List.setIfInBounds_toArray, List.set_cons_zero, List.set_cons_succ])
                    refine wpAnyH_take (i := 10) (oi := ⟨some 100, _, _, _, _, _⟩) (v := ?_) rfl (by kernel_rfl) (by kernel_rfl) (by kernel_rfl) (fun _ _ _ h => h) (Or.inl ⟨by rfl, fun w' hSw => ?_⟩) (by assumption) ?_
                    rotate_left
                    · (try dsimp only at hSw); go_simp; (try with_reducible rfl)
                    (try simp only [Act.put, List.setIfInBounds_toArray, List.set_cons_zero, List.set_cons_succ])
                    refine wpAnyH_take (i := 11) (oi := ⟨some 101, _, _, _, _, _⟩) (v := ?_) rfl (by kernel_rfl) (by kernel_rfl) (by kernel_rfl) (fun _ _ _ h => h) (Or.inl ⟨by rfl, fun w' hSw => ?_⟩) (by assumption) ?_
                    rotate_left
                    · (try dsimp only at hSw); go_simp; (try with_reducible rfl)
                    (try simp only [Act.put, List.setIfInBounds_toArray, List.set_cons_zero, List.set_cons_succ])
                    refine wpAnyH_take (i := 13) (oi := ⟨some 103, _, _, _, _, _⟩) (v := ?_) rfl (by kernel_rfl) (by kernel_rfl) (by kernel_rfl) (fun _ _ _ h => h) (Or.inl ⟨by rfl, fun w' hSw => ?_⟩) (by assumption) ?_
                    rotate_left
                    · (try dsimp only at hSw); go_simp; (try with_reducible rfl)
                    (try simp only [Act.put, List.setIfInBounds_toArray, List.set_cons_zero, List.set_cons_succ])
                    refine wpAnyH_take (i := 14) (oi := ⟨some 104, _, _, _, _, _⟩) (v := ?_) rfl (by kernel_rfl) (by kernel_rfl) (by kernel_rfl) (fun _ _ _ h => h) (Or.inl ⟨by rfl, fun w' hSw => ?_⟩) (by assumption) ?_
                    rotate_left
                    · (try dsimp only at hSw); go_simp; (try with_reducible rfl)
                    (try simp only [Act.put, List.setIfInBounds_toArray, List.set_cons_zero, List.set_cons_succ])
                    refine wpAnyH_take (i := 15) (oi := ⟨some 105, _, _, _, _, _⟩) (v := ?_) rfl (by kernel_rfl) (by kernel_rfl) (by kernel_rfl) (fun _ _ _ h => h) (Or.inl ⟨by rfl, fun w' hSw => ?_⟩) (by assumption) ?_
                    rotate_left
                    · (try dsimp only at hSw); go_simp; (try with_reducible rfl)
                    (try simp only [Act.put, List.setIfInBounds_toArray, List.set_cons_zero, List.set_cons_succ])
                    refine wpAnyH_take (i := 16) (oi := ⟨some 106, _, _, _, _, _⟩) (v := ?_) rfl (by kernel_rfl) (by kernel_rfl) (by kernel_rfl) (fun _ _ _ h => h) (Or.inl ⟨by rfl, fun w' hSw => ?_⟩) (by assumption) ?_
                    rotate_left
                    · (try dsimp only at hSw); go_simp; (try with_reducible rfl)
                    (try simp only [Act.put, List.setIfInBounds_toArray, List.set_cons_zero, List.set_cons_succ])
                    refine wpAnyH_ready (rs := [12]) (by kernel_rfl) (by simp) ?_
                    refine AllReadyH.cons (o := ⟨some 102, _, _, _, _, _⟩) rfl (fun K hK => ?_) AllReadyH.nil
                    go_simp
                    (refine (iLoansIn_any (.slice At ts.length ct) (.slice Ab l.length cb) ts l (y : Nat) (v : Nat) _ _ (HPZ.out.ht.low (BEL.out _ (by assumption)) (Nat.le_refl _)) (HPZ.out.hl.low (BEL.out _ (by assumption)) (Nat.le_refl _)) (BEL.out _ (by assumption)).size (by omega)).mono ?_)
                    (rintro e w7 ⟨v7, rfl, hv7, hb7⟩)
                    (have BX7 := Lib.hid ((BEL.out _ (by assumption)).trans (hb7.mono (BEL.out _ (by assumption)).size)))
                    (have HV7 := Lib.hid hv7)
                    clear hv7 hb7
                    go_simp
                    refine hK.out _ _ ?_ (fun hHeld => ?_)
                    · exact ⟨belC BX7.out c0 hgl, belC BX7.out c1 hgl, belC BX7.out d2 hb2z, belC BX7.out d7 hrsz, BX7.out⟩
                    clear hK K
                    (try simp only [Act.put, List.setIfInBounds_toArray, List.set_cons_zero, List.set_cons_succ])
                    refine wpAnyH_ready (rs := [17]) (by kernel_rfl) (by simp) ?_
                    refine AllReadyH.cons (o := ⟨some 107, _, _, _, _, _⟩) rfl (fun K hK => ?_) AllReadyH.nil
                    go_simp
                    (refine (bcIn_any _ _ _ _ _ HV7.out).mono ?_)
                    (rintro e w9 ⟨rfl, rfl⟩)
                    (rw [HH.out])
                    go_simp
                    refine hK.out _ _ ?_ (fun hHeld => ?_)
                    · exact ⟨belC BX7.out c0 hgl, belC BX7.out c1 hgl, belC BX7.out d2 hb2z, belC BX7.out d7 hrsz, BX7.out⟩
                    clear hK K
                    (try simp only [Act.put, List.setIfInBounds_toArray, List.set_cons_zero, List.set_cons_succ])
                    refine wpAnyH_take (i := 18) (oi := ⟨some 108, _, _, _, _, _⟩) (v := ?_) rfl (by kernel_rfl) (by kernel_rfl) (by kernel_rfl) (fun _ _ _ h => h) (Or.inl ⟨by rfl, fun w' hSw => ?_⟩) (by assumption) ?_
                    rotate_left
                    · (try dsimp only at hSw); go_simp; (try with_reducible rfl)
                    (try simp only [Act.put, List.setIfInBounds_toArray, List.set_cons_zero, List.set_cons_succ])
                    refine wpAnyH_take (i := 19) (oi := ⟨some 109, _, _, _, _, _⟩) (v := ?_) rfl (by kernel_rfl) (by kernel_rfl) (by kernel_rfl) (fun _ _ _ h => h) (Or.inl ⟨by rfl, fun w' hSw => ?_⟩) (by assumption) ?_
                    rotate_left
                    · (try dsimp only at hSw); go_simp; (try with_reducible rfl)
                    (try simp only [Act.put, List.setIfInBounds_toArray, List.set_cons_zero, List.set_cons_succ])
                    refine wpAnyH_done (by kernel_rfl) ?_ _
                    go_wp2_with (at_builtin; fail)
                    exact ⟨⟨v + 1, by omega, by go_num, HBQ.out.trans (BX7.out.mono HBQ.out.size)⟩, by simp [intOf] <;> omega⟩
                  · have hk1 : decide (K.getD v 0 ≥ 0) = false := by simpa using hk0
                    obtain ⟨kv, hkv⟩ : ∃ kv, kv = K.getD v 0 := ⟨_, rfl⟩
                    rw [← hkv] at d7 hk1
                    clear hk0 hkv
                    go_wp2_with (at_builtin; fail)
                    refine wp_region_held_drew (S := (fun w' => w'.cell? ⟨g, 0, none⟩ = some (.slice At ts.length ct) ∧ w'.cell? ⟨g, 1, none⟩ = some (.slice Ab l.length cb) ∧ w'.cell? ⟨b2, o2 + j, none⟩ = some (.int .i64 (y : Nat)) ∧ w'.cell? ⟨rs, v, none⟩ = some (.int .i64 kv) ∧ Below wr.heap.size wr w')) (by kernel_rfl) ?_ (fun hHeld => ?_)
                    · exact ⟨c0, c1, d2, d7, (Below.refl _ _).drew⟩
                    refine wpAnyH_take (i := 0) (oi := ⟨some 90, _, _, _, _, _⟩) (v := ?_) rfl (by kernel_rfl) (by kernel_rfl) (by kernel_rfl) (fun _ _ _ h => h) (Or.inl ⟨by rfl, fun w' hSw => ?_⟩) (by assumption) ?_
                    rotate_left
                    · (try dsimp only at hSw); go_simp; (try with_reducible rfl)
                    (try simp only [Act.put, List.setIfInBounds_toArray, List.set_cons_zero, List.set_cons_succ])
                    refine wpAnyH_take (i := 1) (oi := ⟨some 91, _, _, _, _, _⟩) (v := ?_) rfl (by kernel_rfl) (by kernel_rfl) (by kernel_rfl) (fun _ _ _ h => h) (Or.inl ⟨by rfl, fun w' hSw => ?_⟩) (by assumption) ?_
                    rotate_left
                    · (try dsimp only at hSw); go_simp; (try with_reducible rfl)
                    (try simp only [Act.put, List.setIfInBounds_toArray, List.set_cons_zero, List.set_cons_succ])
                    refine wpAnyH_take (i := 2) (oi := ⟨some 92, _, _, _, _, _⟩) (v := ?_) rfl (by kernel_rfl) (by kernel_rfl) (by kernel_rfl) (fun _ _ _ h => h) (Or.inl ⟨by rfl, fun w' hSw => ?_⟩) (by assumption) ?_
                    rotate_left
                    · (try dsimp only at hSw); go_simp; (try with_reducible rfl)
                    (try simp only [Act.put, List.setIfInBounds_toArray, List.set_cons_zero, List.set_cons_succ])
                    refine wpAnyH_take (i := 3) (oi := ⟨some 93, _, _, _, _, _⟩) (v := ?_) rfl (by kernel_rfl) (by kernel_rfl) (by kernel_rfl) (fun _ _ _ h => h) (Or.inl ⟨by rfl, fun w' hSw => ?_⟩) (by assumption) ?_
                    rotate_left
                    · (try dsimp only at hSw); go_simp; (try with_reducible rfl)
                    (try simp only [Act.put, List.setIfInBounds_toArray, List.set_cons_zero, List.set_cons_succ])
                    refine wpAnyH_take (i := 4) (oi := ⟨some 94, _, _, _, _, _⟩) (v := ?_) rfl (by kernel_rfl) (by kernel_rfl) (by kernel_rfl) (fun _ _ _ h => h) (Or.inl ⟨by rfl, fun w' hSw => ?_⟩) (by assumption) ?_
                    rotate_left
                    · (try dsimp only at hSw); go_simp; (try with_reducible rfl)
                    (try simp only [Act.put, List.setIfInBounds_toArray, List.set_cons_zero, List.set_cons_succ])
                    refine wpAnyH_take (i := 5) (oi := ⟨some 95, _, _, _, _, _⟩) (v := ?_) rfl (by kernel_rfl) (by kernel_rfl) (by kernel_rfl) (fun _ _ _ h => h) (Or.inl ⟨by rfl, fun w' hSw => ?_⟩) (by assumption) ?_
                    rotate_left
                    · (try dsimp only at hSw); go_simp; (try with_reducible rfl)
                    (try simp only [Act.put, List.setIfInBounds_toArray, List.set_cons_zero, List.set_cons_succ])
                    refine wpAnyH_take (i := 6) (oi := ⟨some 96, _, _, _, _, _⟩) (v := undef) rfl (by kernel_rfl) (by kernel_rfl) (by kernel_rfl) (fun _ _ _ h => h) (Or.inr ⟨by rfl, rfl⟩) (by assumption) ?_
                    (try simp only [Act.put, List.setIfInBounds_toArray, List.set_cons_zero, List.set_cons_succ])
                    refine wpAnyH_take (i := 7) (oi := ⟨some 97, _, _, _, _, _⟩) (v := undef) rfl (by kernel_rfl) (by kernel_rfl) (by kernel_rfl) (fun _ _ _ h => h) (Or.inr ⟨by rfl, rfl⟩) (by assumption) ?_
                    (try simp only [Act.put, List.setIfInBounds_toArray, List.set_cons_zero, List.set_cons_succ])
                    refine wpAnyH_take (i := 8) (oi := ⟨some 98, _, _, _, _, _⟩) (v := undef) rfl (by kernel_rfl) (by kernel_rfl) (by kernel_rfl) (fun _ _ _ h => h) (Or.inr ⟨by rfl, rfl⟩) (by assumption) ?_
                    (try simp only [Act.put, List.setIfInBounds_toArray, List.set_cons_zero, List.set_cons_succ])
                    refine wpAnyH_take (i := 9) (oi := ⟨some 99, _, _, _, _, _⟩) (v := undef) rfl (by kernel_rfl) (by kernel_rfl) (by kernel_rfl) (fun _ _ _ h => h) (Or.inr ⟨by rfl, rfl⟩) (by assumption) ?_
                    (try simp only [Act.put, List.setIfInBounds_toArray, List.set_cons_zero, List.set_cons_succ])
                    refine wpAnyH_take (i := 10) (oi := ⟨some 100, _, _, _, _, _⟩) (v := undef) rfl (by kernel_rfl) (by kernel_rfl) (by kernel_rfl) (fun _ _ _ h => h) (Or.inr ⟨by rfl, rfl⟩) (by assumption) ?_
                    (try simp only [Act.put, List.setIfInBounds_toArray, List.set_cons_zero, List.set_cons_succ])
                    refine wpAnyH_take (i := 11) (oi := ⟨some 101, _, _, _, _, _⟩) (v := undef) rfl (by kernel_rfl) (by kernel_rfl) (by kernel_rfl) (fun _ _ _ h => h) (Or.inr ⟨by rfl, rfl⟩) (by assumption) ?_
                    (try simp only [Act.put, List.setIfInBounds_toArray, List.set_cons_zero, List.set_cons_succ])
                    refine wpAnyH_take (i := 12) (oi := ⟨some 102, _, _, _, _, _⟩) (v := undef) rfl (by kernel_rfl) (by kernel_rfl) (by kernel_rfl) (fun _ _ _ h => h) (Or.inr ⟨by rfl, rfl⟩) (by assumption) ?_
                    (try simp only [Act.put, List.setIfInBounds_toArray, List.set_cons_zero, List.set_cons_succ])
                    refine wpAnyH_take (i := 13) (oi := ⟨some 103, _, _, _, _, _⟩) (v := undef) rfl (by kernel_rfl) (by kernel_rfl) (by kernel_rfl) (fun _ _ _ h => h) (Or.inr ⟨by rfl, rfl⟩) (by assumption) ?_
                    (try simp only [Act.put, List.setIfInBounds_toArray, List.set_cons_zero, List.set_cons_succ])
                    refine wpAnyH_take (i := 14) (oi := ⟨some 104, _, _, _, _, _⟩) (v := undef) rfl (by kernel_rfl) (by kernel_rfl) (by kernel_rfl) (fun _ _ _ h => h) (Or.inr ⟨by rfl, rfl⟩) (by assumption) ?_
                    (try simp only [Act.put, List.setIfInBounds_toArray, List.set_cons_zero, List.set_cons_succ])
                    refine wpAnyH_take (i := 15) (oi := ⟨some 105, _, _, _, _, _⟩) (v := undef) rfl (by kernel_rfl) (by kernel_rfl) (by kernel_rfl) (fun _ _ _ h => h) (Or.inr ⟨by rfl, rfl⟩) (by assumption) ?_
                    (try simp only [Act.put, List.setIfInBounds_toArray, List.set_cons_zero, List.set_cons_succ])
                    refine wpAnyH_take (i := 16) (oi := ⟨some 106, _, _, _, _, _⟩) (v := undef) rfl (by kernel_rfl) (by kernel_rfl) (by kernel_rfl) (fun _ _ _ h => h) (Or.inr ⟨by rfl, rfl⟩) (by assumption) ?_
                    (try simp only [Act.put, List.setIfInBounds_toArray, List.set_cons_zero, List.set_cons_succ])
                    refine wpAnyH_take (i := 17) (oi := ⟨some 107, _, _, _, _, _⟩) (v := undef) rfl (by kernel_rfl) (by kernel_rfl) (by kernel_rfl) (fun _ _ _ h => h) (Or.inr ⟨by rfl, rfl⟩) (by assumption) ?_
                    (try simp only [Act.put, List.setIfInBounds_toArray, List.set_cons_zero, List.set_cons_succ])
                    refine wpAnyH_take (i := 18) (oi := ⟨some 108, _, _, _, _, _⟩) (v := undef) rfl (by kernel_rfl) (by kernel_rfl) (by kernel_rfl) (fun _ _ _ h => h) (Or.inr ⟨by rfl, rfl⟩) (by assumption) ?_
                    (try simp only [Act.put, List.setIfInBounds_toArray, List.set_cons_zero, List.set_cons_succ])
                    refine wpAnyH_take (i := 19) (oi := ⟨some 109, _, _, _, _, _⟩) (v := ?_) rfl (by kernel_rfl) (by kernel_rfl) (by kernel_rfl) (fun _ _ _ h => h) (Or.inl ⟨by rfl, fun w' hSw => ?_⟩) (by assumption) ?_
                    rotate_left
                    · (try dsimp only at hSw); go_simp; (try with_reducible rfl)
                    (try simp only [Act.put, List.setIfInBounds_toArray, List.set_cons_zero, List.set_cons_succ])
                    refine wpAnyH_done (by kernel_rfl) ?_ _
                    go_wp2_with (at_builtin; fail)
                    exact ⟨⟨v + 1, by omega, by go_num, HBQ.out.drew⟩, by simp [intOf] <;> omega⟩
                · obtain rfl : v = ts.length := by omega
                  have hbxl : bx < wr.heap.size := by omega
                  have HBB := Lib.hid (HBB.out.trans (HBQ.out.mono HBB.out.size))
                  have HRB := HRQ
                  have hrsb : rs < wr.heap.size := HRB.out.lt
                  clear HCK hyn hbpw
                  have HSTEP := HNX
                  clear HNX
                  by_cases ho3 : P.op = 3
                  · obtain ⟨hy0, hyl⟩ := HCY.out (.inl ho3)
                    obtain ⟨yy, hyy⟩ : ∃ yy : Nat, P.y = yy := ⟨P.y.toNat, by omega⟩
                    have hyyl : yy < ts.length := by omega
                    obtain ⟨kv, hkv⟩ : ∃ kv, kv = K.getD yy 0 := ⟨_, rfl⟩
                    have d8 : wr.cell? ⟨rs, yy, none⟩ = some (.int .i64 kv) := by rw [HRB.out.cell, xv_get (by omega), hkv]
                    have HN : Hid (0 ≤ kv → ((P.op = 4 ∨ P.op = 5) ∧ kv = ((y : Nat) : Int)) ∨ (P.op = 3 ∧ kv = K.getD P.y.toNat 0)) := Lib.hid fun _ => .inr ⟨ho3, by rw [hyy, Int.toNat_natCast, hkv]⟩
                    rw [hyy] at x2
                    rw [ho3] at x0
                    clear hyy hkv hy0 hyl ho3
                    go_wp2_with (at_builtin; fail)
                    go_loopw [20] (fun i wr => ∃ (v : Nat) (cur : List Int), v ≤ ts.length ∧ i = .int .i64 v ∧ UpK ts l y K v cur ∧ RowB wr rs 3 (xv cur) ∧ Below w8.heap.size w8 wr) (fun i _ => ts.length - (intOf i).toNat)
                    case atStart => exact ⟨0, K, Nat.zero_le _, rfl, UpK.zero _ _ _ _, HRB.out, HBB.out⟩
                    case round =>
                      obtain ⟨v, cur, hv, rfl, hU, hR, hbw⟩ := hrel
                      have HU := Lib.hid hU
                      have HR := Lib.hid hR
                      have HBZ := Lib.hid hbw
                      have HPZ := Lib.hid (HP8.out.bels hbw)
                      have hcl := hU.1
                      clear hU hR c0 c1 d2
                      have c0 := HPZ.out.c0
                      have c1 := HPZ.out.c1
                      have hgl := HPZ.out.lt
                      have d2 := (hbw.cell (p := ⟨b2, o2 + j, none⟩) hb2).trans HDK.out
                      have hsz9 := hbw.size
                      have hb2z : b2 < wr.heap.size := by omega
                      have BEL : Hid (∀ w', w'.cell? ⟨g, 0, none⟩ = some (.slice At ts.length ct) ∧ w'.cell? ⟨g, 1, none⟩ = some (.slice Ab l.length cb) ∧ w'.cell? ⟨b2, o2 + j, none⟩ = some (.int .i64 (y : Nat)) ∧ Below wr.heap.size wr w' → Below wr.heap.size wr w') := Lib.hid fun _ h => h.2.2.2
                      clear hbw
                      by_cases hvl : v < ts.length
                      · go_wp2_with (at_builtin; fail)
                        refine wp_region_held_drew (S := (fun w' => w'.cell? ⟨g, 0, none⟩ = some (.slice At ts.length ct) ∧ w'.cell? ⟨g, 1, none⟩ = some (.slice Ab l.length cb) ∧ w'.cell? ⟨b2, o2 + j, none⟩ = some (.int .i64 (y : Nat)) ∧ Below wr.heap.size wr w')) (by kernel_rfl) ?_ (fun hHeld => ?_)
                        · exact ⟨c0, c1, d2, (Below.refl _ _).drew⟩
                        refine wpAnyH_take (i := 0) (oi := ⟨some 136, _, _, _, _, _⟩) (v := ?_) rfl (by kernel_rfl) (by kernel_rfl) (by kernel_rfl) (fun _ _ _ h => h) (Or.inl ⟨by rfl, fun w' hSw => ?_⟩) (by assumption) ?_
                        rotate_left
                        · (try dsimp only at hSw); go_simp; (try with_reducible rfl)
                        (try simp only [Act.put, List.setIfInBounds_toArray, List.set_cons_zero, List.set_cons_succ])
                        refine wpAnyH_take (i := 1) (oi := ⟨some 137, _, _, _, _, _⟩) (v := ?_) rfl (by kernel_rfl) (by kernel_rfl) (by kernel_rfl) (fun _ _ _ h => h) (Or.inl ⟨by rfl, fun w' hSw => ?_⟩) (by assumption) ?_
                        rotate_left
                        · (try dsimp only at hSw); go_simp; (try with_reducible rfl)
                        (try simp only [Act.put, List.setIfInBounds_toArray, List.set_cons_zero, List.set_cons_succ])
                        refine wpAnyH_take (i := 2) (oi := ⟨some 138, _, _, _, _, _⟩) (v := ?_) rfl (by kernel_rfl) (by kernel_rfl) (by kernel_rfl) (fun _ _ _ h => h) (Or.inl ⟨by rfl, fun w' hSw => ?_⟩) (by assumption) ?_
                        rotate_left
                        · (try dsimp only at hSw); go_simp; (try with_reducible rfl)
                        (try simp only [Act.put, List.setIfInBounds_toArray, List.set_cons_zero, List.set_cons_succ])
                        refine wpAnyH_take (i := 3) (oi := ⟨some 139, _, _, _, _, _⟩) (v := ?_) rfl (by kernel_rfl) (by kernel_rfl) (by kernel_rfl) (fun _ _ _ h => h) (Or.inl ⟨by rfl, fun w' hSw => ?_⟩) (by assumption) ?_
                        rotate_left
                        · (try dsimp only at hSw); go_simp; (try with_reducible rfl)
                        (try simp only [Act.put, List.setIfInBounds_toArray, List.set_cons_zero, List.set_cons_succ])
                        refine wpAnyH_take (i := 4) (oi := ⟨some 140, _, _, _, _, _⟩) (v := ?_) rfl (by kernel_rfl) (by kernel_rfl) (by kernel_rfl) (fun _ _ _ h => h) (Or.inl ⟨by rfl, fun w' hSw => ?_⟩) (by assumption) ?_
                        rotate_left
                        · (try dsimp only at hSw); go_simp; (try with_reducible rfl)
                        (try simp only [Act.put, List.setIfInBounds_toArray, List.set_cons_zero, List.set_cons_succ])
                        refine wpAnyH_take (i := 5) (oi := ⟨some 141, _, _, _, _, _⟩) (v := ?_) rfl (by kernel_rfl) (by kernel_rfl) (by kernel_rfl) (fun _ _ _ h => h) (Or.inl ⟨by rfl, fun w' hSw => ?_⟩) (by assumption) ?_
                        rotate_left
                        · (try dsimp only at hSw); go_simp; (try with_reducible rfl)
                        (try simp only [Act.put, List.setIfInBounds_toArray, List.set_cons_zero, List.set_cons_succ])
                        refine wpAnyH_ready (rs := [6]) (by kernel_rfl) (by simp) ?_
                        refine AllReadyH.cons (o := ⟨some 142, _, _, _, _, _⟩) rfl (fun K hK => ?_) AllReadyH.nil
                        go_simp
                        (refine (iUseOf_any (.slice At ts.length ct) (.slice Ab l.length cb) ts l (y : Nat) (v : Nat) _ _ (HPZ.out.ht.low (BEL.out _ (by assumption)) (Nat.le_refl _)) (HPZ.out.hl.low (BEL.out _ (by assumption)) (Nat.le_refl _)) (BEL.out _ (by assumption)).size (by omega)).mono ?_)
                        (rintro e w7 ⟨rfl, hb7⟩)
                        (have BX7 := Lib.hid ((BEL.out _ (by assumption)).trans (hb7.mono (BEL.out _ (by assumption)).size)))
                        clear hb7
                        (generalize hus : useRes ts l ((y : Nat) : Int) ((v : Nat) : Int) = u)
                        (have HUS := Lib.hid hus)
                        clear hus
                        go_simp
                        refine hK.out _ _ ?_ (fun hHeld => ?_)
                        · exact ⟨belC BX7.out c0 hgl, belC BX7.out c1 hgl, belC BX7.out d2 hb2z, BX7.out⟩
                        clear hK K
                        (try simp only [Act.put, List.setIfInBounds_toArray, List.set_cons_zero, List.set_cons_succ])
                        refine wpAnyH_take (i := 7) (oi := ⟨some 143, _, _, _, _, _⟩) (v := ?_) rfl (by kernel_rfl) (by kernel_rfl) (by kernel_rfl) (fun _ _ _ h => h) (Or.inl ⟨by rfl, fun w' hSw => ?_⟩) (by assumption) ?_
                        rotate_left
                        · (try dsimp only at hSw); go_simp; (try with_reducible rfl)
                        (try simp only [Act.put, List.setIfInBounds_toArray, List.set_cons_zero, List.set_cons_succ])
                        refine wpAnyH_done (by kernel_rfl) ?_ _
                        have hrow := HR.out.low BX7.out HR.out.lt
                        have hBK := HBZ.out.trans (BX7.out.mono HBZ.out.size)
                        by_cases hu : u = 2
                        · have HUT := Lib.hid (HU.out.take (by omega) (HUS.out.trans hu))
                          have hu1 : (u == 2) = true := by simpa using hu
                          have hcv : w7.cell? ⟨rs, v, none⟩ = some (.int .i64 (cur.getD v 0)) := by rw [hrow.cell, xv_get (by omega)]
                          have hfz := hrow.frozen v
                          have HRW := Lib.hid (hrow.set_ v (.int .i64 (-1)))
                          have HBK := Lib.hid (hBK.setCell (p := ⟨rs, v, none⟩) (by show w8.heap.size ≤ rs; rw [HRS.out]; exact Nat.le_refl _) (.int .i64 (-1)))
                          clear hrow hBK hu
                          go_wp2_with (at_builtin; fail)
                          exact ⟨⟨v + 1, _, by omega, by go_num, HUT.out, by rw [← xv_set]; exact HRW.out, HBK.out⟩, by simp [intOf] <;> omega⟩
                        · have HUT := Lib.hid (HU.out.keep (by rw [HUS.out]; exact hu))
                          have hu1 : (u == 2) = false := by simpa using hu
                          have HRW := Lib.hid hrow
                          have HBK := Lib.hid hBK
                          clear hrow hBK hu
                          go_wp2_with (at_builtin; fail)
                          exact ⟨⟨v + 1, _, by omega, by go_num, HUT.out, HRW.out, HBK.out⟩, by simp [intOf] <;> omega⟩
                      · obtain rfl : v = ts.length := by omega
                        go_wp2_with (at_builtin; fail)
                        refine wp_region_held_drew (S := (fun w' => w'.cell? ⟨g, 0, none⟩ = some (.slice At ts.length ct) ∧ w'.cell? ⟨g, 1, none⟩ = some (.slice Ab l.length cb) ∧ w'.cell? ⟨b2, o2 + j, none⟩ = some (.int .i64 (y : Nat)) ∧ Below wr.heap.size wr w')) (by kernel_rfl) ?_ (fun hHeld => ?_)
                        · exact ⟨c0, c1, d2, (Below.refl _ _).drew⟩
                        refine wpAnyH_take (i := 0) (oi := ⟨some 147, _, _, _, _, _⟩) (v := ?_) rfl (by kernel_rfl) (by kernel_rfl) (by kernel_rfl) (fun _ _ _ h => h) (Or.inl ⟨by rfl, fun w' hSw => ?_⟩) (by assumption) ?_
                        rotate_left
                        · (try dsimp only at hSw); go_simp; (try with_reducible rfl)
                        (try simp only [Act.put, List.setIfInBounds_toArray, List.set_cons_zero, List.set_cons_succ])
                        refine wpAnyH_take (i := 1) (oi := ⟨some 148, _, _, _, _, _⟩) (v := ?_) rfl (by kernel_rfl) (by kernel_rfl) (by kernel_rfl) (fun _ _ _ h => h) (Or.inl ⟨by rfl, fun w' hSw => ?_⟩) (by assumption) ?_
                        rotate_left
                        · (try dsimp only at hSw); go_simp; (try with_reducible rfl)
                        (try simp only [Act.put, List.setIfInBounds_toArray, List.set_cons_zero, List.set_cons_succ])
                        refine wpAnyH_take (i := 2) (oi := ⟨some 149, _, _, _, _, _⟩) (v := ?_) rfl (by kernel_rfl) (by kernel_rfl) (by kernel_rfl) (fun _ _ _ h => h) (Or.inl ⟨by rfl, fun w' hSw => ?_⟩) (by assumption) ?_
                        rotate_left
                        · (try dsimp only at hSw); go_simp; (try with_reducible rfl)
                        (try simp only [Act.put, List.setIfInBounds_toArray, List.set_cons_zero, List.set_cons_succ])
                        refine wpAnyH_take (i := 3) (oi := ⟨some 150, _, _, _, _, _⟩) (v := ?_) rfl (by kernel_rfl) (by kernel_rfl) (by kernel_rfl) (fun _ _ _ h => h) (Or.inl ⟨by rfl, fun w' hSw => ?_⟩) (by assumption) ?_
                        rotate_left
                        · (try dsimp only at hSw); go_simp; (try with_reducible rfl)
                        (try simp only [Act.put, List.setIfInBounds_toArray, List.set_cons_zero, List.set_cons_succ])
                        refine wpAnyH_take (i := 4) (oi := ⟨some 151, _, _, _, _, _⟩) (v := ?_) rfl (by kernel_rfl) (by kernel_rfl) (by kernel_rfl) (fun _ _ _ h => h) (Or.inl ⟨by rfl, fun w' hSw => ?_⟩) (by assumption) ?_
                        rotate_left
                        · (try dsimp only at hSw); go_simp; (try with_reducible rfl)
                        (try simp only [Act.put, List.setIfInBounds_toArray, List.set_cons_zero, List.set_cons_succ])
                        refine wpAnyH_ready (rs := [5]) (by kernel_rfl) (by simp) ?_
                        refine AllReadyH.cons (o := ⟨some 152, _, _, _, _, _⟩) rfl (fun K hK => ?_) AllReadyH.nil
                        go_simp
                        (refine (iSetBy_any (.slice At ts.length ct) (.slice Ab l.length cb) ts l (y : Nat) _ _ (HPZ.out.ht.low (BEL.out _ (by assumption)) (Nat.le_refl _)) (HPZ.out.hl.low (BEL.out _ (by assumption)) (Nat.le_refl _)) (BEL.out _ (by assumption)).size (by omega)).mono ?_)
                        (rintro e w7 ⟨rfl, hb7⟩)
                        (have BX7 := Lib.hid ((BEL.out _ (by assumption)).trans (hb7.mono (BEL.out _ (by assumption)).size)))
                        clear hb7
                        (have HSL0 := Lib.hid (fun h => set_lt (ts := ts) (l := l) (a := ((y : Nat) : Int)) h))
                        (generalize hss : setRes ts l ((y : Nat) : Int) = s at *)
                        (have HSS := Lib.hid hss)
                        (have HSL := HSL0)
                        clear hss HSL0
                        go_simp
                        refine hK.out _ _ ?_ (fun hHeld => ?_)
                        · exact ⟨belC BX7.out c0 hgl, belC BX7.out c1 hgl, belC BX7.out d2 hb2z, BX7.out⟩
                        clear hK K
                        (try simp only [Act.put, List.setIfInBounds_toArray, List.set_cons_zero, List.set_cons_succ])
                        refine wpAnyH_take (i := 6) (oi := ⟨some 21, _, _, _, _, _⟩) (v := ?_) rfl (by kernel_rfl) (by kernel_rfl) (by kernel_rfl) (fun _ _ _ h => h) (Or.inl ⟨by rfl, fun w' hSw => ?_⟩) (by assumption) ?_
                        rotate_left
                        · (try dsimp only at hSw); go_simp; (try with_reducible rfl)
                        (try simp only [Act.put, List.setIfInBounds_toArray, List.set_cons_zero, List.set_cons_succ])
                        refine wpAnyH_done (by kernel_rfl) ?_ _
                        have hrow := HR.out.low BX7.out HR.out.lt
                        have hBK := HBZ.out.trans (BX7.out.mono HBZ.out.size)
                        by_cases hs0 : 0 ≤ s
                        · have hs1 : decide (s ≥ 0) = true := by simpa using hs0
                          have hsl := HSL.out hs0
                          obtain ⟨x, rfl⟩ : ∃ x : Nat, s = x := ⟨s.toNat, by omega⟩
                          have HNN := Lib.hid (HSTEP.out (cur.set x kv) P kv HPY.out HN.out (fun u hu => by
                            rw [getD_set_i _ _ _ _ (by omega), HU.out.done u hu]
                            by_cases e : u = x
                            · subst e; rw [if_pos rfl, if_pos rfl]
                            · rw [if_neg e, if_neg (show ¬ ((x : Nat) : Int) = ((u : Nat) : Int) by omega)]))
                          have hcv : w7.cell? ⟨rs, x, none⟩ = some (.int .i64 (cur.getD x 0)) := by rw [hrow.cell, xv_get (by omega)]
                          have hfz := hrow.frozen x
                          have HRW := Lib.hid (hrow.set_ x (.int .i64 kv))
                          have HBK := Lib.hid (hBK.setCell (p := ⟨rs, x, none⟩) (by show w8.heap.size ≤ rs; rw [HRS.out]; exact Nat.le_refl _) (.int .i64 kv))
                          clear hrow hBK hs0
                          go_wp2_with (at_builtin; fail)
                          go_roundg (r.length - j)
                          case measure => omega
                          case rel => exact ⟨j + 1, cur.set x kv, by omega, by omega, by go_num, by simp; omega, HNN.out, by rw [← xv_set]; exact HRW.out, HBK.out⟩
                        · have hs1 : decide (s ≥ 0) = false := by simpa using hs0
                          have HNN := Lib.hid (HSTEP.out cur P kv HPY.out HN.out (fun u hu => by
                            rw [HU.out.done u hu, if_neg (show ¬ s = ((u : Nat) : Int) by omega)]))
                          have HRW := Lib.hid hrow
                          have HBK := Lib.hid hBK
                          clear hrow hBK hs0
                          go_wp2_with (at_builtin; fail)
                          go_roundg (r.length - j)
                          case measure => omega
                          case rel => exact ⟨j + 1, cur, by omega, by omega, by go_num, by omega, HNN.out, HRW.out, HBK.out⟩
                  · by_cases ho4 : P.op = 4 ∨ P.op = 5
                    · have HO := Lib.hid ho4
                      rcases ho4 with ho | ho
                      all_goals
                        rw [ho] at x0
                        clear ho ho3
                        go_wp2_with (at_builtin; fail)
                        go_loopw [20] (fun i wr => ∃ (v : Nat) (cur : List Int), v ≤ ts.length ∧ i = .int .i64 v ∧ UpK ts l y K v cur ∧ RowB wr rs 3 (xv cur) ∧ Below w8.heap.size w8 wr) (fun i _ => ts.length - (intOf i).toNat)
                        case atStart => exact ⟨0, K, Nat.zero_le _, rfl, UpK.zero _ _ _ _, HRB.out, HBB.out⟩
                        case round =>
                          obtain ⟨v, cur, hv, rfl, hU, hR, hbw⟩ := hrel
                          have HU := Lib.hid hU
                          have HR := Lib.hid hR
                          have HBZ := Lib.hid hbw
                          have HPZ := Lib.hid (HP8.out.bels hbw)
                          have hcl := hU.1
                          clear hU hR c0 c1 d2
                          have c0 := HPZ.out.c0
                          have c1 := HPZ.out.c1
                          have hgl := HPZ.out.lt
                          have d2 := (hbw.cell (p := ⟨b2, o2 + j, none⟩) hb2).trans HDK.out
                          have hsz9 := hbw.size
                          have hb2z : b2 < wr.heap.size := by omega
                          have BEL : Hid (∀ w', w'.cell? ⟨g, 0, none⟩ = some (.slice At ts.length ct) ∧ w'.cell? ⟨g, 1, none⟩ = some (.slice Ab l.length cb) ∧ w'.cell? ⟨b2, o2 + j, none⟩ = some (.int .i64 (y : Nat)) ∧ Below wr.heap.size wr w' → Below wr.heap.size wr w') := Lib.hid fun _ h => h.2.2.2
                          clear hbw
                          by_cases hvl : v < ts.length
                          · go_wp2_with (at_builtin; fail)
                            refine wp_region_held_drew (S := (fun w' => w'.cell? ⟨g, 0, none⟩ = some (.slice At ts.length ct) ∧ w'.cell? ⟨g, 1, none⟩ = some (.slice Ab l.length cb) ∧ w'.cell? ⟨b2, o2 + j, none⟩ = some (.int .i64 (y : Nat)) ∧ Below wr.heap.size wr w')) (by kernel_rfl) ?_ (fun hHeld => ?_)
                            · exact ⟨c0, c1, d2, (Below.refl _ _).drew⟩
                            refine wpAnyH_take (i := 0) (oi := ⟨some 136, _, _, _, _, _⟩) (v := ?_) rfl (by kernel_rfl) (by kernel_rfl) (by kernel_rfl) (fun _ _ _ h => h) (Or.inl ⟨by rfl, fun w' hSw => ?_⟩) (by assumption) ?_
                            rotate_left
                            · (try dsimp only at hSw); go_simp; (try with_reducible rfl)
                            (try simp only [Act.put, List.setIfInBounds_toArray, List.set_cons_zero, List.set_cons_succ])
                            refine wpAnyH_take (i := 1) (oi := ⟨some 137, _, _, _, _, _⟩) (v := ?_) rfl (by kernel_rfl) (by kernel_rfl) (by kernel_rfl) (fun _ _ _ h => h) (Or.inl ⟨by rfl, fun w' hSw => ?_⟩) (by assumption) ?_
                            rotate_left
                            · (try dsimp only at hSw); go_simp; (try with_reducible rfl)
                            (try simp only [Act.put, List.setIfInBounds_toArray, List.set_cons_zero, List.set_cons_succ])
                            refine wpAnyH_take (i := 2) (oi := ⟨some 138, _, _, _, _, _⟩) (v := ?_) rfl (by kernel_rfl) (by kernel_rfl) (by kernel_rfl) (fun _ _ _ h => h) (Or.inl ⟨by rfl, fun w' hSw => ?_⟩) (by assumption) ?_
                            rotate_left
                            · (try dsimp only at hSw); go_simp; (try with_reducible rfl)
                            (try simp only [Act.put, List.setIfInBounds_toArray, List.set_cons_zero, List.set_cons_succ])
                            refine wpAnyH_take (i := 3) (oi := ⟨some 139, _, _, _, _, _⟩) (v := ?_) rfl (by kernel_rfl) (by kernel_rfl) (by kernel_rfl) (fun _ _ _ h => h) (Or.inl ⟨by rfl, fun w' hSw => ?_⟩) (by assumption) ?_
                            rotate_left
                            · (try dsimp only at hSw); go_simp; (try with_reducible rfl)
                            (try simp only [Act.put, List.setIfInBounds_toArray, List.set_cons_zero, List.set_cons_succ])
                            refine wpAnyH_take (i := 4) (oi := ⟨some 140, _, _, _, _, _⟩) (v := ?_) rfl (by kernel_rfl) (by kernel_rfl) (by kernel_rfl) (fun _ _ _ h => h) (Or.inl ⟨by rfl, fun w' hSw => ?_⟩) (by assumption) ?_
                            rotate_left
                            · (try dsimp only at hSw); go_simp; (try with_reducible rfl)
                            (try simp only [Act.put, List.setIfInBounds_toArray, List.set_cons_zero, List.set_cons_succ])
                            refine wpAnyH_take (i := 5) (oi := ⟨some 141, _, _, _, _, _⟩) (v := ?_) rfl (by kernel_rfl) (by kernel_rfl) (by kernel_rfl) (fun _ _ _ h => h) (Or.inl ⟨by rfl, fun w' hSw => ?_⟩) (by assumption) ?_
                            rotate_left
                            · (try dsimp only at hSw); go_simp; (try with_reducible rfl)
                            (try simp only [Act.put, List.setIfInBounds_toArray, List.set_cons_zero, List.set_cons_succ])
                            refine wpAnyH_ready (rs := [6]) (by kernel_rfl) (by simp) ?_
                            refine AllReadyH.cons (o := ⟨some 142, _, _, _, _, _⟩) rfl (fun K hK => ?_) AllReadyH.nil
                            go_simp
                            (refine (iUseOf_any (.slice At ts.length ct) (.slice Ab l.length cb) ts l (y : Nat) (v : Nat) _ _ (HPZ.out.ht.low (BEL.out _ (by assumption)) (Nat.le_refl _)) (HPZ.out.hl.low (BEL.out _ (by assumption)) (Nat.le_refl _)) (BEL.out _ (by assumption)).size (by omega)).mono ?_)
                            (rintro e w7 ⟨rfl, hb7⟩)
                            (have BX7 := Lib.hid ((BEL.out _ (by assumption)).trans (hb7.mono (BEL.out _ (by assumption)).size)))
                            clear hb7
                            (generalize hus : useRes ts l ((y : Nat) : Int) ((v : Nat) : Int) = u)
                            (have HUS := Lib.hid hus)
                            clear hus
                            go_simp
                            refine hK.out _ _ ?_ (fun hHeld => ?_)
                            · exact ⟨belC BX7.out c0 hgl, belC BX7.out c1 hgl, belC BX7.out d2 hb2z, BX7.out⟩
                            clear hK K
                            (try simp only [Act.put, List.setIfInBounds_toArray, List.set_cons_zero, List.set_cons_succ])
                            refine wpAnyH_take (i := 7) (oi := ⟨some 143, _, _, _, _, _⟩) (v := ?_) rfl (by kernel_rfl) (by kernel_rfl) (by kernel_rfl) (fun _ _ _ h => h) (Or.inl ⟨by rfl, fun w' hSw => ?_⟩) (by assumption) ?_
                            rotate_left
                            · (try dsimp only at hSw); go_simp; (try with_reducible rfl)
                            (try simp only [Act.put, List.setIfInBounds_toArray, List.set_cons_zero, List.set_cons_succ])
                            refine wpAnyH_done (by kernel_rfl) ?_ _
                            have hrow := HR.out.low BX7.out HR.out.lt
                            have hBK := HBZ.out.trans (BX7.out.mono HBZ.out.size)
                            by_cases hu : u = 2
                            · have HUT := Lib.hid (HU.out.take (by omega) (HUS.out.trans hu))
                              have hu1 : (u == 2) = true := by simpa using hu
                              have hcv : w7.cell? ⟨rs, v, none⟩ = some (.int .i64 (cur.getD v 0)) := by rw [hrow.cell, xv_get (by omega)]
                              have hfz := hrow.frozen v
                              have HRW := Lib.hid (hrow.set_ v (.int .i64 (-1)))
                              have HBK := Lib.hid (hBK.setCell (p := ⟨rs, v, none⟩) (by show w8.heap.size ≤ rs; rw [HRS.out]; exact Nat.le_refl _) (.int .i64 (-1)))
                              clear hrow hBK hu
                              go_wp2_with (at_builtin; fail)
                              exact ⟨⟨v + 1, _, by omega, by go_num, HUT.out, by rw [← xv_set]; exact HRW.out, HBK.out⟩, by simp [intOf] <;> omega⟩
                            · have HUT := Lib.hid (HU.out.keep (by rw [HUS.out]; exact hu))
                              have hu1 : (u == 2) = false := by simpa using hu
                              have HRW := Lib.hid hrow
                              have HBK := Lib.hid hBK
                              clear hrow hBK hu
                              go_wp2_with (at_builtin; fail)
                              exact ⟨⟨v + 1, _, by omega, by go_num, HUT.out, HRW.out, HBK.out⟩, by simp [intOf] <;> omega⟩
                          · obtain rfl : v = ts.length := by omega
                            go_wp2_with (at_builtin; fail)
                            refine wp_region_held_drew (S := (fun w' => w'.cell? ⟨g, 0, none⟩ = some (.slice At ts.length ct) ∧ w'.cell? ⟨g, 1, none⟩ = some (.slice Ab l.length cb) ∧ w'.cell? ⟨b2, o2 + j, none⟩ = some (.int .i64 (y : Nat)) ∧ Below wr.heap.size wr w')) (by kernel_rfl) ?_ (fun hHeld => ?_)
                            · exact ⟨c0, c1, d2, (Below.refl _ _).drew⟩
                            refine wpAnyH_take (i := 0) (oi := ⟨some 147, _, _, _, _, _⟩) (v := ?_) rfl (by kernel_rfl) (by kernel_rfl) (by kernel_rfl) (fun _ _ _ h => h) (Or.inl ⟨by rfl, fun w' hSw => ?_⟩) (by assumption) ?_
                            rotate_left
                            · (try dsimp only at hSw); go_simp; (try with_reducible rfl)
                            (try simp only [Act.put, List.setIfInBounds_toArray, List.set_cons_zero, List.set_cons_succ])
                            refine wpAnyH_take (i := 1) (oi := ⟨some 148, _, _, _, _, _⟩) (v := ?_) rfl (by kernel_rfl) (by kernel_rfl) (by kernel_rfl) (fun _ _ _ h => h) (Or.inl ⟨by rfl, fun w' hSw => ?_⟩) (by assumption) ?_
                            rotate_left
                            · (try dsimp only at hSw); go_simp; (try with_reducible rfl)
                            (try simp only [Act.put, List.setIfInBounds_toArray, List.set_cons_zero, List.set_cons_succ])
                            refine wpAnyH_take (i := 2) (oi := ⟨some 149, _, _, _, _, _⟩) (v := ?_) rfl (by kernel_rfl) (by kernel_rfl) (by kernel_rfl) (fun _ _ _ h => h) (Or.inl ⟨by rfl, fun w' hSw => ?_⟩) (by assumption) ?_
                            rotate_left
                            · (try dsimp only at hSw); go_simp; (try with_reducible rfl)
                            (try simp only [Act.put, List.setIfInBounds_toArray, List.set_cons_zero, List.set_cons_succ])
                            refine wpAnyH_take (i := 3) (oi := ⟨some 150, _, _, _, _, _⟩) (v := ?_) rfl (by kernel_rfl) (by kernel_rfl) (by kernel_rfl) (fun _ _ _ h => h) (Or.inl ⟨by rfl, fun w' hSw => ?_⟩) (by assumption) ?_
                            rotate_left
                            · (try dsimp only at hSw); go_simp; (try with_reducible rfl)
                            (try simp only [Act.put, List.setIfInBounds_toArray, List.set_cons_zero, List.set_cons_succ])
                            refine wpAnyH_take (i := 4) (oi := ⟨some 151, _, _, _, _, _⟩) (v := ?_) rfl (by kernel_rfl) (by kernel_rfl) (by kernel_rfl) (fun _ _ _ h => h) (Or.inl ⟨by rfl, fun w' hSw => ?_⟩) (by assumption) ?_
                            rotate_left
                            · (try dsimp only at hSw); go_simp; (try with_reducible rfl)
                            (try simp only [Act.put, List.setIfInBounds_toArray, List.set_cons_zero, List.set_cons_succ])
                            refine wpAnyH_ready (rs := [5]) (by kernel_rfl) (by simp) ?_
                            refine AllReadyH.cons (o := ⟨some 152, _, _, _, _, _⟩) rfl (fun K hK => ?_) AllReadyH.nil
                            go_simp
                            (refine (iSetBy_any (.slice At ts.length ct) (.slice Ab l.length cb) ts l (y : Nat) _ _ (HPZ.out.ht.low (BEL.out _ (by assumption)) (Nat.le_refl _)) (HPZ.out.hl.low (BEL.out _ (by assumption)) (Nat.le_refl _)) (BEL.out _ (by assumption)).size (by omega)).mono ?_)
                            (rintro e w7 ⟨rfl, hb7⟩)
                            (have BX7 := Lib.hid ((BEL.out _ (by assumption)).trans (hb7.mono (BEL.out _ (by assumption)).size)))
                            clear hb7
                            (have HSL0 := Lib.hid (fun h => set_lt (ts := ts) (l := l) (a := ((y : Nat) : Int)) h))
                            (generalize hss : setRes ts l ((y : Nat) : Int) = s at *)
                            (have HSS := Lib.hid hss)
                            (have HSL := HSL0)
                            clear hss HSL0
                            go_simp
                            refine hK.out _ _ ?_ (fun hHeld => ?_)
                            · exact ⟨belC BX7.out c0 hgl, belC BX7.out c1 hgl, belC BX7.out d2 hb2z, BX7.out⟩
                            clear hK K
                            (try simp only [Act.put, List.setIfInBounds_toArray, List.set_cons_zero, List.set_cons_succ])
                            refine wpAnyH_take (i := 6) (oi := ⟨some 21, _, _, _, _, _⟩) (v := ?_) rfl (by kernel_rfl) (by kernel_rfl) (by kernel_rfl) (fun _ _ _ h => h) (Or.inl ⟨by rfl, fun w' hSw => ?_⟩) (by assumption) ?_
                            rotate_left
                            · (try dsimp only at hSw); go_simp; (try with_reducible rfl)
                            (try simp only [Act.put, List.setIfInBounds_toArray, List.set_cons_zero, List.set_cons_succ])
                            refine wpAnyH_done (by kernel_rfl) ?_ _
                            have hrow := HR.out.low BX7.out HR.out.lt
                            have hBK := HBZ.out.trans (BX7.out.mono HBZ.out.size)
                            by_cases hs0 : 0 ≤ s
                            · have hs1 : decide (s ≥ 0) = true := by simpa using hs0
                              have hsl := HSL.out hs0
                              obtain ⟨x, rfl⟩ : ∃ x : Nat, s = x := ⟨s.toNat, by omega⟩
                              have HNN := Lib.hid (HSTEP.out (cur.set x ((y : Nat) : Int)) P ((y : Nat) : Int) HPY.out (fun _ => .inl ⟨HO.out, rfl⟩) (fun u hu => by
                                rw [getD_set_i _ _ _ _ (by omega), HU.out.done u hu]
                                by_cases e : u = x
                                · subst e; rw [if_pos rfl, if_pos rfl]
                                · rw [if_neg e, if_neg (show ¬ ((x : Nat) : Int) = ((u : Nat) : Int) by omega)]))
                              have hcv : w7.cell? ⟨rs, x, none⟩ = some (.int .i64 (cur.getD x 0)) := by rw [hrow.cell, xv_get (by omega)]
                              have hfz := hrow.frozen x
                              have HRW := Lib.hid (hrow.set_ x (.int .i64 ((y : Nat) : Int)))
                              have HBK := Lib.hid (hBK.setCell (p := ⟨rs, x, none⟩) (by show w8.heap.size ≤ rs; rw [HRS.out]; exact Nat.le_refl _) (.int .i64 ((y : Nat) : Int)))
                              clear hrow hBK hs0
                              go_wp2_with (at_builtin; fail)
                              go_roundg (r.length - j)
                              case measure => omega
                              case rel => exact ⟨j + 1, cur.set x ((y : Nat) : Int), by omega, by omega, by go_num, by simp; omega, HNN.out, by rw [← xv_set]; exact HRW.out, HBK.out⟩
                            · have hs1 : decide (s ≥ 0) = false := by simpa using hs0
                              have HNN := Lib.hid (HSTEP.out cur P ((y : Nat) : Int) HPY.out (fun _ => .inl ⟨HO.out, rfl⟩) (fun u hu => by
                                rw [HU.out.done u hu, if_neg (show ¬ s = ((u : Nat) : Int) by omega)]))
                              have HRW := Lib.hid hrow
                              have HBK := Lib.hid hBK
                              clear hrow hBK hs0
                              go_wp2_with (at_builtin; fail)
                              go_roundg (r.length - j)
                              case measure => omega
                              case rel => exact ⟨j + 1, cur, by omega, by omega, by go_num, by omega, HNN.out, HRW.out, HBK.out⟩
                    · have h3 : (P.op == 3) = false := by simpa using ho3
                      have h4 : (P.op == 4) = false := by simp; omega
                      have h5 : (P.op == 5) = false := by simp; omega
                      clear ho3 ho4
                      go_wp2_with (at_builtin; fail)
                      go_loopw [20] (fun i wr => ∃ (v : Nat) (cur : List Int), v ≤ ts.length ∧ i = .int .i64 v ∧ UpK ts l y K v cur ∧ RowB wr rs 3 (xv cur) ∧ Below w8.heap.size w8 wr) (fun i _ => ts.length - (intOf i).toNat)
                      case atStart => exact ⟨0, K, Nat.zero_le _, rfl, UpK.zero _ _ _ _, HRB.out, HBB.out⟩
                      case round =>
                        obtain ⟨v, cur, hv, rfl, hU, hR, hbw⟩ := hrel
                        have HU := Lib.hid hU
                        have HR := Lib.hid hR
                        have HBZ := Lib.hid hbw
                        have HPZ := Lib.hid (HP8.out.bels hbw)
                        have hcl := hU.1
                        clear hU hR c0 c1 d2
                        have c0 := HPZ.out.c0
                        have c1 := HPZ.out.c1
                        have hgl := HPZ.out.lt
                        have d2 := (hbw.cell (p := ⟨b2, o2 + j, none⟩) hb2).trans HDK.out
                        have hsz9 := hbw.size
                        have hb2z : b2 < wr.heap.size := by omega
                        have BEL : Hid (∀ w', w'.cell? ⟨g, 0, none⟩ = some (.slice At ts.length ct) ∧ w'.cell? ⟨g, 1, none⟩ = some (.slice Ab l.length cb) ∧ w'.cell? ⟨b2, o2 + j, none⟩ = some (.int .i64 (y : Nat)) ∧ Below wr.heap.size wr w' → Below wr.heap.size wr w') := Lib.hid fun _ h => h.2.2.2
                        clear hbw
                        by_cases hvl : v < ts.length
                        · go_wp2_with (at_builtin; fail)
                          refine wp_region_held_drew (S := (fun w' => w'.cell? ⟨g, 0, none⟩ = some (.slice At ts.length ct) ∧ w'.cell? ⟨g, 1, none⟩ = some (.slice Ab l.length cb) ∧ w'.cell? ⟨b2, o2 + j, none⟩ = some (.int .i64 (y : Nat)) ∧ Below wr.heap.size wr w')) (by kernel_rfl) ?_ (fun hHeld => ?_)
                          · exact ⟨c0, c1, d2, (Below.refl _ _).drew⟩
                          refine wpAnyH_take (i := 0) (oi := ⟨some 136, _, _, _, _, _⟩) (v := ?_) rfl (by kernel_rfl) (by kernel_rfl) (by kernel_rfl) (fun _ _ _ h => h) (Or.inl ⟨by rfl, fun w' hSw => ?_⟩) (by assumption) ?_
                          rotate_left
                          · (try dsimp only at hSw); go_simp; (try with_reducible rfl)
                          (try simp only [Act.put, List.setIfInBounds_toArray, List.set_cons_zero, List.set_cons_succ])
                          refine wpAnyH_take (i := 1) (oi := ⟨some 137, _, _, _, _, _⟩) (v := ?_) rfl (by kernel_rfl) (by kernel_rfl) (by kernel_rfl) (fun _ _ _ h => h) (Or.inl ⟨by rfl, fun w' hSw => ?_⟩) (by assumption) ?_
                          rotate_left
                          · (try dsimp only at hSw); go_simp; (try with_reducible rfl)
                          (try simp only [Act.put, List.setIfInBounds_toArray, List.set_cons_zero, List.set_cons_succ])
                          refine wpAnyH_take (i := 2) (oi := ⟨some 138, _, _, _, _, _⟩) (v := ?_) rfl (by kernel_rfl) (by kernel_rfl) (by kernel_rfl) (fun _ _ _ h => h) (Or.inl ⟨by rfl, fun w' hSw => ?_⟩) (by assumption) ?_
                          rotate_left
                          · (try dsimp only at hSw); go_simp; (try with_reducible rfl)
                          (try simp only [Act.put, List.setIfInBounds_toArray, List.set_cons_zero, List.set_cons_succ])
                          refine wpAnyH_take (i := 3) (oi := ⟨some 139, _, _, _, _, _⟩) (v := ?_) rfl (by kernel_rfl) (by kernel_rfl) (by kernel_rfl) (fun _ _ _ h => h) (Or.inl ⟨by rfl, fun w' hSw => ?_⟩) (by assumption) ?_
                          rotate_left
                          · (try dsimp only at hSw); go_simp; (try with_reducible rfl)
                          (try simp only [Act.put, List.setIfInBounds_toArray, List.set_cons_zero, List.set_cons_succ])
                          refine wpAnyH_take (i := 4) (oi := ⟨some 140, _, _, _, _, _⟩) (v := ?_) rfl (by kernel_rfl) (by kernel_rfl) (by kernel_rfl) (fun _ _ _ h => h) (Or.inl ⟨by rfl, fun w' hSw => ?_⟩) (by assumption) ?_
                          rotate_left
                          · (try dsimp only at hSw); go_simp; (try with_reducible rfl)
                          (try simp only [Act.put, List.setIfInBounds_toArray, List.set_cons_zero, List.set_cons_succ])
                          refine wpAnyH_take (i := 5) (oi := ⟨some 141, _, _, _, _, _⟩) (v := ?_) rfl (by kernel_rfl) (by kernel_rfl) (by kernel_rfl) (fun _ _ _ h => h) (Or.inl ⟨by rfl, fun w' hSw => ?_⟩) (by assumption) ?_
                          rotate_left
                          · (try dsimp only at hSw); go_simp; (try with_reducible rfl)
                          (try simp only [Act.put, List.setIfInBounds_toArray, List.set_cons_zero, List.set_cons_succ])
                          refine wpAnyH_ready (rs := [6]) (by kernel_rfl) (by simp) ?_
                          refine AllReadyH.cons (o := ⟨some 142, _, _, _, _, _⟩) rfl (fun K hK => ?_) AllReadyH.nil
                          go_simp
                          (refine (iUseOf_any (.slice At ts.length ct) (.slice Ab l.length cb) ts l (y : Nat) (v : Nat) _ _ (HPZ.out.ht.low (BEL.out _ (by assumption)) (Nat.le_refl _)) (HPZ.out.hl.low (BEL.out _ (by assumption)) (Nat.le_refl _)) (BEL.out _ (by assumption)).size (by omega)).mono ?_)
                          (rintro e w7 ⟨rfl, hb7⟩)
                          (have BX7 := Lib.hid ((BEL.out _ (by assumption)).trans (hb7.mono (BEL.out _ (by assumption)).size)))
                          clear hb7
                          (generalize hus : useRes ts l ((y : Nat) : Int) ((v : Nat) : Int) = u)
                          (have HUS := Lib.hid hus)
                          clear hus
                          go_simp
                          refine hK.out _ _ ?_ (fun hHeld => ?_)
                          · exact ⟨belC BX7.out c0 hgl, belC BX7.out c1 hgl, belC BX7.out d2 hb2z, BX7.out⟩
                          clear hK K
                          (try simp only [Act.put, List.setIfInBounds_toArray, List.set_cons_zero, List.set_cons_succ])
                          refine wpAnyH_take (i := 7) (oi := ⟨some 143, _, _, _, _, _⟩) (v := ?_) rfl (by kernel_rfl) (by kernel_rfl) (by kernel_rfl) (fun _ _ _ h => h) (Or.inl ⟨by rfl, fun w' hSw => ?_⟩) (by assumption) ?_
                          rotate_left
                          · (try dsimp only at hSw); go_simp; (try with_reducible rfl)
                          (try simp only [Act.put, List.setIfInBounds_toArray, List.set_cons_zero, List.set_cons_succ])
                          refine wpAnyH_done (by kernel_rfl) ?_ _
                          have hrow := HR.out.low BX7.out HR.out.lt
                          have hBK := HBZ.out.trans (BX7.out.mono HBZ.out.size)
                          by_cases hu : u = 2
                          · have HUT := Lib.hid (HU.out.take (by omega) (HUS.out.trans hu))
                            have hu1 : (u == 2) = true := by simpa using hu
                            have hcv : w7.cell? ⟨rs, v, none⟩ = some (.int .i64 (cur.getD v 0)) := by rw [hrow.cell, xv_get (by omega)]
                            have hfz := hrow.frozen v
                            have HRW := Lib.hid (hrow.set_ v (.int .i64 (-1)))
                            have HBK := Lib.hid (hBK.setCell (p := ⟨rs, v, none⟩) (by show w8.heap.size ≤ rs; rw [HRS.out]; exact Nat.le_refl _) (.int .i64 (-1)))
                            clear hrow hBK hu
                            go_wp2_with (at_builtin; fail)
                            exact ⟨⟨v + 1, _, by omega, by go_num, HUT.out, by rw [← xv_set]; exact HRW.out, HBK.out⟩, by simp [intOf] <;> omega⟩
                          · have HUT := Lib.hid (HU.out.keep (by rw [HUS.out]; exact hu))
                            have hu1 : (u == 2) = false := by simpa using hu
                            have HRW := Lib.hid hrow
                            have HBK := Lib.hid hBK
                            clear hrow hBK hu
                            go_wp2_with (at_builtin; fail)
                            exact ⟨⟨v + 1, _, by omega, by go_num, HUT.out, HRW.out, HBK.out⟩, by simp [intOf] <;> omega⟩
                        · obtain rfl : v = ts.length := by omega
                          go_wp2_with (at_builtin; fail)
                          refine wp_region_held_drew (S := (fun w' => w'.cell? ⟨g, 0, none⟩ = some (.slice At ts.length ct) ∧ w'.cell? ⟨g, 1, none⟩ = some (.slice Ab l.length cb) ∧ w'.cell? ⟨b2, o2 + j, none⟩ = some (.int .i64 (y : Nat)) ∧ Below wr.heap.size wr w')) (by kernel_rfl) ?_ (fun hHeld => ?_)
                          · exact ⟨c0, c1, d2, (Below.refl _ _).drew⟩
                          refine wpAnyH_take (i := 0) (oi := ⟨some 147, _, _, _, _, _⟩) (v := ?_) rfl (by kernel_rfl) (by kernel_rfl) (by kernel_rfl) (fun _ _ _ h => h) (Or.inl ⟨by rfl, fun w' hSw => ?_⟩) (by assumption) ?_
                          rotate_left
                          · (try dsimp only at hSw); go_simp; (try with_reducible rfl)
                          (try simp only [Act.put, List.setIfInBounds_toArray, List.set_cons_zero, List.set_cons_succ])
                          refine wpAnyH_take (i := 1) (oi := ⟨some 148, _, _, _, _, _⟩) (v := ?_) rfl (by kernel_rfl) (by kernel_rfl) (by kernel_rfl) (fun _ _ _ h => h) (Or.inl ⟨by rfl, fun w' hSw => ?_⟩) (by assumption) ?_
                          rotate_left
                          · (try dsimp only at hSw); go_simp; (try with_reducible rfl)
                          (try simp only [Act.put, List.setIfInBounds_toArray, List.set_cons_zero, List.set_cons_succ])
                          refine wpAnyH_take (i := 2) (oi := ⟨some 149, _, _, _, _, _⟩) (v := ?_) rfl (by kernel_rfl) (by kernel_rfl) (by kernel_rfl) (fun _ _ _ h => h) (Or.inl ⟨by rfl, fun w' hSw => ?_⟩) (by assumption) ?_
                          rotate_left
                          · (try dsimp only at hSw); go_simp; (try with_reducible rfl)
                          (try simp only [Act.put, List.setIfInBounds_toArray, List.set_cons_zero, List.set_cons_succ])
                          refine wpAnyH_take (i := 3) (oi := ⟨some 150, _, _, _, _, _⟩) (v := ?_) rfl (by kernel_rfl) (by kernel_rfl) (by kernel_rfl) (fun _ _ _ h => h) (Or.inl ⟨by rfl, fun w' hSw => ?_⟩) (by assumption) ?_
                          rotate_left
                          · (try dsimp only at hSw); go_simp; (try with_reducible rfl)
                          (try simp only [Act.put, List.setIfInBounds_toArray, List.set_cons_zero, List.set_cons_succ])
                          refine wpAnyH_take (i := 4) (oi := ⟨some 151, _, _, _, _, _⟩) (v := ?_) rfl (by kernel_rfl) (by kernel_rfl) (by kernel_rfl) (fun _ _ _ h => h) (Or.inl ⟨by rfl, fun w' hSw => ?_⟩) (by assumption) ?_
                          rotate_left
                          · (try dsimp only at hSw); go_simp; (try with_reducible rfl)
                          (try simp only [Act.put, List.setIfInBounds_toArray, List.set_cons_zero, List.set_cons_succ])
                          refine wpAnyH_ready (rs := [5]) (by kernel_rfl) (by simp) ?_
                          refine AllReadyH.cons (o := ⟨some 152, _, _, _, _, _⟩) rfl (fun K hK => ?_) AllReadyH.nil
                          go_simp
                          (refine (iSetBy_any (.slice At ts.length ct) (.slice Ab l.length cb) ts l (y : Nat) _ _ (HPZ.out.ht.low (BEL.out _ (by assumption)) (Nat.le_refl _)) (HPZ.out.hl.low (BEL.out _ (by assumption)) (Nat.le_refl _)) (BEL.out _ (by assumption)).size (by omega)).mono ?_)
                          (rintro e w7 ⟨rfl, hb7⟩)
                          (have BX7 := Lib.hid ((BEL.out _ (by assumption)).trans (hb7.mono (BEL.out _ (by assumption)).size)))
                          clear hb7
                          (have HSL0 := Lib.hid (fun h => set_lt (ts := ts) (l := l) (a := ((y : Nat) : Int)) h))
                          (generalize hss : setRes ts l ((y : Nat) : Int) = s at *)
                          (have HSS := Lib.hid hss)
                          (have HSL := HSL0)
                          clear hss HSL0
                          go_simp
                          refine hK.out _ _ ?_ (fun hHeld => ?_)
                          · exact ⟨belC BX7.out c0 hgl, belC BX7.out c1 hgl, belC BX7.out d2 hb2z, BX7.out⟩
                          clear hK K
                          (try simp only [Act.put, List.setIfInBounds_toArray, List.set_cons_zero, List.set_cons_succ])
                          refine wpAnyH_take (i := 6) (oi := ⟨some 21, _, _, _, _, _⟩) (v := ?_) rfl (by kernel_rfl) (by kernel_rfl) (by kernel_rfl) (fun _ _ _ h => h) (Or.inl ⟨by rfl, fun w' hSw => ?_⟩) (by assumption) ?_
                          rotate_left
                          · (try dsimp only at hSw); go_simp; (try with_reducible rfl)
                          (try simp only [Act.put, List.setIfInBounds_toArray, List.set_cons_zero, List.set_cons_succ])
                          refine wpAnyH_done (by kernel_rfl) ?_ _
                          have hrow := HR.out.low BX7.out HR.out.lt
                          have hBK := HBZ.out.trans (BX7.out.mono HBZ.out.size)
                          by_cases hs0 : 0 ≤ s
                          · have hs1 : decide (s ≥ 0) = true := by simpa using hs0
                            have hsl := HSL.out hs0
                            obtain ⟨x, rfl⟩ : ∃ x : Nat, s = x := ⟨s.toNat, by omega⟩
                            have HNN := Lib.hid (HSTEP.out (cur.set x (-1)) P (-1) HPY.out (fun h => by omega) (fun u hu => by
                              rw [getD_set_i _ _ _ _ (by omega), HU.out.done u hu]
                              by_cases e : u = x
                              · subst e; rw [if_pos rfl, if_pos rfl]
                              · rw [if_neg e, if_neg (show ¬ ((x : Nat) : Int) = ((u : Nat) : Int) by omega)]))
                            have hcv : w7.cell? ⟨rs, x, none⟩ = some (.int .i64 (cur.getD x 0)) := by rw [hrow.cell, xv_get (by omega)]
                            have hfz := hrow.frozen x
                            have HRW := Lib.hid (hrow.set_ x (.int .i64 (-1)))
                            have HBK := Lib.hid (hBK.setCell (p := ⟨rs, x, none⟩) (by show w8.heap.size ≤ rs; rw [HRS.out]; exact Nat.le_refl _) (.int .i64 (-1)))
                            clear hrow hBK hs0
                            go_wp2_with (at_builtin; fail)
                            go_roundg (r.length - j)
                            case measure => omega
                            case rel => exact ⟨j + 1, cur.set x (-1), by omega, by omega, by go_num, by simp; omega, HNN.out, by rw [← xv_set]; exact HRW.out, HBK.out⟩
                          · have hs1 : decide (s ≥ 0) = false := by simpa using hs0
                            have HNN := Lib.hid (HSTEP.out cur P (-1) HPY.out (fun h => by omega) (fun u hu => by
                              rw [HU.out.done u hu, if_neg (show ¬ s = ((u : Nat) : Int) by omega)]))
                            have HRW := Lib.hid hrow
                            have HBK := Lib.hid hBK
                            clear hrow hBK hs0
                            go_wp2_with (at_builtin; fail)
                            go_roundg (r.length - j)
                            case measure => omega
                            case rel => exact ⟨j + 1, cur, by omega, by omega, by go_num, by omega, HNN.out, HRW.out, HBK.out⟩
            · go_wp2_with (at_builtin; fail)
              go_ret
              exact ⟨rfl, HPW.out.bel⟩
    · have hn1 : (1048576 : Int) < n' := by omega
      unfold maxLen at hm hm'
      go_enter Try.func14, Try.ntmps14
      go_wp2_with fail
      go_ret
      exact ⟨rfl, Below.refl _ _⟩
  · have hn1 : (1048576 : Int) < n := by omega
    unfold maxLen at hm hm'
    go_enter Try.func14, Try.ntmps14
    go_wp2_with fail
    go_ret
    exact ⟨rfl, Below.refl _ _⟩

end Go.Proofs.Ytmaaaiccmllnlaa
