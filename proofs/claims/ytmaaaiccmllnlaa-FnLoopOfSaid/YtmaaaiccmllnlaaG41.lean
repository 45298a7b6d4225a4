import Derived.Test.YtmaaaiccmllnlaaG40
import Derived.Test.YtmaaaiccmllnlaaG25
import Derived.Test.YtmaaaiccmllnlaaG10
import Derived.Test.YtmaaaiccmllnlaaG12
import Derived.Test.YtmaaaiccmllnlaaG28
import Derived.Test.YtmaaaiccmllnlaaG38
import Derived.Test.YtmaaaiccmllnlaaG26
import Derived.Deep.DeepCutAuto
set_option linter.unusedVariables false

/- FnWiderRegions: the plain law, the walk. -/
namespace Go.Proofs.Ytmaaaiccmllnlaa
open Go.RowKit

theorem wpList_push_wd {ops : Array Oper} {rest : List Oper} {o : Oper} {a : Act} {Q : Exit → Act → World → Prop} {w : World} {base k : Nat} {vo u : Value} (hgd : o.guard = none) (s x : Operand)
    (ho : o.op = .call { callee := .builtin .append, args := #[s, x], argTypes := #[27, 27] })
    (hP : w.ownsRow base 23 1 vo k (List.replicate k u)) (hu1 : u.oneCell' = true) (hb : base ≤ w.heap.size) (hn : k + 1 ≤ 100000)
    (hs : a.eval s = vo) (hx : a.eval x = .slice (some ⟨w.heap.size, 0, none⟩) 1 1)
    (h : ∀ (v' : Value) (w' : World), w'.ownsRow base 23 1 v' (k + 1) (List.replicate (k + 1) u) → Below base w w' → wpList Try.prog ops Q rest (a.put o.dst v') w') :
    wpList Try.prog ops Q (o :: rest) a (w.alloc (.cells #[u] 23)) := by
  obtain ⟨i0, hi0, hz0, hz1, hz2⟩ := info_parts Try.infoIs
  have hA := bel_a w (.cells #[u] 23)
  have hr := heap_alloc_new w (.cells #[u] 23)
  have hown := World.ownsRow.alloc hP (.cells #[u] 23)
  have hsW : (w.alloc (.cells #[u] 23)).heap.size = w.heap.size + 1 := by simp
  generalize w.alloc (.cells #[u] 23) = W at *
  refine wpList_append_own_at _ hgd s x 27 ho base 23 i0 _ 1 24 Try.underlying27 hi0 hz0 hz1 hz2 rfl (by omega) vo k _ hs hown ⟨w.heap.size, 0, none⟩ 1 1 [u] hx rfl ?_ ?_ (by simp only [maxLen]; omega) (by omega) (by omega) ?_
  · intro j u' hu'
    have hj : j = 0 := by
      rcases Nat.eq_zero_or_pos j with h | h
      · exact h
      · rw [List.getElem?_eq_none (by simp; omega)] at hu'; cases hu'
    subst hj
    have : W.cell? ⟨w.heap.size, 0, none⟩ = some u' := by
      rw [cell_of_row _ _ _ _ _ _ hr]
      simpa using hu'
    simpa [Addr.add] using this
  · intro u' hu'
    simp at hu'
    subst hu'; exact hu1
  · intro v' w' k1 k2 k3 k4
    refine h v' w' (by rw [List.replicate_succ']; exact k1) ((hA.mono hb).trans ⟨k2.os, k2.tape, k2.output, k2.size, fun i hi => k2.block i (by omega) fun e => ?_⟩)
    have := (hown.lt i e.symm).1
    omega
/-- rows that are all the same slice -/
theorem wd_rows {w : World} {base k : Nat} {v u : Value} {l : List Int} (h : w.ownsRow base 23 1 v k (List.replicate k u)) (hu : IntS w w.heap.size u l) (hk : k ≤ 100000) : IRw w w.heap.size v (List.replicate k l) := by
  rcases h.2 with ⟨rfl, h0⟩ | ⟨g, cap, cur, rfl, hb, hh, hc1, _, hc2, hc3⟩
  · have hk0 : k = 0 := by have := h.1; have := h0; first | omega | (simp at *; omega)
    subst hk0
    exact ⟨none, 0, fun _ => u, rfl, Nat.le_refl _, by simp, fun h => by simp at h, fun i hi => by simp at hi⟩
  · refine ⟨_, cap, fun _ => u, by rw [List.length_replicate], by rw [List.length_replicate]; exact hc1, by rw [List.length_replicate]; exact hk, fun _ => ⟨g, 0, rfl, row_lt hh, fun i hi => ?_⟩, fun i hi => ?_⟩
    · rw [List.length_replicate] at hi
      rw [Nat.zero_add, cell_of_row _ _ _ _ _ _ hh]
      have : (cur.toList.take (k * 1))[i]? = cur[i]? := by
        rw [List.getElem?_take, if_pos (by omega)]; simp
      rw [← this, hc3]
      simp [hi]
    · rw [List.length_replicate] at hi
      rw [getD_rep _ _ _ _ hi]; exact hu
def wideL (ls : List Ln) : List Int := ls.map fun x => ((x.pt : Nat) : Int)
theorem wideL_take (ls : List Ln) (k : Nat) (h : k < ls.length) : wideL (ls.take (k + 1)) = wideL (ls.take k) ++ [((ls[k].pt : Nat) : Int)] := by
  unfold wideL; rw [take_succ_get ls k h, List.map_append]; rfl
theorem wide_law (ts : List Int) (l : List St) : bhRes ts l (List.replicate ts.length (wideL (lnL (pointsP ts l) (pointsP ts l).length))) = validP ts l := by
  unfold bhRes
  cases hv : validP ts l
  · rfl
  · rw [List.length_replicate, beq_self_eq_true, Bool.true_and, Bool.true_and]
    have hp : pointsP ts l = ptsP l := by unfold pointsP; rw [if_pos hv]
    rw [hp]
    have hok := bds_ok (Good.of_valid hv)
    unfold bndP
    rw [List.all_eq_true]
    intro b hb
    have ho := hok b hb
    rw [getD_rep _ _ _ _ (show b.v.toNat < ts.length by have := ho.v0; have := ho.v1; omega)]
    rcases ho.alt with ⟨h1, h2, h3⟩ | ⟨h1, h2, h3⟩
    · rw [if_pos (by omega), hasP_iff]
      obtain ⟨i, p, hpi, hbi⟩ := bdsL_mem.1 hb
      rw [Nat.zero_add] at hbi
      rcases bdsPt_mem.1 hbi with ⟨hl, rfl⟩ | ⟨-, -, rfl⟩
      · have hi := (List.getElem?_eq_some_iff.1 hpi).1
        have hpd : ptD (ptsP l) i = p := by rw [ptD_get hi]; rw [List.getElem?_eq_getElem hi] at hpi; injection hpi
        unfold wideL
        refine List.mem_map.2 ⟨⟨i, p.op == 5, p.y⟩, ?_, rfl⟩
        unfold lnL
        refine List.mem_map.2 ⟨i, List.mem_filter.2 ⟨List.mem_range.2 hi, ?_⟩, ?_⟩
        · rw [hpd]; exact hl
        · rw [hpd]
      · simp at h2
    · rw [if_neg (by omega), getD_rep _ _ _ _ (show b.src.toNat < ts.length by omega), List.all_eq_true]
      intro x hx
      exact (hasP_iff _ _).2 hx

set_option maxHeartbeats 8000000
set_option maxRecDepth 100000
theorem fnWiderRegions_any (A : Option Addr) (n c : Nat) (w : World) (hb : Byt w w.heap.size A n) (hm : n ≤ maxLen) (hc : n ≤ c) :
    Calls Try.prog 3 #[.slice A n c] w (LawRet w) := by
  have HB := Lib.hid hb
  clear hb
  by_cases hn : n ≤ 1048576
  · go_enter Try.func3, Try.ntmps3
    go_wp2_with fail
    refine (drawBoundsHold_any A n c _ HB.out hn hc).mono ?_
    rintro e w1 ⟨vt, vb, vr, ts, l, rs, rfl, hit, hst, -, hts, hsz, -, -, hb1⟩
    have HP1 := Lib.hid (PgB.new hit hst hb1)
    obtain ⟨At, ct, rfl, hct⟩ := hit.slice
    obtain ⟨Ab, cb, rfl, hcb⟩ := hst.slice
    clear hit hst hb1
    go_wp2_with fail
    generalize w1.alloc (.cells #[.slice At ts.length ct, .slice Ab l.length cb] 26) = W1 at *
    obtain ⟨g, hg⟩ : ∃ g, g = w1.heap.size := ⟨_, rfl⟩
    rw [← hg] at HP1 ⊢
    clear hg
    refine (iLoansOf_any _ _ ts l _ _ HP1.out.ht HP1.out.hl (Nat.le_refl _) (by omega)).mono ?_
    rintro e w2 ⟨v2, rfl, hv2, hb2⟩
    have HV_2 := Lib.hid hv2
    have HP2 := Lib.hid (HP1.out.bels hb2)
    obtain ⟨A2, c2, rfl, hc2⟩ := hv2.slice
    have hlm : (lnL (pointsP ts l) (pointsP ts l).length).length ≤ 100000 := by obtain ⟨_, _, _, _, h, _⟩ := hv2; exact h
    have HWL := Lib.hid (wide_law ts l)
    clear hv2 hb2
    generalize lnL (pointsP ts l) (pointsP ts l).length = ls at *
    go_wp2_with (at_builtin; fail)
    go_loopw [6, 7] (fun v i wr => ∃ k : Nat, k ≤ ls.length ∧ i = .int .i64 k ∧ OInts wr w2.heap.size v (wideL (ls.take k)) ∧ Below w2.heap.size w2 wr) (fun _ i _ => ls.length - (intOf i).toNat)
    case atStart => exact ⟨0, Nat.zero_le _, rfl, OInts.empty w2 _ (Nat.le_refl _), bel_a _ _⟩
    case round =>
      obtain ⟨k, hk, rfl, hO, hbw⟩ := hrel
      have HO := Lib.hid hO
      have HBW := Lib.hid hbw
      have hsw := hbw.size
      have hol : (wideL (ls.take k)).length = k := by simp [wideL]; omega
      obtain ⟨A4, c4, rfl, hc4⟩ := hO.slice
      clear hO
      by_cases hlt : k < ls.length
      · obtain ⟨b, off, rfl, hbl, y0, -, -⟩ := (HV_2.out.bel hbw).get hlt
        have HSU := Lib.hid (wideL_take ls k hlt)
        generalize ls[k] = X at *
        have hwl : (wideL (ls.take k)).length ≤ 100000 := by omega
        generalize wideL (ls.take k) = o at *
        clear hbw hol
        go_wp2_with (at_builtin; go_must (refine wpList_push_int rfl (.tmp 28) (.tmp 34) rfl HO.out (by omega) (by omega) _ rfl rfl ?_); intro v' w' hP' hE')
        exact ⟨⟨k + 1, by omega, by go_num, by rw [HSU.out]; exact hP', HBW.out.trans ((((Evo.alloc w2.heap.size 3 _ _).trans hE').below (by omega)))⟩, by simp [intOf] <;> omega⟩
      · have hkl : k = ls.length := by omega
        have HO2 : Hid (OInts wr w2.heap.size (.slice A4 (wideL (ls.take k)).length c4) (wideL ls)) := Lib.hid (by have h := HO.out; rw [hkl, List.take_length] at h ⊢; exact h)
        have HA := Lib.hid (HO2.out.toS (by simp [wideL]; omega))
        have HP3 := Lib.hid (HP2.out.bels hbw)
        have c0 := HP3.out.c0
        have c1 := HP3.out.c1
        have hkf : decide ((k : Int) < (ls.length : Int)) = false := by simp; omega
        have hlg := HP3.out.lt
        clear HO HO2 hbw hkl hol
        generalize (wideL (ls.take k)).length = na at *
        generalize wideL ls = all at *
        obtain ⟨w3, hw3⟩ : ∃ w3 : World, w3 = wr := ⟨_, rfl⟩
        rw [← hw3] at HP3 HA c0 c1 hlg ⊢
        clear hw3
        have HE0 : Hid ((w3.alloc (.cells #[] 23)).ownsRow w3.heap.size 23 1 (.slice (some ⟨w3.heap.size, 0, none⟩) 0 0) 0 (List.replicate 0 (.slice A4 na c4))) := Lib.hid (World.ownsRow_lit (base := w3.heap.size) (e := 23) (size := 1) w3 #[] 0 (Nat.le_refl _) (by simp [maxLen]) rfl)
        go_wp2_with (at_builtin; fail)
        go_loopw [8, 9] (fun v i wr => ∃ k : Nat, k ≤ ts.length ∧ i = .int .i64 k ∧ wr.ownsRow w3.heap.size 23 1 v k (List.replicate k (.slice A4 na c4)) ∧ Below w3.heap.size w3 wr) (fun _ i _ => ts.length - (intOf i).toNat)
        case atStart => exact ⟨0, Nat.zero_le _, rfl, HE0.out, bel_a _ _⟩
        case round =>
          obtain ⟨k, hk, rfl, hO, hbw⟩ := hrel
          have HO := Lib.hid hO
          have HBW := Lib.hid hbw
          have hsw := hbw.size
          have HPW := Lib.hid (HP3.out.bels hbw)
          clear c0 c1 hbw
          have c0 := HPW.out.c0
          have c1 := HPW.out.c1
          by_cases hlt : k < ts.length
          · clear hO
            go_wp2_with (at_builtin; go_must (refine wpList_push_wd rfl (.tmp 44) (.tmp 46) rfl HO.out rfl (by omega) (by omega) rfl rfl ?_); intro v' w' hP' hE')
            exact ⟨⟨k + 1, by omega, by go_num, hP', HBW.out.trans hE'⟩, by simp [intOf] <;> omega⟩
          · have hkt : k = ts.length := by omega
            have HR := Lib.hid (wd_rows hO (HA.out.bel HBW.out) (by omega))
            rw [hkt] at HR
            have hkf : decide ((k : Int) < (ts.length : Int)) = false := by simp; omega
            clear hO HO hkt
            go_wp2_with (at_builtin; fail)
            refine (iBoundsHold_any _ _ _ ts l _ _ _ HPW.out.ht HPW.out.hl HR.out (Nat.le_refl _) (by omega)).mono ?_
            rintro e w5 ⟨rfl, hb5⟩
            have HP5 := Lib.hid (HPW.out.bels hb5)
            have HR5 := Lib.hid (HR.out.bel hb5)
            clear c0 c1 hb5
            have c0 := HP5.out.c0
            have c1 := HP5.out.c1
            rw [HWL.out]
            go_wp2_with (at_builtin; fail)
            refine (sBoundsHold_any _ _ _ ts l _ _ _ HP5.out.ht HP5.out.hl HR5.out (Nat.le_refl _) (by omega)).mono ?_
            rintro e w6 ⟨rfl, hb6⟩
            have HP6 := Lib.hid (HP5.out.bels hb6)
            clear c0 c1 hb6
            have c0 := HP6.out.c0
            have c1 := HP6.out.c1
            rw [HWL.out]
            have HC7 := Lib.hid (iProgramValid_any _ _ ts l _ _ HP6.out.ht HP6.out.hl (Nat.le_refl _) (by omega))
            generalize validP ts l = q at *
            have hq1 : (q == q) = true := by cases q <;> rfl
            go_wp2_with (at_builtin; fail)
            refine HC7.out.mono ?_
            rintro e w7 ⟨rfl, hb7⟩
            have HP7 := Lib.hid (HP6.out.bels hb7)
            clear hb7
            go_wp2_with (at_builtin; fail)
            go_ret
            exact ⟨rfl, HP7.out.bel⟩
  · have hn1 : (1048576 : Int) < n := by omega
    unfold maxLen at hm
    go_enter Try.func3, Try.ntmps3
    go_wp2_with fail
    go_ret
    exact ⟨rfl, Below.refl _ _⟩

end Go.Proofs.Ytmaaaiccmllnlaa

/- impl.indices, impl.PathsFrom. -/
namespace Go.Proofs.Ytmaaaiccmllnlaa
open Go.RowKit

set_option maxHeartbeats 4000000 in
set_option maxRecDepth 100000 in
theorem indices_any (g : Nat) (L : List Bool) (n : Nat) (w : World) (hr : RowB w g 4 (bv L)) (hn : n = L.length) (hg : g < w.heap.size) (h64 : n ≤ 64) :
    Calls Try.prog 77 #[.slice (some ⟨g, 0, none⟩) n n] w (IntsRet w (lst n fun i => L.getD i false)) := by
  subst hn
  have hcell : Hid (∀ i, i < L.length → w.cell? ⟨g, i, none⟩ = some (.bool (L.getD i false))) := Lib.hid fun i hi => by rw [hr.cell, bv_get hi]
  clear hr
  obtain ⟨n, hn⟩ : ∃ n, n = L.length := ⟨_, rfl⟩
  rw [← hn] at hcell h64 ⊢
  clear hn
  obtain ⟨f, hf⟩ : ∃ f : Nat → Bool, f = fun i => L.getD i false := ⟨_, rfl⟩
  have HF : Hid (∀ i, i < n → w.cell? ⟨g, i, none⟩ = some (.bool (f i))) := Lib.hid fun i hi => by rw [hcell.out i hi, hf]
  rw [← hf]
  clear hf hcell
  go_enter Try.func77, Try.ntmps77
  go_wp2_with (at_builtin; fail)
  go_loopw [3, 8] (fun v i wr => ∃ (j : Nat) (o : List Int), j ≤ n ∧ i = .int .i64 j ∧ o = lst j f ∧ OInts wr w.heap.size v o ∧ Below w.heap.size w wr) (fun _ i _ => n - (intOf i).toNat)
  case atStart => exact ⟨0, [], by omega, rfl, rfl, OInts.nil _ _, Below.refl _ _⟩
  case round =>
    obtain ⟨j, o, hj, rfl, ho, hP, hbw⟩ := hrel
    have HO := Lib.hid ho
    have hol : o.length ≤ j := by rw [ho]; exact lst_len _ _
    have HP := Lib.hid hP
    have HBW := Lib.hid hbw
    have hsw := hbw.size
    obtain ⟨A', c', rfl, hc'⟩ := hP.slice
    clear ho hP
    by_cases hjl : j < n
    · have hck := (hbw.cell (p := ⟨g, j, none⟩) hg).trans (HF.out j hjl)
      clear hbw
      cases hd : f j
      · rw [hd] at hck
        have HD := Lib.hid hd
        clear hd
        go_wp2_with (at_builtin; fail)
        exact ⟨⟨j + 1, o, by omega, by go_num, by rw [lst_succ_false HD.out]; exact HO.out, HP.out, HBW.out⟩, by simp [intOf] <;> omega⟩
      · rw [hd] at hck
        have HD := Lib.hid hd
        clear hd
        go_wp2_with (at_builtin; go_must (refine wpList_push_int rfl (.tmp 14) (.tmp 16) rfl HP.out (by omega) (by omega) _ rfl rfl ?_); intro v' w' hP' hE')
        exact ⟨⟨j + 1, _, by omega, by go_num, by rw [lst_succ_true HD.out, HO.out], hP', HBW.out.trans ((((Evo.alloc w.heap.size 3 _ _).trans hE').below (by omega)))⟩, by simp [intOf] <;> omega⟩
    · obtain rfl : j = n := by omega
      clear hbw
      go_wp2_with (at_builtin; fail)
      go_ret
      exact ⟨_, rfl, by rw [← HO.out]; exact HP.out.toS (by omega), HBW.out⟩

set_option maxHeartbeats 4000000 in
set_option maxRecDepth 100000 in
theorem iPathsFrom_any (vt vb : Value) (ts : List Int) (l : List St) (a : Int) (B : Nat) (w : World) (ht : IntS w B vt ts) (hl : StS w B vb l) (hB : B ≤ w.heap.size) (hsz : szL l ≤ 4194300) :
    Calls Try.prog 30 #[.agg #[vt, vb], .int .i64 a] w (IntsRet w (frRes l ts a)) := by
  have hb2 : ∀ o o', Below w.heap.size w ((w.alloc o).alloc o') := fun o o' => (bel_a w o).alloc (by simp) o'
  go_enter Try.func30, Try.ntmps30
  go_wp2_with fail
  refine (graphOf_any vt vb _ ts l [a] (w.heap.size + 2) _ ((ht.low (hb2 _ _) hB).more (by omega)) ((hl.low (hb2 _ _) hB).more (by omega)) (by simpa using ints_lit (w.alloc _) [a] 3 (by simp)) (by simp) hsz).mono ?_
  rintro e w1 ⟨vg, rfl, hgr, hb1⟩
  have hb3 := (hb2 _ _).trans (hb1.mono (by simp; omega))
  cases hok : graphOk ts l [a]
  · have HRES : Hid (frRes l ts a = []) := Lib.hid (by unfold frRes; rw [hok, if_neg (by simp)])
    clear hok hgr
    go_wp2_with fail
    go_ret
    exact ⟨_, rfl, by rw [HRES.out]; exact (OInts.nil w1 0).toS (by simp), hb3⟩
  · obtain ⟨hv, k, rfl, hk⟩ := graphOk_one hok
    have GD := Lib.hid (Good.of_valid hv)
    have hplen : (ptsP l).length ≤ 64 := by have := GD.out.len; omega
    have HGG := Lib.hid (hgr hok)
    have HRES : Hid (frRes l ts (k : Nat) = lst (ptsP l).length (fun i => (ldsL (ptsP l) k).getD i false)) := Lib.hid (by
      unfold frRes; rw [if_pos hok]
      refine lst_congr fun i hi => ?_
      rw [ldsL_get hi, Int.toNat_natCast])
    have hs3 := hb3.size
    have HF := Lib.hid (from_any _ ts (ptsP l) w1.heap.size k w1 HGG.out (Nat.le_refl _) GD.out hk)
    clear hok hgr hv
    go_wp2_with (at_builtin; fail)
    refine HF.out.mono ?_
    rintro e w2 ⟨g', rfl, hrow, hb4⟩
    have hgl := hrow.lt
    have HC := Lib.hid (indices_any g' (ldsL (ptsP l) k) _ w2 hrow (ldsL_len _ _).symm hgl hplen)
    have HB4 := Lib.hid (hb3.trans (hb4.mono hs3))
    clear hrow hb4
    go_wp2_with (at_builtin; fail)
    refine HC.out.mono ?_
    rintro e w3 ⟨v3, rfl, hv3, hb5⟩
    have HV3 := Lib.hid hv3
    have HB5 := Lib.hid (HB4.out.trans (hb5.mono HB4.out.size))
    clear hv3 hb5
    go_wp2_with (at_builtin; fail)
    go_ret
    exact ⟨_, rfl, by rw [HRES.out]; exact HV3.out, HB5.out⟩

end Go.Proofs.Ytmaaaiccmllnlaa

/- Plain: loops of a program's points: they come back, and their choice dominates them. No program in sight. -/
namespace Go.Proofs.Ytmaaaiccmllnlaa

mutual
theorem ptsSt_low (at_ : Nat) : ∀ s : St, ∀ p ∈ ptsSt at_ s, ∀ k ∈ p.next, at_ ≤ k
  | .mk op x y n th el => by
    have h1 := ptsL_low (at_ + 1) th
    have h2 := ptsL_low (at_ + 1 + (ptsL (at_ + 1) th).length + 1) el
    intro p hp
    simp only [ptsSt] at hp
    split at hp
    · simp only [List.mem_cons, List.mem_append] at hp
      rcases hp with rfl | hp | rfl | hp
      · simp <;> omega
      · exact fun k hk => by have := h1 p hp k hk; omega
      · simp <;> omega
      · exact fun k hk => by have := h2 p hp k hk; omega
    · split at hp
      · simp only [List.mem_cons, List.mem_append, List.not_mem_nil, or_false] at hp
        rcases hp with rfl | hp | rfl
        · simp <;> omega
        · exact fun k hk => by have := h1 p hp k hk; omega
        · simp
      · simp only [List.mem_singleton] at hp
        subst hp
        simp
theorem ptsL_low (at_ : Nat) : ∀ l : List St, ∀ p ∈ ptsL at_ l, ∀ k ∈ p.next, at_ ≤ k
  | [] => by simp [ptsL]
  | s :: r => by
    have h1 := ptsSt_low at_ s
    have h2 := ptsL_low (at_ + (ptsSt at_ s).length) r
    intro p hp k hk
    simp only [ptsL, List.mem_append] at hp
    rcases hp with hp | hp
    · exact h1 p hp k hk
    · have := h2 p hp k hk; omega
end
theorem ptsSt_ne (at_ : Nat) (s : St) : 1 ≤ (ptsSt at_ s).length := by
  rw [ptsSt_eq]
  repeat' split
  all_goals simp
theorem ptsSt_len9 {at_ : Nat} {s : St} (h : s.op = 9) : (ptsSt at_ s).length = 1 + (ptsL (at_ + 1) s.th).length + 1 + (ptsL (at_ + 1 + (ptsL (at_ + 1) s.th).length + 1) s.el).length := by
  rw [ptsSt_eq, if_pos h]; simp; omega
theorem ptsSt_len10 {at_ : Nat} {s : St} (h : s.op = 10) : (ptsSt at_ s).length = 1 + (ptsL (at_ + 1) s.th).length + 1 := by
  rw [ptsSt_eq, if_neg (by omega), if_pos h]; simp; omega
theorem ptsSt_len1 {at_ : Nat} {s : St} (h : ¬ s.op = 9) (h2 : ¬ s.op = 10) : (ptsSt at_ s).length = 1 := by
  rw [ptsSt_eq, if_neg h, if_neg h2]; simp
theorem Emb.if_ {pts : List Pt} {at_ : Nat} {s : St} (hE : Emb pts at_ (ptsSt at_ s)) (h : s.op = 9) :
    pts[at_]? = some ⟨9, 0, 0, 0, [at_ + 1, at_ + 1 + (ptsL (at_ + 1) s.th).length + 1]⟩ ∧ Emb pts (at_ + 1) (ptsL (at_ + 1) s.th) ∧
    pts[at_ + 1 + (ptsL (at_ + 1) s.th).length]? = some ⟨10, 0, 0, 1, [at_ + 1 + (ptsL (at_ + 1) s.th).length + 1 + (ptsL (at_ + 1 + (ptsL (at_ + 1) s.th).length + 1) s.el).length]⟩ ∧
    Emb pts (at_ + 1 + (ptsL (at_ + 1) s.th).length + 1) (ptsL (at_ + 1 + (ptsL (at_ + 1) s.th).length + 1) s.el) := by
  rw [ptsSt_eq, if_pos h] at hE
  exact ⟨hE.head, hE.tail.left, hE.tail.right.head, hE.tail.right.tail⟩
theorem Emb.loop_ {pts : List Pt} {at_ : Nat} {s : St} (hE : Emb pts at_ (ptsSt at_ s)) (h : s.op = 10) :
    pts[at_]? = some ⟨10, 0, 0, 0, [at_ + 1, at_ + 1 + (ptsL (at_ + 1) s.th).length + 1]⟩ ∧ Emb pts (at_ + 1) (ptsL (at_ + 1) s.th) ∧ pts[at_ + 1 + (ptsL (at_ + 1) s.th).length]? = some ⟨10, 0, 0, 1, [at_]⟩ := by
  rw [ptsSt_eq, if_neg (by omega), if_pos h] at hE
  exact ⟨hE.head, hE.tail.left, hE.tail.right.head⟩
theorem Emb.one_ {pts : List Pt} {at_ : Nat} {s : St} (hE : Emb pts at_ (ptsSt at_ s)) (h : ¬ s.op = 9) (h2 : ¬ s.op = 10) : pts[at_]? = some ⟨s.op, s.x, s.y, s.n, [at_ + 1]⟩ := by
  rw [ptsSt_eq, if_neg h, if_neg h2] at hE
  exact hE.head
/-- a point inside of a piece is one of the piece's -/
theorem Emb.mem {pts : List Pt} {at_ : Nat} {L : List Pt} (hE : Emb pts at_ L) {k : Nat} {p : Pt} (h1 : at_ ≤ k) (h2 : k < at_ + L.length) (hp : pts[k]? = some p) : p ∈ L := by
  have hj : k - at_ < L.length := by omega
  have := hE (k - at_) L[k - at_] (List.getElem?_eq_getElem hj)
  rw [show at_ + (k - at_) = k by omega, hp] at this
  injection this with this
  rw [this]; exact List.getElem_mem hj

mutual
/-- what holds at the first point of a piece and goes on from point to next point holds in all of it, and behind it -/
theorem ptsSt_cl (P : Nat → Prop) (pts : List Pt) (hs : ∀ i k p, P i → pts[i]? = some p → k ∈ p.next → P k) (at_ : Nat) : ∀ s : St, Emb pts at_ (ptsSt at_ s) → P at_ → (∀ j, j < (ptsSt at_ s).length → P (at_ + j)) ∧ P (at_ + (ptsSt at_ s).length)
  | .mk op x y n th el => by
    have h1 := ptsL_cl P pts hs (at_ + 1) th
    have h2 := ptsL_cl P pts hs (at_ + 1 + (ptsL (at_ + 1) th).length + 1) el
    intro hE hR
    by_cases h9 : op = 9
    · obtain ⟨e0, e1, e2, e3⟩ := hE.if_ h9
      rw [ptsSt_len9 (s := .mk op x y n th el) h9]
      simp only [St.th, St.el] at e0 e1 e2 e3 ⊢
      obtain ⟨a1, a2⟩ := h1 e1 (hs _ _ _ hR e0 (by simp))
      obtain ⟨b1, b2⟩ := h2 e3 (hs _ _ _ hR e0 (by simp))
      refine ⟨fun j hj => ?_, by rw [show at_ + (1 + (ptsL (at_ + 1) th).length + 1 + (ptsL (at_ + 1 + (ptsL (at_ + 1) th).length + 1) el).length) = at_ + 1 + (ptsL (at_ + 1) th).length + 1 + (ptsL (at_ + 1 + (ptsL (at_ + 1) th).length + 1) el).length by omega]; exact b2⟩
      rcases Nat.lt_or_ge j 1 with h | h
      · have : j = 0 := by omega
        subst this; exact hR
      · rcases Nat.lt_or_ge (j - 1) (ptsL (at_ + 1) th).length with h' | h'
        · have := a1 (j - 1) h'
          rwa [show at_ + 1 + (j - 1) = at_ + j by omega] at this
        · rcases Nat.lt_or_ge (j - 1) ((ptsL (at_ + 1) th).length + 1) with h'' | h''
          · rw [show at_ + j = at_ + 1 + (ptsL (at_ + 1) th).length by omega]; exact a2
          · have := b1 (j - 2 - (ptsL (at_ + 1) th).length) (by omega)
            rwa [show at_ + 1 + (ptsL (at_ + 1) th).length + 1 + (j - 2 - (ptsL (at_ + 1) th).length) = at_ + j by omega] at this
    · by_cases h10 : op = 10
      · obtain ⟨e0, e1, e2⟩ := hE.loop_ h10
        rw [ptsSt_len10 (s := .mk op x y n th el) h10]
        simp only [St.th] at e0 e1 e2 ⊢
        obtain ⟨a1, a2⟩ := h1 e1 (hs _ _ _ hR e0 (by simp))
        refine ⟨fun j hj => ?_, by rw [show at_ + (1 + (ptsL (at_ + 1) th).length + 1) = at_ + 1 + (ptsL (at_ + 1) th).length + 1 by omega]; exact hs _ _ _ hR e0 (by simp)⟩
        rcases Nat.lt_or_ge j 1 with h | h
        · have : j = 0 := by omega
          subst this; exact hR
        · rcases Nat.lt_or_ge (j - 1) (ptsL (at_ + 1) th).length with h' | h'
          · have := a1 (j - 1) h'
            rwa [show at_ + 1 + (j - 1) = at_ + j by omega] at this
          · rw [show at_ + j = at_ + 1 + (ptsL (at_ + 1) th).length by omega]; exact a2
      · have e0 := hE.one_ h9 h10
        rw [ptsSt_len1 (s := .mk op x y n th el) h9 h10]
        refine ⟨fun j hj => ?_, hs _ _ _ hR e0 (by simp)⟩
        have : j = 0 := by omega
        subst this; exact hR
theorem ptsL_cl (P : Nat → Prop) (pts : List Pt) (hs : ∀ i k p, P i → pts[i]? = some p → k ∈ p.next → P k) (at_ : Nat) : ∀ l : List St, Emb pts at_ (ptsL at_ l) → P at_ → (∀ j, j < (ptsL at_ l).length → P (at_ + j)) ∧ P (at_ + (ptsL at_ l).length)
  | [] => by
    intro _ hR
    exact ⟨fun j hj => by simp [ptsL] at hj, by simpa [ptsL] using hR⟩
  | s :: r => by
    have h1 := ptsSt_cl P pts hs at_ s
    have h2 := ptsL_cl P pts hs (at_ + (ptsSt at_ s).length) r
    simp only [ptsL]
    intro hE hR
    obtain ⟨a1, a2⟩ := h1 hE.left hR
    obtain ⟨b1, b2⟩ := h2 hE.right a2
    rw [List.length_append]
    refine ⟨fun j hj => ?_, by rw [← Nat.add_assoc]; exact b2⟩
    rcases Nat.lt_or_ge j (ptsSt at_ s).length with h | h
    · exact a1 j h
    · have := b1 (j - (ptsSt at_ s).length) (by omega)
      rwa [show at_ + (ptsSt at_ s).length + (j - (ptsSt at_ s).length) = at_ + j by omega] at this
end

/-- a leads to b, or is it -/
def LdE (pts : List Pt) (a b : Nat) : Prop := a = b ∨ Lds pts a b
theorem Lds.to {pts : List Pt} {a k b : Nat} {p : Pt} (hp : pts[a]? = some p) (hk : k ∈ p.next) (h : LdE pts k b) : Lds pts a b := by
  rcases h with rfl | h
  · exact .one hp hk
  · exact .more hp hk h
theorem Lds.toE {pts : List Pt} {a k b : Nat} (h : Lds pts a k) (h2 : LdE pts k b) : Lds pts a b := by
  rcases h2 with rfl | h2
  · exact h
  · exact h.trans h2
theorem exit_first {pts : List Pt} {at_ : Nat} {L : List Pt} (h : ∀ j, j < L.length → Lds pts (at_ + j) (at_ + L.length)) : LdE pts at_ (at_ + L.length) := by
  by_cases h0 : L.length = 0
  · exact .inl (by omega)
  · exact .inr (h 0 (by omega))
mutual
/-- all of a piece leads to what comes behind it -/
theorem ptsSt_exit (pts : List Pt) (at_ : Nat) : ∀ s : St, Emb pts at_ (ptsSt at_ s) → ∀ j, j < (ptsSt at_ s).length → Lds pts (at_ + j) (at_ + (ptsSt at_ s).length)
  | .mk op x y n th el => by
    have h1 := ptsL_exit pts (at_ + 1) th
    have h2 := ptsL_exit pts (at_ + 1 + (ptsL (at_ + 1) th).length + 1) el
    intro hE j hj
    by_cases h9 : op = 9
    · obtain ⟨e0, e1, e2, e3⟩ := hE.if_ h9
      rw [ptsSt_len9 (s := .mk op x y n th el) h9] at hj ⊢
      simp only [St.th, St.el] at e0 e1 e2 e3 hj ⊢
      have a1 := h1 e1
      have b1 := h2 e3
      have b0 := exit_first b1
      have hx : at_ + (1 + (ptsL (at_ + 1) th).length + 1 + (ptsL (at_ + 1 + (ptsL (at_ + 1) th).length + 1) el).length) = at_ + 1 + (ptsL (at_ + 1) th).length + 1 + (ptsL (at_ + 1 + (ptsL (at_ + 1) th).length + 1) el).length := by omega
      rw [hx]
      have hjmp : Lds pts (at_ + 1 + (ptsL (at_ + 1) th).length) (at_ + 1 + (ptsL (at_ + 1) th).length + 1 + (ptsL (at_ + 1 + (ptsL (at_ + 1) th).length + 1) el).length) := .one e2 (by simp)
      rcases Nat.lt_or_ge j 1 with h | h
      · have : j = 0 := by omega
        subst this
        exact Lds.to e0 (k := at_ + 1 + (ptsL (at_ + 1) th).length + 1) (by simp) b0
      · rcases Nat.lt_or_ge (j - 1) (ptsL (at_ + 1) th).length with h' | h'
        · have := a1 (j - 1) h'
          rw [show at_ + 1 + (j - 1) = at_ + j by omega] at this
          exact this.trans hjmp
        · rcases Nat.lt_or_ge (j - 1) ((ptsL (at_ + 1) th).length + 1) with h'' | h''
          · rw [show at_ + j = at_ + 1 + (ptsL (at_ + 1) th).length by omega]; exact hjmp
          · have := b1 (j - 2 - (ptsL (at_ + 1) th).length) (by omega)
            rwa [show at_ + 1 + (ptsL (at_ + 1) th).length + 1 + (j - 2 - (ptsL (at_ + 1) th).length) = at_ + j by omega] at this
    · by_cases h10 : op = 10
      · obtain ⟨e0, e1, e2⟩ := hE.loop_ h10
        rw [ptsSt_len10 (s := .mk op x y n th el) h10] at hj ⊢
        simp only [St.th] at e0 e1 e2 hj ⊢
        have a1 := h1 e1
        have hx : at_ + (1 + (ptsL (at_ + 1) th).length + 1) = at_ + 1 + (ptsL (at_ + 1) th).length + 1 := by omega
        rw [hx]
        have hout : Lds pts at_ (at_ + 1 + (ptsL (at_ + 1) th).length + 1) := .one e0 (by simp)
        have hbk : Lds pts (at_ + 1 + (ptsL (at_ + 1) th).length) (at_ + 1 + (ptsL (at_ + 1) th).length + 1) := .more e2 (by simp) hout
        rcases Nat.lt_or_ge j 1 with h | h
        · have : j = 0 := by omega
          subst this; exact hout
        · rcases Nat.lt_or_ge (j - 1) (ptsL (at_ + 1) th).length with h' | h'
          · have := a1 (j - 1) h'
            rw [show at_ + 1 + (j - 1) = at_ + j by omega] at this
            exact this.trans hbk
          · rw [show at_ + j = at_ + 1 + (ptsL (at_ + 1) th).length by omega]; exact hbk
      · have e0 := hE.one_ h9 h10
        rw [ptsSt_len1 (s := .mk op x y n th el) h9 h10] at hj ⊢
        have : j = 0 := by omega
        subst this
        exact .one e0 (by simp)
theorem ptsL_exit (pts : List Pt) (at_ : Nat) : ∀ l : List St, Emb pts at_ (ptsL at_ l) → ∀ j, j < (ptsL at_ l).length → Lds pts (at_ + j) (at_ + (ptsL at_ l).length)
  | [] => by
    intro _ j hj
    simp [ptsL] at hj
  | s :: r => by
    have h1 := ptsSt_exit pts at_ s
    have h2 := ptsL_exit pts (at_ + (ptsSt at_ s).length) r
    simp only [ptsL]
    intro hE j hj
    have a1 := h1 hE.left
    have b1 := h2 hE.right
    rw [List.length_append] at hj ⊢
    rw [← Nat.add_assoc]
    rcases Nat.lt_or_ge j (ptsSt at_ s).length with h | h
    · exact (a1 j h).toE (exit_first b1)
    · have := b1 (j - (ptsSt at_ s).length) (by omega)
      rwa [show at_ + (ptsSt at_ s).length + (j - (ptsSt at_ s).length) = at_ + j by omega] at this
end

/-- into the points from a to b one comes only by a -/
def Ent (pts : List Pt) (a b : Nat) : Prop := ∀ k p j, pts[k]? = some p → j ∈ p.next → a ≤ j → j < b → (a ≤ k ∧ k < b) ∨ j = a
structure LpOk (pts : List Pt) (i e : Nat) : Prop where
  lt : i + 1 < e
  go : ∀ j, i ≤ j → j < e → Lds pts i j
  back : ∀ j, i ≤ j → j < e → Lds pts j i
  ent : Ent pts i e
/-- what holds for all loops from a to b -/
def Lps (pts : List Pt) (a b : Nat) : Prop := ∀ i p, a ≤ i → i < b → pts[i]? = some p → p.op = 10 → p.n = 0 → ∃ e, p.next = [i + 1, e] ∧ LpOk pts i e ∧ e ≤ b
mutual
theorem ptsSt_lps (pts : List Pt) (at_ : Nat) : ∀ s : St, Emb pts at_ (ptsSt at_ s) → Ent pts at_ (at_ + (ptsSt at_ s).length) → Lps pts at_ (at_ + (ptsSt at_ s).length)
  | .mk op x y n th el => by
    have h1 := ptsL_lps pts (at_ + 1) th
    have h2 := ptsL_lps pts (at_ + 1 + (ptsL (at_ + 1) th).length + 1) el
    intro hE hEnt i p hi1 hi2 hp ho hn
    by_cases h9 : op = 9
    · obtain ⟨e0, e1, e2, e3⟩ := hE.if_ h9
      rw [ptsSt_len9 (s := .mk op x y n th el) h9] at hi2 hEnt ⊢
      simp only [St.th, St.el] at e0 e1 e2 e3 hi2 hEnt ⊢
      have ln := ptsL_next (at_ + 1) th
      have ll := ptsL_low (at_ + 1 + (ptsL (at_ + 1) th).length + 1) el
      generalize hA : (ptsL (at_ + 1) th) = A at *
      generalize hB : ptsL (at_ + 1 + A.length + 1) el = B at *
      have E1 : Ent pts (at_ + 1) (at_ + 1 + A.length) := by
        intro k q j hq hj hj1 hj2
        rcases hEnt k q j hq hj (by omega) (by omega) with hk | hk
        · by_cases k0 : k = at_
          · subst k0; rw [e0] at hq; injection hq with hq; subst hq; simp at hj; omega
          · by_cases k1 : k < at_ + 1 + A.length
            · exact .inl ⟨by omega, k1⟩
            · by_cases k2 : k = at_ + 1 + A.length
              · subst k2; rw [e2] at hq; injection hq with hq; subst hq; simp at hj; omega
              · have := ll q (e3.mem (by omega) (by omega) hq) j hj; omega
        · omega
      have E2 : Ent pts (at_ + 1 + A.length + 1) (at_ + 1 + A.length + 1 + B.length) := by
        intro k q j hq hj hj1 hj2
        rcases hEnt k q j hq hj (by omega) (by omega) with hk | hk
        · by_cases k0 : k = at_
          · subst k0; rw [e0] at hq; injection hq with hq; subst hq; simp at hj; omega
          · by_cases k1 : k < at_ + 1 + A.length
            · have := (ln q (e1.mem (by omega) (by omega) hq)).2.2 j hj; omega
            · by_cases k2 : k = at_ + 1 + A.length
              · subst k2; rw [e2] at hq; injection hq with hq; subst hq; simp at hj; omega
              · exact .inl ⟨by omega, by omega⟩
        · omega
      by_cases k0 : i = at_
      · subst k0; rw [e0] at hp; injection hp with hp; subst hp; simp at ho
      · by_cases k1 : i < at_ + 1 + A.length
        · obtain ⟨e, g1, g2, g3⟩ := h1 e1 E1 i p (by omega) k1 hp ho hn
          exact ⟨e, g1, g2, by omega⟩
        · by_cases k2 : i = at_ + 1 + A.length
          · subst k2; rw [e2] at hp; injection hp with hp; subst hp; simp at hn
          · obtain ⟨e, g1, g2, g3⟩ := h2 e3 E2 i p (by omega) (by omega) hp ho hn
            exact ⟨e, g1, g2, by omega⟩
    · by_cases h10 : op = 10
      · have cl := ptsL_cl (fun j => Lds pts at_ j) pts (fun i k p h hp hk => h.snoc hp hk) (at_ + 1) th
        have ex := ptsL_exit pts (at_ + 1) th
        obtain ⟨e0, e1, e2⟩ := hE.loop_ h10
        rw [ptsSt_len10 (s := .mk op x y n th el) h10] at hi2 hEnt ⊢
        simp only [St.th] at e0 e1 e2 hi2 hEnt ⊢
        obtain ⟨c1, c2⟩ := cl e1 (.one e0 (by simp))
        have ex1 := ex e1
        generalize hA : (ptsL (at_ + 1) th) = A at *
        have E1 : Ent pts (at_ + 1) (at_ + 1 + A.length) := by
          intro k q j hq hj hj1 hj2
          rcases hEnt k q j hq hj (by omega) (by omega) with hk | hk
          · by_cases k0 : k = at_
            · subst k0; rw [e0] at hq; injection hq with hq; subst hq; simp at hj; omega
            · by_cases k1 : k < at_ + 1 + A.length
              · exact .inl ⟨by omega, k1⟩
              · have k2 : k = at_ + 1 + A.length := by omega
                subst k2; rw [e2] at hq; injection hq with hq; subst hq; simp at hj; omega
          · omega
        by_cases k0 : i = at_
        · subst k0; rw [e0] at hp; injection hp with hp; subst hp
          have hb : Lds pts (i + 1 + A.length) i := .one e2 (by simp)
          have hii : Lds pts i i := c2.snoc e2 (by simp)
          refine ⟨i + 1 + A.length + 1, rfl, ⟨by omega, fun j hj1 hj2 => ?_, fun j hj1 hj2 => ?_, by rwa [show i + (1 + A.length + 1) = i + 1 + A.length + 1 by omega] at hEnt⟩, by omega⟩
          · by_cases k1 : j = i
            · subst k1; exact hii
            · by_cases k2 : j = i + 1 + A.length
              · subst k2; exact c2
              · have := c1 (j - i - 1) (by omega)
                rwa [show i + 1 + (j - i - 1) = j by omega] at this
          · by_cases k1 : j = i
            · subst k1; exact hii
            · by_cases k2 : j = i + 1 + A.length
              · subst k2; exact hb
              · have := ex1 (j - i - 1) (by omega)
                rw [show i + 1 + (j - i - 1) = j by omega] at this
                exact this.trans hb
        · by_cases k1 : i < at_ + 1 + A.length
          · obtain ⟨e, g1, g2, g3⟩ := h1 e1 E1 i p (by omega) k1 hp ho hn
            exact ⟨e, g1, g2, by omega⟩
          · have k2 : i = at_ + 1 + A.length := by omega
            subst k2; rw [e2] at hp; injection hp with hp; subst hp; simp at hn
      · have e0 := hE.one_ h9 h10
        rw [ptsSt_len1 (s := .mk op x y n th el) h9 h10] at hi2
        have : i = at_ := by omega
        subst this
        rw [e0] at hp; injection hp with hp; subst hp
        exact absurd ho h10
theorem ptsL_lps (pts : List Pt) (at_ : Nat) : ∀ l : List St, Emb pts at_ (ptsL at_ l) → Ent pts at_ (at_ + (ptsL at_ l).length) → Lps pts at_ (at_ + (ptsL at_ l).length)
  | [] => by
    intro _ _ i p h1 h2
    simp [ptsL] at h2; omega
  | s :: r => by
    have h1 := ptsSt_lps pts at_ s
    have h2 := ptsL_lps pts (at_ + (ptsSt at_ s).length) r
    have ln := ptsSt_next at_ s
    have ll := ptsL_low (at_ + (ptsSt at_ s).length) r
    have hne := ptsSt_ne at_ s
    simp only [ptsL]
    intro hE hEnt i p hi1 hi2 hp ho hn
    rw [List.length_append] at hi2 hEnt ⊢
    have eL := hE.left
    have eR := hE.right
    generalize hA : ptsSt at_ s = A at *
    generalize hB : ptsL (at_ + A.length) r = B at *
    have E1 : Ent pts at_ (at_ + A.length) := by
      intro k q j hq hj hj1 hj2
      rcases hEnt k q j hq hj (by omega) (by omega) with hk | hk
      · by_cases k1 : k < at_ + A.length
        · exact .inl ⟨by omega, k1⟩
        · have := ll q (eR.mem (by omega) (by omega) hq) j hj; omega
      · exact .inr hk
    have E2 : Ent pts (at_ + A.length) (at_ + A.length + B.length) := by
      intro k q j hq hj hj1 hj2
      rcases hEnt k q j hq hj (by omega) (by omega) with hk | hk
      · by_cases k1 : k < at_ + A.length
        · have := (ln q (eL.mem (by omega) (by omega) hq)).2.2 j hj; omega
        · exact .inl ⟨by omega, by omega⟩
      · omega
    by_cases k1 : i < at_ + A.length
    · obtain ⟨e, g1, g2, g3⟩ := h1 eL E1 i p hi1 k1 hp ho hn
      exact ⟨e, g1, g2, by omega⟩
    · obtain ⟨e, g1, g2, g3⟩ := h2 eR E2 i p (by omega) (by omega) hp ho hn
      exact ⟨e, g1, g2, by omega⟩
end
theorem ptsP_emb (l : List St) : Emb (ptsP l) 0 (ptsL 0 l) := fun j p hj => by
  have hlt : j < (ptsL 0 l).length := (List.getElem?_eq_some_iff.1 hj).1
  unfold ptsP
  rw [Nat.zero_add, List.getElem?_append_left hlt]; exact hj
theorem ptsP_end (l : List St) : (ptsP l)[(ptsL 0 l).length]? = some ⟨11, 0, 0, 0, []⟩ := by unfold ptsP; simp
/-- the loops of a program -/
theorem ptsP_loop (l : List St) {i : Nat} {p : Pt} (hp : (ptsP l)[i]? = some p) (ho : p.op = 10) (hn : p.n = 0) : ∃ e, p.next = [i + 1, e] ∧ LpOk (ptsP l) i e ∧ e < (ptsP l).length := by
  have hE := ptsP_emb l
  have hi := (List.getElem?_eq_some_iff.1 hp).1
  rw [ptsP_len] at hi
  have hlt : i < (ptsL 0 l).length := by
    rcases Nat.lt_or_ge i (ptsL 0 l).length with h | h
    · exact h
    · have : i = (ptsL 0 l).length := by omega
      subst this; rw [ptsP_end] at hp; injection hp with hp; subst hp; simp at ho
  have hEnt : Ent (ptsP l) 0 (0 + (ptsL 0 l).length) := by
    intro k q j hq hj hj1 hj2
    have hk := (List.getElem?_eq_some_iff.1 hq).1
    rw [ptsP_len] at hk
    rcases Nat.lt_or_ge k (ptsL 0 l).length with h | h
    · exact .inl ⟨Nat.zero_le _, by omega⟩
    · have : k = (ptsL 0 l).length := by omega
      subst this; rw [ptsP_end] at hq; injection hq with hq; subst hq; simp at hj
  obtain ⟨e, h1, h2, h3⟩ := ptsL_lps (ptsP l) 0 l hE hEnt i p (Nat.zero_le _) (by omega) hp ho hn
  exact ⟨e, h1, h2, by rw [ptsP_len]; omega⟩

/-- a leads to it in no step or more, without passing wo -/
inductive Ard (pts : List Pt) (wo a : Nat) : Nat → Prop
  | refl (h : a ≠ wo) : Ard pts wo a a
  | step {k j : Nat} {p : Pt} (h : Ard pts wo a k) (hp : pts[k]? = some p) (hj : j ∈ p.next) (hne : j ≠ wo) : Ard pts wo a j
theorem Ard.ne {pts : List Pt} {wo a k : Nat} (h : Ard pts wo a k) : k ≠ wo := by cases h <;> assumption
theorem LpOk.dom {pts : List Pt} {i e j : Nat} (h : LpOk pts i e) (h1 : i < j) (h2 : j < e) : ¬ Ard pts i 0 j := by
  intro hr
  induction hr with
  | refl _ => omega
  | @step k j p hk hp hj hne ih =>
    rcases h.ent k p j hp hj (by omega) h2 with hh | hh
    · exact ih (by have := hk.ne; omega) hh.2
    · exact hne hh
/-- the state of the search for what a leads to without passing wo -/
structure ArI (pts : List Pt) (wo a : Nat) (fl : List Bool) (q : List Nat) : Prop where
  len : fl.length = pts.length
  snd : ∀ k, fl.getD k false = true → Ard pts wo a k
  qok : ∀ k ∈ q, (k ≠ wo → Ard pts wo a k) ∧ k < pts.length
  st : a ≠ wo → fl.getD a false = true ∨ a ∈ q
  cl : ∀ k p, fl.getD k false = true → pts[k]? = some p → ∀ j ∈ p.next, j = wo ∨ fl.getD j false = true ∨ j ∈ q
theorem ArI.init {pts : List Pt} {wo a : Nat} (ha : a < pts.length) : ArI pts wo a (List.replicate pts.length false) [a] := by
  have h0 : ∀ k, (List.replicate pts.length false).getD k false = false := fun k => by
    by_cases hk : k < pts.length
    · rw [getD_lt (by simpa using hk)]; simp
    · rw [getD_ge (by simpa using hk)]
  refine ⟨by simp, fun k hk => ?_, fun k hk => ?_, fun _ => .inr (by simp), fun k p hk => ?_⟩
  · rw [h0] at hk; cases hk
  · rw [List.mem_singleton] at hk; subst hk; exact ⟨.refl, ha⟩
  · rw [h0] at hk; cases hk
theorem ArI.skip {pts : List Pt} {wo a k : Nat} {fl : List Bool} {r : List Nat} (h : ArI pts wo a fl (k :: r)) (hk : k = wo ∨ fl.getD k false = true) : ArI pts wo a fl r := by
  refine ⟨h.len, h.snd, fun j hj => h.qok j (List.mem_cons_of_mem _ hj), fun hne => ?_, fun i p hi hp j hj => ?_⟩
  · rcases h.st hne with h1 | h1
    · exact .inl h1
    · rcases List.mem_cons.1 h1 with rfl | h2
      · rcases hk with hk | hk
        · exact absurd hk hne
        · exact .inl hk
      · exact .inr h2
  · rcases h.cl i p hi hp j hj with h1 | h1 | h1
    · exact .inl h1
    · exact .inr (.inl h1)
    · rcases List.mem_cons.1 h1 with rfl | h2
      · rcases hk with hk | hk
        · exact .inl hk
        · exact .inr (.inl hk)
      · exact .inr (.inr h2)
theorem ArI.mark {pts : List Pt} {wo a k : Nat} {fl : List Bool} {r : List Nat} {p : Pt} (h : ArI pts wo a fl (k :: r)) (hne : k ≠ wo) (hp : pts[k]? = some p) (hn : ∀ p ∈ pts, ∀ k ∈ p.next, k < pts.length) : ArI pts wo a (fl.set k true) (r ++ p.next) := by
  have hk := h.qok k List.mem_cons_self
  have hkl : k < fl.length := by rw [h.len]; exact hk.2
  have up : ∀ j, (fl.getD j false = true ∨ j ∈ k :: r) → ((fl.set k true).getD j false = true ∨ j ∈ r ++ p.next) := fun j hj => by
    rw [getD_setT hkl]
    by_cases e : j = k
    · rw [if_pos e]; exact .inl rfl
    · rw [if_neg e]
      rcases hj with h1 | h1
      · exact .inl h1
      · rcases List.mem_cons.1 h1 with h2 | h2
        · exact absurd h2 e
        · exact .inr (List.mem_append_left _ h2)
  refine ⟨by simp [h.len], fun j hj => ?_, fun j hj => ?_, fun ha => up _ (h.st ha), fun i p' hi hp' j hj => ?_⟩
  · rw [getD_setT hkl] at hj
    split at hj
    · rename_i e; subst e; exact hk.1 hne
    · exact h.snd j hj
  · rcases List.mem_append.1 hj with h1 | h1
    · exact h.qok j (List.mem_cons_of_mem _ h1)
    · exact ⟨fun hj => .step (hk.1 hne) hp h1 hj, hn _ (List.mem_of_getElem? hp) _ h1⟩
  · rw [getD_setT hkl] at hi
    split at hi
    · rename_i e; subst e
      rw [hp] at hp'; injection hp' with e; subst e
      exact .inr (.inr (List.mem_append_right _ hj))
    · rcases h.cl i p' hi hp' j hj with h1 | h1
      · exact .inl h1
      · exact .inr (up j h1)
theorem ArI.done {pts : List Pt} {wo a : Nat} {fl : List Bool} (h : ArI pts wo a fl []) (k : Nat) : fl.getD k false = true ↔ Ard pts wo a k := by
  refine ⟨h.snd k, fun hl => ?_⟩
  induction hl with
  | refl hne => exact (h.st hne).resolve_right (by simp)
  | step _ hp hj hne ih => exact ((h.cl _ _ ih hp _ hj).resolve_left hne).resolve_right (by simp)

/-- the last number below m at which f says yes -/
def lastI : Nat → (Nat → Bool) → Option Nat
  | 0, _ => none
  | m + 1, f => if f m then some m else lastI m f
theorem lastI_some {m i : Nat} {f : Nat → Bool} (h : lastI m f = some i) : i < m ∧ f i = true := by
  induction m with
  | zero => simp [lastI] at h
  | succ m ih =>
    simp only [lastI] at h
    split at h
    · rename_i hf; injection h with h; subst h; exact ⟨by omega, hf⟩
    · have := ih h; exact ⟨by omega, this.2⟩
theorem lastI_succ (m : Nat) (f : Nat → Bool) : lastI (m + 1) f = if f m then some m else lastI m f := rfl
theorem lastI_le {m n : Nat} {f : Nat → Bool} (hmn : m ≤ n) : lastI n (fun i => decide (i < m) && f i) = lastI m f := by
  induction n with
  | zero => have : m = 0 := by omega
            subst this; rfl
  | succ n ih =>
    by_cases e : m = n + 1
    · subst e
      clear ih
      have : ∀ k, k ≤ n + 1 → lastI k (fun i => decide (i < n + 1) && f i) = lastI k f := fun k hk => by
        induction k with
        | zero => rfl
        | succ k ih2 => rw [lastI_succ, lastI_succ, ih2 (by omega), decide_eq_true (by omega), Bool.true_and]
      exact this _ (Nat.le_refl _)
    · rw [lastI_succ, decide_eq_false (by omega), Bool.false_and, if_neg (by simp), ih (by omega)]
/-- is i a loop around at_ (if it does not come behind it)? -/
def lpB (pts : List Pt) (at_ i : Nat) : Bool := match pts[i]? with
  | some p => p.op == 10 && p.n == 0 && decide (at_ < p.next.getD 1 0)
  | none => false
def rngL (a e : Nat) : List Int := (List.range (e - a)).map fun j => ((a + j : Nat) : Int)
theorem rngL_len (a e : Nat) : (rngL a e).length = e - a := by simp [rngL]
theorem rngL_get {a e j : Nat} (h : j < (rngL a e).length) : (rngL a e)[j] = ((a + j : Nat) : Int) := by simp [rngL]
theorem rngL_succ {a k : Nat} (h : a ≤ k) : rngL a (k + 1) = rngL a k ++ [((k : Nat) : Int)] := by
  unfold rngL
  rw [show k + 1 - a = (k - a) + 1 by omega, List.range_succ, List.map_append]
  simp; omega
theorem rngL_nil (a : Nat) : rngL a a = [] := by simp [rngL]
def loopAt (pts : List Pt) (at_ : Nat) : List Int := match lastI (at_ + 1) (lpB pts at_) with
  | some i => rngL i ((ptD pts i).next.getD 1 0)
  | none => []
theorem lpB_iff {pts : List Pt} {at_ i : Nat} : lpB pts at_ i = true ↔ ∃ p, pts[i]? = some p ∧ p.op = 10 ∧ p.n = 0 ∧ at_ < p.next.getD 1 0 := by
  unfold lpB
  cases h : pts[i]? with
  | none => simp
  | some p => simp [and_assoc]
/-- the points of the innermost loop: none, or all from its choice on, with what the law asks -/
theorem loopAt_law (l : List St) {at_ : Nat} : loopAt (ptsP l) at_ = [] ∨ ∃ i e, loopAt (ptsP l) at_ = rngL i e ∧ i ≤ at_ ∧ at_ < e ∧ e < (ptsP l).length ∧ (∀ j, i ≤ j → j < e → Lds (ptsP l) at_ j) ∧ (∀ j, i < j → j < e → ¬ Ard (ptsP l) i 0 j) := by
  unfold loopAt
  cases h : lastI (at_ + 1) (lpB (ptsP l) at_) with
  | none => exact .inl rfl
  | some i =>
    right
    obtain ⟨h1, h2⟩ := lastI_some h
    obtain ⟨p, hp, ho, hn, ha⟩ := lpB_iff.1 h2
    obtain ⟨e, hnx, hL, he⟩ := ptsP_loop l hp ho hn
    have hi := (List.getElem?_eq_some_iff.1 hp).1
    have hpe : ptD (ptsP l) i = p := by rw [ptD_get hi]; rw [List.getElem?_eq_getElem hi] at hp; injection hp
    rw [hnx] at ha
    refine ⟨i, e, ?_, by omega, by simpa using ha, he, fun j h1 h2 => (hL.back at_ (by omega) (by simpa using ha)).trans (hL.go j h1 h2), fun j h1 h2 => hL.dom h1 h2⟩
    simp only [hpe, hnx]
    rfl

end Go.Proofs.Ytmaaaiccmllnlaa

/- impl.LoopOf. -/
namespace Go.Proofs.Ytmaaaiccmllnlaa
open Go.RowKit

def loopRes (ts : List Int) (l : List St) (a : Int) : List Int := if graphOk ts l [a] = true then loopAt (ptsP l) a.toNat else []
set_option maxHeartbeats 4000000 in
set_option maxRecDepth 100000 in
theorem iLoopOf_any (vt vb : Value) (ts : List Int) (l : List St) (a : Int) (B : Nat) (w : World) (ht : IntS w B vt ts) (hl : StS w B vb l) (hB : B ≤ w.heap.size) (hsz : szL l ≤ 4194300) :
    Calls Try.prog 28 #[.agg #[vt, vb], .int .i64 a] w (IntsRet w (loopRes ts l a)) := by
  have hb2 : ∀ o o', Below w.heap.size w ((w.alloc o).alloc o') := fun o o' => (bel_a w o).alloc (by simp) o'
  go_enter Try.func28, Try.ntmps28
  go_wp2_with fail
  refine (graphOf_any vt vb _ ts l [a] (w.heap.size + 2) _ ((ht.low (hb2 _ _) hB).more (by omega)) ((hl.low (hb2 _ _) hB).more (by omega)) (by simpa using ints_lit (w.alloc _) [a] 3 (by simp)) (by simp) hsz).mono ?_
  rintro e w1 ⟨vg, rfl, hgr, hb1⟩
  have hb3 := (hb2 _ _).trans (hb1.mono (by simp; omega))
  cases hok : graphOk ts l [a]
  · have HRES : Hid (loopRes ts l a = []) := Lib.hid (by unfold loopRes; rw [hok, if_neg (by simp)])
    clear hok hgr
    go_wp2_with fail
    go_ret
    exact ⟨_, rfl, by rw [HRES.out]; exact (OInts.nil w1 0).toS (by simp), hb3⟩
  · obtain ⟨hv, k, rfl, hk⟩ := graphOk_one hok
    have GD := Good.of_valid hv
    have hplen : (ptsP l).length ≤ 64 := by have := GD.len; omega
    have hgg := hgr hok
    have HRES : Hid (loopRes ts l (k : Nat) = loopAt (ptsP l) k) := Lib.hid (by unfold loopRes; rw [if_pos hok]; rfl)
    have hs3 := hb3.size
    obtain ⟨g, At, ct, vb', Al, cl, rfl, hgB, g0, g1, g2, ht', hps, htl, hpl⟩ := hgg.open_
    have HPS := Lib.hid hps
    have HB3 := Lib.hid hb3
    have hgl : g < w1.heap.size := by have := hgB; omega
    clear hok hgr hv hgg ht' hps hb3 hb1 hb2 GD
    go_wp2_with (at_builtin; fail)
    go_loopw [7] (fun i wr => ∃ m : Nat, i = .int .i64 ((m : Int) - 1) ∧ m ≤ k + 1 ∧ lastI (k + 1) (lpB (ptsP l) k) = lastI m (lpB (ptsP l) k) ∧ Below w1.heap.size w1 wr) (fun i _ => (intOf i + 1).toNat)
    case atStart => exact ⟨k + 1, by simp, Nat.le_refl _, rfl, Below.refl _ _⟩
    case round =>
      obtain ⟨m, rfl, hm, hla, hbw⟩ := hrel
      have HLA := Lib.hid hla
      have HBW := Lib.hid hbw
      have hsw := hbw.size
      have d0 := (hbw.cell (p := ⟨g, 2, none⟩) hgl).trans g2
      clear hla
      by_cases h0 : m = 0
      · subst h0
        have HFIN : Hid (loopRes ts l (k : Nat) = []) := Lib.hid (by rw [HRES.out]; unfold loopAt; rw [HLA.out]; rfl)
        clear hbw
        go_wp2_with (at_builtin; fail)
        go_ret
        exact ⟨_, rfl, by rw [HFIN.out]; exact (OInts.nil wr 0).toS (by simp), HB3.out.trans (HBW.out.mono hs3)⟩
      · obtain ⟨i, rfl⟩ : ∃ i, m = i + 1 := ⟨m - 1, by omega⟩
        have hil : i < (ptsP l).length := by omega
        rw [show (((i + 1 : Nat) : Int) - 1) = ((i : Nat) : Int) by omega]
        obtain ⟨bp, op, cp', nv, e, hbp, hcp', hlp, hnx, p0, p1, p2, p3, p4⟩ := HPS.out.get hil
        injection e with e1 e9 e2
        subst e1 e2
        have HPG := Lib.hid (List.getElem?_eq_getElem hil)
        have HNX := Lib.hid (hnx.low hbw (Nat.le_refl _))
        obtain ⟨An, cn, rfl, hcn, hln, -⟩ := hnx
        have HLP := Lib.hid (fun ho hn => ptsP_loop l HPG.out ho hn)
        have HST : Hid (lastI (i + 1) (lpB (ptsP l) k) = if lpB (ptsP l) k i then some i else lastI i (lpB (ptsP l) k)) := Lib.hid rfl
        have HPD := Lib.hid (ptD_get hil)
        generalize (ptsP l)[i] = P at *
        have q0 := (hbw.cell (p := ⟨bp, op + i * 5, none⟩) (by omega)).trans p0
        have q1 := (hbw.cell (p := ⟨bp, op + i * 5 + 1, none⟩) (by omega)).trans p1
        have q2 := (hbw.cell (p := ⟨bp, op + i * 5 + 2, none⟩) (by omega)).trans p2
        have q3 := (hbw.cell (p := ⟨bp, op + i * 5 + 3, none⟩) (by omega)).trans p3
        have q4 := (hbw.cell (p := ⟨bp, op + i * 5 + 4, none⟩) (by omega)).trans p4
        simp only [List.length_map] at hcn hln q4
        clear e9 p0 p1 p2 p3 p4 hbw
        go_upto_region 8 with (at_builtin; fail)
        have hbA := bel_a wr (.cells #[.int .i64 P.op, .int .i64 P.x, .int .i64 P.y, .int .i64 P.n, .slice An P.next.length cn] 51)
        have hRA := heap_alloc_new wr (.cells #[.int .i64 P.op, .int .i64 P.x, .int .i64 P.y, .int .i64 P.n, .slice An P.next.length cn] 51)
        have hsA : (wr.alloc (.cells #[.int .i64 P.op, .int .i64 P.x, .int .i64 P.y, .int .i64 P.n, .slice An P.next.length cn] 51)).heap.size = wr.heap.size + 1 := by simp
        generalize wr.alloc (.cells #[.int .i64 P.op, .int .i64 P.x, .int .i64 P.y, .int .i64 P.n, .slice An P.next.length cn] 51) = wb at *
        have HBB := Lib.hid (HBW.out.trans (hbA.mono hsw))
        have HNB := Lib.hid (HNX.out.low hbA hsw)
        have x0 : wb.cell? ⟨wr.heap.size, 0, none⟩ = some (.int .i64 P.op) := by rw [cell_of_row _ _ _ _ _ _ hRA]; rfl
        have x3 : wb.cell? ⟨wr.heap.size, 3, none⟩ = some (.int .i64 P.n) := by rw [cell_of_row _ _ _ _ _ _ hRA]; rfl
        have x4 : wb.cell? ⟨wr.heap.size, 4, none⟩ = some (.slice An P.next.length cn) := by rw [cell_of_row _ _ _ _ _ _ hRA]; rfl
        have hbxl : wr.heap.size < wb.heap.size := by omega
        clear q0 q1 q2 q3 q4 hRA hbA d0
        by_cases hop : P.op = 10
        · by_cases hn : P.n = 0
          · obtain ⟨e, hnx, -, hel⟩ := HLP.out hop hn
            obtain ⟨A2, c2, e2, -, -, hrn⟩ := HNB.out
            injection e2 with e2 e9 e8
            subst e2 e8
            have HFN : Hid (lpB (ptsP l) k i = decide (k < e)) := Lib.hid (by unfold lpB; rw [HPG.out]; simp [hop, hn, hnx])
            have HRG : Hid (k < e → loopRes ts l (k : Nat) = rngL i e) := Lib.hid fun h => by
              rw [HRES.out]; unfold loopAt; rw [HLA.out, HST.out, HFN.out, if_pos (by simpa using h)]
              show rngL i ((ptD (ptsP l) i).next.getD 1 0) = _
              rw [HPD.out, hnx]; rfl
            rw [hnx] at hrn
            have hnl : P.next.length = 2 := by rw [hnx]; rfl
            rw [hnl] at hcn hln x4
            obtain ⟨bn, on, rfl, hbn, hcell⟩ := Rd.int_at (l := [i + 1, e].map fun k => ((k : Nat) : Int)) (by simpa using hrn) (k := 1) (by simp)
            have hcm : wb.cell? ⟨bn, on + 1, none⟩ = some (.int .i64 (e : Nat)) := by simpa using hcell 1 (by simp)
            rw [hop] at x0
            rw [hn] at x3
            clear hop hn hnx hrn hcell e9 hnl
            by_cases hke : k < e
            · have hk1 : decide ((k : Int) ≥ (e : Int)) = false := by simpa using hke
              have HRGE := Lib.hid (HRG.out hke)
              have hie : i ≤ e := by omega
              have hbnl : bn < wb.heap.size := by omega
              go_wp2_with (at_builtin; fail)
              obtain ⟨bx, hbx⟩ : ∃ bx, bx = wr.heap.size := ⟨_, rfl⟩
              rw [← hbx] at x4 hbxl ⊢
              clear hbx x0 x3 hk1 hsA hke
              (try generalize decide ((k : Int) ≥ (e : Int)) = bz1)
              (try generalize decide ((e : Int) ≤ (k : Int)) = bz2)
              (try generalize decide (e ≤ k) = bz3)
              go_loopw [9, 10] (fun v q wr => ∃ (q' : Nat) (o : List Int), q = .int .i64 q' ∧ i ≤ q' ∧ q' ≤ e ∧ o = rngL i q' ∧ OInts wr wb.heap.size v o ∧ Below wb.heap.size wb wr) (fun _ q _ => e - (intOf q).toNat)
              case atStart => exact ⟨i, [], rfl, Nat.le_refl _, by omega, (rngL_nil i).symm, OInts.nil _ _, Below.refl _ _⟩
              case round =>
                obtain ⟨q, o, rfl, hq1, hq2, ho, hP, hbq⟩ := hrel
                have HO := Lib.hid ho
                have hol : o.length ≤ 64 := by rw [ho, rngL_len]; omega
                have HP := Lib.hid hP
                have HBQ := Lib.hid hbq
                have hsq := hbq.size
                have x4q := (hbq.cell (p := ⟨bx, 4, none⟩) hbxl).trans x4
                have hcq := (hbq.cell (p := ⟨bn, on + 1, none⟩) hbnl).trans hcm
                obtain ⟨A', c', rfl, hc'⟩ := hP.slice
                clear ho hP hbq
                by_cases hqe : q < e
                · go_wp2_with (at_builtin; go_must (refine wpList_push_int rfl (.tmp 57) (.tmp 59) rfl HP.out (by omega) (by omega) _ rfl rfl ?_); intro v' w' hP' hE')
                  exact ⟨⟨q + 1, _, by go_num, by omega, by omega, by rw [rngL_succ hq1, HO.out], hP', HBQ.out.trans ((((Evo.alloc wb.heap.size 3 _ _).trans hE').below (by omega)))⟩, by simp [intOf] <;> omega⟩
                · obtain rfl : q = e := by omega
                  have HFIN : Hid (o = loopRes ts l (k : Nat)) := Lib.hid (by rw [HRGE.out]; exact HO.out)
                  go_wp2_with (at_builtin; fail)
                  go_ret
                  exact ⟨_, rfl, by rw [← HFIN.out]; exact HP.out.toS (by omega), HB3.out.trans ((HBB.out.trans (HBQ.out.mono HBB.out.size)).mono hs3)⟩
            · have hk1 : decide ((k : Int) ≥ (e : Int)) = true := by simp; omega
              have HEND : Hid (lastI (k + 1) (lpB (ptsP l) k) = lastI i (lpB (ptsP l) k)) := Lib.hid (by rw [HLA.out, HST.out, HFN.out, if_neg (by simpa using hke)])
              go_wp2_with (at_builtin; fail)
              exact ⟨⟨i, rfl, by omega, HEND.out, HBB.out⟩, by simp [intOf] <;> omega⟩
          · have h1 : (P.n != 0) = true := by simpa using hn
            have h2 : (P.op != 10) = false := by simpa using hop
            have HEND : Hid (lastI (k + 1) (lpB (ptsP l) k) = lastI i (lpB (ptsP l) k)) := Lib.hid (by rw [HLA.out, HST.out, if_neg]; unfold lpB; rw [HPG.out]; simp [hn])
            clear hop hn
            go_wp2_with (at_builtin; fail)
            exact ⟨⟨i, rfl, by omega, HEND.out, HBB.out⟩, by simp [intOf] <;> omega⟩
        · have h1 : (P.op != 10) = true := by simpa using hop
          have HEND : Hid (lastI (k + 1) (lpB (ptsP l) k) = lastI i (lpB (ptsP l) k)) := Lib.hid (by rw [HLA.out, HST.out, if_neg]; unfold lpB; rw [HPG.out]; simp [hop])
          clear hop
          go_wp2_with (at_builtin; fail)
          exact ⟨⟨i, rfl, by omega, HEND.out, HBB.out⟩, by simp [intOf] <;> omega⟩

end Go.Proofs.Ytmaaaiccmllnlaa
