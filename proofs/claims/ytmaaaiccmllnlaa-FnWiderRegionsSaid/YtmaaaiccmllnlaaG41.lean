import Derived.Test.YtmaaaiccmllnlaaG40
import Derived.Test.YtmaaaiccmllnlaaG25
import Derived.Test.YtmaaaiccmllnlaaG10
import Derived.Test.YtmaaaiccmllnlaaG12
import Derived.Test.YtmaaaiccmllnlaaG28
import Derived.Test.YtmaaaiccmllnlaaG38
set_option linter.unusedVariables false

/- FnWiderRegions: the plain law, the walk. -/
namespace Go.Proofs.Ytmaaaiccmllnlaa
open Go.RowKit

theorem wpList_push_wd {ops : Array Oper} {rest : List Oper} {o : Oper} {a : Act} {Q : Exit → Act → World → Prop} {w : World} {base k : Nat} {vo u : Value} (hgd : o.guard = none) (s x : Operand)
    (ho : o.op = .call { callee := .builtin .append, args := #[s, x], argTypes := #[27, 27] })
    (hP : w.ownsRow base 23 1 vo k (List.replicate k u)) (hu1 : u.oneCell' = true) (hb : base ≤ w.heap.size) (hn : k + 1 ≤ 100000)
    (hs : a.eval s = vo) (hx : a.eval x = .slice (some ⟨w.heap.size, 0, none⟩) 1 1)
    (h : ∀ (v' : Value) (w' : World), w'.ownsRow base 23 1 v' (k + 1) (List.replicate (k + 1) u) → Below base w w' → wpList Try.prog ops Q rest (a.put o.dst v') w') :
    wpList Try.prog ops Q (o :: rest) a (w.alloc (.cells #[u] 23)) := by
  obtain ⟨i0, hi0, hz0, hz1, hz2⟩ := info_parts Try.infoIs
  have hA := bel_a w (.cells #[u] 23)
  have hr := heap_alloc_new w (.cells #[u] 23)
  have hown := World.ownsRow.alloc hP (.cells #[u] 23)
  have hsW : (w.alloc (.cells #[u] 23)).heap.size = w.heap.size + 1 := by simp
  generalize w.alloc (.cells #[u] 23) = W at *
  refine wpList_append_own_at _ hgd s x 27 ho base 23 i0 _ 1 24 Try.underlying27 hi0 hz0 hz1 hz2 rfl (by omega) vo k _ hs hown ⟨w.heap.size, 0, none⟩ 1 1 [u] hx rfl ?_ ?_ (by simp only [maxLen]; omega) (by omega) (by omega) ?_
  · intro j u' hu'
    have hj : j = 0 := by
      rcases Nat.eq_zero_or_pos j with h | h
      · exact h
      · rw [List.getElem?_eq_none (by simp; omega)] at hu'; cases hu'
    subst hj
    have : W.cell? ⟨w.heap.size, 0, none⟩ = some u' := by
      rw [cell_of_row _ _ _ _ _ _ hr]
      simpa using hu'
    simpa [Addr.add] using this
  · intro u' hu'
    simp at hu'
    subst hu'; exact hu1
  · intro v' w' k1 k2 k3 k4
    refine h v' w' (by rw [List.replicate_succ']; exact k1) ((hA.mono hb).trans ⟨k2.os, k2.tape, k2.output, k2.size, fun i hi => k2.block i (by omega) fun e => ?_⟩)
    have := (hown.lt i e.symm).1
    omega
/-- rows that are all the same slice -/
theorem wd_rows {w : World} {base k : Nat} {v u : Value} {l : List Int} (h : w.ownsRow base 23 1 v k (List.replicate k u)) (hu : IntS w w.heap.size u l) (hk : k ≤ 100000) : IRw w w.heap.size v (List.replicate k l) := by
  rcases h.2 with ⟨rfl, h0⟩ | ⟨g, cap, cur, rfl, hb, hh, hc1, _, hc2, hc3⟩
  · have hk0 : k = 0 := by have := h.1; have := h0; first | omega | (simp at *; omega)
    subst hk0
    exact ⟨none, 0, fun _ => u, rfl, Nat.le_refl _, by simp, fun h => by simp at h, fun i hi => by simp at hi⟩
  · refine ⟨_, cap, fun _ => u, by rw [List.length_replicate], by rw [List.length_replicate]; exact hc1, by rw [List.length_replicate]; exact hk, fun _ => ⟨g, 0, rfl, row_lt hh, fun i hi => ?_⟩, fun i hi => ?_⟩
    · rw [List.length_replicate] at hi
      rw [Nat.zero_add, cell_of_row _ _ _ _ _ _ hh]
      have : (cur.toList.take (k * 1))[i]? = cur[i]? := by
        rw [List.getElem?_take, if_pos (by omega)]; simp
      rw [← this, hc3]
      simp [hi]
    · rw [List.length_replicate] at hi
      rw [getD_rep _ _ _ _ hi]; exact hu
def wideL (ls : List Ln) : List Int := ls.map fun x => ((x.pt : Nat) : Int)
theorem wideL_take (ls : List Ln) (k : Nat) (h : k < ls.length) : wideL (ls.take (k + 1)) = wideL (ls.take k) ++ [((ls[k].pt : Nat) : Int)] := by
  unfold wideL; rw [take_succ_get ls k h, List.map_append]; rfl
theorem wide_law (ts : List Int) (l : List St) : bhRes ts l (List.replicate ts.length (wideL (lnL (pointsP ts l) (pointsP ts l).length))) = validP ts l := by
  unfold bhRes
  cases hv : validP ts l
  · rfl
  · rw [List.length_replicate, beq_self_eq_true, Bool.true_and, Bool.true_and]
    have hp : pointsP ts l = ptsP l := by unfold pointsP; rw [if_pos hv]
    rw [hp]
    have hok := bds_ok (Good.of_valid hv)
    unfold bndP
    rw [List.all_eq_true]
    intro b hb
    have ho := hok b hb
    rw [getD_rep _ _ _ _ (show b.v.toNat < ts.length by have := ho.v0; have := ho.v1; omega)]
    rcases ho.alt with ⟨h1, h2, h3⟩ | ⟨h1, h2, h3⟩
    · rw [if_pos (by omega), hasP_iff]
      obtain ⟨i, p, hpi, hbi⟩ := bdsL_mem.1 hb
      rw [Nat.zero_add] at hbi
      rcases bdsPt_mem.1 hbi with ⟨hl, rfl⟩ | ⟨-, -, rfl⟩
      · have hi := (List.getElem?_eq_some_iff.1 hpi).1
        have hpd : ptD (ptsP l) i = p := by rw [ptD_get hi]; rw [List.getElem?_eq_getElem hi] at hpi; injection hpi
        unfold wideL
        refine List.mem_map.2 ⟨⟨i, p.op == 5, p.y⟩, ?_, rfl⟩
        unfold lnL
        refine List.mem_map.2 ⟨i, List.mem_filter.2 ⟨List.mem_range.2 hi, ?_⟩, ?_⟩
        · rw [hpd]; exact hl
        · rw [hpd]
      · simp at h2
    · rw [if_neg (by omega), getD_rep _ _ _ _ (show b.src.toNat < ts.length by omega), List.all_eq_true]
      intro x hx
      exact (hasP_iff _ _).2 hx

set_option maxHeartbeats 8000000
set_option maxRecDepth 100000
theorem fnWiderRegions_any (A : Option Addr) (n c : Nat) (w : World) (hb : Byt w w.heap.size A n) (hm : n ≤ maxLen) (hc : n ≤ c) :
    Calls Try.prog 3 #[.slice A n c] w (LawRet w) := by
  have HB := Lib.hid hb
  clear hb
  by_cases hn : n ≤ 1048576
  · go_enter Try.func3, Try.ntmps3
    go_wp2_with fail
    refine (drawBoundsHold_any A n c _ HB.out hn hc).mono ?_
    rintro e w1 ⟨vt, vb, vr, ts, l, rs, rfl, hit, hst, -, hts, hsz, -, -, hb1⟩
    have HP1 := Lib.hid (PgB.new hit hst hb1)
    obtain ⟨At, ct, rfl, hct⟩ := hit.slice
    obtain ⟨Ab, cb, rfl, hcb⟩ := hst.slice
    clear hit hst hb1
    go_wp2_with fail
    generalize w1.alloc (.cells #[.slice At ts.length ct, .slice Ab l.length cb] 26) = W1 at *
    obtain ⟨g, hg⟩ : ∃ g, g = w1.heap.size := ⟨_, rfl⟩
    rw [← hg] at HP1 ⊢
    clear hg
    refine (iLoansOf_any _ _ ts l _ _ HP1.out.ht HP1.out.hl (Nat.le_refl _) (by omega)).mono ?_
    rintro e w2 ⟨v2, rfl, hv2, hb2⟩
    have HV_2 := Lib.hid hv2
    have HP2 := Lib.hid (HP1.out.bels hb2)
    obtain ⟨A2, c2, rfl, hc2⟩ := hv2.slice
    have hlm : (lnL (pointsP ts l) (pointsP ts l).length).length ≤ 100000 := by obtain ⟨_, _, _, _, h, _⟩ := hv2; exact h
    have HWL := Lib.hid (wide_law ts l)
    clear hv2 hb2
    generalize lnL (pointsP ts l) (pointsP ts l).length = ls at *
    go_wp2_with (at_builtin; fail)
    go_loopw [6, 7] (fun v i wr => ∃ k : Nat, k ≤ ls.length ∧ i = .int .i64 k ∧ OInts wr w2.heap.size v (wideL (ls.take k)) ∧ Below w2.heap.size w2 wr) (fun _ i _ => ls.length - (intOf i).toNat)
    case atStart => exact ⟨0, Nat.zero_le _, rfl, OInts.empty w2 _ (Nat.le_refl _), bel_a _ _⟩
    case round =>
      obtain ⟨k, hk, rfl, hO, hbw⟩ := hrel
      have HO := Lib.hid hO
      have HBW := Lib.hid hbw
      have hsw := hbw.size
      have hol : (wideL (ls.take k)).length = k := by simp [wideL]; omega
      obtain ⟨A4, c4, rfl, hc4⟩ := hO.slice
      clear hO
      by_cases hlt : k < ls.length
      · obtain ⟨b, off, rfl, hbl, y0, -, -⟩ := (HV_2.out.bel hbw).get hlt
        have HSU := Lib.hid (wideL_take ls k hlt)
        generalize ls[k] = X at *
        have hwl : (wideL (ls.take k)).length ≤ 100000 := by omega
        generalize wideL (ls.take k) = o at *
        clear hbw hol
        go_wp2_with (at_builtin; go_must (refine wpList_push_int rfl (.tmp 28) (.tmp 34) rfl HO.out (by omega) (by omega) _ rfl rfl ?_); intro v' w' hP' hE')
        exact ⟨⟨k + 1, by omega, by go_num, by rw [HSU.out]; exact hP', HBW.out.trans ((((Evo.alloc w2.heap.size 3 _ _).trans hE').below (by omega)))⟩, by simp [intOf] <;> omega⟩
      · have hkl : k = ls.length := by omega
        have HO2 : Hid (OInts wr w2.heap.size (.slice A4 (wideL (ls.take k)).length c4) (wideL ls)) := Lib.hid (by have h := HO.out; rw [hkl, List.take_length] at h ⊢; exact h)
        have HA := Lib.hid (HO2.out.toS (by simp [wideL]; omega))
        have HP3 := Lib.hid (HP2.out.bels hbw)
        have c0 := HP3.out.c0
        have c1 := HP3.out.c1
        have hkf : decide ((k : Int) < (ls.length : Int)) = false := by simp; omega
        have hlg := HP3.out.lt
        clear HO HO2 hbw hkl hol
        generalize (wideL (ls.take k)).length = na at *
        generalize wideL ls = all at *
        obtain ⟨w3, hw3⟩ : ∃ w3 : World, w3 = wr := ⟨_, rfl⟩
        rw [← hw3] at HP3 HA c0 c1 hlg ⊢
        clear hw3
        have HE0 : Hid ((w3.alloc (.cells #[] 23)).ownsRow w3.heap.size 23 1 (.slice (some ⟨w3.heap.size, 0, none⟩) 0 0) 0 (List.replicate 0 (.slice A4 na c4))) := Lib.hid (World.ownsRow_lit (base := w3.heap.size) (e := 23) (size := 1) w3 #[] 0 (Nat.le_refl _) (by simp [maxLen]) rfl)
        go_wp2_with (at_builtin; fail)
        go_loopw [8, 9] (fun v i wr => ∃ k : Nat, k ≤ ts.length ∧ i = .int .i64 k ∧ wr.ownsRow w3.heap.size 23 1 v k (List.replicate k (.slice A4 na c4)) ∧ Below w3.heap.size w3 wr) (fun _ i _ => ts.length - (intOf i).toNat)
        case atStart => exact ⟨0, Nat.zero_le _, rfl, HE0.out, bel_a _ _⟩
        case round =>
          obtain ⟨k, hk, rfl, hO, hbw⟩ := hrel
          have HO := Lib.hid hO
          have HBW := Lib.hid hbw
          have hsw := hbw.size
          have HPW := Lib.hid (HP3.out.bels hbw)
          clear c0 c1 hbw
          have c0 := HPW.out.c0
          have c1 := HPW.out.c1
          by_cases hlt : k < ts.length
          · clear hO
            go_wp2_with (at_builtin; go_must (refine wpList_push_wd rfl (.tmp 44) (.tmp 46) rfl HO.out rfl (by omega) (by omega) rfl rfl ?_); intro v' w' hP' hE')
            exact ⟨⟨k + 1, by omega, by go_num, hP', HBW.out.trans hE'⟩, by simp [intOf] <;> omega⟩
          · have hkt : k = ts.length := by omega
            have HR := Lib.hid (wd_rows hO (HA.out.bel HBW.out) (by omega))
            rw [hkt] at HR
            have hkf : decide ((k : Int) < (ts.length : Int)) = false := by simp; omega
            clear hO HO hkt
            go_wp2_with (at_builtin; fail)
            refine (iBoundsHold_any _ _ _ ts l _ _ _ HPW.out.ht HPW.out.hl HR.out (Nat.le_refl _) (by omega)).mono ?_
            rintro e w5 ⟨rfl, hb5⟩
            have HP5 := Lib.hid (HPW.out.bels hb5)
            have HR5 := Lib.hid (HR.out.bel hb5)
            clear c0 c1 hb5
            have c0 := HP5.out.c0
            have c1 := HP5.out.c1
            rw [HWL.out]
            go_wp2_with (at_builtin; fail)
            refine (sBoundsHold_any _ _ _ ts l _ _ _ HP5.out.ht HP5.out.hl HR5.out (Nat.le_refl _) (by omega)).mono ?_
            rintro e w6 ⟨rfl, hb6⟩
            have HP6 := Lib.hid (HP5.out.bels hb6)
            clear c0 c1 hb6
            have c0 := HP6.out.c0
            have c1 := HP6.out.c1
            rw [HWL.out]
            have HC7 := Lib.hid (iProgramValid_any _ _ ts l _ _ HP6.out.ht HP6.out.hl (Nat.le_refl _) (by omega))
            generalize validP ts l = q at *
            have hq1 : (q == q) = true := by cases q <;> rfl
            go_wp2_with (at_builtin; fail)
            refine HC7.out.mono ?_
            rintro e w7 ⟨rfl, hb7⟩
            have HP7 := Lib.hid (HP6.out.bels hb7)
            clear hb7
            go_wp2_with (at_builtin; fail)
            go_ret
            exact ⟨rfl, HP7.out.bel⟩
  · have hn1 : (1048576 : Int) < n := by omega
    unfold maxLen at hm
    go_enter Try.func3, Try.ntmps3
    go_wp2_with fail
    go_ret
    exact ⟨rfl, Below.refl _ _⟩

end Go.Proofs.Ytmaaaiccmllnlaa
