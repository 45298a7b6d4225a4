import Derived.Test.YtmaaaiccmllnlaaG41
set_option linter.unusedVariables false

/- impl.indices, impl.PathsFrom. -/
namespace Go.Proofs.Ytmaaaiccmllnlaa
open Go.RowKit

set_option maxHeartbeats 4000000 in
set_option maxRecDepth 100000 in
theorem indices_any (g : Nat) (L : List Bool) (n : Nat) (w : World) (hr : RowB w g 4 (bv L)) (hn : n = L.length) (hg : g < w.heap.size) (h64 : n ≤ 64) :
    Calls Try.prog 77 #[.slice (some ⟨g, 0, none⟩) n n] w (IntsRet w (lst n fun i => L.getD i false)) := by
  subst hn
  have hcell : Hid (∀ i, i < L.length → w.cell? ⟨g, i, none⟩ = some (.bool (L.getD i false))) := Lib.hid fun i hi => by rw [hr.cell, bv_get hi]
  clear hr
  obtain ⟨n, hn⟩ : ∃ n, n = L.length := ⟨_, rfl⟩
  rw [← hn] at hcell h64 ⊢
  clear hn
  obtain ⟨f, hf⟩ : ∃ f : Nat → Bool, f = fun i => L.getD i false := ⟨_, rfl⟩
  have HF : Hid (∀ i, i < n → w.cell? ⟨g, i, none⟩ = some (.bool (f i))) := Lib.hid fun i hi => by rw [hcell.out i hi, hf]
  rw [← hf]
  clear hf hcell
  go_enter Try.func77, Try.ntmps77
  go_wp2_with (at_builtin; fail)
  go_loopw [3, 8] (fun v i wr => ∃ (j : Nat) (o : List Int), j ≤ n ∧ i = .int .i64 j ∧ o = lst j f ∧ OInts wr w.heap.size v o ∧ Below w.heap.size w wr) (fun _ i _ => n - (intOf i).toNat)
  case atStart => exact ⟨0, [], by omega, rfl, rfl, OInts.nil _ _, Below.refl _ _⟩
  case round =>
    obtain ⟨j, o, hj, rfl, ho, hP, hbw⟩ := hrel
    have HO := Lib.hid ho
    have hol : o.length ≤ j := by rw [ho]; exact lst_len _ _
    have HP := Lib.hid hP
    have HBW := Lib.hid hbw
    have hsw := hbw.size
    obtain ⟨A', c', rfl, hc'⟩ := hP.slice
    clear ho hP
    by_cases hjl : j < n
    · have hck := (hbw.cell (p := ⟨g, j, none⟩) hg).trans (HF.out j hjl)
      clear hbw
      cases hd : f j
      · rw [hd] at hck
        have HD := Lib.hid hd
        clear hd
        go_wp2_with (at_builtin; fail)
        exact ⟨⟨j + 1, o, by omega, by go_num, by rw [lst_succ_false HD.out]; exact HO.out, HP.out, HBW.out⟩, by simp [intOf] <;> omega⟩
      · rw [hd] at hck
        have HD := Lib.hid hd
        clear hd
        go_wp2_with (at_builtin; go_must (refine wpList_push_int rfl (.tmp 14) (.tmp 16) rfl HP.out (by omega) (by omega) _ rfl rfl ?_); intro v' w' hP' hE')
        exact ⟨⟨j + 1, _, by omega, by go_num, by rw [lst_succ_true HD.out, HO.out], hP', HBW.out.trans ((((Evo.alloc w.heap.size 3 _ _).trans hE').below (by omega)))⟩, by simp [intOf] <;> omega⟩
    · obtain rfl : j = n := by omega
      clear hbw
      go_wp2_with (at_builtin; fail)
      go_ret
      exact ⟨_, rfl, by rw [← HO.out]; exact HP.out.toS (by omega), HBW.out⟩

set_option maxHeartbeats 4000000 in
set_option maxRecDepth 100000 in
theorem iPathsFrom_any (vt vb : Value) (ts : List Int) (l : List St) (a : Int) (B : Nat) (w : World) (ht : IntS w B vt ts) (hl : StS w B vb l) (hB : B ≤ w.heap.size) (hsz : szL l ≤ 4194300) :
    Calls Try.prog 30 #[.agg #[vt, vb], .int .i64 a] w (IntsRet w (frRes l ts a)) := by
  have hb2 : ∀ o o', Below w.heap.size w ((w.alloc o).alloc o') := fun o o' => (bel_a w o).alloc (by simp) o'
  go_enter Try.func30, Try.ntmps30
  go_wp2_with fail
  refine (graphOf_any vt vb _ ts l [a] (w.heap.size + 2) _ ((ht.low (hb2 _ _) hB).more (by omega)) ((hl.low (hb2 _ _) hB).more (by omega)) (by simpa using ints_lit (w.alloc _) [a] 3 (by simp)) (by simp) hsz).mono ?_
  rintro e w1 ⟨vg, rfl, hgr, hb1⟩
  have hb3 := (hb2 _ _).trans (hb1.mono (by simp; omega))
  cases hok : graphOk ts l [a]
  · have HRES : Hid (frRes l ts a = []) := Lib.hid (by unfold frRes; rw [hok, if_neg (by simp)])
    clear hok hgr
    go_wp2_with fail
    go_ret
    exact ⟨_, rfl, by rw [HRES.out]; exact (OInts.nil w1 0).toS (by simp), hb3⟩
  · obtain ⟨hv, k, rfl, hk⟩ := graphOk_one hok
    have GD := Lib.hid (Good.of_valid hv)
    have hplen : (ptsP l).length ≤ 64 := by have := GD.out.len; omega
    have HGG := Lib.hid (hgr hok)
    have HRES : Hid (frRes l ts (k : Nat) = lst (ptsP l).length (fun i => (ldsL (ptsP l) k).getD i false)) := Lib.hid (by
      unfold frRes; rw [if_pos hok]
      refine lst_congr fun i hi => ?_
      rw [ldsL_get hi, Int.toNat_natCast])
    have hs3 := hb3.size
    have HF := Lib.hid (from_any _ ts (ptsP l) w1.heap.size k w1 HGG.out (Nat.le_refl _) GD.out hk)
    clear hok hgr hv
    go_wp2_with (at_builtin; fail)
    refine HF.out.mono ?_
    rintro e w2 ⟨g', rfl, hrow, hb4⟩
    have hgl := hrow.lt
    have HC := Lib.hid (indices_any g' (ldsL (ptsP l) k) _ w2 hrow (ldsL_len _ _).symm hgl hplen)
    have HB4 := Lib.hid (hb3.trans (hb4.mono hs3))
    clear hrow hb4
    go_wp2_with (at_builtin; fail)
    refine HC.out.mono ?_
    rintro e w3 ⟨v3, rfl, hv3, hb5⟩
    have HV3 := Lib.hid hv3
    have HB5 := Lib.hid (HB4.out.trans (hb5.mono HB4.out.size))
    clear hv3 hb5
    go_wp2_with (at_builtin; fail)
    go_ret
    exact ⟨_, rfl, by rw [HRES.out]; exact HV3.out, HB5.out⟩

end Go.Proofs.Ytmaaaiccmllnlaa
