import Derived.Test.YteaddodjijlpjaaG41
import Derived.Test.YteaddodjijlpjaaG42
set_option linter.unusedVariables false

/- impl.CellsOf, SettersOf, NumbersOf, MayAlias, UsersOf. -/
namespace Go.Proofs.Yteaddodjijlpjaa
open Go.RowKit

noncomputable def flS (s : Nat) (ts : List Int) (pts : List Pt) (G : Nat → Pt → Nat → Bool) (C : Pt → Bool) (i v : Nat) : List Int := lst s fun e => dec (Fl ts pts G C i v e)
theorem flS_bits {ts : List Int} {pts : List Pt} {G : Nat → Pt → Nat → Bool} {C : Pt → Bool} {fs : List Nat} {s i v : Nat} (h : ∀ i v e, stF fs i v e = true ↔ Fl ts pts G C i v e) (hv : v < 6) (hs : s ≤ 64) (hg : ∀ i p e, pts[i]? = some p → G i p e = true → e < s) :
    lst 64 (fs.getD (i * 6 + v) 0).testBit = flS s ts pts G C i v := by
  have e : ∀ e, (fs.getD (i * 6 + v) 0).testBit e = dec (Fl ts pts G C i v e) := fun e => by
    rw [Bool.eq_iff_iff, dec_iff, ← h i v e]; unfold stF; rw [decide_eq_true hv, Bool.true_and]
  unfold flS
  rw [← lst_congr fun i _ => e i, lst_more hs]
  intro e' h1 _
  rw [e, dec_false]
  intro hf
  have := hf.size hg
  omega
noncomputable def flRes (ts : List Int) (l : List St) (G : Nat → Pt → Nat → Bool) (C : Pt → Bool) (a v : Int) : List Int := if graphOk ts l [a] = true ∧ withinP v 0 ((ts.length : Int) - 1) = true then flS (ptsP l).length ts (ptsP l) G C a.toNat v.toNat else []

set_option maxHeartbeats 1000000 in
theorem iCellsOf_any (vt vb : Value) (ts : List Int) (l : List St) (a v : Int) (B : Nat) (w : World) (ht : IntS w B vt ts) (hl : StS w B vb l) (hB : B ≤ w.heap.size) (hsz : szL l ≤ 4194300) :
    Calls Try.prog 18 #[.agg #[vt, vb], .int .i64 a, .int .i64 v] w (IntsRet w (flRes ts l Gcell Ccell a v)) := by
  have hb2 : ∀ o o', Below w.heap.size w ((w.alloc o).alloc o') := fun o o' => (bel_a w o).alloc (by simp) o'
  go_enter Try.func18, Try.ntmps18
  go_wp2_with fail
  refine (graphOf_any vt vb _ ts l [a] (w.heap.size + 2) _ ((ht.low (hb2 _ _) hB).more (by omega)) ((hl.low (hb2 _ _) hB).more (by omega)) (by simpa using ints_lit (w.alloc _) [a] 3 (by simp)) (by simp) hsz).mono ?_
  rintro e w1 ⟨vg, rfl, hgr, hb1⟩
  have hb3 := (hb2 _ _).trans (hb1.mono (by simp; omega))
  cases hok : graphOk ts l [a]
  · have HRES : Hid (flRes ts l Gcell Ccell a v = []) := Lib.hid (by unfold flRes; rw [hok, if_neg (by simp)])
    clear hok hgr
    go_wp2_with fail
    go_ret
    exact ⟨_, rfl, by rw [HRES.out]; exact (OInts.nil w1 0).toS (by simp), hb3⟩
  · obtain ⟨hv, k, rfl, hk⟩ := graphOk_one hok
    have G := Good.of_valid hv
    have hgg := hgr hok
    have hs3 := hb3.size
    cases hwv : withinP v 0 ((ts.length : Int) - 1)
    · have HRES : Hid (flRes ts l Gcell Ccell k v = []) := Lib.hid (by unfold flRes; rw [hwv, if_neg (by simp)])
      have HWV := Lib.hid hwv
      clear hok hgr hv hwv
      go_wp2_with fail
      refine (isVar_any vg ts (ptsP l) _ v _ hgg).mono ?_
      rintro e w' ⟨rfl, rfl⟩
      rw [HWV.out]
      go_wp2_with fail
      go_ret
      exact ⟨_, rfl, by rw [HRES.out]; exact (OInts.nil w1 0).toS (by simp), hb3⟩
    · have hv0 : 0 ≤ v ∧ v < ts.length := by simp [withinP] at hwv; omega
      have HRES : Hid (flRes ts l Gcell Ccell k v = flS (ptsP l).length ts (ptsP l) Gcell Ccell k v.toNat) := Lib.hid (by unfold flRes; rw [if_pos ⟨hok, hwv⟩]; rfl)
      have HWV := Lib.hid hwv
      have HGT := Lib.hid (cells_any vg ts (ptsP l) _ _ hgg (Nat.le_refl _) G)
      obtain ⟨x, rfl⟩ : ∃ x : Nat, v = x := ⟨v.toNat, by omega⟩
      have hx : x < ts.length := by omega
      have h6 := G.h6
      have hplen := G.len
      clear hok hgr hv hwv hv0
      go_wp2_with fail
      refine (isVar_any vg ts (ptsP l) _ _ _ hgg).mono ?_
      rintro e w' ⟨rfl, rfl⟩
      rw [HWV.out]
      go_wp2_with fail
      refine HGT.out.mono ?_
      rintro e w2 ⟨g', fs, rfl, -, hrow, hfl, hsm, hst, hb4⟩
      have hck : w2.cell? ⟨g', k * 6 + x, none⟩ = some (.int .u64 (fs.getD (k * 6 + x) 0 : Nat)) := by rw [hrow.cell, uv_get (by omega)]
      have HBI := Lib.hid (flS_bits (i := k) (v := x) (s := (ptsP l).length) hst (by omega) (by omega) (Gcell_lt hplen))
      have hm64 := getD_small hsm (k * 6 + x)
      clear hst hrow hfl hsm
      generalize fs.getD (k * 6 + x) 0 = m at *
      have HLB := Lib.hid (loanBits_any m hm64 w2)
      clear hm64
      go_wp2_with fail
      refine HLB.out.mono ?_
      rintro e w3 ⟨v3, rfl, hi3, hb5⟩
      go_wp2_with fail
      go_ret
      rw [HBI.out] at hi3
      exact ⟨v3, rfl, by rw [HRES.out]; exact hi3, (hb3.trans (hb4.mono hs3)).trans (hb5.mono (by have := hb4.size; omega))⟩

set_option maxHeartbeats 1000000 in
theorem iSettersOf_any (vt vb : Value) (ts : List Int) (l : List St) (a v : Int) (B : Nat) (w : World) (ht : IntS w B vt ts) (hl : StS w B vb l) (hB : B ≤ w.heap.size) (hsz : szL l ≤ 4194300) :
    Calls Try.prog 32 #[.agg #[vt, vb], .int .i64 a, .int .i64 v] w (IntsRet w (flRes ts l Gset Cset a v)) := by
  have hb2 : ∀ o o', Below w.heap.size w ((w.alloc o).alloc o') := fun o o' => (bel_a w o).alloc (by simp) o'
  go_enter Try.func32, Try.ntmps32
  go_wp2_with fail
  refine (graphOf_any vt vb _ ts l [a] (w.heap.size + 2) _ ((ht.low (hb2 _ _) hB).more (by omega)) ((hl.low (hb2 _ _) hB).more (by omega)) (by simpa using ints_lit (w.alloc _) [a] 3 (by simp)) (by simp) hsz).mono ?_
  rintro e w1 ⟨vg, rfl, hgr, hb1⟩
  have hb3 := (hb2 _ _).trans (hb1.mono (by simp; omega))
  cases hok : graphOk ts l [a]
  · have HRES : Hid (flRes ts l Gset Cset a v = []) := Lib.hid (by unfold flRes; rw [hok, if_neg (by simp)])
    clear hok hgr
    go_wp2_with fail
    go_ret
    exact ⟨_, rfl, by rw [HRES.out]; exact (OInts.nil w1 0).toS (by simp), hb3⟩
  · obtain ⟨hv, k, rfl, hk⟩ := graphOk_one hok
    have G := Good.of_valid hv
    have hgg := hgr hok
    have hs3 := hb3.size
    cases hwv : withinP v 0 ((ts.length : Int) - 1)
    · have HRES : Hid (flRes ts l Gset Cset k v = []) := Lib.hid (by unfold flRes; rw [hwv, if_neg (by simp)])
      have HWV := Lib.hid hwv
      clear hok hgr hv hwv
      go_wp2_with fail
      refine (isVar_any vg ts (ptsP l) _ v _ hgg).mono ?_
      rintro e w' ⟨rfl, rfl⟩
      rw [HWV.out]
      go_wp2_with fail
      go_ret
      exact ⟨_, rfl, by rw [HRES.out]; exact (OInts.nil w1 0).toS (by simp), hb3⟩
    · have hv0 : 0 ≤ v ∧ v < ts.length := by simp [withinP] at hwv; omega
      have HRES : Hid (flRes ts l Gset Cset k v = flS (ptsP l).length ts (ptsP l) Gset Cset k v.toNat) := Lib.hid (by unfold flRes; rw [if_pos ⟨hok, hwv⟩]; rfl)
      have HWV := Lib.hid hwv
      have HGT := Lib.hid (setters_any vg ts (ptsP l) _ _ hgg (Nat.le_refl _) G)
      obtain ⟨x, rfl⟩ : ∃ x : Nat, v = x := ⟨v.toNat, by omega⟩
      have hx : x < ts.length := by omega
      have h6 := G.h6
      have hplen := G.len
      clear hok hgr hv hwv hv0
      go_wp2_with fail
      refine (isVar_any vg ts (ptsP l) _ _ _ hgg).mono ?_
      rintro e w' ⟨rfl, rfl⟩
      rw [HWV.out]
      go_wp2_with fail
      refine HGT.out.mono ?_
      rintro e w2 ⟨g', fs, rfl, -, hrow, hfl, hsm, hst, hb4⟩
      have hck : w2.cell? ⟨g', k * 6 + x, none⟩ = some (.int .u64 (fs.getD (k * 6 + x) 0 : Nat)) := by rw [hrow.cell, uv_get (by omega)]
      have HBI := Lib.hid (flS_bits (i := k) (v := x) (s := (ptsP l).length) hst (by omega) (by omega) (Gset_lt hplen))
      have hm64 := getD_small hsm (k * 6 + x)
      clear hst hrow hfl hsm
      generalize fs.getD (k * 6 + x) 0 = m at *
      have HLB := Lib.hid (loanBits_any m hm64 w2)
      clear hm64
      go_wp2_with fail
      refine HLB.out.mono ?_
      rintro e w3 ⟨v3, rfl, hi3, hb5⟩
      go_wp2_with fail
      go_ret
      rw [HBI.out] at hi3
      exact ⟨v3, rfl, by rw [HRES.out]; exact hi3, (hb3.trans (hb4.mono hs3)).trans (hb5.mono (by have := hb4.size; omega))⟩

theorem Gnum_lt {ts : List Int} {pts : List Pt} (gd : Good ts pts) : ∀ i p e, pts[i]? = some p → Gnum i p e = true → e < 10 := fun i p e hp h => by
  have hn := gd.n hp
  simp only [Gnum, Bool.or_eq_true, Bool.and_eq_true, beq_iff_eq, decide_eq_true_eq] at h
  rcases h with h | h
  · have := hn (by omega); omega
  · exact h.2
noncomputable def numRes (ts : List Int) (l : List St) (a v : Int) : List Int := if graphOk ts l [a] = true ∧ withinP v 0 ((ts.length : Int) - 1) = true ∧ typeOfP ts v = 1 then flS 10 ts (ptsP l) Gnum Cnum a.toNat v.toNat else []
set_option maxHeartbeats 1000000 in
theorem iNumbersOf_any (vt vb : Value) (ts : List Int) (l : List St) (a v : Int) (B : Nat) (w : World) (ht : IntS w B vt ts) (hl : StS w B vb l) (hB : B ≤ w.heap.size) (hsz : szL l ≤ 4194300) :
    Calls Try.prog 26 #[.agg #[vt, vb], .int .i64 a, .int .i64 v] w (IntsRet w (numRes ts l a v)) := by
  have hb2 : ∀ o o', Below w.heap.size w ((w.alloc o).alloc o') := fun o o' => (bel_a w o).alloc (by simp) o'
  have hmf : ∀ (fn : Fn) (first cap : Array Value) (w : World), (Instr.makeFunc fn first cap).run Try.prog w = .ok (.func fn first cap) w := fun _ _ _ _ => rfl
  have HMF := Lib.hid hmf
  clear hmf
  go_enter Try.func26, Try.ntmps26
  go_wp2_with fail
  refine (graphOf2_any vt vb _ ts l [a] (w.heap.size + 2) _ ((ht.low (hb2 _ _) hB).more (by omega)) ((hl.low (hb2 _ _) hB).more (by omega)) (by simpa using ints_lit (w.alloc _) [a] 3 (by simp)) (by simp) hsz).mono ?_
  rintro e w1 ⟨vg, rfl, hgr, hb1, hnil⟩
  have hb3 := (hb2 _ _).trans (hb1.mono (by simp; omega))
  have hs3 := hb3.size
  cases hok : graphOk ts l [a]
  · have HRES : Hid (numRes ts l a v = []) := Lib.hid (by unfold numRes; rw [hok, if_neg (by simp)])
    obtain rfl := hnil hok
    clear hok hgr hnil
    go_wp2_with fail
    go_ret
    exact ⟨_, rfl, by rw [HRES.out]; exact (OInts.nil _ 0).toS (by simp), hb3.alloc hs3 _⟩
  · obtain ⟨hv, k, rfl, hk⟩ := graphOk_one hok
    clear hnil
    have G := Good.of_valid hv
    have hgg := hgr hok
    have h6 := G.h6
    have hplen := G.len
    have hgg' := hgg
    obtain ⟨g, At, ct, vb', Al, cl, rfl, hgB, -⟩ := hgg'.open_
    have hba := bel_a w1 (.cells #[.pointer (some ⟨g, 0, none⟩)] 62)
    have hg2 := hgg.low hba (Nat.le_refl _)
    have hcap : (w1.alloc (.cells #[.pointer (some ⟨g, 0, none⟩)] 62)).cell? ⟨w1.heap.size, 0, none⟩ = some (.pointer (some ⟨g, 0, none⟩)) := cell_of_row _ _ _ _ _ _ (heap_alloc_new w1 _)
    have hcl : w1.heap.size < (w1.alloc (.cells #[.pointer (some ⟨g, 0, none⟩)] 62)).heap.size := by simp
    have HBA := Lib.hid (hb3.trans (hba.mono hs3))
    have HG2 := Lib.hid hg2
    cases hwv : withinP v 0 ((ts.length : Int) - 1)
    · have HRES : Hid (numRes ts l k v = []) := Lib.hid (by unfold numRes; rw [hwv, if_neg (by simp)])
      have HWV := Lib.hid hwv
      clear hok hgr hv hwv hcap
      go_wp2_with fail
      refine (isVar_any _ ts (ptsP l) _ v _ HG2.out).mono ?_
      rintro e w' ⟨rfl, rfl⟩
      rw [HWV.out]
      go_wp2_with fail
      go_ret
      exact ⟨_, rfl, by rw [HRES.out]; exact (OInts.nil _ 0).toS (by simp), HBA.out⟩
    · have hv0 : 0 ≤ v ∧ v < ts.length := by simp [withinP] at hwv; omega
      have hv1 := hv0.1
      have hv2 := hv0.2
      obtain ⟨g', At', ct', vb2, Al', cl', e, hgB', g0, g1, g2, ht', hps, -, -⟩ := hg2.open_
      injection e with e
      injection e with e
      injection e with e
      subst e
      obtain ⟨bt, ot, ct2, e, hbt, -, -, hct⟩ := ht'.get hv1 hv2
      injection e with e1 e9 e2
      subst e1 e2
      clear e9
      have HWV := Lib.hid hwv
      by_cases hty : typeOfP ts v = 1
      · have HRES : Hid (numRes ts l k v = flS 10 ts (ptsP l) Gnum Cnum k v.toNat) := Lib.hid (by unfold numRes; rw [if_pos ⟨hok, hwv, hty⟩]; rfl)
        have HGT := Lib.hid (tracked_any _ ts (ptsP l) _ (w1.alloc (.cells #[.pointer (some ⟨g, 0, none⟩)] 62)) 66 #[.pointer (some ⟨w1.heap.size, 0, none⟩)] Gnum Cnum numbers_enter
          (numbers_sets _ _ _ w1.heap.size ts (ptsP l) hg2 hba.size hcap hcl G) hg2 hba.size G (fun i p e hp h => by have := Gnum_lt G i p e hp h; omega))
        have HLT := Lib.hid (Gnum_lt G)
        clear hok hgr hv hwv hv0 hps
        obtain ⟨x, rfl⟩ : ∃ x : Nat, v = x := ⟨v.toNat, by omega⟩
        have hx : x < ts.length := by omega
        rw [hty] at hct
        simp only [Int.toNat_natCast] at hct
        clear hty G
        go_wp2_with fail
        refine (isVar_any _ ts (ptsP l) _ _ _ HG2.out).mono ?_
        rintro e w' ⟨rfl, rfl⟩
        rw [HWV.out]
        have hmf := HMF.out
        go_wp2_with fail
        refine HGT.out.mono ?_
        rintro e w2 ⟨g', fs, rfl, -, hrow, hfl, hsm, hst, hb4⟩
        have hck : w2.cell? ⟨g', k * 6 + x, none⟩ = some (.int .u64 (fs.getD (k * 6 + x) 0 : Nat)) := by rw [hrow.cell, uv_get (by omega)]
        have HBI := Lib.hid (flS_bits (i := k) (v := x) (s := 10) hst (by omega) (by omega) HLT.out)
        have hm64 := getD_small hsm (k * 6 + x)
        clear hst hrow hfl hsm hmf
        generalize fs.getD (k * 6 + x) 0 = m at *
        have HLB := Lib.hid (loanBits_any m hm64 w2)
        clear hm64
        go_wp2_with fail
        refine HLB.out.mono ?_
        rintro e w3 ⟨v3, rfl, hi3, hb5⟩
        go_wp2_with fail
        go_ret
        rw [HBI.out] at hi3
        exact ⟨v3, rfl, by rw [HRES.out]; exact hi3, (HBA.out.trans (hb4.mono HBA.out.size)).trans (hb5.mono (by have := hb4.size; have := HBA.out.size; omega))⟩
      · have HRES : Hid (numRes ts l k v = []) := Lib.hid (by unfold numRes; rw [if_neg (fun h => hty h.2.2)])
        have hty2 : ((typeOfP ts v) != 1) = true := by simpa using hty
        clear hok hgr hv hwv hcap hv0 hps
        go_wp2_with fail
        refine (isVar_any _ ts (ptsP l) _ v _ HG2.out).mono ?_
        rintro e w' ⟨rfl, rfl⟩
        rw [HWV.out]
        go_wp2_with fail
        go_ret
        exact ⟨_, rfl, by rw [HRES.out]; exact (OInts.nil _ 0).toS (by simp), HBA.out⟩

end Go.Proofs.Yteaddodjijlpjaa
