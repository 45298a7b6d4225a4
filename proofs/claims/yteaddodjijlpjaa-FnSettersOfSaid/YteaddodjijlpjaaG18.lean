import Derived.Test.YteaddodjijlpjaaG14
import Derived.Test.YteaddodjijlpjaaG15
import Derived.Test.YteaddodjijlpjaaG16
import Derived.Test.YteaddodjijlpjaaG17
set_option linter.unusedVariables false

namespace Go.Proofs.Yteaddodjijlpjaa
open Go.RowKit

theorem graphOk_one {ts : List Int} {l : List St} {a : Int} (h : graphOk ts l [a] = true) : validP ts l = true ∧ ∃ k : Nat, a = k ∧ k < (ptsP l).length := by
  simp only [graphOk, Bool.and_eq_true, List.all_cons, List.all_nil, Bool.and_true, withinP, decide_eq_true_eq] at h
  exact ⟨h.1, a.toNat, by omega, by omega⟩
theorem graphOk_nil {ts : List Int} {l : List St} : graphOk ts l [] = validP ts l := by simp [graphOk]

set_option maxHeartbeats 400000 in
theorem maybeSet_any (vg : Value) (ts : List Int) (pts : List Pt) (B : Nat) (w : World) (hg : GrS w B vg ts pts) (hB : B ≤ w.heap.size) (g : Good ts pts) :
    Calls Try.prog 64 #[vg] w (IntsRet w (msk (fwdL false ts pts 0))) := by
  have F := forward_may vg ts pts B 0 w hg hB g.h6 (by have := g.len; omega) (Nat.two_pow_pos _) g.next (fun p hp => (g.ok p hp).sets) g.pos
  have HF := Lib.hid F
  clear F
  have hmf : ∀ (fn : Fn) (first cap : Array Value) (w : World), (Instr.makeFunc fn first cap).run Try.prog w = .ok (.func fn first cap) w := fun _ _ _ _ => rfl
  go_enter Try.func64, Try.ntmps64
  go_wp2_with fail
  refine HF.out.mono ?_
  rintro e w1 ⟨v, rfl, h1, h2⟩
  go_wp2_with fail
  go_ret
  exact ⟨v, rfl, h1, h2⟩

set_option maxHeartbeats 400000 in
theorem alwaysSet_any (vg : Value) (ts : List Int) (pts : List Pt) (B given : Nat) (w : World) (hg : GrS w B vg ts pts) (hB : B ≤ w.heap.size) (g : Good ts pts) (hgv : given < 2 ^ ts.length) :
    Calls Try.prog 85 #[vg, .int .i64 (given : Nat)] w (IntsRet w (msk (fwdL true ts pts given))) := by
  have F := forward_always vg ts pts B given w hg hB g.h6 (by have := g.len; omega) hgv g.next (fun p hp => (g.ok p hp).sets) g.pos
  have HF := Lib.hid F
  clear F
  have hmf : ∀ (fn : Fn) (first cap : Array Value) (w : World), (Instr.makeFunc fn first cap).run Try.prog w = .ok (.func fn first cap) w := fun _ _ _ _ => rfl
  go_enter Try.func85, Try.ntmps85
  go_wp2_with fail
  refine HF.out.mono ?_
  rintro e w1 ⟨v, rfl, h1, h2⟩
  go_wp2_with fail
  go_ret
  exact ⟨v, rfl, h1, h2⟩

noncomputable def maybeRes (ts : List Int) (l : List St) (a : Int) : List Int := if graphOk ts l [a] = true then maybeAt ts (ptsP l) a.toNat else []

set_option maxHeartbeats 1000000 in
theorem iMaybeSet_any (vt vb : Value) (ts : List Int) (l : List St) (a : Int) (B : Nat) (w : World) (ht : IntS w B vt ts) (hl : StS w B vb l) (hB : B ≤ w.heap.size) (hsz : szL l ≤ 4194300) :
    Calls Try.prog 24 #[.agg #[vt, vb], .int .i64 a] w (IntsRet w (maybeRes ts l a)) := by
  have hb2 : ∀ o o', Below w.heap.size w ((w.alloc o).alloc o') := fun o o' => (bel_a w o).alloc (by simp) o'
  go_enter Try.func24, Try.ntmps24
  go_wp2_with fail
  refine (graphOf_any vt vb _ ts l [a] (w.heap.size + 2) _ ((ht.low (hb2 _ _) hB).more (by omega)) ((hl.low (hb2 _ _) hB).more (by omega)) (by simpa using ints_lit (w.alloc _) [a] 3 (by simp)) (by simp) hsz).mono ?_
  rintro e w1 ⟨vg, rfl, hgr, hb1⟩
  have hb3 := (hb2 _ _).trans (hb1.mono (by simp; omega))
  cases hok : graphOk ts l [a]
  · have HOK := Lib.hid hok
    clear hok hgr
    go_wp2_with fail
    go_ret
    exact ⟨_, rfl, by unfold maybeRes; rw [HOK.out]; exact (OInts.nil w1 0).toS (by simp), hb3⟩
  · obtain ⟨hv, k, rfl, hk⟩ := graphOk_one hok
    have G := Good.of_valid hv
    have hgg := hgr hok
    have HOK := Lib.hid hok
    have HRES : Hid (maybeRes ts l (k : Int) = maybeAt ts (ptsP l) k) := by unfold maybeRes; rw [if_pos hok]; rfl
    clear hok hgr hv
    have hs3 := hb3.size
    go_wp2_with fail
    refine (maybeSet_any vg ts (ptsP l) _ _ hgg (Nat.le_refl _) G).mono ?_
    rintro e w2 ⟨vm, rfl, him, hb4⟩
    obtain ⟨Am, cm, rfl, hcm, hlm, hrm⟩ := him
    have hkm : k < (msk (fwdL false ts (ptsP l) 0)).length := by simp [msk, fwdL]; exact hk
    obtain ⟨b, off, rfl, hb, hcell⟩ := hrm.int_at hkm
    have hck := hcell k hkm
    rw [msk_get (by simpa [fwdL] using hk), fwdL_get hk] at hck
    have hml : (msk (fwdL false ts (ptsP l) 0)).length = (ptsP l).length := by simp [msk, fwdL]
    rw [hml] at hlm hcm hkm ⊢
    have hbb := (bits_any (fwdM false ts (ptsP l) 0 k) (bm_lt64 G.h6 _) w2)
    have HBB := Lib.hid hbb
    clear hcell hbb hml
    generalize hmk : fwdM false ts (ptsP l) 0 k = mk at *
    have HMK := Lib.hid hmk
    clear hmk
    go_wp2_with fail
    refine HBB.out.mono ?_
    rintro e w3 ⟨v3, rfl, hi3, hb5⟩
    go_wp2_with fail
    go_ret
    exact ⟨v3, rfl, by rw [HRES.out, ← maybe_bits G.h6, HMK.out]; exact hi3, (hb3.trans (hb4.mono hs3)).trans (hb5.mono (by have := hb4.size; omega))⟩

noncomputable def alwaysRes (ts : List Int) (l : List St) (a : Int) : List Int := if graphOk ts l [a] = true then alwaysAt ts (ptsP l) 0 a.toNat else []

set_option maxHeartbeats 1000000 in
theorem iAlwaysSet_any (vt vb : Value) (ts : List Int) (l : List St) (a : Int) (B : Nat) (w : World) (ht : IntS w B vt ts) (hl : StS w B vb l) (hB : B ≤ w.heap.size) (hsz : szL l ≤ 4194300) :
    Calls Try.prog 44 #[.agg #[vt, vb], .int .i64 a] w (IntsRet w (alwaysRes ts l a)) := by
  have hb2 : ∀ o o', Below w.heap.size w ((w.alloc o).alloc o') := fun o o' => (bel_a w o).alloc (by simp) o'
  go_enter Try.func44, Try.ntmps44
  go_wp2_with fail
  refine (graphOf_any vt vb _ ts l [a] (w.heap.size + 2) _ ((ht.low (hb2 _ _) hB).more (by omega)) ((hl.low (hb2 _ _) hB).more (by omega)) (by simpa using ints_lit (w.alloc _) [a] 3 (by simp)) (by simp) hsz).mono ?_
  rintro e w1 ⟨vg, rfl, hgr, hb1⟩
  have hb3 := (hb2 _ _).trans (hb1.mono (by simp; omega))
  cases hok : graphOk ts l [a]
  · have HOK := Lib.hid hok
    clear hok hgr
    go_wp2_with fail
    go_ret
    exact ⟨_, rfl, by unfold alwaysRes; rw [HOK.out]; exact (OInts.nil w1 0).toS (by simp), hb3⟩
  · obtain ⟨hv, k, rfl, hk⟩ := graphOk_one hok
    have G := Good.of_valid hv
    have hgg := hgr hok
    have HOK := Lib.hid hok
    have HRES : Hid (alwaysRes ts l (k : Int) = alwaysAt ts (ptsP l) 0 k) := by unfold alwaysRes; rw [if_pos hok]; rfl
    clear hok hgr hv
    have hs3 := hb3.size
    go_wp2_with fail
    refine (alwaysSet_any vg ts (ptsP l) _ 0 _ hgg (Nat.le_refl _) G (Nat.two_pow_pos _)).mono ?_
    rintro e w2 ⟨vm, rfl, him, hb4⟩
    obtain ⟨Am, cm, rfl, hcm, hlm, hrm⟩ := him
    have hkm : k < (msk (fwdL true ts (ptsP l) 0)).length := by simp [msk, fwdL]; exact hk
    obtain ⟨b, off, rfl, hb, hcell⟩ := hrm.int_at hkm
    have hck := hcell k hkm
    rw [msk_get (by simpa [fwdL] using hk), fwdL_get hk] at hck
    have hml : (msk (fwdL true ts (ptsP l) 0)).length = (ptsP l).length := by simp [msk, fwdL]
    rw [hml] at hlm hcm hkm ⊢
    have hbb := (bits_any (fwdM true ts (ptsP l) 0 k) (bm_lt64 G.h6 _) w2)
    have HBB := Lib.hid hbb
    clear hcell hbb hml
    generalize hmk : fwdM true ts (ptsP l) 0 k = mk at *
    have HMK := Lib.hid hmk
    clear hmk
    go_wp2_with fail
    refine HBB.out.mono ?_
    rintro e w3 ⟨v3, rfl, hi3, hb5⟩
    go_wp2_with fail
    go_ret
    exact ⟨v3, rfl, by rw [HRES.out, ← always_bits G.h6, HMK.out]; exact hi3, (hb3.trans (hb4.mono hs3)).trans (hb5.mono (by have := hb4.size; omega))⟩

noncomputable def liveRes (ts : List Int) (l : List St) (a : Int) : List Int := if graphOk ts l [a] = true then liveAt ts (ptsP l) a.toNat else []

set_option maxHeartbeats 1000000 in
theorem iLiveAfter_any (vt vb : Value) (ts : List Int) (l : List St) (a : Int) (B : Nat) (w : World) (ht : IntS w B vt ts) (hl : StS w B vb l) (hB : B ≤ w.heap.size) (hsz : szL l ≤ 4194300) :
    Calls Try.prog 35 #[.agg #[vt, vb], .int .i64 a] w (IntsRet w (liveRes ts l a)) := by
  have hb2 : ∀ o o', Below w.heap.size w ((w.alloc o).alloc o') := fun o o' => (bel_a w o).alloc (by simp) o'
  go_enter Try.func35, Try.ntmps35
  go_wp2_with fail
  refine (graphOf_any vt vb _ ts l [a] (w.heap.size + 2) _ ((ht.low (hb2 _ _) hB).more (by omega)) ((hl.low (hb2 _ _) hB).more (by omega)) (by simpa using ints_lit (w.alloc _) [a] 3 (by simp)) (by simp) hsz).mono ?_
  rintro e w1 ⟨vg, rfl, hgr, hb1⟩
  have hb3 := (hb2 _ _).trans (hb1.mono (by simp; omega))
  cases hok : graphOk ts l [a]
  · have HOK := Lib.hid hok
    clear hok hgr
    go_wp2_with fail
    go_ret
    exact ⟨_, rfl, by unfold liveRes; rw [HOK.out]; exact (OInts.nil w1 0).toS (by simp), hb3⟩
  · obtain ⟨hv, k, rfl, hk⟩ := graphOk_one hok
    have G := Good.of_valid hv
    have hgg := hgr hok
    have HOK := Lib.hid hok
    have HRES : Hid (liveRes ts l (k : Int) = liveAt ts (ptsP l) k) := by unfold liveRes; rw [if_pos hok]; rfl
    clear hok hgr hv
    have hs3 := hb3.size
    go_wp2_with fail
    refine (needed_any vg ts (ptsP l) _ _ hgg (Nat.le_refl _) G.h6 (by have := G.len; omega) G.next (fun p hp => (G.ok p hp).sets)).mono ?_
    rintro e w2 ⟨vm, rfl, him, hb4⟩
    have hsm : ∀ m ∈ ndL ts (ptsP l), m < 64 := by
      intro m hm
      simp only [ndL, List.mem_map] at hm
      obtain ⟨i, _, rfl⟩ := hm
      exact bm_lt64 G.h6 _
    have HA := Lib.hid (after_any vg vm ts (ptsP l) (ndL ts (ptsP l)) w2.heap.size k w2 ((hgg.low hb4 (Nat.le_refl _)).more hb4.size) him hsm hk (fun j hj => by simp [ndL]; exact G.next _ (List.getElem_mem hk) j hj))
    have HBB := Lib.hid (bits_any (orL (ndL ts (ptsP l)) (ptsP l)[k].next) (orL_lt hsm _) w2)
    have HLB := Lib.hid (live_bits G hk)
    clear him hsm
    go_wp2_with fail
    refine HA.out.mono ?_
    rintro e w' ⟨rfl, rfl⟩
    go_wp2_with fail
    refine HBB.out.mono ?_
    rintro e w3 ⟨v3, rfl, hi3, hb5⟩
    go_wp2_with fail
    go_ret
    exact ⟨v3, rfl, by rw [HRES.out, ← HLB.out]; exact hi3, (hb3.trans (hb4.mono hs3)).trans (hb5.mono (by have := hb4.size; omega))⟩


end Go.Proofs.Yteaddodjijlpjaa
