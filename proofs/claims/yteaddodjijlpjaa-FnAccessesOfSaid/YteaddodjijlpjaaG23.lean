import Derived.Test.YteaddodjijlpjaaG21
import Derived.Test.YteaddodjijlpjaaG10
import Derived.Test.YteaddodjijlpjaaG20
import Derived.Test.YteaddodjijlpjaaG22
set_option linter.unusedVariables false

/- spec.LiveAfter, spec.NeedsOf. -/
namespace Go.Proofs.Yteaddodjijlpjaa
open Go.RowKit

theorem IntS.nil' (w : World) (B : Nat) (A : Option Addr) (c : Nat) : IntS w B (.slice A 0 c) [] := ⟨A, c, rfl, Nat.zero_le _, by simp, Rd.nil⟩
/-- the box of a program's two slices, in a world behind it -/
structure Boxed (w W : World) (B : Nat) (vt vb : Value) (ts : List Int) (l : List St) : Prop where
  bel : Below w.heap.size w W
  lt : w.heap.size < W.heap.size
  c0 : W.cell? ⟨w.heap.size, 0, none⟩ = some vt
  c1 : W.cell? ⟨w.heap.size, 1, none⟩ = some vb
  ht : IntS W B vt ts
  hl : StS W B vb l
theorem Boxed.new {w : World} {B : Nat} {vt vb : Value} {ts : List Int} {l : List St} (ht : IntS w B vt ts) (hl : StS w B vb l) (hB : B ≤ w.heap.size) (t : TypeId) : Boxed w (w.alloc (.cells #[vt, vb] t)) B vt vb ts l := by
  have hb := bel_a w (.cells #[vt, vb] t)
  have hr := heap_alloc_new w (.cells #[vt, vb] t)
  exact ⟨hb, by simp, (cell_of_row _ _ _ _ _ _ hr).trans rfl, (cell_of_row _ _ _ _ _ _ hr).trans rfl, ht.low hb hB, hl.low hb hB⟩
theorem Boxed.bels {w W W' : World} {B : Nat} {vt vb : Value} {ts : List Int} {l : List St} (h : Boxed w W B vt vb ts l) (hb : Below W.heap.size W W') (hB : B ≤ w.heap.size) : Boxed w W' B vt vb ts l :=
  have hlt := h.lt
  ⟨h.bel.trans (hb.mono h.bel.size), Nat.lt_of_lt_of_le h.lt hb.size, (hb.cell (p := ⟨w.heap.size, 0, none⟩) h.lt).trans h.c0, (hb.cell (p := ⟨w.heap.size, 1, none⟩) h.lt).trans h.c1, h.ht.low hb (by omega), h.hl.low hb (by omega)⟩
theorem graphOk_no {ts : List Int} {l : List St} {a : Int} (h : a < 0 ∨ (pointsP ts l).length ≤ a) : graphOk ts l [a] = false := by
  cases e : graphOk ts l [a]
  · rfl
  · obtain ⟨hv, k, rfl, hk⟩ := graphOk_one e
    unfold pointsP at h
    rw [if_pos hv] at h
    omega
theorem graphOk_yes {ts : List Int} {l : List St} {a : Int} (h0 : 0 ≤ a) (h : a < (pointsP ts l).length) : validP ts l = true ∧ pointsP ts l = ptsP l ∧ graphOk ts l [a] = true := by
  unfold pointsP at h ⊢
  cases hv : validP ts l
  · rw [hv] at h; simp at h; omega
  · rw [hv] at h
    simp only [if_true] at h ⊢
    refine ⟨trivial, trivial, ?_⟩
    simp only [graphOk, hv, Bool.true_and, List.all_cons, List.all_nil, Bool.and_true, withinP, Bool.and_eq_true, decide_eq_true_eq]
    omega

theorem OInts.bel {w w' : World} {base : Nat} {v : Value} {l : List Int} (h : OInts w base v l) (hb : Below w.heap.size w w') : OInts w' base v l := h.move (Nat.le_refl _) fun b _ hl => hb.block b hl

set_option maxHeartbeats 4000000
theorem sLiveAfter_any (vt vb : Value) (ts : List Int) (l : List St) (a : Int) (B : Nat) (w : World) (ht : IntS w B vt ts) (hl : StS w B vb l) (hB : B ≤ w.heap.size) (hsz : szL l ≤ 4194300) :
    Calls Try.prog 42 #[.agg #[vt, vb], .int .i64 a] w (IntsRet w (liveRes ts l a)) := by
  have HBX := Lib.hid (Boxed.new ht hl hB 26)
  obtain ⟨At, ct, rfl, hct, -, -⟩ := ht
  obtain ⟨Ab, cb, rfl, hcb⟩ := hl.slice
  clear hl
  by_cases ha : a < 0
  · have HRES : Hid (liveRes ts l a = []) := Lib.hid (by unfold liveRes; rw [graphOk_no (.inl ha)]; rfl)
    go_enter Try.func42, Try.ntmps42
    go_wp2_with fail
    go_ret
    exact ⟨_, rfl, by rw [HRES.out]; exact IntS.nil' _ _ _ _, (HBX.out.bel.trans ((bel_a _ _).mono (by simp)))⟩
  · go_enter Try.func42, Try.ntmps42
    go_wp2_with fail
    refine (sPointsOf_any _ _ ts l B _ HBX.out.ht HBX.out.hl (by have := HBX.out.lt; omega) hsz).mono ?_
    rintro e w1 ⟨vp, rfl, hps, hb1⟩
    have HB1 := Lib.hid (HBX.out.bels hb1 hB)
    have c0 := HB1.out.c0
    have c1 := HB1.out.c1
    obtain ⟨Ap, cp, rfl, hcp, hpl⟩ := hps.slice
    clear hps hb1
    have HGY : Hid (a < (pointsP ts l).length → validP ts l = true ∧ pointsP ts l = ptsP l ∧ graphOk ts l [a] = true) := Lib.hid fun h => graphOk_yes (by omega) h
    have HGN : Hid ((pointsP ts l).length ≤ a → graphOk ts l [a] = false) := Lib.hid fun h => graphOk_no (.inr h)
    obtain ⟨np, hnp⟩ : ∃ np, np = (pointsP ts l).length := ⟨_, rfl⟩
    rw [← hnp] at hcp hpl HGY HGN ⊢
    by_cases hlt : a < (np : Int)
    · obtain ⟨hv, hpe, hok⟩ := HGY.out hlt
      rw [hpe] at hnp
      obtain ⟨k, rfl⟩ : ∃ k : Nat, a = k := ⟨a.toNat, by omega⟩
      have HV := Lib.hid hv
      have HRES : Hid (liveRes ts l (k : Int) = liveAt ts (ptsP l) k) := Lib.hid (by unfold liveRes; rw [if_pos hok]; rfl)
      have HNP := Lib.hid hnp
      clear hv hpe hok hnp
      go_wp2_with fail
      refine (l3Live_any _ _ ts l B _ HB1.out.ht HB1.out.hl (by have := HB1.out.lt; omega) HV.out).mono ?_
      rintro e w2 ⟨v, rb, rows, base, rfl, hbase, hbr, hrl, hrows, hlive, hb2⟩
      obtain ⟨g, c, rfl, hg1, hg2, hrc, hcell, -⟩ := hbr.form (by rw [hrl]; exact ptsP_pos l)
      have hkl : k < rows.length := by rw [hrl, ← HNP.out]; omega
      have hck := hcell k hkl
      have hrow := hbr.row k hkl
      have hlk := hrows k hkl
      have h6 := ts6 (valid_parts HV.out).1
      have HBO := Lib.hid (hrow.1.bools (c := ts.length) (by omega) (by omega))
      have HLR := Lib.hid (live_rows hlive hlk)
      rw [hlk] at HBO
      have HB2 := Lib.hid (HB1.out.bels hb2 hB)
      clear hcell hrow hrows hlive hbr hb2 hrl
      have hkl1 : (k : Int) < (rows.length : Int) := by omega
      go_wp2_with fail
      refine (l3Numbers_any _ _ _ _ HBO.out (Nat.le_refl _)).mono ?_
      rintro e w3 ⟨v3, rfl, hi3, hb3⟩
      go_wp2_with fail
      go_ret
      rw [HLR.out, ← HRES.out] at hi3
      exact ⟨v3, rfl, hi3, HB2.out.bel.trans (hb3.mono HB2.out.bel.size)⟩
    · have HRES : Hid (liveRes ts l a = []) := Lib.hid (by unfold liveRes; rw [HGN.out (by omega)]; rfl)
      go_wp2_with fail
      go_ret
      exact ⟨_, rfl, by rw [HRES.out]; exact IntS.nil' _ _ _ _, HB1.out.bel.trans ((bel_a _ _).mono HB1.out.bel.size)⟩

set_option maxRecDepth 100000

end Go.Proofs.Yteaddodjijlpjaa
