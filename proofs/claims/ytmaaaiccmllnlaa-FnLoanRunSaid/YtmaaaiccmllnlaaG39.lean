import Derived.Test.YtmaaaiccmllnlaaG37
import Derived.Test.YtmaaaiccmllnlaaG30
import Derived.Test.YtmaaaiccmllnlaaG38
set_option linter.unusedVariables false

/- spec.l3Point, CellsOf, SettersOf, NumbersOf, MayAlias, UsersOf. -/
namespace Go.Proofs.Ytmaaaiccmllnlaa
open Go.RowKit

def pointB (ts : List Int) (l : List St) (a v : Int) : Bool := graphOk ts l [a] && withinP v 0 ((ts.length : Int) - 1)
theorem graphOk_a (ts : List Int) (l : List St) (a : Int) (hv : validP ts l = true) : graphOk ts l [a] = (decide (0 ≤ a) && decide (a < ((ptsP l).length : Int))) := by
  simp only [graphOk, hv, Bool.true_and, List.all_cons, List.all_nil, Bool.and_true, withinP]
  rw [Bool.eq_iff_iff]; simp; omega
set_option maxHeartbeats 2000000 in
theorem l3Point_any (vt vb : Value) (ts : List Int) (l : List St) (a v : Int) (B : Nat) (w : World) (ht : IntS w B vt ts) (hl : StS w B vb l) (hB : B ≤ w.heap.size) (hsz : szL l ≤ 4194300) :
    Calls Try.prog 90 #[.agg #[vt, vb], .int .i64 a, .int .i64 v] w fun e w' => e = .returned (.bool (pointB ts l a v)) ∧ Below w.heap.size w w' := by
  have HBX := Lib.hid (Boxed.new ht hl hB 26)
  obtain ⟨At, ct, rfl, hct, -, -⟩ := ht
  obtain ⟨Ab, cb, rfl, hcb⟩ := hl.slice
  clear hl
  go_enter Try.func90, Try.ntmps90
  go_wp2_with fail
  refine (sProgramValid_any _ _ ts l B _ HBX.out.ht HBX.out.hl (by simp; omega) (by omega)).mono ?_
  rintro e w1 ⟨rfl, hb1⟩
  have HB1 := Lib.hid (HBX.out.bels hb1 hB)
  have c0 := HB1.out.c0
  have c1 := HB1.out.c1
  have hs1 := HB1.out.lt
  clear hb1
  cases hv : validP ts l
  · have HRES : Hid (pointB ts l a v = false) := Lib.hid (by unfold pointB graphOk; rw [hv]; rfl)
    clear hv
    go_wp2_with fail
    go_ret
    exact ⟨ret_bool HRES.out.symm, HB1.out.bel⟩
  · have HRES := Lib.hid (graphOk_a ts l a hv)
    clear hv
    by_cases ha : 0 ≤ a
    · go_wp2_with fail
      refine (l2Points_any _ _ l B _ HB1.out.hl (by omega) hsz).mono ?_
      rintro e w2 ⟨vp, rfl, hps, hb2⟩
      have HB2 := Lib.hid (HB1.out.bels hb2 hB)
      have d0 := HB2.out.c0
      obtain ⟨Ap, cp, rfl, hcp, hpl⟩ := hps.slice
      generalize (ptsP l).length = np at *
      clear hps hb2 c0 c1
      by_cases hap : a < (np : Int)
      · by_cases hv0 : 0 ≤ v
        · by_cases hvl : v < (ts.length : Int)
          · have HR : Hid (pointB ts l a v = true) := Lib.hid (by unfold pointB withinP; rw [HRES.out]; simp; omega)
            go_wp2_with fail
            go_ret
            exact ⟨ret_bool HR.out.symm, HB2.out.bel⟩
          · have HR : Hid (pointB ts l a v = false) := Lib.hid (by unfold pointB withinP; rw [HRES.out]; simp; omega)
            go_wp2_with fail
            go_ret
            exact ⟨ret_bool (by rw [HR.out]; simpa using hvl), HB2.out.bel⟩
        · have HR : Hid (pointB ts l a v = false) := Lib.hid (by unfold pointB withinP; rw [HRES.out]; simp; omega)
          have hv1 : decide (0 ≤ v) = false := by simpa using hv0
          go_wp2_with fail
          go_ret
          exact ⟨ret_bool HR.out.symm, HB2.out.bel⟩
      · have HR : Hid (pointB ts l a v = false) := Lib.hid (by unfold pointB withinP; rw [HRES.out]; simp; omega)
        have hap1 : decide (a < (np : Int)) = false := by simpa using hap
        go_wp2_with fail
        go_ret
        exact ⟨ret_bool HR.out.symm, HB2.out.bel⟩
    · have HR : Hid (pointB ts l a v = false) := Lib.hid (by unfold pointB; rw [HRES.out]; simp; omega)
      have ha1 : decide (0 ≤ a) = false := by simpa using ha
      go_wp2_with fail
      go_ret
      exact ⟨ret_bool HR.out.symm, HB1.out.bel⟩

/-- the row of a point and a variable in a flow -/
theorem B3.get {w : World} {base s n c k v m : Nat} {A : Option Addr} {mv : List Value} {rbs : List (List Nat)} {R : List (List (List Bool))} (h : B3 w base (.slice A n c) mv rbs s R) (hk : k < R.length) (hm : (R.getD k []).length = m) (hv : v < m) (hl : ((R.getD k []).getD v []).length = s) (hs : s ≤ 100) :
    ∃ g g2 r c2, A = some ⟨g, 0, none⟩ ∧ n = R.length ∧ w.cell? ⟨g, k, none⟩ = some (.slice (some ⟨g2, 0, none⟩) m c2) ∧ m ≤ c2 ∧ w.cell? ⟨g2, v, none⟩ = some (.slice (some ⟨r, 0, none⟩) s s) ∧ RowB w r 4 (bv ((R.getD k []).getD v [])) := by
  obtain ⟨g, e, _, _, hn, hc⟩ := h.at_ hk
  have hb := h.mid k hk
  obtain ⟨g2, c2, e2, _, _, hc2, hcell, _⟩ := hb.form (by omega)
  rw [e2, hm] at hc
  exact ⟨g, g2, (rbs.getD k []).getD v 0, c2, e, hn, hc, by omega, hcell v (by omega), (hb.row v (by omega)).1⟩
theorem row_flS {ts : List Int} {pts : List Pt} {G : Nat → Pt → Nat → Bool} {C : Pt → Bool} {s k v : Nat} {R : List (List (List Bool))} (h : ∀ i v e, get3 R i v e = true ↔ Fl ts pts G C i v e) (hl : ((R.getD k []).getD v []).length = s) :
    lst s (fun e => ((R.getD k []).getD v []).getD e false) = flS s ts pts G C k v := by
  unfold flS
  refine lst_congr fun e _ => ?_
  rw [Bool.eq_iff_iff, dec_iff, ← h k v e]
  rfl




end Go.Proofs.Ytmaaaiccmllnlaa
