import Derived.Test.YteaddodjijlpjaaG10
import Derived.Test.YteaddodjijlpjaaG11
set_option linter.unusedVariables false

namespace Go.Proofs.Yteaddodjijlpjaa
open Go.RowKit

/-- The slice value v reads as the points pts. -/
def PtS (w : World) (B : Nat) (v : Value) (pts : List Pt) : Prop :=
  ∃ A c, ∃ nv : Nat → Value, v = .slice A pts.length c ∧ pts.length ≤ c ∧ pts.length ≤ 8388608 ∧
    (0 < pts.length → ∃ b off, A = some ⟨b, off, none⟩ ∧ b < B ∧ ∀ i (h : i < pts.length),
      w.cell? ⟨b, off + i * 5, none⟩ = some (.int .i64 pts[i].op) ∧ w.cell? ⟨b, off + i * 5 + 1, none⟩ = some (.int .i64 pts[i].x) ∧ w.cell? ⟨b, off + i * 5 + 2, none⟩ = some (.int .i64 pts[i].y) ∧
      w.cell? ⟨b, off + i * 5 + 3, none⟩ = some (.int .i64 pts[i].n) ∧ w.cell? ⟨b, off + i * 5 + 4, none⟩ = some (nv i)) ∧
    ∀ i (h : i < pts.length), IntS w B (nv i) (pts[i].next.map fun k => ((k : Nat) : Int))

theorem PtS.keep {w w' : World} {B : Nat} {v : Value} {pts : List Pt} (h : PtS w B v pts) (hk : ∀ b o, b < B → w'.cell? ⟨b, o, none⟩ = w.cell? ⟨b, o, none⟩) : PtS w' B v pts := by
  obtain ⟨A, c, nv, e, h1, h2, h3, h4⟩ := h
  refine ⟨A, c, nv, e, h1, h2, fun hn => ?_, fun i hi => (h4 i hi).keep hk⟩
  obtain ⟨b, off, e, hb, hc⟩ := h3 hn
  exact ⟨b, off, e, hb, fun i hi => by simp only [hk _ _ hb]; exact hc i hi⟩
theorem PtS.low {w w' : World} {B B' : Nat} {v : Value} {pts : List Pt} (h : PtS w B v pts) (hb : Below B' w w') (hB : B ≤ B') : PtS w' B v pts :=
  h.keep fun b o hlt => hb.cell (p := ⟨b, o, none⟩) (by show b < B'; omega)
theorem PtS.more {w : World} {B B' : Nat} {v : Value} {pts : List Pt} (h : PtS w B v pts) (hB : B ≤ B') : PtS w B' v pts := by
  obtain ⟨A, c, nv, e, h1, h2, h3, h4⟩ := h
  refine ⟨A, c, nv, e, h1, h2, fun hn => ?_, fun i hi => (h4 i hi).more hB⟩
  obtain ⟨b, off, e, hb, hc⟩ := h3 hn
  exact ⟨b, off, e, by omega, hc⟩
theorem PtS.slice {w : World} {B : Nat} {v : Value} {pts : List Pt} (h : PtS w B v pts) : ∃ A c, v = .slice A pts.length c ∧ pts.length ≤ c ∧ pts.length ≤ 8388608 := by
  obtain ⟨A, c, nv, e, h1, h2, h3, h4⟩ := h
  exact ⟨A, c, e, h1, h2⟩
/-- One point, for a walk. -/
theorem PtS.get {w : World} {B : Nat} {v : Value} {pts : List Pt} (h : PtS w B v pts) {k : Nat} (hk : k < pts.length) :
    ∃ b off c nv, v = .slice (some ⟨b, off, none⟩) pts.length c ∧ b < B ∧ pts.length ≤ c ∧ pts.length ≤ 8388608 ∧ IntS w B nv (pts[k].next.map fun k => ((k : Nat) : Int)) ∧
      w.cell? ⟨b, off + k * 5, none⟩ = some (.int .i64 pts[k].op) ∧ w.cell? ⟨b, off + k * 5 + 1, none⟩ = some (.int .i64 pts[k].x) ∧ w.cell? ⟨b, off + k * 5 + 2, none⟩ = some (.int .i64 pts[k].y) ∧
      w.cell? ⟨b, off + k * 5 + 3, none⟩ = some (.int .i64 pts[k].n) ∧ w.cell? ⟨b, off + k * 5 + 4, none⟩ = some nv := by
  obtain ⟨A, c, nv, e, h1, h2, h3, h4⟩ := h
  obtain ⟨b, off, rfl, hb, hc⟩ := h3 (by omega)
  obtain ⟨a0, a1, a2, a3, a4⟩ := hc k hk
  exact ⟨b, off, c, nv k, e, hb, h1, h2, h4 k hk, a0, a1, a2, a3, a4⟩

/-- an owned row of ints, read -/
theorem own_ints {w : World} {base : Nat} {v : Value} {l : List Int} (h : w.ownsRow base 3 1 v l.length (l.map (.int .i64))) (hl : l.length ≤ 4194304) : IntS w w.heap.size v l := by
  rcases h.2 with ⟨rfl, h0⟩ | ⟨g, cap, cur, rfl, hb, hh, hc, _⟩
  · have : l = [] := List.eq_nil_of_length_eq_zero h0
    subst this
    exact ⟨none, 0, rfl, by simp, by simp, Rd.nil⟩
  · have hlt := (h.lt g rfl).2
    refine ⟨_, cap, rfl, hc, hl, by simp, fun hn => ⟨g, 0, rfl, hlt, fun j u hu => ?_⟩⟩
    have hj : j < l.length := by
      rcases Nat.lt_or_ge j l.length with h | h
      · exact h
      · rw [List.getElem?_eq_none (by simpa using h)] at hu; cases hu
    have := h.cellAt (g := g) j (by omega)
    rw [Nat.zero_add, this, hu]
theorem PtsO.toS {w : World} {base : Nat} {v : Value} {pts : List Pt} (h : PtsO w base v pts) (hl : pts.length ≤ 8388608) (hn : ∀ p ∈ pts, p.next.length ≤ 2) : PtS w w.heap.size v pts := by
  obtain ⟨A, c, rfl, hc⟩ := h.slice
  have hlt : ∀ (hp : 0 < pts.length), ∃ g, A = some ⟨g, 0, none⟩ ∧ g < w.heap.size := fun hp => by
    obtain ⟨g, cap, e, _, hg, _⟩ := h.form hp
    injection e with e
    exact ⟨g, e, hg⟩
  have h' := h
  obtain ⟨nvs, h1, h2, h3⟩ := h
  refine ⟨A, c, fun i => nvs.getD i undef, rfl, hc, hl, fun hp => ?_, fun i hi => ?_⟩
  · obtain ⟨g, rfl, hg⟩ := hlt hp
    refine ⟨g, 0, rfl, hg, fun i hi => ?_⟩
    obtain ⟨a0, a1, a2, a3, a4⟩ := ptCells_at h1 hi
    simp only [Nat.zero_add]
    rw [getD_lt (by omega)]
    exact ⟨(h2.cellAt _ (by omega)).trans a0, (h2.cellAt _ (by omega)).trans a1, (h2.cellAt _ (by omega)).trans a2, (h2.cellAt _ (by omega)).trans a3, (h2.cellAt _ (by omega)).trans a4⟩
  · show IntS w w.heap.size (nvs.getD i undef) _
    rw [getD_lt (by omega)]
    have := h3 i hi (by omega)
    have h2 := hn _ (List.getElem_mem hi)
    refine own_ints (base := base) (l := pts[i].next.map fun k => ((k : Nat) : Int)) (by simpa [Function.comp_def] using this) (by simp; omega)

theorem PtsO.empty (w : World) (base : Nat) (hb : base ≤ w.heap.size) : PtsO (w.alloc (.cells #[] 39)) base (.slice (some ⟨w.heap.size, 0, none⟩) 0 0) [] :=
  ⟨[], rfl, World.ownsRow_lit (base := base) (e := 39) (size := 5) w #[] 0 hb (by simp [maxLen]) rfl, fun i h => by simp at h⟩
/-- what comes of points -/
def PtsRet (w : World) (pts : List Pt) (e : Ending) (w' : World) : Prop := ∃ v, e = .returned v ∧ PtS w' w'.heap.size v pts ∧ Below w.heap.size w w'

set_option maxHeartbeats 400000 in
theorem points_any (vt vb : Value) (l : List St) (B : Nat) (w : World) (hl : StS w B vb l) (hB : B ≤ w.heap.size) (hsz : szL l ≤ 4194300) :
    Calls Try.prog 61 #[.agg #[vt, vb]] w (PtsRet w (ptsP l)) := by
  have L := pointsOf_all (szL l) (by omega)
  have hle := ptsL_le 0 l
  go_enter Try.func61, Try.ntmps61
  go_wp2_with fail
  refine (L vb _ l [] B w.heap.size _ (Nat.le_refl _) (hl.low (bel_a _ _) hB) hB (by simp) (PtsO.nil _ _) (by simp; omega)).mono ?_
  rintro e w1 ⟨v1, rfl, hP, hE⟩
  simp only [List.length_nil, List.nil_append] at hP
  obtain ⟨A1, c1, rfl, hc1⟩ := hP.slice
  have HE := Lib.hid (((Evo.alloc _ _ _ _).trans hE))
  have hs := hE.size
  simp only [World.size_alloc] at hs
  clear hE
  go_wp2_with (at_builtin; go_must (refine wpList_push_pt rfl (.tmp 5) (.tmp 7) rfl hP (by omega) (by omega) _ _ _ _ _ [] (next_nil _ _) rfl rfl rfl ?_); intro v' w' hP' hE')
  go_ret
  refine ⟨v', rfl, hP'.toS (by simp; omega) (fun p hp => (ptsP_next l p hp).1), ((HE.out.trans (Evo.alloc _ _ _ _)).trans hE').below (Nat.le_refl _)⟩

set_option maxHeartbeats 400000 in
theorem l2Points_any (vt vb : Value) (l : List St) (B : Nat) (w : World) (hl : StS w B vb l) (hB : B ≤ w.heap.size) (hsz : szL l ≤ 4194300) :
    Calls Try.prog 58 #[.agg #[vt, vb]] w (PtsRet w (ptsP l)) := by
  have L := l2Add_all (szL l) (by omega)
  have hle := ptsL_le 0 l
  go_enter Try.func58, Try.ntmps58
  go_wp2_with fail
  refine (L vb _ l [] B w.heap.size _ (Nat.le_refl _) (hl.low ((bel_a _ _).alloc (by simp) _) hB) hB (by simp; omega) (by simpa using PtsO.empty (w.alloc _) w.heap.size (by simp)) (by simp; omega)).mono ?_
  rintro e w1 ⟨v1, rfl, hP, hE⟩
  simp only [List.length_nil, List.nil_append] at hP
  obtain ⟨A1, c1, rfl, hc1⟩ := hP.slice
  have HE := Lib.hid (((Evo.alloc _ _ _ _).trans (Evo.alloc _ _ _ _)).trans hE)
  have hs := hE.size
  simp only [World.size_alloc] at hs
  clear hE
  go_wp2_with (at_builtin; go_must (refine wpList_push_pt rfl (.tmp 6) (.tmp 8) rfl hP (by omega) (by omega) _ _ _ _ _ [] (next_nil _ _) rfl rfl rfl ?_); intro v' w' hP' hE')
  go_ret
  refine ⟨v', rfl, hP'.toS (by simp; omega) (fun p hp => (ptsP_next l p hp).1), ((HE.out.trans (Evo.alloc _ _ _ _)).trans hE').below (Nat.le_refl _)⟩

/-- the points of a program, none if it is not valid -/
def pointsP (ts : List Int) (l : List St) : List Pt := if validP ts l then ptsP l else []

set_option maxHeartbeats 400000 in
theorem iPointsOf_any (vt vb : Value) (ts : List Int) (l : List St) (B : Nat) (w : World) (ht : IntS w B vt ts) (hl : StS w B vb l) (hB : B ≤ w.heap.size) (hsz : szL l ≤ 4194300) :
    Calls Try.prog 21 #[.agg #[vt, vb]] w (PtsRet w (pointsP ts l)) := by
  go_enter Try.func21, Try.ntmps21
  go_wp2_with fail
  refine (iProgramValid_any vt vb ts l B _ (ht.low (bel_a _ _) hB) (hl.low (bel_a _ _) hB) (by simp; omega) (by omega)).mono ?_
  rintro e w1 ⟨rfl, hb1⟩
  have hc := box_kept hb1 (by simp)
  have hb2 := (bel_a _ _).trans (hb1.mono (by simp))
  have hs2 := hb2.size
  cases hv : validP ts l
  · have HV := Lib.hid hv
    clear hv
    go_wp2_with fail
    go_ret
    refine ⟨_, rfl, ?_, hb2⟩
    unfold pointsP
    rw [HV.out]
    exact (PtsO.nil w1 0).toS (by simp) (by simp)
  · have HV := Lib.hid hv
    clear hv
    go_wp2_with fail
    refine (points_any vt vb l B _ (hl.low hb2 hB) (by omega) hsz).mono ?_
    rintro e w2 ⟨v, rfl, hP, hb3⟩
    go_wp2_with fail
    go_ret
    refine ⟨_, rfl, ?_, hb2.trans (hb3.mono (by omega))⟩
    unfold pointsP
    rw [HV.out]
    exact hP

set_option maxHeartbeats 400000 in
theorem sPointsOf_any (vt vb : Value) (ts : List Int) (l : List St) (B : Nat) (w : World) (ht : IntS w B vt ts) (hl : StS w B vb l) (hB : B ≤ w.heap.size) (hsz : szL l ≤ 4194300) :
    Calls Try.prog 71 #[.agg #[vt, vb]] w (PtsRet w (pointsP ts l)) := by
  go_enter Try.func71, Try.ntmps71
  go_wp2_with fail
  refine (sProgramValid_any vt vb ts l B _ (ht.low (bel_a _ _) hB) (hl.low (bel_a _ _) hB) (by simp; omega) (by omega)).mono ?_
  rintro e w1 ⟨rfl, hb1⟩
  have hc := box_kept hb1 (by simp)
  have hb2 := (bel_a _ _).trans (hb1.mono (by simp))
  have hs2 := hb2.size
  cases hv : validP ts l
  · have HV := Lib.hid hv
    clear hv
    go_wp2_with fail
    go_ret
    refine ⟨_, rfl, ?_, hb2.alloc hs2 _⟩
    unfold pointsP
    rw [HV.out]
    exact (PtsO.empty w1 0 (by omega)).toS (by simp) (by simp)
  · have HV := Lib.hid hv
    clear hv
    go_wp2_with fail
    refine (l2Points_any vt vb l B _ (hl.low hb2 hB) (by omega) hsz).mono ?_
    rintro e w2 ⟨v, rfl, hP, hb3⟩
    go_wp2_with fail
    go_ret
    refine ⟨_, rfl, ?_, hb2.trans (hb3.mono (by omega))⟩
    unfold pointsP
    rw [HV.out]
    exact hP

end Go.Proofs.Yteaddodjijlpjaa
