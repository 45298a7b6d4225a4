import Derived.Test.YtidlifijgooceaaW35
import Derived.Test.YtidlifijgooceaaW21
import Derived.Test.YtidlifijgooceaaW33
import Derived.Test.YtidlifijgooceaaW34
set_option linter.unusedVariables false

/- DrawNeedsOf, DrawTakesOf. -/
namespace Go.Proofs.Ytidlifijgooceaa
open Go.RowKit

/-- statements without the first -/
theorem StX.tail {w : World} {P : Nat → Prop} {b off n c : Nat} {l : List St} (h : StX w P (.slice (some ⟨b, off, none⟩) n c) l) (hn : 0 < l.length) : StX w P (.slice (some ⟨b, off + 6, none⟩) (n - 1) (c - 1)) l.tail := by
  cases h with
  | mk A c l tv ev hc hr ht he =>
    obtain ⟨b', off', e, hb, hlt, hcell⟩ := hr hn
    injection e with e
    injection e with e1 e2
    subst e1 e2
    have hlen : l.length - 1 = l.tail.length := by simp
    rw [hlen]
    have hget : ∀ i (hi : i < l.tail.length), l.tail[i] = l[i + 1]'(by simp at hi; omega) := fun i hi => by simp
    refine .mk _ _ _ (fun i => tv (i + 1)) (fun i => ev (i + 1)) (by simp; omega) (fun _ => ⟨b, off + 6, rfl, hb, hlt, fun i hi => ?_⟩) (fun i hi => ?_) (fun i hi => ?_)
    · have := hcell (i + 1) (by simp at hi; omega)
      rw [hget]
      have e : off + (i + 1) * 6 = off + 6 + i * 6 := by omega
      rw [e] at this
      exact this
    · rw [hget]; exact ht (i + 1) (by simp at hi; omega)
    · rw [hget]; exact he (i + 1) (by simp at hi; omega)
end Go.Proofs.Ytidlifijgooceaa

/- spec.l2Branch, l3Place, the draws of the flow laws. -/
namespace Go.Proofs.Ytidlifijgooceaa
open Go.RowKit

set_option maxHeartbeats 4000000
set_option maxRecDepth 100000

end Go.Proofs.Ytidlifijgooceaa

/- FnTakesOf: the draw, the plain law, the walk. -/
namespace Go.Proofs.Ytidlifijgooceaa
open Go.RowKit

end Go.Proofs.Ytidlifijgooceaa

/- Words for the laws' walks: a drawn program in its box. The plain law of NeedsOpen. -/
namespace Go.Proofs.Ytidlifijgooceaa
open Go.RowKit

/-- the program (vt, vb) lies in the box g and reads as (ts, l); what was in w is as it was -/
structure PgB (w W : World) (g : Nat) (vt vb : Value) (ts : List Int) (l : List St) : Prop where
  bel : Below w.heap.size w W
  row : W.heap[g]? = some (.cells #[vt, vb] 26 (0, 0))
  ht : IntS W W.heap.size vt ts
  hl : StS W W.heap.size vb l
theorem PgB.lt {w W : World} {g : Nat} {vt vb : Value} {ts : List Int} {l : List St} (h : PgB w W g vt vb ts l) : g < W.heap.size := row_lt h.row
theorem PgB.c0 {w W : World} {g : Nat} {vt vb : Value} {ts : List Int} {l : List St} (h : PgB w W g vt vb ts l) : W.cell? ⟨g, 0, none⟩ = some vt := by rw [cell_of_row _ _ _ _ _ _ h.row]; rfl
theorem PgB.c1 {w W : World} {g : Nat} {vt vb : Value} {ts : List Int} {l : List St} (h : PgB w W g vt vb ts l) : W.cell? ⟨g, 1, none⟩ = some vb := by rw [cell_of_row _ _ _ _ _ _ h.row]; rfl
theorem PgB.bels {w W W' : World} {g : Nat} {vt vb : Value} {ts : List Int} {l : List St} (h : PgB w W g vt vb ts l) (hb : Below W.heap.size W W') : PgB w W' g vt vb ts l :=
  ⟨h.bel.trans (hb.mono h.bel.size), row_below h.row hb, (h.ht.low hb (Nat.le_refl _)).more hb.size, (h.hl.low hb (Nat.le_refl _)).more hb.size⟩
theorem PgB.new {w w1 : World} {vt vb : Value} {ts : List Int} {l : List St} {P Q : Nat → Prop} (ht : IntX w1 P vt ts) (hl : StX w1 Q vb l) (hb : Below w.heap.size w w1) : PgB w (w1.alloc (.cells #[vt, vb] 26)) w1.heap.size vt vb ts l := by
  have hA := bel_a w1 (.cells #[vt, vb] 26)
  exact ⟨hb.trans (hA.mono hb.size), heap_alloc_new w1 _, ((ht.toS).low hA (Nat.le_refl _)).more hA.size, ((hl.toS).low hA (Nat.le_refl _)).more hA.size⟩
theorem IntS.bel {w w' : World} {v : Value} {l : List Int} (h : IntS w w.heap.size v l) (hb : Below w.heap.size w w') : IntS w' w'.heap.size v l := (h.low hb (Nat.le_refl _)).more hb.size
theorem PtS.bel {w w' : World} {v : Value} {pts : List Pt} (h : PtS w w.heap.size v pts) (hb : Below w.heap.size w w') : PtS w' w'.heap.size v pts := (h.low hb (Nat.le_refl _)).more hb.size

theorem liveAt_has {ts : List Int} {pts : List Pt} {i v : Nat} {p : Pt} (hp : pts[i]? = some p) (hv : v < ts.length) : hasP (liveAt ts pts i) v = p.next.any fun j => dec (Nd ts pts j v) := by
  unfold liveAt
  rw [lst_has, decide_eq_true hv, Bool.true_and, hp]
end Go.Proofs.Ytidlifijgooceaa

/- The first point of a statement: impl.Program.firstPoint, spec.l11First. What is dead. -/
namespace Go.Proofs.Ytidlifijgooceaa
open Go.RowKit

set_option maxHeartbeats 1000000 in
set_option maxRecDepth 100000 in
theorem firstPoint_any (vt vb : Value) (ts : List Int) (l : List St) (k B : Nat) (w : World) (ht : IntS w B vt ts) (hl : StS w B vb l) (hB : B ≤ w.heap.size) (hk : k ≤ l.length) (hk0 : 0 < l.length) (hsz : szL l ≤ 4194300) :
    Calls Try.prog 81 #[.agg #[vt, vb], .int .i64 (k : Nat)] w fun e w' => e = .returned (.int .i64 (npL (l.take k) : Nat)) ∧ Below w.heap.size w w' := by
  have hll := len_le_szL l
  have htk := szL_take_le l k
  have L := Lib.hid (pointsOf_all (szL (l.take k)) (by omega))
  have ht0 := ht
  obtain ⟨At, ct, rfl, -⟩ := ht0
  obtain ⟨Ab, cb, rfl, hcb⟩ := hl.slice
  have HX := Lib.hid (RowB.new w [.slice At ts.length ct, .slice Ab l.length cb] 26)
  have HB0 := Lib.hid (bel_a w (.cells #[.slice At ts.length ct, .slice Ab l.length cb] 26))
  have HL := Lib.hid ((hl.low HB0.out hB).take hk)
  obtain ⟨b, off, rfl⟩ := hl.some_of hk0
  clear ht hl
  go_enter Try.func81, Try.ntmps81
  go_upto_region 1 with (at_builtin; fail)
  generalize w.alloc (.cells #[.slice At ts.length ct, .slice (some ⟨b, off, none⟩) l.length cb] 26) = W at *
  have x1 := HX.out.cell 1
  simp only [List.getElem?_cons_zero, List.getElem?_cons_succ] at x1
  have hkc : k ≤ cb := by omega
  have hs0 := HB0.out.size
  go_wp2_with (at_builtin; fail)
  refine (L.out _ _ (l.take k) [] B W.heap.size W (Nat.le_refl _) HL.out (by omega) (Nat.le_refl _) (PtsO.nil _ _) (by simp; omega)).mono ?_
  rintro e w1 ⟨v1, rfl, hP, hE⟩
  simp only [List.length_nil, List.nil_append] at hP
  obtain ⟨A1, c1, rfl, hc1⟩ := hP.slice
  have HB1 := Lib.hid (HB0.out.trans ((hE.below (Nat.le_refl _)).mono hs0))
  clear hP hE
  go_wp2_with (at_builtin; fail)
  go_ret
  exact ⟨rfl, HB1.out⟩
set_option maxHeartbeats 1000000 in
set_option maxRecDepth 100000 in
theorem l11First_any (vt vb : Value) (ts : List Int) (l : List St) (k B : Nat) (w : World) (ht : IntS w B vt ts) (hl : StS w B vb l) (hB : B ≤ w.heap.size) (hk : k ≤ l.length) (hk0 : 0 < l.length) (hsz : szL l ≤ 4194300) :
    Calls Try.prog 75 #[.agg #[vt, vb], .int .i64 (k : Nat)] w fun e w' => e = .returned (.int .i64 (npL (l.take k) : Nat)) ∧ Below w.heap.size w w' := by
  have hll := len_le_szL l
  have htk := szL_take_le l k
  have L := Lib.hid (l2Add_all (szL (l.take k)) (by omega))
  have ht0 := ht
  obtain ⟨At, ct, rfl, -⟩ := ht0
  obtain ⟨Ab, cb, rfl, hcb⟩ := hl.slice
  have HX := Lib.hid ((RowB.new w [.slice At ts.length ct, .slice Ab l.length cb] 26).alloc (.cells #[] 100))
  have HB0 := Lib.hid ((bel_a w (.cells #[.slice At ts.length ct, .slice Ab l.length cb] 26)).alloc (by simp) (.cells #[] 100))
  have HL := Lib.hid ((hl.low HB0.out hB).take hk)
  have hz1 : (w.alloc (.cells #[.slice At ts.length ct, .slice Ab l.length cb] 26)).heap.size = w.heap.size + 1 := by simp
  have HE0 := Lib.hid (PtsO.empty (w.alloc (.cells #[.slice At ts.length ct, .slice Ab l.length cb] 26)) (w.heap.size + 1) (by simp))
  rw [hz1] at HE0
  obtain ⟨b, off, rfl⟩ := hl.some_of hk0
  clear ht hl hz1
  go_enter Try.func75, Try.ntmps75
  have hkc : k ≤ cb := by omega
  go_wp2_with (at_builtin; fail)
  generalize (w.alloc (.cells #[.slice At ts.length ct, .slice (some ⟨b, off, none⟩) l.length cb] 26)).alloc (.cells #[] 100) = W at *
  have hs0 := HB0.out.size
  refine (L.out _ _ (l.take k) [] B (w.heap.size + 1) W (Nat.le_refl _) HL.out (by omega) (by have := HX.out.lt; omega) HE0.out (by simp; omega)).mono ?_
  rintro e w1 ⟨v1, rfl, hP, hE⟩
  simp only [List.length_nil, List.nil_append] at hP
  obtain ⟨A1, c1, rfl, hc1⟩ := hP.slice
  have HB1 := Lib.hid (HB0.out.trans ((hE.below (by have := HX.out.lt; omega)).mono (by omega)))
  clear hP hE
  go_wp2_with (at_builtin; fail)
  go_ret
  exact ⟨rfl, HB1.out⟩

end Go.Proofs.Ytidlifijgooceaa
