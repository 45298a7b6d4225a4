import Derived.Test.YteaddodjijlpjaaG25
import Derived.Test.YteaddodjijlpjaaG26
import Derived.Test.YteaddodjijlpjaaG07
import Derived.Test.YteaddodjijlpjaaG24
set_option linter.unusedVariables false

/- Plain: what flows, beside what may be set, what is needed, what leads where. No program in sight. -/
namespace Go.Proofs.Yteaddodjijlpjaa

theorem taken_bit {ts : List Int} {p : Pt} {v : Nat} (hv : v < ts.length) : (takenP ts p.op p.x p.y).testBit v = (useP ts p.op p.x p.y (v : Nat) == 2) := by unfold takenP; rw [bm_bit, decide_eq_true hv, Bool.true_and]
theorem trB_set {ts : List Int} {p : Pt} {v : Nat} {b : Bool} (h : setsP p.op p.x = (v : Nat)) : trB false ts p b v = true := by
  unfold trB; rw [setBit_bit, decide_eq_true h]; simp
theorem trB_keep {ts : List Int} {p : Pt} {v : Nat} (hv : v < ts.length) (h : useP ts p.op p.x p.y (v : Nat) ≠ 2) : trB false ts p true v = true := by
  unfold trB; rw [taken_bit hv, beq_false_of_ne h]; simp
theorem trB_gen {ts : List Int} {p : Pt} {v : Nat} (h : trB false ts p false v = true) : setsP p.op p.x = (v : Nat) := by
  unfold trB at h; rw [setBit_bit] at h; simpa using h
theorem trB_old {ts : List Int} {p : Pt} {v : Nat} (hv : v < ts.length) (h : trB false ts p true v = true) : setsP p.op p.x = (v : Nat) ∨ useP ts p.op p.x p.y (v : Nat) ≠ 2 := by
  unfold trB at h; rw [setBit_bit, taken_bit hv] at h
  by_cases e : setsP p.op p.x = (v : Nat)
  · exact .inl e
  · exact .inr (by simpa [e] using h)
theorem Fl.maybe {ts : List Int} {pts : List Pt} {G : Nat → Pt → Nat → Bool} {C : Pt → Bool} {i v e : Nat} (h : Fl ts pts G C i v e) : Ac false ts pts 0 i v := by
  induction h with
  | gen hp hk hv hs _ => exact .gen hp hk hv (trB_set hs)
  | copy hp hk hv hs _ _ _ => exact .gen hp hk hv (trB_set hs)
  | keep hp hk hv _ ht _ ih => exact .keep hp hk ih (trB_keep hv ht)
theorem maybe_Fl {ts : List Int} {pts : List Pt} {i v : Nat} (h : Ac false ts pts 0 i v) : ∃ e, Fl ts pts Gset Cset i v e := by
  induction h with
  | init _ h => simp [accB] at h
  | @gen i k v p hp hk hv h => exact ⟨i, .gen hp hk hv (trB_gen h) (by simp [Gset])⟩
  | @keep i k v p hp hk hi h ih =>
    have hv := hi.lt
    by_cases e : setsP p.op p.x = (v : Nat)
    · exact ⟨i, .gen hp hk hv e (by simp [Gset])⟩
    · obtain ⟨a, ih⟩ := ih
      exact ⟨a, .keep hp hk hv e ((trB_old hv h).resolve_left e) ih⟩
/-- a setter sets it, and leads there -/
theorem Fl.setter {ts : List Int} {pts : List Pt} {i v e : Nat} (h : Fl ts pts Gset Cset i v e) : (∃ p, pts[e]? = some p ∧ setsP p.op p.x = (v : Nat)) ∧ Lds pts e i := by
  induction h with
  | gen hp hk _ hs h =>
    have h' := (beq_iff_eq.1 h)
    subst h'
    exact ⟨⟨_, hp, hs⟩, .one hp hk⟩
  | copy _ _ _ _ hc _ _ => simp [Cset] at hc
  | keep hp hk _ _ _ _ ih => exact ⟨ih.1, ih.2.snoc hp hk⟩
theorem Fl.used {ts : List Int} {pts : List Pt} {i v e : Nat} (h : Fl ts pts Gset Cset i v e) (hn : Nd ts pts i v) : ∃ p, pts[e]? = some p ∧ setsP p.op p.x = (v : Nat) ∧ ∃ j ∈ p.next, Nd ts pts j v := by
  induction h with
  | gen hp hk _ hs h =>
    have h' := (beq_iff_eq.1 h)
    subst h'
    exact ⟨_, hp, hs, _, hk, hn⟩
  | copy _ _ _ _ hc _ _ => simp [Cset] at hc
  | keep hp hk _ hs _ _ ih => exact ih (.flow hp hk hn hs)
theorem Nd.user {ts : List Int} {pts : List Pt} {j v e : Nat} (h : Nd ts pts j v) (hf : Fl ts pts Gset Cset j v e) : ∃ i p, pts[i]? = some p ∧ useP ts p.op p.x p.y (v : Nat) ≠ 0 ∧ Fl ts pts Gset Cset i v e := by
  induction h with
  | use hp _ h => exact ⟨_, _, hp, h, hf⟩
  | @flow i k v p hp hk hn hs ih =>
    by_cases hu : useP ts p.op p.x p.y (v : Nat) = 0
    · exact ih (.keep hp hk hn.lt hs (by rw [hu]; decide) hf)
    · exact ⟨_, _, hp, hu, hf⟩
/-- cells come from boxes, and lie in no number -/
theorem Fl.cellBox {ts : List Int} {pts : List Pt} {i v e : Nat} (h : Fl ts pts Gcell Ccell i v e) (g : Good ts pts) : (∃ p, pts[e]? = some p ∧ p.op = 2) ∧ typeOfP ts (v : Nat) ≠ 1 := by
  induction h with
  | @gen i k v e p hp hk hv hs h =>
    unfold Gcell at h
    rw [Bool.and_eq_true] at h
    have ho : p.op = 2 := by simpa using h.1
    have he : e = i := by simpa using h.2
    subst he
    refine ⟨⟨p, hp, ho⟩, ?_⟩
    rcases g.ok p (List.mem_of_getElem? hp) with hh | hh | hh | hh
    · omega
    · omega
    · omega
    · have hx : p.x = (v : Nat) := by rw [← hs, ho]; rfl
      rw [ho] at hh
      simp [simpleP] at hh
      rw [← hx, hh.1.1]; decide
  | @copy i k v e p hp hk hv hs hc hi ih =>
    refine ⟨ih.1, ?_⟩
    have ho : p.op = 3 ∨ p.op = 4 ∨ p.op = 5 := by simpa [Ccell, or_assoc] using hc
    rcases g.ok p (List.mem_of_getElem? hp) with hh | hh | hh | hh
    · omega
    · omega
    · omega
    · have hx : p.x = (v : Nat) := by
        rw [← hs]; unfold setsP
        rw [if_pos (by omega)]
      have hy := typeOf_in (simple_y hh (by omega))
      have hyn : ((p.y.toNat : Nat) : Int) = p.y := by omega
      rw [hyn] at ih
      rw [← hx]
      rcases ho with ho | ho | ho <;> rw [ho] at hh <;> simp [simpleP] at hh
      · rw [hh.2.1.1]; exact ih.2
      · rw [hh.2.1.1]; decide
      · rw [hh.2.1.1]; decide
  | keep _ _ _ _ _ _ ih => exact ih
/-- what a loan is of, lies in it afterwards; and stays where it was -/
theorem Fl.loan {ts : List Int} {pts : List Pt} {i k e : Nat} {p : Pt} (hp : pts[i]? = some p) (hk : k ∈ p.next) (ho : p.op = 4 ∨ p.op = 5) (g : Good ts pts) (h : Fl ts pts Gcell Ccell i p.y.toNat e) :
    Fl ts pts Gcell Ccell k p.x.toNat e ∧ Fl ts pts Gcell Ccell k p.y.toNat e := by
  rcases g.ok p (List.mem_of_getElem? hp) with hh | hh | hh | hh
  · omega
  · omega
  · omega
  · have hx := typeOf_in (simple_x hh).2.2
    have hy := typeOf_in (simple_y hh (by omega))
    have hxn : ((p.x.toNat : Nat) : Int) = p.x := by omega
    have hyn : ((p.y.toNat : Nat) : Int) = p.y := by omega
    have hs : setsP p.op p.x = p.x := by unfold setsP; rw [if_pos (by omega)]
    have hne : p.x ≠ p.y := by rcases ho with ho | ho <;> rw [ho] at hh <;> simp [simpleP] at hh <;> exact hh.2.2
    refine ⟨.copy hp hk (by omega) (by rw [hs, hxn]) (by rcases ho with ho | ho <;> simp [Ccell, ho]) h, .keep hp hk (by omega) (by rw [hs, hyn]; exact hne) ?_ h⟩
    rw [hyn]
    rcases ho with ho | ho <;> simp [useP, ho]

end Go.Proofs.Yteaddodjijlpjaa

/- the draws that only hand l3Place on; FnLiveStep. -/
namespace Go.Proofs.Yteaddodjijlpjaa
open Go.RowKit

set_option maxHeartbeats 4000000
set_option maxRecDepth 100000
theorem pl_end {w W : World} {vt vb : Value} {ts : List Int} {l : List St} {a : Int} (h3 : Below w.heap.size w W) (hT : IntX W (fun b => w.heap.size + 1 ≤ b) vt ts) (hB : StX W (fun b => w.heap.size + 1 ≤ b) vb l) (ht : ts.length ≤ 700) (hl : szL l ≤ 100000) (W' : World) (hW : W.grownBy W' (some w.heap.size)) : PlRet w (.returned (.tuple #[.agg #[vt, vb], .int .i64 a])) W' :=
  pl_close h3 hW hT hB (by omega) ht hl

theorem drawLiveAfter_any (A : Option Addr) (n c : Nat) (w : World) (hb : Byt w w.heap.size A n) (hn : n ≤ 1048576) (hc : n ≤ c) :
    Calls Try.prog 41 #[.slice A n c] w (PlRet w) := by
  have HB := Lib.hid hb
  clear hb
  go_enter Try.func41, Try.ntmps41
  go_wp2_with fail
  have hA := bel_a w (.cells #[.slice none 0 0, .slice none 0 0] 26)
  have hsA : (w.alloc (.cells #[.slice none 0 0, .slice none 0 0] 26)).heap.size = w.heap.size + 1 := by simp
  refine (l3Place_any A n c _ (by rw [hsA]; exact (HB.out.keep fun b o hb => hA.cell (p := ⟨b, o, none⟩) hb).more (by omega)) hn hc).mono ?_
  rintro e w1 ⟨vt, vb, ts, l, x, rfl, hit, hst, hts, hsz, hb1⟩
  rw [hsA] at hit hst
  have HR1 := Lib.hid (row_below (heap_alloc_new w (.cells #[.slice none 0 0, .slice none 0 0] 26)) hb1)
  have HB1 := Lib.hid (hA.trans (hb1.mono (by omega)))
  have HIT := Lib.hid hit
  have HST := Lib.hid hst
  obtain ⟨At, ct, rfl, -⟩ := hit.slice
  obtain ⟨Ab, cb, rfl, -⟩ := hst.slice
  clear hb1 hA hsA hit hst
  have z0 : w1.cell? ⟨w.heap.size, 0, none⟩ = some (.slice none 0 0) := by rw [cell_of_row _ _ _ _ _ _ HR1.out]; rfl
  have z1 : w1.cell? ⟨w.heap.size, 1, none⟩ = some (.slice none 0 0) := by rw [cell_of_row _ _ _ _ _ _ HR1.out]; rfl
  have zf0 := frozen_of_row w1 w.heap.size 0 _ _ HR1.out
  have zf1 := frozen_of_row w1 w.heap.size 1 _ _ HR1.out
  go_wp2_with fail
  refine bodyPost_ret (res_box (u := 3) rfl _ _ w.heap.size 26 _ (0, 0) _ rfl (box2 HR1.out _ _).1 Try.underlying26 rfl rfl) rfl ?_
  exact (pl_close (a := x) HB1.out (box2 HR1.out _ _).2 HIT.out HST.out (by omega) hts hsz)


theorem drawAlwaysSet_any (A : Option Addr) (n c : Nat) (w : World) (hb : Byt w w.heap.size A n) (hn : n ≤ 1048576) (hc : n ≤ c) :
    Calls Try.prog 43 #[.slice A n c] w (PlRet w) := by
  have HB := Lib.hid hb
  clear hb
  go_enter Try.func43, Try.ntmps43
  go_wp2_with fail
  have hA := bel_a w (.cells #[.slice none 0 0, .slice none 0 0] 26)
  have hsA : (w.alloc (.cells #[.slice none 0 0, .slice none 0 0] 26)).heap.size = w.heap.size + 1 := by simp
  refine (l3Place_any A n c _ (by rw [hsA]; exact (HB.out.keep fun b o hb => hA.cell (p := ⟨b, o, none⟩) hb).more (by omega)) hn hc).mono ?_
  rintro e w1 ⟨vt, vb, ts, l, x, rfl, hit, hst, hts, hsz, hb1⟩
  rw [hsA] at hit hst
  have HR1 := Lib.hid (row_below (heap_alloc_new w (.cells #[.slice none 0 0, .slice none 0 0] 26)) hb1)
  have HB1 := Lib.hid (hA.trans (hb1.mono (by omega)))
  have HIT := Lib.hid hit
  have HST := Lib.hid hst
  obtain ⟨At, ct, rfl, -⟩ := hit.slice
  obtain ⟨Ab, cb, rfl, -⟩ := hst.slice
  clear hb1 hA hsA hit hst
  have z0 : w1.cell? ⟨w.heap.size, 0, none⟩ = some (.slice none 0 0) := by rw [cell_of_row _ _ _ _ _ _ HR1.out]; rfl
  have z1 : w1.cell? ⟨w.heap.size, 1, none⟩ = some (.slice none 0 0) := by rw [cell_of_row _ _ _ _ _ _ HR1.out]; rfl
  have zf0 := frozen_of_row w1 w.heap.size 0 _ _ HR1.out
  have zf1 := frozen_of_row w1 w.heap.size 1 _ _ HR1.out
  go_wp2_with fail
  refine bodyPost_ret (res_box (u := 3) rfl _ _ w.heap.size 26 _ (0, 0) _ rfl (box2 HR1.out _ _).1 Try.underlying26 rfl rfl) rfl ?_
  exact (pl_close (a := x) HB1.out (box2 HR1.out _ _).2 HIT.out HST.out (by omega) hts hsz)

end Go.Proofs.Yteaddodjijlpjaa
