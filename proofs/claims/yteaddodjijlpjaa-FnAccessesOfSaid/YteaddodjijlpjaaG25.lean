import Derived.Test.YteaddodjijlpjaaG24
import Derived.Test.YteaddodjijlpjaaG01
set_option linter.unusedVariables false

/- the draws of a program and small numbers (spec.l10Case and what stands on it). -/
namespace Go.Proofs.Yteaddodjijlpjaa
open Go.RowKit

def D2Ret (w : World) (e : Ending) (w' : World) : Prop :=
  ∃ (vt vb : Value) (ts : List Int) (l : List St) (a v : Int), e = .returned (.tuple #[.agg #[vt, vb], .int .i64 a, .int .i64 v]) ∧ IntX w' (fun b => w.heap.size ≤ b) vt ts ∧ StX w' (fun b => w.heap.size ≤ b) vb l ∧ ts.length ≤ 700 ∧ szL l ≤ 100000 ∧ Below w.heap.size w w'
def D3Ret (w : World) (e : Ending) (w' : World) : Prop :=
  ∃ (vt vb : Value) (ts : List Int) (l : List St) (a v u : Int), e = .returned (.tuple #[.agg #[vt, vb], .int .i64 a, .int .i64 v, .int .i64 u]) ∧ IntX w' (fun b => w.heap.size ≤ b) vt ts ∧ StX w' (fun b => w.heap.size ≤ b) vb l ∧ ts.length ≤ 700 ∧ szL l ≤ 100000 ∧ Below w.heap.size w w'
/-- what the ends of these draws need -/
structure DsE (w W : World) (vt vb : Value) (ts : List Int) (l : List St) : Prop where
  ht : IntX W (fun b => w.heap.size ≤ b) vt ts
  hl : StX W (fun b => w.heap.size ≤ b) vb l
  bel : Below w.heap.size w W
theorem DsE.mk' {w w3 W : World} {vt vb : Value} {ts : List Int} {l : List St} {lo : Nat} (h3 : Below w.heap.size w w3) (hW : w3.grownBy W (some w.heap.size)) (hT : IntX w3 (fun b => lo ≤ b) vt ts) (hB : StX w3 (fun b => lo ≤ b) vb l) (hlo : w.heap.size < lo) : DsE w W vt vb ts l := by
  have hk : ∀ b, lo ≤ b → b < w3.heap.size → w.heap.size ≤ b ∧ W.heap[b]? = w3.heap[b]? := fun b hb hl => ⟨by omega, hW.block b hl (fun e => by injection e with e; omega)⟩
  exact ⟨hT.frame hW.size hk, hB.frame hW.size hk, grown_new h3 (Nat.le_refl _) hW⟩

theorem res_box2 {P : Program} {fn : Func} {p u u2 : Tmp} {ty : TypeId} (h : fn.results = #[.cell p ty, .tmp u, .tmp u2]) (tmps : Array Value) (w : World) (g : Nat) (t : TypeId) (cs : Array Value) (fr : Nat × Nat) (d : TypeDesc)
    (hp : tmps.getD p undef = .pointer (some ⟨g, 0, none⟩)) (hg : w.heap[g]? = some (.cells cs t fr))
    (hu : P.underlying ty = some d) (hd : (match d with | .struct _ | .array _ _ => true | _ => false) = true) (hi : (P.info? ty).map (·.size) = some cs.size) :
    (results fn tmps).run P w = .ok (.tuple #[.agg cs, tmps.getD u undef, tmps.getD u2 undef]) w := by
  simp only [results, h]
  simp [Sem.run_bind, Result.andThen, asAddr]
  rw [← Array.getD_eq_getD_getElem?, hp]
  simp [run_loadVar_row w g t ty cs fr d hg hu hd hi]
theorem res_box3 {P : Program} {fn : Func} {p u u2 u3 : Tmp} {ty : TypeId} (h : fn.results = #[.cell p ty, .tmp u, .tmp u2, .tmp u3]) (tmps : Array Value) (w : World) (g : Nat) (t : TypeId) (cs : Array Value) (fr : Nat × Nat) (d : TypeDesc)
    (hp : tmps.getD p undef = .pointer (some ⟨g, 0, none⟩)) (hg : w.heap[g]? = some (.cells cs t fr))
    (hu : P.underlying ty = some d) (hd : (match d with | .struct _ | .array _ _ => true | _ => false) = true) (hi : (P.info? ty).map (·.size) = some cs.size) :
    (results fn tmps).run P w = .ok (.tuple #[.agg cs, tmps.getD u undef, tmps.getD u2 undef, tmps.getD u3 undef]) w := by
  simp only [results, h]
  simp [Sem.run_bind, Result.andThen, asAddr]
  rw [← Array.getD_eq_getD_getElem?, hp]
  simp [run_loadVar_row w g t ty cs fr d hg hu hd hi]
theorem belC {B : Nat} {w w' : World} {b o : Nat} {x : Option Value} (h : Below B w w') (e : w.cell? ⟨b, o, none⟩ = x) (hb : b < B) : w'.cell? ⟨b, o, none⟩ = x := (h.cell (p := ⟨b, o, none⟩) hb).trans e

set_option maxHeartbeats 4000000 in
set_option maxRecDepth 100000 in
theorem l10Case_any (A : Option Addr) (n c : Nat) (w : World) (hb : Byt w w.heap.size A n) (hn : n ≤ 1048576) (hc : n ≤ c) :
    Calls Try.prog 50 #[.slice A n c] w (D2Ret w) := by
  have HB := Lib.hid hb
  clear hb
  go_enter Try.func50, Try.ntmps50
  go_wp2_with fail
  have hA := bel_a w (.cells #[.slice none 0 0, .slice none 0 0] 26)
  have hsA : (w.alloc (.cells #[.slice none 0 0, .slice none 0 0] 26)).heap.size = w.heap.size + 1 := by simp
  refine (l3Place_any A n c _ (by rw [hsA]; exact (HB.out.keep fun b o hb => hA.cell (p := ⟨b, o, none⟩) hb).more (by omega)) hn hc).mono ?_
  rintro e w1 ⟨vt, vb, ts, l, a, rfl, hit, hst, hts, hsz, hb1⟩
  rw [hsA] at hit hst
  have HR1 := Lib.hid (row_below (heap_alloc_new w (.cells #[.slice none 0 0, .slice none 0 0] 26)) hb1)
  have HB1 := Lib.hid (hA.trans (hb1.mono (by omega)))
  have hs1 : w.heap.size + 1 ≤ w1.heap.size := by rw [← hsA]; exact hb1.size
  have hb1' := HB1.out
  have hA2 := bel_a w1 (.cells #[vt, vb] 26)
  have hsW : (w1.alloc (.cells #[vt, vb] 26)).heap.size = w1.heap.size + 1 := by simp
  have HR2 := Lib.hid (row_below HR1.out hA2)
  have HRP := Lib.hid (heap_alloc_new w1 (.cells #[vt, vb] 26))
  have HB2 := Lib.hid (hb1'.trans (hA2.mono (by omega)))
  have HIT := Lib.hid (hit.bel hA2)
  have HST := Lib.hid (hst.bel hA2)
  obtain ⟨At, ct, rfl, -⟩ := hit.slice
  obtain ⟨Ab, cb, rfl, -⟩ := hst.slice
  clear hb1 hb1' hA hsA hit hst hA2
  go_wp2_with fail
  generalize w1.alloc (.cells #[.slice At ts.length ct, .slice Ab l.length cb] 26) = W2 at *
  have hs1' : w.heap.size < w1.heap.size := by omega
  have c0 : W2.cell? ⟨w1.heap.size, 0, none⟩ = some (.slice At ts.length ct) := by rw [cell_of_row _ _ _ _ _ _ HRP.out]; rfl
  have c1 : W2.cell? ⟨w1.heap.size, 1, none⟩ = some (.slice Ab l.length cb) := by rw [cell_of_row _ _ _ _ _ _ HRP.out]; rfl
  have hsD : W2.drew.heap.size = w1.heap.size + 1 := by rw [← hsW]; simp
  have HBD2 := Lib.hid ((Below.refl W2.heap.size W2).drew)
  have HBA := Lib.hid (HB.out.keep (w' := W2) fun b o hb => HB2.out.cell (p := ⟨b, o, none⟩) hb)
  have HBD := Lib.hid ((HB.out.keep (w' := W2.drew) fun b o hb => (HB2.out.trans (HBD2.out.mono HB2.out.size)).cell (p := ⟨b, o, none⟩) hb).more (B' := W2.drew.heap.size) (by simp; omega))
  refine wp_region_held_drew (S := (fun w' => w'.cell? ⟨w1.heap.size, 0, none⟩ = some (.slice At ts.length ct) ∧ w'.cell? ⟨w1.heap.size, 1, none⟩ = some (.slice Ab l.length cb))) (by kernel_rfl) ?_ (fun hHeld => ?_)
  · exact ⟨c0, c1⟩
  refine wpAnyH_take (i := 0) (oi := ⟨some 12, _, _, _, _, _⟩) (v := ?_) rfl (by kernel_rfl) (by kernel_rfl) (by kernel_rfl) (fun _ _ _ h => h) (Or.inl ⟨by rfl, fun w' hSw => ?_⟩) (by assumption) ?_
  rotate_left
  · (try dsimp only at hSw); go_simp; (try with_reducible rfl)
  (try simp only [Act.put, List.setIfInBounds_toArray, List.set_cons_zero, List.set_cons_succ])
  refine wpAnyH_take (i := 1) (oi := ⟨some 13, _, _, _, _, _⟩) (v := ?_) rfl (by kernel_rfl) (by kernel_rfl) (by kernel_rfl) (fun _ _ _ h => h) (Or.inl ⟨by rfl, fun w' hSw => ?_⟩) (by assumption) ?_
  rotate_left
  · (try dsimp only at hSw); go_simp; (try with_reducible rfl)
  (try simp only [Act.put, List.setIfInBounds_toArray, List.set_cons_zero, List.set_cons_succ])
  refine wpAnyH_take (i := 2) (oi := ⟨some 14, _, _, _, _, _⟩) (v := ?_) rfl (by kernel_rfl) (by kernel_rfl) (by kernel_rfl) (fun _ _ _ h => h) (Or.inl ⟨by rfl, fun w' hSw => ?_⟩) (by assumption) ?_
  rotate_left
  · (try dsimp only at hSw); go_simp; (try with_reducible rfl)
  (try simp only [Act.put, List.setIfInBounds_toArray, List.set_cons_zero, List.set_cons_succ])
  refine wpAnyH_ready (rs := [3, 4]) (by kernel_rfl) (by simp) ?_
  refine AllReadyH.cons (o := ⟨some 15, _, _, _, _, _⟩) rfl (fun K hK => ?_) (AllReadyH.cons (o := ⟨some 16, _, _, _, _, _⟩) rfl (fun K hK => ?_) AllReadyH.nil)
  · go_simp
    (refine (l17Open_any A n c _ HBD.out hn hc).mono ?_)
    (rintro e w3 ⟨rfl, hd3, hb3⟩)
    (rw [hsD] at hd3)
    (have HD3 := Lib.hid hd3)
    (have HB3 := Lib.hid (HBD2.out.trans (hb3.mono HBD2.out.size)))
    (have hs3 := HB3.out.size)
    (have hlt3 := hd3.lt)
    clear hd3 hb3
    go_simp
    refine hK.out _ _ ?_ (fun hHeld => ?_)
    · exact ⟨belC HB3.out c0 (by omega), belC HB3.out c1 (by omega)⟩
    clear hK K
    (try simp only [Act.put, List.setIfInBounds_toArray, List.set_cons_zero, List.set_cons_succ])
    refine wpAnyH_ready (rs := [4]) (by kernel_rfl) (by simp) ?_
    refine AllReadyH.cons (o := ⟨some 16, _, _, _, _, _⟩) rfl (fun K hK => ?_) AllReadyH.nil
    go_simp
    (have HRN := Lib.hid (RowB.new w3 ([1, 0, 2, 3, 4, 5, (-1), 9].map (Value.int .i64)) 3))
    (have HBN := Lib.hid (bel_a w3 (.cells #[.int .i64 1, .int .i64 0, .int .i64 2, .int .i64 3, .int .i64 4, .int .i64 5, .int .i64 (-1), .int .i64 9] 3)))
    (have HB4 := Lib.hid (HB3.out.trans (HBN.out.mono HB3.out.size)))
    (have HD4 := Lib.hid (HD3.out.low HBN.out hlt3))
    refine hK.out _ _ ?_ (fun hHeld => ?_)
    · exact ⟨belC HB4.out c0 (by omega), belC HB4.out c1 (by omega)⟩
    clear hK K
    (try simp only [Act.put, List.setIfInBounds_toArray, List.set_cons_zero, List.set_cons_succ])
    refine wpAnyH_ready (rs := [5]) (by kernel_rfl) (by simp) ?_
    refine AllReadyH.cons (o := ⟨some 17, _, _, _, _, _⟩) rfl (fun K hK => ?_) AllReadyH.nil
    go_simp
    (have CN : Calls Try.prog 52 #[.pointer (some ⟨(w1.heap.size + 1), 0, none⟩), .slice (some ⟨w3.heap.size, 0, none⟩) 8 8] (w3.alloc (.cells #[.int .i64 1, .int .i64 0, .int .i64 2, .int .i64 3, .int .i64 4, .int .i64 5, .int .i64 (-1), .int .i64 9] 3)) (fun e w' => ∃ x : Int, e = .returned (.int .i64 x) ∧ x ∈ [1, 0, 2, 3, 4, 5, (-1), 9] ∧ Dr w' (w1.heap.size + 1) 1 ∧ ((w3.alloc (.cells #[.int .i64 1, .int .i64 0, .int .i64 2, .int .i64 3, .int .i64 4, .int .i64 5, .int .i64 (-1), .int .i64 9] 3))).grownBy w' (some (w1.heap.size + 1))) := num_any (w1.heap.size + 1) 0 _ [1, 0, 2, 3, 4, 5, (-1), 9] 3 _ HD4.out (by omega) HRN.out (by first | omega | (simp; omega)) (by simp) (by simp))
    (with_reducible refine CN.mono ?_)
    (rintro e w5 ⟨x, rfl, -, -, hg5⟩)
    (have HB5 := Lib.hid (grown_new HB4.out (by omega) hg5))
    (have hs5 := HB5.out.size)
    (have HR5 := Lib.hid (row_below HR2.out HB5.out))
    (have z0 : w5.cell? ⟨w.heap.size, 0, none⟩ = some (.slice none 0 0) := by (rw [cell_of_row _ _ _ _ _ _ HR5.out]; rfl))
    (have z1 : w5.cell? ⟨w.heap.size, 1, none⟩ = some (.slice none 0 0) := by (rw [cell_of_row _ _ _ _ _ _ HR5.out]; rfl))
    (have zf0 := frozen_of_row w5 w.heap.size 0 _ _ HR5.out)
    (have zf1 := frozen_of_row w5 w.heap.size 1 _ _ HR5.out)
    (have HS5 := Lib.hid (pl_set (Ne.symm (Nat.ne_of_lt hs1')) (belC HB5.out c0 (by omega)) (belC HB5.out c1 (by omega)) (.slice At ts.length ct) (.slice Ab l.length cb)))
    clear hg5
    go_simp
    refine hK.out _ _ ?_ (fun hHeld => ?_)
    · exact ⟨belC HB5.out c0 (by omega), belC HB5.out c1 (by omega)⟩
    clear hK K
    (try simp only [Act.put, List.setIfInBounds_toArray, List.set_cons_zero, List.set_cons_succ])
    refine wpAnyH_ready (rs := [6]) (by kernel_rfl) (by simp) ?_
    refine AllReadyH.cons (o := ⟨none, _, _, _, _, _⟩) rfl (fun K hK => ?_) AllReadyH.nil
    go_simp
    refine hK.out _ _ ?_ (fun hHeld => ?_)
    · exact HS5.out
    clear hK K
    (try simp only [Act.put, List.setIfInBounds_toArray, List.set_cons_zero, List.set_cons_succ])
    refine wpAnyH_take (i := 7) (oi := ⟨some 3, _, _, _, _, _⟩) (v := ?_) rfl (by kernel_rfl) (by kernel_rfl) (by kernel_rfl) (fun _ _ _ h => h) (Or.inl ⟨by rfl, fun w' hSw => ?_⟩) (by assumption) ?_
    rotate_left
    · (try dsimp only at hSw); go_simp; (try with_reducible rfl)
    (try simp only [Act.put, List.setIfInBounds_toArray, List.set_cons_zero, List.set_cons_succ])
    refine wpAnyH_take (i := 8) (oi := ⟨some 4, _, _, _, _, _⟩) (v := ?_) rfl (by kernel_rfl) (by kernel_rfl) (by kernel_rfl) (fun _ _ _ h => h) (Or.inl ⟨by rfl, fun w' hSw => ?_⟩) (by assumption) ?_
    rotate_left
    · (try dsimp only at hSw); go_simp; (try with_reducible rfl)
    (try simp only [Act.put, List.setIfInBounds_toArray, List.set_cons_zero, List.set_cons_succ])
    refine wpAnyH_done (by kernel_rfl) ?_ _
    have HIT5 := Lib.hid (HIT.out.bel HB5.out)
    have HST5 := Lib.hid (HST.out.bel HB5.out)
    have HW5 := Lib.hid (HB2.out.trans (HB5.out.mono HB2.out.size))
    go_wp2_with fail
    refine bodyPost_ret (res_box2 (u := 3) (u2 := 4) rfl _ _ w.heap.size 26 _ (0, 0) _ rfl (box2 HR5.out _ _).1 Try.underlying26 rfl rfl) rfl ?_
    have HE := DsE.mk' HW5.out (box2 HR5.out (.slice At ts.length ct) (.slice Ab l.length cb)).2 HIT5.out HST5.out (by omega)
    exact ⟨_, _, ts, l, a, x, rfl, HE.ht, HE.hl, hts, hsz, HE.bel⟩
  · go_simp
    (have HRN := Lib.hid (RowB.new W2.drew ([1, 0, 2, 3, 4, 5, (-1), 9].map (Value.int .i64)) 3))
    (have HB3 := Lib.hid (HBD2.out.trans (bel_a W2.drew (.cells #[.int .i64 1, .int .i64 0, .int .i64 2, .int .i64 3, .int .i64 4, .int .i64 5, .int .i64 (-1), .int .i64 9] 3))))
    (have hs2 : (W2.drew.alloc (.cells #[.int .i64 1, .int .i64 0, .int .i64 2, .int .i64 3, .int .i64 4, .int .i64 5, .int .i64 (-1), .int .i64 9] 3)).heap.size = w1.heap.size + 1 + 1 := by (rw [← hsW]; simp))
    refine hK.out _ _ ?_ (fun hHeld => ?_)
    · exact ⟨belC HB3.out c0 (by omega), belC HB3.out c1 (by omega)⟩
    clear hK K
    (try simp only [Act.put, List.setIfInBounds_toArray, List.set_cons_zero, List.set_cons_succ])
    refine wpAnyH_ready (rs := [3]) (by kernel_rfl) (by simp) ?_
    refine AllReadyH.cons (o := ⟨some 15, _, _, _, _, _⟩) rfl (fun K hK => ?_) AllReadyH.nil
    go_simp
    (refine (l17Open_any A n c _ (HBA.out.keep (fun b o hb => (HB3.out.mono HB2.out.size).cell (p := ⟨b, o, none⟩) hb) |>.more (by omega)) hn hc).mono ?_)
    (rintro e w4 ⟨rfl, hd4, hb4⟩)
    (rw [hs2] at hd4)
    (have HD4 := Lib.hid hd4)
    (have hrn4 := HRN.out.low hb4 (by simp))
    (rw [hsD] at hrn4)
    (have HRN4 := Lib.hid hrn4)
    (have HB4 := Lib.hid (HB3.out.trans (hb4.mono HB3.out.size)))
    (have hs4 := hd4.lt)
    clear hd4 hb4 hrn4
    go_simp
    refine hK.out _ _ ?_ (fun hHeld => ?_)
    · exact ⟨belC HB4.out c0 (by omega), belC HB4.out c1 (by omega)⟩
    clear hK K
    (try simp only [Act.put, List.setIfInBounds_toArray, List.set_cons_zero, List.set_cons_succ])
    refine wpAnyH_ready (rs := [5]) (by kernel_rfl) (by simp) ?_
    refine AllReadyH.cons (o := ⟨some 17, _, _, _, _, _⟩) rfl (fun K hK => ?_) AllReadyH.nil
    go_simp
    (have CN : Calls Try.prog 52 #[.pointer (some ⟨(w1.heap.size + 1 + 1), 0, none⟩), .slice (some ⟨(w1.heap.size + 1), 0, none⟩) 8 8] w4 (fun e w' => ∃ x : Int, e = .returned (.int .i64 x) ∧ x ∈ [1, 0, 2, 3, 4, 5, (-1), 9] ∧ Dr w' (w1.heap.size + 1 + 1) 1 ∧ (w4).grownBy w' (some (w1.heap.size + 1 + 1))) := num_any (w1.heap.size + 1 + 1) 0 _ [1, 0, 2, 3, 4, 5, (-1), 9] 3 _ HD4.out (by omega) HRN4.out (by first | omega | (simp; omega)) (by simp) (by simp))
    (with_reducible refine CN.mono ?_)
    (rintro e w5 ⟨x, rfl, -, -, hg5⟩)
    (have HB5 := Lib.hid (grown_new HB4.out (by omega) hg5))
    (have hs5 := HB5.out.size)
    (have HR5 := Lib.hid (row_below HR2.out HB5.out))
    (have z0 : w5.cell? ⟨w.heap.size, 0, none⟩ = some (.slice none 0 0) := by (rw [cell_of_row _ _ _ _ _ _ HR5.out]; rfl))
    (have z1 : w5.cell? ⟨w.heap.size, 1, none⟩ = some (.slice none 0 0) := by (rw [cell_of_row _ _ _ _ _ _ HR5.out]; rfl))
    (have zf0 := frozen_of_row w5 w.heap.size 0 _ _ HR5.out)
    (have zf1 := frozen_of_row w5 w.heap.size 1 _ _ HR5.out)
    (have HS5 := Lib.hid (pl_set (Ne.symm (Nat.ne_of_lt hs1')) (belC HB5.out c0 (by omega)) (belC HB5.out c1 (by omega)) (.slice At ts.length ct) (.slice Ab l.length cb)))
    clear hg5
    go_simp
    refine hK.out _ _ ?_ (fun hHeld => ?_)
    · exact ⟨belC HB5.out c0 (by omega), belC HB5.out c1 (by omega)⟩
    clear hK K
    (try simp only [Act.put, List.setIfInBounds_toArray, List.set_cons_zero, List.set_cons_succ])
    refine wpAnyH_ready (rs := [6]) (by kernel_rfl) (by simp) ?_
    refine AllReadyH.cons (o := ⟨none, _, _, _, _, _⟩) rfl (fun K hK => ?_) AllReadyH.nil
    go_simp
    refine hK.out _ _ ?_ (fun hHeld => ?_)
    · exact HS5.out
    clear hK K
    (try simp only [Act.put, List.setIfInBounds_toArray, List.set_cons_zero, List.set_cons_succ])
    refine wpAnyH_take (i := 7) (oi := ⟨some 3, _, _, _, _, _⟩) (v := ?_) rfl (by kernel_rfl) (by kernel_rfl) (by kernel_rfl) (fun _ _ _ h => h) (Or.inl ⟨by rfl, fun w' hSw => ?_⟩) (by assumption) ?_
    rotate_left
    · (try dsimp only at hSw); go_simp; (try with_reducible rfl)
    (try simp only [Act.put, List.setIfInBounds_toArray, List.set_cons_zero, List.set_cons_succ])
    refine wpAnyH_take (i := 8) (oi := ⟨some 4, _, _, _, _, _⟩) (v := ?_) rfl (by kernel_rfl) (by kernel_rfl) (by kernel_rfl) (fun _ _ _ h => h) (Or.inl ⟨by rfl, fun w' hSw => ?_⟩) (by assumption) ?_
    rotate_left
    · (try dsimp only at hSw); go_simp; (try with_reducible rfl)
    (try simp only [Act.put, List.setIfInBounds_toArray, List.set_cons_zero, List.set_cons_succ])
    refine wpAnyH_done (by kernel_rfl) ?_ _
    have HIT5 := Lib.hid (HIT.out.bel HB5.out)
    have HST5 := Lib.hid (HST.out.bel HB5.out)
    have HW5 := Lib.hid (HB2.out.trans (HB5.out.mono HB2.out.size))
    go_wp2_with fail
    refine bodyPost_ret (res_box2 (u := 3) (u2 := 4) rfl _ _ w.heap.size 26 _ (0, 0) _ rfl (box2 HR5.out _ _).1 Try.underlying26 rfl rfl) rfl ?_
    have HE := DsE.mk' HW5.out (box2 HR5.out (.slice At ts.length ct) (.slice Ab l.length cb)).2 HIT5.out HST5.out (by omega)
    exact ⟨_, _, ts, l, a, x, rfl, HE.ht, HE.hl, hts, hsz, HE.bel⟩

set_option maxHeartbeats 4000000 in
set_option maxRecDepth 100000 in
theorem drawNumbersOf_any (A : Option Addr) (n c : Nat) (w : World) (hb : Byt w w.heap.size A n) (hn : n ≤ 1048576) (hc : n ≤ c) :
    Calls Try.prog 25 #[.slice A n c] w (D2Ret w) := by
  have HB := Lib.hid hb
  clear hb
  go_enter Try.func25, Try.ntmps25
  go_wp2_with fail
  have hA := bel_a w (.cells #[.slice none 0 0, .slice none 0 0] 26)
  have hsA : (w.alloc (.cells #[.slice none 0 0, .slice none 0 0] 26)).heap.size = w.heap.size + 1 := by simp
  refine (l10Case_any A n c _ (by rw [hsA]; exact (HB.out.keep fun b o hb => hA.cell (p := ⟨b, o, none⟩) hb).more (by omega)) hn hc).mono ?_
  rintro e w1 ⟨vt, vb, ts, l, a, v, rfl, hit, hst, hts, hsz, hb1⟩
  rw [hsA] at hit hst
  have HR1 := Lib.hid (row_below (heap_alloc_new w (.cells #[.slice none 0 0, .slice none 0 0] 26)) hb1)
  have HB1 := Lib.hid (hA.trans (hb1.mono (by omega)))
  have hs1 : w.heap.size + 1 ≤ w1.heap.size := by rw [← hsA]; exact hb1.size
  have hb1' := HB1.out
  have hA2 := bel_a w1 (.cells #[vt, vb] 26)
  have hsW : (w1.alloc (.cells #[vt, vb] 26)).heap.size = w1.heap.size + 1 := by simp
  have HR2 := Lib.hid (row_below HR1.out hA2)
  have HRP := Lib.hid (heap_alloc_new w1 (.cells #[vt, vb] 26))
  have HB2 := Lib.hid (hb1'.trans (hA2.mono (by omega)))
  have HIT := Lib.hid (hit.bel hA2)
  have HST := Lib.hid (hst.bel hA2)
  obtain ⟨At, ct, rfl, -⟩ := hit.slice
  obtain ⟨Ab, cb, rfl, -⟩ := hst.slice
  clear hb1 hb1' hA hsA hit hst hA2
  go_wp2_with fail
  generalize w1.alloc (.cells #[.slice At ts.length ct, .slice Ab l.length cb] 26) = W2 at *
  have hs1' : w.heap.size < w1.heap.size := by omega
  have c0 : W2.cell? ⟨w1.heap.size, 0, none⟩ = some (.slice At ts.length ct) := by rw [cell_of_row _ _ _ _ _ _ HRP.out]; rfl
  have c1 : W2.cell? ⟨w1.heap.size, 1, none⟩ = some (.slice Ab l.length cb) := by rw [cell_of_row _ _ _ _ _ _ HRP.out]; rfl
  have hsD : W2.drew.heap.size = w1.heap.size + 1 := by rw [← hsW]; simp
  have HBD2 := Lib.hid ((Below.refl W2.heap.size W2).drew)
  have HBA := Lib.hid (HB.out.keep (w' := W2) fun b o hb => HB2.out.cell (p := ⟨b, o, none⟩) hb)
  have HBD := Lib.hid ((HB.out.keep (w' := W2.drew) fun b o hb => (HB2.out.trans (HBD2.out.mono HB2.out.size)).cell (p := ⟨b, o, none⟩) hb).more (B' := W2.drew.heap.size) (by simp; omega))
  refine wp_region_held_drew (S := (fun w' => w'.cell? ⟨w1.heap.size, 0, none⟩ = some (.slice At ts.length ct) ∧ w'.cell? ⟨w1.heap.size, 1, none⟩ = some (.slice Ab l.length cb))) (by kernel_rfl) ?_ (fun hHeld => ?_)
  · exact ⟨c0, c1⟩
  refine wpAnyH_take (i := 0) (oi := ⟨some 14, _, _, _, _, _⟩) (v := ?_) rfl (by kernel_rfl) (by kernel_rfl) (by kernel_rfl) (fun _ _ _ h => h) (Or.inl ⟨by rfl, fun w' hSw => ?_⟩) (by assumption) ?_
  rotate_left
  · (try dsimp only at hSw); go_simp; (try with_reducible rfl)
  (try simp only [Act.put, List.setIfInBounds_toArray, List.set_cons_zero, List.set_cons_succ])
  refine wpAnyH_take (i := 1) (oi := ⟨some 15, _, _, _, _, _⟩) (v := ?_) rfl (by kernel_rfl) (by kernel_rfl) (by kernel_rfl) (fun _ _ _ h => h) (Or.inl ⟨by rfl, fun w' hSw => ?_⟩) (by assumption) ?_
  rotate_left
  · (try dsimp only at hSw); go_simp; (try with_reducible rfl)
  (try simp only [Act.put, List.setIfInBounds_toArray, List.set_cons_zero, List.set_cons_succ])
  refine wpAnyH_take (i := 2) (oi := ⟨some 16, _, _, _, _, _⟩) (v := ?_) rfl (by kernel_rfl) (by kernel_rfl) (by kernel_rfl) (fun _ _ _ h => h) (Or.inl ⟨by rfl, fun w' hSw => ?_⟩) (by assumption) ?_
  rotate_left
  · (try dsimp only at hSw); go_simp; (try with_reducible rfl)
  (try simp only [Act.put, List.setIfInBounds_toArray, List.set_cons_zero, List.set_cons_succ])
  refine wpAnyH_ready (rs := [3, 4]) (by kernel_rfl) (by simp) ?_
  refine AllReadyH.cons (o := ⟨some 17, _, _, _, _, _⟩) rfl (fun K hK => ?_) (AllReadyH.cons (o := ⟨some 18, _, _, _, _, _⟩) rfl (fun K hK => ?_) AllReadyH.nil)
  · go_simp
    (refine (l17Open_any A n c _ HBD.out hn hc).mono ?_)
    (rintro e w3 ⟨rfl, hd3, hb3⟩)
    (rw [hsD] at hd3)
    (have HD3 := Lib.hid hd3)
    (have HB3 := Lib.hid (HBD2.out.trans (hb3.mono HBD2.out.size)))
    (have hs3 := HB3.out.size)
    (have hlt3 := hd3.lt)
    clear hd3 hb3
    go_simp
    refine hK.out _ _ ?_ (fun hHeld => ?_)
    · exact ⟨belC HB3.out c0 (by omega), belC HB3.out c1 (by omega)⟩
    clear hK K
    (try simp only [Act.put, List.setIfInBounds_toArray, List.set_cons_zero, List.set_cons_succ])
    refine wpAnyH_ready (rs := [4]) (by kernel_rfl) (by simp) ?_
    refine AllReadyH.cons (o := ⟨some 18, _, _, _, _, _⟩) rfl (fun K hK => ?_) AllReadyH.nil
    go_simp
    (have HRN := Lib.hid (RowB.new w3 ([0, 0, 0, 1, 2, (-1)].map (Value.int .i64)) 3))
    (have HBN := Lib.hid (bel_a w3 (.cells #[.int .i64 0, .int .i64 0, .int .i64 0, .int .i64 1, .int .i64 2, .int .i64 (-1)] 3)))
    (have HB4 := Lib.hid (HB3.out.trans (HBN.out.mono HB3.out.size)))
    (have HD4 := Lib.hid (HD3.out.low HBN.out hlt3))
    refine hK.out _ _ ?_ (fun hHeld => ?_)
    · exact ⟨belC HB4.out c0 (by omega), belC HB4.out c1 (by omega)⟩
    clear hK K
    (try simp only [Act.put, List.setIfInBounds_toArray, List.set_cons_zero, List.set_cons_succ])
    refine wpAnyH_ready (rs := [5]) (by kernel_rfl) (by simp) ?_
    refine AllReadyH.cons (o := ⟨some 19, _, _, _, _, _⟩) rfl (fun K hK => ?_) AllReadyH.nil
    go_simp
    (have CN : Calls Try.prog 52 #[.pointer (some ⟨(w1.heap.size + 1), 0, none⟩), .slice (some ⟨w3.heap.size, 0, none⟩) 6 6] (w3.alloc (.cells #[.int .i64 0, .int .i64 0, .int .i64 0, .int .i64 1, .int .i64 2, .int .i64 (-1)] 3)) (fun e w' => ∃ x : Int, e = .returned (.int .i64 x) ∧ x ∈ [0, 0, 0, 1, 2, (-1)] ∧ Dr w' (w1.heap.size + 1) 1 ∧ ((w3.alloc (.cells #[.int .i64 0, .int .i64 0, .int .i64 0, .int .i64 1, .int .i64 2, .int .i64 (-1)] 3))).grownBy w' (some (w1.heap.size + 1))) := num_any (w1.heap.size + 1) 0 _ [0, 0, 0, 1, 2, (-1)] 3 _ HD4.out (by omega) HRN.out (by first | omega | (simp; omega)) (by simp) (by simp))
    (with_reducible refine CN.mono ?_)
    (rintro e w5 ⟨x, rfl, -, -, hg5⟩)
    (have HB5 := Lib.hid (grown_new HB4.out (by omega) hg5))
    (have hs5 := HB5.out.size)
    (have HR5 := Lib.hid (row_below HR2.out HB5.out))
    (have z0 : w5.cell? ⟨w.heap.size, 0, none⟩ = some (.slice none 0 0) := by (rw [cell_of_row _ _ _ _ _ _ HR5.out]; rfl))
    (have z1 : w5.cell? ⟨w.heap.size, 1, none⟩ = some (.slice none 0 0) := by (rw [cell_of_row _ _ _ _ _ _ HR5.out]; rfl))
    (have zf0 := frozen_of_row w5 w.heap.size 0 _ _ HR5.out)
    (have zf1 := frozen_of_row w5 w.heap.size 1 _ _ HR5.out)
    (have HS5 := Lib.hid (pl_set (Ne.symm (Nat.ne_of_lt hs1')) (belC HB5.out c0 (by omega)) (belC HB5.out c1 (by omega)) (.slice At ts.length ct) (.slice Ab l.length cb)))
    clear hg5
    go_simp
    refine hK.out _ _ ?_ (fun hHeld => ?_)
    · exact ⟨belC HB5.out c0 (by omega), belC HB5.out c1 (by omega)⟩
    clear hK K
    (try simp only [Act.put, List.setIfInBounds_toArray, List.set_cons_zero, List.set_cons_succ])
    refine wpAnyH_ready (rs := [6]) (by kernel_rfl) (by simp) ?_
    refine AllReadyH.cons (o := ⟨none, _, _, _, _, _⟩) rfl (fun K hK => ?_) AllReadyH.nil
    go_simp
    refine hK.out _ _ ?_ (fun hHeld => ?_)
    · exact HS5.out
    clear hK K
    (try simp only [Act.put, List.setIfInBounds_toArray, List.set_cons_zero, List.set_cons_succ])
    refine wpAnyH_take (i := 7) (oi := ⟨some 3, _, _, _, _, _⟩) (v := ?_) rfl (by kernel_rfl) (by kernel_rfl) (by kernel_rfl) (fun _ _ _ h => h) (Or.inl ⟨by rfl, fun w' hSw => ?_⟩) (by assumption) ?_
    rotate_left
    · (try dsimp only at hSw); go_simp; (try with_reducible rfl)
    (try simp only [Act.put, List.setIfInBounds_toArray, List.set_cons_zero, List.set_cons_succ])
    refine wpAnyH_take (i := 8) (oi := ⟨some 4, _, _, _, _, _⟩) (v := ?_) rfl (by kernel_rfl) (by kernel_rfl) (by kernel_rfl) (fun _ _ _ h => h) (Or.inl ⟨by rfl, fun w' hSw => ?_⟩) (by assumption) ?_
    rotate_left
    · (try dsimp only at hSw); go_simp; (try with_reducible rfl)
    (try simp only [Act.put, List.setIfInBounds_toArray, List.set_cons_zero, List.set_cons_succ])
    refine wpAnyH_done (by kernel_rfl) ?_ _
    have HIT5 := Lib.hid (HIT.out.bel HB5.out)
    have HST5 := Lib.hid (HST.out.bel HB5.out)
    have HW5 := Lib.hid (HB2.out.trans (HB5.out.mono HB2.out.size))
    go_wp2_with fail
    refine bodyPost_ret (res_box2 (u := 3) (u2 := 4) rfl _ _ w.heap.size 26 _ (0, 0) _ rfl (box2 HR5.out _ _).1 Try.underlying26 rfl rfl) rfl ?_
    have HE := DsE.mk' HW5.out (box2 HR5.out (.slice At ts.length ct) (.slice Ab l.length cb)).2 HIT5.out HST5.out (by omega)
    exact ⟨_, _, ts, l, a, x, rfl, HE.ht, HE.hl, hts, hsz, HE.bel⟩
  · go_simp
    (have HRN := Lib.hid (RowB.new W2.drew ([0, 0, 0, 1, 2, (-1)].map (Value.int .i64)) 3))
    (have HB3 := Lib.hid (HBD2.out.trans (bel_a W2.drew (.cells #[.int .i64 0, .int .i64 0, .int .i64 0, .int .i64 1, .int .i64 2, .int .i64 (-1)] 3))))
    (have hs2 : (W2.drew.alloc (.cells #[.int .i64 0, .int .i64 0, .int .i64 0, .int .i64 1, .int .i64 2, .int .i64 (-1)] 3)).heap.size = w1.heap.size + 1 + 1 := by (rw [← hsW]; simp))
    refine hK.out _ _ ?_ (fun hHeld => ?_)
    · exact ⟨belC HB3.out c0 (by omega), belC HB3.out c1 (by omega)⟩
    clear hK K
    (try simp only [Act.put, List.setIfInBounds_toArray, List.set_cons_zero, List.set_cons_succ])
    refine wpAnyH_ready (rs := [3]) (by kernel_rfl) (by simp) ?_
    refine AllReadyH.cons (o := ⟨some 17, _, _, _, _, _⟩) rfl (fun K hK => ?_) AllReadyH.nil
    go_simp
    (refine (l17Open_any A n c _ (HBA.out.keep (fun b o hb => (HB3.out.mono HB2.out.size).cell (p := ⟨b, o, none⟩) hb) |>.more (by omega)) hn hc).mono ?_)
    (rintro e w4 ⟨rfl, hd4, hb4⟩)
    (rw [hs2] at hd4)
    (have HD4 := Lib.hid hd4)
    (have hrn4 := HRN.out.low hb4 (by simp))
    (rw [hsD] at hrn4)
    (have HRN4 := Lib.hid hrn4)
    (have HB4 := Lib.hid (HB3.out.trans (hb4.mono HB3.out.size)))
    (have hs4 := hd4.lt)
    clear hd4 hb4 hrn4
    go_simp
    refine hK.out _ _ ?_ (fun hHeld => ?_)
    · exact ⟨belC HB4.out c0 (by omega), belC HB4.out c1 (by omega)⟩
    clear hK K
    (try simp only [Act.put, List.setIfInBounds_toArray, List.set_cons_zero, List.set_cons_succ])
    refine wpAnyH_ready (rs := [5]) (by kernel_rfl) (by simp) ?_
    refine AllReadyH.cons (o := ⟨some 19, _, _, _, _, _⟩) rfl (fun K hK => ?_) AllReadyH.nil
    go_simp
    (have CN : Calls Try.prog 52 #[.pointer (some ⟨(w1.heap.size + 1 + 1), 0, none⟩), .slice (some ⟨(w1.heap.size + 1), 0, none⟩) 6 6] w4 (fun e w' => ∃ x : Int, e = .returned (.int .i64 x) ∧ x ∈ [0, 0, 0, 1, 2, (-1)] ∧ Dr w' (w1.heap.size + 1 + 1) 1 ∧ (w4).grownBy w' (some (w1.heap.size + 1 + 1))) := num_any (w1.heap.size + 1 + 1) 0 _ [0, 0, 0, 1, 2, (-1)] 3 _ HD4.out (by omega) HRN4.out (by first | omega | (simp; omega)) (by simp) (by simp))
    (with_reducible refine CN.mono ?_)
    (rintro e w5 ⟨x, rfl, -, -, hg5⟩)
    (have HB5 := Lib.hid (grown_new HB4.out (by omega) hg5))
    (have hs5 := HB5.out.size)
    (have HR5 := Lib.hid (row_below HR2.out HB5.out))
    (have z0 : w5.cell? ⟨w.heap.size, 0, none⟩ = some (.slice none 0 0) := by (rw [cell_of_row _ _ _ _ _ _ HR5.out]; rfl))
    (have z1 : w5.cell? ⟨w.heap.size, 1, none⟩ = some (.slice none 0 0) := by (rw [cell_of_row _ _ _ _ _ _ HR5.out]; rfl))
    (have zf0 := frozen_of_row w5 w.heap.size 0 _ _ HR5.out)
    (have zf1 := frozen_of_row w5 w.heap.size 1 _ _ HR5.out)
    (have HS5 := Lib.hid (pl_set (Ne.symm (Nat.ne_of_lt hs1')) (belC HB5.out c0 (by omega)) (belC HB5.out c1 (by omega)) (.slice At ts.length ct) (.slice Ab l.length cb)))
    clear hg5
    go_simp
    refine hK.out _ _ ?_ (fun hHeld => ?_)
    · exact ⟨belC HB5.out c0 (by omega), belC HB5.out c1 (by omega)⟩
    clear hK K
    (try simp only [Act.put, List.setIfInBounds_toArray, List.set_cons_zero, List.set_cons_succ])
    refine wpAnyH_ready (rs := [6]) (by kernel_rfl) (by simp) ?_
    refine AllReadyH.cons (o := ⟨none, _, _, _, _, _⟩) rfl (fun K hK => ?_) AllReadyH.nil
    go_simp
    refine hK.out _ _ ?_ (fun hHeld => ?_)
    · exact HS5.out
    clear hK K
    (try simp only [Act.put, List.setIfInBounds_toArray, List.set_cons_zero, List.set_cons_succ])
    refine wpAnyH_take (i := 7) (oi := ⟨some 3, _, _, _, _, _⟩) (v := ?_) rfl (by kernel_rfl) (by kernel_rfl) (by kernel_rfl) (fun _ _ _ h => h) (Or.inl ⟨by rfl, fun w' hSw => ?_⟩) (by assumption) ?_
    rotate_left
    · (try dsimp only at hSw); go_simp; (try with_reducible rfl)
    (try simp only [Act.put, List.setIfInBounds_toArray, List.set_cons_zero, List.set_cons_succ])
    refine wpAnyH_take (i := 8) (oi := ⟨some 4, _, _, _, _, _⟩) (v := ?_) rfl (by kernel_rfl) (by kernel_rfl) (by kernel_rfl) (fun _ _ _ h => h) (Or.inl ⟨by rfl, fun w' hSw => ?_⟩) (by assumption) ?_
    rotate_left
    · (try dsimp only at hSw); go_simp; (try with_reducible rfl)
    (try simp only [Act.put, List.setIfInBounds_toArray, List.set_cons_zero, List.set_cons_succ])
    refine wpAnyH_done (by kernel_rfl) ?_ _
    have HIT5 := Lib.hid (HIT.out.bel HB5.out)
    have HST5 := Lib.hid (HST.out.bel HB5.out)
    have HW5 := Lib.hid (HB2.out.trans (HB5.out.mono HB2.out.size))
    go_wp2_with fail
    refine bodyPost_ret (res_box2 (u := 3) (u2 := 4) rfl _ _ w.heap.size 26 _ (0, 0) _ rfl (box2 HR5.out _ _).1 Try.underlying26 rfl rfl) rfl ?_
    have HE := DsE.mk' HW5.out (box2 HR5.out (.slice At ts.length ct) (.slice Ab l.length cb)).2 HIT5.out HST5.out (by omega)
    exact ⟨_, _, ts, l, a, x, rfl, HE.ht, HE.hl, hts, hsz, HE.bel⟩

set_option maxHeartbeats 4000000 in
set_option maxRecDepth 100000 in
theorem drawMayAlias_any (A : Option Addr) (n c : Nat) (w : World) (hb : Byt w w.heap.size A n) (hn : n ≤ 1048576) (hc : n ≤ c) :
    Calls Try.prog 15 #[.slice A n c] w (D3Ret w) := by
  have HB := Lib.hid hb
  clear hb
  go_enter Try.func15, Try.ntmps15
  go_wp2_with fail
  have hA := bel_a w (.cells #[.slice none 0 0, .slice none 0 0] 26)
  have hsA : (w.alloc (.cells #[.slice none 0 0, .slice none 0 0] 26)).heap.size = w.heap.size + 1 := by simp
  refine (l10Case_any A n c _ (by rw [hsA]; exact (HB.out.keep fun b o hb => hA.cell (p := ⟨b, o, none⟩) hb).more (by omega)) hn hc).mono ?_
  rintro e w1 ⟨vt, vb, ts, l, a, v, rfl, hit, hst, hts, hsz, hb1⟩
  rw [hsA] at hit hst
  have HR1 := Lib.hid (row_below (heap_alloc_new w (.cells #[.slice none 0 0, .slice none 0 0] 26)) hb1)
  have HB1 := Lib.hid (hA.trans (hb1.mono (by omega)))
  have hs1 : w.heap.size + 1 ≤ w1.heap.size := by rw [← hsA]; exact hb1.size
  have hb1' := HB1.out
  have hA2 := bel_a w1 (.cells #[vt, vb] 26)
  have hsW : (w1.alloc (.cells #[vt, vb] 26)).heap.size = w1.heap.size + 1 := by simp
  have HR2 := Lib.hid (row_below HR1.out hA2)
  have HRP := Lib.hid (heap_alloc_new w1 (.cells #[vt, vb] 26))
  have HB2 := Lib.hid (hb1'.trans (hA2.mono (by omega)))
  have HIT := Lib.hid (hit.bel hA2)
  have HST := Lib.hid (hst.bel hA2)
  obtain ⟨At, ct, rfl, -⟩ := hit.slice
  obtain ⟨Ab, cb, rfl, -⟩ := hst.slice
  clear hb1 hb1' hA hsA hit hst hA2
  go_wp2_with fail
  generalize w1.alloc (.cells #[.slice At ts.length ct, .slice Ab l.length cb] 26) = W2 at *
  have hs1' : w.heap.size < w1.heap.size := by omega
  have c0 : W2.cell? ⟨w1.heap.size, 0, none⟩ = some (.slice At ts.length ct) := by rw [cell_of_row _ _ _ _ _ _ HRP.out]; rfl
  have c1 : W2.cell? ⟨w1.heap.size, 1, none⟩ = some (.slice Ab l.length cb) := by rw [cell_of_row _ _ _ _ _ _ HRP.out]; rfl
  have hsD : W2.drew.heap.size = w1.heap.size + 1 := by rw [← hsW]; simp
  have HBD2 := Lib.hid ((Below.refl W2.heap.size W2).drew)
  have HBA := Lib.hid (HB.out.keep (w' := W2) fun b o hb => HB2.out.cell (p := ⟨b, o, none⟩) hb)
  have HBD := Lib.hid ((HB.out.keep (w' := W2.drew) fun b o hb => (HB2.out.trans (HBD2.out.mono HB2.out.size)).cell (p := ⟨b, o, none⟩) hb).more (B' := W2.drew.heap.size) (by simp; omega))
  refine wp_region_held_drew (S := (fun w' => w'.cell? ⟨w1.heap.size, 0, none⟩ = some (.slice At ts.length ct) ∧ w'.cell? ⟨w1.heap.size, 1, none⟩ = some (.slice Ab l.length cb))) (by kernel_rfl) ?_ (fun hHeld => ?_)
  · exact ⟨c0, c1⟩
  refine wpAnyH_take (i := 0) (oi := ⟨some 15, _, _, _, _, _⟩) (v := ?_) rfl (by kernel_rfl) (by kernel_rfl) (by kernel_rfl) (fun _ _ _ h => h) (Or.inl ⟨by rfl, fun w' hSw => ?_⟩) (by assumption) ?_
  rotate_left
  · (try dsimp only at hSw); go_simp; (try with_reducible rfl)
  (try simp only [Act.put, List.setIfInBounds_toArray, List.set_cons_zero, List.set_cons_succ])
  refine wpAnyH_take (i := 1) (oi := ⟨some 16, _, _, _, _, _⟩) (v := ?_) rfl (by kernel_rfl) (by kernel_rfl) (by kernel_rfl) (fun _ _ _ h => h) (Or.inl ⟨by rfl, fun w' hSw => ?_⟩) (by assumption) ?_
  rotate_left
  · (try dsimp only at hSw); go_simp; (try with_reducible rfl)
  (try simp only [Act.put, List.setIfInBounds_toArray, List.set_cons_zero, List.set_cons_succ])
  refine wpAnyH_take (i := 2) (oi := ⟨some 17, _, _, _, _, _⟩) (v := ?_) rfl (by kernel_rfl) (by kernel_rfl) (by kernel_rfl) (fun _ _ _ h => h) (Or.inl ⟨by rfl, fun w' hSw => ?_⟩) (by assumption) ?_
  rotate_left
  · (try dsimp only at hSw); go_simp; (try with_reducible rfl)
  (try simp only [Act.put, List.setIfInBounds_toArray, List.set_cons_zero, List.set_cons_succ])
  refine wpAnyH_take (i := 3) (oi := ⟨some 18, _, _, _, _, _⟩) (v := ?_) rfl (by kernel_rfl) (by kernel_rfl) (by kernel_rfl) (fun _ _ _ h => h) (Or.inl ⟨by rfl, fun w' hSw => ?_⟩) (by assumption) ?_
  rotate_left
  · (try dsimp only at hSw); go_simp; (try with_reducible rfl)
  (try simp only [Act.put, List.setIfInBounds_toArray, List.set_cons_zero, List.set_cons_succ])
  refine wpAnyH_ready (rs := [4, 5]) (by kernel_rfl) (by simp) ?_
  refine AllReadyH.cons (o := ⟨some 19, _, _, _, _, _⟩) rfl (fun K hK => ?_) (AllReadyH.cons (o := ⟨some 20, _, _, _, _, _⟩) rfl (fun K hK => ?_) AllReadyH.nil)
  · go_simp
    (refine (l17Open_any A n c _ HBD.out hn hc).mono ?_)
    (rintro e w3 ⟨rfl, hd3, hb3⟩)
    (rw [hsD] at hd3)
    (have HD3 := Lib.hid hd3)
    (have HB3 := Lib.hid (HBD2.out.trans (hb3.mono HBD2.out.size)))
    (have hs3 := HB3.out.size)
    (have hlt3 := hd3.lt)
    clear hd3 hb3
    go_simp
    refine hK.out _ _ ?_ (fun hHeld => ?_)
    · exact ⟨belC HB3.out c0 (by omega), belC HB3.out c1 (by omega)⟩
    clear hK K
    (try simp only [Act.put, List.setIfInBounds_toArray, List.set_cons_zero, List.set_cons_succ])
    refine wpAnyH_ready (rs := [5]) (by kernel_rfl) (by simp) ?_
    refine AllReadyH.cons (o := ⟨some 20, _, _, _, _, _⟩) rfl (fun K hK => ?_) AllReadyH.nil
    go_simp
    (have HRN := Lib.hid (RowB.new w3 ([2, 1, 3, 4, 5, 0, (-1)].map (Value.int .i64)) 3))
    (have HBN := Lib.hid (bel_a w3 (.cells #[.int .i64 2, .int .i64 1, .int .i64 3, .int .i64 4, .int .i64 5, .int .i64 0, .int .i64 (-1)] 3)))
    (have HB4 := Lib.hid (HB3.out.trans (HBN.out.mono HB3.out.size)))
    (have HD4 := Lib.hid (HD3.out.low HBN.out hlt3))
    refine hK.out _ _ ?_ (fun hHeld => ?_)
    · exact ⟨belC HB4.out c0 (by omega), belC HB4.out c1 (by omega)⟩
    clear hK K
    (try simp only [Act.put, List.setIfInBounds_toArray, List.set_cons_zero, List.set_cons_succ])
    refine wpAnyH_ready (rs := [6]) (by kernel_rfl) (by simp) ?_
    refine AllReadyH.cons (o := ⟨some 21, _, _, _, _, _⟩) rfl (fun K hK => ?_) AllReadyH.nil
    go_simp
    (have CN : Calls Try.prog 52 #[.pointer (some ⟨(w1.heap.size + 1), 0, none⟩), .slice (some ⟨w3.heap.size, 0, none⟩) 7 7] (w3.alloc (.cells #[.int .i64 2, .int .i64 1, .int .i64 3, .int .i64 4, .int .i64 5, .int .i64 0, .int .i64 (-1)] 3)) (fun e w' => ∃ x : Int, e = .returned (.int .i64 x) ∧ x ∈ [2, 1, 3, 4, 5, 0, (-1)] ∧ Dr w' (w1.heap.size + 1) 1 ∧ ((w3.alloc (.cells #[.int .i64 2, .int .i64 1, .int .i64 3, .int .i64 4, .int .i64 5, .int .i64 0, .int .i64 (-1)] 3))).grownBy w' (some (w1.heap.size + 1))) := num_any (w1.heap.size + 1) 0 _ [2, 1, 3, 4, 5, 0, (-1)] 3 _ HD4.out (by omega) HRN.out (by first | omega | (simp; omega)) (by simp) (by simp))
    (with_reducible refine CN.mono ?_)
    (rintro e w5 ⟨x, rfl, -, -, hg5⟩)
    (have HB5 := Lib.hid (grown_new HB4.out (by omega) hg5))
    (have hs5 := HB5.out.size)
    (have HR5 := Lib.hid (row_below HR2.out HB5.out))
    (have z0 : w5.cell? ⟨w.heap.size, 0, none⟩ = some (.slice none 0 0) := by (rw [cell_of_row _ _ _ _ _ _ HR5.out]; rfl))
    (have z1 : w5.cell? ⟨w.heap.size, 1, none⟩ = some (.slice none 0 0) := by (rw [cell_of_row _ _ _ _ _ _ HR5.out]; rfl))
    (have zf0 := frozen_of_row w5 w.heap.size 0 _ _ HR5.out)
    (have zf1 := frozen_of_row w5 w.heap.size 1 _ _ HR5.out)
    (have HS5 := Lib.hid (pl_set (Ne.symm (Nat.ne_of_lt hs1')) (belC HB5.out c0 (by omega)) (belC HB5.out c1 (by omega)) (.slice At ts.length ct) (.slice Ab l.length cb)))
    clear hg5
    go_simp
    refine hK.out _ _ ?_ (fun hHeld => ?_)
    · exact ⟨belC HB5.out c0 (by omega), belC HB5.out c1 (by omega)⟩
    clear hK K
    (try simp only [Act.put, List.setIfInBounds_toArray, List.set_cons_zero, List.set_cons_succ])
    refine wpAnyH_ready (rs := [7]) (by kernel_rfl) (by simp) ?_
    refine AllReadyH.cons (o := ⟨none, _, _, _, _, _⟩) rfl (fun K hK => ?_) AllReadyH.nil
    go_simp
    refine hK.out _ _ ?_ (fun hHeld => ?_)
    · exact HS5.out
    clear hK K
    (try simp only [Act.put, List.setIfInBounds_toArray, List.set_cons_zero, List.set_cons_succ])
    refine wpAnyH_take (i := 8) (oi := ⟨some 3, _, _, _, _, _⟩) (v := ?_) rfl (by kernel_rfl) (by kernel_rfl) (by kernel_rfl) (fun _ _ _ h => h) (Or.inl ⟨by rfl, fun w' hSw => ?_⟩) (by assumption) ?_
    rotate_left
    · (try dsimp only at hSw); go_simp; (try with_reducible rfl)
    (try simp only [Act.put, List.setIfInBounds_toArray, List.set_cons_zero, List.set_cons_succ])
    refine wpAnyH_take (i := 9) (oi := ⟨some 4, _, _, _, _, _⟩) (v := ?_) rfl (by kernel_rfl) (by kernel_rfl) (by kernel_rfl) (fun _ _ _ h => h) (Or.inl ⟨by rfl, fun w' hSw => ?_⟩) (by assumption) ?_
    rotate_left
    · (try dsimp only at hSw); go_simp; (try with_reducible rfl)
    (try simp only [Act.put, List.setIfInBounds_toArray, List.set_cons_zero, List.set_cons_succ])
    refine wpAnyH_take (i := 10) (oi := ⟨some 5, _, _, _, _, _⟩) (v := ?_) rfl (by kernel_rfl) (by kernel_rfl) (by kernel_rfl) (fun _ _ _ h => h) (Or.inl ⟨by rfl, fun w' hSw => ?_⟩) (by assumption) ?_
    rotate_left
    · (try dsimp only at hSw); go_simp; (try with_reducible rfl)
    (try simp only [Act.put, List.setIfInBounds_toArray, List.set_cons_zero, List.set_cons_succ])
    refine wpAnyH_done (by kernel_rfl) ?_ _
    have HIT5 := Lib.hid (HIT.out.bel HB5.out)
    have HST5 := Lib.hid (HST.out.bel HB5.out)
    have HW5 := Lib.hid (HB2.out.trans (HB5.out.mono HB2.out.size))
    go_wp2_with fail
    refine bodyPost_ret (res_box3 (u := 3) (u2 := 4) (u3 := 5) rfl _ _ w.heap.size 26 _ (0, 0) _ rfl (box2 HR5.out _ _).1 Try.underlying26 rfl rfl) rfl ?_
    have HE := DsE.mk' HW5.out (box2 HR5.out (.slice At ts.length ct) (.slice Ab l.length cb)).2 HIT5.out HST5.out (by omega)
    exact ⟨_, _, ts, l, a, v, x, rfl, HE.ht, HE.hl, hts, hsz, HE.bel⟩
  · go_simp
    (have HRN := Lib.hid (RowB.new W2.drew ([2, 1, 3, 4, 5, 0, (-1)].map (Value.int .i64)) 3))
    (have HB3 := Lib.hid (HBD2.out.trans (bel_a W2.drew (.cells #[.int .i64 2, .int .i64 1, .int .i64 3, .int .i64 4, .int .i64 5, .int .i64 0, .int .i64 (-1)] 3))))
    (have hs2 : (W2.drew.alloc (.cells #[.int .i64 2, .int .i64 1, .int .i64 3, .int .i64 4, .int .i64 5, .int .i64 0, .int .i64 (-1)] 3)).heap.size = w1.heap.size + 1 + 1 := by (rw [← hsW]; simp))
    refine hK.out _ _ ?_ (fun hHeld => ?_)
    · exact ⟨belC HB3.out c0 (by omega), belC HB3.out c1 (by omega)⟩
    clear hK K
    (try simp only [Act.put, List.setIfInBounds_toArray, List.set_cons_zero, List.set_cons_succ])
    refine wpAnyH_ready (rs := [4]) (by kernel_rfl) (by simp) ?_
    refine AllReadyH.cons (o := ⟨some 19, _, _, _, _, _⟩) rfl (fun K hK => ?_) AllReadyH.nil
    go_simp
    (refine (l17Open_any A n c _ (HBA.out.keep (fun b o hb => (HB3.out.mono HB2.out.size).cell (p := ⟨b, o, none⟩) hb) |>.more (by omega)) hn hc).mono ?_)
    (rintro e w4 ⟨rfl, hd4, hb4⟩)
    (rw [hs2] at hd4)
    (have HD4 := Lib.hid hd4)
    (have hrn4 := HRN.out.low hb4 (by simp))
    (rw [hsD] at hrn4)
    (have HRN4 := Lib.hid hrn4)
    (have HB4 := Lib.hid (HB3.out.trans (hb4.mono HB3.out.size)))
    (have hs4 := hd4.lt)
    clear hd4 hb4 hrn4
    go_simp
    refine hK.out _ _ ?_ (fun hHeld => ?_)
    · exact ⟨belC HB4.out c0 (by omega), belC HB4.out c1 (by omega)⟩
    clear hK K
    (try simp only [Act.put, List.setIfInBounds_toArray, List.set_cons_zero, List.set_cons_succ])
    refine wpAnyH_ready (rs := [6]) (by kernel_rfl) (by simp) ?_
    refine AllReadyH.cons (o := ⟨some 21, _, _, _, _, _⟩) rfl (fun K hK => ?_) AllReadyH.nil
    go_simp
    (have CN : Calls Try.prog 52 #[.pointer (some ⟨(w1.heap.size + 1 + 1), 0, none⟩), .slice (some ⟨(w1.heap.size + 1), 0, none⟩) 7 7] w4 (fun e w' => ∃ x : Int, e = .returned (.int .i64 x) ∧ x ∈ [2, 1, 3, 4, 5, 0, (-1)] ∧ Dr w' (w1.heap.size + 1 + 1) 1 ∧ (w4).grownBy w' (some (w1.heap.size + 1 + 1))) := num_any (w1.heap.size + 1 + 1) 0 _ [2, 1, 3, 4, 5, 0, (-1)] 3 _ HD4.out (by omega) HRN4.out (by first | omega | (simp; omega)) (by simp) (by simp))
    (with_reducible refine CN.mono ?_)
    (rintro e w5 ⟨x, rfl, -, -, hg5⟩)
    (have HB5 := Lib.hid (grown_new HB4.out (by omega) hg5))
    (have hs5 := HB5.out.size)
    (have HR5 := Lib.hid (row_below HR2.out HB5.out))
    (have z0 : w5.cell? ⟨w.heap.size, 0, none⟩ = some (.slice none 0 0) := by (rw [cell_of_row _ _ _ _ _ _ HR5.out]; rfl))
    (have z1 : w5.cell? ⟨w.heap.size, 1, none⟩ = some (.slice none 0 0) := by (rw [cell_of_row _ _ _ _ _ _ HR5.out]; rfl))
    (have zf0 := frozen_of_row w5 w.heap.size 0 _ _ HR5.out)
    (have zf1 := frozen_of_row w5 w.heap.size 1 _ _ HR5.out)
    (have HS5 := Lib.hid (pl_set (Ne.symm (Nat.ne_of_lt hs1')) (belC HB5.out c0 (by omega)) (belC HB5.out c1 (by omega)) (.slice At ts.length ct) (.slice Ab l.length cb)))
    clear hg5
    go_simp
    refine hK.out _ _ ?_ (fun hHeld => ?_)
    · exact ⟨belC HB5.out c0 (by omega), belC HB5.out c1 (by omega)⟩
    clear hK K
    (try simp only [Act.put, List.setIfInBounds_toArray, List.set_cons_zero, List.set_cons_succ])
    refine wpAnyH_ready (rs := [7]) (by kernel_rfl) (by simp) ?_
    refine AllReadyH.cons (o := ⟨none, _, _, _, _, _⟩) rfl (fun K hK => ?_) AllReadyH.nil
    go_simp
    refine hK.out _ _ ?_ (fun hHeld => ?_)
    · exact HS5.out
    clear hK K
    (try simp only [Act.put, List.setIfInBounds_toArray, List.set_cons_zero, List.set_cons_succ])
    refine wpAnyH_take (i := 8) (oi := ⟨some 3, _, _, _, _, _⟩) (v := ?_) rfl (by kernel_rfl) (by kernel_rfl) (by kernel_rfl) (fun _ _ _ h => h) (Or.inl ⟨by rfl, fun w' hSw => ?_⟩) (by assumption) ?_
    rotate_left
    · (try dsimp only at hSw); go_simp; (try with_reducible rfl)
    (try simp only [Act.put, List.setIfInBounds_toArray, List.set_cons_zero, List.set_cons_succ])
    refine wpAnyH_take (i := 9) (oi := ⟨some 4, _, _, _, _, _⟩) (v := ?_) rfl (by kernel_rfl) (by kernel_rfl) (by kernel_rfl) (fun _ _ _ h => h) (Or.inl ⟨by rfl, fun w' hSw => ?_⟩) (by assumption) ?_
    rotate_left
    · (try dsimp only at hSw); go_simp; (try with_reducible rfl)
    (try simp only [Act.put, List.setIfInBounds_toArray, List.set_cons_zero, List.set_cons_succ])
    refine wpAnyH_take (i := 10) (oi := ⟨some 5, _, _, _, _, _⟩) (v := ?_) rfl (by kernel_rfl) (by kernel_rfl) (by kernel_rfl) (fun _ _ _ h => h) (Or.inl ⟨by rfl, fun w' hSw => ?_⟩) (by assumption) ?_
    rotate_left
    · (try dsimp only at hSw); go_simp; (try with_reducible rfl)
    (try simp only [Act.put, List.setIfInBounds_toArray, List.set_cons_zero, List.set_cons_succ])
    refine wpAnyH_done (by kernel_rfl) ?_ _
    have HIT5 := Lib.hid (HIT.out.bel HB5.out)
    have HST5 := Lib.hid (HST.out.bel HB5.out)
    have HW5 := Lib.hid (HB2.out.trans (HB5.out.mono HB2.out.size))
    go_wp2_with fail
    refine bodyPost_ret (res_box3 (u := 3) (u2 := 4) (u3 := 5) rfl _ _ w.heap.size 26 _ (0, 0) _ rfl (box2 HR5.out _ _).1 Try.underlying26 rfl rfl) rfl ?_
    have HE := DsE.mk' HW5.out (box2 HR5.out (.slice At ts.length ct) (.slice Ab l.length cb)).2 HIT5.out HST5.out (by omega)
    exact ⟨_, _, ts, l, a, v, x, rfl, HE.ht, HE.hl, hts, hsz, HE.bel⟩

set_option maxHeartbeats 4000000 in
set_option maxRecDepth 100000 in
theorem drawCellsOf_any (A : Option Addr) (n c : Nat) (w : World) (hb : Byt w w.heap.size A n) (hn : n ≤ 1048576) (hc : n ≤ c) :
    Calls Try.prog 20 #[.slice A n c] w (D2Ret w) := by
  have HB := Lib.hid hb
  clear hb
  go_enter Try.func20, Try.ntmps20
  go_wp2_with fail
  have hA := bel_a w (.cells #[.slice none 0 0, .slice none 0 0] 26)
  have hsA : (w.alloc (.cells #[.slice none 0 0, .slice none 0 0] 26)).heap.size = w.heap.size + 1 := by simp
  refine (l10Case_any A n c _ (by rw [hsA]; exact (HB.out.keep fun b o hb => hA.cell (p := ⟨b, o, none⟩) hb).more (by omega)) hn hc).mono ?_
  rintro e w1 ⟨vt, vb, ts, l, a, v, rfl, hit, hst, hts, hsz, hb1⟩
  rw [hsA] at hit hst
  have HR1 := Lib.hid (row_below (heap_alloc_new w (.cells #[.slice none 0 0, .slice none 0 0] 26)) hb1)
  have HB1 := Lib.hid (hA.trans (hb1.mono (by omega)))
  have hs1 : w.heap.size + 1 ≤ w1.heap.size := by rw [← hsA]; exact hb1.size
  have HIT := Lib.hid hit
  have HST := Lib.hid hst
  obtain ⟨At, ct, rfl, -⟩ := hit.slice
  obtain ⟨Ab, cb, rfl, -⟩ := hst.slice
  clear hb1 hA hsA hit hst
  have z0 : w1.cell? ⟨w.heap.size, 0, none⟩ = some (.slice none 0 0) := by rw [cell_of_row _ _ _ _ _ _ HR1.out]; rfl
  have z1 : w1.cell? ⟨w.heap.size, 1, none⟩ = some (.slice none 0 0) := by rw [cell_of_row _ _ _ _ _ _ HR1.out]; rfl
  have zf0 := frozen_of_row w1 w.heap.size 0 _ _ HR1.out
  have zf1 := frozen_of_row w1 w.heap.size 1 _ _ HR1.out
  go_wp2_with fail
  refine bodyPost_ret (res_box2 (u := 3) (u2 := 4) rfl _ _ w.heap.size 26 _ (0, 0) _ rfl (box2 HR1.out _ _).1 Try.underlying26 rfl rfl) rfl ?_
  have HE := DsE.mk' HB1.out (box2 HR1.out (.slice At ts.length ct) (.slice Ab l.length cb)).2 HIT.out HST.out (by omega)
  exact ⟨_, _, ts, l, a, v, rfl, HE.ht, HE.hl, hts, hsz, HE.bel⟩

set_option maxHeartbeats 4000000 in
set_option maxRecDepth 100000 in
theorem drawSettersOf_any (A : Option Addr) (n c : Nat) (w : World) (hb : Byt w w.heap.size A n) (hn : n ≤ 1048576) (hc : n ≤ c) :
    Calls Try.prog 36 #[.slice A n c] w (D2Ret w) := by
  have HB := Lib.hid hb
  clear hb
  go_enter Try.func36, Try.ntmps36
  go_wp2_with fail
  have hA := bel_a w (.cells #[.slice none 0 0, .slice none 0 0] 26)
  have hsA : (w.alloc (.cells #[.slice none 0 0, .slice none 0 0] 26)).heap.size = w.heap.size + 1 := by simp
  refine (l10Case_any A n c _ (by rw [hsA]; exact (HB.out.keep fun b o hb => hA.cell (p := ⟨b, o, none⟩) hb).more (by omega)) hn hc).mono ?_
  rintro e w1 ⟨vt, vb, ts, l, a, v, rfl, hit, hst, hts, hsz, hb1⟩
  rw [hsA] at hit hst
  have HR1 := Lib.hid (row_below (heap_alloc_new w (.cells #[.slice none 0 0, .slice none 0 0] 26)) hb1)
  have HB1 := Lib.hid (hA.trans (hb1.mono (by omega)))
  have hs1 : w.heap.size + 1 ≤ w1.heap.size := by rw [← hsA]; exact hb1.size
  have HIT := Lib.hid hit
  have HST := Lib.hid hst
  obtain ⟨At, ct, rfl, -⟩ := hit.slice
  obtain ⟨Ab, cb, rfl, -⟩ := hst.slice
  clear hb1 hA hsA hit hst
  have z0 : w1.cell? ⟨w.heap.size, 0, none⟩ = some (.slice none 0 0) := by rw [cell_of_row _ _ _ _ _ _ HR1.out]; rfl
  have z1 : w1.cell? ⟨w.heap.size, 1, none⟩ = some (.slice none 0 0) := by rw [cell_of_row _ _ _ _ _ _ HR1.out]; rfl
  have zf0 := frozen_of_row w1 w.heap.size 0 _ _ HR1.out
  have zf1 := frozen_of_row w1 w.heap.size 1 _ _ HR1.out
  go_wp2_with fail
  refine bodyPost_ret (res_box2 (u := 3) (u2 := 4) rfl _ _ w.heap.size 26 _ (0, 0) _ rfl (box2 HR1.out _ _).1 Try.underlying26 rfl rfl) rfl ?_
  have HE := DsE.mk' HB1.out (box2 HR1.out (.slice At ts.length ct) (.slice Ab l.length cb)).2 HIT.out HST.out (by omega)
  exact ⟨_, _, ts, l, a, v, rfl, HE.ht, HE.hl, hts, hsz, HE.bel⟩

set_option maxHeartbeats 4000000 in
set_option maxRecDepth 100000 in
theorem drawUsersOf_any (A : Option Addr) (n c : Nat) (w : World) (hb : Byt w w.heap.size A n) (hn : n ≤ 1048576) (hc : n ≤ c) :
    Calls Try.prog 28 #[.slice A n c] w (PlRet w) := by
  have HB := Lib.hid hb
  clear hb
  go_enter Try.func28, Try.ntmps28
  go_wp2_with fail
  have hA := bel_a w (.cells #[.slice none 0 0, .slice none 0 0] 26)
  have hsA : (w.alloc (.cells #[.slice none 0 0, .slice none 0 0] 26)).heap.size = w.heap.size + 1 := by simp
  refine (l3Place_any A n c _ (by rw [hsA]; exact (HB.out.keep fun b o hb => hA.cell (p := ⟨b, o, none⟩) hb).more (by omega)) hn hc).mono ?_
  rintro e w1 ⟨vt, vb, ts, l, a, rfl, hit, hst, hts, hsz, hb1⟩
  rw [hsA] at hit hst
  have HR1 := Lib.hid (row_below (heap_alloc_new w (.cells #[.slice none 0 0, .slice none 0 0] 26)) hb1)
  have HB1 := Lib.hid (hA.trans (hb1.mono (by omega)))
  have hs1 : w.heap.size + 1 ≤ w1.heap.size := by rw [← hsA]; exact hb1.size
  have HIT := Lib.hid hit
  have HST := Lib.hid hst
  obtain ⟨At, ct, rfl, -⟩ := hit.slice
  obtain ⟨Ab, cb, rfl, -⟩ := hst.slice
  clear hb1 hA hsA hit hst
  have z0 : w1.cell? ⟨w.heap.size, 0, none⟩ = some (.slice none 0 0) := by rw [cell_of_row _ _ _ _ _ _ HR1.out]; rfl
  have z1 : w1.cell? ⟨w.heap.size, 1, none⟩ = some (.slice none 0 0) := by rw [cell_of_row _ _ _ _ _ _ HR1.out]; rfl
  have zf0 := frozen_of_row w1 w.heap.size 0 _ _ HR1.out
  have zf1 := frozen_of_row w1 w.heap.size 1 _ _ HR1.out
  go_wp2_with fail
  refine bodyPost_ret (res_box (u := 3) rfl _ _ w.heap.size 26 _ (0, 0) _ rfl (box2 HR1.out _ _).1 Try.underlying26 rfl rfl) rfl ?_
  have HE := DsE.mk' HB1.out (box2 HR1.out (.slice At ts.length ct) (.slice Ab l.length cb)).2 HIT.out HST.out (by omega)
  exact ⟨_, _, ts, l, a, rfl, HE.ht, HE.hl, hts, hsz, HE.bel⟩

end Go.Proofs.Yteaddodjijlpjaa

/- Plain: what flows into variables along points (cells, numbers, setters, loans), as a least set. No program in sight. -/
namespace Go.Proofs.Yteaddodjijlpjaa

/-- the sum of f below n -/
def sumN : Nat → (Nat → Nat) → Nat
  | 0, _ => 0
  | n + 1, f => sumN n f + f n
theorem sumN_le {n : Nat} {f g : Nat → Nat} (h : ∀ i, i < n → f i ≤ g i) : sumN n f ≤ sumN n g := by
  induction n with
  | zero => exact Nat.le_refl _
  | succ n ih => have := ih fun i hi => h i (by omega); have := h n (by omega); simp only [sumN]; omega
theorem sumN_lt {n k : Nat} {f g : Nat → Nat} (h : ∀ i, i < n → f i ≤ g i) (hk : k < n) (hlt : f k < g k) : sumN n f < sumN n g := by
  induction n with
  | zero => omega
  | succ n ih =>
    have h1 := h n (by omega)
    have h2 := sumN_le (n := n) (f := f) (g := g) fun i hi => h i (by omega)
    simp only [sumN]
    by_cases e : k = n
    · subst e; omega
    · have := ih (fun i hi => h i (by omega)) (by omega); omega
/-- how many entries are no -/
def muB (n m s : Nat) (st : Nat → Nat → Nat → Bool) : Nat := sumN n fun i => sumN m fun v => sumN s fun e => if st i v e then 0 else 1
theorem one_le {a b : Bool} (h : a = true → b = true) : (if b then 0 else 1) ≤ (if a then 0 else 1) := by
  cases a <;> cases b <;> simp at h ⊢
theorem muB_le {n m s : Nat} {st st' : Nat → Nat → Nat → Bool} (h : ∀ i v e, st i v e = true → st' i v e = true) : muB n m s st' ≤ muB n m s st :=
  sumN_le fun i _ => sumN_le fun v _ => sumN_le fun e _ => one_le (h i v e)
theorem muB_lt {n m s i v e : Nat} {st st' : Nat → Nat → Nat → Bool} (h : ∀ i v e, st i v e = true → st' i v e = true) (hi : i < n) (hv : v < m) (he : e < s) (h0 : st i v e = false) (h1 : st' i v e = true) : muB n m s st' < muB n m s st :=
  sumN_lt (fun i _ => sumN_le fun v _ => sumN_le fun e _ => one_le (h i v e)) hi
    (sumN_lt (fun v _ => sumN_le fun e _ => one_le (h i v e)) hv (sumN_lt (fun e _ => one_le (h i v e)) he (by rw [h0, h1]; decide)))

/-- what v has behind point i (p), where b says what there is before it -/
def aftB (ts : List Int) (G : Nat → Pt → Nat → Bool) (C : Pt → Bool) (i : Nat) (p : Pt) (b : Nat → Nat → Bool) (v e : Nat) : Bool :=
  if setsP p.op p.x = (v : Int) then G i p e || (C p && b p.y.toNat e) else b v e && !(useP ts p.op p.x p.y (v : Int) == 2)
/-- what v has before a point -/
inductive Fl (ts : List Int) (pts : List Pt) (G : Nat → Pt → Nat → Bool) (C : Pt → Bool) : Nat → Nat → Nat → Prop
  | gen {i k v e : Nat} {p : Pt} (hp : pts[i]? = some p) (hk : k ∈ p.next) (hv : v < ts.length) (hs : setsP p.op p.x = (v : Int)) (h : G i p e = true) : Fl ts pts G C k v e
  | copy {i k v e : Nat} {p : Pt} (hp : pts[i]? = some p) (hk : k ∈ p.next) (hv : v < ts.length) (hs : setsP p.op p.x = (v : Int)) (hc : C p = true) (hi : Fl ts pts G C i p.y.toNat e) : Fl ts pts G C k v e
  | keep {i k v e : Nat} {p : Pt} (hp : pts[i]? = some p) (hk : k ∈ p.next) (hv : v < ts.length) (hs : setsP p.op p.x ≠ (v : Int)) (ht : useP ts p.op p.x p.y (v : Int) ≠ 2) (hi : Fl ts pts G C i v e) : Fl ts pts G C k v e
theorem Fl.lt {ts : List Int} {pts : List Pt} {G : Nat → Pt → Nat → Bool} {C : Pt → Bool} {i v e : Nat} (h : Fl ts pts G C i v e) : v < ts.length := by
  cases h <;> assumption
theorem Fl.in_ {ts : List Int} {pts : List Pt} {G : Nat → Pt → Nat → Bool} {C : Pt → Bool} {i v e : Nat} (h : Fl ts pts G C i v e) (hn : ∀ p ∈ pts, ∀ k ∈ p.next, k < pts.length) : i < pts.length := by
  cases h with
  | gen hp hk => exact hn _ (List.mem_of_getElem? hp) _ hk
  | copy hp hk => exact hn _ (List.mem_of_getElem? hp) _ hk
  | keep hp hk => exact hn _ (List.mem_of_getElem? hp) _ hk
theorem Fl.size {ts : List Int} {pts : List Pt} {G : Nat → Pt → Nat → Bool} {C : Pt → Bool} {s i v e : Nat} (h : Fl ts pts G C i v e) (hg : ∀ i p e, pts[i]? = some p → G i p e = true → e < s) : e < s := by
  induction h with
  | gen hp _ _ _ h => exact hg _ _ _ hp h
  | copy _ _ _ _ _ _ ih => exact ih
  | keep _ _ _ _ _ _ ih => exact ih
/-- one step goes on being right -/
theorem Fl.aft {ts : List Int} {pts : List Pt} {G : Nat → Pt → Nat → Bool} {C : Pt → Bool} {b : Nat → Nat → Bool} {i k v e : Nat} {p : Pt} (hb : ∀ v e, b v e = true → Fl ts pts G C i v e) (hp : pts[i]? = some p) (hk : k ∈ p.next) (hv : v < ts.length) (h : aftB ts G C i p b v e = true) : Fl ts pts G C k v e := by
  unfold aftB at h
  split at h
  · rename_i hs
    rw [Bool.or_eq_true, Bool.and_eq_true] at h
    rcases h with h | ⟨hc, h⟩
    · exact .gen hp hk hv hs h
    · exact .copy hp hk hv hs hc (hb _ _ h)
  · rename_i hs
    rw [Bool.and_eq_true] at h
    exact .keep hp hk hv hs (by simpa using h.2) (hb _ _ h.1)
/-- where nothing is missing any more, all is there -/
theorem Fl.done {ts : List Int} {pts : List Pt} {G : Nat → Pt → Nat → Bool} {C : Pt → Bool} {st : Nat → Nat → Nat → Bool} {s : Nat} (hg : ∀ i p e, pts[i]? = some p → G i p e = true → e < s)
    (hc : ∀ i p k v e, pts[i]? = some p → k ∈ p.next → v < ts.length → e < s → aftB ts G C i p (st i) v e = true → st k v e = true) {i v e : Nat} (h : Fl ts pts G C i v e) : st i v e = true := by
  have hs := h.size hg
  induction h with
  | gen hp hk hv hs' h => exact hc _ _ _ _ _ hp hk hv hs (by unfold aftB; rw [if_pos hs', h]; rfl)
  | copy hp hk hv hs' hc' _ ih => exact hc _ _ _ _ _ hp hk hv hs (by unfold aftB; rw [if_pos hs', hc', ih hs]; simp)
  | keep hp hk hv hs' ht _ ih => exact hc _ _ _ _ _ hp hk hv hs (by unfold aftB; rw [if_neg hs', ih hs]; simpa using ht)

def Gcell (i : Nat) (p : Pt) (e : Nat) : Bool := p.op == 2 && e == i
def Ccell (p : Pt) : Bool := p.op == 3 || p.op == 4 || p.op == 5
def Gnum (_ : Nat) (p : Pt) (e : Nat) : Bool := (p.op == 1 && p.n == (e : Int)) || (p.op == 6 && decide (e < 10))
def Cnum (p : Pt) : Bool := p.op == 3
def Gset (i : Nat) (_ : Pt) (e : Nat) : Bool := e == i
def Cset (_ : Pt) : Bool := false
def Gloan (i : Nat) (p : Pt) (e : Nat) : Bool := (p.op == 4 || p.op == 5) && e == i
def Cloan (ts : List Int) (p : Pt) : Bool := p.op == 3 || ((p.op == 4 || p.op == 5) && isRefP (typeOfP ts p.y))

end Go.Proofs.Yteaddodjijlpjaa
