import Derived.Test.YteaddodjijlpjaaG28
set_option linter.unusedVariables false

/- l1Texts, l1Draw. -/
namespace Go.Proofs.Yteaddodjijlpjaa
open Go.RowKit

def strOk : Value → Bool
  | .string s => decide (s.size ≤ 600)
  | _ => false
theorem strOk_get {l : List Value} (h : l.all strOk = true) {k : Nat} (hk : k < l.length) : ∃ s : ByteArray, l[k]? = some (.string s) ∧ s.size ≤ 600 := by
  rw [List.getElem?_eq_getElem hk]
  have := List.all_eq_true.1 h l[k] (List.getElem_mem hk)
  cases hv : l[k] <;> rw [hv] at this <;> simp [strOk] at this
  exact ⟨_, rfl, this⟩
def TxtsRet (w : World) (e : Ending) (w' : World) : Prop :=
  ∃ l : List Value, e = .returned (.slice (some ⟨w.heap.size, 0, none⟩) 25 25) ∧ l.length = 25 ∧ l.all strOk = true ∧ RowB w' w.heap.size 9 l ∧ Below w.heap.size w w'
set_option maxRecDepth 100000 in
theorem texts_any (w : World) : Calls Try.prog 107 #[] w (TxtsRet w) := by
  go_enter Try.func107, Try.ntmps107
  go_wp2_with fail
  go_ret
  exact ⟨_, rfl, by decide, by decide, heap_alloc_new w _, bel_a w _⟩

def DrawRet (w : World) (g p K : Nat) (e : Ending) (w' : World) : Prop :=
  ∃ (vt vb : Value) (ts : List Int) (l : List St) (p' : Nat), e = .returned (.agg #[vt, vb]) ∧ IntX w' (fun b => w.heap.size ≤ b) vt ts ∧ StX w' (fun b => w.heap.size ≤ b) vb l ∧ ts.length ≤ 600 ∧ szL l ≤ 600 ∧ p' ≤ p + K ∧ Dr w' g p' ∧ w.grownBy w' (some g)

theorem StX.grown {w w' : World} {g : Nat} {P : Nat → Prop} {v : Value} {l : List St} (h : StX w P v l) (hg : w.grownBy w' (some g)) (hP : ¬ P g) : StX w' P v l :=
  h.frame hg.size fun b hb hl => ⟨hb, hg.block b hl (fun e => by injection e with e; subst e; exact hP hb)⟩
theorem IntX.grown {w w' : World} {g : Nat} {P : Nat → Prop} {v : Value} {l : List Int} (h : IntX w P v l) (hg : w.grownBy w' (some g)) (hP : ¬ P g) : IntX w' P v l :=
  h.frame hg.size fun b hb hl => ⟨hb, hg.block b hl (fun e => by injection e with e; subst e; exact hP hb)⟩
theorem StX.bel {w w' : World} {P : Nat → Prop} {v : Value} {l : List St} (h : StX w P v l) (hb : Below w.heap.size w w') : StX w' P v l :=
  h.frame hb.size fun b hp hl => ⟨hp, hb.block b hl⟩
theorem IntX.bel {w w' : World} {P : Nat → Prop} {v : Value} {l : List Int} (h : IntX w P v l) (hb : Below w.heap.size w w') : IntX w' P v l :=
  h.frame hb.size fun b hp hl => ⟨hp, hb.block b hl⟩
/-- the end of a draw: the result's box lies at the first new block -/
theorem draw_close {w w3 W : World} {g p q K : Nat} {vt vb : Value} {ts : List Int} {l : List St} (hlt : g < w.heap.size) (h3 : w.grownBy w3 (some g)) (hW : w3.grownBy W (some w.heap.size)) (hd : Dr w3 g q)
    (hT : IntX w3 (fun b => w.heap.size + 1 ≤ b) vt ts) (hB : StX w3 (fun b => w.heap.size + 1 ≤ b) vb l) (ht : ts.length ≤ 600) (hl : szL l ≤ 600) (hq : q ≤ p + K) :
    DrawRet w g p K (.returned (.agg #[vt, vb])) W := by
  have hk : ∀ b, w.heap.size + 1 ≤ b → b < w3.heap.size → w.heap.size ≤ b ∧ W.heap[b]? = w3.heap[b]? := fun b hb hl => ⟨by omega, hW.block b hl (fun e => by injection e with e; omega)⟩
  have hs3 := h3.size
  have hbl : Below w.heap.size w3 W := ⟨hW.os, hW.tape, hW.output, hW.size, fun k hk => hW.block k (by omega) (fun e => by injection e with e; omega)⟩
  exact ⟨vt, vb, ts, l, q, rfl, hT.frame hW.size hk, hB.frame hW.size hk, ht, hl, hq, hd.low hbl hlt, grown_base h3 hbl⟩
theorem row_grown {w w' : World} {g b : Nat} {o : Obj} (h : w.heap[b]? = some o) (hg : w.grownBy w' (some g)) (hne : b ≠ g) : w'.heap[b]? = some o := by
  have hlt : b < w.heap.size := by
    rcases Nat.lt_or_ge b w.heap.size with h' | h'
    · exact h'
    · rw [Array.getElem?_eq_none h'] at h; cases h
  exact (hg.block b hlt (fun e => hne (Option.some.inj e))).trans h
theorem row_lt {w : World} {b : Nat} {o : Obj} (h : w.heap[b]? = some o) : b < w.heap.size := by
  rcases Nat.lt_or_ge b w.heap.size with h' | h'
  · exact h'
  · rw [Array.getElem?_eq_none h'] at h; cases h
theorem row_below {w w' : World} {b : Nat} {o : Obj} (h : w.heap[b]? = some o) (hb : Below w.heap.size w w') : w'.heap[b]? = some o := (hb.block b (row_lt h)).trans h
theorem grown_alloc {w a : World} {g : Nat} (h : w.grownBy a (some g)) (o : Obj) : w.grownBy (a.alloc o) (some g) := grown_tr h (grown_bel (bel_a a o) (Nat.le_refl _) _)
theorem grown_below' {w a b : World} {g : Nat} (h : w.grownBy a (some g)) (hb : Below a.heap.size a b) : w.grownBy b (some g) := grown_tr h (grown_bel hb (Nat.le_refl _) _)

set_option maxHeartbeats 4000000 in
set_option maxRecDepth 100000 in
theorem l1Draw_any (g p : Nat) (w : World) (hd : Dr w g p) (hp : p + 700 ≤ 1000000) : Calls Try.prog 110 #[.pointer (some ⟨g, 0, none⟩)] w (DrawRet w g p 700) := by
  have hg := hd.lt
  have HD := Lib.hid hd
  clear hd
  go_enter Try.func110, Try.ntmps110
  go_wp2_with fail
  refine (texts_any _).mono ?_
  rintro e w1 ⟨tl, rfl, htl, hok, hrow, hb1⟩
  have hs1 := hb1.size
  have hsa : (w.alloc (.cells #[.slice none 0 0, .slice none 0 0] 26)).heap.size = w.heap.size + 1 := by simp
  have hr0 := row_below (heap_alloc_new w (.cells #[.slice none 0 0, .slice none 0 0] 26)) hb1
  have HR0 := Lib.hid hr0
  have hlt1 := hrow.lt
  have HTX := Lib.hid hrow
  have HOK := Lib.hid hok
  have HTL := Lib.hid htl
  have HD1 := Lib.hid ((HD.out.low (bel_a w _) hg).low hb1 (by simp; omega))
  have HG1 := Lib.hid (grown_below' (grown_bel (bel_a w (.cells #[.slice none 0 0, .slice none 0 0] 26)) (Nat.le_refl _) (some g)) hb1)
  clear hb1 hr0 hrow hok htl
  go_wp2_with fail
  refine (pick_any g p _ _ HD1.out (by omega) (by omega) (by omega)).mono ?_
  rintro e w2 ⟨k, rfl, k0, k1, hd2, hg2⟩
  have k2 := k1 (by omega)
  clear k1
  obtain ⟨k, rfl⟩ := Int.eq_ofNat_of_zero_le k0
  have hk25 : k < 25 := by omega
  obtain ⟨s, hs, hs600⟩ := strOk_get HOK.out (by rw [HTL.out]; exact hk25)
  have hr := row_grown HTX.out hg2 (by omega)
  have hck : w2.cell? ⟨w.heap.size + 1, k, none⟩ = some (.string s) := by rw [← hsa]; exact (cell_of_row _ _ k _ _ _ hr).trans (by simpa using hs)
  have HD2 := Lib.hid hd2
  have HG2 := Lib.hid (grown_tr HG1.out hg2)
  have HR2 := Lib.hid (row_grown HR0.out hg2 (by omega))
  have hs2 := hg2.size
  have hsw : w.heap.size < w1.heap.size := by omega
  clear hr hs hd2 hg2 hsa
  go_wp2_with fail
  refine (parseProgram_any s _ hs600).mono ?_
  rintro e w3 ⟨vt, vb, ts, l, okb, rfl, hit, hsb, hlt, hlb, hb3⟩
  have hs3 := hb3.size
  have HR3 := Lib.hid (row_below HR2.out hb3)
  have HD3 := Lib.hid ((HD2.out.low hb3 HD2.out.lt).low (bel_a w3 (.cells #[vt, vb] 26)) (by omega))
  have HG3 := Lib.hid (grown_alloc (grown_below' HG2.out hb3) (.cells #[vt, vb] 26))
  have HIT := Lib.hid (hit.bel (bel_a w3 (.cells #[vt, vb] 26)))
  have HSB := Lib.hid (hsb.bel (bel_a w3 (.cells #[vt, vb] 26)))
  obtain ⟨At, ct, rfl, -⟩ := hit.slice
  obtain ⟨Ab, cb, rfl, -⟩ := hsb.slice
  clear hit hsb hb3 hck
  go_wp2_with fail
  refine (pick_any g p.succ _ _ HD3.out (by omega) (by omega) (by omega)).mono ?_
  rintro e w5 ⟨k5, rfl, k50, k51, hd5, hg5⟩
  have k52 := k51 (by omega)
  clear k51
  have hs5 : w3.heap.size + 1 ≤ w5.heap.size := by have := hg5.size; simpa using this
  have hrp := row_grown (heap_alloc_new w3 (.cells #[.slice At ts.length ct, .slice Ab l.length cb] 26)) hg5 (by omega)
  have hr0 := row_grown (HR3.out |> fun h => row_below h (bel_a w3 (.cells #[.slice At ts.length ct, .slice Ab l.length cb] 26))) hg5 (by omega)
  have HR5 := Lib.hid hr0
  have HD5 := Lib.hid hd5
  have HG5 := Lib.hid (grown_tr HG3.out hg5)
  have HIT5 := Lib.hid (HIT.out.grown hg5 (by omega))
  have HSB5 := Lib.hid (HSB.out.grown hg5 (by omega))
  have c0 : w5.cell? ⟨w3.heap.size, 0, none⟩ = some (.slice At ts.length ct) := by rw [cell_of_row _ _ _ _ _ _ hrp]; rfl
  have c1 : w5.cell? ⟨w3.heap.size, 1, none⟩ = some (.slice Ab l.length cb) := by rw [cell_of_row _ _ _ _ _ _ hrp]; rfl
  have d0 : w5.cell? ⟨w.heap.size, 0, none⟩ = some (.slice none 0 0) := by rw [cell_of_row _ _ _ _ _ _ hr0]; rfl
  have d1 : w5.cell? ⟨w.heap.size, 1, none⟩ = some (.slice none 0 0) := by rw [cell_of_row _ _ _ _ _ _ hr0]; rfl
  have f0 := frozen_of_row w5 w.heap.size 0 _ _ hr0
  have f1 := frozen_of_row w5 w.heap.size 1 _ _ hr0
  clear hrp hd5 hg5 hr0
  have FIN : ∀ W, w5.grownBy W (some w.heap.size) → DrawRet w g p 700 (.returned (.agg #[.slice At ts.length ct, .slice Ab l.length cb])) W := fun W hW =>
    draw_close hg HG5.out hW HD5.out (HIT5.out.frame (Nat.le_refl _) fun b hb _ => ⟨by omega, rfl⟩) (HSB5.out.frame (Nat.le_refl _) fun b hb _ => ⟨by omega, rfl⟩) hlt hlb (by omega)
  have HFIN := Lib.hid FIN
  clear FIN
  by_cases h5 : 0 < k5
  · go_wp2_with fail
    exact bodyPost_ret (results_cell_row rfl _ _ w.heap.size 26 _ (0, 0) _ rfl (box2 HR5.out _ _).1 Try.underlying26 rfl rfl) rfl (HFIN.out _ (box2 HR5.out _ _).2)
  · by_cases hts : ts.length = 0
    · have hts' : ((ts.length : Int) == 0) = true := by simp [hts]
      clear hts
      go_wp2_with fail
      exact bodyPost_ret (results_cell_row rfl _ _ w.heap.size 26 _ (0, 0) _ rfl (box2 HR5.out _ _).1 Try.underlying26 rfl rfl) rfl (HFIN.out _ (box2 HR5.out _ _).2)
    · have hts' : ((ts.length : Int) == 0) = false := by simpa using hts
      clear hts
      have hA := bel_a w5 (.cells #[.int .i64 1, .int .i64 2, .int .i64 2, .int .i64 3, .int .i64 4, .int .i64 4] 3)
      have hB := bel_a (w5.alloc (.cells #[.int .i64 1, .int .i64 2, .int .i64 2, .int .i64 3, .int .i64 4, .int .i64 4] 3)) (.cells #[.slice (some ⟨w5.heap.size, 0, none⟩) 6 6, .slice none 0 0] 26)
      have hAB := hA.trans (hB.mono hA.size)
      have hty : IntX (w5.alloc (.cells #[.int .i64 1, .int .i64 2, .int .i64 2, .int .i64 3, .int .i64 4, .int .i64 4] 3)) (fun b => b = w5.heap.size) (.slice (some ⟨w5.heap.size, 0, none⟩) 6 6) [1, 2, 2, 3, 4, 4] := by
        refine ⟨_, _, rfl, by simp, by simp, fun _ => ⟨w5.heap.size, 0, rfl, rfl, by simp, fun j hj => ?_⟩⟩
        rw [cell_of_row _ _ _ _ _ _ (heap_alloc_new w5 _), Nat.zero_add]
        have : j = 0 ∨ j = 1 ∨ j = 2 ∨ j = 3 ∨ j = 4 ∨ j = 5 := by simp at hj; omega
        rcases this with rfl | rfl | rfl | rfl | rfl | rfl <;> rfl
      have hty2 := hty.bel hB
      have hrow6 := heap_alloc_new (w5.alloc (.cells #[.int .i64 1, .int .i64 2, .int .i64 2, .int .i64 3, .int .i64 4, .int .i64 4] 3)) (.cells #[.slice (some ⟨w5.heap.size, 0, none⟩) 6 6, .slice none 0 0] 26)
      have hd6 := HD5.out.low hAB (by omega)
      have hg6 := grown_below' HG5.out hAB
      have hr6 := row_below HR5.out hAB
      have hs6 : w5.heap.size + 2 ≤ ((w5.alloc (.cells #[.int .i64 1, .int .i64 2, .int .i64 2, .int .i64 3, .int .i64 4, .int .i64 4] 3)).alloc (.cells #[.slice (some ⟨w5.heap.size, 0, none⟩) 6 6, .slice none 0 0] 26)).heap.size := by simp
      have hss : (w5.alloc (.cells #[.int .i64 1, .int .i64 2, .int .i64 2, .int .i64 3, .int .i64 4, .int .i64 4] 3)).heap.size = w5.heap.size + 1 := by simp
      rw [hss] at hrow6
      have HTY := Lib.hid hty2
      have HROW6 := Lib.hid hrow6
      have HD6 := Lib.hid hd6
      have HG6 := Lib.hid hg6
      have HR6 := Lib.hid hr6
      clear hty hty2 hrow6 hd6 hg6 hr6 hss hA hB hAB
      go_wp2_with fail
      generalize ((w5.alloc (.cells #[.int .i64 1, .int .i64 2, .int .i64 2, .int .i64 3, .int .i64 4, .int .i64 4] 3)).alloc (.cells #[.slice (some ⟨w5.heap.size, 0, none⟩) 6 6, .slice none 0 0] 26)) = W at *
      have q0 : W.cell? ⟨w5.heap.size + 1, 0, none⟩ = some (.slice (some ⟨w5.heap.size, 0, none⟩) 6 6) := by rw [cell_of_row _ _ _ _ _ _ HROW6.out]; rfl
      clear c0 c1 d0 d1 f0 f1
      have CN : Calls Try.prog 52 #[.pointer (some ⟨g, 0, none⟩), .slice (some ⟨W.heap.size, 0, none⟩) 5 5] (W.alloc (.cells #[.int .i64 5, .int .i64 4, .int .i64 7, .int .i64 3, .int .i64 8] 3)).drew (fun e w' => ∃ x : Int, e = .returned (.int .i64 x) ∧ x ∈ [5, 4, 7, 3, 8] ∧ Dr w' g (p + 1 + 1 + 1) ∧ (W.alloc (.cells #[.int .i64 5, .int .i64 4, .int .i64 7, .int .i64 3, .int .i64 8] 3)).drew.grownBy w' (some g)) :=
        num_any g _ _ [5, 4, 7, 3, 8] 3 _ (HD6.out.low ((bel_a W (.cells #[.int .i64 5, .int .i64 4, .int .i64 7, .int .i64 3, .int .i64 8] 3)).drew) (by omega)) (by omega) (RowB.new W _ _) (by omega) (by simp) (by simp)
      have HCN := Lib.hid CN
      have hwa := (bel_a W (.cells #[.int .i64 5, .int .i64 4, .int .i64 7, .int .i64 3, .int .i64 8] 3)).drew
      have HWA := Lib.hid hwa
      have hsW : (W.alloc (.cells #[.int .i64 5, .int .i64 4, .int .i64 7, .int .i64 3, .int .i64 8] 3)).drew.heap.size = W.heap.size + 1 := by simp
      have HSW := Lib.hid hsW
      clear CN hwa hsW
      go_region_held3 (fun w' => w'.cell? ⟨w5.heap.size + 1, 0, none⟩ = some (.slice (some ⟨w5.heap.size, 0, none⟩) 6 6))
        (first | exact q0 | assumption | exact Q9.out | go_keep)
        (first
          | (go_at_call 52; (with_reducible refine HCN.out.mono ?_); (rintro e w7 ⟨x, rfl, hx, hd7, hg7⟩); (obtain ⟨n, rfl, hn⟩ : ∃ n : Nat, x = (n : Nat) ∧ n ≤ 8 := by (refine ⟨x.toNat, ?_, ?_⟩ <;> (simp at hx; omega))); (have hs7 := hg7.size); (rw [HSW.out] at hs7); (have hr7 := row_grown (row_below HROW6.out HWA.out) hg7 (by omega)); (have HR7 := Lib.hid hr7); (have q7 : w7.cell? ⟨w5.heap.size + 1, 0, none⟩ = some (.slice (some ⟨w5.heap.size, 0, none⟩) 6 6) := by (rw [cell_of_row _ _ _ _ _ _ hr7]; rfl)); (have HD7 := Lib.hid hd7); (have HG7 := Lib.hid hg7); clear hr7 hd7 hg7 hx)
          | (go_at_call 128; (refine (some_two g (p + 1 + 1 + 1) n _ _ (by omega) HD7.out (by simp only [kk]; omega)).mono ?_); (rintro e w8 ⟨v, bl, p8, rfl, hos, hbl, hp8, hd8, hg8⟩); (have hs8 := hg8.size); (obtain ⟨A8, c8, rfl, hc8⟩ := hos.slice); (have hr8 := row_grown HR7.out hg8 (by omega)); (have q8 : w8.cell? ⟨w5.heap.size + 1, 0, none⟩ = some (.slice (some ⟨w5.heap.size, 0, none⟩) 6 6) := by (rw [cell_of_row _ _ _ _ _ _ hr8]; rfl)); (have q81 : w8.cell? ⟨w5.heap.size + 1, 1, none⟩ = some (.slice none 0 0) := by (rw [cell_of_row _ _ _ _ _ _ hr8]; rfl)); (have qf1 := frozen_of_row w8 (w5.heap.size + 1) 1 _ _ hr8); (have q9 : (w8.setCell ⟨w5.heap.size + 1, 1, none⟩ (.slice A8 bl.length c8)).cell? ⟨w5.heap.size + 1, 0, none⟩ = some (.slice (some ⟨w5.heap.size, 0, none⟩) 6 6) := by (rw [cell_of_row _ _ _ _ _ _ (heap_setCell_same w8 (w5.heap.size + 1) 1 _ _ (.slice A8 bl.length c8) hr8)]; rfl)); (have Q9 := Lib.hid q9); clear q9; (have HR8 := Lib.hid hr8); (have HOS := Lib.hid hos); (have HD8 := Lib.hid hd8); (have HG8 := Lib.hid hg8); clear hr8 hos hd8 hg8))
      have hR9 := (heap_setCell_same w8 (w5.heap.size + 1) 1 _ _ (.slice A8 bl.length c8) HR8.out).trans (by simp : _ = some (Obj.cells #[.slice (some ⟨w5.heap.size, 0, none⟩) 6 6, .slice A8 bl.length c8] 26 (0, 0)))
      have hR0 := (heap_setCell_other w8 ⟨w5.heap.size + 1, 1, none⟩ w.heap.size (.slice A8 bl.length c8) (by simp; omega)).trans (row_grown (row_grown (row_below HR6.out HWA.out) HG7.out (by omega)) HG8.out (by omega))
      have hg9 := grown_set w8 (w5.heap.size + 1) 1 (.slice A8 bl.length c8)
      have HD9 : Hid (Dr (w8.setCell ⟨w5.heap.size + 1, 1, none⟩ (.slice A8 bl.length c8)) g p8) := Lib.hid (HD8.out.low (grown_below hg9 (by omega)) (by omega))
      have HIT9 : Hid (IntX (w8.setCell ⟨w5.heap.size + 1, 1, none⟩ (.slice A8 bl.length c8)) (fun b => w.heap.size + 1 ≤ b) (.slice (some ⟨w5.heap.size, 0, none⟩) 6 6) [1, 2, 2, 3, 4, 4]) := Lib.hid (((((HTY.out.bel HWA.out).grown HG7.out (by show ¬ (g = w5.heap.size); omega)).grown HG8.out (by show ¬ (g = w5.heap.size); omega)).grown hg9 (by show ¬ (w5.heap.size + 1 = w5.heap.size); omega)).frame (Nat.le_refl _) fun b hb _ => ⟨by have hb' : b = w5.heap.size := hb; show w.heap.size + 1 ≤ b; omega, rfl⟩)
      have HSB9 : Hid (StX (w8.setCell ⟨w5.heap.size + 1, 1, none⟩ (.slice A8 bl.length c8)) (fun b => w.heap.size + 1 ≤ b) (.slice A8 bl.length c8) bl) := Lib.hid ((HOS.out.toX.grown hg9 (by show ¬ (w7.heap.size ≤ w5.heap.size + 1); omega)).frame (Nat.le_refl _) fun b hb _ => ⟨by have hb' : w7.heap.size ≤ b := hb; show w.heap.size + 1 ≤ b; omega, rfl⟩)
      have HG9 : Hid (w.grownBy (w8.setCell ⟨w5.heap.size + 1, 1, none⟩ (.slice A8 bl.length c8)) (some g)) := Lib.hid (grown_base (grown_tr (grown_tr (grown_below' HG6.out HWA.out) HG7.out) HG8.out) ((Below.refl _ _).setCell (p := ⟨w5.heap.size + 1, 1, none⟩) (by show w.heap.size ≤ w5.heap.size + 1; omega) _))
      have HR9 := Lib.hid hR0
      have c0 : (w8.setCell ⟨w5.heap.size + 1, 1, none⟩ (.slice A8 bl.length c8)).cell? ⟨w5.heap.size + 1, 0, none⟩ = some (.slice (some ⟨w5.heap.size, 0, none⟩) 6 6) := by rw [cell_of_row _ _ _ _ _ _ hR9]; rfl
      have c1 : (w8.setCell ⟨w5.heap.size + 1, 1, none⟩ (.slice A8 bl.length c8)).cell? ⟨w5.heap.size + 1, 1, none⟩ = some (.slice A8 bl.length c8) := by rw [cell_of_row _ _ _ _ _ _ hR9]; rfl
      have d0 : (w8.setCell ⟨w5.heap.size + 1, 1, none⟩ (.slice A8 bl.length c8)).cell? ⟨w.heap.size, 0, none⟩ = some (.slice none 0 0) := by rw [cell_of_row _ _ _ _ _ _ hR0]; rfl
      have d1 : (w8.setCell ⟨w5.heap.size + 1, 1, none⟩ (.slice A8 bl.length c8)).cell? ⟨w.heap.size, 1, none⟩ = some (.slice none 0 0) := by rw [cell_of_row _ _ _ _ _ _ hR0]; rfl
      have f0 := frozen_of_row _ w.heap.size 0 _ _ hR0
      have f1 := frozen_of_row _ w.heap.size 1 _ _ hR0
      clear hR9 hR0 hg9 q0 q7 q8 q81 qf1
      generalize w8.setCell ⟨w5.heap.size + 1, 1, none⟩ (.slice A8 bl.length c8) = W9 at *
      go_wp2_with fail
      exact bodyPost_ret (results_cell_row rfl _ _ w.heap.size 26 _ (0, 0) _ rfl (box2 HR9.out _ _).1 Try.underlying26 rfl rfl) rfl
        (draw_close hg HG9.out (box2 HR9.out _ _).2 HD9.out HIT9.out HSB9.out (by simp) (by simp only [ss] at hbl; omega) (by simp only [kk] at hp8; omega))

end Go.Proofs.Yteaddodjijlpjaa
