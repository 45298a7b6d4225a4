import Derived.Test.YtgmipapdcihdpaaG32
set_option linter.unusedVariables false

/- DrawNeedsOf, DrawTakesOf. -/
namespace Go.Proofs.Ytgmipapdcihdpaa
open Go.RowKit

def DrRes (w : World) (e : Ending) (w' : World) : Prop :=
  ∃ (vt vb : Value) (ts : List Int) (l : List St), e = .returned (.agg #[vt, vb]) ∧ IntX w' (fun b => w.heap.size ≤ b) vt ts ∧ StX w' (fun b => w.heap.size ≤ b) vb l ∧ ts.length ≤ 700 ∧ szL l ≤ 100000 ∧ Below w.heap.size w w'
theorem grown_new {w a b : World} {g : Nat} (h : Below w.heap.size w a) (hg : w.heap.size ≤ g) (k : a.grownBy b (some g)) : Below w.heap.size w b :=
  ⟨k.os.trans h.os, k.tape.trans h.tape, k.output.trans h.output, Nat.le_trans h.size k.size, fun i hi => (k.block i (Nat.lt_of_lt_of_le hi h.size) (fun e => by injection e with e; omega)).trans (h.block i hi)⟩
theorem StX.addr {w : World} {P : Nat → Prop} {A : Option Addr} {n c : Nat} {l : List St} (h : StX w P (.slice A n c) l) (hn : 0 < l.length) : ∃ b off, A = some ⟨b, off, none⟩ := by
  cases h with
  | mk A c l tv ev hc hr ht he =>
    obtain ⟨b, off, e, _⟩ := hr hn
    exact ⟨b, off, e⟩
/-- statements without the first -/
theorem StX.tail {w : World} {P : Nat → Prop} {b off n c : Nat} {l : List St} (h : StX w P (.slice (some ⟨b, off, none⟩) n c) l) (hn : 0 < l.length) : StX w P (.slice (some ⟨b, off + 6, none⟩) (n - 1) (c - 1)) l.tail := by
  cases h with
  | mk A c l tv ev hc hr ht he =>
    obtain ⟨b', off', e, hb, hlt, hcell⟩ := hr hn
    injection e with e
    injection e with e1 e2
    subst e1 e2
    have hlen : l.length - 1 = l.tail.length := by simp
    rw [hlen]
    have hget : ∀ i (hi : i < l.tail.length), l.tail[i] = l[i + 1]'(by simp at hi; omega) := fun i hi => by simp
    refine .mk _ _ _ (fun i => tv (i + 1)) (fun i => ev (i + 1)) (by simp; omega) (fun _ => ⟨b, off + 6, rfl, hb, hlt, fun i hi => ?_⟩) (fun i hi => ?_) (fun i hi => ?_)
    · have := hcell (i + 1) (by simp at hi; omega)
      rw [hget]
      have e : off + (i + 1) * 6 = off + 6 + i * 6 := by omega
      rw [e] at this
      exact this
    · rw [hget]; exact ht (i + 1) (by simp at hi; omega)
    · rw [hget]; exact he (i + 1) (by simp at hi; omega)
theorem szL_tail (l : List St) : szL l.tail ≤ szL l := by
  cases l with
  | nil => exact Nat.le_refl _
  | cons a r => simp [szL]

theorem dr_close {w w3 W : World} {vt vb : Value} {ts : List Int} {l : List St} (h3 : Below w.heap.size w w3) (hW : w3.grownBy W (some w.heap.size)) (hT : IntX w3 (fun b => w.heap.size + 1 ≤ b) vt ts) (hB : StX w3 (fun b => w.heap.size + 1 ≤ b) vb l) (ht : ts.length ≤ 700) (hl : szL l ≤ 100000) :
    DrRes w (.returned (.agg #[vt, vb])) W := by
  have hk : ∀ b, w.heap.size + 1 ≤ b → b < w3.heap.size → w.heap.size ≤ b ∧ W.heap[b]? = w3.heap[b]? := fun b hb hl => ⟨by omega, hW.block b hl (fun e => by injection e with e; omega)⟩
  exact ⟨vt, vb, ts, l, rfl, hT.frame hW.size hk, hB.frame hW.size hk, ht, hl, grown_new h3 (Nat.le_refl _) hW⟩

set_option maxHeartbeats 4000000 in
set_option maxRecDepth 100000 in
theorem drawNeeds_any (A : Option Addr) (n c : Nat) (w : World) (hb : Byt w w.heap.size A n) (hn : n ≤ 1048576) (hc : n ≤ c) :
    Calls Try.prog 19 #[.slice A n c] w (DrRes w) := by
  have HB := Lib.hid hb
  clear hb
  go_enter Try.func19, Try.ntmps19
  go_wp2_with fail
  have hA := bel_a w (.cells #[.slice none 0 0, .slice none 0 0] 26)
  have hsA : (w.alloc (.cells #[.slice none 0 0, .slice none 0 0] 26)).heap.size = w.heap.size + 1 := by simp
  refine (l17Open_any A n c _ (by rw [hsA]; exact (HB.out.keep fun b o hb => hA.cell (p := ⟨b, o, none⟩) hb).more (by omega)) hn hc).mono ?_
  rw [hsA]
  rintro e w1 ⟨rfl, hd1, hb1⟩
  have HSA := Lib.hid hsA
  have hb1' : Below (w.alloc (.cells #[.slice none 0 0, .slice none 0 0] 26)).heap.size (w.alloc (.cells #[.slice none 0 0, .slice none 0 0] 26)) w1 := by rw [hsA]; exact hb1
  have hs1 : w.heap.size + 1 < w1.heap.size := hd1.lt
  have HR1 := Lib.hid (row_below (heap_alloc_new w (.cells #[.slice none 0 0, .slice none 0 0] 26)) hb1')
  have HB1 := Lib.hid (hA.trans (hb1.mono (by omega)))
  have HD1 := Lib.hid hd1
  clear hb1 hb1' hd1 hA hsA
  go_wp2_with fail
  refine (l1Draw_any (w.heap.size + 1) 0 _ HD1.out (by omega)).mono ?_
  rintro e w2 ⟨vt, vb, ts, l, p2, rfl, hit, hst, hts, hsz, hp2, hd2, hg2⟩
  have hs2 := hg2.size
  have HD2 := Lib.hid hd2
  have HG2 := Lib.hid hg2
  have HIT := Lib.hid hit
  have HST := Lib.hid hst
  clear hit hst hd2 hg2
  go_wp2_with fail
  refine (mutate_any (w.heap.size + 1) p2 _ _ ts l _ _ HIT.out.toS HST.out.toS (Nat.le_refl _) hts hsz HD2.out (by omega)).mono ?_
  rintro e w3 ⟨vt', vb', ts', l', p3, rfl, hit', hst', hts', hsz', hp3, hd3, hg3⟩
  have hs3 := hg3.size
  obtain ⟨At, ct, rfl, -⟩ := hit'.slice
  obtain ⟨Ab, cb, rfl, hcb⟩ := hst'.slice
  have HR3 := Lib.hid (row_below (row_grown (row_grown HR1.out HG2.out (by omega)) hg3 (by omega)) (bel_a w3 (.cells #[.slice At ts'.length ct, .slice Ab l'.length cb] 26)))
  have HD3 := Lib.hid (hd3.low (bel_a w3 (.cells #[.slice At ts'.length ct, .slice Ab l'.length cb] 26)) (by omega))
  have HB3 := Lib.hid ((grown_new (grown_new HB1.out (by omega) HG2.out) (by omega) hg3).trans ((bel_a w3 (.cells #[.slice At ts'.length ct, .slice Ab l'.length cb] 26)).mono (by omega)))
  have HIT3 := Lib.hid ((hit'.bel (bel_a w3 (.cells #[.slice At ts'.length ct, .slice Ab l'.length cb] 26))))
  have HST3 := Lib.hid ((hst'.bel (bel_a w3 (.cells #[.slice At ts'.length ct, .slice Ab l'.length cb] 26))))
  have HR4 := Lib.hid (heap_alloc_new w3 (.cells #[.slice At ts'.length ct, .slice Ab l'.length cb] 26))
  have HITa := Lib.hid hit'
  have HSTa := Lib.hid hst'
  clear hit' hst' hd3 hg3
  have hsW : (w3.alloc (.cells #[.slice At ts'.length ct, .slice Ab l'.length cb] 26)).heap.size = w3.heap.size + 1 := by simp
  have HSW := Lib.hid hsW
  clear hsW
  by_cases hlen : l'.length ≤ 1
  · have hlen1 : ((l'.length : Int)) ≤ 1 := by omega
    have z0 : (w3.alloc (.cells #[.slice At ts'.length ct, .slice Ab l'.length cb] 26)).cell? ⟨w.heap.size, 0, none⟩ = some (.slice none 0 0) := by rw [cell_of_row _ _ _ _ _ _ HR3.out]; rfl
    have z1 : (w3.alloc (.cells #[.slice At ts'.length ct, .slice Ab l'.length cb] 26)).cell? ⟨w.heap.size, 1, none⟩ = some (.slice none 0 0) := by rw [cell_of_row _ _ _ _ _ _ HR3.out]; rfl
    have zf0 := frozen_of_row (w3.alloc (.cells #[.slice At ts'.length ct, .slice Ab l'.length cb] 26)) w.heap.size 0 _ _ HR3.out
    have zf1 := frozen_of_row (w3.alloc (.cells #[.slice At ts'.length ct, .slice Ab l'.length cb] 26)) w.heap.size 1 _ _ HR3.out
    go_wp2_with fail
    exact bodyPost_ret (results_cell_row rfl _ _ w.heap.size 26 _ (0, 0) _ rfl (box2 HR3.out _ _).1 Try.underlying26 rfl rfl) rfl (dr_close HB3.out (box2 HR3.out _ _).2 (HIT3.out.frame (Nat.le_refl _) fun b hb _ => ⟨by have hb' : w2.heap.size ≤ b := hb; show w.heap.size + 1 ≤ b; omega, rfl⟩) (HST3.out.frame (Nat.le_refl _) fun b hb _ => ⟨by have hb' : w2.heap.size ≤ b := hb; show w.heap.size + 1 ≤ b; omega, rfl⟩) hts' hsz')
  · have hlen1 : (1 : Int) < l'.length := by omega
    obtain ⟨gb, ob, rfl⟩ := HST3.out.addr (by omega)
    go_wp2_with fail
    refine (pick_any (w.heap.size + 1) p3 _ _ HD3.out (by omega) (by omega) (by omega)).mono ?_
    rintro e w5 ⟨k, rfl, -, -, hd5, hg5⟩
    have hs5 : w3.heap.size + 1 ≤ w5.heap.size := by have := hg5.size; rw [HSW.out] at this; exact this
    have HR35 := Lib.hid (row_grown HR3.out hg5 (by omega))
    have HR45 := Lib.hid (row_grown HR4.out hg5 (by omega))
    have HB5 := Lib.hid (grown_new HB3.out (by omega) hg5)
    have HIT5 := Lib.hid (HIT3.out.grown hg5 (by omega))
    have HST5 := Lib.hid (HST3.out.grown hg5 (by omega))
    have HG5 := Lib.hid hg5
    clear hd5 hg5
    have z0 : (w5).cell? ⟨w.heap.size, 0, none⟩ = some (.slice none 0 0) := by rw [cell_of_row _ _ _ _ _ _ HR35.out]; rfl
    have z1 : (w5).cell? ⟨w.heap.size, 1, none⟩ = some (.slice none 0 0) := by rw [cell_of_row _ _ _ _ _ _ HR35.out]; rfl
    have zf0 := frozen_of_row (w5) w.heap.size 0 _ _ HR35.out
    have zf1 := frozen_of_row (w5) w.heap.size 1 _ _ HR35.out
    have q0 : (w5).cell? ⟨w3.heap.size, 0, none⟩ = some (.slice At ts'.length ct) := by rw [cell_of_row _ _ _ _ _ _ HR45.out]; rfl
    have q1 : (w5).cell? ⟨w3.heap.size, 1, none⟩ = some (.slice (some ⟨gb, ob, none⟩) l'.length cb) := by rw [cell_of_row _ _ _ _ _ _ HR45.out]; rfl
    have qf1 := frozen_of_row (w5) w3.heap.size 1 _ _ HR45.out
    by_cases hk : k = 0
    · subst hk
      have hcb1 : ¬ cb = 1 := by omega
      have hgs := grown_set w5 w3.heap.size 1 (.slice (some ⟨gb, ob + 6, none⟩) (l'.length - 1) (cb - 1))
      have HR6 := Lib.hid ((hgs.block w.heap.size (by omega) (fun e => by injection e with e; omega)).trans HR35.out)
      have HB6 := Lib.hid (HB5.out.setCell (p := ⟨w3.heap.size, 1, none⟩) (by show w.heap.size ≤ w3.heap.size; omega) (.slice (some ⟨gb, ob + 6, none⟩) (l'.length - 1) (cb - 1)))
      have HRO6 := Lib.hid ((heap_setCell_same w5 w3.heap.size 1 _ _ (.slice (some ⟨gb, ob + 6, none⟩) (l'.length - 1) (cb - 1)) HR45.out).trans (by simp : _ = some (Obj.cells #[(.slice At ts'.length ct), .slice (some ⟨gb, ob + 6, none⟩) (l'.length - 1) (cb - 1)] 26 (0, 0))))
      have hfr : ∀ b, w2.heap.size ≤ b → b < w3.heap.size → (w5.setCell ⟨w3.heap.size, 1, none⟩ (.slice (some ⟨gb, ob + 6, none⟩) (l'.length - 1) (cb - 1))).heap[b]? = w3.heap[b]? := fun b h1 h2 =>
        (hgs.block b (by omega) (fun e => by injection e with e; omega)).trans ((HG5.out.block b (by simp; omega) (fun e => by injection e with e; omega)).trans ((bel_a w3 _).block b h2))
      have HIT9 : Hid (IntX (w5.setCell ⟨w3.heap.size, 1, none⟩ (.slice (some ⟨gb, ob + 6, none⟩) (l'.length - 1) (cb - 1))) (fun b => w.heap.size + 1 ≤ b) (.slice At ts'.length ct) ts') := Lib.hid (HITa.out.frame (by rw [size_set]; omega) fun b hb hl => ⟨by have hb' : w2.heap.size ≤ b := hb; show w.heap.size + 1 ≤ b; omega, hfr b hb hl⟩)
      have HST9 : Hid (StX (w5.setCell ⟨w3.heap.size, 1, none⟩ (.slice (some ⟨gb, ob + 6, none⟩) (l'.length - 1) (cb - 1))) (fun b => w.heap.size + 1 ≤ b) (.slice (some ⟨gb, ob + 6, none⟩) (l'.length - 1) (cb - 1)) l'.tail) := Lib.hid ((HSTa.out.frame (by rw [size_set]; omega) fun b hb hl => ⟨by have hb' : w2.heap.size ≤ b := hb; show w.heap.size + 1 ≤ b; omega, hfr b hb hl⟩).tail (by omega))
      have hszt := szL_tail l'
      clear hgs hfr
      go_wp2_with fail
      exact bodyPost_ret (results_cell_row rfl _ _ w.heap.size 26 _ (0, 0) _ rfl (box2 HR6.out _ _).1 Try.underlying26 rfl rfl) rfl (dr_close HB6.out (box2 HR6.out _ _).2 HIT9.out HST9.out hts' (by omega))
    · have hk1 : (k == 0) = false := by simpa using hk
      go_wp2_with fail
      exact bodyPost_ret (results_cell_row rfl _ _ w.heap.size 26 _ (0, 0) _ rfl (box2 HR35.out _ _).1 Try.underlying26 rfl rfl) rfl (dr_close HB5.out (box2 HR35.out _ _).2 (HIT5.out.frame (Nat.le_refl _) fun b hb _ => ⟨by have hb' : w2.heap.size ≤ b := hb; show w.heap.size + 1 ≤ b; omega, rfl⟩) (HST5.out.frame (Nat.le_refl _) fun b hb _ => ⟨by have hb' : w2.heap.size ≤ b := hb; show w.heap.size + 1 ≤ b; omega, rfl⟩) hts' hsz')

end Go.Proofs.Ytgmipapdcihdpaa

/- FnTakesOf: the draw, the plain law, the walk. -/
namespace Go.Proofs.Ytgmipapdcihdpaa
open Go.RowKit

set_option maxHeartbeats 1000000 in
set_option maxRecDepth 100000 in
theorem drawTakes_any (A : Option Addr) (n c : Nat) (w : World) (hb : Byt w w.heap.size A n) (hn : n ≤ 1048576) (hc : n ≤ c) :
    Calls Try.prog 15 #[.slice A n c] w (DrRes w) := by
  have HB := Lib.hid hb
  clear hb
  go_enter Try.func15, Try.ntmps15
  go_wp2_with fail
  have hA := bel_a w (.cells #[.slice none 0 0, .slice none 0 0] 26)
  have hsA : (w.alloc (.cells #[.slice none 0 0, .slice none 0 0] 26)).heap.size = w.heap.size + 1 := by simp
  refine (drawNeeds_any A n c _ (by rw [hsA]; exact (HB.out.keep fun b o hb => hA.cell (p := ⟨b, o, none⟩) hb).more (by omega)) hn hc).mono ?_
  rintro e w1 ⟨vt, vb, ts, l, rfl, hit, hst, hts, hsz, hb1⟩
  rw [hsA] at hit hst
  have HR1 := Lib.hid (row_below (heap_alloc_new w (.cells #[.slice none 0 0, .slice none 0 0] 26)) hb1)
  have HB1 := Lib.hid (hA.trans (hb1.mono (by omega)))
  have HIT := Lib.hid hit
  have HST := Lib.hid hst
  obtain ⟨At, ct, rfl, -⟩ := hit.slice
  obtain ⟨Ab, cb, rfl, -⟩ := hst.slice
  clear hb1 hA hsA hit hst
  have z0 : w1.cell? ⟨w.heap.size, 0, none⟩ = some (.slice none 0 0) := by rw [cell_of_row _ _ _ _ _ _ HR1.out]; rfl
  have z1 : w1.cell? ⟨w.heap.size, 1, none⟩ = some (.slice none 0 0) := by rw [cell_of_row _ _ _ _ _ _ HR1.out]; rfl
  have zf0 := frozen_of_row w1 w.heap.size 0 _ _ HR1.out
  have zf1 := frozen_of_row w1 w.heap.size 1 _ _ HR1.out
  go_wp2_with fail
  exact bodyPost_ret (results_cell_row rfl _ _ w.heap.size 26 _ (0, 0) _ rfl (box2 HR1.out _ _).1 Try.underlying26 rfl rfl) rfl (dr_close HB1.out (box2 HR1.out _ _).2 HIT.out HST.out hts hsz)

theorem use_two {ts : List Int} {p : Pt} {v : Nat} (hp : PtOk ts p) (h : useP ts p.op p.x p.y (v : Nat) = 2) : typeOfP ts v = 2 ∨ typeOfP ts v = 4 := by
  unfold useP at h
  repeat' split at h
  all_goals first | omega | skip
  · rename_i h8 hv
    rcases hp with h9 | h9 | h9 | h9
    · omega
    · omega
    · omega
    · left
      unfold simpleP at h9
      rw [hv]
      rw [h8] at h9
      simp at h9
      exact h9.2.1
theorem take_mem {ts : List Int} {l : List St} {i : Nat} (hi : i < (takeRes ts l).length) : ∃ v : Nat, (takeRes ts l).getD i 0 = (v : Nat) ∧ v < ts.length ∧ (ts.getD v 0 = 2 ∨ ts.getD v 0 = 4) := by
  have hm : (takeRes ts l).getD i 0 ∈ takeRes ts l := by rw [getD_lt hi]; exact List.getElem_mem hi
  generalize (takeRes ts l).getD i 0 = x at *
  unfold takeRes at hm
  split at hm
  · rename_i hv
    obtain ⟨v, h1, h2, rfl⟩ := lst_mem.1 hm
    obtain ⟨p, hp, hu⟩ := List.any_eq_true.1 h2
    refine ⟨v, rfl, h1, ?_⟩
    have := use_two (ptsP_ok hv p hp) (by simpa using hu)
    unfold typeOfP at this
    rw [if_pos (by omega)] at this
    simpa using this
  · simp at hm
theorem take_len (ts : List Int) (l : List St) : (takeRes ts l).length ≤ ts.length := by
  unfold takeRes
  split
  · exact lst_len _ _
  · simp

def LawRet (w : World) (e : Ending) (w' : World) : Prop := e = .returned (.bool true) ∧ Below w.heap.size w w'
set_option maxHeartbeats 2000000 in
theorem fnTakesOf_any (A : Option Addr) (n c : Nat) (w : World) (hb : Byt w w.heap.size A n) (hm : n ≤ maxLen) (hc : n ≤ c) :
    Calls Try.prog 3 #[.slice A n c] w (LawRet w) := by
  have HB := Lib.hid hb
  clear hb
  by_cases hn : n ≤ 1048576
  · go_enter Try.func3, Try.ntmps3
    go_wp2_with fail
    refine (drawTakes_any A n c _ HB.out hn hc).mono ?_
    rintro e w1 ⟨vt, vb, ts, l, rfl, hit, hst, hts, hsz, hb1⟩
    obtain ⟨At, ct, rfl, -⟩ := hit.slice
    obtain ⟨Ab, cb, rfl, -⟩ := hst.slice
    have hs1 := hb1.size
    have HBX := Lib.hid (hb1.trans ((bel_a w1 (.cells #[.slice At ts.length ct, .slice Ab l.length cb] 26)).mono hs1))
    have HIT := Lib.hid (hit.bel (bel_a w1 (.cells #[.slice At ts.length ct, .slice Ab l.length cb] 26)))
    have HST := Lib.hid (hst.bel (bel_a w1 (.cells #[.slice At ts.length ct, .slice Ab l.length cb] 26)))
    have HR := Lib.hid (heap_alloc_new w1 (.cells #[.slice At ts.length ct, .slice Ab l.length cb] 26))
    have hsW : (w1.alloc (.cells #[.slice At ts.length ct, .slice Ab l.length cb] 26)).heap.size = w1.heap.size + 1 := by simp
    have HSW := Lib.hid hsW
    clear hit hst hb1 hsW
    go_wp2_with fail
    refine (iTakesOf_any _ _ ts l _ _ HIT.out.toS HST.out.toS (Nat.le_refl _) (by omega)).mono ?_
    rintro e w2 ⟨v2, rfl, hv2, hb2⟩
    have HR2 := Lib.hid (row_below HR.out hb2)
    have HIT2 := Lib.hid (HIT.out.bel hb2)
    have HST2 := Lib.hid (HST.out.bel hb2)
    have HV2 := Lib.hid hv2
    have HB2 := Lib.hid (HBX.out.trans (hb2.mono HBX.out.size))
    have r0 : w2.cell? ⟨w1.heap.size, 0, none⟩ = some (.slice At ts.length ct) := by rw [cell_of_row _ _ _ _ _ _ HR2.out]; rfl
    have r1 : w2.cell? ⟨w1.heap.size, 1, none⟩ = some (.slice Ab l.length cb) := by rw [cell_of_row _ _ _ _ _ _ HR2.out]; rfl
    clear hv2 hb2
    go_wp2_with fail
    refine (sTakesOf_any _ _ ts l _ _ HIT2.out.toS HST2.out.toS (Nat.le_refl _) (by omega)).mono ?_
    rintro e w3 ⟨v3, rfl, hv3, hb3⟩
    have HR3 := Lib.hid (row_below HR2.out hb3)
    have HIT3 := Lib.hid (HIT2.out.bel hb3)
    have HV23 := Lib.hid ((HV2.out.low hb3 (Nat.le_refl _)).more hb3.size)
    have HV3 := Lib.hid hv3
    have HB3 := Lib.hid (HB2.out.trans (hb3.mono HB2.out.size))
    clear hv3 hb3 r0 r1
    go_wp2_with fail
    refine (bcInts_any _ _ _ _ _ _ HV23.out HV3.out).mono ?_
    rintro e w4 ⟨rfl, n4, rfl⟩
    rw [show eqP (takeRes ts l) (takeRes ts l) = true by simp [eqP]]
    have htl := take_len ts l
    obtain ⟨A2, c2, rfl, hc2, -, hr2⟩ := HV23.out
    have HTM := Lib.hid (fun i => take_mem (ts := ts) (l := l) (i := i))
    generalize takeRes ts l = L at *
    by_cases hL0 : 0 < L.length
    · obtain ⟨A0, c0', e0, hc0', -, hit3⟩ := HIT3.out
      obtain ⟨bt, ot, rfl, -, hblt, hct⟩ := hit3 (by omega)
      injection e0 with e0 _ _
      subst e0
      obtain ⟨b, off, rfl, hb, hcell⟩ := hr2.int_at hL0
      have HCT := Lib.hid hct
      have HCL := Lib.hid hcell
      have c0 : w3.cell? ⟨w1.heap.size, 0, none⟩ = some (.slice (some ⟨bt, ot, none⟩) ts.length ct) := by rw [cell_of_row _ _ _ _ _ _ HR3.out]; rfl
      clear hct hcell hit3
      go_wp2_with fail
      go_loopw [5] (fun i wr => ∃ (k : Nat), k ≤ L.length ∧ i = .int .i64 k ∧ ∃ m, wr = w3.drewN m) (fun i _ => L.length - (intOf i).toNat)
      case atStart => exact ⟨0, Nat.zero_le _, rfl, n4, rfl⟩
      case round =>
        obtain ⟨k, hk, rfl, m, rfl⟩ := hrel
        by_cases hlt : k < L.length
        · have hck := HCL.out k hlt
          obtain ⟨v, hv, hvt, hty⟩ := HTM.out k hlt
          rw [hv] at hck
          have hcv := HCT.out v hvt
          clear hv
          rcases hty with hty | hty <;> rw [hty] at hcv
          all_goals
            clear hty
            go_wp2_with fail
            go_quiet (fail)
            go_wp2_with fail
            exact ⟨⟨k + 1, by omega, by go_num, m + nq, rfl⟩, by simp [intOf] <;> omega⟩
        · go_wp2_with fail
          go_ret
          exact ⟨rfl, Below.drN HB3.out _⟩
    · have hL0' : L.length = 0 := by omega
      have hL1 : L = [] := List.length_eq_zero_iff.1 hL0'
      subst hL1
      go_wp2_with fail
      refine wp_loop_rounds 1 ?_
      rw [rounds_succ]
      go_wp2_with fail
      go_ret
      exact ⟨rfl, Below.drN HB3.out _⟩
  · go_enter Try.func3, Try.ntmps3
    go_wp2_with fail
    go_ret
    exact ⟨rfl, Below.refl _ _⟩

end Go.Proofs.Ytgmipapdcihdpaa
