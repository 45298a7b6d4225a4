import Derived.Test.YteaddodjijlpjaaG25
set_option linter.unusedVariables false

/- the draws of run paths, and of a program with loans and a point. -/
namespace Go.Proofs.Yteaddodjijlpjaa
open Go.RowKit

def ChRet (w : World) (g p : Nat) (e : Ending) (w' : World) : Prop :=
  ∃ (v : Value) (cs : List Int) (p' : Nat), e = .returned v ∧ IntX w' (fun b => w.heap.size ≤ b) v cs ∧ cs.length ≤ 8 ∧ p' ≤ p + 9 ∧ Dr w' g p' ∧ w.grownBy w' (some g)
def RpRet (w : World) (e : Ending) (w' : World) : Prop :=
  ∃ (At Ab : Option Addr) (nt ct nb cb : Nat) (vc : Value) (cs : List Int) (x : Int), e = .returned (.tuple #[.agg #[.slice At nt ct, .slice Ab nb cb], vc, .int .i64 x]) ∧ IntX w' (fun b => w.heap.size ≤ b) vc cs ∧ cs.length ≤ 8 ∧ Below w.heap.size w w'
theorem Gb.toGrown {g : Nat} {w w' : World} (h : Gb w.heap.size g w w') : w.grownBy w' (some g) := ⟨h.os, h.tape, h.output, h.size, fun b hb hne => h.block b hb fun e => hne (by rw [e])⟩
theorem rp_close {w w3 W : World} {At Ab : Option Addr} {nt ct nb cb : Nat} {vc : Value} {cs : List Int} {x : Int} {lo : Nat} (h3 : Below w.heap.size w w3) (hW : w3.grownBy W (some w.heap.size)) (hT : IntX w3 (fun b => lo ≤ b) vc cs) (hlo : w.heap.size < lo) (hl : cs.length ≤ 8) :
    RpRet w (.returned (.tuple #[.agg #[.slice At nt ct, .slice Ab nb cb], vc, .int .i64 x])) W := by
  have hk : ∀ b, lo ≤ b → b < w3.heap.size → w.heap.size ≤ b ∧ W.heap[b]? = w3.heap[b]? := fun b hb hl => ⟨by omega, hW.block b hl (fun e => by injection e with e; omega)⟩
  exact ⟨At, Ab, nt, ct, nb, cb, vc, cs, x, rfl, hT.frame hW.size hk, hl, grown_new h3 (Nat.le_refl _) hW⟩

set_option maxHeartbeats 4000000
set_option maxRecDepth 100000
theorem l2Choices_any (g p : Nat) (w : World) (hd : Dr w g p) (hp : p + 9 ≤ 1000000) : Calls Try.prog 80 #[.pointer (some ⟨g, 0, none⟩)] w (ChRet w g p) := by
  have hg := hd.lt
  have HD := Lib.hid hd
  clear hd
  go_enter Try.func80, Try.ntmps80
  go_wp2_with (at_builtin; fail)
  have HO0 := Lib.hid (OInts.empty w w.heap.size (Nat.le_refl _))
  have HBE := Lib.hid (bel_a w (.cells #[] 3))
  have HD0 := Lib.hid (HD.out.low HBE.out hg)
  have HG0 := Lib.hid ((Gb.refl w.heap.size g w).bel HBE.out)
  have hsE : (w.alloc (.cells #[] 3)).heap.size = w.heap.size + 1 := by simp
  generalize w.alloc (.cells #[] 3) = W1 at *
  have HBN := Lib.hid (bel_a W1 (.cells #[.int .i64 4, .int .i64 2, .int .i64 6, .int .i64 0, .int .i64 8] 3))
  have CN : Calls Try.prog 52 #[.pointer (some ⟨g, 0, none⟩), .slice (some ⟨w.heap.size + 1, 0, none⟩) 5 5] (W1.alloc (.cells #[.int .i64 4, .int .i64 2, .int .i64 6, .int .i64 0, .int .i64 8] 3)) (fun e w' => ∃ x : Int, e = .returned (.int .i64 x) ∧ x ∈ [4, 2, 6, 0, 8] ∧ Dr w' g (p + 1) ∧ (W1.alloc (.cells #[.int .i64 4, .int .i64 2, .int .i64 6, .int .i64 0, .int .i64 8] 3)).grownBy w' (some g)) := num_any g _ _ [4, 2, 6, 0, 8] 3 _ (HD0.out.low HBN.out (by omega)) (by omega) (by rw [← hsE]; exact RowB.new W1 _ _) (by omega) (by simp) (by simp)
  with_reducible refine CN.mono ?_
  rintro e w2 ⟨x, rfl, hx, hd2, hg2⟩
  have hs2 := hg2.size
  have hsN : (W1.alloc (.cells #[.int .i64 4, .int .i64 2, .int .i64 6, .int .i64 0, .int .i64 8] 3)).heap.size = W1.heap.size + 1 := by simp
  have HO2 := Lib.hid (((HO0.out.bel HBN.out)).pick hg hg2)
  have HG2 := Lib.hid ((HG0.out.bel (HBN.out.mono (by omega))).pick (by omega) hg2)
  have HD2 := Lib.hid hd2
  obtain ⟨k0, rfl, hk0⟩ : ∃ k : Nat, x = k ∧ k ≤ 8 := by
    refine ⟨x.toNat, ?_, ?_⟩ <;> (simp at hx; omega)
  clear hd2 hg2 hx
  go_wp2_with (at_builtin; fail)
  go_loopw [3, 4] (fun v i wr => ∃ (k : Nat) (o : List Int) (q : Nat), i = .int .i64 k ∧ o.length + k ≤ 8 ∧ q + k ≤ p + 9 ∧ OInts wr w.heap.size v o ∧ Dr wr g q ∧ Gb w.heap.size g w wr) (fun _ i _ => (intOf i).toNat)
  case atStart => exact ⟨k0, [], p + 1, rfl, by simpa using hk0, by omega, HO2.out, HD2.out, HG2.out⟩
  case round =>
    obtain ⟨k, o, q, rfl, hk, hq, hO, hD, hG⟩ := hrel
    have HO := Lib.hid hO
    have HD := Lib.hid hD
    have HG := Lib.hid hG
    have hsr := hG.size
    obtain ⟨A6, c6, rfl, hc6⟩ := hO.slice
    clear hO hD hG
    by_cases hlt : 0 < k
    · obtain ⟨k, rfl⟩ : ∃ m, k = m + 1 := ⟨k - 1, by omega⟩
      have HBN3 := Lib.hid (bel_a wr (.cells #[.int .i64 0, .int .i64 1, .int .i64 0, .int .i64 1, .int .i64 (-1), .int .i64 2] 3))
      go_wp2_with (at_builtin; fail)
      have CN : Calls Try.prog 52 #[.pointer (some ⟨g, 0, none⟩), .slice (some ⟨wr.heap.size, 0, none⟩) 6 6] (wr.alloc (.cells #[.int .i64 0, .int .i64 1, .int .i64 0, .int .i64 1, .int .i64 (-1), .int .i64 2] 3)) (fun e w' => ∃ x : Int, e = .returned (.int .i64 x) ∧ x ∈ [0, 1, 0, 1, -1, 2] ∧ Dr w' g (q + 1) ∧ (wr.alloc (.cells #[.int .i64 0, .int .i64 1, .int .i64 0, .int .i64 1, .int .i64 (-1), .int .i64 2] 3)).grownBy w' (some g)) := num_any g _ _ [0, 1, 0, 1, -1, 2] 3 _ (HD.out.low HBN3.out (by omega)) (by omega) (RowB.new wr _ _) (by omega) (by simp) (by simp)
      with_reducible refine CN.mono ?_
      rintro e w3 ⟨y, rfl, hy, hd3, hg3⟩
      have hs3 := hg3.size
      have hsN3 : (wr.alloc (.cells #[.int .i64 0, .int .i64 1, .int .i64 0, .int .i64 1, .int .i64 (-1), .int .i64 2] 3)).heap.size = wr.heap.size + 1 := by simp
      have HO3 := Lib.hid ((HO.out.bel HBN3.out).pick hg hg3)
      have HG3 := Lib.hid ((HG.out.bel (HBN3.out.mono (by omega))).pick (by omega) hg3)
      have HD3 := Lib.hid hd3
      clear hd3 hg3 hy
      go_wp2_with (at_builtin; go_must (refine wpList_push_int rfl (.tmp 13) (.tmp 17) rfl HO3.out (by omega) (by omega) _ rfl rfl ?_); intro v' w' hP' hE')
      have hbe := ((Evo.alloc w.heap.size 3 w3 (.cells #[.int .i64 y] 3)).trans hE').below (by omega)
      exact ⟨⟨k, _, q + 1, by go_num, by rw [List.length_append]; simp; omega, by omega, hP', HD3.out.low hbe (by omega), HG3.out.bel hbe⟩, by simp [intOf] <;> omega⟩
    · obtain rfl : k = 0 := by omega
      go_wp2_with (at_builtin; fail)
      go_ret
      exact ⟨_, o, q, rfl, HO.out.toX (by omega), by omega, by omega, HD.out, HG.out.toGrown⟩

theorem drawRunPath_any (A : Option Addr) (n c : Nat) (w : World) (hb : Byt w w.heap.size A n) (hn : n ≤ 1048576) (hc : n ≤ c) :
    Calls Try.prog 39 #[.slice A n c] w (RpRet w) := by
  have HB := Lib.hid hb
  clear hb
  go_enter Try.func39, Try.ntmps39
  go_wp2_with fail
  have hA := bel_a w (.cells #[.slice none 0 0, .slice none 0 0] 26)
  have hsA : (w.alloc (.cells #[.slice none 0 0, .slice none 0 0] 26)).heap.size = w.heap.size + 1 := by simp
  refine (l17Open_any A n c _ (by rw [hsA]; exact (HB.out.keep fun b o hb => hA.cell (p := ⟨b, o, none⟩) hb).more (by omega)) hn hc).mono ?_
  rw [hsA]
  rintro e w1 ⟨rfl, hd1, hb1⟩
  have hb1' : Below (w.alloc (.cells #[.slice none 0 0, .slice none 0 0] 26)).heap.size (w.alloc (.cells #[.slice none 0 0, .slice none 0 0] 26)) w1 := by rw [hsA]; exact hb1
  have hs1 : w.heap.size + 1 < w1.heap.size := hd1.lt
  have HR1 := Lib.hid (row_below (heap_alloc_new w (.cells #[.slice none 0 0, .slice none 0 0] 26)) hb1')
  have HB1 := Lib.hid (hA.trans (hb1.mono (by omega)))
  have HD1 := Lib.hid hd1
  clear hb1 hb1' hd1 hA hsA
  go_wp2_with fail
  refine (l2Branch_any (w.heap.size + 1) 0 _ HD1.out (by omega)).mono ?_
  rintro e w2 ⟨vt, vb, ts, l, p2, rfl, hit, hst, hts, hsz, hp2, hd2, hg2⟩
  have hs2 := hg2.size
  have hA2 := bel_a w2 (.cells #[vt, vb] 26)
  have hsW : (w2.alloc (.cells #[vt, vb] 26)).heap.size = w2.heap.size + 1 := by simp
  have HR2 := Lib.hid (row_below (row_grown HR1.out hg2 (by omega)) hA2)
  have HRP := Lib.hid (heap_alloc_new w2 (.cells #[vt, vb] 26))
  have HD2 := Lib.hid (hd2.low hA2 (by omega))
  have HB2 := Lib.hid ((grown_new HB1.out (by omega) hg2).trans (hA2.mono (by omega)))
  have HIT := Lib.hid (hit.bel hA2)
  have HST := Lib.hid (hst.bel hA2)
  obtain ⟨At, ct, rfl, -⟩ := hit.slice
  obtain ⟨Ab, cb, rfl, -⟩ := hst.slice
  clear hit hst hd2 hg2 hA2
  go_wp2_with fail
  generalize w2.alloc (.cells #[.slice At ts.length ct, .slice Ab l.length cb] 26) = W2 at *
  refine (l2Choices_any (w.heap.size + 1) p2 _ HD2.out (by omega)).mono ?_
  rintro e w3 ⟨vc, cs, p3, rfl, hci, hcs, hp3, hd3, hg3⟩
  have hs3 := hg3.size
  have HR3 := Lib.hid (row_grown HR2.out hg3 (by omega))
  have HRP3 := Lib.hid (row_grown HRP.out hg3 (by omega))
  have HD3 := Lib.hid hd3
  have HB3 := Lib.hid (grown_new HB2.out (by omega) hg3)
  have HCH3 := Lib.hid hci
  obtain ⟨Ac, cc, rfl, -⟩ := hci.slice
  clear hci hd3 hg3
  have hw2 : w.heap.size < w2.heap.size := by omega
  have q0 : w3.cell? ⟨w2.heap.size, 0, none⟩ = some (.slice At ts.length ct) := by rw [cell_of_row _ _ _ _ _ _ HRP3.out]; rfl
  have q1 : w3.cell? ⟨w2.heap.size, 1, none⟩ = some (.slice Ab l.length cb) := by rw [cell_of_row _ _ _ _ _ _ HRP3.out]; rfl
  go_wp2_with fail
  have CN : Calls Try.prog 52 #[.pointer (some ⟨w.heap.size + 1, 0, none⟩), .slice (some ⟨w3.heap.size, 0, none⟩) 6 6] (w3.alloc (.cells #[.int .i64 100, .int .i64 50, .int .i64 5, .int .i64 0, .int .i64 1001, .int .i64 (-1)] 3)).drew (fun e w' => ∃ x : Int, e = .returned (.int .i64 x) ∧ x ∈ [100, 50, 5, 0, 1001, -1] ∧ Dr w' (w.heap.size + 1) (p3 + 1) ∧ (w3.alloc (.cells #[.int .i64 100, .int .i64 50, .int .i64 5, .int .i64 0, .int .i64 1001, .int .i64 (-1)] 3)).drew.grownBy w' (some (w.heap.size + 1))) :=
    num_any (w.heap.size + 1) _ _ [100, 50, 5, 0, 1001, -1] 3 _ (HD3.out.low ((bel_a w3 (.cells #[.int .i64 100, .int .i64 50, .int .i64 5, .int .i64 0, .int .i64 1001, .int .i64 (-1)] 3)).drew) (by omega)) (by omega) (RowB.new w3 _ _) (by omega) (by simp) (by simp)
  have HCN := Lib.hid CN
  have HWA := Lib.hid (bel_a w3 (.cells #[.int .i64 100, .int .i64 50, .int .i64 5, .int .i64 0, .int .i64 1001, .int .i64 (-1)] 3)).drew
  have HSW := Lib.hid (show (w3.alloc (.cells #[.int .i64 100, .int .i64 50, .int .i64 5, .int .i64 0, .int .i64 1001, .int .i64 (-1)] 3)).drew.heap.size = w3.heap.size + 1 by simp)
  clear CN
  go_region_held3 (fun w' => w'.cell? ⟨w2.heap.size, 0, none⟩ = some (.slice At ts.length ct) ∧ w'.cell? ⟨w2.heap.size, 1, none⟩ = some (.slice Ab l.length cb))
    (first | exact ⟨q0, q1⟩ | exact ⟨q07, q17⟩ | exact Q9.out | assumption | go_keep)
    (first
      | (go_at_call 52; (with_reducible refine HCN.out.mono ?_); (rintro e w7 ⟨x, rfl, -, hd7, hg7⟩); (have hs7 := hg7.size); (rw [HSW.out] at hs7); (have hr7 := row_grown (row_below HR3.out HWA.out) hg7 (by omega)); (have hrp7 := row_grown (row_below HRP3.out HWA.out) hg7 (by omega)); (have q07 : w7.cell? ⟨w2.heap.size, 0, none⟩ = some (.slice At ts.length ct) := by (rw [cell_of_row _ _ _ _ _ _ hrp7]; rfl)); (have q17 : w7.cell? ⟨w2.heap.size, 1, none⟩ = some (.slice Ab l.length cb) := by (rw [cell_of_row _ _ _ _ _ _ hrp7]; rfl)); (have z07 : w7.cell? ⟨w.heap.size, 0, none⟩ = some (.slice none 0 0) := by (rw [cell_of_row _ _ _ _ _ _ hr7]; rfl)); (have z17 : w7.cell? ⟨w.heap.size, 1, none⟩ = some (.slice none 0 0) := by (rw [cell_of_row _ _ _ _ _ _ hr7]; rfl)); (have zf07 := frozen_of_row w7 w.heap.size 0 _ _ hr7); (have zf17 := frozen_of_row w7 w.heap.size 1 _ _ hr7); (have HR9 := Lib.hid hr7); (have HG9 := Lib.hid hg7); (have Q9 := Lib.hid (pl_set (Ne.symm (Nat.ne_of_lt hw2)) q07 q17 (.slice At ts.length ct) (.slice Ab l.length cb))); clear hd7 hg7 hr7 hrp7)
      | fail)
  have HB9 := Lib.hid (grown_new (HB3.out.trans (HWA.out.mono HB3.out.size)) (by omega) HG9.out)
  have HCH9 := Lib.hid (((HCH3.out.bel HWA.out).grown HG9.out (by show ¬ (W2.heap.size ≤ w.heap.size + 1); omega)))
  go_wp2_with fail
  refine bodyPost_ret (res_box2 (u := 3) (u2 := 4) rfl _ _ w.heap.size 26 _ (0, 0) _ rfl (box2 HR9.out (.slice At ts.length ct) (.slice Ab l.length cb)).1 Try.underlying26 rfl rfl) rfl ?_
  exact (rp_close (x := x) HB9.out (box2 HR9.out (.slice At ts.length ct) (.slice Ab l.length cb)).2 HCH9.out (by omega) hcs)

theorem l4Place_any (A : Option Addr) (n c : Nat) (w : World) (hb : Byt w w.heap.size A n) (hn : n ≤ 1048576) (hc : n ≤ c) :
    Calls Try.prog 87 #[.slice A n c] w (PlRet w) := by
  have HB := Lib.hid hb
  clear hb
  go_enter Try.func87, Try.ntmps87
  go_wp2_with fail
  have hA := bel_a w (.cells #[.slice none 0 0, .slice none 0 0] 26)
  have hsA : (w.alloc (.cells #[.slice none 0 0, .slice none 0 0] 26)).heap.size = w.heap.size + 1 := by simp
  refine (l17Open_any A n c _ (by rw [hsA]; exact (HB.out.keep fun b o hb => hA.cell (p := ⟨b, o, none⟩) hb).more (by omega)) hn hc).mono ?_
  rw [hsA]
  rintro e w1 ⟨rfl, hd1, hb1⟩
  have hb1' : Below (w.alloc (.cells #[.slice none 0 0, .slice none 0 0] 26)).heap.size (w.alloc (.cells #[.slice none 0 0, .slice none 0 0] 26)) w1 := by rw [hsA]; exact hb1
  have hs1 : w.heap.size + 1 < w1.heap.size := hd1.lt
  have HR1 := Lib.hid (row_below (heap_alloc_new w (.cells #[.slice none 0 0, .slice none 0 0] 26)) hb1')
  have HB1 := Lib.hid (hA.trans (hb1.mono (by omega)))
  have HD1 := Lib.hid hd1
  clear hb1 hb1' hd1 hA hsA
  go_wp2_with fail
  refine (l1Draw_any (w.heap.size + 1) 0 _ HD1.out (by omega)).mono ?_
  rintro e wd ⟨vt0, vb0, ts0, l0, p0, rfl, hit0, hst0, hts0, hsz0, hp0, hd0, hg0⟩
  have hs0 := hg0.size
  have HD0 := Lib.hid hd0
  have HG0 := Lib.hid hg0
  have HIT0 := Lib.hid hit0
  have HST0 := Lib.hid hst0
  clear hit0 hst0 hd0 hg0
  go_wp2_with fail
  refine (mutate_any (w.heap.size + 1) p0 _ _ ts0 l0 _ _ HIT0.out.toS HST0.out.toS (Nat.le_refl _) hts0 hsz0 HD0.out (by omega)).mono ?_
  rintro e w2 ⟨vt, vb, ts, l, p2, rfl, hit', hst', hts, hsz, hp2, hd2, hg2'⟩
  have hg2 := grown_tr HG0.out hg2'
  have hit := hit'.frame (P' := fun b => w1.heap.size ≤ b) (Nat.le_refl _) fun b hb _ => ⟨by have hb' : wd.heap.size ≤ b := hb; show w1.heap.size ≤ b; omega, rfl⟩
  have hst := hst'.frame (P' := fun b => w1.heap.size ≤ b) (Nat.le_refl _) fun b hb _ => ⟨by have hb' : wd.heap.size ≤ b := hb; show w1.heap.size ≤ b; omega, rfl⟩
  clear hit' hst' hg2'
  have hs2 := hg2.size
  have hA2 := bel_a w2 (.cells #[vt, vb] 26)
  have hsW : (w2.alloc (.cells #[vt, vb] 26)).heap.size = w2.heap.size + 1 := by simp
  have HR2 := Lib.hid (row_below (row_grown HR1.out hg2 (by omega)) hA2)
  have HRP := Lib.hid (heap_alloc_new w2 (.cells #[vt, vb] 26))
  have HD2 := Lib.hid (hd2.low hA2 (by omega))
  have HB2 := Lib.hid ((grown_new HB1.out (by omega) hg2).trans (hA2.mono (by omega)))
  have HIT := Lib.hid (hit.bel hA2)
  have HST := Lib.hid (hst.bel hA2)
  obtain ⟨At, ct, rfl, -⟩ := hit.slice
  obtain ⟨Ab, cb, rfl, -⟩ := hst.slice
  clear hit hst hd2 hg2 hA2
  go_wp2_with fail
  generalize w2.alloc (.cells #[.slice At ts.length ct, .slice Ab l.length cb] 26) = W2 at *
  refine (sPointsOf_any _ _ ts l _ _ HIT.out.toS HST.out.toS (Nat.le_refl _) (by omega)).mono ?_
  rintro e w3 ⟨vp, rfl, hps, hb3⟩
  obtain ⟨Ap, cp, rfl, hcp, hpl⟩ := hps.slice
  have hs3 := hb3.size
  have HR3 := Lib.hid (row_below HR2.out hb3)
  have HRP3 := Lib.hid (row_below HRP.out hb3)
  have HD3 := Lib.hid (HD2.out.low hb3 (by omega))
  have HB3 := Lib.hid (HB2.out.trans (hb3.mono (by omega)))
  have HIT3 := Lib.hid (HIT.out.bel hb3)
  have HST3 := Lib.hid (HST.out.bel hb3)
  obtain ⟨np, hnp⟩ : ∃ np, np = (pointsP ts l).length := ⟨_, rfl⟩
  rw [← hnp] at hcp hpl ⊢
  have hnp61 : np ≤ 61 := by
    rw [hnp]; unfold pointsP
    split
    · rename_i hv; exact ptsP_le hv
    · simp
  clear hps hb3 hnp
  have hw2 : w.heap.size < w2.heap.size := by omega
  have q0 : w3.cell? ⟨w2.heap.size, 0, none⟩ = some (.slice At ts.length ct) := by rw [cell_of_row _ _ _ _ _ _ HRP3.out]; rfl
  have q1 : w3.cell? ⟨w2.heap.size, 1, none⟩ = some (.slice Ab l.length cb) := by rw [cell_of_row _ _ _ _ _ _ HRP3.out]; rfl
  by_cases hz : np = 0
  · have hz1 : ((np : Int) == 0) = true := by simp [hz]
    clear hz
    go_wp2_with fail
    have CN : Calls Try.prog 52 #[.pointer (some ⟨w.heap.size + 1, 0, none⟩), .slice (some ⟨w3.heap.size, 0, none⟩) 3 3] (w3.alloc (.cells #[.int .i64 (-1), .int .i64 60, .int .i64 0] 3)).drew (fun e w' => ∃ x : Int, e = .returned (.int .i64 x) ∧ x ∈ [-1, 60, 0] ∧ Dr w' (w.heap.size + 1) (p2 + 1) ∧ (w3.alloc (.cells #[.int .i64 (-1), .int .i64 60, .int .i64 0] 3)).drew.grownBy w' (some (w.heap.size + 1))) :=
      num_any (w.heap.size + 1) _ _ [-1, 60, 0] 3 _ (HD3.out.low ((bel_a w3 (.cells #[.int .i64 (-1), .int .i64 60, .int .i64 0] 3)).drew) (by omega)) (by omega) (RowB.new w3 _ _) (by omega) (by simp) (by simp)
    have HCN := Lib.hid CN
    have HWA := Lib.hid (bel_a w3 (.cells #[.int .i64 (-1), .int .i64 60, .int .i64 0] 3)).drew
    have HSW := Lib.hid (show (w3.alloc (.cells #[.int .i64 (-1), .int .i64 60, .int .i64 0] 3)).drew.heap.size = w3.heap.size + 1 by simp)
    clear CN
    go_region_held3 (fun w' => w'.cell? ⟨w2.heap.size, 0, none⟩ = some (.slice At ts.length ct) ∧ w'.cell? ⟨w2.heap.size, 1, none⟩ = some (.slice Ab l.length cb))
      (first | exact ⟨q0, q1⟩ | exact ⟨q07, q17⟩ | exact Q9.out | assumption | go_keep)
      (first
        | (go_at_call 52; (with_reducible refine HCN.out.mono ?_); (rintro e w7 ⟨x, rfl, hx, hd7, hg7⟩); (have hs7 := hg7.size); (rw [HSW.out] at hs7); (have hr7 := row_grown (row_below HR3.out HWA.out) hg7 (by omega)); (have hrp7 := row_grown (row_below HRP3.out HWA.out) hg7 (by omega)); (have q07 : w7.cell? ⟨w2.heap.size, 0, none⟩ = some (.slice At ts.length ct) := by (rw [cell_of_row _ _ _ _ _ _ hrp7]; rfl)); (have q17 : w7.cell? ⟨w2.heap.size, 1, none⟩ = some (.slice Ab l.length cb) := by (rw [cell_of_row _ _ _ _ _ _ hrp7]; rfl)); (have z07 : w7.cell? ⟨w.heap.size, 0, none⟩ = some (.slice none 0 0) := by (rw [cell_of_row _ _ _ _ _ _ hr7]; rfl)); (have z17 : w7.cell? ⟨w.heap.size, 1, none⟩ = some (.slice none 0 0) := by (rw [cell_of_row _ _ _ _ _ _ hr7]; rfl)); (have zf07 := frozen_of_row w7 w.heap.size 0 _ _ hr7); (have zf17 := frozen_of_row w7 w.heap.size 1 _ _ hr7); (have HR9 := Lib.hid hr7); (have HG9 := Lib.hid hg7); (have Q9 := Lib.hid (pl_set (Ne.symm (Nat.ne_of_lt hw2)) q07 q17 (.slice At ts.length ct) (.slice Ab l.length cb))); clear hx hd7 hg7 hr7 hrp7)
        | fail)
    have HB9 := Lib.hid (grown_new (HB3.out.trans (HWA.out.mono HB3.out.size)) (by omega) HG9.out)
    have HIT9 := Lib.hid (((HIT3.out.bel HWA.out).grown HG9.out (by show ¬ (w1.heap.size ≤ w.heap.size + 1); omega)))
    have HST9 := Lib.hid (((HST3.out.bel HWA.out).grown HG9.out (by show ¬ (w1.heap.size ≤ w.heap.size + 1); omega)))
    go_wp2_with fail
    refine bodyPost_ret (res_box (u := 3) rfl _ _ w.heap.size 26 _ (0, 0) _ rfl (box2 HR9.out _ _).1 Try.underlying26 rfl rfl) rfl ?_
    exact (pl_close (a := x) HB9.out (box2 HR9.out _ _).2 HIT9.out HST9.out (by omega) hts hsz)

  · have hz1 : ((np : Int) == 0) = false := by simpa using hz
    have hz2 : 0 < np := by omega
    clear hz
    go_wp2_with fail
    refine (pick_any (w.heap.size + 1) p2 _ _ HD3.out (by omega) (by omega) (by omega)).mono ?_
    rintro e w4 ⟨k, rfl, -, -, hd4, hg4⟩
    have hs4 := hg4.size
    have HR4 := Lib.hid (row_grown HR3.out hg4 (by omega))
    have HRP4 := Lib.hid (row_grown HRP3.out hg4 (by omega))
    have HD4 := Lib.hid hd4
    have HB4 := Lib.hid (grown_new HB3.out (by omega) hg4)
    have HIT4 := Lib.hid (HIT3.out.grown hg4 (by show ¬ (w1.heap.size ≤ w.heap.size + 1); omega))
    have HST4 := Lib.hid (HST3.out.grown hg4 (by show ¬ (w1.heap.size ≤ w.heap.size + 1); omega))
    clear hd4 hg4 q0 q1
    have q0 : w4.cell? ⟨w2.heap.size, 0, none⟩ = some (.slice At ts.length ct) := by rw [cell_of_row _ _ _ _ _ _ HRP4.out]; rfl
    have q1 : w4.cell? ⟨w2.heap.size, 1, none⟩ = some (.slice Ab l.length cb) := by rw [cell_of_row _ _ _ _ _ _ HRP4.out]; rfl
    by_cases hk : k = 0
    · subst hk
      go_wp2_with fail
      have CN : Calls Try.prog 52 #[.pointer (some ⟨w.heap.size + 1, 0, none⟩), .slice (some ⟨w4.heap.size, 0, none⟩) 3 3] (w4.alloc (.cells #[.int .i64 (-1), .int .i64 60, .int .i64 0] 3)).drew (fun e w' => ∃ x : Int, e = .returned (.int .i64 x) ∧ x ∈ [-1, 60, 0] ∧ Dr w' (w.heap.size + 1) ((p2 + 1) + 1) ∧ (w4.alloc (.cells #[.int .i64 (-1), .int .i64 60, .int .i64 0] 3)).drew.grownBy w' (some (w.heap.size + 1))) :=
        num_any (w.heap.size + 1) _ _ [-1, 60, 0] 3 _ (HD4.out.low ((bel_a w4 (.cells #[.int .i64 (-1), .int .i64 60, .int .i64 0] 3)).drew) (by omega)) (by omega) (RowB.new w4 _ _) (by omega) (by simp) (by simp)
      have HCN := Lib.hid CN
      have HWA := Lib.hid (bel_a w4 (.cells #[.int .i64 (-1), .int .i64 60, .int .i64 0] 3)).drew
      have HSW := Lib.hid (show (w4.alloc (.cells #[.int .i64 (-1), .int .i64 60, .int .i64 0] 3)).drew.heap.size = w4.heap.size + 1 by simp)
      clear CN
      go_region_held3 (fun w' => w'.cell? ⟨w2.heap.size, 0, none⟩ = some (.slice At ts.length ct) ∧ w'.cell? ⟨w2.heap.size, 1, none⟩ = some (.slice Ab l.length cb))
        (first | exact ⟨q0, q1⟩ | exact ⟨q07, q17⟩ | exact Q9.out | assumption | go_keep)
        (first
          | (go_at_call 52; (with_reducible refine HCN.out.mono ?_); (rintro e w7 ⟨x, rfl, hx, hd7, hg7⟩); (have hs7 := hg7.size); (rw [HSW.out] at hs7); (have hr7 := row_grown (row_below HR4.out HWA.out) hg7 (by omega)); (have hrp7 := row_grown (row_below HRP4.out HWA.out) hg7 (by omega)); (have q07 : w7.cell? ⟨w2.heap.size, 0, none⟩ = some (.slice At ts.length ct) := by (rw [cell_of_row _ _ _ _ _ _ hrp7]; rfl)); (have q17 : w7.cell? ⟨w2.heap.size, 1, none⟩ = some (.slice Ab l.length cb) := by (rw [cell_of_row _ _ _ _ _ _ hrp7]; rfl)); (have z07 : w7.cell? ⟨w.heap.size, 0, none⟩ = some (.slice none 0 0) := by (rw [cell_of_row _ _ _ _ _ _ hr7]; rfl)); (have z17 : w7.cell? ⟨w.heap.size, 1, none⟩ = some (.slice none 0 0) := by (rw [cell_of_row _ _ _ _ _ _ hr7]; rfl)); (have zf07 := frozen_of_row w7 w.heap.size 0 _ _ hr7); (have zf17 := frozen_of_row w7 w.heap.size 1 _ _ hr7); (have HR9 := Lib.hid hr7); (have HG9 := Lib.hid hg7); (have Q9 := Lib.hid (pl_set (Ne.symm (Nat.ne_of_lt hw2)) q07 q17 (.slice At ts.length ct) (.slice Ab l.length cb))); clear hx hd7 hg7 hr7 hrp7)
          | fail)
      have HB9 := Lib.hid (grown_new (HB4.out.trans (HWA.out.mono HB4.out.size)) (by omega) HG9.out)
      have HIT9 := Lib.hid (((HIT4.out.bel HWA.out).grown HG9.out (by show ¬ (w1.heap.size ≤ w.heap.size + 1); omega)))
      have HST9 := Lib.hid (((HST4.out.bel HWA.out).grown HG9.out (by show ¬ (w1.heap.size ≤ w.heap.size + 1); omega)))
      go_wp2_with fail
      refine bodyPost_ret (res_box (u := 3) rfl _ _ w.heap.size 26 _ (0, 0) _ rfl (box2 HR9.out _ _).1 Try.underlying26 rfl rfl) rfl ?_
      exact (pl_close (a := x) HB9.out (box2 HR9.out _ _).2 HIT9.out HST9.out (by omega) hts hsz)

    · have hk1 : (k == 0) = false := by simpa using hk
      clear hk
      go_wp2_with fail
      have HCN := Lib.hid (pick_any (w.heap.size + 1) (p2 + 1) ((np : Nat) : Int) w4.drew (HD4.out.low (Below.refl _ _).drew (by omega)) (by omega) (by omega) (by omega))
      have HWA := Lib.hid ((Below.refl w4.heap.size w4).drew)
      have HSW := Lib.hid (show w4.drew.heap.size = w4.heap.size by simp)
      go_region_held3 (fun w' => w'.cell? ⟨w2.heap.size, 0, none⟩ = some (.slice At ts.length ct) ∧ w'.cell? ⟨w2.heap.size, 1, none⟩ = some (.slice Ab l.length cb))
        (first | exact ⟨q0, q1⟩ | exact ⟨q07, q17⟩ | exact Q9.out | assumption | go_keep)
        (first
          | (go_at_call 90; (with_reducible refine HCN.out.mono ?_); (rintro e w7 ⟨x, rfl, -, -, hd7, hg7⟩); (have hs7 := hg7.size); (rw [HSW.out] at hs7); (have hr7 := row_grown (row_below HR4.out HWA.out) hg7 (by omega)); (have hrp7 := row_grown (row_below HRP4.out HWA.out) hg7 (by omega)); (have q07 : w7.cell? ⟨w2.heap.size, 0, none⟩ = some (.slice At ts.length ct) := by (rw [cell_of_row _ _ _ _ _ _ hrp7]; rfl)); (have q17 : w7.cell? ⟨w2.heap.size, 1, none⟩ = some (.slice Ab l.length cb) := by (rw [cell_of_row _ _ _ _ _ _ hrp7]; rfl)); (have z07 : w7.cell? ⟨w.heap.size, 0, none⟩ = some (.slice none 0 0) := by (rw [cell_of_row _ _ _ _ _ _ hr7]; rfl)); (have z17 : w7.cell? ⟨w.heap.size, 1, none⟩ = some (.slice none 0 0) := by (rw [cell_of_row _ _ _ _ _ _ hr7]; rfl)); (have zf07 := frozen_of_row w7 w.heap.size 0 _ _ hr7); (have zf17 := frozen_of_row w7 w.heap.size 1 _ _ hr7); (have HR9 := Lib.hid hr7); (have HG9 := Lib.hid hg7); (have Q9 := Lib.hid (pl_set (Ne.symm (Nat.ne_of_lt hw2)) q07 q17 (.slice At ts.length ct) (.slice Ab l.length cb))); clear hd7 hg7 hr7 hrp7)
          | fail)
      have HB9 := Lib.hid (grown_new (HB4.out.trans (HWA.out.mono HB4.out.size)) (by omega) HG9.out)
      have HIT9 := Lib.hid (((HIT4.out.bel HWA.out).grown HG9.out (by show ¬ (w1.heap.size ≤ w.heap.size + 1); omega)))
      have HST9 := Lib.hid (((HST4.out.bel HWA.out).grown HG9.out (by show ¬ (w1.heap.size ≤ w.heap.size + 1); omega)))
      go_wp2_with fail
      refine bodyPost_ret (res_box (u := 3) rfl _ _ w.heap.size 26 _ (0, 0) _ rfl (box2 HR9.out _ _).1 Try.underlying26 rfl rfl) rfl ?_
      exact (pl_close (a := x) HB9.out (box2 HR9.out _ _).2 HIT9.out HST9.out (by omega) hts hsz)

set_option maxHeartbeats 4000000 in
set_option maxRecDepth 100000 in
theorem drawAccessesOf_any (A : Option Addr) (n c : Nat) (w : World) (hb : Byt w w.heap.size A n) (hn : n ≤ 1048576) (hc : n ≤ c) :
    Calls Try.prog 47 #[.slice A n c] w (PlRet w) := by
  have HB := Lib.hid hb
  clear hb
  go_enter Try.func47, Try.ntmps47
  go_wp2_with fail
  have hA := bel_a w (.cells #[.slice none 0 0, .slice none 0 0] 26)
  have hsA : (w.alloc (.cells #[.slice none 0 0, .slice none 0 0] 26)).heap.size = w.heap.size + 1 := by simp
  refine (l4Place_any A n c _ (by rw [hsA]; exact (HB.out.keep fun b o hb => hA.cell (p := ⟨b, o, none⟩) hb).more (by omega)) hn hc).mono ?_
  rintro e w1 ⟨vt, vb, ts, l, a, rfl, hit, hst, hts, hsz, hb1⟩
  rw [hsA] at hit hst
  have HR1 := Lib.hid (row_below (heap_alloc_new w (.cells #[.slice none 0 0, .slice none 0 0] 26)) hb1)
  have HB1 := Lib.hid (hA.trans (hb1.mono (by omega)))
  have hs1 : w.heap.size + 1 ≤ w1.heap.size := by rw [← hsA]; exact hb1.size
  have HIT := Lib.hid hit
  have HST := Lib.hid hst
  obtain ⟨At, ct, rfl, -⟩ := hit.slice
  obtain ⟨Ab, cb, rfl, -⟩ := hst.slice
  clear hb1 hA hsA hit hst
  have z0 : w1.cell? ⟨w.heap.size, 0, none⟩ = some (.slice none 0 0) := by rw [cell_of_row _ _ _ _ _ _ HR1.out]; rfl
  have z1 : w1.cell? ⟨w.heap.size, 1, none⟩ = some (.slice none 0 0) := by rw [cell_of_row _ _ _ _ _ _ HR1.out]; rfl
  have zf0 := frozen_of_row w1 w.heap.size 0 _ _ HR1.out
  have zf1 := frozen_of_row w1 w.heap.size 1 _ _ HR1.out
  go_wp2_with fail
  refine bodyPost_ret (res_box (u := 3) rfl _ _ w.heap.size 26 _ (0, 0) _ rfl (box2 HR1.out _ _).1 Try.underlying26 rfl rfl) rfl ?_
  have HE := DsE.mk' HB1.out (box2 HR1.out (.slice At ts.length ct) (.slice Ab l.length cb)).2 HIT.out HST.out (by omega)
  exact ⟨_, _, ts, l, a, rfl, HE.ht, HE.hl, hts, hsz, HE.bel⟩



end Go.Proofs.Yteaddodjijlpjaa
