import Derived.Test.YtmaaaiccmllnlaaG35
import Derived.Test.YtmaaaiccmllnlaaG28
set_option linter.unusedVariables false

/- the draws of run paths, and of a program with loans and a point. -/
namespace Go.Proofs.Ytmaaaiccmllnlaa
open Go.RowKit

def ChRet (w : World) (g p : Nat) (e : Ending) (w' : World) : Prop :=
  ∃ (v : Value) (cs : List Int) (p' : Nat), e = .returned v ∧ IntX w' (fun b => w.heap.size ≤ b) v cs ∧ cs.length ≤ 8 ∧ p' ≤ p + 9 ∧ Dr w' g p' ∧ w.grownBy w' (some g)
def RpRet (w : World) (e : Ending) (w' : World) : Prop :=
  ∃ (At Ab : Option Addr) (nt ct nb cb : Nat) (vc : Value) (cs : List Int) (x : Int), e = .returned (.tuple #[.agg #[.slice At nt ct, .slice Ab nb cb], vc, .int .i64 x]) ∧ IntX w' (fun b => w.heap.size ≤ b) vc cs ∧ cs.length ≤ 8 ∧ Below w.heap.size w w'
theorem Gb.toGrown {g : Nat} {w w' : World} (h : Gb w.heap.size g w w') : w.grownBy w' (some g) := ⟨h.os, h.tape, h.output, h.size, fun b hb hne => h.block b hb fun e => hne (by rw [e])⟩
theorem rp_close {w w3 W : World} {At Ab : Option Addr} {nt ct nb cb : Nat} {vc : Value} {cs : List Int} {x : Int} {lo : Nat} (h3 : Below w.heap.size w w3) (hW : w3.grownBy W (some w.heap.size)) (hT : IntX w3 (fun b => lo ≤ b) vc cs) (hlo : w.heap.size < lo) (hl : cs.length ≤ 8) :
    RpRet w (.returned (.tuple #[.agg #[.slice At nt ct, .slice Ab nb cb], vc, .int .i64 x])) W := by
  have hk : ∀ b, lo ≤ b → b < w3.heap.size → w.heap.size ≤ b ∧ W.heap[b]? = w3.heap[b]? := fun b hb hl => ⟨by omega, hW.block b hl (fun e => by injection e with e; omega)⟩
  exact ⟨At, Ab, nt, ct, nb, cb, vc, cs, x, rfl, hT.frame hW.size hk, hl, grown_new h3 (Nat.le_refl _) hW⟩

set_option maxHeartbeats 4000000
set_option maxRecDepth 100000
theorem l2Choices_any (g p : Nat) (w : World) (hd : Dr w g p) (hp : p + 9 ≤ 1000000) : Calls Try.prog 85 #[.pointer (some ⟨g, 0, none⟩)] w (ChRet w g p) := by
  have hg := hd.lt
  have HD := Lib.hid hd
  clear hd
  go_enter Try.func85, Try.ntmps85
  go_wp2_with (at_builtin; fail)
  have HO0 := Lib.hid (OInts.empty w w.heap.size (Nat.le_refl _))
  have HBE := Lib.hid (bel_a w (.cells #[] 3))
  have HD0 := Lib.hid (HD.out.low HBE.out hg)
  have HG0 := Lib.hid ((Gb.refl w.heap.size g w).bel HBE.out)
  have hsE : (w.alloc (.cells #[] 3)).heap.size = w.heap.size + 1 := by simp
  generalize w.alloc (.cells #[] 3) = W1 at *
  have HBN := Lib.hid (bel_a W1 (.cells #[.int .i64 4, .int .i64 2, .int .i64 6, .int .i64 0, .int .i64 8] 3))
  have CN : Calls Try.prog 70 #[.pointer (some ⟨g, 0, none⟩), .slice (some ⟨w.heap.size + 1, 0, none⟩) 5 5] (W1.alloc (.cells #[.int .i64 4, .int .i64 2, .int .i64 6, .int .i64 0, .int .i64 8] 3)) (fun e w' => ∃ x : Int, e = .returned (.int .i64 x) ∧ x ∈ [4, 2, 6, 0, 8] ∧ Dr w' g (p + 1) ∧ (W1.alloc (.cells #[.int .i64 4, .int .i64 2, .int .i64 6, .int .i64 0, .int .i64 8] 3)).grownBy w' (some g)) := num_any g _ _ [4, 2, 6, 0, 8] 3 _ (HD0.out.low HBN.out (by omega)) (by omega) (by rw [← hsE]; exact RowB.new W1 _ _) (by omega) (by simp) (by simp)
  with_reducible refine CN.mono ?_
  rintro e w2 ⟨x, rfl, hx, hd2, hg2⟩
  have hs2 := hg2.size
  have hsN : (W1.alloc (.cells #[.int .i64 4, .int .i64 2, .int .i64 6, .int .i64 0, .int .i64 8] 3)).heap.size = W1.heap.size + 1 := by simp
  have HO2 := Lib.hid (((HO0.out.bel HBN.out)).pick hg hg2)
  have HG2 := Lib.hid ((HG0.out.bel (HBN.out.mono (by omega))).pick (by omega) hg2)
  have HD2 := Lib.hid hd2
  obtain ⟨k0, rfl, hk0⟩ : ∃ k : Nat, x = k ∧ k ≤ 8 := by
    refine ⟨x.toNat, ?_, ?_⟩ <;> (simp at hx; omega)
  clear hd2 hg2 hx
  go_wp2_with (at_builtin; fail)
  go_loopw [3, 4] (fun v i wr => ∃ (k : Nat) (o : List Int) (q : Nat), i = .int .i64 k ∧ o.length + k ≤ 8 ∧ q + k ≤ p + 9 ∧ OInts wr w.heap.size v o ∧ Dr wr g q ∧ Gb w.heap.size g w wr) (fun _ i _ => (intOf i).toNat)
  case atStart => exact ⟨k0, [], p + 1, rfl, by simpa using hk0, by omega, HO2.out, HD2.out, HG2.out⟩
  case round =>
    obtain ⟨k, o, q, rfl, hk, hq, hO, hD, hG⟩ := hrel
    have HO := Lib.hid hO
    have HD := Lib.hid hD
    have HG := Lib.hid hG
    have hsr := hG.size
    obtain ⟨A6, c6, rfl, hc6⟩ := hO.slice
    clear hO hD hG
    by_cases hlt : 0 < k
    · obtain ⟨k, rfl⟩ : ∃ m, k = m + 1 := ⟨k - 1, by omega⟩
      have HBN3 := Lib.hid (bel_a wr (.cells #[.int .i64 0, .int .i64 1, .int .i64 0, .int .i64 1, .int .i64 (-1), .int .i64 2] 3))
      go_wp2_with (at_builtin; fail)
      have CN : Calls Try.prog 70 #[.pointer (some ⟨g, 0, none⟩), .slice (some ⟨wr.heap.size, 0, none⟩) 6 6] (wr.alloc (.cells #[.int .i64 0, .int .i64 1, .int .i64 0, .int .i64 1, .int .i64 (-1), .int .i64 2] 3)) (fun e w' => ∃ x : Int, e = .returned (.int .i64 x) ∧ x ∈ [0, 1, 0, 1, -1, 2] ∧ Dr w' g (q + 1) ∧ (wr.alloc (.cells #[.int .i64 0, .int .i64 1, .int .i64 0, .int .i64 1, .int .i64 (-1), .int .i64 2] 3)).grownBy w' (some g)) := num_any g _ _ [0, 1, 0, 1, -1, 2] 3 _ (HD.out.low HBN3.out (by omega)) (by omega) (RowB.new wr _ _) (by omega) (by simp) (by simp)
      with_reducible refine CN.mono ?_
      rintro e w3 ⟨y, rfl, hy, hd3, hg3⟩
      have hs3 := hg3.size
      have hsN3 : (wr.alloc (.cells #[.int .i64 0, .int .i64 1, .int .i64 0, .int .i64 1, .int .i64 (-1), .int .i64 2] 3)).heap.size = wr.heap.size + 1 := by simp
      have HO3 := Lib.hid ((HO.out.bel HBN3.out).pick hg hg3)
      have HG3 := Lib.hid ((HG.out.bel (HBN3.out.mono (by omega))).pick (by omega) hg3)
      have HD3 := Lib.hid hd3
      clear hd3 hg3 hy
      go_wp2_with (at_builtin; go_must (refine wpList_push_int rfl (.tmp 13) (.tmp 17) rfl HO3.out (by omega) (by omega) _ rfl rfl ?_); intro v' w' hP' hE')
      have hbe := ((Evo.alloc w.heap.size 3 w3 (.cells #[.int .i64 y] 3)).trans hE').below (by omega)
      exact ⟨⟨k, _, q + 1, by go_num, by rw [List.length_append]; simp; omega, by omega, hP', HD3.out.low hbe (by omega), HG3.out.bel hbe⟩, by simp [intOf] <;> omega⟩
    · obtain rfl : k = 0 := by omega
      go_wp2_with (at_builtin; fail)
      go_ret
      exact ⟨_, o, q, rfl, HO.out.toX (by omega), by omega, by omega, HD.out, HG.out.toGrown⟩

theorem drawRunPath_any (A : Option Addr) (n c : Nat) (w : World) (hb : Byt w w.heap.size A n) (hn : n ≤ 1048576) (hc : n ≤ c) :
    Calls Try.prog 50 #[.slice A n c] w (RpRet w) := by
  have HB := Lib.hid hb
  clear hb
  go_enter Try.func50, Try.ntmps50
  go_wp2_with fail
  have hA := bel_a w (.cells #[.slice none 0 0, .slice none 0 0] 26)
  have hsA : (w.alloc (.cells #[.slice none 0 0, .slice none 0 0] 26)).heap.size = w.heap.size + 1 := by simp
  refine (l17Open_any A n c _ (by rw [hsA]; exact (HB.out.keep fun b o hb => hA.cell (p := ⟨b, o, none⟩) hb).more (by omega)) hn hc).mono ?_
  rw [hsA]
  rintro e w1 ⟨rfl, hd1, hb1⟩
  have hb1' : Below (w.alloc (.cells #[.slice none 0 0, .slice none 0 0] 26)).heap.size (w.alloc (.cells #[.slice none 0 0, .slice none 0 0] 26)) w1 := by rw [hsA]; exact hb1
  have hs1 : w.heap.size + 1 < w1.heap.size := hd1.lt
  have HR1 := Lib.hid (row_below (heap_alloc_new w (.cells #[.slice none 0 0, .slice none 0 0] 26)) hb1')
  have HB1 := Lib.hid (hA.trans (hb1.mono (by omega)))
  have HD1 := Lib.hid hd1
  clear hb1 hb1' hd1 hA hsA
  go_wp2_with fail
  refine (l2Branch_any (w.heap.size + 1) 0 _ HD1.out (by omega)).mono ?_
  rintro e w2 ⟨vt, vb, ts, l, p2, rfl, hit, hst, hts, hsz, hp2, hd2, hg2⟩
  have hs2 := hg2.size
  have hA2 := bel_a w2 (.cells #[vt, vb] 26)
  have hsW : (w2.alloc (.cells #[vt, vb] 26)).heap.size = w2.heap.size + 1 := by simp
  have HR2 := Lib.hid (row_below (row_grown HR1.out hg2 (by omega)) hA2)
  have HRP := Lib.hid (heap_alloc_new w2 (.cells #[vt, vb] 26))
  have HD2 := Lib.hid (hd2.low hA2 (by omega))
  have HB2 := Lib.hid ((grown_new HB1.out (by omega) hg2).trans (hA2.mono (by omega)))
  have HIT := Lib.hid (hit.bel hA2)
  have HST := Lib.hid (hst.bel hA2)
  obtain ⟨At, ct, rfl, -⟩ := hit.slice
  obtain ⟨Ab, cb, rfl, -⟩ := hst.slice
  clear hit hst hd2 hg2 hA2
  go_wp2_with fail
  generalize w2.alloc (.cells #[.slice At ts.length ct, .slice Ab l.length cb] 26) = W2 at *
  refine (l2Choices_any (w.heap.size + 1) p2 _ HD2.out (by omega)).mono ?_
  rintro e w3 ⟨vc, cs, p3, rfl, hci, hcs, hp3, hd3, hg3⟩
  have hs3 := hg3.size
  have HR3 := Lib.hid (row_grown HR2.out hg3 (by omega))
  have HRP3 := Lib.hid (row_grown HRP.out hg3 (by omega))
  have HD3 := Lib.hid hd3
  have HB3 := Lib.hid (grown_new HB2.out (by omega) hg3)
  have HCH3 := Lib.hid hci
  obtain ⟨Ac, cc, rfl, -⟩ := hci.slice
  clear hci hd3 hg3
  have hw2 : w.heap.size < w2.heap.size := by omega
  have q0 : w3.cell? ⟨w2.heap.size, 0, none⟩ = some (.slice At ts.length ct) := by rw [cell_of_row _ _ _ _ _ _ HRP3.out]; rfl
  have q1 : w3.cell? ⟨w2.heap.size, 1, none⟩ = some (.slice Ab l.length cb) := by rw [cell_of_row _ _ _ _ _ _ HRP3.out]; rfl
  go_wp2_with fail
  have CN : Calls Try.prog 70 #[.pointer (some ⟨w.heap.size + 1, 0, none⟩), .slice (some ⟨w3.heap.size, 0, none⟩) 6 6] (w3.alloc (.cells #[.int .i64 100, .int .i64 50, .int .i64 5, .int .i64 0, .int .i64 1001, .int .i64 (-1)] 3)).drew (fun e w' => ∃ x : Int, e = .returned (.int .i64 x) ∧ x ∈ [100, 50, 5, 0, 1001, -1] ∧ Dr w' (w.heap.size + 1) (p3 + 1) ∧ (w3.alloc (.cells #[.int .i64 100, .int .i64 50, .int .i64 5, .int .i64 0, .int .i64 1001, .int .i64 (-1)] 3)).drew.grownBy w' (some (w.heap.size + 1))) :=
    num_any (w.heap.size + 1) _ _ [100, 50, 5, 0, 1001, -1] 3 _ (HD3.out.low ((bel_a w3 (.cells #[.int .i64 100, .int .i64 50, .int .i64 5, .int .i64 0, .int .i64 1001, .int .i64 (-1)] 3)).drew) (by omega)) (by omega) (RowB.new w3 _ _) (by omega) (by simp) (by simp)
  have HCN := Lib.hid CN
  have HWA := Lib.hid (bel_a w3 (.cells #[.int .i64 100, .int .i64 50, .int .i64 5, .int .i64 0, .int .i64 1001, .int .i64 (-1)] 3)).drew
  have HSW := Lib.hid (show (w3.alloc (.cells #[.int .i64 100, .int .i64 50, .int .i64 5, .int .i64 0, .int .i64 1001, .int .i64 (-1)] 3)).drew.heap.size = w3.heap.size + 1 by simp)
  clear CN
  go_region_held3 (fun w' => w'.cell? ⟨w2.heap.size, 0, none⟩ = some (.slice At ts.length ct) ∧ w'.cell? ⟨w2.heap.size, 1, none⟩ = some (.slice Ab l.length cb))
    (first | exact ⟨q0, q1⟩ | exact ⟨q07, q17⟩ | exact Q9.out | assumption | go_keep)
    (first
      | (go_at_call 70; (with_reducible refine HCN.out.mono ?_); (rintro e w7 ⟨x, rfl, -, hd7, hg7⟩); (have hs7 := hg7.size); (rw [HSW.out] at hs7); (have hr7 := row_grown (row_below HR3.out HWA.out) hg7 (by omega)); (have hrp7 := row_grown (row_below HRP3.out HWA.out) hg7 (by omega)); (have q07 : w7.cell? ⟨w2.heap.size, 0, none⟩ = some (.slice At ts.length ct) := by (rw [cell_of_row _ _ _ _ _ _ hrp7]; rfl)); (have q17 : w7.cell? ⟨w2.heap.size, 1, none⟩ = some (.slice Ab l.length cb) := by (rw [cell_of_row _ _ _ _ _ _ hrp7]; rfl)); (have z07 : w7.cell? ⟨w.heap.size, 0, none⟩ = some (.slice none 0 0) := by (rw [cell_of_row _ _ _ _ _ _ hr7]; rfl)); (have z17 : w7.cell? ⟨w.heap.size, 1, none⟩ = some (.slice none 0 0) := by (rw [cell_of_row _ _ _ _ _ _ hr7]; rfl)); (have zf07 := frozen_of_row w7 w.heap.size 0 _ _ hr7); (have zf17 := frozen_of_row w7 w.heap.size 1 _ _ hr7); (have HR9 := Lib.hid hr7); (have HG9 := Lib.hid hg7); (have Q9 := Lib.hid (pl_set (Ne.symm (Nat.ne_of_lt hw2)) q07 q17 (.slice At ts.length ct) (.slice Ab l.length cb))); clear hd7 hg7 hr7 hrp7)
      | fail)
  have HB9 := Lib.hid (grown_new (HB3.out.trans (HWA.out.mono HB3.out.size)) (by omega) HG9.out)
  have HCH9 := Lib.hid (((HCH3.out.bel HWA.out).grown HG9.out (by show ¬ (W2.heap.size ≤ w.heap.size + 1); omega)))
  go_wp2_with fail
  refine bodyPost_ret (res_box2 (u := 3) (u2 := 4) rfl _ _ w.heap.size 26 _ (0, 0) _ rfl (box2 HR9.out (.slice At ts.length ct) (.slice Ab l.length cb)).1 Try.underlying26 rfl rfl) rfl ?_
  exact (rp_close (x := x) HB9.out (box2 HR9.out (.slice At ts.length ct) (.slice Ab l.length cb)).2 HCH9.out (by omega) hcs)

theorem l4Place_any (A : Option Addr) (n c : Nat) (w : World) (hb : Byt w w.heap.size A n) (hn : n ≤ 1048576) (hc : n ≤ c) :
    Calls Try.prog 92 #[.slice A n c] w (PlRet w) := by
  have HB := Lib.hid hb
  clear hb
  go_enter Try.func92, Try.ntmps92
  go_wp2_with fail
  have hA := bel_a w (.cells #[.slice none 0 0, .slice none 0 0] 26)
  have hsA : (w.alloc (.cells #[.slice none 0 0, .slice none 0 0] 26)).heap.size = w.heap.size + 1 := by simp
  refine (l17Open_any A n c _ (by rw [hsA]; exact (HB.out.keep fun b o hb => hA.cell (p := ⟨b, o, none⟩) hb).more (by omega)) hn hc).mono ?_
  rw [hsA]
  rintro e w1 ⟨rfl, hd1, hb1⟩
  have hb1' : Below (w.alloc (.cells #[.slice none 0 0, .slice none 0 0] 26)).heap.size (w.alloc (.cells #[.slice none 0 0, .slice none 0 0] 26)) w1 := by rw [hsA]; exact hb1
  have hs1 : w.heap.size + 1 < w1.heap.size := hd1.lt
  have HR1 := Lib.hid (row_below (heap_alloc_new w (.cells #[.slice none 0 0, .slice none 0 0] 26)) hb1')
  have HB1 := Lib.hid (hA.trans (hb1.mono (by omega)))
  have HD1 := Lib.hid hd1
  clear hb1 hb1' hd1 hA hsA
  go_wp2_with fail
  refine (l1Draw_any (w.heap.size + 1) 0 _ HD1.out (by omega)).mono ?_
  rintro e wd ⟨vt0, vb0, ts0, l0, p0, rfl, hit0, hst0, hts0, hsz0, hp0, hd0, hg0⟩
  have hs0 := hg0.size
  have HD0 := Lib.hid hd0
  have HG0 := Lib.hid hg0
  have HIT0 := Lib.hid hit0
  have HST0 := Lib.hid hst0
  clear hit0 hst0 hd0 hg0
  go_wp2_with fail
  refine (mutate_any (w.heap.size + 1) p0 _ _ ts0 l0 _ _ HIT0.out.toS HST0.out.toS (Nat.le_refl _) hts0 hsz0 HD0.out (by omega)).mono ?_
  rintro e w2 ⟨vt, vb, ts, l, p2, rfl, hit', hst', hts, hsz, hp2, hd2, hg2'⟩
  have hg2 := grown_tr HG0.out hg2'
  have hit := hit'.frame (P' := fun b => w1.heap.size ≤ b) (Nat.le_refl _) fun b hb _ => ⟨by have hb' : wd.heap.size ≤ b := hb; show w1.heap.size ≤ b; omega, rfl⟩
  have hst := hst'.frame (P' := fun b => w1.heap.size ≤ b) (Nat.le_refl _) fun b hb _ => ⟨by have hb' : wd.heap.size ≤ b := hb; show w1.heap.size ≤ b; omega, rfl⟩
  clear hit' hst' hg2'
  have hs2 := hg2.size
  have hA2 := bel_a w2 (.cells #[vt, vb] 26)
  have hsW : (w2.alloc (.cells #[vt, vb] 26)).heap.size = w2.heap.size + 1 := by simp
  have HR2 := Lib.hid (row_below (row_grown HR1.out hg2 (by omega)) hA2)
  have HRP := Lib.hid (heap_alloc_new w2 (.cells #[vt, vb] 26))
  have HD2 := Lib.hid (hd2.low hA2 (by omega))
  have HB2 := Lib.hid ((grown_new HB1.out (by omega) hg2).trans (hA2.mono (by omega)))
  have HIT := Lib.hid (hit.bel hA2)
  have HST := Lib.hid (hst.bel hA2)
  obtain ⟨At, ct, rfl, -⟩ := hit.slice
  obtain ⟨Ab, cb, rfl, -⟩ := hst.slice
  clear hit hst hd2 hg2 hA2
  go_wp2_with fail
  generalize w2.alloc (.cells #[.slice At ts.length ct, .slice Ab l.length cb] 26) = W2 at *
  refine (sPointsOf_any _ _ ts l _ _ HIT.out.toS HST.out.toS (Nat.le_refl _) (by omega)).mono ?_
  rintro e w3 ⟨vp, rfl, hps, hb3⟩
  obtain ⟨Ap, cp, rfl, hcp, hpl⟩ := hps.slice
  have hs3 := hb3.size
  have HR3 := Lib.hid (row_below HR2.out hb3)
  have HRP3 := Lib.hid (row_below HRP.out hb3)
  have HD3 := Lib.hid (HD2.out.low hb3 (by omega))
  have HB3 := Lib.hid (HB2.out.trans (hb3.mono (by omega)))
  have HIT3 := Lib.hid (HIT.out.bel hb3)
  have HST3 := Lib.hid (HST.out.bel hb3)
  obtain ⟨np, hnp⟩ : ∃ np, np = (pointsP ts l).length := ⟨_, rfl⟩
  rw [← hnp] at hcp hpl ⊢
  have hnp61 : np ≤ 61 := by
    rw [hnp]; unfold pointsP
    split
    · rename_i hv; exact ptsP_le hv
    · simp
  clear hps hb3 hnp
  have hw2 : w.heap.size < w2.heap.size := by omega
  have q0 : w3.cell? ⟨w2.heap.size, 0, none⟩ = some (.slice At ts.length ct) := by rw [cell_of_row _ _ _ _ _ _ HRP3.out]; rfl
  have q1 : w3.cell? ⟨w2.heap.size, 1, none⟩ = some (.slice Ab l.length cb) := by rw [cell_of_row _ _ _ _ _ _ HRP3.out]; rfl
  by_cases hz : np = 0
  · have hz1 : ((np : Int) == 0) = true := by simp [hz]
    clear hz
    go_wp2_with fail
    have CN : Calls Try.prog 70 #[.pointer (some ⟨w.heap.size + 1, 0, none⟩), .slice (some ⟨w3.heap.size, 0, none⟩) 3 3] (w3.alloc (.cells #[.int .i64 (-1), .int .i64 60, .int .i64 0] 3)).drew (fun e w' => ∃ x : Int, e = .returned (.int .i64 x) ∧ x ∈ [-1, 60, 0] ∧ Dr w' (w.heap.size + 1) (p2 + 1) ∧ (w3.alloc (.cells #[.int .i64 (-1), .int .i64 60, .int .i64 0] 3)).drew.grownBy w' (some (w.heap.size + 1))) :=
      num_any (w.heap.size + 1) _ _ [-1, 60, 0] 3 _ (HD3.out.low ((bel_a w3 (.cells #[.int .i64 (-1), .int .i64 60, .int .i64 0] 3)).drew) (by omega)) (by omega) (RowB.new w3 _ _) (by omega) (by simp) (by simp)
    have HCN := Lib.hid CN
    have HWA := Lib.hid (bel_a w3 (.cells #[.int .i64 (-1), .int .i64 60, .int .i64 0] 3)).drew
    have HSW := Lib.hid (show (w3.alloc (.cells #[.int .i64 (-1), .int .i64 60, .int .i64 0] 3)).drew.heap.size = w3.heap.size + 1 by simp)
    clear CN
    go_region_held3 (fun w' => w'.cell? ⟨w2.heap.size, 0, none⟩ = some (.slice At ts.length ct) ∧ w'.cell? ⟨w2.heap.size, 1, none⟩ = some (.slice Ab l.length cb))
      (first | exact ⟨q0, q1⟩ | exact ⟨q07, q17⟩ | exact Q9.out | assumption | go_keep)
      (first
        | (go_at_call 70; (with_reducible refine HCN.out.mono ?_); (rintro e w7 ⟨x, rfl, hx, hd7, hg7⟩); (have hs7 := hg7.size); (rw [HSW.out] at hs7); (have hr7 := row_grown (row_below HR3.out HWA.out) hg7 (by omega)); (have hrp7 := row_grown (row_below HRP3.out HWA.out) hg7 (by omega)); (have q07 : w7.cell? ⟨w2.heap.size, 0, none⟩ = some (.slice At ts.length ct) := by (rw [cell_of_row _ _ _ _ _ _ hrp7]; rfl)); (have q17 : w7.cell? ⟨w2.heap.size, 1, none⟩ = some (.slice Ab l.length cb) := by (rw [cell_of_row _ _ _ _ _ _ hrp7]; rfl)); (have z07 : w7.cell? ⟨w.heap.size, 0, none⟩ = some (.slice none 0 0) := by (rw [cell_of_row _ _ _ _ _ _ hr7]; rfl)); (have z17 : w7.cell? ⟨w.heap.size, 1, none⟩ = some (.slice none 0 0) := by (rw [cell_of_row _ _ _ _ _ _ hr7]; rfl)); (have zf07 := frozen_of_row w7 w.heap.size 0 _ _ hr7); (have zf17 := frozen_of_row w7 w.heap.size 1 _ _ hr7); (have HR9 := Lib.hid hr7); (have HG9 := Lib.hid hg7); (have Q9 := Lib.hid (pl_set (Ne.symm (Nat.ne_of_lt hw2)) q07 q17 (.slice At ts.length ct) (.slice Ab l.length cb))); clear hx hd7 hg7 hr7 hrp7)
        | fail)
    have HB9 := Lib.hid (grown_new (HB3.out.trans (HWA.out.mono HB3.out.size)) (by omega) HG9.out)
    have HIT9 := Lib.hid (((HIT3.out.bel HWA.out).grown HG9.out (by show ¬ (w1.heap.size ≤ w.heap.size + 1); omega)))
    have HST9 := Lib.hid (((HST3.out.bel HWA.out).grown HG9.out (by show ¬ (w1.heap.size ≤ w.heap.size + 1); omega)))
    go_wp2_with fail
    refine bodyPost_ret (res_box (u := 3) rfl _ _ w.heap.size 26 _ (0, 0) _ rfl (box2 HR9.out _ _).1 Try.underlying26 rfl rfl) rfl ?_
    exact (pl_close (a := x) HB9.out (box2 HR9.out _ _).2 HIT9.out HST9.out (by omega) hts hsz)

  · have hz1 : ((np : Int) == 0) = false := by simpa using hz
    have hz2 : 0 < np := by omega
    clear hz
    go_wp2_with fail
    refine (pick_any (w.heap.size + 1) p2 _ _ HD3.out (by omega) (by omega) (by omega)).mono ?_
    rintro e w4 ⟨k, rfl, -, -, hd4, hg4⟩
    have hs4 := hg4.size
    have HR4 := Lib.hid (row_grown HR3.out hg4 (by omega))
    have HRP4 := Lib.hid (row_grown HRP3.out hg4 (by omega))
    have HD4 := Lib.hid hd4
    have HB4 := Lib.hid (grown_new HB3.out (by omega) hg4)
    have HIT4 := Lib.hid (HIT3.out.grown hg4 (by show ¬ (w1.heap.size ≤ w.heap.size + 1); omega))
    have HST4 := Lib.hid (HST3.out.grown hg4 (by show ¬ (w1.heap.size ≤ w.heap.size + 1); omega))
    clear hd4 hg4 q0 q1
    have q0 : w4.cell? ⟨w2.heap.size, 0, none⟩ = some (.slice At ts.length ct) := by rw [cell_of_row _ _ _ _ _ _ HRP4.out]; rfl
    have q1 : w4.cell? ⟨w2.heap.size, 1, none⟩ = some (.slice Ab l.length cb) := by rw [cell_of_row _ _ _ _ _ _ HRP4.out]; rfl
    by_cases hk : k = 0
    · subst hk
      go_wp2_with fail
      have CN : Calls Try.prog 70 #[.pointer (some ⟨w.heap.size + 1, 0, none⟩), .slice (some ⟨w4.heap.size, 0, none⟩) 3 3] (w4.alloc (.cells #[.int .i64 (-1), .int .i64 60, .int .i64 0] 3)).drew (fun e w' => ∃ x : Int, e = .returned (.int .i64 x) ∧ x ∈ [-1, 60, 0] ∧ Dr w' (w.heap.size + 1) ((p2 + 1) + 1) ∧ (w4.alloc (.cells #[.int .i64 (-1), .int .i64 60, .int .i64 0] 3)).drew.grownBy w' (some (w.heap.size + 1))) :=
        num_any (w.heap.size + 1) _ _ [-1, 60, 0] 3 _ (HD4.out.low ((bel_a w4 (.cells #[.int .i64 (-1), .int .i64 60, .int .i64 0] 3)).drew) (by omega)) (by omega) (RowB.new w4 _ _) (by omega) (by simp) (by simp)
      have HCN := Lib.hid CN
      have HWA := Lib.hid (bel_a w4 (.cells #[.int .i64 (-1), .int .i64 60, .int .i64 0] 3)).drew
      have HSW := Lib.hid (show (w4.alloc (.cells #[.int .i64 (-1), .int .i64 60, .int .i64 0] 3)).drew.heap.size = w4.heap.size + 1 by simp)
      clear CN
      go_region_held3 (fun w' => w'.cell? ⟨w2.heap.size, 0, none⟩ = some (.slice At ts.length ct) ∧ w'.cell? ⟨w2.heap.size, 1, none⟩ = some (.slice Ab l.length cb))
        (first | exact ⟨q0, q1⟩ | exact ⟨q07, q17⟩ | exact Q9.out | assumption | go_keep)
        (first
          | (go_at_call 70; (with_reducible refine HCN.out.mono ?_); (rintro e w7 ⟨x, rfl, hx, hd7, hg7⟩); (have hs7 := hg7.size); (rw [HSW.out] at hs7); (have hr7 := row_grown (row_below HR4.out HWA.out) hg7 (by omega)); (have hrp7 := row_grown (row_below HRP4.out HWA.out) hg7 (by omega)); (have q07 : w7.cell? ⟨w2.heap.size, 0, none⟩ = some (.slice At ts.length ct) := by (rw [cell_of_row _ _ _ _ _ _ hrp7]; rfl)); (have q17 : w7.cell? ⟨w2.heap.size, 1, none⟩ = some (.slice Ab l.length cb) := by (rw [cell_of_row _ _ _ _ _ _ hrp7]; rfl)); (have z07 : w7.cell? ⟨w.heap.size, 0, none⟩ = some (.slice none 0 0) := by (rw [cell_of_row _ _ _ _ _ _ hr7]; rfl)); (have z17 : w7.cell? ⟨w.heap.size, 1, none⟩ = some (.slice none 0 0) := by (rw [cell_of_row _ _ _ _ _ _ hr7]; rfl)); (have zf07 := frozen_of_row w7 w.heap.size 0 _ _ hr7); (have zf17 := frozen_of_row w7 w.heap.size 1 _ _ hr7); (have HR9 := Lib.hid hr7); (have HG9 := Lib.hid hg7); (have Q9 := Lib.hid (pl_set (Ne.symm (Nat.ne_of_lt hw2)) q07 q17 (.slice At ts.length ct) (.slice Ab l.length cb))); clear hx hd7 hg7 hr7 hrp7)
          | fail)
      have HB9 := Lib.hid (grown_new (HB4.out.trans (HWA.out.mono HB4.out.size)) (by omega) HG9.out)
      have HIT9 := Lib.hid (((HIT4.out.bel HWA.out).grown HG9.out (by show ¬ (w1.heap.size ≤ w.heap.size + 1); omega)))
      have HST9 := Lib.hid (((HST4.out.bel HWA.out).grown HG9.out (by show ¬ (w1.heap.size ≤ w.heap.size + 1); omega)))
      go_wp2_with fail
      refine bodyPost_ret (res_box (u := 3) rfl _ _ w.heap.size 26 _ (0, 0) _ rfl (box2 HR9.out _ _).1 Try.underlying26 rfl rfl) rfl ?_
      exact (pl_close (a := x) HB9.out (box2 HR9.out _ _).2 HIT9.out HST9.out (by omega) hts hsz)

    · have hk1 : (k == 0) = false := by simpa using hk
      clear hk
      go_wp2_with fail
      have HCN := Lib.hid (pick_any (w.heap.size + 1) (p2 + 1) ((np : Nat) : Int) w4.drew (HD4.out.low (Below.refl _ _).drew (by omega)) (by omega) (by omega) (by omega))
      have HWA := Lib.hid ((Below.refl w4.heap.size w4).drew)
      have HSW := Lib.hid (show w4.drew.heap.size = w4.heap.size by simp)
      go_region_held3 (fun w' => w'.cell? ⟨w2.heap.size, 0, none⟩ = some (.slice At ts.length ct) ∧ w'.cell? ⟨w2.heap.size, 1, none⟩ = some (.slice Ab l.length cb))
        (first | exact ⟨q0, q1⟩ | exact ⟨q07, q17⟩ | exact Q9.out | assumption | go_keep)
        (first
          | (go_at_call 56; (with_reducible refine HCN.out.mono ?_); (rintro e w7 ⟨x, rfl, -, -, hd7, hg7⟩); (have hs7 := hg7.size); (rw [HSW.out] at hs7); (have hr7 := row_grown (row_below HR4.out HWA.out) hg7 (by omega)); (have hrp7 := row_grown (row_below HRP4.out HWA.out) hg7 (by omega)); (have q07 : w7.cell? ⟨w2.heap.size, 0, none⟩ = some (.slice At ts.length ct) := by (rw [cell_of_row _ _ _ _ _ _ hrp7]; rfl)); (have q17 : w7.cell? ⟨w2.heap.size, 1, none⟩ = some (.slice Ab l.length cb) := by (rw [cell_of_row _ _ _ _ _ _ hrp7]; rfl)); (have z07 : w7.cell? ⟨w.heap.size, 0, none⟩ = some (.slice none 0 0) := by (rw [cell_of_row _ _ _ _ _ _ hr7]; rfl)); (have z17 : w7.cell? ⟨w.heap.size, 1, none⟩ = some (.slice none 0 0) := by (rw [cell_of_row _ _ _ _ _ _ hr7]; rfl)); (have zf07 := frozen_of_row w7 w.heap.size 0 _ _ hr7); (have zf17 := frozen_of_row w7 w.heap.size 1 _ _ hr7); (have HR9 := Lib.hid hr7); (have HG9 := Lib.hid hg7); (have Q9 := Lib.hid (pl_set (Ne.symm (Nat.ne_of_lt hw2)) q07 q17 (.slice At ts.length ct) (.slice Ab l.length cb))); clear hd7 hg7 hr7 hrp7)
          | fail)
      have HB9 := Lib.hid (grown_new (HB4.out.trans (HWA.out.mono HB4.out.size)) (by omega) HG9.out)
      have HIT9 := Lib.hid (((HIT4.out.bel HWA.out).grown HG9.out (by show ¬ (w1.heap.size ≤ w.heap.size + 1); omega)))
      have HST9 := Lib.hid (((HST4.out.bel HWA.out).grown HG9.out (by show ¬ (w1.heap.size ≤ w.heap.size + 1); omega)))
      go_wp2_with fail
      refine bodyPost_ret (res_box (u := 3) rfl _ _ w.heap.size 26 _ (0, 0) _ rfl (box2 HR9.out _ _).1 Try.underlying26 rfl rfl) rfl ?_
      exact (pl_close (a := x) HB9.out (box2 HR9.out _ _).2 HIT9.out HST9.out (by omega) hts hsz)




end Go.Proofs.Ytmaaaiccmllnlaa

/- the draws of a checked program, of regions and of loops. -/
namespace Go.Proofs.Ytmaaaiccmllnlaa
open Go.RowKit

set_option maxHeartbeats 4000000 in
set_option maxRecDepth 100000 in
theorem drawCheckProgram_any (A : Option Addr) (n c : Nat) (w : World) (hb : Byt w w.heap.size A n) (hn : n ≤ 1048576) (hc : n ≤ c) :
    Calls Try.prog 69 #[.slice A n c] w (DrRes w) := by
  have HB := Lib.hid hb
  clear hb
  go_enter Try.func69, Try.ntmps69
  go_wp2_with fail
  have hA := bel_a w (.cells #[.slice none 0 0, .slice none 0 0] 26)
  have hsA : (w.alloc (.cells #[.slice none 0 0, .slice none 0 0] 26)).heap.size = w.heap.size + 1 := by simp
  refine (l17Open_any A n c _ (by rw [hsA]; exact (HB.out.keep fun b o hb => hA.cell (p := ⟨b, o, none⟩) hb).more (by omega)) hn hc).mono ?_
  rw [hsA]
  rintro e w1 ⟨rfl, hd1, hb1⟩
  have hb1' : Below (w.alloc (.cells #[.slice none 0 0, .slice none 0 0] 26)).heap.size (w.alloc (.cells #[.slice none 0 0, .slice none 0 0] 26)) w1 := by rw [hsA]; exact hb1
  have hs1 : w.heap.size + 1 < w1.heap.size := hd1.lt
  have HR1 := Lib.hid (row_below (heap_alloc_new w (.cells #[.slice none 0 0, .slice none 0 0] 26)) hb1')
  have HB1 := Lib.hid (hA.trans (hb1.mono (by omega)))
  have HD1 := Lib.hid hd1
  clear hb1 hb1' hd1 hA hsA
  go_wp2_with fail
  refine (l1Draw_any (w.heap.size + 1) 0 _ HD1.out (by omega)).mono ?_
  rintro e wd ⟨vt0, vb0, ts0, l0, p0, rfl, hit0, hst0, hts0, hsz0, hp0, hd0, hg0⟩
  have hs0 := hg0.size
  have HD0 := Lib.hid hd0
  have HG0 := Lib.hid hg0
  have HIT0 := Lib.hid hit0
  have HST0 := Lib.hid hst0
  clear hit0 hst0 hd0 hg0
  go_wp2_with fail
  refine (mutate_any (w.heap.size + 1) p0 _ _ ts0 l0 _ _ HIT0.out.toS HST0.out.toS (Nat.le_refl _) hts0 hsz0 HD0.out (by omega)).mono ?_
  rintro e w2 ⟨vt, vb, ts, l, p2, rfl, hit', hst', hts, hsz, hp2, hd2, hg2'⟩
  have hg2 := grown_tr HG0.out hg2'
  have hit := hit'.frame (P' := fun b => w1.heap.size ≤ b) (Nat.le_refl _) fun b hb _ => ⟨by have hb' : wd.heap.size ≤ b := hb; show w1.heap.size ≤ b; omega, rfl⟩
  have hst := hst'.frame (P' := fun b => w1.heap.size ≤ b) (Nat.le_refl _) fun b hb _ => ⟨by have hb' : wd.heap.size ≤ b := hb; show w1.heap.size ≤ b; omega, rfl⟩
  clear hit' hst' hg2'
  have hs2 := hg2.size
  have HR2 := Lib.hid (row_grown HR1.out hg2 (by omega))
  have HB2 := Lib.hid (grown_new HB1.out (by omega) hg2)
  have HIT := Lib.hid hit
  have HST := Lib.hid hst
  obtain ⟨At, ct, rfl, -⟩ := hit.slice
  obtain ⟨Ab, cb, rfl, -⟩ := hst.slice
  clear hit hst hd2 hg2
  have z0 : w2.cell? ⟨w.heap.size, 0, none⟩ = some (.slice none 0 0) := by rw [cell_of_row _ _ _ _ _ _ HR2.out]; rfl
  have z1 : w2.cell? ⟨w.heap.size, 1, none⟩ = some (.slice none 0 0) := by rw [cell_of_row _ _ _ _ _ _ HR2.out]; rfl
  have zf0 := frozen_of_row w2 w.heap.size 0 _ _ HR2.out
  have zf1 := frozen_of_row w2 w.heap.size 1 _ _ HR2.out
  go_wp2_with fail
  exact bodyPost_ret (results_cell_row rfl _ _ w.heap.size 26 _ (0, 0) _ rfl (box2 HR2.out _ _).1 Try.underlying26 rfl rfl) rfl (dr_close HB2.out (box2 HR2.out _ _).2 (HIT.out.frame (Nat.le_refl _) fun b hb _ => ⟨by have hb' : w1.heap.size ≤ b := hb; show w.heap.size + 1 ≤ b; omega, rfl⟩) (HST.out.frame (Nat.le_refl _) fun b hb _ => ⟨by have hb' : w1.heap.size ≤ b := hb; show w.heap.size + 1 ≤ b; omega, rfl⟩) hts hsz)

set_option maxHeartbeats 4000000 in
set_option maxRecDepth 100000 in
theorem drawRegionOf_any (A : Option Addr) (n c : Nat) (w : World) (hb : Byt w w.heap.size A n) (hn : n ≤ 1048576) (hc : n ≤ c) :
    Calls Try.prog 22 #[.slice A n c] w (PlRet w) := by
  have HB := Lib.hid hb
  clear hb
  go_enter Try.func22, Try.ntmps22
  go_wp2_with fail
  have hA := bel_a w (.cells #[.slice none 0 0, .slice none 0 0] 26)
  have hsA : (w.alloc (.cells #[.slice none 0 0, .slice none 0 0] 26)).heap.size = w.heap.size + 1 := by simp
  refine (drawCheckProgram_any A n c _ (by rw [hsA]; exact (HB.out.keep fun b o hb => hA.cell (p := ⟨b, o, none⟩) hb).more (by omega)) hn hc).mono ?_
  rintro e w1 ⟨vt, vb, ts, l, rfl, hit, hst, hts, hsz, hb1⟩
  rw [hsA] at hit hst
  have HR1 := Lib.hid (row_below (heap_alloc_new w (.cells #[.slice none 0 0, .slice none 0 0] 26)) hb1)
  have HB1 := Lib.hid (hA.trans (hb1.mono (by omega)))
  have hs1 : w.heap.size + 1 ≤ w1.heap.size := by rw [← hsA]; exact hb1.size
  have hb1' := HB1.out
  have hA2 := bel_a w1 (.cells #[vt, vb] 26)
  have hsW : (w1.alloc (.cells #[vt, vb] 26)).heap.size = w1.heap.size + 1 := by simp
  have HR2 := Lib.hid (row_below HR1.out hA2)
  have HRP := Lib.hid (heap_alloc_new w1 (.cells #[vt, vb] 26))
  have HB2 := Lib.hid (hb1'.trans (hA2.mono (by omega)))
  have HIT := Lib.hid (hit.bel hA2)
  have HST := Lib.hid (hst.bel hA2)
  obtain ⟨At, ct, rfl, -⟩ := hit.slice
  obtain ⟨Ab, cb, rfl, -⟩ := hst.slice
  clear hb1 hb1' hA hsA hit hst hA2
  go_wp2_with fail
  generalize w1.alloc (.cells #[.slice At ts.length ct, .slice Ab l.length cb] 26) = W2 at *
  have hs1' : w.heap.size < w1.heap.size := by omega
  have c0 : W2.cell? ⟨w1.heap.size, 0, none⟩ = some (.slice At ts.length ct) := by rw [cell_of_row _ _ _ _ _ _ HRP.out]; rfl
  have c1 : W2.cell? ⟨w1.heap.size, 1, none⟩ = some (.slice Ab l.length cb) := by rw [cell_of_row _ _ _ _ _ _ HRP.out]; rfl
  have hsD : W2.drew.heap.size = w1.heap.size + 1 := by rw [← hsW]; simp
  have HBD2 := Lib.hid ((Below.refl W2.heap.size W2).drew)
  have HBA := Lib.hid (HB.out.keep (w' := W2) fun b o hb => HB2.out.cell (p := ⟨b, o, none⟩) hb)
  have HBD := Lib.hid ((HB.out.keep (w' := W2.drew) fun b o hb => (HB2.out.trans (HBD2.out.mono HB2.out.size)).cell (p := ⟨b, o, none⟩) hb).more (B' := W2.drew.heap.size) (by simp; omega))
  refine wp_region_held_drew (S := (fun w' => w'.cell? ⟨w1.heap.size, 0, none⟩ = some (.slice At ts.length ct) ∧ w'.cell? ⟨w1.heap.size, 1, none⟩ = some (.slice Ab l.length cb))) (by kernel_rfl) ?_ (fun hHeld => ?_)
  · exact ⟨c0, c1⟩
  refine wpAnyH_take (i := 0) (oi := ⟨some 7, _, _, _, _, _⟩) (v := ?_) rfl (by kernel_rfl) (by kernel_rfl) (by kernel_rfl) (fun _ _ _ h => h) (Or.inl ⟨by rfl, fun w' hSw => ?_⟩) (by assumption) ?_
  rotate_left
  · (try dsimp only at hSw); go_simp; (try with_reducible rfl)
  (try simp only [Act.put, List.setIfInBounds_toArray, List.set_cons_zero, List.set_cons_succ])
  refine wpAnyH_take (i := 1) (oi := ⟨some 8, _, _, _, _, _⟩) (v := ?_) rfl (by kernel_rfl) (by kernel_rfl) (by kernel_rfl) (fun _ _ _ h => h) (Or.inl ⟨by rfl, fun w' hSw => ?_⟩) (by assumption) ?_
  rotate_left
  · (try dsimp only at hSw); go_simp; (try with_reducible rfl)
  (try simp only [Act.put, List.setIfInBounds_toArray, List.set_cons_zero, List.set_cons_succ])
  refine wpAnyH_ready (rs := [2, 3]) (by kernel_rfl) (by simp) ?_
  refine AllReadyH.cons (o := ⟨some 9, _, _, _, _, _⟩) rfl (fun K hK => ?_) (AllReadyH.cons (o := ⟨some 10, _, _, _, _, _⟩) rfl (fun K hK => ?_) AllReadyH.nil)
  · go_simp
    (refine (l17Open_any A n c _ HBD.out hn hc).mono ?_)
    (rintro e w3 ⟨rfl, hd3, hb3⟩)
    (rw [hsD] at hd3)
    (have HD3 := Lib.hid hd3)
    (have HB3 := Lib.hid (HBD2.out.trans (hb3.mono HBD2.out.size)))
    (have hs3 := HB3.out.size)
    (have hlt3 := hd3.lt)
    clear hd3 hb3
    go_simp
    refine hK.out _ _ ?_ (fun hHeld => ?_)
    · exact ⟨belC HB3.out c0 (by omega), belC HB3.out c1 (by omega)⟩
    clear hK K
    (try simp only [Act.put, List.setIfInBounds_toArray, List.set_cons_zero, List.set_cons_succ])
    refine wpAnyH_ready (rs := [3]) (by kernel_rfl) (by simp) ?_
    refine AllReadyH.cons (o := ⟨some 10, _, _, _, _, _⟩) rfl (fun K hK => ?_) AllReadyH.nil
    go_simp
    (have HRN := Lib.hid (RowB.new w3 ([2, 3, 4, 5, 1, 0, (-1), 9].map (Value.int .i64)) 3))
    (have HBN := Lib.hid (bel_a w3 (.cells #[.int .i64 2, .int .i64 3, .int .i64 4, .int .i64 5, .int .i64 1, .int .i64 0, .int .i64 (-1), .int .i64 9] 3)))
    (have HB4 := Lib.hid (HB3.out.trans (HBN.out.mono HB3.out.size)))
    (have HD4 := Lib.hid (HD3.out.low HBN.out hlt3))
    refine hK.out _ _ ?_ (fun hHeld => ?_)
    · exact ⟨belC HB4.out c0 (by omega), belC HB4.out c1 (by omega)⟩
    clear hK K
    (try simp only [Act.put, List.setIfInBounds_toArray, List.set_cons_zero, List.set_cons_succ])
    refine wpAnyH_ready (rs := [4]) (by kernel_rfl) (by simp) ?_
    refine AllReadyH.cons (o := ⟨some 11, _, _, _, _, _⟩) rfl (fun K hK => ?_) AllReadyH.nil
    go_simp
    (have CN : Calls Try.prog 70 #[.pointer (some ⟨(w1.heap.size + 1), 0, none⟩), .slice (some ⟨w3.heap.size, 0, none⟩) 8 8] (w3.alloc (.cells #[.int .i64 2, .int .i64 3, .int .i64 4, .int .i64 5, .int .i64 1, .int .i64 0, .int .i64 (-1), .int .i64 9] 3)) (fun e w' => ∃ x : Int, e = .returned (.int .i64 x) ∧ x ∈ [2, 3, 4, 5, 1, 0, (-1), 9] ∧ Dr w' (w1.heap.size + 1) 1 ∧ ((w3.alloc (.cells #[.int .i64 2, .int .i64 3, .int .i64 4, .int .i64 5, .int .i64 1, .int .i64 0, .int .i64 (-1), .int .i64 9] 3))).grownBy w' (some (w1.heap.size + 1))) := num_any (w1.heap.size + 1) 0 _ [2, 3, 4, 5, 1, 0, (-1), 9] 3 _ HD4.out (by omega) HRN.out (by first | omega | (simp; omega)) (by simp) (by simp))
    (with_reducible refine CN.mono ?_)
    (rintro e w5 ⟨x, rfl, -, -, hg5⟩)
    (have HB5 := Lib.hid (grown_new HB4.out (by omega) hg5))
    (have hs5 := HB5.out.size)
    (have HR5 := Lib.hid (row_below HR2.out HB5.out))
    (have z0 : w5.cell? ⟨w.heap.size, 0, none⟩ = some (.slice none 0 0) := by (rw [cell_of_row _ _ _ _ _ _ HR5.out]; rfl))
    (have z1 : w5.cell? ⟨w.heap.size, 1, none⟩ = some (.slice none 0 0) := by (rw [cell_of_row _ _ _ _ _ _ HR5.out]; rfl))
    (have zf0 := frozen_of_row w5 w.heap.size 0 _ _ HR5.out)
    (have zf1 := frozen_of_row w5 w.heap.size 1 _ _ HR5.out)
    (have HS5 := Lib.hid (pl_set (Ne.symm (Nat.ne_of_lt hs1')) (belC HB5.out c0 (by omega)) (belC HB5.out c1 (by omega)) (.slice At ts.length ct) (.slice Ab l.length cb)))
    clear hg5
    go_simp
    refine hK.out _ _ ?_ (fun hHeld => ?_)
    · exact ⟨belC HB5.out c0 (by omega), belC HB5.out c1 (by omega)⟩
    clear hK K
    (try simp only [Act.put, List.setIfInBounds_toArray, List.set_cons_zero, List.set_cons_succ])
    refine wpAnyH_ready (rs := [5]) (by kernel_rfl) (by simp) ?_
    refine AllReadyH.cons (o := ⟨none, _, _, _, _, _⟩) rfl (fun K hK => ?_) AllReadyH.nil
    go_simp
    refine hK.out _ _ ?_ (fun hHeld => ?_)
    · exact HS5.out
    clear hK K
    (try simp only [Act.put, List.setIfInBounds_toArray, List.set_cons_zero, List.set_cons_succ])
    refine wpAnyH_take (i := 6) (oi := ⟨some 3, _, _, _, _, _⟩) (v := ?_) rfl (by kernel_rfl) (by kernel_rfl) (by kernel_rfl) (fun _ _ _ h => h) (Or.inl ⟨by rfl, fun w' hSw => ?_⟩) (by assumption) ?_
    rotate_left
    · (try dsimp only at hSw); go_simp; (try with_reducible rfl)
    (try simp only [Act.put, List.setIfInBounds_toArray, List.set_cons_zero, List.set_cons_succ])
    refine wpAnyH_done (by kernel_rfl) ?_ _
    have HIT5 := Lib.hid (HIT.out.bel HB5.out)
    have HST5 := Lib.hid (HST.out.bel HB5.out)
    have HW5 := Lib.hid (HB2.out.trans (HB5.out.mono HB2.out.size))
    go_wp2_with fail
    refine bodyPost_ret (res_box (u := 3) rfl _ _ w.heap.size 26 _ (0, 0) _ rfl (box2 HR5.out _ _).1 Try.underlying26 rfl rfl) rfl ?_
    have HE := DsE.mk' HW5.out (box2 HR5.out (.slice At ts.length ct) (.slice Ab l.length cb)).2 HIT5.out HST5.out (by omega)
    exact ⟨_, _, ts, l, x, rfl, HE.ht, HE.hl, hts, hsz, HE.bel⟩
  · go_simp
    (have HRN := Lib.hid (RowB.new W2.drew ([2, 3, 4, 5, 1, 0, (-1), 9].map (Value.int .i64)) 3))
    (have HB3 := Lib.hid (HBD2.out.trans (bel_a W2.drew (.cells #[.int .i64 2, .int .i64 3, .int .i64 4, .int .i64 5, .int .i64 1, .int .i64 0, .int .i64 (-1), .int .i64 9] 3))))
    (have hs2 : (W2.drew.alloc (.cells #[.int .i64 2, .int .i64 3, .int .i64 4, .int .i64 5, .int .i64 1, .int .i64 0, .int .i64 (-1), .int .i64 9] 3)).heap.size = w1.heap.size + 1 + 1 := by (rw [← hsW]; simp))
    refine hK.out _ _ ?_ (fun hHeld => ?_)
    · exact ⟨belC HB3.out c0 (by omega), belC HB3.out c1 (by omega)⟩
    clear hK K
    (try simp only [Act.put, List.setIfInBounds_toArray, List.set_cons_zero, List.set_cons_succ])
    refine wpAnyH_ready (rs := [2]) (by kernel_rfl) (by simp) ?_
    refine AllReadyH.cons (o := ⟨some 9, _, _, _, _, _⟩) rfl (fun K hK => ?_) AllReadyH.nil
    go_simp
    (refine (l17Open_any A n c _ (HBA.out.keep (fun b o hb => (HB3.out.mono HB2.out.size).cell (p := ⟨b, o, none⟩) hb) |>.more (by omega)) hn hc).mono ?_)
    (rintro e w4 ⟨rfl, hd4, hb4⟩)
    (rw [hs2] at hd4)
    (have HD4 := Lib.hid hd4)
    (have hrn4 := HRN.out.low hb4 (by simp))
    (rw [hsD] at hrn4)
    (have HRN4 := Lib.hid hrn4)
    (have HB4 := Lib.hid (HB3.out.trans (hb4.mono HB3.out.size)))
    (have hs4 := hd4.lt)
    clear hd4 hb4 hrn4
    go_simp
    refine hK.out _ _ ?_ (fun hHeld => ?_)
    · exact ⟨belC HB4.out c0 (by omega), belC HB4.out c1 (by omega)⟩
    clear hK K
    (try simp only [Act.put, List.setIfInBounds_toArray, List.set_cons_zero, List.set_cons_succ])
    refine wpAnyH_ready (rs := [4]) (by kernel_rfl) (by simp) ?_
    refine AllReadyH.cons (o := ⟨some 11, _, _, _, _, _⟩) rfl (fun K hK => ?_) AllReadyH.nil
    go_simp
    (have CN : Calls Try.prog 70 #[.pointer (some ⟨(w1.heap.size + 1 + 1), 0, none⟩), .slice (some ⟨(w1.heap.size + 1), 0, none⟩) 8 8] w4 (fun e w' => ∃ x : Int, e = .returned (.int .i64 x) ∧ x ∈ [2, 3, 4, 5, 1, 0, (-1), 9] ∧ Dr w' (w1.heap.size + 1 + 1) 1 ∧ (w4).grownBy w' (some (w1.heap.size + 1 + 1))) := num_any (w1.heap.size + 1 + 1) 0 _ [2, 3, 4, 5, 1, 0, (-1), 9] 3 _ HD4.out (by omega) HRN4.out (by first | omega | (simp; omega)) (by simp) (by simp))
    (with_reducible refine CN.mono ?_)
    (rintro e w5 ⟨x, rfl, -, -, hg5⟩)
    (have HB5 := Lib.hid (grown_new HB4.out (by omega) hg5))
    (have hs5 := HB5.out.size)
    (have HR5 := Lib.hid (row_below HR2.out HB5.out))
    (have z0 : w5.cell? ⟨w.heap.size, 0, none⟩ = some (.slice none 0 0) := by (rw [cell_of_row _ _ _ _ _ _ HR5.out]; rfl))
    (have z1 : w5.cell? ⟨w.heap.size, 1, none⟩ = some (.slice none 0 0) := by (rw [cell_of_row _ _ _ _ _ _ HR5.out]; rfl))
    (have zf0 := frozen_of_row w5 w.heap.size 0 _ _ HR5.out)
    (have zf1 := frozen_of_row w5 w.heap.size 1 _ _ HR5.out)
    (have HS5 := Lib.hid (pl_set (Ne.symm (Nat.ne_of_lt hs1')) (belC HB5.out c0 (by omega)) (belC HB5.out c1 (by omega)) (.slice At ts.length ct) (.slice Ab l.length cb)))
    clear hg5
    go_simp
    refine hK.out _ _ ?_ (fun hHeld => ?_)
    · exact ⟨belC HB5.out c0 (by omega), belC HB5.out c1 (by omega)⟩
    clear hK K
    (try simp only [Act.put, List.setIfInBounds_toArray, List.set_cons_zero, List.set_cons_succ])
    refine wpAnyH_ready (rs := [5]) (by kernel_rfl) (by simp) ?_
    refine AllReadyH.cons (o := ⟨none, _, _, _, _, _⟩) rfl (fun K hK => ?_) AllReadyH.nil
    go_simp
    refine hK.out _ _ ?_ (fun hHeld => ?_)
    · exact HS5.out
    clear hK K
    (try simp only [Act.put, List.setIfInBounds_toArray, List.set_cons_zero, List.set_cons_succ])
    refine wpAnyH_take (i := 6) (oi := ⟨some 3, _, _, _, _, _⟩) (v := ?_) rfl (by kernel_rfl) (by kernel_rfl) (by kernel_rfl) (fun _ _ _ h => h) (Or.inl ⟨by rfl, fun w' hSw => ?_⟩) (by assumption) ?_
    rotate_left
    · (try dsimp only at hSw); go_simp; (try with_reducible rfl)
    (try simp only [Act.put, List.setIfInBounds_toArray, List.set_cons_zero, List.set_cons_succ])
    refine wpAnyH_done (by kernel_rfl) ?_ _
    have HIT5 := Lib.hid (HIT.out.bel HB5.out)
    have HST5 := Lib.hid (HST.out.bel HB5.out)
    have HW5 := Lib.hid (HB2.out.trans (HB5.out.mono HB2.out.size))
    go_wp2_with fail
    refine bodyPost_ret (res_box (u := 3) rfl _ _ w.heap.size 26 _ (0, 0) _ rfl (box2 HR5.out _ _).1 Try.underlying26 rfl rfl) rfl ?_
    have HE := DsE.mk' HW5.out (box2 HR5.out (.slice At ts.length ct) (.slice Ab l.length cb)).2 HIT5.out HST5.out (by omega)
    exact ⟨_, _, ts, l, x, rfl, HE.ht, HE.hl, hts, hsz, HE.bel⟩

set_option maxHeartbeats 4000000 in
set_option maxRecDepth 100000 in
theorem drawLoopOf_any (A : Option Addr) (n c : Nat) (w : World) (hb : Byt w w.heap.size A n) (hn : n ≤ 1048576) (hc : n ≤ c) :
    Calls Try.prog 27 #[.slice A n c] w (PlRet w) := by
  have HB := Lib.hid hb
  clear hb
  go_enter Try.func27, Try.ntmps27
  go_wp2_with fail
  have hA := bel_a w (.cells #[.slice none 0 0, .slice none 0 0] 26)
  have hsA : (w.alloc (.cells #[.slice none 0 0, .slice none 0 0] 26)).heap.size = w.heap.size + 1 := by simp
  refine (l3Place_any A n c _ (by rw [hsA]; exact (HB.out.keep fun b o hb => hA.cell (p := ⟨b, o, none⟩) hb).more (by omega)) hn hc).mono ?_
  rintro e w1 ⟨vt, vb, ts, l, a, rfl, hit, hst, hts, hsz, hb1⟩
  rw [hsA] at hit hst
  have HR1 := Lib.hid (row_below (heap_alloc_new w (.cells #[.slice none 0 0, .slice none 0 0] 26)) hb1)
  have HB1 := Lib.hid (hA.trans (hb1.mono (by omega)))
  have hs1 : w.heap.size + 1 ≤ w1.heap.size := by rw [← hsA]; exact hb1.size
  have HIT := Lib.hid hit
  have HST := Lib.hid hst
  obtain ⟨At, ct, rfl, -⟩ := hit.slice
  obtain ⟨Ab, cb, rfl, -⟩ := hst.slice
  clear hb1 hA hsA hit hst
  have z0 : w1.cell? ⟨w.heap.size, 0, none⟩ = some (.slice none 0 0) := by rw [cell_of_row _ _ _ _ _ _ HR1.out]; rfl
  have z1 : w1.cell? ⟨w.heap.size, 1, none⟩ = some (.slice none 0 0) := by rw [cell_of_row _ _ _ _ _ _ HR1.out]; rfl
  have zf0 := frozen_of_row w1 w.heap.size 0 _ _ HR1.out
  have zf1 := frozen_of_row w1 w.heap.size 1 _ _ HR1.out
  go_wp2_with fail
  refine bodyPost_ret (res_box (u := 3) rfl _ _ w.heap.size 26 _ (0, 0) _ rfl (box2 HR1.out _ _).1 Try.underlying26 rfl rfl) rfl ?_
  have HE := DsE.mk' HB1.out (box2 HR1.out (.slice At ts.length ct) (.slice Ab l.length cb)).2 HIT.out HST.out (by omega)
  exact ⟨_, _, ts, l, a, rfl, HE.ht, HE.hl, hts, hsz, HE.bel⟩

end Go.Proofs.Ytmaaaiccmllnlaa

/- the draws that only hand l3Place on; FnLiveStep. -/
namespace Go.Proofs.Ytmaaaiccmllnlaa
open Go.RowKit

set_option maxHeartbeats 4000000
set_option maxRecDepth 100000
theorem pl_end {w W : World} {vt vb : Value} {ts : List Int} {l : List St} {a : Int} (h3 : Below w.heap.size w W) (hT : IntX W (fun b => w.heap.size + 1 ≤ b) vt ts) (hB : StX W (fun b => w.heap.size + 1 ≤ b) vb l) (ht : ts.length ≤ 700) (hl : szL l ≤ 100000) (W' : World) (hW : W.grownBy W' (some w.heap.size)) : PlRet w (.returned (.tuple #[.agg #[vt, vb], .int .i64 a])) W' :=
  pl_close h3 hW hT hB (by omega) ht hl




end Go.Proofs.Ytmaaaiccmllnlaa
