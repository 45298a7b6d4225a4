import Derived.Test.YtmaaaiccmllnlaaG24
import Derived.Test.YtmaaaiccmllnlaaG07
import Derived.Laws.OwnMore
set_option linter.unusedVariables false

/- the draws of run paths, and of a program with loans and a point. -/
namespace Go.Proofs.Ytmaaaiccmllnlaa
open Go.RowKit

def ChRet (w : World) (g p : Nat) (e : Ending) (w' : World) : Prop :=
  ∃ (v : Value) (cs : List Int) (p' : Nat), e = .returned v ∧ IntX w' (fun b => w.heap.size ≤ b) v cs ∧ cs.length ≤ 8 ∧ p' ≤ p + 9 ∧ Dr w' g p' ∧ w.grownBy w' (some g)
def RpRet (w : World) (e : Ending) (w' : World) : Prop :=
  ∃ (At Ab : Option Addr) (nt ct nb cb : Nat) (vc : Value) (cs : List Int) (x : Int), e = .returned (.tuple #[.agg #[.slice At nt ct, .slice Ab nb cb], vc, .int .i64 x]) ∧ IntX w' (fun b => w.heap.size ≤ b) vc cs ∧ cs.length ≤ 8 ∧ Below w.heap.size w w'
theorem Gb.toGrown {g : Nat} {w w' : World} (h : Gb w.heap.size g w w') : w.grownBy w' (some g) := ⟨h.os, h.tape, h.output, h.size, fun b hb hne => h.block b hb fun e => hne (by rw [e])⟩
theorem rp_close {w w3 W : World} {At Ab : Option Addr} {nt ct nb cb : Nat} {vc : Value} {cs : List Int} {x : Int} {lo : Nat} (h3 : Below w.heap.size w w3) (hW : w3.grownBy W (some w.heap.size)) (hT : IntX w3 (fun b => lo ≤ b) vc cs) (hlo : w.heap.size < lo) (hl : cs.length ≤ 8) :
    RpRet w (.returned (.tuple #[.agg #[.slice At nt ct, .slice Ab nb cb], vc, .int .i64 x])) W := by
  have hk : ∀ b, lo ≤ b → b < w3.heap.size → w.heap.size ≤ b ∧ W.heap[b]? = w3.heap[b]? := fun b hb hl => ⟨by omega, hW.block b hl (fun e => by injection e with e; omega)⟩
  exact ⟨At, Ab, nt, ct, nb, cb, vc, cs, x, rfl, hT.frame hW.size hk, hl, grown_new h3 (Nat.le_refl _) hW⟩

set_option maxHeartbeats 4000000
set_option maxRecDepth 100000
theorem l2Choices_any (g p : Nat) (w : World) (hd : Dr w g p) (hp : p + 9 ≤ 1000000) : Calls Try.prog 85 #[.pointer (some ⟨g, 0, none⟩)] w (ChRet w g p) := by
  have hg := hd.lt
  have HD := Lib.hid hd
  clear hd
  go_enter Try.func85, Try.ntmps85
  go_wp2_with (at_builtin; fail)
  have HO0 := Lib.hid (OInts.empty w w.heap.size (Nat.le_refl _))
  have HBE := Lib.hid (bel_a w (.cells #[] 3))
  have HD0 := Lib.hid (HD.out.low HBE.out hg)
  have HG0 := Lib.hid ((Gb.refl w.heap.size g w).bel HBE.out)
  have hsE : (w.alloc (.cells #[] 3)).heap.size = w.heap.size + 1 := by simp
  generalize w.alloc (.cells #[] 3) = W1 at *
  have HBN := Lib.hid (bel_a W1 (.cells #[.int .i64 4, .int .i64 2, .int .i64 6, .int .i64 0, .int .i64 8] 3))
  have CN : Calls Try.prog 70 #[.pointer (some ⟨g, 0, none⟩), .slice (some ⟨w.heap.size + 1, 0, none⟩) 5 5] (W1.alloc (.cells #[.int .i64 4, .int .i64 2, .int .i64 6, .int .i64 0, .int .i64 8] 3)) (fun e w' => ∃ x : Int, e = .returned (.int .i64 x) ∧ x ∈ [4, 2, 6, 0, 8] ∧ Dr w' g (p + 1) ∧ (W1.alloc (.cells #[.int .i64 4, .int .i64 2, .int .i64 6, .int .i64 0, .int .i64 8] 3)).grownBy w' (some g)) := num_any g _ _ [4, 2, 6, 0, 8] 3 _ (HD0.out.low HBN.out (by omega)) (by omega) (by rw [← hsE]; exact RowB.new W1 _ _) (by omega) (by simp) (by simp)
  with_reducible refine CN.mono ?_
  rintro e w2 ⟨x, rfl, hx, hd2, hg2⟩
  have hs2 := hg2.size
  have hsN : (W1.alloc (.cells #[.int .i64 4, .int .i64 2, .int .i64 6, .int .i64 0, .int .i64 8] 3)).heap.size = W1.heap.size + 1 := by simp
  have HO2 := Lib.hid (((HO0.out.bel HBN.out)).pick hg hg2)
  have HG2 := Lib.hid ((HG0.out.bel (HBN.out.mono (by omega))).pick (by omega) hg2)
  have HD2 := Lib.hid hd2
  obtain ⟨k0, rfl, hk0⟩ : ∃ k : Nat, x = k ∧ k ≤ 8 := by
    refine ⟨x.toNat, ?_, ?_⟩ <;> (simp at hx; omega)
  clear hd2 hg2 hx
  go_wp2_with (at_builtin; fail)
  go_loopw [3, 4] (fun v i wr => ∃ (k : Nat) (o : List Int) (q : Nat), i = .int .i64 k ∧ o.length + k ≤ 8 ∧ q + k ≤ p + 9 ∧ OInts wr w.heap.size v o ∧ Dr wr g q ∧ Gb w.heap.size g w wr) (fun _ i _ => (intOf i).toNat)
  case atStart => exact ⟨k0, [], p + 1, rfl, by simpa using hk0, by omega, HO2.out, HD2.out, HG2.out⟩
  case round =>
    obtain ⟨k, o, q, rfl, hk, hq, hO, hD, hG⟩ := hrel
    have HO := Lib.hid hO
    have HD := Lib.hid hD
    have HG := Lib.hid hG
    have hsr := hG.size
    obtain ⟨A6, c6, rfl, hc6⟩ := hO.slice
    clear hO hD hG
    by_cases hlt : 0 < k
    · obtain ⟨k, rfl⟩ : ∃ m, k = m + 1 := ⟨k - 1, by omega⟩
      have HBN3 := Lib.hid (bel_a wr (.cells #[.int .i64 0, .int .i64 1, .int .i64 0, .int .i64 1, .int .i64 (-1), .int .i64 2] 3))
      go_wp2_with (at_builtin; fail)
      have CN : Calls Try.prog 70 #[.pointer (some ⟨g, 0, none⟩), .slice (some ⟨wr.heap.size, 0, none⟩) 6 6] (wr.alloc (.cells #[.int .i64 0, .int .i64 1, .int .i64 0, .int .i64 1, .int .i64 (-1), .int .i64 2] 3)) (fun e w' => ∃ x : Int, e = .returned (.int .i64 x) ∧ x ∈ [0, 1, 0, 1, -1, 2] ∧ Dr w' g (q + 1) ∧ (wr.alloc (.cells #[.int .i64 0, .int .i64 1, .int .i64 0, .int .i64 1, .int .i64 (-1), .int .i64 2] 3)).grownBy w' (some g)) := num_any g _ _ [0, 1, 0, 1, -1, 2] 3 _ (HD.out.low HBN3.out (by omega)) (by omega) (RowB.new wr _ _) (by omega) (by simp) (by simp)
      with_reducible refine CN.mono ?_
      rintro e w3 ⟨y, rfl, hy, hd3, hg3⟩
      have hs3 := hg3.size
      have hsN3 : (wr.alloc (.cells #[.int .i64 0, .int .i64 1, .int .i64 0, .int .i64 1, .int .i64 (-1), .int .i64 2] 3)).heap.size = wr.heap.size + 1 := by simp
      have HO3 := Lib.hid ((HO.out.bel HBN3.out).pick hg hg3)
      have HG3 := Lib.hid ((HG.out.bel (HBN3.out.mono (by omega))).pick (by omega) hg3)
      have HD3 := Lib.hid hd3
      clear hd3 hg3 hy
      go_wp2_with (at_builtin; go_must (refine wpList_push_int rfl (.tmp 13) (.tmp 17) rfl HO3.out (by omega) (by omega) _ rfl rfl ?_); intro v' w' hP' hE')
      have hbe := ((Evo.alloc w.heap.size 3 w3 (.cells #[.int .i64 y] 3)).trans hE').below (by omega)
      exact ⟨⟨k, _, q + 1, by go_num, by rw [List.length_append]; simp; omega, by omega, hP', HD3.out.low hbe (by omega), HG3.out.bel hbe⟩, by simp [intOf] <;> omega⟩
    · obtain rfl : k = 0 := by omega
      go_wp2_with (at_builtin; fail)
      go_ret
      exact ⟨_, o, q, rfl, HO.out.toX (by omega), by omega, by omega, HD.out, HG.out.toGrown⟩

theorem drawRunPath_any (A : Option Addr) (n c : Nat) (w : World) (hb : Byt w w.heap.size A n) (hn : n ≤ 1048576) (hc : n ≤ c) :
    Calls Try.prog 50 #[.slice A n c] w (RpRet w) := by
  have HB := Lib.hid hb
  clear hb
  go_enter Try.func50, Try.ntmps50
  go_wp2_with fail
  have hA := bel_a w (.cells #[.slice none 0 0, .slice none 0 0] 26)
  have hsA : (w.alloc (.cells #[.slice none 0 0, .slice none 0 0] 26)).heap.size = w.heap.size + 1 := by simp
  refine (l17Open_any A n c _ (by rw [hsA]; exact (HB.out.keep fun b o hb => hA.cell (p := ⟨b, o, none⟩) hb).more (by omega)) hn hc).mono ?_
  rw [hsA]
  rintro e w1 ⟨rfl, hd1, hb1⟩
  have hb1' : Below (w.alloc (.cells #[.slice none 0 0, .slice none 0 0] 26)).heap.size (w.alloc (.cells #[.slice none 0 0, .slice none 0 0] 26)) w1 := by rw [hsA]; exact hb1
  have hs1 : w.heap.size + 1 < w1.heap.size := hd1.lt
  have HR1 := Lib.hid (row_below (heap_alloc_new w (.cells #[.slice none 0 0, .slice none 0 0] 26)) hb1')
  have HB1 := Lib.hid (hA.trans (hb1.mono (by omega)))
  have HD1 := Lib.hid hd1
  clear hb1 hb1' hd1 hA hsA
  go_wp2_with fail
  refine (l2Branch_any (w.heap.size + 1) 0 _ HD1.out (by omega)).mono ?_
  rintro e w2 ⟨vt, vb, ts, l, p2, rfl, hit, hst, hts, hsz, hp2, hd2, hg2⟩
  have hs2 := hg2.size
  have hA2 := bel_a w2 (.cells #[vt, vb] 26)
  have hsW : (w2.alloc (.cells #[vt, vb] 26)).heap.size = w2.heap.size + 1 := by simp
  have HR2 := Lib.hid (row_below (row_grown HR1.out hg2 (by omega)) hA2)
  have HRP := Lib.hid (heap_alloc_new w2 (.cells #[vt, vb] 26))
  have HD2 := Lib.hid (hd2.low hA2 (by omega))
  have HB2 := Lib.hid ((grown_new HB1.out (by omega) hg2).trans (hA2.mono (by omega)))
  have HIT := Lib.hid (hit.bel hA2)
  have HST := Lib.hid (hst.bel hA2)
  obtain ⟨At, ct, rfl, -⟩ := hit.slice
  obtain ⟨Ab, cb, rfl, -⟩ := hst.slice
  clear hit hst hd2 hg2 hA2
  go_wp2_with fail
  generalize w2.alloc (.cells #[.slice At ts.length ct, .slice Ab l.length cb] 26) = W2 at *
  refine (l2Choices_any (w.heap.size + 1) p2 _ HD2.out (by omega)).mono ?_
  rintro e w3 ⟨vc, cs, p3, rfl, hci, hcs, hp3, hd3, hg3⟩
  have hs3 := hg3.size
  have HR3 := Lib.hid (row_grown HR2.out hg3 (by omega))
  have HRP3 := Lib.hid (row_grown HRP.out hg3 (by omega))
  have HD3 := Lib.hid hd3
  have HB3 := Lib.hid (grown_new HB2.out (by omega) hg3)
  have HCH3 := Lib.hid hci
  obtain ⟨Ac, cc, rfl, -⟩ := hci.slice
  clear hci hd3 hg3
  have hw2 : w.heap.size < w2.heap.size := by omega
  have q0 : w3.cell? ⟨w2.heap.size, 0, none⟩ = some (.slice At ts.length ct) := by rw [cell_of_row _ _ _ _ _ _ HRP3.out]; rfl
  have q1 : w3.cell? ⟨w2.heap.size, 1, none⟩ = some (.slice Ab l.length cb) := by rw [cell_of_row _ _ _ _ _ _ HRP3.out]; rfl
  go_wp2_with fail
  have CN : Calls Try.prog 70 #[.pointer (some ⟨w.heap.size + 1, 0, none⟩), .slice (some ⟨w3.heap.size, 0, none⟩) 6 6] (w3.alloc (.cells #[.int .i64 100, .int .i64 50, .int .i64 5, .int .i64 0, .int .i64 1001, .int .i64 (-1)] 3)).drew (fun e w' => ∃ x : Int, e = .returned (.int .i64 x) ∧ x ∈ [100, 50, 5, 0, 1001, -1] ∧ Dr w' (w.heap.size + 1) (p3 + 1) ∧ (w3.alloc (.cells #[.int .i64 100, .int .i64 50, .int .i64 5, .int .i64 0, .int .i64 1001, .int .i64 (-1)] 3)).drew.grownBy w' (some (w.heap.size + 1))) :=
    num_any (w.heap.size + 1) _ _ [100, 50, 5, 0, 1001, -1] 3 _ (HD3.out.low ((bel_a w3 (.cells #[.int .i64 100, .int .i64 50, .int .i64 5, .int .i64 0, .int .i64 1001, .int .i64 (-1)] 3)).drew) (by omega)) (by omega) (RowB.new w3 _ _) (by omega) (by simp) (by simp)
  have HCN := Lib.hid CN
  have HWA := Lib.hid (bel_a w3 (.cells #[.int .i64 100, .int .i64 50, .int .i64 5, .int .i64 0, .int .i64 1001, .int .i64 (-1)] 3)).drew
  have HSW := Lib.hid (show (w3.alloc (.cells #[.int .i64 100, .int .i64 50, .int .i64 5, .int .i64 0, .int .i64 1001, .int .i64 (-1)] 3)).drew.heap.size = w3.heap.size + 1 by simp)
  clear CN
  go_region_held3 (fun w' => w'.cell? ⟨w2.heap.size, 0, none⟩ = some (.slice At ts.length ct) ∧ w'.cell? ⟨w2.heap.size, 1, none⟩ = some (.slice Ab l.length cb))
    (first | exact ⟨q0, q1⟩ | exact ⟨q07, q17⟩ | exact Q9.out | assumption | go_keep)
    (first
      | (go_at_call 70; (with_reducible refine HCN.out.mono ?_); (rintro e w7 ⟨x, rfl, -, hd7, hg7⟩); (have hs7 := hg7.size); (rw [HSW.out] at hs7); (have hr7 := row_grown (row_below HR3.out HWA.out) hg7 (by omega)); (have hrp7 := row_grown (row_below HRP3.out HWA.out) hg7 (by omega)); (have q07 : w7.cell? ⟨w2.heap.size, 0, none⟩ = some (.slice At ts.length ct) := by (rw [cell_of_row _ _ _ _ _ _ hrp7]; rfl)); (have q17 : w7.cell? ⟨w2.heap.size, 1, none⟩ = some (.slice Ab l.length cb) := by (rw [cell_of_row _ _ _ _ _ _ hrp7]; rfl)); (have z07 : w7.cell? ⟨w.heap.size, 0, none⟩ = some (.slice none 0 0) := by (rw [cell_of_row _ _ _ _ _ _ hr7]; rfl)); (have z17 : w7.cell? ⟨w.heap.size, 1, none⟩ = some (.slice none 0 0) := by (rw [cell_of_row _ _ _ _ _ _ hr7]; rfl)); (have zf07 := frozen_of_row w7 w.heap.size 0 _ _ hr7); (have zf17 := frozen_of_row w7 w.heap.size 1 _ _ hr7); (have HR9 := Lib.hid hr7); (have HG9 := Lib.hid hg7); (have Q9 := Lib.hid (pl_set (Ne.symm (Nat.ne_of_lt hw2)) q07 q17 (.slice At ts.length ct) (.slice Ab l.length cb))); clear hd7 hg7 hr7 hrp7)
      | fail)
  have HB9 := Lib.hid (grown_new (HB3.out.trans (HWA.out.mono HB3.out.size)) (by omega) HG9.out)
  have HCH9 := Lib.hid (((HCH3.out.bel HWA.out).grown HG9.out (by show ¬ (W2.heap.size ≤ w.heap.size + 1); omega)))
  go_wp2_with fail
  refine bodyPost_ret (res_box2 (u := 3) (u2 := 4) rfl _ _ w.heap.size 26 _ (0, 0) _ rfl (box2 HR9.out (.slice At ts.length ct) (.slice Ab l.length cb)).1 Try.underlying26 rfl rfl) rfl ?_
  exact (rp_close (x := x) HB9.out (box2 HR9.out (.slice At ts.length ct) (.slice Ab l.length cb)).2 HCH9.out (by omega) hcs)

theorem l4Place_any (A : Option Addr) (n c : Nat) (w : World) (hb : Byt w w.heap.size A n) (hn : n ≤ 1048576) (hc : n ≤ c) :
    Calls Try.prog 92 #[.slice A n c] w (PlRet w) := by
  have HB := Lib.hid hb
  clear hb
  go_enter Try.func92, Try.ntmps92
  go_wp2_with fail
  have hA := bel_a w (.cells #[.slice none 0 0, .slice none 0 0] 26)
  have hsA : (w.alloc (.cells #[.slice none 0 0, .slice none 0 0] 26)).heap.size = w.heap.size + 1 := by simp
  refine (l17Open_any A n c _ (by rw [hsA]; exact (HB.out.keep fun b o hb => hA.cell (p := ⟨b, o, none⟩) hb).more (by omega)) hn hc).mono ?_
  rw [hsA]
  rintro e w1 ⟨rfl, hd1, hb1⟩
  have hb1' : Below (w.alloc (.cells #[.slice none 0 0, .slice none 0 0] 26)).heap.size (w.alloc (.cells #[.slice none 0 0, .slice none 0 0] 26)) w1 := by rw [hsA]; exact hb1
  have hs1 : w.heap.size + 1 < w1.heap.size := hd1.lt
  have HR1 := Lib.hid (row_below (heap_alloc_new w (.cells #[.slice none 0 0, .slice none 0 0] 26)) hb1')
  have HB1 := Lib.hid (hA.trans (hb1.mono (by omega)))
  have HD1 := Lib.hid hd1
  clear hb1 hb1' hd1 hA hsA
  go_wp2_with fail
  refine (l1Draw_any (w.heap.size + 1) 0 _ HD1.out (by omega)).mono ?_
  rintro e wd ⟨vt0, vb0, ts0, l0, p0, rfl, hit0, hst0, hts0, hsz0, hp0, hd0, hg0⟩
  have hs0 := hg0.size
  have HD0 := Lib.hid hd0
  have HG0 := Lib.hid hg0
  have HIT0 := Lib.hid hit0
  have HST0 := Lib.hid hst0
  clear hit0 hst0 hd0 hg0
  go_wp2_with fail
  refine (mutate_any (w.heap.size + 1) p0 _ _ ts0 l0 _ _ HIT0.out.toS HST0.out.toS (Nat.le_refl _) hts0 hsz0 HD0.out (by omega)).mono ?_
  rintro e w2 ⟨vt, vb, ts, l, p2, rfl, hit', hst', hts, hsz, hp2, hd2, hg2'⟩
  have hg2 := grown_tr HG0.out hg2'
  have hit := hit'.frame (P' := fun b => w1.heap.size ≤ b) (Nat.le_refl _) fun b hb _ => ⟨by have hb' : wd.heap.size ≤ b := hb; show w1.heap.size ≤ b; omega, rfl⟩
  have hst := hst'.frame (P' := fun b => w1.heap.size ≤ b) (Nat.le_refl _) fun b hb _ => ⟨by have hb' : wd.heap.size ≤ b := hb; show w1.heap.size ≤ b; omega, rfl⟩
  clear hit' hst' hg2'
  have hs2 := hg2.size
  have hA2 := bel_a w2 (.cells #[vt, vb] 26)
  have hsW : (w2.alloc (.cells #[vt, vb] 26)).heap.size = w2.heap.size + 1 := by simp
  have HR2 := Lib.hid (row_below (row_grown HR1.out hg2 (by omega)) hA2)
  have HRP := Lib.hid (heap_alloc_new w2 (.cells #[vt, vb] 26))
  have HD2 := Lib.hid (hd2.low hA2 (by omega))
  have HB2 := Lib.hid ((grown_new HB1.out (by omega) hg2).trans (hA2.mono (by omega)))
  have HIT := Lib.hid (hit.bel hA2)
  have HST := Lib.hid (hst.bel hA2)
  obtain ⟨At, ct, rfl, -⟩ := hit.slice
  obtain ⟨Ab, cb, rfl, -⟩ := hst.slice
  clear hit hst hd2 hg2 hA2
  go_wp2_with fail
  generalize w2.alloc (.cells #[.slice At ts.length ct, .slice Ab l.length cb] 26) = W2 at *
  refine (sPointsOf_any _ _ ts l _ _ HIT.out.toS HST.out.toS (Nat.le_refl _) (by omega)).mono ?_
  rintro e w3 ⟨vp, rfl, hps, hb3⟩
  obtain ⟨Ap, cp, rfl, hcp, hpl⟩ := hps.slice
  have hs3 := hb3.size
  have HR3 := Lib.hid (row_below HR2.out hb3)
  have HRP3 := Lib.hid (row_below HRP.out hb3)
  have HD3 := Lib.hid (HD2.out.low hb3 (by omega))
  have HB3 := Lib.hid (HB2.out.trans (hb3.mono (by omega)))
  have HIT3 := Lib.hid (HIT.out.bel hb3)
  have HST3 := Lib.hid (HST.out.bel hb3)
  obtain ⟨np, hnp⟩ : ∃ np, np = (pointsP ts l).length := ⟨_, rfl⟩
  rw [← hnp] at hcp hpl ⊢
  have hnp61 : np ≤ 61 := by
    rw [hnp]; unfold pointsP
    split
    · rename_i hv; exact ptsP_le hv
    · simp
  clear hps hb3 hnp
  have hw2 : w.heap.size < w2.heap.size := by omega
  have q0 : w3.cell? ⟨w2.heap.size, 0, none⟩ = some (.slice At ts.length ct) := by rw [cell_of_row _ _ _ _ _ _ HRP3.out]; rfl
  have q1 : w3.cell? ⟨w2.heap.size, 1, none⟩ = some (.slice Ab l.length cb) := by rw [cell_of_row _ _ _ _ _ _ HRP3.out]; rfl
  by_cases hz : np = 0
  · have hz1 : ((np : Int) == 0) = true := by simp [hz]
    clear hz
    go_wp2_with fail
    have CN : Calls Try.prog 70 #[.pointer (some ⟨w.heap.size + 1, 0, none⟩), .slice (some ⟨w3.heap.size, 0, none⟩) 3 3] (w3.alloc (.cells #[.int .i64 (-1), .int .i64 60, .int .i64 0] 3)).drew (fun e w' => ∃ x : Int, e = .returned (.int .i64 x) ∧ x ∈ [-1, 60, 0] ∧ Dr w' (w.heap.size + 1) (p2 + 1) ∧ (w3.alloc (.cells #[.int .i64 (-1), .int .i64 60, .int .i64 0] 3)).drew.grownBy w' (some (w.heap.size + 1))) :=
      num_any (w.heap.size + 1) _ _ [-1, 60, 0] 3 _ (HD3.out.low ((bel_a w3 (.cells #[.int .i64 (-1), .int .i64 60, .int .i64 0] 3)).drew) (by omega)) (by omega) (RowB.new w3 _ _) (by omega) (by simp) (by simp)
    have HCN := Lib.hid CN
    have HWA := Lib.hid (bel_a w3 (.cells #[.int .i64 (-1), .int .i64 60, .int .i64 0] 3)).drew
    have HSW := Lib.hid (show (w3.alloc (.cells #[.int .i64 (-1), .int .i64 60, .int .i64 0] 3)).drew.heap.size = w3.heap.size + 1 by simp)
    clear CN
    go_region_held3 (fun w' => w'.cell? ⟨w2.heap.size, 0, none⟩ = some (.slice At ts.length ct) ∧ w'.cell? ⟨w2.heap.size, 1, none⟩ = some (.slice Ab l.length cb))
      (first | exact ⟨q0, q1⟩ | exact ⟨q07, q17⟩ | exact Q9.out | assumption | go_keep)
      (first
        | (go_at_call 70; (with_reducible refine HCN.out.mono ?_); (rintro e w7 ⟨x, rfl, hx, hd7, hg7⟩); (have hs7 := hg7.size); (rw [HSW.out] at hs7); (have hr7 := row_grown (row_below HR3.out HWA.out) hg7 (by omega)); (have hrp7 := row_grown (row_below HRP3.out HWA.out) hg7 (by omega)); (have q07 : w7.cell? ⟨w2.heap.size, 0, none⟩ = some (.slice At ts.length ct) := by (rw [cell_of_row _ _ _ _ _ _ hrp7]; rfl)); (have q17 : w7.cell? ⟨w2.heap.size, 1, none⟩ = some (.slice Ab l.length cb) := by (rw [cell_of_row _ _ _ _ _ _ hrp7]; rfl)); (have z07 : w7.cell? ⟨w.heap.size, 0, none⟩ = some (.slice none 0 0) := by (rw [cell_of_row _ _ _ _ _ _ hr7]; rfl)); (have z17 : w7.cell? ⟨w.heap.size, 1, none⟩ = some (.slice none 0 0) := by (rw [cell_of_row _ _ _ _ _ _ hr7]; rfl)); (have zf07 := frozen_of_row w7 w.heap.size 0 _ _ hr7); (have zf17 := frozen_of_row w7 w.heap.size 1 _ _ hr7); (have HR9 := Lib.hid hr7); (have HG9 := Lib.hid hg7); (have Q9 := Lib.hid (pl_set (Ne.symm (Nat.ne_of_lt hw2)) q07 q17 (.slice At ts.length ct) (.slice Ab l.length cb))); clear hx hd7 hg7 hr7 hrp7)
        | fail)
    have HB9 := Lib.hid (grown_new (HB3.out.trans (HWA.out.mono HB3.out.size)) (by omega) HG9.out)
    have HIT9 := Lib.hid (((HIT3.out.bel HWA.out).grown HG9.out (by show ¬ (w1.heap.size ≤ w.heap.size + 1); omega)))
    have HST9 := Lib.hid (((HST3.out.bel HWA.out).grown HG9.out (by show ¬ (w1.heap.size ≤ w.heap.size + 1); omega)))
    go_wp2_with fail
    refine bodyPost_ret (res_box (u := 3) rfl _ _ w.heap.size 26 _ (0, 0) _ rfl (box2 HR9.out _ _).1 Try.underlying26 rfl rfl) rfl ?_
    exact (pl_close (a := x) HB9.out (box2 HR9.out _ _).2 HIT9.out HST9.out (by omega) hts hsz)

  · have hz1 : ((np : Int) == 0) = false := by simpa using hz
    have hz2 : 0 < np := by omega
    clear hz
    go_wp2_with fail
    refine (pick_any (w.heap.size + 1) p2 _ _ HD3.out (by omega) (by omega) (by omega)).mono ?_
    rintro e w4 ⟨k, rfl, -, -, hd4, hg4⟩
    have hs4 := hg4.size
    have HR4 := Lib.hid (row_grown HR3.out hg4 (by omega))
    have HRP4 := Lib.hid (row_grown HRP3.out hg4 (by omega))
    have HD4 := Lib.hid hd4
    have HB4 := Lib.hid (grown_new HB3.out (by omega) hg4)
    have HIT4 := Lib.hid (HIT3.out.grown hg4 (by show ¬ (w1.heap.size ≤ w.heap.size + 1); omega))
    have HST4 := Lib.hid (HST3.out.grown hg4 (by show ¬ (w1.heap.size ≤ w.heap.size + 1); omega))
    clear hd4 hg4 q0 q1
    have q0 : w4.cell? ⟨w2.heap.size, 0, none⟩ = some (.slice At ts.length ct) := by rw [cell_of_row _ _ _ _ _ _ HRP4.out]; rfl
    have q1 : w4.cell? ⟨w2.heap.size, 1, none⟩ = some (.slice Ab l.length cb) := by rw [cell_of_row _ _ _ _ _ _ HRP4.out]; rfl
    by_cases hk : k = 0
    · subst hk
      go_wp2_with fail
      have CN : Calls Try.prog 70 #[.pointer (some ⟨w.heap.size + 1, 0, none⟩), .slice (some ⟨w4.heap.size, 0, none⟩) 3 3] (w4.alloc (.cells #[.int .i64 (-1), .int .i64 60, .int .i64 0] 3)).drew (fun e w' => ∃ x : Int, e = .returned (.int .i64 x) ∧ x ∈ [-1, 60, 0] ∧ Dr w' (w.heap.size + 1) ((p2 + 1) + 1) ∧ (w4.alloc (.cells #[.int .i64 (-1), .int .i64 60, .int .i64 0] 3)).drew.grownBy w' (some (w.heap.size + 1))) :=
        num_any (w.heap.size + 1) _ _ [-1, 60, 0] 3 _ (HD4.out.low ((bel_a w4 (.cells #[.int .i64 (-1), .int .i64 60, .int .i64 0] 3)).drew) (by omega)) (by omega) (RowB.new w4 _ _) (by omega) (by simp) (by simp)
      have HCN := Lib.hid CN
      have HWA := Lib.hid (bel_a w4 (.cells #[.int .i64 (-1), .int .i64 60, .int .i64 0] 3)).drew
      have HSW := Lib.hid (show (w4.alloc (.cells #[.int .i64 (-1), .int .i64 60, .int .i64 0] 3)).drew.heap.size = w4.heap.size + 1 by simp)
      clear CN
      go_region_held3 (fun w' => w'.cell? ⟨w2.heap.size, 0, none⟩ = some (.slice At ts.length ct) ∧ w'.cell? ⟨w2.heap.size, 1, none⟩ = some (.slice Ab l.length cb))
        (first | exact ⟨q0, q1⟩ | exact ⟨q07, q17⟩ | exact Q9.out | assumption | go_keep)
        (first
          | (go_at_call 70; (with_reducible refine HCN.out.mono ?_); (rintro e w7 ⟨x, rfl, hx, hd7, hg7⟩); (have hs7 := hg7.size); (rw [HSW.out] at hs7); (have hr7 := row_grown (row_below HR4.out HWA.out) hg7 (by omega)); (have hrp7 := row_grown (row_below HRP4.out HWA.out) hg7 (by omega)); (have q07 : w7.cell? ⟨w2.heap.size, 0, none⟩ = some (.slice At ts.length ct) := by (rw [cell_of_row _ _ _ _ _ _ hrp7]; rfl)); (have q17 : w7.cell? ⟨w2.heap.size, 1, none⟩ = some (.slice Ab l.length cb) := by (rw [cell_of_row _ _ _ _ _ _ hrp7]; rfl)); (have z07 : w7.cell? ⟨w.heap.size, 0, none⟩ = some (.slice none 0 0) := by (rw [cell_of_row _ _ _ _ _ _ hr7]; rfl)); (have z17 : w7.cell? ⟨w.heap.size, 1, none⟩ = some (.slice none 0 0) := by (rw [cell_of_row _ _ _ _ _ _ hr7]; rfl)); (have zf07 := frozen_of_row w7 w.heap.size 0 _ _ hr7); (have zf17 := frozen_of_row w7 w.heap.size 1 _ _ hr7); (have HR9 := Lib.hid hr7); (have HG9 := Lib.hid hg7); (have Q9 := Lib.hid (pl_set (Ne.symm (Nat.ne_of_lt hw2)) q07 q17 (.slice At ts.length ct) (.slice Ab l.length cb))); clear hx hd7 hg7 hr7 hrp7)
          | fail)
      have HB9 := Lib.hid (grown_new (HB4.out.trans (HWA.out.mono HB4.out.size)) (by omega) HG9.out)
      have HIT9 := Lib.hid (((HIT4.out.bel HWA.out).grown HG9.out (by show ¬ (w1.heap.size ≤ w.heap.size + 1); omega)))
      have HST9 := Lib.hid (((HST4.out.bel HWA.out).grown HG9.out (by show ¬ (w1.heap.size ≤ w.heap.size + 1); omega)))
      go_wp2_with fail
      refine bodyPost_ret (res_box (u := 3) rfl _ _ w.heap.size 26 _ (0, 0) _ rfl (box2 HR9.out _ _).1 Try.underlying26 rfl rfl) rfl ?_
      exact (pl_close (a := x) HB9.out (box2 HR9.out _ _).2 HIT9.out HST9.out (by omega) hts hsz)

    · have hk1 : (k == 0) = false := by simpa using hk
      clear hk
      go_wp2_with fail
      have HCN := Lib.hid (pick_any (w.heap.size + 1) (p2 + 1) ((np : Nat) : Int) w4.drew (HD4.out.low (Below.refl _ _).drew (by omega)) (by omega) (by omega) (by omega))
      have HWA := Lib.hid ((Below.refl w4.heap.size w4).drew)
      have HSW := Lib.hid (show w4.drew.heap.size = w4.heap.size by simp)
      go_region_held3 (fun w' => w'.cell? ⟨w2.heap.size, 0, none⟩ = some (.slice At ts.length ct) ∧ w'.cell? ⟨w2.heap.size, 1, none⟩ = some (.slice Ab l.length cb))
        (first | exact ⟨q0, q1⟩ | exact ⟨q07, q17⟩ | exact Q9.out | assumption | go_keep)
        (first
          | (go_at_call 56; (with_reducible refine HCN.out.mono ?_); (rintro e w7 ⟨x, rfl, -, -, hd7, hg7⟩); (have hs7 := hg7.size); (rw [HSW.out] at hs7); (have hr7 := row_grown (row_below HR4.out HWA.out) hg7 (by omega)); (have hrp7 := row_grown (row_below HRP4.out HWA.out) hg7 (by omega)); (have q07 : w7.cell? ⟨w2.heap.size, 0, none⟩ = some (.slice At ts.length ct) := by (rw [cell_of_row _ _ _ _ _ _ hrp7]; rfl)); (have q17 : w7.cell? ⟨w2.heap.size, 1, none⟩ = some (.slice Ab l.length cb) := by (rw [cell_of_row _ _ _ _ _ _ hrp7]; rfl)); (have z07 : w7.cell? ⟨w.heap.size, 0, none⟩ = some (.slice none 0 0) := by (rw [cell_of_row _ _ _ _ _ _ hr7]; rfl)); (have z17 : w7.cell? ⟨w.heap.size, 1, none⟩ = some (.slice none 0 0) := by (rw [cell_of_row _ _ _ _ _ _ hr7]; rfl)); (have zf07 := frozen_of_row w7 w.heap.size 0 _ _ hr7); (have zf17 := frozen_of_row w7 w.heap.size 1 _ _ hr7); (have HR9 := Lib.hid hr7); (have HG9 := Lib.hid hg7); (have Q9 := Lib.hid (pl_set (Ne.symm (Nat.ne_of_lt hw2)) q07 q17 (.slice At ts.length ct) (.slice Ab l.length cb))); clear hd7 hg7 hr7 hrp7)
          | fail)
      have HB9 := Lib.hid (grown_new (HB4.out.trans (HWA.out.mono HB4.out.size)) (by omega) HG9.out)
      have HIT9 := Lib.hid (((HIT4.out.bel HWA.out).grown HG9.out (by show ¬ (w1.heap.size ≤ w.heap.size + 1); omega)))
      have HST9 := Lib.hid (((HST4.out.bel HWA.out).grown HG9.out (by show ¬ (w1.heap.size ≤ w.heap.size + 1); omega)))
      go_wp2_with fail
      refine bodyPost_ret (res_box (u := 3) rfl _ _ w.heap.size 26 _ (0, 0) _ rfl (box2 HR9.out _ _).1 Try.underlying26 rfl rfl) rfl ?_
      exact (pl_close (a := x) HB9.out (box2 HR9.out _ _).2 HIT9.out HST9.out (by omega) hts hsz)




end Go.Proofs.Ytmaaaiccmllnlaa

/- the draws of placed and live loans, and of the loans in a variable. -/
namespace Go.Proofs.Ytmaaaiccmllnlaa
open Go.RowKit

set_option maxHeartbeats 4000000 in
set_option maxRecDepth 100000 in
theorem drawPlacedLoans_any (A : Option Addr) (n c : Nat) (w : World) (hb : Byt w w.heap.size A n) (hn : n ≤ 1048576) (hc : n ≤ c) :
    Calls Try.prog 43 #[.slice A n c] w (PlRet w) := by
  have HB := Lib.hid hb
  clear hb
  go_enter Try.func43, Try.ntmps43
  go_wp2_with fail
  have hA := bel_a w (.cells #[.slice none 0 0, .slice none 0 0] 26)
  have hsA : (w.alloc (.cells #[.slice none 0 0, .slice none 0 0] 26)).heap.size = w.heap.size + 1 := by simp
  refine (l4Place_any A n c _ (by rw [hsA]; exact (HB.out.keep fun b o hb => hA.cell (p := ⟨b, o, none⟩) hb).more (by omega)) hn hc).mono ?_
  rintro e w1 ⟨vt, vb, ts, l, a, rfl, hit, hst, hts, hsz, hb1⟩
  rw [hsA] at hit hst
  have HR1 := Lib.hid (row_below (heap_alloc_new w (.cells #[.slice none 0 0, .slice none 0 0] 26)) hb1)
  have HB1 := Lib.hid (hA.trans (hb1.mono (by omega)))
  have hs1 : w.heap.size + 1 ≤ w1.heap.size := by rw [← hsA]; exact hb1.size
  have HIT := Lib.hid hit
  have HST := Lib.hid hst
  obtain ⟨At, ct, rfl, -⟩ := hit.slice
  obtain ⟨Ab, cb, rfl, -⟩ := hst.slice
  clear hb1 hA hsA hit hst
  have z0 : w1.cell? ⟨w.heap.size, 0, none⟩ = some (.slice none 0 0) := by rw [cell_of_row _ _ _ _ _ _ HR1.out]; rfl
  have z1 : w1.cell? ⟨w.heap.size, 1, none⟩ = some (.slice none 0 0) := by rw [cell_of_row _ _ _ _ _ _ HR1.out]; rfl
  have zf0 := frozen_of_row w1 w.heap.size 0 _ _ HR1.out
  have zf1 := frozen_of_row w1 w.heap.size 1 _ _ HR1.out
  go_wp2_with fail
  refine bodyPost_ret (res_box (u := 3) rfl _ _ w.heap.size 26 _ (0, 0) _ rfl (box2 HR1.out _ _).1 Try.underlying26 rfl rfl) rfl ?_
  have HE := DsE.mk' HB1.out (box2 HR1.out (.slice At ts.length ct) (.slice Ab l.length cb)).2 HIT.out HST.out (by omega)
  exact ⟨_, _, ts, l, a, rfl, HE.ht, HE.hl, hts, hsz, HE.bel⟩

set_option maxHeartbeats 4000000 in
set_option maxRecDepth 100000 in
theorem drawLiveLoans_any (A : Option Addr) (n c : Nat) (w : World) (hb : Byt w w.heap.size A n) (hn : n ≤ 1048576) (hc : n ≤ c) :
    Calls Try.prog 46 #[.slice A n c] w (PlRet w) := by
  have HB := Lib.hid hb
  clear hb
  go_enter Try.func46, Try.ntmps46
  go_wp2_with fail
  have hA := bel_a w (.cells #[.slice none 0 0, .slice none 0 0] 26)
  have hsA : (w.alloc (.cells #[.slice none 0 0, .slice none 0 0] 26)).heap.size = w.heap.size + 1 := by simp
  refine (l4Place_any A n c _ (by rw [hsA]; exact (HB.out.keep fun b o hb => hA.cell (p := ⟨b, o, none⟩) hb).more (by omega)) hn hc).mono ?_
  rintro e w1 ⟨vt, vb, ts, l, a, rfl, hit, hst, hts, hsz, hb1⟩
  rw [hsA] at hit hst
  have HR1 := Lib.hid (row_below (heap_alloc_new w (.cells #[.slice none 0 0, .slice none 0 0] 26)) hb1)
  have HB1 := Lib.hid (hA.trans (hb1.mono (by omega)))
  have hs1 : w.heap.size + 1 ≤ w1.heap.size := by rw [← hsA]; exact hb1.size
  have HIT := Lib.hid hit
  have HST := Lib.hid hst
  obtain ⟨At, ct, rfl, -⟩ := hit.slice
  obtain ⟨Ab, cb, rfl, -⟩ := hst.slice
  clear hb1 hA hsA hit hst
  have z0 : w1.cell? ⟨w.heap.size, 0, none⟩ = some (.slice none 0 0) := by rw [cell_of_row _ _ _ _ _ _ HR1.out]; rfl
  have z1 : w1.cell? ⟨w.heap.size, 1, none⟩ = some (.slice none 0 0) := by rw [cell_of_row _ _ _ _ _ _ HR1.out]; rfl
  have zf0 := frozen_of_row w1 w.heap.size 0 _ _ HR1.out
  have zf1 := frozen_of_row w1 w.heap.size 1 _ _ HR1.out
  go_wp2_with fail
  refine bodyPost_ret (res_box (u := 3) rfl _ _ w.heap.size 26 _ (0, 0) _ rfl (box2 HR1.out _ _).1 Try.underlying26 rfl rfl) rfl ?_
  have HE := DsE.mk' HB1.out (box2 HR1.out (.slice At ts.length ct) (.slice Ab l.length cb)).2 HIT.out HST.out (by omega)
  exact ⟨_, _, ts, l, a, rfl, HE.ht, HE.hl, hts, hsz, HE.bel⟩

set_option maxHeartbeats 4000000 in
set_option maxRecDepth 100000 in
theorem drawLoansIn_any (A : Option Addr) (n c : Nat) (w : World) (hb : Byt w w.heap.size A n) (hn : n ≤ 1048576) (hc : n ≤ c) :
    Calls Try.prog 39 #[.slice A n c] w (D2Ret w) := by
  have HB := Lib.hid hb
  clear hb
  go_enter Try.func39, Try.ntmps39
  go_wp2_with fail
  have hA := bel_a w (.cells #[.slice none 0 0, .slice none 0 0] 26)
  have hsA : (w.alloc (.cells #[.slice none 0 0, .slice none 0 0] 26)).heap.size = w.heap.size + 1 := by simp
  refine (l3Place_any A n c _ (by rw [hsA]; exact (HB.out.keep fun b o hb => hA.cell (p := ⟨b, o, none⟩) hb).more (by omega)) hn hc).mono ?_
  rintro e w1 ⟨vt, vb, ts, l, a, rfl, hit, hst, hts, hsz, hb1⟩
  rw [hsA] at hit hst
  have HR1 := Lib.hid (row_below (heap_alloc_new w (.cells #[.slice none 0 0, .slice none 0 0] 26)) hb1)
  have HB1 := Lib.hid (hA.trans (hb1.mono (by omega)))
  have hs1 : w.heap.size + 1 ≤ w1.heap.size := by rw [← hsA]; exact hb1.size
  have hb1' := HB1.out
  have hA2 := bel_a w1 (.cells #[vt, vb] 26)
  have hsW : (w1.alloc (.cells #[vt, vb] 26)).heap.size = w1.heap.size + 1 := by simp
  have HR2 := Lib.hid (row_below HR1.out hA2)
  have HRP := Lib.hid (heap_alloc_new w1 (.cells #[vt, vb] 26))
  have HB2 := Lib.hid (hb1'.trans (hA2.mono (by omega)))
  have HIT := Lib.hid (hit.bel hA2)
  have HST := Lib.hid (hst.bel hA2)
  obtain ⟨At, ct, rfl, -⟩ := hit.slice
  obtain ⟨Ab, cb, rfl, -⟩ := hst.slice
  clear hb1 hb1' hA hsA hit hst hA2
  go_wp2_with fail
  generalize w1.alloc (.cells #[.slice At ts.length ct, .slice Ab l.length cb] 26) = W2 at *
  have hs1' : w.heap.size < w1.heap.size := by omega
  have c0 : W2.cell? ⟨w1.heap.size, 0, none⟩ = some (.slice At ts.length ct) := by rw [cell_of_row _ _ _ _ _ _ HRP.out]; rfl
  have c1 : W2.cell? ⟨w1.heap.size, 1, none⟩ = some (.slice Ab l.length cb) := by rw [cell_of_row _ _ _ _ _ _ HRP.out]; rfl
  have HBA := Lib.hid (HB.out.keep (w' := W2) fun b o hb => HB2.out.cell (p := ⟨b, o, none⟩) hb)
  have hsW' := hsW
  refine (l17Open_any A n c _ (HBA.out.more (by omega)) hn hc).mono ?_
  rintro e w3 ⟨rfl, hd3, hb3⟩
  rw [hsW'] at hd3 ⊢
  have hs3 := hb3.size
  have HR3 := Lib.hid (row_below HR2.out hb3)
  have HRP3 := Lib.hid (row_below HRP.out hb3)
  have HD3 := Lib.hid hd3
  have hlt3 := hd3.lt
  have HB3 := Lib.hid (HB2.out.trans (hb3.mono (by omega)))
  have HBL := Lib.hid hb3
  clear hd3 hb3 c0 c1
  have q0 : w3.cell? ⟨w1.heap.size, 0, none⟩ = some (.slice At ts.length ct) := by rw [cell_of_row _ _ _ _ _ _ HRP3.out]; rfl
  have q1 : w3.cell? ⟨w1.heap.size, 1, none⟩ = some (.slice Ab l.length cb) := by rw [cell_of_row _ _ _ _ _ _ HRP3.out]; rfl
  go_wp2_with fail
  have CN : Calls Try.prog 70 #[.pointer (some ⟨(w1.heap.size + 1), 0, none⟩), .slice (some ⟨w3.heap.size, 0, none⟩) 8 8] (w3.alloc (.cells #[.int .i64 2, .int .i64 3, .int .i64 1, .int .i64 4, .int .i64 5, .int .i64 0, .int .i64 (-1), .int .i64 9] 3)).drew (fun e w' => ∃ x : Int, e = .returned (.int .i64 x) ∧ x ∈ [2, 3, 1, 4, 5, 0, -1, 9] ∧ Dr w' (w1.heap.size + 1) (0 + 1) ∧ (w3.alloc (.cells #[.int .i64 2, .int .i64 3, .int .i64 1, .int .i64 4, .int .i64 5, .int .i64 0, .int .i64 (-1), .int .i64 9] 3)).drew.grownBy w' (some (w1.heap.size + 1))) :=
    num_any (w1.heap.size + 1) _ _ [2, 3, 1, 4, 5, 0, -1, 9] 3 _ (HD3.out.low ((bel_a w3 (.cells #[.int .i64 2, .int .i64 3, .int .i64 1, .int .i64 4, .int .i64 5, .int .i64 0, .int .i64 (-1), .int .i64 9] 3)).drew) (by omega)) (by omega) (RowB.new w3 _ _) (by omega) (by simp) (by simp)
  have HCN := Lib.hid CN
  have HWA := Lib.hid (bel_a w3 (.cells #[.int .i64 2, .int .i64 3, .int .i64 1, .int .i64 4, .int .i64 5, .int .i64 0, .int .i64 (-1), .int .i64 9] 3)).drew
  have HSW := Lib.hid (show (w3.alloc (.cells #[.int .i64 2, .int .i64 3, .int .i64 1, .int .i64 4, .int .i64 5, .int .i64 0, .int .i64 (-1), .int .i64 9] 3)).drew.heap.size = w3.heap.size + 1 by simp)
  clear CN
  go_region_held3 (fun w' => w'.cell? ⟨w1.heap.size, 0, none⟩ = some (.slice At ts.length ct) ∧ w'.cell? ⟨w1.heap.size, 1, none⟩ = some (.slice Ab l.length cb))
    (first | exact ⟨q0, q1⟩ | exact ⟨q07, q17⟩ | exact Q9.out | assumption | go_keep)
    (first
      | (go_at_call 70; (with_reducible refine HCN.out.mono ?_); (rintro e w7 ⟨x, rfl, -, hd7, hg7⟩); (have hs7 := hg7.size); (rw [HSW.out] at hs7); (have hr7 := row_grown (row_below HR3.out HWA.out) hg7 (by omega)); (have hrp7 := row_grown (row_below HRP3.out HWA.out) hg7 (by omega)); (have q07 : w7.cell? ⟨w1.heap.size, 0, none⟩ = some (.slice At ts.length ct) := by (rw [cell_of_row _ _ _ _ _ _ hrp7]; rfl)); (have q17 : w7.cell? ⟨w1.heap.size, 1, none⟩ = some (.slice Ab l.length cb) := by (rw [cell_of_row _ _ _ _ _ _ hrp7]; rfl)); (have z07 : w7.cell? ⟨w.heap.size, 0, none⟩ = some (.slice none 0 0) := by (rw [cell_of_row _ _ _ _ _ _ hr7]; rfl)); (have z17 : w7.cell? ⟨w.heap.size, 1, none⟩ = some (.slice none 0 0) := by (rw [cell_of_row _ _ _ _ _ _ hr7]; rfl)); (have zf07 := frozen_of_row w7 w.heap.size 0 _ _ hr7); (have zf17 := frozen_of_row w7 w.heap.size 1 _ _ hr7); (have HR9 := Lib.hid hr7); (have HG9 := Lib.hid hg7); (have Q9 := Lib.hid (pl_set (Ne.symm (Nat.ne_of_lt hs1')) q07 q17 (.slice At ts.length ct) (.slice Ab l.length cb))); clear hd7 hg7 hr7 hrp7)
      | fail)
  have HB9 := Lib.hid (grown_new (HB3.out.trans (HWA.out.mono HB3.out.size)) (by omega) HG9.out)
  have HBL9 := Lib.hid (grown_new (HBL.out.trans (HWA.out.mono HBL.out.size)) (by omega) HG9.out)
  have HIT9 := Lib.hid (HIT.out.bel HBL9.out)
  have HST9 := Lib.hid (HST.out.bel HBL9.out)
  go_wp2_with fail
  refine bodyPost_ret (res_box2 (u := 3) (u2 := 4) rfl _ _ w.heap.size 26 _ (0, 0) _ rfl (box2 HR9.out _ _).1 Try.underlying26 rfl rfl) rfl ?_
  have HE := DsE.mk' HB9.out (box2 HR9.out (.slice At ts.length ct) (.slice Ab l.length cb)).2 HIT9.out HST9.out (by omega)
  exact ⟨_, _, ts, l, a, x, rfl, HE.ht, HE.hl, hts, hsz, HE.bel⟩

end Go.Proofs.Ytmaaaiccmllnlaa

/- Plain: every point is reached from point 0. No program in sight. -/
namespace Go.Proofs.Ytmaaaiccmllnlaa

/-- point k is reached from point 0 -/
inductive Rch (pts : List Pt) : Nat → Prop
  | start : Rch pts 0
  | step {i k : Nat} {p : Pt} (h : Rch pts i) (hp : pts[i]? = some p) (hk : k ∈ p.next) : Rch pts k
def Emb (pts : List Pt) (at_ : Nat) (L : List Pt) : Prop := ∀ j p, L[j]? = some p → pts[at_ + j]? = some p
theorem Emb.head {pts : List Pt} {at_ : Nat} {p : Pt} {L : List Pt} (h : Emb pts at_ (p :: L)) : pts[at_]? = some p := h 0 p rfl
theorem Emb.tail {pts : List Pt} {at_ : Nat} {p : Pt} {L : List Pt} (h : Emb pts at_ (p :: L)) : Emb pts (at_ + 1) L := fun j q hj => by
  have := h (j + 1) q (by simpa using hj)
  rwa [show at_ + 1 + j = at_ + (j + 1) by omega]
theorem Emb.left {pts : List Pt} {at_ : Nat} {A B : List Pt} (h : Emb pts at_ (A ++ B)) : Emb pts at_ A := fun j q hj => h j q (by
  have hlt : j < A.length := (List.getElem?_eq_some_iff.1 hj).1
  rw [List.getElem?_append_left hlt]; exact hj)
theorem Emb.right {pts : List Pt} {at_ : Nat} {A B : List Pt} (h : Emb pts at_ (A ++ B)) : Emb pts (at_ + A.length) B := fun j q hj => by
  have := h (A.length + j) q (by rw [List.getElem?_append_right (by omega)]; simpa using hj)
  rwa [show at_ + A.length + j = at_ + (A.length + j) by omega]
mutual
theorem ptsSt_rch (pts : List Pt) (at_ : Nat) : ∀ s : St, Emb pts at_ (ptsSt at_ s) → Rch pts at_ → (∀ j, j < (ptsSt at_ s).length → Rch pts (at_ + j)) ∧ Rch pts (at_ + (ptsSt at_ s).length)
  | .mk op x y n th el => by
    have h1 := ptsL_rch pts (at_ + 1) th
    have h2 := ptsL_rch pts (at_ + 1 + (ptsL (at_ + 1) th).length + 1) el
    simp only [ptsSt]
    split
    · intro hE hR
      have hT := hE.tail
      obtain ⟨a1, a2⟩ := h1 hT.left (.step hR hE.head (by simp))
      have hJ := hT.right
      obtain ⟨b1, b2⟩ := h2 hJ.tail (.step hR hE.head (by simp))
      have hlen : ((⟨9, 0, 0, 0, [at_ + 1, at_ + 1 + (ptsL (at_ + 1) th).length + 1]⟩ : Pt) :: (ptsL (at_ + 1) th ++ ⟨10, 0, 0, 1, [at_ + 1 + (ptsL (at_ + 1) th).length + 1 + (ptsL (at_ + 1 + (ptsL (at_ + 1) th).length + 1) el).length]⟩ :: ptsL (at_ + 1 + (ptsL (at_ + 1) th).length + 1) el)).length = 1 + (ptsL (at_ + 1) th).length + 1 + (ptsL (at_ + 1 + (ptsL (at_ + 1) th).length + 1) el).length := by simp; omega
      rw [hlen]
      refine ⟨fun j hj => ?_, by rw [show at_ + (1 + (ptsL (at_ + 1) th).length + 1 + (ptsL (at_ + 1 + (ptsL (at_ + 1) th).length + 1) el).length) = at_ + 1 + (ptsL (at_ + 1) th).length + 1 + (ptsL (at_ + 1 + (ptsL (at_ + 1) th).length + 1) el).length by omega]; exact b2⟩
      rcases Nat.lt_or_ge j 1 with h | h
      · have : j = 0 := by omega
        subst this; exact hR
      · rcases Nat.lt_or_ge (j - 1) (ptsL (at_ + 1) th).length with h' | h'
        · have := a1 (j - 1) h'
          rwa [show at_ + 1 + (j - 1) = at_ + j by omega] at this
        · rcases Nat.lt_or_ge (j - 1) ((ptsL (at_ + 1) th).length + 1) with h'' | h''
          · rw [show at_ + j = at_ + 1 + (ptsL (at_ + 1) th).length by omega]; exact a2
          · have := b1 (j - 2 - (ptsL (at_ + 1) th).length) (by omega)
            rwa [show at_ + 1 + (ptsL (at_ + 1) th).length + 1 + (j - 2 - (ptsL (at_ + 1) th).length) = at_ + j by omega] at this
    · split
      · intro hE hR
        have hT := hE.tail
        obtain ⟨a1, a2⟩ := h1 hT.left (.step hR hE.head (by simp))
        have hlen : ((⟨10, 0, 0, 0, [at_ + 1, at_ + 1 + (ptsL (at_ + 1) th).length + 1]⟩ : Pt) :: (ptsL (at_ + 1) th ++ [⟨10, 0, 0, 1, [at_]⟩])).length = 1 + (ptsL (at_ + 1) th).length + 1 := by simp; omega
        rw [hlen]
        refine ⟨fun j hj => ?_, by rw [show at_ + (1 + (ptsL (at_ + 1) th).length + 1) = at_ + 1 + (ptsL (at_ + 1) th).length + 1 by omega]; exact .step hR hE.head (by simp)⟩
        rcases Nat.lt_or_ge j 1 with h | h
        · have : j = 0 := by omega
          subst this; exact hR
        · rcases Nat.lt_or_ge (j - 1) (ptsL (at_ + 1) th).length with h' | h'
          · have := a1 (j - 1) h'
            rwa [show at_ + 1 + (j - 1) = at_ + j by omega] at this
          · rw [show at_ + j = at_ + 1 + (ptsL (at_ + 1) th).length by omega]; exact a2
      · intro hE hR
        refine ⟨fun j hj => ?_, .step hR hE.head (by simp)⟩
        have : j = 0 := by simpa using hj
        subst this; exact hR
theorem ptsL_rch (pts : List Pt) (at_ : Nat) : ∀ l : List St, Emb pts at_ (ptsL at_ l) → Rch pts at_ → (∀ j, j < (ptsL at_ l).length → Rch pts (at_ + j)) ∧ Rch pts (at_ + (ptsL at_ l).length)
  | [] => by
    intro _ hR
    exact ⟨fun j hj => by simp [ptsL] at hj, by simpa [ptsL] using hR⟩
  | s :: r => by
    have h1 := ptsSt_rch pts at_ s
    have h2 := ptsL_rch pts (at_ + (ptsSt at_ s).length) r
    simp only [ptsL]
    intro hE hR
    obtain ⟨a1, a2⟩ := h1 hE.left hR
    obtain ⟨b1, b2⟩ := h2 hE.right a2
    rw [List.length_append]
    refine ⟨fun j hj => ?_, by rw [← Nat.add_assoc]; exact b2⟩
    rcases Nat.lt_or_ge j (ptsSt at_ s).length with h | h
    · exact a1 j h
    · have := b1 (j - (ptsSt at_ s).length) (by omega)
      rwa [show at_ + (ptsSt at_ s).length + (j - (ptsSt at_ s).length) = at_ + j by omega] at this
end
theorem ptsP_rch (l : List St) {k : Nat} (hk : k < (ptsP l).length) : Rch (ptsP l) k := by
  have hE : Emb (ptsP l) 0 (ptsL 0 l) := fun j p hj => by
    have hlt : j < (ptsL 0 l).length := (List.getElem?_eq_some_iff.1 hj).1
    unfold ptsP
    rw [Nat.zero_add, List.getElem?_append_left hlt]; exact hj
  obtain ⟨a1, a2⟩ := ptsL_rch (ptsP l) 0 l hE .start
  rw [ptsP_len] at hk
  rcases Nat.lt_or_ge k (ptsL 0 l).length with h | h
  · have := a1 k h; rwa [Nat.zero_add] at this
  · have : k = (ptsL 0 l).length := by omega
    rw [this]; rwa [Nat.zero_add] at a2
/-- on some way a variable has a value, or on some way it has none -/
theorem some_way {ts : List Int} {pts : List Pt} {gv i v : Nat} (hr : Rch pts i) (hv : v < ts.length) (hg : gv.testBit v = false) : Ac true ts pts gv i v ∨ Ac false ts pts 0 i v := by
  induction hr with
  | start => exact .inl (.init hv (by simp [accB, hg]))
  | @step i k p h hp hk ih =>
    rcases ih with ih | ih
    · cases hs : trB true ts p true v
      · refine .inr (.gen hp hk hv ?_)
        unfold trB at hs ⊢
        revert hs
        generalize (setBitP p.op p.x).testBit v = sb
        generalize (takenP ts p.op p.x p.y).testBit v = tk
        cases sb <;> cases tk <;> decide
      · exact .inl (.keep hp hk ih hs)
    · cases hs : trB false ts p true v
      · refine .inl (.gen hp hk hv ?_)
        unfold trB at hs ⊢
        revert hs
        generalize (setBitP p.op p.x).testBit v = sb
        generalize (takenP ts p.op p.x p.y).testBit v = tk
        cases sb <;> cases tk <;> decide
      · exact .inr (.keep hp hk ih hs)

end Go.Proofs.Ytmaaaiccmllnlaa

/- Rows of bools that a call owns; spec.l3After. -/
namespace Go.Proofs.Ytmaaaiccmllnlaa
open Go.RowKit

def OBools (w : World) (base : Nat) (v : Value) (l : List Bool) : Prop := w.ownsRow base 4 1 v l.length (bv l)
theorem OBools.empty (w : World) (base : Nat) (hb : base ≤ w.heap.size) : OBools (w.alloc (.cells #[] 4)) base (.slice (some ⟨w.heap.size, 0, none⟩) 0 0) [] :=
  World.ownsRow_lit (base := base) (e := 4) (size := 1) w #[] 0 hb (by simp [maxLen]) rfl
theorem OBools.slice {w : World} {base : Nat} {v : Value} {l : List Bool} (h : OBools w base v l) : ∃ A c, v = .slice A l.length c ∧ l.length ≤ c := by
  rcases h.2 with ⟨rfl, h0⟩ | ⟨g, cap, cur, rfl, _, _, hc, _⟩
  · exact ⟨none, 0, by rw [h0], by omega⟩
  · exact ⟨_, cap, rfl, hc⟩
theorem OBools.bel {w w' : World} {base : Nat} {v : Value} {l : List Bool} (h : OBools w base v l) (hb : Below w.heap.size w w') : OBools w' base v l :=
  h.kept (grown_bel hb (Nat.le_refl _) none) (by cases v.ownBlock <;> simp)
theorem OBools.base {w : World} {base base' : Nat} {v : Value} {l : List Bool} (h : OBools w base v l) (hb : base' ≤ base) : OBools w base' v l := by
  refine ⟨h.1, ?_⟩
  rcases h.2 with h' | ⟨g, cap, cur, rfl, hbg, rest⟩
  · exact .inl h'
  · exact .inr ⟨g, cap, cur, rfl, by omega, rest⟩
theorem OBools.at_ {w : World} {base : Nat} {A : Option Addr} {n c : Nat} {l : List Bool} (h : OBools w base (.slice A n c) l) {k : Nat} (hk : k < l.length) :
    ∃ g, A = some ⟨g, 0, none⟩ ∧ base ≤ g ∧ g < w.heap.size ∧ n = l.length ∧ w.cell? ⟨g, k, none⟩ = some (.bool (l.getD k false)) ∧ w.frozen? ⟨g, k, none⟩ = false := by
  obtain ⟨A', c', e, _⟩ := h.slice
  injection e with _ e2 _
  subst e2
  obtain ⟨g, cap, e, hb, hlt⟩ := h.form (by omega)
  injection e with e1 _ e3
  subst e1 e3
  exact ⟨g, rfl, hb, hlt, rfl, by rw [h.cellAt k (by omega), bv_get hk], h.frozenAt k⟩
theorem OBools.toS {w : World} {base : Nat} {v : Value} {l : List Bool} (h : OBools w base v l) (hl : l.length ≤ 4194304) : BoolS w w.heap.size v l := by
  obtain ⟨A, c, rfl, hc⟩ := h.slice
  refine ⟨A, c, rfl, hc, hl, by simp, fun hn => ?_⟩
  obtain ⟨g, cap, e, hb, hlt⟩ := h.form hn
  injection e with e1 _ e2
  subst e1 e2
  refine ⟨g, 0, rfl, hlt, fun j u hu => ?_⟩
  rw [Nat.zero_add, h.cellAt j (by have := (List.getElem?_eq_some_iff.1 hu).1; simp at this; omega)]
  exact hu
theorem OBools.set {w : World} {base g n c : Nat} {l : List Bool} (h : OBools w base (.slice (some ⟨g, 0, none⟩) n c) l) (k : Nat) (b : Bool) : OBools (w.setCell ⟨g, k, none⟩ (.bool b)) base (.slice (some ⟨g, 0, none⟩) n c) (l.set k b) := by
  have hn : n = l.length := by
    obtain ⟨A, c', e, _⟩ := h.slice
    injection e
  subst hn
  have := (World.ownsRow.stored h k (.bool b)).1
  unfold OBools
  rw [List.length_set, ← bv_set]
  exact this
theorem run_appb_nil (w : World) (base : Nat) (ty : TypeId) (v : Value) (l : List Bool) (hP : OBools w base v l) (c : Nat) : (Builtin.append_ #[89, 89] ty #[v, .slice none 0 c]).run Try.prog w = .ok v w := by
  obtain ⟨i0, hi0, hz0, hz1, hz2⟩ := info_parts Try.infoBool
  rcases hP.2 with ⟨rfl, h0⟩ | ⟨g, cap, cur, rfl, _, _, hnc, _⟩
  · simp [Builtin.append_, run_underlying Try.underlying89, sizeOf, typeInfo, hi0, Builtin.lenOf, Builtin.firstCells]
  · simp [Builtin.append_, run_underlying Try.underlying89, sizeOf, typeInfo, hi0, Builtin.lenOf, Builtin.firstCells, hnc, storeCells]
theorem run_app_bools (w : World) (base : Nat) (ty : TypeId) (v : Value) (l : List Bool) (hP : OBools w base v l) (B : Nat) (vs : Value) (ts : List Bool) (hr : BoolS w B vs ts) (hb : base ≤ w.heap.size) (hn : l.length + ts.length ≤ 8388608) :
    ∃ v' w', (Builtin.append_ #[89, 89] ty #[v, vs]).run Try.prog w = .ok v' w' ∧ OBools w' base v' (l ++ ts) ∧ w.grownBy w' v.ownBlock ∧ (v'.ownBlock = v.ownBlock ∨ v'.ownBlock = some w.heap.size) := by
  obtain ⟨A, c, rfl, hc, hm, hrd⟩ := hr
  rcases Nat.eq_zero_or_pos ts.length with h0 | h0
  · have hts : ts = [] := List.length_eq_zero_iff.1 h0
    subst hts
    rcases A with _ | ad
    · exact ⟨v, w, run_appb_nil w base ty v l hP c, by simpa using hP, World.grownBy.refl w _, .inl rfl⟩
    · obtain ⟨i0, hi0, hz0, hz1, hz2⟩ := info_parts Try.infoBool
      obtain ⟨v', w', hrun, h2, h3, _, h5⟩ := run_append_own_at (P := Try.prog) w base 89 ty 4 i0 _ 1 1 Try.underlying89 hi0 hz0 hz1 hz2 rfl (by omega) v l.length _ hP ad 0 c [] rfl (fun j u h => by simp at h) (fun u h => by simp at h) (by simp only [maxLen]; omega) (by omega) hb
      exact ⟨v', w', hrun, by simpa [OBools] using h2, h3, h5⟩
  · obtain ⟨b, off, rfl, hbl, hcell⟩ := hrd.2 h0
    obtain ⟨i0, hi0, hz0, hz1, hz2⟩ := info_parts Try.infoBool
    obtain ⟨v', w', hrun, h2, h3, _, h5⟩ := run_append_own_at (P := Try.prog) w base 89 ty 4 i0 _ 1 1 Try.underlying89 hi0 hz0 hz1 hz2 rfl (by omega) v l.length _ hP ⟨b, off, none⟩ ts.length c (ts.map .bool) (by simp)
      (fun j u h => by
        rcases Nat.eq_zero_or_pos j with hj | hj
        · subst hj; simpa [Addr.add] using hcell 0 u h
        · have := hcell j u h
          have hj0 : j ≠ 0 := by omega
          simpa [Addr.add, hj0] using this)
      (fun u h => by obtain ⟨x, _, rfl⟩ := List.mem_map.1 h; rfl) (by simp only [maxLen]; omega) (by omega) hb
    exact ⟨v', w', hrun, by simpa [OBools, bv] using h2, h3, h5⟩
theorem wpList_app_bools {ops : Array Oper} {rest : List Oper} {o : Oper} {a : Act} {Q : Exit → Act → World → Prop} {w : World} (hgd : o.guard = none) (s x : Operand)
    (ho : o.op = .call { callee := .builtin .append, args := #[s, x], argTypes := #[89, 89] })
    (base : Nat) (v : Value) (l : List Bool) (hs : a.eval s = v) (hP : OBools w base v l) (B : Nat) (vs : Value) (ts : List Bool) (hx : a.eval x = vs) (hr : BoolS w B vs ts) (hb : base ≤ w.heap.size) (hn : l.length + ts.length ≤ 8388608)
    (h : ∀ v' w', OBools w' base v' (l ++ ts) → w.grownBy w' v.ownBlock → (v'.ownBlock = v.ownBlock ∨ v'.ownBlock = some w.heap.size) → wpList Try.prog ops Q rest (a.put o.dst v') w') : wpList Try.prog ops Q (o :: rest) a w := by
  refine wpList_plain hgd fun K hK => ?_
  obtain ⟨v', w', hrun, h2, h3, h4⟩ := run_app_bools w base o.type v l hP B vs ts hr hb hn
  unfold Oper.wp execOp
  simp only [ho, resolve, invoke, builtin, Sem.run_bind, Sem.run_pure, Result.andThen_ok, List.map_toArray, List.map_cons, List.map_nil, hs, hx, hrun]
  exact hK _ _ (h v' w' h2 h3 h4)

/-- what v's place reads behind a point, b being what it read before -/
def vlB (ts : List Int) (p : Pt) (b : Bool) (v : Nat) : Bool := (b && !(useP ts p.op p.x p.y (v : Nat) == 2)) || decide (setsP p.op p.x = (v : Nat))
def AftRet (w : World) (ts : List Int) (p : Pt) (bf : List Bool) (e : Ending) (w' : World) : Prop :=
  ∃ v r, e = .returned v ∧ OBools w' w.heap.size v r ∧ r.length = bf.length ∧ (∀ u, u < bf.length → r.getD u false = vlB ts p (bf.getD u false) u) ∧ Below w.heap.size w w'

set_option maxHeartbeats 4000000
set_option maxRecDepth 100000

end Go.Proofs.Ytmaaaiccmllnlaa

/- spec.l3Join, spec.l3Equal. -/
namespace Go.Proofs.Ytmaaaiccmllnlaa
open Go.RowKit

def jnB (al o a : Bool) : Bool := if al then o && a else o || a
def joinP (al : Bool) (old aft : List Bool) : List Bool := (List.range aft.length).map fun v => if v < old.length then jnB al (old.getD v false) (aft.getD v false) else aft.getD v false
theorem join_len (al : Bool) (old aft : List Bool) : (joinP al old aft).length = aft.length := by simp [joinP]
theorem join_get (al : Bool) (old aft : List Bool) {v : Nat} (hv : v < aft.length) : (joinP al old aft).getD v false = if v < old.length then jnB al (old.getD v false) (aft.getD v false) else aft.getD v false := by
  rw [getD_lt (by rw [join_len]; exact hv)]; simp [joinP]
def JnRet (w : World) (al : Bool) (old aft : List Bool) (e : Ending) (w' : World) : Prop :=
  ∃ v, e = .returned v ∧ OBools w' w.heap.size v (joinP al old aft) ∧ Below w.heap.size w w'
theorem jn_same {al : Bool} {old aft r : List Bool} (hl : r.length = aft.length) (h : ∀ u, u < aft.length → r.getD u false = if u < old.length then jnB al (old.getD u false) (aft.getD u false) else aft.getD u false) : r = joinP al old aft := by
  refine List.ext_getElem (by rw [join_len, hl]) fun i h1 h2 => ?_
  have e1 := h i (by omega)
  rw [← join_get al old aft (by omega), getD_lt h1, getD_lt h2] at e1
  exact e1

set_option maxHeartbeats 4000000
set_option maxRecDepth 100000


end Go.Proofs.Ytmaaaiccmllnlaa
