import Derived.Test.YtidlifijgooceaaH27
import Derived.Test.YtidlifijgooceaaH23
import Derived.Deep.RegionLaw
import Derived.Test.YtidlifijgooceaaH01
import Derived.Deep.CutBlock
import Derived.Deep.DeepCutAuto
import Derived.Test.YtidlifijgooceaaH07
import Derived.Test.YtidlifijgooceaaH09
import Derived.IntWalk
import Derived.Test.YtidlifijgooceaaH18
import Derived.Test.YtidlifijgooceaaH26
set_option linter.unusedVariables false

/- DrawNeedsOf, DrawTakesOf. -/
namespace Go.Proofs.Ytidlifijgooceaa
open Go.RowKit

theorem grown_new {w a b : World} {g : Nat} (h : Below w.heap.size w a) (hg : w.heap.size ≤ g) (k : a.grownBy b (some g)) : Below w.heap.size w b :=
  ⟨k.os.trans h.os, k.tape.trans h.tape, k.output.trans h.output, Nat.le_trans h.size k.size, fun i hi => (k.block i (Nat.lt_of_lt_of_le hi h.size) (fun e => by injection e with e; omega)).trans (h.block i hi)⟩
end Go.Proofs.Ytidlifijgooceaa

/- spec.l2Branch, l3Place, the draws of the flow laws. -/
namespace Go.Proofs.Ytidlifijgooceaa
open Go.RowKit

set_option maxHeartbeats 4000000
set_option maxRecDepth 100000

end Go.Proofs.Ytidlifijgooceaa

/- FnTakesOf: the draw, the plain law, the walk. -/
namespace Go.Proofs.Ytidlifijgooceaa
open Go.RowKit

def LawRet (w : World) (e : Ending) (w' : World) : Prop := e = .returned (.bool true) ∧ Below w.heap.size w w'

end Go.Proofs.Ytidlifijgooceaa

/- Words for the laws' walks: a drawn program in its box. The plain law of NeedsOpen. -/
namespace Go.Proofs.Ytidlifijgooceaa
open Go.RowKit

/-- the program (vt, vb) lies in the box g and reads as (ts, l); what was in w is as it was -/
structure PgB (w W : World) (g : Nat) (vt vb : Value) (ts : List Int) (l : List St) : Prop where
  bel : Below w.heap.size w W
  row : W.heap[g]? = some (.cells #[vt, vb] 26 (0, 0))
  ht : IntS W W.heap.size vt ts
  hl : StS W W.heap.size vb l
theorem PgB.lt {w W : World} {g : Nat} {vt vb : Value} {ts : List Int} {l : List St} (h : PgB w W g vt vb ts l) : g < W.heap.size := row_lt h.row
theorem PgB.c0 {w W : World} {g : Nat} {vt vb : Value} {ts : List Int} {l : List St} (h : PgB w W g vt vb ts l) : W.cell? ⟨g, 0, none⟩ = some vt := by rw [cell_of_row _ _ _ _ _ _ h.row]; rfl
theorem PgB.c1 {w W : World} {g : Nat} {vt vb : Value} {ts : List Int} {l : List St} (h : PgB w W g vt vb ts l) : W.cell? ⟨g, 1, none⟩ = some vb := by rw [cell_of_row _ _ _ _ _ _ h.row]; rfl
theorem PgB.bels {w W W' : World} {g : Nat} {vt vb : Value} {ts : List Int} {l : List St} (h : PgB w W g vt vb ts l) (hb : Below W.heap.size W W') : PgB w W' g vt vb ts l :=
  ⟨h.bel.trans (hb.mono h.bel.size), row_below h.row hb, (h.ht.low hb (Nat.le_refl _)).more hb.size, (h.hl.low hb (Nat.le_refl _)).more hb.size⟩
theorem PgB.new {w w1 : World} {vt vb : Value} {ts : List Int} {l : List St} {P Q : Nat → Prop} (ht : IntX w1 P vt ts) (hl : StX w1 Q vb l) (hb : Below w.heap.size w w1) : PgB w (w1.alloc (.cells #[vt, vb] 26)) w1.heap.size vt vb ts l := by
  have hA := bel_a w1 (.cells #[vt, vb] 26)
  exact ⟨hb.trans (hA.mono hb.size), heap_alloc_new w1 _, ((ht.toS).low hA (Nat.le_refl _)).more hA.size, ((hl.toS).low hA (Nat.le_refl _)).more hA.size⟩
theorem IntS.bel {w w' : World} {v : Value} {l : List Int} (h : IntS w w.heap.size v l) (hb : Below w.heap.size w w') : IntS w' w'.heap.size v l := (h.low hb (Nat.le_refl _)).more hb.size
theorem PtS.bel {w w' : World} {v : Value} {pts : List Pt} (h : PtS w w.heap.size v pts) (hb : Below w.heap.size w w') : PtS w' w'.heap.size v pts := (h.low hb (Nat.le_refl _)).more hb.size

end Go.Proofs.Ytidlifijgooceaa

/- spec.l14Case and the draws that hand it on. -/
namespace Go.Proofs.Ytidlifijgooceaa
open Go.RowKit

/-- below 'base' only block g has turned -/
structure Gb (base g : Nat) (W w : World) : Prop where
  os : w.os = W.os
  tape : w.tape = W.tape
  output : w.output = W.output
  size : W.heap.size ≤ w.heap.size
  block : ∀ b, b < base → b ≠ g → w.heap[b]? = W.heap[b]?
theorem Gb.refl (base g : Nat) (W : World) : Gb base g W W := ⟨rfl, rfl, rfl, Nat.le_refl _, fun _ _ _ => rfl⟩
theorem Gb.bel {base g : Nat} {W a b : World} (h : Gb base g W a) (k : Below base a b) : Gb base g W b :=
  ⟨k.os.trans h.os, k.tape.trans h.tape, k.output.trans h.output, Nat.le_trans h.size k.size, fun i hi hne => (k.block i hi).trans (h.block i hi hne)⟩
set_option maxHeartbeats 4000000
set_option maxRecDepth 100000

end Go.Proofs.Ytidlifijgooceaa

/- the draws of a program and small numbers (spec.l10Case and what stands on it). -/
namespace Go.Proofs.Ytidlifijgooceaa
open Go.RowKit

/-- what the ends of these draws need -/
structure DsE (w W : World) (vt vb : Value) (ts : List Int) (l : List St) : Prop where
  ht : IntX W (fun b => w.heap.size ≤ b) vt ts
  hl : StX W (fun b => w.heap.size ≤ b) vb l
  bel : Below w.heap.size w W
theorem DsE.mk' {w w3 W : World} {vt vb : Value} {ts : List Int} {l : List St} {lo : Nat} (h3 : Below w.heap.size w w3) (hW : w3.grownBy W (some w.heap.size)) (hT : IntX w3 (fun b => lo ≤ b) vt ts) (hB : StX w3 (fun b => lo ≤ b) vb l) (hlo : w.heap.size < lo) : DsE w W vt vb ts l := by
  have hk : ∀ b, lo ≤ b → b < w3.heap.size → w.heap.size ≤ b ∧ W.heap[b]? = w3.heap[b]? := fun b hb hl => ⟨by omega, hW.block b hl (fun e => by injection e with e; omega)⟩
  exact ⟨hT.frame hW.size hk, hB.frame hW.size hk, grown_new h3 (Nat.le_refl _) hW⟩

theorem belC {B : Nat} {w w' : World} {b o : Nat} {x : Option Value} (h : Below B w w') (e : w.cell? ⟨b, o, none⟩ = x) (hb : b < B) : w'.cell? ⟨b, o, none⟩ = x := (h.cell (p := ⟨b, o, none⟩) hb).trans e

end Go.Proofs.Ytidlifijgooceaa

/- the draws of run paths, and of a program with loans and a point. -/
namespace Go.Proofs.Ytidlifijgooceaa
open Go.RowKit

set_option maxHeartbeats 4000000
set_option maxRecDepth 100000

end Go.Proofs.Ytidlifijgooceaa

/- l11Place, DrawSplitProgram. -/
namespace Go.Proofs.Ytidlifijgooceaa
open Go.RowKit

set_option maxHeartbeats 4000000
set_option maxRecDepth 100000
end Go.Proofs.Ytidlifijgooceaa

/- slices.Equal; impl.sameStmts of equal statements; impl.ProgramSame of equal programs. -/
namespace Go.Proofs.Ytidlifijgooceaa
open Go.RowKit

set_option maxHeartbeats 400000 in
theorem equal_any (va vb : Value) (la lb : List Int) (B : Nat) (w : World) (ha : IntS w B va la) (hb : IntS w B vb lb) :
    Calls Try.prog 53 #[va, vb] w fun e w' => e = .returned (.bool (eqP la lb)) ∧ ∃ n, w' = w.drewN n := by
  obtain ⟨A, c, rfl, hc, hm, hr⟩ := ha
  obtain ⟨A', c', rfl, hc', hm', hr'⟩ := hb
  by_cases hl : la.length = lb.length
  · have hle : ((la.length : Int) != (lb.length : Int)) = false := by simp [hl]
    have HL := Lib.hid hl
    clear hl
    go_enter Try.func53, Try.ntmps53
    go_wp2
    go_loopw [13] (fun i wr => ∃ k : Nat, k ≤ la.length ∧ i = .int .i64 k ∧ la.take k = lb.take k ∧ ∃ n, wr = w.drewN n) (fun i _ => la.length - (intOf i).toNat)
    case atStart => exact ⟨0, Nat.zero_le _, rfl, by simp, 0, rfl⟩
    case round =>
      obtain ⟨k, hk, rfl, hn, n0, rfl⟩ := hrel
      have H := Lib.hid hn
      clear hn
      by_cases hlt : k < la.length
      · have hlt2 : k < lb.length := by rw [← HL.out]; exact hlt
        obtain ⟨b, off, rfl, hb, hcell⟩ := hr.int_at hlt
        have hck := hcell k hlt
        obtain ⟨b', off', rfl, hb', hcell'⟩ := hr'.int_at hlt2
        have hck' := hcell' k hlt2
        clear hcell hcell'
        go_wp2
        go_quiet (fail)
        go_wp2
        · have hx : (la[k] != lb[k]) = true := by assumption
          go_ret
          refine ⟨ret_bool ?_, drewN_two _ _ _⟩
          unfold eqP
          rw [eq_comm, decide_eq_false_iff_not]
          rintro rfl
          simp at hx
        · have hx : (la[k] != lb[k]) = false := by assumption
          refine ⟨⟨k + 1, by omega, by go_num, ?_, ⟨_, rfl⟩⟩, by simp [intOf]; omega⟩
          rw [take_succ_get la k hlt, take_succ_get lb k hlt2, H.out]
          simp at hx
          rw [hx]
      · obtain rfl : k = la.length := by omega
        go_wp2
        go_ret
        refine ⟨ret_bool ?_, n0, rfl⟩
        have h := H.out
        rw [List.take_length, HL.out, List.take_length] at h
        unfold eqP
        rw [eq_comm]
        exact decide_eq_true h
  · have hle : ((la.length : Int) != (lb.length : Int)) = true := by simp; omega
    have HL := Lib.hid hl
    clear hl
    go_enter Try.func53, Try.ntmps53
    go_wp2
    go_ret
    refine ⟨ret_bool ?_, 0, rfl⟩
    unfold eqP
    rw [eq_comm, decide_eq_false_iff_not]
    exact fun h => HL.out (by rw [h])
def TruRet (w : World) (e : Ending) (w' : World) : Prop := e = .returned (.bool true) ∧ Below w.heap.size w w'
def SameOk (m : Nat) : Prop := ∀ (va vb : Value) (l : List St) (B : Nat) (w : World), szL l ≤ m → StS w B va l → StS w B vb l → B ≤ w.heap.size → Calls Try.prog 54 #[va, vb] w (TruRet w)
set_option maxHeartbeats 2000000 in
set_option maxRecDepth 100000 in
theorem same_clo (m : Nat) (ih : ∀ j, j < m → SameOk j) (op x y n : Int) (tv ev tv' ev' : Value) (th el : List St) (B : Nat) (w : World) (hm : szL th + szL el < m) (h1 : StS w B tv th) (h2 : StS w B tv' th) (h3 : StS w B ev el) (h4 : StS w B ev' el) (hB : B ≤ w.heap.size) :
    Calls Try.prog 109 #[.agg #[.int .i64 op, .int .i64 x, .int .i64 y, .int .i64 n, tv, ev], .agg #[.int .i64 op, .int .i64 x, .int .i64 y, .int .i64 n, tv', ev']] w (TruRet w) := by
  obtain ⟨A1, c1, rfl, -⟩ := h1.slice
  obtain ⟨A2, c2, rfl, -⟩ := h2.slice
  obtain ⟨A3, c3, rfl, -⟩ := h3.slice
  obtain ⟨A4, c4, rfl, -⟩ := h4.slice
  have H1 := Lib.hid h1
  have H2 := Lib.hid h2
  have H3 := Lib.hid h3
  have H4 := Lib.hid h4
  have IH := Lib.hid ih
  clear h1 h2 h3 h4 ih
  have HR := Lib.hid (RowB.new w [.int .i64 op, .int .i64 x, .int .i64 y, .int .i64 n, .slice A1 th.length c1, .slice A3 el.length c3] 87)
  have HB1 := Lib.hid (bel_a w (.cells #[.int .i64 op, .int .i64 x, .int .i64 y, .int .i64 n, .slice A1 th.length c1, .slice A3 el.length c3] 87))
  have hs1 : (w.alloc (.cells #[.int .i64 op, .int .i64 x, .int .i64 y, .int .i64 n, .slice A1 th.length c1, .slice A3 el.length c3] 87)).heap.size = w.heap.size + 1 := by simp
  have HR2 := Lib.hid (RowB.new (w.alloc (.cells #[.int .i64 op, .int .i64 x, .int .i64 y, .int .i64 n, .slice A1 th.length c1, .slice A3 el.length c3] 87)) [.int .i64 op, .int .i64 x, .int .i64 y, .int .i64 n, .slice A2 th.length c2, .slice A4 el.length c4] 87)
  have HB2 := Lib.hid (bel_a (w.alloc (.cells #[.int .i64 op, .int .i64 x, .int .i64 y, .int .i64 n, .slice A1 th.length c1, .slice A3 el.length c3] 87)) (.cells #[.int .i64 op, .int .i64 x, .int .i64 y, .int .i64 n, .slice A2 th.length c2, .slice A4 el.length c4] 87))
  have HS1 := Lib.hid hs1
  clear hs1
  have he : ∀ z : Int, (z == z) = true := fun z => by simp
  have he1 := he op
  have he2 := he x
  have he3 := he y
  have he4 := he n
  clear he
  go_enter Try.func109, Try.ntmps109
  go_upto_region 1 with (at_builtin; fail)
  generalize w.alloc (.cells #[.int .i64 op, .int .i64 x, .int .i64 y, .int .i64 n, .slice A1 th.length c1, .slice A3 el.length c3] 87) = w1 at *
  generalize w1.alloc (.cells #[.int .i64 op, .int .i64 x, .int .i64 y, .int .i64 n, .slice A2 th.length c2, .slice A4 el.length c4] 87) = w2 at *
  have hs1 := HS1.out
  rw [hs1] at HR2
  have HS1 := Lib.hid hs1
  clear hs1
  have HRA := Lib.hid (HR.out.low HB2.out HR.out.lt)
  have HBA := Lib.hid (HB1.out.trans (HB2.out.mono HB1.out.size))
  have hsz := HBA.out.size
  have a0 := HRA.out.cell 0
  have a1 := HRA.out.cell 1
  have a2 := HRA.out.cell 2
  have a3 := HRA.out.cell 3
  have a4 := HRA.out.cell 4
  have a5 := HRA.out.cell 5
  have b0 := HR2.out.cell 0
  have b1 := HR2.out.cell 1
  have b2 := HR2.out.cell 2
  have b3 := HR2.out.cell 3
  have b4 := HR2.out.cell 4
  have b5 := HR2.out.cell 5
  simp only [List.getElem?_cons_zero, List.getElem?_cons_succ] at a0 a1 a2 a3 a4 a5 b0 b1 b2 b3 b4 b5
  go_wp2_with (at_builtin; fail)
  refine (IH.out (szL th) (by omega) _ _ th B w2 (Nat.le_refl _) (H1.out.low HBA.out hB) (H2.out.low HBA.out hB) (by omega)).mono ?_
  rintro e w3 ⟨rfl, hb3⟩
  have HB3 := Lib.hid (HBA.out.trans (hb3.mono hsz))
  have hs3 := HB3.out.size
  have HRA3 := Lib.hid (HRA.out.low hb3 HRA.out.lt)
  have HR23 := Lib.hid (HR2.out.low hb3 HR2.out.lt)
  clear a0 a1 a2 a3 a4 a5 b0 b1 b2 b3 b4 b5 hb3
  have a5 := HRA3.out.cell 5
  have b5 := HR23.out.cell 5
  simp only [List.getElem?_cons_zero, List.getElem?_cons_succ] at a5 b5
  go_wp2_with (at_builtin; fail)
  refine (IH.out (szL el) (by omega) _ _ el B w3 (Nat.le_refl _) (H3.out.low HB3.out hB) (H4.out.low HB3.out hB) (by omega)).mono ?_
  rintro e w4 ⟨rfl, hb4⟩
  go_wp2_with (at_builtin; fail)
  go_ret
  exact ⟨rfl, HB3.out.trans (hb4.mono hs3)⟩

set_option maxHeartbeats 2000000 in
set_option maxRecDepth 100000 in
theorem same_fun (m : Nat) (ih : ∀ j, j < m → SameOk j) (va vb : Value) (l : List St) (B : Nat) (w : World) (hm : szL l ≤ m) (hM : m ≤ 4194304) (h1 : StS w B va l) (h2 : StS w B vb l) (hB : B ≤ w.heap.size) :
    Calls Try.prog 108 #[va, vb, .func (.func 109) #[] #[]] w (TruRet w) := by
  have hll := len_le_szL l
  have H1 := Lib.hid h1
  have H2 := Lib.hid h2
  have IH := Lib.hid ih
  obtain ⟨A1, c1, rfl, hc1⟩ := h1.slice
  obtain ⟨A2, c2, rfl, hc2⟩ := h2.slice
  have hle : ((l.length : Int) != (l.length : Int)) = false := by simp
  clear h1 h2 ih
  go_enter Try.func108, Try.ntmps108
  go_wp2_with (at_builtin; fail)
  clear hle
  go_loopw [17] (fun i wr => ∃ k : Nat, k ≤ l.length ∧ i = .int .i64 k ∧ Below w.heap.size w wr) (fun i _ => l.length - (intOf i).toNat)
  case atStart => exact ⟨0, Nat.zero_le _, rfl, Below.refl _ _⟩
  case round =>
    obtain ⟨k, hk, rfl, hbw⟩ := hrel
    have HBW := Lib.hid hbw
    have hsw := hbw.size
    clear hbw
    by_cases hlt : k < l.length
    · have hsz := szL_mem hlt
      rw [l[k].sz_eq] at hsz
      obtain ⟨b1, o1, t1, e1, rfl, hb1, ht1, he1, p0, p1, p2, p3, p4, p5⟩ := (H1.out.low HBW.out hB).get hlt
      obtain ⟨b2, o2, t2, e2, rfl, hb2, ht2, he2, q0, q1, q2, q3, q4, q5⟩ := (H2.out.low HBW.out hB).get hlt
      obtain ⟨A3, c3, rfl, -⟩ := ht1.slice
      obtain ⟨A4, c4, rfl, -⟩ := he1.slice
      obtain ⟨A5, c5, rfl, -⟩ := ht2.slice
      obtain ⟨A6, c6, rfl, -⟩ := he2.slice
      have HT1 := Lib.hid ht1
      have HE1 := Lib.hid he1
      have HT2 := Lib.hid ht2
      have HE2 := Lib.hid he2
      generalize l[k]'hlt = s at *
      clear ht1 he1 ht2 he2
      have hb2r : b2 < wr.heap.size := by omega
      have r0 := fun o => ((bel_a wr o).cell (p := ⟨b2, o2 + k * 6, none⟩) hb2r).trans q0
      have r1 := fun o => ((bel_a wr o).cell (p := ⟨b2, o2 + k * 6 + 1, none⟩) hb2r).trans q1
      have r2 := fun o => ((bel_a wr o).cell (p := ⟨b2, o2 + k * 6 + 2, none⟩) hb2r).trans q2
      have r3 := fun o => ((bel_a wr o).cell (p := ⟨b2, o2 + k * 6 + 3, none⟩) hb2r).trans q3
      have r4 := fun o => ((bel_a wr o).cell (p := ⟨b2, o2 + k * 6 + 4, none⟩) hb2r).trans q4
      have r5 := fun o => ((bel_a wr o).cell (p := ⟨b2, o2 + k * 6 + 5, none⟩) hb2r).trans q5
      have HC := Lib.hid (fun (wz : World) (hz : Below wr.heap.size wr wz) => same_clo m IH.out s.op s.x s.y s.n (.slice A3 s.th.length c3) (.slice A4 s.el.length c4) (.slice A5 s.th.length c5) (.slice A6 s.el.length c6) s.th s.el B wz (by omega) (HT1.out.low hz (by omega)) (HT2.out.low hz (by omega)) (HE1.out.low hz (by omega)) (HE2.out.low hz (by omega)) (by have := hz.size; omega))
      have HB2 := Lib.hid ((bel_a wr (.cells #[.int .i64 s.op, .int .i64 s.x, .int .i64 s.y, .int .i64 s.n, .slice A3 s.th.length c3, .slice A4 s.el.length c4] 87)).alloc (by simp) (.cells #[.int .i64 s.op, .int .i64 s.x, .int .i64 s.y, .int .i64 s.n, .slice A5 s.th.length c5, .slice A6 s.el.length c6] 87))
      go_wp2_with (at_builtin; fail)
      refine (HC.out _ HB2.out).mono ?_
      rintro e w3 ⟨rfl, hb3⟩
      have HB3 := Lib.hid (HBW.out.trans ((HB2.out.trans (hb3.mono HB2.out.size)).mono hsw))
      clear hb3
      go_wp2_with (at_builtin; fail)
      exact ⟨⟨k + 1, by omega, by go_num, HB3.out⟩, by simp [intOf] <;> omega⟩
    · go_wp2_with (at_builtin; fail)
      go_ret
      exact ⟨rfl, HBW.out⟩
theorem same_of (m : Nat) (hM : m ≤ 4194304) (ih : ∀ j, j < m → SameOk j) : SameOk m := by
  intro va vb l B w hm h1 h2 hB
  have HC := Lib.hid (same_fun m ih va vb l B w hm hM h1 h2 hB)
  go_enter Try.func54, Try.ntmps54
  go_wp2_with (at_builtin; fail)
  refine HC.out.mono ?_
  rintro e w1 ⟨rfl, hb1⟩
  go_wp2_with (at_builtin; fail)
  go_ret
  exact ⟨rfl, hb1⟩
theorem same_any (m : Nat) (hM : m ≤ 4194304) : SameOk m := by
  induction m using Nat.strongRecOn with
  | _ m ih => exact same_of m hM fun j hj => ih j hj (by omega)
set_option maxHeartbeats 1000000 in
set_option maxRecDepth 100000 in
/-- equal programs are the same -/
theorem iProgramSame_same (vt vb vt' vb' : Value) (ts : List Int) (l : List St) (B : Nat) (w : World) (ht : IntS w B vt ts) (hl : StS w B vb l) (ht' : IntS w B vt' ts) (hl' : StS w B vb' l) (hB : B ≤ w.heap.size) (hsz : szL l ≤ 4194304) :
    Calls Try.prog 14 #[.agg #[vt, vb], .agg #[vt', vb']] w (TruRet w) := by
  have hb2 : Below w.heap.size w ((w.alloc (.cells #[vt, vb] 26)).alloc (.cells #[vt', vb'] 26)) := (bel_a w _).alloc (by simp) _
  have HB2 := Lib.hid hb2
  have HT := Lib.hid (ht.low hb2 hB)
  have HT' := Lib.hid (ht'.low hb2 hB)
  have HL := Lib.hid (hl.low hb2 hB)
  have HL' := Lib.hid (hl'.low hb2 hB)
  have HR1 := Lib.hid ((RowB.new w [vt, vb] 26).alloc (.cells #[vt', vb'] 26))
  have HR2 := Lib.hid (RowB.new (w.alloc (.cells #[vt, vb] 26)) [vt', vb'] 26)
  have hs1 : (w.alloc (.cells #[vt, vb] 26)).heap.size = w.heap.size + 1 := by simp
  rw [hs1] at HR2
  obtain ⟨A1, c1, rfl, -⟩ := ht
  obtain ⟨A2, c2, rfl, -⟩ := ht'
  obtain ⟨A3, c3, rfl, -⟩ := hl.slice
  obtain ⟨A4, c4, rfl, -⟩ := hl'.slice
  clear hb2 hs1 hl hl'
  go_enter Try.func14, Try.ntmps14
  go_upto_region 1 with (at_builtin; fail)
  generalize (w.alloc (.cells #[.slice A1 ts.length c1, .slice A3 l.length c3] 26)).alloc (.cells #[.slice A2 ts.length c2, .slice A4 l.length c4] 26) = w2 at *
  have a0 := HR1.out.cell 0
  have a1 := HR1.out.cell 1
  have b0 := HR2.out.cell 0
  have b1 := HR2.out.cell 1
  simp only [List.getElem?_cons_zero, List.getElem?_cons_succ] at a0 a1 b0 b1
  have hs2 := HB2.out.size
  go_wp2_with (at_builtin; fail)
  refine (equal_any _ _ ts ts B w2 HT.out HT'.out).mono ?_
  rintro e w3 ⟨rfl, n, rfl⟩
  rw [show eqP ts ts = true by simp [eqP]]
  have hb3 := below_of_drewN (w := w2) ⟨n, rfl⟩ w2.heap.size
  have HB3 := Lib.hid (HB2.out.trans (hb3.mono hs2))
  have HL3 := Lib.hid (HL.out.low hb3 (by omega))
  have HL3' := Lib.hid (HL'.out.low hb3 (by omega))
  have c1' := (hb3.cell (p := ⟨w.heap.size, 1, none⟩) HR1.out.lt).trans a1
  have d1' := (hb3.cell (p := ⟨w.heap.size + 1, 1, none⟩) HR2.out.lt).trans b1
  have hs3 := HB3.out.size
  clear a0 a1 b0 b1 hb3
  generalize w2.drewN n = w3 at *
  go_wp2_with (at_builtin; fail)
  refine (same_any (szL l) hsz _ _ l B w3 (Nat.le_refl _) HL3.out HL3'.out (by omega)).mono ?_
  rintro e w4 ⟨rfl, hb4⟩
  go_wp2_with (at_builtin; fail)
  go_ret
  exact ⟨rfl, HB3.out.trans (hb4.mono hs3)⟩

end Go.Proofs.Ytidlifijgooceaa

/- impl: unset, givenSet, UnsetUses, OpenIssues, GivesOf. -/
namespace Go.Proofs.Ytidlifijgooceaa
open Go.RowKit

set_option maxHeartbeats 4000000
end Go.Proofs.Ytidlifijgooceaa

/- Plain: what flows, beside what may be set, what is needed, what leads where. No program in sight. -/
namespace Go.Proofs.Ytidlifijgooceaa

theorem taken_bit {ts : List Int} {p : Pt} {v : Nat} (hv : v < ts.length) : (takenP ts p.op p.x p.y).testBit v = (useP ts p.op p.x p.y (v : Nat) == 2) := by unfold takenP; rw [bm_bit, decide_eq_true hv, Bool.true_and]
theorem trB_set {ts : List Int} {p : Pt} {v : Nat} {b : Bool} (h : setsP p.op p.x = (v : Nat)) : trB false ts p b v = true := by
  unfold trB; rw [setBit_bit, decide_eq_true h]; simp
theorem trB_keep {ts : List Int} {p : Pt} {v : Nat} (hv : v < ts.length) (h : useP ts p.op p.x p.y (v : Nat) ≠ 2) : trB false ts p true v = true := by
  unfold trB; rw [taken_bit hv, beq_false_of_ne h]; simp
theorem Fl.maybe {ts : List Int} {pts : List Pt} {G : Nat → Pt → Nat → Bool} {C : Pt → Bool} {i v e : Nat} (h : Fl ts pts G C i v e) : Ac false ts pts 0 i v := by
  induction h with
  | gen hp hk hv hs _ => exact .gen hp hk hv (trB_set hs)
  | copy hp hk hv hs _ _ _ => exact .gen hp hk hv (trB_set hs)
  | keep hp hk hv _ ht _ ih => exact .keep hp hk ih (trB_keep hv ht)
theorem Fl.used {ts : List Int} {pts : List Pt} {i v e : Nat} (h : Fl ts pts Gset Cset i v e) (hn : Nd ts pts i v) : ∃ p, pts[e]? = some p ∧ setsP p.op p.x = (v : Nat) ∧ ∃ j ∈ p.next, Nd ts pts j v := by
  induction h with
  | gen hp hk _ hs h =>
    have h' := (beq_iff_eq.1 h)
    subst h'
    exact ⟨_, hp, hs, _, hk, hn⟩
  | copy _ _ _ _ hc _ _ => simp [Cset] at hc
  | keep hp hk _ hs _ _ ih => exact ih (.flow hp hk hn hs)
/-- what a loan is of, lies in it afterwards; and stays where it was -/
theorem Fl.loan {ts : List Int} {pts : List Pt} {i k e : Nat} {p : Pt} (hp : pts[i]? = some p) (hk : k ∈ p.next) (ho : p.op = 4 ∨ p.op = 5) (g : Good ts pts) (h : Fl ts pts Gcell Ccell i p.y.toNat e) :
    Fl ts pts Gcell Ccell k p.x.toNat e ∧ Fl ts pts Gcell Ccell k p.y.toNat e := by
  rcases g.ok p (List.mem_of_getElem? hp) with hh | hh | hh | hh
  · omega
  · omega
  · omega
  · have hx := typeOf_in (simple_x hh).2.2
    have hy := typeOf_in (simple_y hh (by omega))
    have hxn : ((p.x.toNat : Nat) : Int) = p.x := by omega
    have hyn : ((p.y.toNat : Nat) : Int) = p.y := by omega
    have hs : setsP p.op p.x = p.x := by unfold setsP; rw [if_pos (by omega)]
    have hne : p.x ≠ p.y := by rcases ho with ho | ho <;> rw [ho] at hh <;> simp [simpleP] at hh <;> exact hh.2.2
    refine ⟨.copy hp hk (by omega) (by rw [hs, hxn]) (by rcases ho with ho | ho <;> simp [Ccell, ho]) h, .keep hp hk (by omega) (by rw [hs, hyn]; exact hne) ?_ h⟩
    rw [hyn]
    rcases ho with ho | ho <;> simp [useP, ho]

end Go.Proofs.Ytidlifijgooceaa

/- Plain: programs behind each other: their points, and what is known at them. No program in sight. -/
namespace Go.Proofs.Ytidlifijgooceaa

/-- a point moved on by n -/
def shP (n : Nat) (p : Pt) : Pt := { p with next := p.next.map (· + n) }
mutual
theorem ptsSt_sh (n at_ : Nat) : ∀ s : St, ptsSt (at_ + n) s = (ptsSt at_ s).map (shP n)
  | .mk op x y m th el => by
    have h1 := fun a => ptsL_sh n a th
    have h2 := fun a => ptsL_sh n a el
    have e1 : ∀ a, (ptsL (a + n) th).length = (ptsL a th).length := fun a => by rw [h1]; simp
    have e2 : ∀ a, (ptsL (a + n) el).length = (ptsL a el).length := fun a => by rw [h2]; simp
    simp only [ptsSt]
    have a1 : at_ + n + 1 = at_ + 1 + n := by omega
    rw [a1, e1]
    have a2 : at_ + 1 + n + (ptsL (at_ + 1) th).length + 1 = at_ + 1 + (ptsL (at_ + 1) th).length + 1 + n := by omega
    rw [a2, e2, h1, h2]
    split
    · simp [shP]; omega
    · split
      · simp [shP]
      · simp [shP]
theorem ptsL_sh (n at_ : Nat) : ∀ l : List St, ptsL (at_ + n) l = (ptsL at_ l).map (shP n)
  | [] => by simp [ptsL]
  | s :: r => by
    have h1 := ptsSt_sh n at_ s
    have h2 := fun a => ptsL_sh n a r
    have e1 : (ptsSt (at_ + n) s).length = (ptsSt at_ s).length := by rw [h1]; simp
    have a1 : at_ + n + (ptsSt at_ s).length = at_ + (ptsSt at_ s).length + n := by omega
    simp only [ptsL, List.map_append]
    rw [e1, a1, h1, h2]
end
/-- the number of points ahead of the end -/
def npL (a : List St) : Nat := (ptsL 0 a).length
theorem ptsP_cat (a b : List St) : ptsP (a ++ b) = ptsL 0 a ++ (ptsP b).map (shP (npL a)) := by
  unfold ptsP npL
  rw [ptsL_append, show 0 + (ptsL 0 a).length = 0 + (ptsL 0 a).length from rfl, ptsL_sh]
  simp [shP]
theorem npL_len (a : List St) : (ptsP a).length = npL a + 1 := ptsP_len a
theorem cat_len (a b : List St) : (ptsP (a ++ b)).length = npL a + (ptsP b).length := by rw [ptsP_cat]; simp [npL]
theorem cat_left {a b : List St} {i : Nat} (h : i < npL a) : (ptsP (a ++ b))[i]? = (ptsP a)[i]? := by
  rw [ptsP_cat, List.getElem?_append_left h]
  unfold ptsP
  rw [List.getElem?_append_left h]
theorem cat_right {a b : List St} (j : Nat) : (ptsP (a ++ b))[npL a + j]? = ((ptsP b)[j]?).map (shP (npL a)) := by
  rw [ptsP_cat, List.getElem?_append_right (by show npL a ≤ _; omega), List.getElem?_map]
  congr 2
  show npL a + j - npL a = j
  omega
theorem end_at (a : List St) : (ptsP a)[npL a]? = some ⟨11, 0, 0, 0, []⟩ := by
  unfold ptsP npL; simp
theorem here_lt {a : List St} {i k : Nat} {p : Pt} (hp : (ptsP a)[i]? = some p) (hk : k ∈ p.next) : i < npL a := by
  have h1 := (List.getElem?_eq_some_iff.1 hp).1
  rw [npL_len] at h1
  rcases Nat.lt_or_ge i (npL a) with h | h
  · exact h
  · have : i = npL a := by omega
    subst this
    rw [end_at] at hp
    injection hp with hp
    subst hp
    cases hk
theorem sh_next {n k : Nat} {p : Pt} (h : k ∈ (shP n p).next) : ∃ j, j ∈ p.next ∧ k = j + n := by
  unfold shP at h
  obtain ⟨j, h1, h2⟩ := List.mem_map.1 h
  exact ⟨j, h1, h2.symm⟩
/-- what is gathered in the first part is gathered in the whole -/
theorem Ac.cat {ev : Bool} {ts : List Int} {a : List St} (b : List St) {f i v : Nat} (h : Ac ev ts (ptsP a) f i v) : Ac ev ts (ptsP (a ++ b)) f i v := by
  induction h with
  | init hv h => exact .init hv h
  | gen hp hk hv h => exact .gen (by rw [cat_left (here_lt hp hk)]; exact hp) hk hv h
  | keep hp hk _ h ih => exact .keep (by rw [cat_left (here_lt hp hk)]; exact hp) hk ih h
/-- what is gathered in the whole: in the first part; in the second, begun with what there is at the first one's end -/
theorem Ac.split {ev : Bool} {ts : List Int} {a b : List St} {f f' i v : Nat} (hf : ∀ v, v < ts.length → (accB ev f' v = true ↔ Ac ev ts (ptsP a) f (npL a) v)) (h : Ac ev ts (ptsP (a ++ b)) f i v) :
    (i < npL a → Ac ev ts (ptsP a) f i v) ∧ (∀ j, i = npL a + j → Ac ev ts (ptsP b) f' j v) := by
  induction h with
  | @init v hv h =>
    refine ⟨fun _ => .init hv h, fun j hj => ?_⟩
    obtain rfl : j = 0 := by omega
    have h0 : npL a = 0 := by omega
    refine .init hv ((hf v hv).2 ?_)
    rw [h0]
    exact .init hv h
  | @gen i k v p hp hk hv h =>
    rcases Nat.lt_or_ge i (npL a) with hi | hi
    · rw [cat_left hi] at hp
      have hA : Ac ev ts (ptsP a) f k v := .gen hp hk hv h
      refine ⟨fun _ => hA, fun j hj => ?_⟩
      have hkn := (ptsP_next a p (List.mem_of_getElem? hp)).2 k hk
      rw [npL_len] at hkn
      obtain rfl : j = 0 := by omega
      exact .init hv ((hf v hv).2 (by rw [show npL a = k by omega]; exact hA))
    · obtain ⟨m, rfl⟩ : ∃ m, i = npL a + m := ⟨i - npL a, by omega⟩
      rw [cat_right, Option.map_eq_some_iff] at hp
      obtain ⟨q, hq, rfl⟩ := hp
      obtain ⟨n, hn, rfl⟩ := sh_next hk
      refine ⟨fun h => by omega, fun j hj => ?_⟩
      obtain rfl : j = n := by omega
      exact .gen hq hn hv h
  | @keep i k v p hp hk hi0 h ih =>
    have hv := hi0.lt
    rcases Nat.lt_or_ge i (npL a) with hi | hi
    · rw [cat_left hi] at hp
      have hA : Ac ev ts (ptsP a) f k v := .keep hp hk (ih.1 hi) h
      refine ⟨fun _ => hA, fun j hj => ?_⟩
      have hkn := (ptsP_next a p (List.mem_of_getElem? hp)).2 k hk
      rw [npL_len] at hkn
      obtain rfl : j = 0 := by omega
      exact .init hv ((hf v hv).2 (by rw [show npL a = k by omega]; exact hA))
    · obtain ⟨m, rfl⟩ : ∃ m, i = npL a + m := ⟨i - npL a, by omega⟩
      rw [cat_right, Option.map_eq_some_iff] at hp
      obtain ⟨q, hq, rfl⟩ := hp
      obtain ⟨n, hn, rfl⟩ := sh_next hk
      refine ⟨fun h => by omega, fun j hj => ?_⟩
      obtain rfl : j = n := by omega
      exact .keep hq hn (ih.2 m rfl) h
/-- what is needed in the first part is needed in the whole; what flows there flows in the whole -/
theorem Nd.cat {ts : List Int} {a : List St} (b : List St) {i v : Nat} (h : Nd ts (ptsP a) i v) : Nd ts (ptsP (a ++ b)) i v := by
  induction h with
  | @use i v p hp hv h =>
    have hi : i < npL a := by
      have h1 := (List.getElem?_eq_some_iff.1 hp).1
      rw [npL_len] at h1
      rcases Nat.lt_or_ge i (npL a) with h2 | h2
      · exact h2
      · have : i = npL a := by omega
        subst this
        rw [end_at] at hp
        injection hp with hp
        subst hp
        exact absurd rfl h
    exact .use (by rw [cat_left hi]; exact hp) hv h
  | flow hp hk _ h ih => exact .flow (by rw [cat_left (here_lt hp hk)]; exact hp) hk ih h
theorem Fl.cat {ts : List Int} {a : List St} {G : Nat → Pt → Nat → Bool} {C : Pt → Bool} (b : List St) {i v e : Nat} (h : Fl ts (ptsP a) G C i v e) : Fl ts (ptsP (a ++ b)) G C i v e := by
  induction h with
  | gen hp hk hv hs h => exact .gen (by rw [cat_left (here_lt hp hk)]; exact hp) hk hv hs h
  | copy hp hk hv hs hc _ ih => exact .copy (by rw [cat_left (here_lt hp hk)]; exact hp) hk hv hs hc ih
  | keep hp hk hv hs ht _ ih => exact .keep (by rw [cat_left (here_lt hp hk)]; exact hp) hk hv hs ht ih

end Go.Proofs.Ytidlifijgooceaa

/- Plain: what parts of a program give each other. No program in sight. -/
namespace Go.Proofs.Ytidlifijgooceaa

end Go.Proofs.Ytidlifijgooceaa

/- Words for the laws on split programs. -/
namespace Go.Proofs.Ytidlifijgooceaa
open Go.RowKit

theorem PgB.ofS {w w1 : World} {vt vb : Value} {ts : List Int} {l : List St} (hb : Below w.heap.size w w1) (ht : IntS w1 w1.heap.size vt ts) (hl : StS w1 w1.heap.size vb l) : PgB w (w1.alloc (.cells #[vt, vb] 26)) w1.heap.size vt vb ts l := by
  have hA := bel_a w1 (.cells #[vt, vb] 26)
  exact ⟨hb.trans (hA.mono hb.size), heap_alloc_new w1 _, (ht.low hA (Nat.le_refl _)).more hA.size, (hl.low hA (Nat.le_refl _)).more hA.size⟩
end Go.Proofs.Ytidlifijgooceaa

/- append of a whole owned slice of statements; impl.SequenceOf. -/
namespace Go.Proofs.Ytidlifijgooceaa
open Go.RowKit

theorem run_app_sts_nil (w : World) (base : Nat) (ty : TypeId) (v : Value) (l : List St) (hP : OSt w base v l) (c : Nat) : (Builtin.append_ #[24, 24] ty #[v, .slice none 0 c]).run Try.prog w = .ok v w := by
  obtain ⟨i0, hi0, hz0, hz1, hz2⟩ := info_parts Try.infoSt
  obtain ⟨es, rfl, h2, -⟩ := hP
  rcases h2.2 with ⟨rfl, h0⟩ | ⟨g, cap, cur, rfl, _, _, hnc, _⟩
  · simp [Builtin.append_, run_underlying Try.underlying24, sizeOf, typeInfo, hi0, Builtin.lenOf, Builtin.firstCells]
  · simp [Builtin.append_, run_underlying Try.underlying24, sizeOf, typeInfo, hi0, Builtin.lenOf, Builtin.firstCells, hnc, storeCells]
/-- an owned row of statements, all of whose blocks lie below top -/
def OStU (w : World) (base top : Nat) (v : Value) (l : List St) : Prop :=
  ∃ es : List Se, l = es.map Se.st ∧ w.ownsRow base 87 6 v es.length (seCells es) ∧ (∀ g, v.ownBlock = some g → g < top) ∧
    ∀ e ∈ es, StX w (fun b => base ≤ b ∧ b < top ∧ v.ownBlock ≠ some b) e.tv e.th ∧ StX w (fun b => base ≤ b ∧ b < top ∧ v.ownBlock ≠ some b) e.ev e.el
theorem OSt.toU {w : World} {base : Nat} {v : Value} {l : List St} (h : OSt w base v l) : OStU w base w.heap.size v l := by
  have hlt := fun g e => (h.own_lt (g := g) e).2
  obtain ⟨es, rfl, h2, h3⟩ := h
  exact ⟨es, rfl, h2, hlt, fun e he => ⟨(h3 e he).1.frame (Nat.le_refl _) fun b hb hl => ⟨⟨hb.1, hl, hb.2⟩, rfl⟩, (h3 e he).2.frame (Nat.le_refl _) fun b hb hl => ⟨⟨hb.1, hl, hb.2⟩, rfl⟩⟩⟩
theorem OStU.below {w w' : World} {base top : Nat} {v : Value} {l : List St} (h : OStU w base top v l) (hb : Below w.heap.size w w') : OStU w' base top v l := by
  obtain ⟨es, rfl, h2, ht, h3⟩ := h
  have hg : w.grownBy w' none := grown_bel hb (Nat.le_refl _) none
  refine ⟨es, rfl, h2.kept hg ?_, ht, fun e he => ?_⟩
  · cases v.ownBlock <;> simp
  · obtain ⟨k1, k2⟩ := h3 e he
    exact ⟨k1.frame hb.size fun b hb' hl => ⟨hb', hb.block b hl⟩, k2.frame hb.size fun b hb' hl => ⟨hb', hb.block b hl⟩⟩
theorem OStU.toO {w : World} {base top : Nat} {v : Value} {l : List St} (h : OStU w base top v l) : OSt w base v l := by
  obtain ⟨es, rfl, h2, ht, h3⟩ := h
  exact ⟨es, rfl, h2, fun e he => ⟨(h3 e he).1.frame (Nat.le_refl _) fun b hb hl => ⟨⟨hb.1, hb.2.2⟩, rfl⟩, (h3 e he).2.frame (Nat.le_refl _) fun b hb hl => ⟨⟨hb.1, hb.2.2⟩, rfl⟩⟩⟩
theorem row_keep {W w' : World} {base n g : Nat} {v : Value} {xs : List Value} {t : TypeId} (h : w'.ownsRow base t 6 v n xs) (hne : v.ownBlock ≠ some g) (hk : ∀ b, b ≠ g → b < w'.heap.size → W.heap[b]? = w'.heap[b]?) : W.ownsRow base t 6 v n xs := by
  refine ⟨h.1, ?_⟩
  rcases h.2 with h' | ⟨g', cap, cur, rfl, hbg, hh, rest⟩
  · exact .inl h'
  · exact .inr ⟨g', cap, cur, rfl, hbg, (hk g' (fun e => hne (by rw [e]; rfl)) (row_lt hh)).trans hh, rest⟩
theorem run_app_sts (w : World) (base base2 top : Nat) (ty : TypeId) (v v2 : Value) (l l2 : List St) (hP : OStU w base top v l) (hQ : OSt w base2 v2 l2) (hbb : base ≤ top) (htb : top < base2) (htw : top < w.heap.size) (hn : l.length + l2.length ≤ 4194304) :
    ∃ v' w', (Builtin.append_ #[24, 24] ty #[v, v2]).run Try.prog w = .ok v' w' ∧ w.grownBy w' v.ownBlock ∧ (v'.ownBlock = v.ownBlock ∨ v'.ownBlock = some w.heap.size) ∧
      ∀ W : World, w'.heap.size ≤ W.heap.size → (∀ b, b ≠ top → b < w'.heap.size → W.heap[b]? = w'.heap[b]?) → OSt W base v' (l ++ l2) := by
  have hP0 := hP.toO
  have hb : base ≤ w.heap.size := by omega
  obtain ⟨es2, rfl, k2, k3⟩ := hQ
  rcases k2.2 with ⟨rfl, h0⟩ | ⟨g2, cap2, cur2, rfl, hg2, hh2, hnc2, hcm2, hcs2, htk2⟩
  · have : es2 = [] := List.length_eq_zero_iff.1 h0
    subst this
    obtain ⟨es, rfl, h2, ht, h3⟩ := hP
    refine ⟨v, w, run_app_sts_nil w base ty v _ hP0 0, World.grownBy.refl w _, .inl rfl, fun W hs hk => ?_⟩
    have hf : ∀ b, (base ≤ b ∧ b < top ∧ v.ownBlock ≠ some b) → b < w.heap.size → (base ≤ b ∧ v.ownBlock ≠ some b) ∧ W.heap[b]? = w.heap[b]? := fun b hb' hl => ⟨⟨hb'.1, hb'.2.2⟩, hk b (by omega) hl⟩
    exact ⟨es, by simp, row_keep h2 (fun e => by have := ht _ e; omega) hk, fun e he => ⟨(h3 e he).1.frame hs hf, (h3 e he).2.frame hs hf⟩⟩
  · obtain ⟨i0, hi0, hz0, hz1, hz2⟩ := info_parts Try.infoSt
    obtain ⟨es, rfl, h2, ht, h3⟩ := hP
    have hrow2 : w.ownsRow base2 87 6 (.slice (some ⟨g2, 0, none⟩) es2.length cap2) es2.length (seCells es2) := k2
    obtain ⟨v', w', hrun, q1, q2, -, q4⟩ := run_append_own_at (P := Try.prog) w base 24 ty 87 i0 _ 6 80 Try.underlying24 hi0 hz0 hz1 hz2 rfl (by omega) v es.length _ h2 ⟨g2, 0, none⟩ es2.length cap2 (seCells es2) (seCells_len es2)
      (fun j u h => by
        have hj : j < (seCells es2).length := by
          rcases Nat.lt_or_ge j (seCells es2).length with h' | h'
          · exact h'
          · rw [List.getElem?_eq_none h'] at h; cases h
        have := hrow2.cellAt j (by rw [seCells_len] at hj; omega)
        rw [h] at this
        unfold Addr.add
        by_cases hj0 : j = 0
        · subst hj0; simpa using this
        · simpa [hj0] using this)
      (fun u hu => by
        have : ∀ (es : List Se), (∀ e ∈ es, Value.oneCell' e.tv = true ∧ Value.oneCell' e.ev = true) → ∀ u ∈ seCells es, u.oneCell' = true := by
          intro es
          induction es with
          | nil => intro _ u hu; simp [seCells] at hu
          | cons e r ih =>
            intro he u hu
            simp only [seCells, List.mem_cons] at hu
            have h0 := he e (by simp)
            rcases hu with rfl | rfl | rfl | rfl | rfl | rfl | hu
            · rfl
            · rfl
            · rfl
            · rfl
            · exact h0.1
            · exact h0.2
            · exact ih (fun e' h' => he e' (by simp [h'])) u hu
        exact this es2 (fun e he => ⟨(k3 e he).1.one, (k3 e he).2.one⟩) u hu)
      (by simp at hn; simp only [maxLen]; omega) (by simp at hn; omega) hb
    refine ⟨v', w', hrun, q2, q4, fun W hs hk => ?_⟩
    have hs2 := q2.size
    have hf1 : ∀ b, (base ≤ b ∧ b < top ∧ v.ownBlock ≠ some b) → b < w.heap.size → (base ≤ b ∧ v'.ownBlock ≠ some b) ∧ W.heap[b]? = w.heap[b]? := by
      intro b hb' hl
      refine ⟨⟨hb'.1, ?_⟩, (hk b (by omega) (by omega)).trans (q2.block b hl (fun e => hb'.2.2 e.symm))⟩
      rcases q4 with hv | hv
      · rw [hv]; exact hb'.2.2
      · rw [hv]; intro e; injection e with e; omega
    have hf2 : ∀ b, (base2 ≤ b ∧ (Value.slice (some ⟨g2, 0, none⟩) es2.length cap2).ownBlock ≠ some b) → b < w.heap.size → (base ≤ b ∧ v'.ownBlock ≠ some b) ∧ W.heap[b]? = w.heap[b]? := by
      intro b hb' hl
      have hnv : v.ownBlock ≠ some b := fun e => by have := ht _ e; omega
      refine ⟨⟨by omega, ?_⟩, (hk b (by omega) (by omega)).trans (q2.block b hl (fun e => hnv e.symm))⟩
      rcases q4 with hv | hv
      · rw [hv]; exact hnv
      · rw [hv]; intro e; injection e with e; omega
    refine ⟨es ++ es2, by simp, ?_, ?_⟩
    · rw [seCells_append, List.length_append]
      refine row_keep q1 (fun e => ?_) hk
      rcases q4 with hv | hv
      · rw [hv] at e; have := ht _ e; omega
      · rw [hv] at e; injection e with e; omega
    · intro e he
      rcases List.mem_append.1 he with he | he
      · obtain ⟨a, b⟩ := h3 e he
        exact ⟨a.frame (by omega) hf1, b.frame (by omega) hf1⟩
      · obtain ⟨a, b⟩ := k3 e he
        exact ⟨a.frame (by omega) hf2, b.frame (by omega) hf2⟩
theorem step_app_sts {ops : Array Oper} {o : Oper} {a : Act} {K : Act → World → Prop} {Q : Exit → Act → World → Prop} {E : Prop} {w : World} (hgd : o.guard = none) (s x : Operand)
    (ho : o.op = .call { callee := .builtin .append, args := #[s, x], argTypes := #[24, 24] })
    (base base2 top : Nat) (v v2 : Value) (l l2 : List St) (hs : a.eval s = v) (hP : OStU w base top v l) (hx : a.eval x = v2) (hQ : OSt w base2 v2 l2) (hbb : base ≤ top) (htb : top < base2) (htw : top < w.heap.size) (hn : l.length + l2.length ≤ 4194304)
    (h : ∀ v' w', w.grownBy w' v.ownBlock → (∀ W : World, w'.heap.size ≤ W.heap.size → (∀ b, b ≠ top → b < w'.heap.size → W.heap[b]? = w'.heap[b]?) → OSt W base v' (l ++ l2)) → K (a.put o.dst v') w') :
    if Region.wanted o (yielded ops a.tmps) = true then Oper.wp Try.prog o a w K Q else E := by
  have hw : Region.wanted o (yielded ops a.tmps) = true := by simp [Region.wanted, hgd]
  rw [if_pos hw]
  obtain ⟨v', w', hrun, h3, -, h4⟩ := run_app_sts w base base2 top o.type v v2 l l2 hP hQ hbb htb htw hn
  unfold Oper.wp execOp
  simp only [ho, resolve, invoke, builtin, Sem.run_bind, Sem.run_pure, Result.andThen_ok, List.map_toArray, List.map_cons, List.map_nil, hs, hx, hrun]
  exact h v' w' h3 h4
theorem boxR {w : World} {g : Nat} {t : TypeId} {v0 v1 : Value} (h : RowB w g t [v0, v1]) (u0 u1 : Value) : ((w.setCell ⟨g, 0, none⟩ u0).setCell ⟨g, 1, none⟩ u1).heap[g]? = some (.cells #[u0, u1] t (0, 0)) := ((h.set_ 0 u0).set_ 1 u1)
theorem OInts.moveTo {w w' : World} {base lo : Nat} {v : Value} {l : List Int} (h : OInts w base v l) (hne : ∀ g, v.ownBlock = some g → g < lo) (hk : ∀ b, base ≤ b → b < lo → w'.heap[b]? = w.heap[b]?) : OInts w' base v l := by
  refine ⟨h.1, ?_⟩
  rcases h.2 with h' | ⟨g, cap, cur, rfl, hbg, hh, rest⟩
  · exact .inl h'
  · exact .inr ⟨g, cap, cur, rfl, hbg, (hk g hbg (hne g rfl)).trans hh, rest⟩
theorem cat_close {w3 w4 w6 w7 : World} {lo : Nat} {v4 v7 x y : Value} {T : TypeId} {l : List St} (h34 : Below w3.heap.size w3 w4) (hlo : w3.heap.size ≤ lo) (hlo4 : lo ≤ w4.heap.size) (how : ∀ g, v4.ownBlock = some g → lo ≤ g)
    (h46 : Below w4.heap.size w4 w6) (hg7 : w6.grownBy w7 v4.ownBlock) (hX : RowB w7 w4.heap.size T [x, y]) (hK : ∀ W : World, w7.heap.size ≤ W.heap.size → (∀ b, b ≠ w4.heap.size → b < w7.heap.size → W.heap[b]? = w7.heap[b]?) → OSt W lo v7 l) :
    OSt (w7.setCell ⟨w4.heap.size, 1, none⟩ v7) lo v7 l ∧ RowB (w7.setCell ⟨w4.heap.size, 1, none⟩ v7) w4.heap.size T [x, v7] ∧ Below w3.heap.size w3 (w7.setCell ⟨w4.heap.size, 1, none⟩ v7) ∧
      (∀ b, b < lo → (w7.setCell ⟨w4.heap.size, 1, none⟩ v7).heap[b]? = w4.heap[b]?) ∧ w4.heap.size < (w7.setCell ⟨w4.heap.size, 1, none⟩ v7).heap.size := by
  have hset : ∀ b, b ≠ w4.heap.size → (w7.setCell ⟨w4.heap.size, 1, none⟩ v7).heap[b]? = w7.heap[b]? := fun b hb => Below.heap_setCell w7 ⟨w4.heap.size, 1, none⟩ v7 b hb
  have hsz : (w7.setCell ⟨w4.heap.size, 1, none⟩ v7).heap.size = w7.heap.size := by simp [World.setCell]
  have hs3 := h34.size
  have hs6 := h46.size
  have hs7 := hg7.size
  have h67 : Below lo w6 w7 := ⟨hg7.os, hg7.tape, hg7.output, hg7.size, fun b hb => hg7.block b (by omega) (fun e => by have := how b e.symm; omega)⟩
  refine ⟨hK _ (by omega) fun b hb _ => hset b hb, hX.set_ 1 v7, ?_, fun b hb => ?_, by have := hX.lt; omega⟩
  · exact (h34.trans ((h46.mono hs3).trans (h67.mono hlo))).setCell (p := ⟨w4.heap.size, 1, none⟩) hs3 _
  · exact (hset b (by omega)).trans ((h67.block b hb).trans (h46.block b (by omega)))
def catOk (ts ts' : List Int) (la lb : List St) : Bool := validP ts la && (validP ts' lb && (eqP ts ts' && validP ts (la ++ lb)))
def CatRet (w : World) (ts ts' : List Int) (la lb : List St) (e : Ending) (w' : World) : Prop :=
  ∃ vt vb, e = .returned (.tuple #[.agg #[vt, vb], .bool (catOk ts ts' la lb)]) ∧ IntS w' w'.heap.size vt (if catOk ts ts' la lb then ts else []) ∧ StS w' w'.heap.size vb (if catOk ts ts' la lb then la ++ lb else []) ∧ Below w.heap.size w w'
set_option maxHeartbeats 4000000 in
set_option maxRecDepth 100000 in
theorem iSequenceOf_any (vt vb vt' vb' : Value) (ts ts' : List Int) (la lb : List St) (B : Nat) (w : World) (ht : IntS w B vt ts) (hl : StS w B vb la) (ht' : IntS w B vt' ts') (hl' : StS w B vb' lb) (hB : B ≤ w.heap.size) (hts : ts.length ≤ 4000000) (hsz : szL la + szL lb ≤ 4194000) :
    Calls Try.prog 19 #[.agg #[vt, vb], .agg #[vt', vb']] w (CatRet w ts ts' la lb) := by
  have hlla := len_le_szL la
  have hllb := len_le_szL lb
  have ht0 := ht
  have ht0' := ht'
  obtain ⟨At, ct, rfl, -, -, -⟩ := ht0
  obtain ⟨Ab, cb, rfl, -⟩ := hl.slice
  obtain ⟨At', ct', rfl, -, -, -⟩ := ht0'
  obtain ⟨Ab', cb', rfl, -⟩ := hl'.slice
  have HR0 := Lib.hid (((RowB.new w [.slice At ts.length ct, .slice Ab la.length cb] 26).alloc (.cells #[.slice At' ts'.length ct', .slice Ab' lb.length cb'] 26)).alloc (.cells #[.slice none 0 0, .slice none 0 0] 26))
  have HR1 := Lib.hid ((RowB.new (w.alloc (.cells #[.slice At ts.length ct, .slice Ab la.length cb] 26)) [.slice At' ts'.length ct', .slice Ab' lb.length cb'] 26).alloc (.cells #[.slice none 0 0, .slice none 0 0] 26))
  have HR2 := Lib.hid (RowB.new ((w.alloc (.cells #[.slice At ts.length ct, .slice Ab la.length cb] 26)).alloc (.cells #[.slice At' ts'.length ct', .slice Ab' lb.length cb'] 26)) [.slice none 0 0, .slice none 0 0] 26)
  have HB0 := Lib.hid (((bel_a w (.cells #[.slice At ts.length ct, .slice Ab la.length cb] 26)).alloc (by simp) (.cells #[.slice At' ts'.length ct', .slice Ab' lb.length cb'] 26)).alloc (by simp; omega) (.cells #[.slice none 0 0, .slice none 0 0] 26))
  have hz1 : (w.alloc (.cells #[.slice At ts.length ct, .slice Ab la.length cb] 26)).heap.size = w.heap.size + 1 := by simp
  have hz2 : ((w.alloc (.cells #[.slice At ts.length ct, .slice Ab la.length cb] 26)).alloc (.cells #[.slice At' ts'.length ct', .slice Ab' lb.length cb'] 26)).heap.size = w.heap.size + 2 := by simp
  rw [hz1] at HR1
  rw [hz2] at HR2
  have HT := Lib.hid ht
  have HL := Lib.hid hl
  have HT' := Lib.hid ht'
  have HL' := Lib.hid hl'
  clear hz1 hz2 ht hl ht' hl'
  go_enter Try.func19, Try.ntmps19
  go_upto_region 1 with (at_builtin; fail)
  generalize ((w.alloc (.cells #[.slice At ts.length ct, .slice Ab la.length cb] 26)).alloc (.cells #[.slice At' ts'.length ct', .slice Ab' lb.length cb'] 26)).alloc (.cells #[.slice none 0 0, .slice none 0 0] 26) = W at *
  have FAIL : Hid (catOk ts ts' la lb = false → ∀ W', Below w.heap.size w W' → CatRet w ts ts' la lb (.returned (.tuple #[.agg #[.slice none 0 0, .slice none 0 0], .bool false])) W') := Lib.hid fun h W' hW => by
    refine ⟨_, _, by rw [h], ?_, ?_, hW⟩ <;> rw [h] <;> first | exact IntS.nil' _ _ _ _ | exact StS.zero _
  have c0 := HR0.out.cell 0
  have c1 := HR0.out.cell 1
  have d0 := HR1.out.cell 0
  have d1 := HR1.out.cell 1
  simp only [List.getElem?_cons_zero, List.getElem?_cons_succ] at c0 c1 d0 d1
  have hsW := HB0.out.size
  go_wp2_with (at_builtin; fail)
  refine (iProgramValid_any _ _ ts la B W (HT.out.low HB0.out hB) (HL.out.low HB0.out hB) (by omega) (by omega)).mono ?_
  rintro e w1 ⟨rfl, hb1⟩
  have HB1 := Lib.hid (HB0.out.trans (hb1.mono hsW))
  have HR0 := Lib.hid (HR0.out.low hb1 HR0.out.lt)
  have HR1 := Lib.hid (HR1.out.low hb1 HR1.out.lt)
  have HR2 := Lib.hid (HR2.out.low hb1 HR2.out.lt)
  clear c0 c1 d0 d1 hb1
  have c0 := HR0.out.cell 0
  have c1 := HR0.out.cell 1
  have d0 := HR1.out.cell 0
  have d1 := HR1.out.cell 1
  have y0 := HR2.out.cell 0
  have y1 := HR2.out.cell 1
  have yf0 := HR2.out.frozen 0
  have yf1 := HR2.out.frozen 1
  simp only [List.getElem?_cons_zero, List.getElem?_cons_succ] at c0 c1 d0 d1 y0 y1
  have hs1 := HB1.out.size
  cases hok : validP ts la
  · have HNO := Lib.hid (FAIL.out (by unfold catOk; rw [hok]; rfl))
    clear hok
    go_wp2_with (at_builtin; fail)
    refine bodyPost_ret (res_box (u := 5) rfl _ _ (w.heap.size + 1 + 1) 26 _ (0, 0) _ rfl (boxR HR2.out (.slice none 0 0) (.slice none 0 0)) Try.underlying26 rfl rfl) rfl ?_
    exact HNO.out _ ((HB1.out.setCell (p := ⟨w.heap.size + 1 + 1, 0, none⟩) (by show w.heap.size ≤ w.heap.size + 1 + 1; omega) _).setCell (p := ⟨w.heap.size + 1 + 1, 1, none⟩) (by show w.heap.size ≤ w.heap.size + 1 + 1; omega) _)
  · have HVA := Lib.hid hok
    clear hok
    go_wp2_with (at_builtin; fail)
    refine (iProgramValid_any _ _ ts' lb B w1 (HT'.out.low HB1.out hB) (HL'.out.low HB1.out hB) (by omega) (by omega)).mono ?_
    rintro e w2 ⟨rfl, hb2⟩
    have HB2 := Lib.hid (HB1.out.trans (hb2.mono hs1))
    have HR0 := Lib.hid (HR0.out.low hb2 HR0.out.lt)
    have HR1 := Lib.hid (HR1.out.low hb2 HR1.out.lt)
    have HR2 := Lib.hid (HR2.out.low hb2 HR2.out.lt)
    clear c0 c1 d0 d1 y0 y1 yf0 yf1 hb2
    have c0 := HR0.out.cell 0
    have c1 := HR0.out.cell 1
    have d0 := HR1.out.cell 0
    have d1 := HR1.out.cell 1
    have y0 := HR2.out.cell 0
    have y1 := HR2.out.cell 1
    have yf0 := HR2.out.frozen 0
    have yf1 := HR2.out.frozen 1
    simp only [List.getElem?_cons_zero, List.getElem?_cons_succ] at c0 c1 d0 d1 y0 y1
    have hs2 := HB2.out.size
    cases hok : validP ts' lb
    · have HNO := Lib.hid (FAIL.out (by unfold catOk; rw [HVA.out, hok]; rfl))
      clear hok
      go_wp2_with (at_builtin; fail)
      refine bodyPost_ret (res_box (u := 5) rfl _ _ (w.heap.size + 1 + 1) 26 _ (0, 0) _ rfl (boxR HR2.out (.slice none 0 0) (.slice none 0 0)) Try.underlying26 rfl rfl) rfl ?_
      exact HNO.out _ ((HB2.out.setCell (p := ⟨w.heap.size + 1 + 1, 0, none⟩) (by show w.heap.size ≤ w.heap.size + 1 + 1; omega) _).setCell (p := ⟨w.heap.size + 1 + 1, 1, none⟩) (by show w.heap.size ≤ w.heap.size + 1 + 1; omega) _)
    · have HVB := Lib.hid hok
      clear hok
      go_wp2_with (at_builtin; fail)
      refine (equal_any _ _ ts ts' B w2 (HT.out.low HB2.out hB) (HT'.out.low HB2.out hB)).mono ?_
      rintro e w3 ⟨rfl, hn3⟩
      have hb3 := below_of_drewN hn3 w2.heap.size
      clear hn3
      have HB3 := Lib.hid (HB2.out.trans (hb3.mono hs2))
      have HR0 := Lib.hid (HR0.out.low hb3 HR0.out.lt)
      have HR1 := Lib.hid (HR1.out.low hb3 HR1.out.lt)
      have HR2 := Lib.hid (HR2.out.low hb3 HR2.out.lt)
      clear c0 c1 d0 d1 y0 y1 yf0 yf1 hb3
      have c0 := HR0.out.cell 0
      have c1 := HR0.out.cell 1
      have d0 := HR1.out.cell 0
      have d1 := HR1.out.cell 1
      have y0 := HR2.out.cell 0
      have y1 := HR2.out.cell 1
      have yf0 := HR2.out.frozen 0
      have yf1 := HR2.out.frozen 1
      simp only [List.getElem?_cons_zero, List.getElem?_cons_succ] at c0 c1 d0 d1 y0 y1
      have hs3 := HB3.out.size
      cases hok : eqP ts ts'
      · have HNO := Lib.hid (FAIL.out (by unfold catOk; rw [HVA.out, HVB.out, hok]; rfl))
        clear hok
        go_wp2_with (at_builtin; fail)
        refine bodyPost_ret (res_box (u := 5) rfl _ _ (w.heap.size + 1 + 1) 26 _ (0, 0) _ rfl (boxR HR2.out (.slice none 0 0) (.slice none 0 0)) Try.underlying26 rfl rfl) rfl ?_
        exact HNO.out _ ((HB3.out.setCell (p := ⟨w.heap.size + 1 + 1, 0, none⟩) (by show w.heap.size ≤ w.heap.size + 1 + 1; omega) _).setCell (p := ⟨w.heap.size + 1 + 1, 1, none⟩) (by show w.heap.size ≤ w.heap.size + 1 + 1; omega) _)
      · have HEQ := Lib.hid hok
        clear hok
        go_wp2_with (at_builtin; fail)
        have HW3 := Lib.hid (show w.heap.size + 1 + 1 < w3.heap.size from HR2.out.lt)
        refine (pown_any _ _ ts la B w3 (HT.out.low HB3.out hB) (HL.out.low HB3.out hB) (by omega) hts (by omega)).mono ?_
        rintro e w4 ⟨v4, u4, lo, rfl, hoi4, hne4, hos4, hlo4, hlo4', hb4⟩
        obtain ⟨P4, p4, rfl, -⟩ := hoi4.slice
        obtain ⟨Q4, q4, rfl, -⟩ := hos4.slice
        have HOI4 := Lib.hid hoi4
        have HNE4 := Lib.hid hne4
        have HOS4 := Lib.hid hos4
        have HB34 := Lib.hid hb4
        have h34 := hb4.size
        clear hoi4 hne4 hos4
        have HB4 := Lib.hid (HB3.out.trans (hb4.mono hs3))
        have HR0 := Lib.hid (HR0.out.low hb4 HR0.out.lt)
        have HR1 := Lib.hid (HR1.out.low hb4 HR1.out.lt)
        have HR2 := Lib.hid (HR2.out.low hb4 HR2.out.lt)
        clear c0 c1 d0 d1 y0 y1 yf0 yf1 hb4
        have c0 := HR0.out.cell 0
        have c1 := HR0.out.cell 1
        have d0 := HR1.out.cell 0
        have d1 := HR1.out.cell 1
        have y0 := HR2.out.cell 0
        have y1 := HR2.out.cell 1
        have yf0 := HR2.out.frozen 0
        have yf1 := HR2.out.frozen 1
        simp only [List.getElem?_cons_zero, List.getElem?_cons_succ] at c0 c1 d0 d1 y0 y1
        have hs4 := HB4.out.size
        go_upto_region 4 with (at_builtin; fail)
        have HX5 := Lib.hid (RowB.new w4 [.slice P4 ts.length p4, .slice Q4 la.length q4] 26)
        have HB5 := Lib.hid (bel_a w4 (.cells #[.slice P4 ts.length p4, .slice Q4 la.length q4] 26))
        have HU5 := Lib.hid (HOS4.out.toU.below HB5.out)
        have HHOW := Lib.hid (fun g e => (HOS4.out.own_lt (g := g) e))
        have hd5 := (HB5.out.cell (p := ⟨w.heap.size + 1, 1, none⟩) HR1.out.lt).trans d1
        generalize w4.alloc (.cells #[.slice P4 ts.length p4, .slice Q4 la.length q4] 26) = w5 at *
        have hs5 := HX5.out.lt
        have o1 := HX5.out.cell 1
        simp only [List.getElem?_cons_zero, List.getElem?_cons_succ] at o1
        go_cut [] from 26 to 32 (fun wx => ∃ Q7 q7, OSt wx lo (.slice Q7 (la.length + lb.length) q7) (la ++ lb) ∧ RowB wx w4.heap.size 26 [.slice P4 ts.length p4, .slice Q7 (la.length + lb.length) q7] ∧ Below w3.heap.size w3 wx ∧ (∀ b, b < lo → wx.heap[b]? = w4.heap[b]?) ∧ w4.heap.size < wx.heap.size)
        case first =>
          have C6 := Lib.hid (own_any (szL lb) (by omega) (.slice Ab' lb.length cb') lb B w5.drew (Nat.le_refl _) (((HL'.out.low HB4.out hB).low HB5.out (by omega)).keep fun _ _ _ => rfl) (by show B ≤ w5.heap.size; omega))
          have tok1 : True := trivial
          go_region_law (first
            | (have _t := tok2; refine step_app_sts (by rfl) (.tmp 27) (.tmp 30) (by rfl) lo w5.heap.size w4.heap.size (.slice Q4 la.length q4) (.slice Q6 lb.length q6) la lb (by rfl) HU6.out (by rfl) HOS6.out hlo4' hs5 (by omega) (by omega) ?_; intro v7 w7 hg7 hK7; clear tok2 _t; (obtain ⟨Q7, q7, hq7, -⟩ := (hK7 w7 (Nat.le_refl _) fun _ _ _ => rfl).slice); (rw [List.length_append] at hq7); (subst hq7); (have HG7 := Lib.hid hg7); (have HK7 := Lib.hid hK7); (have HX7 : Hid (RowB w7 w4.heap.size 26 [.slice P4 ts.length p4, .slice Q4 la.length q4]) := Lib.hid ((hg7.block w4.heap.size (by omega) (fun e => by have := (HHOW.out _ e.symm).2; omega)).trans HX6.out)); (have o7 := HX7.out.cell 1); (have of7 := HX7.out.frozen 1); (simp only [List.getElem?_cons_zero, List.getElem?_cons_succ] at o7); clear hg7 hK7)
            | (have _t := tok1; go_simp; go_at_call 60; refine C6.out.mono ?_; rintro e w6 ⟨v6, rfl, hos6, hb6⟩; clear tok1 _t; (obtain ⟨Q6, q6, rfl, -⟩ := hos6.slice); (have HOS6 := Lib.hid (show OSt w6 w5.heap.size (.slice Q6 lb.length q6) lb from hos6)); (have HB6 := Lib.hid (show Below w5.heap.size w5 w6 from (Below.refl w5.heap.size w5).drew.trans hb6)); (have HU6 := Lib.hid (HU5.out.below HB6.out)); (have HX6 := Lib.hid (HX5.out.low HB6.out hs5)); (have o6 := (HB6.out.cell (p := ⟨w4.heap.size, 1, none⟩) hs5).trans o1); (have hs6 := HB6.out.size); clear hos6 hb6; (have tok2 : True := trivial))
            | fail)
          all_goals
            go_wp2_with (at_builtin; fail)
            go_meet
            exact ⟨_, _, cat_close HB34.out hlo4 hlo4' (fun g e => (HHOW.out g e).1) (HB5.out.trans (HB6.out.mono (by omega))) HG7.out HX7.out HK7.out⟩
        case rest =>
          rename World => w8
          obtain ⟨Q7, q7, hos8, hx8, hb8, hk8, hs8⟩ := hcut
          have HOS8 := Lib.hid hos8
          have HX8 := Lib.hid hx8
          have HW38 := HW3.out
          have HR2 := Lib.hid ((hk8 (w.heap.size + 1 + 1) (by omega)).trans HR2.out)
          have HOI8 := Lib.hid (HOI4.out.moveTo HNE4.out fun b _ h => hk8 b h)
          have HB8 := Lib.hid (HB3.out.trans (hb8.mono hs3))
          have hs38 := hb8.size
          clear hos8 hx8 hb8 hk8 c0 c1 d0 d1 y0 y1 yf0 yf1 hd5 o1
          have o0 := HX8.out.cell 0
          have o1 := HX8.out.cell 1
          simp only [List.getElem?_cons_zero, List.getElem?_cons_succ] at o0 o1
          go_wp2_with (at_builtin; fail)
          refine (iProgramValid_any _ _ ts (la ++ lb) w8.heap.size w8 (HOI8.out.toS (by omega)) (by have := HOS8.out.toX.toS; exact this) (Nat.le_refl _) (by rw [szL_append]; omega)).mono ?_
          rintro e w9 ⟨rfl, hb9⟩
          have HR2 : Hid (RowB w9 (w.heap.size + 1 + 1) 26 [.slice none 0 0, .slice none 0 0]) := Lib.hid (RowB.low HR2.out hb9 (by omega))
          have HX9 := Lib.hid (HX8.out.low hb9 HX8.out.lt)
          have HB9 := Lib.hid (HB8.out.trans (hb9.mono (by omega)))
          have HBS := Lib.hid hb9
          have hs9 := hb9.size
          clear o0 o1 hb9
          have o0 := HX9.out.cell 0
          have o1 := HX9.out.cell 1
          have y0 := HR2.out.cell 0
          have y1 := HR2.out.cell 1
          have yf0 := HR2.out.frozen 0
          have yf1 := HR2.out.frozen 1
          simp only [List.getElem?_cons_zero, List.getElem?_cons_succ] at o0 o1 y0 y1
          cases hok : validP ts (la ++ lb)
          · have HNO := Lib.hid (FAIL.out (by unfold catOk; rw [HVA.out, HVB.out, HEQ.out, hok]; rfl))
            clear hok
            go_wp2_with (at_builtin; fail)
            refine bodyPost_ret (res_box (u := 5) rfl _ _ (w.heap.size + 1 + 1) 26 _ (0, 0) _ rfl (boxR HR2.out (.slice none 0 0) (.slice none 0 0)) Try.underlying26 rfl rfl) rfl ?_
            exact HNO.out _ ((HB9.out.setCell (p := ⟨w.heap.size + 1 + 1, 0, none⟩) (by show w.heap.size ≤ w.heap.size + 1 + 1; omega) _).setCell (p := ⟨w.heap.size + 1 + 1, 1, none⟩) (by show w.heap.size ≤ w.heap.size + 1 + 1; omega) _)
          · have HOK : Hid (catOk ts ts' la lb = true) := Lib.hid (by unfold catOk; rw [HVA.out, HVB.out, HEQ.out, hok]; rfl)
            clear hok
            go_wp2_with (at_builtin; fail)
            refine bodyPost_ret (res_box (u := 5) rfl _ _ (w.heap.size + 1 + 1) 26 _ (0, 0) _ rfl (boxR HR2.out (.slice P4 ts.length p4) (.slice Q7 (la.length + lb.length) q7)) Try.underlying26 rfl rfl) rfl ?_
            have hset : ∀ b, b ≠ w.heap.size + 1 + 1 → ((w9.setCell ⟨w.heap.size + 1 + 1, 0, none⟩ (.slice P4 ts.length p4)).setCell ⟨w.heap.size + 1 + 1, 1, none⟩ (.slice Q7 (la.length + lb.length) q7)).heap[b]? = w9.heap[b]? := fun b hb => by
              rw [Below.heap_setCell _ _ _ _ hb, Below.heap_setCell _ _ _ _ hb]
            have F := own_reads (w' := (w9.setCell ⟨w.heap.size + 1 + 1, 0, none⟩ (.slice P4 ts.length p4)).setCell ⟨w.heap.size + 1 + 1, 1, none⟩ (.slice Q7 (la.length + lb.length) q7)) HOI8.out HOS8.out hlo4 (by simp only [World.size_setCell]; exact hs9) (fun b h1 h2 => (hset b (by omega)).trans (HBS.out.block b h2)) hts
            refine ⟨_, _, by rw [HOK.out]; rfl, ?_, ?_, (HB9.out.setCell (p := ⟨w.heap.size + 1 + 1, 0, none⟩) (by show w.heap.size ≤ w.heap.size + 1 + 1; omega) _).setCell (p := ⟨w.heap.size + 1 + 1, 1, none⟩) (by show w.heap.size ≤ w.heap.size + 1 + 1; omega) _⟩
            · rw [HOK.out]; exact F.1
            · rw [HOK.out]; exact F.2
end Go.Proofs.Ytidlifijgooceaa
