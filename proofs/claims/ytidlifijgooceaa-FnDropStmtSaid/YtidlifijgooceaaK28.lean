import Derived.Test.YtidlifijgooceaaK27
import Derived.Test.YtidlifijgooceaaK23
import Derived.Deep.RegionLaw
import Derived.Test.YtidlifijgooceaaK01
import Derived.Deep.CutBlock
import Derived.Deep.DeepCutAuto
import Derived.Test.YtidlifijgooceaaK07
import Derived.Test.YtidlifijgooceaaK09
import Derived.IntWalk
import Derived.Test.YtidlifijgooceaaK18
import Derived.Test.YtidlifijgooceaaK26
import Derived.Test.YtidlifijgooceaaK12
import Derived.Test.YtidlifijgooceaaK06
set_option linter.unusedVariables false

/- DrawNeedsOf, DrawTakesOf. -/
namespace Go.Proofs.Ytidlifijgooceaa
open Go.RowKit

theorem grown_new {w a b : World} {g : Nat} (h : Below w.heap.size w a) (hg : w.heap.size ≤ g) (k : a.grownBy b (some g)) : Below w.heap.size w b :=
  ⟨k.os.trans h.os, k.tape.trans h.tape, k.output.trans h.output, Nat.le_trans h.size k.size, fun i hi => (k.block i (Nat.lt_of_lt_of_le hi h.size) (fun e => by injection e with e; omega)).trans (h.block i hi)⟩
/-- statements without the first -/
theorem StX.tail {w : World} {P : Nat → Prop} {b off n c : Nat} {l : List St} (h : StX w P (.slice (some ⟨b, off, none⟩) n c) l) (hn : 0 < l.length) : StX w P (.slice (some ⟨b, off + 6, none⟩) (n - 1) (c - 1)) l.tail := by
  cases h with
  | mk A c l tv ev hc hr ht he =>
    obtain ⟨b', off', e, hb, hlt, hcell⟩ := hr hn
    injection e with e
    injection e with e1 e2
    subst e1 e2
    have hlen : l.length - 1 = l.tail.length := by simp
    rw [hlen]
    have hget : ∀ i (hi : i < l.tail.length), l.tail[i] = l[i + 1]'(by simp at hi; omega) := fun i hi => by simp
    refine .mk _ _ _ (fun i => tv (i + 1)) (fun i => ev (i + 1)) (by simp; omega) (fun _ => ⟨b, off + 6, rfl, hb, hlt, fun i hi => ?_⟩) (fun i hi => ?_) (fun i hi => ?_)
    · have := hcell (i + 1) (by simp at hi; omega)
      rw [hget]
      have e : off + (i + 1) * 6 = off + 6 + i * 6 := by omega
      rw [e] at this
      exact this
    · rw [hget]; exact ht (i + 1) (by simp at hi; omega)
    · rw [hget]; exact he (i + 1) (by simp at hi; omega)
end Go.Proofs.Ytidlifijgooceaa

/- spec.l2Branch, l3Place, the draws of the flow laws. -/
namespace Go.Proofs.Ytidlifijgooceaa
open Go.RowKit

set_option maxHeartbeats 4000000
set_option maxRecDepth 100000

def PlRet (w : World) (e : Ending) (w' : World) : Prop :=
  ∃ (vt vb : Value) (ts : List Int) (l : List St) (a : Int), e = .returned (.tuple #[.agg #[vt, vb], .int .i64 a]) ∧ IntX w' (fun b => w.heap.size ≤ b) vt ts ∧ StX w' (fun b => w.heap.size ≤ b) vb l ∧ ts.length ≤ 700 ∧ szL l ≤ 100000 ∧ Below w.heap.size w w'

theorem pl_set {w : World} {b g : Nat} {u0 u1 : Value} (hne : b ≠ g) (h0 : w.cell? ⟨b, 0, none⟩ = some u0) (h1 : w.cell? ⟨b, 1, none⟩ = some u1) (x y : Value) :
    ((w.setCell ⟨g, 0, none⟩ x).setCell ⟨g, 1, none⟩ y).cell? ⟨b, 0, none⟩ = some u0 ∧ ((w.setCell ⟨g, 0, none⟩ x).setCell ⟨g, 1, none⟩ y).cell? ⟨b, 1, none⟩ = some u1 := by
  have e := (heap_setCell_other (w.setCell ⟨g, 0, none⟩ x) ⟨g, 1, none⟩ b y hne).trans (heap_setCell_other w ⟨g, 0, none⟩ b x hne)
  exact ⟨(World.cell?_of_block (a := ⟨b, 0, none⟩) e).trans h0, (World.cell?_of_block (a := ⟨b, 1, none⟩) e).trans h1⟩
theorem pl_close {w w3 W : World} {vt vb : Value} {ts : List Int} {l : List St} {a : Int} {lo : Nat} (h3 : Below w.heap.size w w3) (hW : w3.grownBy W (some w.heap.size)) (hT : IntX w3 (fun b => lo ≤ b) vt ts) (hB : StX w3 (fun b => lo ≤ b) vb l) (hlo : w.heap.size < lo) (ht : ts.length ≤ 700) (hl : szL l ≤ 100000) :
    PlRet w (.returned (.tuple #[.agg #[vt, vb], .int .i64 a])) W := by
  have hk : ∀ b, lo ≤ b → b < w3.heap.size → w.heap.size ≤ b ∧ W.heap[b]? = w3.heap[b]? := fun b hb hl => ⟨by omega, hW.block b hl (fun e => by injection e with e; omega)⟩
  exact ⟨vt, vb, ts, l, a, rfl, hT.frame hW.size hk, hB.frame hW.size hk, ht, hl, grown_new h3 (Nat.le_refl _) hW⟩

end Go.Proofs.Ytidlifijgooceaa

/- FnTakesOf: the draw, the plain law, the walk. -/
namespace Go.Proofs.Ytidlifijgooceaa
open Go.RowKit

def LawRet (w : World) (e : Ending) (w' : World) : Prop := e = .returned (.bool true) ∧ Below w.heap.size w w'

end Go.Proofs.Ytidlifijgooceaa

/- Words for the laws' walks: a drawn program in its box. The plain law of NeedsOpen. -/
namespace Go.Proofs.Ytidlifijgooceaa
open Go.RowKit

/-- the program (vt, vb) lies in the box g and reads as (ts, l); what was in w is as it was -/
structure PgB (w W : World) (g : Nat) (vt vb : Value) (ts : List Int) (l : List St) : Prop where
  bel : Below w.heap.size w W
  row : W.heap[g]? = some (.cells #[vt, vb] 26 (0, 0))
  ht : IntS W W.heap.size vt ts
  hl : StS W W.heap.size vb l
theorem PgB.lt {w W : World} {g : Nat} {vt vb : Value} {ts : List Int} {l : List St} (h : PgB w W g vt vb ts l) : g < W.heap.size := row_lt h.row
theorem PgB.c0 {w W : World} {g : Nat} {vt vb : Value} {ts : List Int} {l : List St} (h : PgB w W g vt vb ts l) : W.cell? ⟨g, 0, none⟩ = some vt := by rw [cell_of_row _ _ _ _ _ _ h.row]; rfl
theorem PgB.c1 {w W : World} {g : Nat} {vt vb : Value} {ts : List Int} {l : List St} (h : PgB w W g vt vb ts l) : W.cell? ⟨g, 1, none⟩ = some vb := by rw [cell_of_row _ _ _ _ _ _ h.row]; rfl
theorem PgB.bels {w W W' : World} {g : Nat} {vt vb : Value} {ts : List Int} {l : List St} (h : PgB w W g vt vb ts l) (hb : Below W.heap.size W W') : PgB w W' g vt vb ts l :=
  ⟨h.bel.trans (hb.mono h.bel.size), row_below h.row hb, (h.ht.low hb (Nat.le_refl _)).more hb.size, (h.hl.low hb (Nat.le_refl _)).more hb.size⟩
theorem PgB.new {w w1 : World} {vt vb : Value} {ts : List Int} {l : List St} {P Q : Nat → Prop} (ht : IntX w1 P vt ts) (hl : StX w1 Q vb l) (hb : Below w.heap.size w w1) : PgB w (w1.alloc (.cells #[vt, vb] 26)) w1.heap.size vt vb ts l := by
  have hA := bel_a w1 (.cells #[vt, vb] 26)
  exact ⟨hb.trans (hA.mono hb.size), heap_alloc_new w1 _, ((ht.toS).low hA (Nat.le_refl _)).more hA.size, ((hl.toS).low hA (Nat.le_refl _)).more hA.size⟩
theorem IntS.bel {w w' : World} {v : Value} {l : List Int} (h : IntS w w.heap.size v l) (hb : Below w.heap.size w w') : IntS w' w'.heap.size v l := (h.low hb (Nat.le_refl _)).more hb.size
theorem PtS.bel {w w' : World} {v : Value} {pts : List Pt} (h : PtS w w.heap.size v pts) (hb : Below w.heap.size w w') : PtS w' w'.heap.size v pts := (h.low hb (Nat.le_refl _)).more hb.size

end Go.Proofs.Ytidlifijgooceaa

/- spec.l14Case and the draws that hand it on. -/
namespace Go.Proofs.Ytidlifijgooceaa
open Go.RowKit

/-- below 'base' only block g has turned -/
structure Gb (base g : Nat) (W w : World) : Prop where
  os : w.os = W.os
  tape : w.tape = W.tape
  output : w.output = W.output
  size : W.heap.size ≤ w.heap.size
  block : ∀ b, b < base → b ≠ g → w.heap[b]? = W.heap[b]?
theorem Gb.refl (base g : Nat) (W : World) : Gb base g W W := ⟨rfl, rfl, rfl, Nat.le_refl _, fun _ _ _ => rfl⟩
theorem Gb.bel {base g : Nat} {W a b : World} (h : Gb base g W a) (k : Below base a b) : Gb base g W b :=
  ⟨k.os.trans h.os, k.tape.trans h.tape, k.output.trans h.output, Nat.le_trans h.size k.size, fun i hi hne => (k.block i hi).trans (h.block i hi hne)⟩
set_option maxHeartbeats 4000000
set_option maxRecDepth 100000

end Go.Proofs.Ytidlifijgooceaa

/- the draws of a program and small numbers (spec.l10Case and what stands on it). -/
namespace Go.Proofs.Ytidlifijgooceaa
open Go.RowKit

/-- what the ends of these draws need -/
structure DsE (w W : World) (vt vb : Value) (ts : List Int) (l : List St) : Prop where
  ht : IntX W (fun b => w.heap.size ≤ b) vt ts
  hl : StX W (fun b => w.heap.size ≤ b) vb l
  bel : Below w.heap.size w W
theorem DsE.mk' {w w3 W : World} {vt vb : Value} {ts : List Int} {l : List St} {lo : Nat} (h3 : Below w.heap.size w w3) (hW : w3.grownBy W (some w.heap.size)) (hT : IntX w3 (fun b => lo ≤ b) vt ts) (hB : StX w3 (fun b => lo ≤ b) vb l) (hlo : w.heap.size < lo) : DsE w W vt vb ts l := by
  have hk : ∀ b, lo ≤ b → b < w3.heap.size → w.heap.size ≤ b ∧ W.heap[b]? = w3.heap[b]? := fun b hb hl => ⟨by omega, hW.block b hl (fun e => by injection e with e; omega)⟩
  exact ⟨hT.frame hW.size hk, hB.frame hW.size hk, grown_new h3 (Nat.le_refl _) hW⟩

theorem belC {B : Nat} {w w' : World} {b o : Nat} {x : Option Value} (h : Below B w w') (e : w.cell? ⟨b, o, none⟩ = x) (hb : b < B) : w'.cell? ⟨b, o, none⟩ = x := (h.cell (p := ⟨b, o, none⟩) hb).trans e

end Go.Proofs.Ytidlifijgooceaa

/- the draws of run paths, and of a program with loans and a point. -/
namespace Go.Proofs.Ytidlifijgooceaa
open Go.RowKit

set_option maxHeartbeats 4000000
set_option maxRecDepth 100000

end Go.Proofs.Ytidlifijgooceaa

/- l11Place, DrawSplitProgram. -/
namespace Go.Proofs.Ytidlifijgooceaa
open Go.RowKit

set_option maxHeartbeats 4000000
set_option maxRecDepth 100000
end Go.Proofs.Ytidlifijgooceaa

/- slices.Equal; impl.sameStmts of equal statements; impl.ProgramSame of equal programs. -/
namespace Go.Proofs.Ytidlifijgooceaa
open Go.RowKit

set_option maxHeartbeats 400000 in
theorem equal_any (va vb : Value) (la lb : List Int) (B : Nat) (w : World) (ha : IntS w B va la) (hb : IntS w B vb lb) :
    Calls Try.prog 53 #[va, vb] w fun e w' => e = .returned (.bool (eqP la lb)) ∧ ∃ n, w' = w.drewN n := by
  obtain ⟨A, c, rfl, hc, hm, hr⟩ := ha
  obtain ⟨A', c', rfl, hc', hm', hr'⟩ := hb
  by_cases hl : la.length = lb.length
  · have hle : ((la.length : Int) != (lb.length : Int)) = false := by simp [hl]
    have HL := Lib.hid hl
    clear hl
    go_enter Try.func53, Try.ntmps53
    go_wp2
    go_loopw [13] (fun i wr => ∃ k : Nat, k ≤ la.length ∧ i = .int .i64 k ∧ la.take k = lb.take k ∧ ∃ n, wr = w.drewN n) (fun i _ => la.length - (intOf i).toNat)
    case atStart => exact ⟨0, Nat.zero_le _, rfl, by simp, 0, rfl⟩
    case round =>
      obtain ⟨k, hk, rfl, hn, n0, rfl⟩ := hrel
      have H := Lib.hid hn
      clear hn
      by_cases hlt : k < la.length
      · have hlt2 : k < lb.length := by rw [← HL.out]; exact hlt
        obtain ⟨b, off, rfl, hb, hcell⟩ := hr.int_at hlt
        have hck := hcell k hlt
        obtain ⟨b', off', rfl, hb', hcell'⟩ := hr'.int_at hlt2
        have hck' := hcell' k hlt2
        clear hcell hcell'
        go_wp2
        go_quiet (fail)
        go_wp2
        · have hx : (la[k] != lb[k]) = true := by assumption
          go_ret
          refine ⟨ret_bool ?_, drewN_two _ _ _⟩
          unfold eqP
          rw [eq_comm, decide_eq_false_iff_not]
          rintro rfl
          simp at hx
        · have hx : (la[k] != lb[k]) = false := by assumption
          refine ⟨⟨k + 1, by omega, by go_num, ?_, ⟨_, rfl⟩⟩, by simp [intOf]; omega⟩
          rw [take_succ_get la k hlt, take_succ_get lb k hlt2, H.out]
          simp at hx
          rw [hx]
      · obtain rfl : k = la.length := by omega
        go_wp2
        go_ret
        refine ⟨ret_bool ?_, n0, rfl⟩
        have h := H.out
        rw [List.take_length, HL.out, List.take_length] at h
        unfold eqP
        rw [eq_comm]
        exact decide_eq_true h
  · have hle : ((la.length : Int) != (lb.length : Int)) = true := by simp; omega
    have HL := Lib.hid hl
    clear hl
    go_enter Try.func53, Try.ntmps53
    go_wp2
    go_ret
    refine ⟨ret_bool ?_, 0, rfl⟩
    unfold eqP
    rw [eq_comm, decide_eq_false_iff_not]
    exact fun h => HL.out (by rw [h])
def TruRet (w : World) (e : Ending) (w' : World) : Prop := e = .returned (.bool true) ∧ Below w.heap.size w w'
def SameOk (m : Nat) : Prop := ∀ (va vb : Value) (l : List St) (B : Nat) (w : World), szL l ≤ m → StS w B va l → StS w B vb l → B ≤ w.heap.size → Calls Try.prog 54 #[va, vb] w (TruRet w)
set_option maxHeartbeats 2000000 in
set_option maxRecDepth 100000 in
theorem same_clo (m : Nat) (ih : ∀ j, j < m → SameOk j) (op x y n : Int) (tv ev tv' ev' : Value) (th el : List St) (B : Nat) (w : World) (hm : szL th + szL el < m) (h1 : StS w B tv th) (h2 : StS w B tv' th) (h3 : StS w B ev el) (h4 : StS w B ev' el) (hB : B ≤ w.heap.size) :
    Calls Try.prog 109 #[.agg #[.int .i64 op, .int .i64 x, .int .i64 y, .int .i64 n, tv, ev], .agg #[.int .i64 op, .int .i64 x, .int .i64 y, .int .i64 n, tv', ev']] w (TruRet w) := by
  obtain ⟨A1, c1, rfl, -⟩ := h1.slice
  obtain ⟨A2, c2, rfl, -⟩ := h2.slice
  obtain ⟨A3, c3, rfl, -⟩ := h3.slice
  obtain ⟨A4, c4, rfl, -⟩ := h4.slice
  have H1 := Lib.hid h1
  have H2 := Lib.hid h2
  have H3 := Lib.hid h3
  have H4 := Lib.hid h4
  have IH := Lib.hid ih
  clear h1 h2 h3 h4 ih
  have HR := Lib.hid (RowB.new w [.int .i64 op, .int .i64 x, .int .i64 y, .int .i64 n, .slice A1 th.length c1, .slice A3 el.length c3] 87)
  have HB1 := Lib.hid (bel_a w (.cells #[.int .i64 op, .int .i64 x, .int .i64 y, .int .i64 n, .slice A1 th.length c1, .slice A3 el.length c3] 87))
  have hs1 : (w.alloc (.cells #[.int .i64 op, .int .i64 x, .int .i64 y, .int .i64 n, .slice A1 th.length c1, .slice A3 el.length c3] 87)).heap.size = w.heap.size + 1 := by simp
  have HR2 := Lib.hid (RowB.new (w.alloc (.cells #[.int .i64 op, .int .i64 x, .int .i64 y, .int .i64 n, .slice A1 th.length c1, .slice A3 el.length c3] 87)) [.int .i64 op, .int .i64 x, .int .i64 y, .int .i64 n, .slice A2 th.length c2, .slice A4 el.length c4] 87)
  have HB2 := Lib.hid (bel_a (w.alloc (.cells #[.int .i64 op, .int .i64 x, .int .i64 y, .int .i64 n, .slice A1 th.length c1, .slice A3 el.length c3] 87)) (.cells #[.int .i64 op, .int .i64 x, .int .i64 y, .int .i64 n, .slice A2 th.length c2, .slice A4 el.length c4] 87))
  have HS1 := Lib.hid hs1
  clear hs1
  have he : ∀ z : Int, (z == z) = true := fun z => by simp
  have he1 := he op
  have he2 := he x
  have he3 := he y
  have he4 := he n
  clear he
  go_enter Try.func109, Try.ntmps109
  go_upto_region 1 with (at_builtin; fail)
  generalize w.alloc (.cells #[.int .i64 op, .int .i64 x, .int .i64 y, .int .i64 n, .slice A1 th.length c1, .slice A3 el.length c3] 87) = w1 at *
  generalize w1.alloc (.cells #[.int .i64 op, .int .i64 x, .int .i64 y, .int .i64 n, .slice A2 th.length c2, .slice A4 el.length c4] 87) = w2 at *
  have hs1 := HS1.out
  rw [hs1] at HR2
  have HS1 := Lib.hid hs1
  clear hs1
  have HRA := Lib.hid (HR.out.low HB2.out HR.out.lt)
  have HBA := Lib.hid (HB1.out.trans (HB2.out.mono HB1.out.size))
  have hsz := HBA.out.size
  have a0 := HRA.out.cell 0
  have a1 := HRA.out.cell 1
  have a2 := HRA.out.cell 2
  have a3 := HRA.out.cell 3
  have a4 := HRA.out.cell 4
  have a5 := HRA.out.cell 5
  have b0 := HR2.out.cell 0
  have b1 := HR2.out.cell 1
  have b2 := HR2.out.cell 2
  have b3 := HR2.out.cell 3
  have b4 := HR2.out.cell 4
  have b5 := HR2.out.cell 5
  simp only [List.getElem?_cons_zero, List.getElem?_cons_succ] at a0 a1 a2 a3 a4 a5 b0 b1 b2 b3 b4 b5
  go_wp2_with (at_builtin; fail)
  refine (IH.out (szL th) (by omega) _ _ th B w2 (Nat.le_refl _) (H1.out.low HBA.out hB) (H2.out.low HBA.out hB) (by omega)).mono ?_
  rintro e w3 ⟨rfl, hb3⟩
  have HB3 := Lib.hid (HBA.out.trans (hb3.mono hsz))
  have hs3 := HB3.out.size
  have HRA3 := Lib.hid (HRA.out.low hb3 HRA.out.lt)
  have HR23 := Lib.hid (HR2.out.low hb3 HR2.out.lt)
  clear a0 a1 a2 a3 a4 a5 b0 b1 b2 b3 b4 b5 hb3
  have a5 := HRA3.out.cell 5
  have b5 := HR23.out.cell 5
  simp only [List.getElem?_cons_zero, List.getElem?_cons_succ] at a5 b5
  go_wp2_with (at_builtin; fail)
  refine (IH.out (szL el) (by omega) _ _ el B w3 (Nat.le_refl _) (H3.out.low HB3.out hB) (H4.out.low HB3.out hB) (by omega)).mono ?_
  rintro e w4 ⟨rfl, hb4⟩
  go_wp2_with (at_builtin; fail)
  go_ret
  exact ⟨rfl, HB3.out.trans (hb4.mono hs3)⟩

set_option maxHeartbeats 2000000 in
set_option maxRecDepth 100000 in
theorem same_fun (m : Nat) (ih : ∀ j, j < m → SameOk j) (va vb : Value) (l : List St) (B : Nat) (w : World) (hm : szL l ≤ m) (hM : m ≤ 4194304) (h1 : StS w B va l) (h2 : StS w B vb l) (hB : B ≤ w.heap.size) :
    Calls Try.prog 108 #[va, vb, .func (.func 109) #[] #[]] w (TruRet w) := by
  have hll := len_le_szL l
  have H1 := Lib.hid h1
  have H2 := Lib.hid h2
  have IH := Lib.hid ih
  obtain ⟨A1, c1, rfl, hc1⟩ := h1.slice
  obtain ⟨A2, c2, rfl, hc2⟩ := h2.slice
  have hle : ((l.length : Int) != (l.length : Int)) = false := by simp
  clear h1 h2 ih
  go_enter Try.func108, Try.ntmps108
  go_wp2_with (at_builtin; fail)
  clear hle
  go_loopw [17] (fun i wr => ∃ k : Nat, k ≤ l.length ∧ i = .int .i64 k ∧ Below w.heap.size w wr) (fun i _ => l.length - (intOf i).toNat)
  case atStart => exact ⟨0, Nat.zero_le _, rfl, Below.refl _ _⟩
  case round =>
    obtain ⟨k, hk, rfl, hbw⟩ := hrel
    have HBW := Lib.hid hbw
    have hsw := hbw.size
    clear hbw
    by_cases hlt : k < l.length
    · have hsz := szL_mem hlt
      rw [l[k].sz_eq] at hsz
      obtain ⟨b1, o1, t1, e1, rfl, hb1, ht1, he1, p0, p1, p2, p3, p4, p5⟩ := (H1.out.low HBW.out hB).get hlt
      obtain ⟨b2, o2, t2, e2, rfl, hb2, ht2, he2, q0, q1, q2, q3, q4, q5⟩ := (H2.out.low HBW.out hB).get hlt
      obtain ⟨A3, c3, rfl, -⟩ := ht1.slice
      obtain ⟨A4, c4, rfl, -⟩ := he1.slice
      obtain ⟨A5, c5, rfl, -⟩ := ht2.slice
      obtain ⟨A6, c6, rfl, -⟩ := he2.slice
      have HT1 := Lib.hid ht1
      have HE1 := Lib.hid he1
      have HT2 := Lib.hid ht2
      have HE2 := Lib.hid he2
      generalize l[k]'hlt = s at *
      clear ht1 he1 ht2 he2
      have hb2r : b2 < wr.heap.size := by omega
      have r0 := fun o => ((bel_a wr o).cell (p := ⟨b2, o2 + k * 6, none⟩) hb2r).trans q0
      have r1 := fun o => ((bel_a wr o).cell (p := ⟨b2, o2 + k * 6 + 1, none⟩) hb2r).trans q1
      have r2 := fun o => ((bel_a wr o).cell (p := ⟨b2, o2 + k * 6 + 2, none⟩) hb2r).trans q2
      have r3 := fun o => ((bel_a wr o).cell (p := ⟨b2, o2 + k * 6 + 3, none⟩) hb2r).trans q3
      have r4 := fun o => ((bel_a wr o).cell (p := ⟨b2, o2 + k * 6 + 4, none⟩) hb2r).trans q4
      have r5 := fun o => ((bel_a wr o).cell (p := ⟨b2, o2 + k * 6 + 5, none⟩) hb2r).trans q5
      have HC := Lib.hid (fun (wz : World) (hz : Below wr.heap.size wr wz) => same_clo m IH.out s.op s.x s.y s.n (.slice A3 s.th.length c3) (.slice A4 s.el.length c4) (.slice A5 s.th.length c5) (.slice A6 s.el.length c6) s.th s.el B wz (by omega) (HT1.out.low hz (by omega)) (HT2.out.low hz (by omega)) (HE1.out.low hz (by omega)) (HE2.out.low hz (by omega)) (by have := hz.size; omega))
      have HB2 := Lib.hid ((bel_a wr (.cells #[.int .i64 s.op, .int .i64 s.x, .int .i64 s.y, .int .i64 s.n, .slice A3 s.th.length c3, .slice A4 s.el.length c4] 87)).alloc (by simp) (.cells #[.int .i64 s.op, .int .i64 s.x, .int .i64 s.y, .int .i64 s.n, .slice A5 s.th.length c5, .slice A6 s.el.length c6] 87))
      go_wp2_with (at_builtin; fail)
      refine (HC.out _ HB2.out).mono ?_
      rintro e w3 ⟨rfl, hb3⟩
      have HB3 := Lib.hid (HBW.out.trans ((HB2.out.trans (hb3.mono HB2.out.size)).mono hsw))
      clear hb3
      go_wp2_with (at_builtin; fail)
      exact ⟨⟨k + 1, by omega, by go_num, HB3.out⟩, by simp [intOf] <;> omega⟩
    · go_wp2_with (at_builtin; fail)
      go_ret
      exact ⟨rfl, HBW.out⟩
theorem same_of (m : Nat) (hM : m ≤ 4194304) (ih : ∀ j, j < m → SameOk j) : SameOk m := by
  intro va vb l B w hm h1 h2 hB
  have HC := Lib.hid (same_fun m ih va vb l B w hm hM h1 h2 hB)
  go_enter Try.func54, Try.ntmps54
  go_wp2_with (at_builtin; fail)
  refine HC.out.mono ?_
  rintro e w1 ⟨rfl, hb1⟩
  go_wp2_with (at_builtin; fail)
  go_ret
  exact ⟨rfl, hb1⟩
theorem same_any (m : Nat) (hM : m ≤ 4194304) : SameOk m := by
  induction m using Nat.strongRecOn with
  | _ m ih => exact same_of m hM fun j hj => ih j hj (by omega)
set_option maxHeartbeats 1000000 in
set_option maxRecDepth 100000 in
/-- equal programs are the same -/
theorem iProgramSame_same (vt vb vt' vb' : Value) (ts : List Int) (l : List St) (B : Nat) (w : World) (ht : IntS w B vt ts) (hl : StS w B vb l) (ht' : IntS w B vt' ts) (hl' : StS w B vb' l) (hB : B ≤ w.heap.size) (hsz : szL l ≤ 4194304) :
    Calls Try.prog 14 #[.agg #[vt, vb], .agg #[vt', vb']] w (TruRet w) := by
  have hb2 : Below w.heap.size w ((w.alloc (.cells #[vt, vb] 26)).alloc (.cells #[vt', vb'] 26)) := (bel_a w _).alloc (by simp) _
  have HB2 := Lib.hid hb2
  have HT := Lib.hid (ht.low hb2 hB)
  have HT' := Lib.hid (ht'.low hb2 hB)
  have HL := Lib.hid (hl.low hb2 hB)
  have HL' := Lib.hid (hl'.low hb2 hB)
  have HR1 := Lib.hid ((RowB.new w [vt, vb] 26).alloc (.cells #[vt', vb'] 26))
  have HR2 := Lib.hid (RowB.new (w.alloc (.cells #[vt, vb] 26)) [vt', vb'] 26)
  have hs1 : (w.alloc (.cells #[vt, vb] 26)).heap.size = w.heap.size + 1 := by simp
  rw [hs1] at HR2
  obtain ⟨A1, c1, rfl, -⟩ := ht
  obtain ⟨A2, c2, rfl, -⟩ := ht'
  obtain ⟨A3, c3, rfl, -⟩ := hl.slice
  obtain ⟨A4, c4, rfl, -⟩ := hl'.slice
  clear hb2 hs1 hl hl'
  go_enter Try.func14, Try.ntmps14
  go_upto_region 1 with (at_builtin; fail)
  generalize (w.alloc (.cells #[.slice A1 ts.length c1, .slice A3 l.length c3] 26)).alloc (.cells #[.slice A2 ts.length c2, .slice A4 l.length c4] 26) = w2 at *
  have a0 := HR1.out.cell 0
  have a1 := HR1.out.cell 1
  have b0 := HR2.out.cell 0
  have b1 := HR2.out.cell 1
  simp only [List.getElem?_cons_zero, List.getElem?_cons_succ] at a0 a1 b0 b1
  have hs2 := HB2.out.size
  go_wp2_with (at_builtin; fail)
  refine (equal_any _ _ ts ts B w2 HT.out HT'.out).mono ?_
  rintro e w3 ⟨rfl, n, rfl⟩
  rw [show eqP ts ts = true by simp [eqP]]
  have hb3 := below_of_drewN (w := w2) ⟨n, rfl⟩ w2.heap.size
  have HB3 := Lib.hid (HB2.out.trans (hb3.mono hs2))
  have HL3 := Lib.hid (HL.out.low hb3 (by omega))
  have HL3' := Lib.hid (HL'.out.low hb3 (by omega))
  have c1' := (hb3.cell (p := ⟨w.heap.size, 1, none⟩) HR1.out.lt).trans a1
  have d1' := (hb3.cell (p := ⟨w.heap.size + 1, 1, none⟩) HR2.out.lt).trans b1
  have hs3 := HB3.out.size
  clear a0 a1 b0 b1 hb3
  generalize w2.drewN n = w3 at *
  go_wp2_with (at_builtin; fail)
  refine (same_any (szL l) hsz _ _ l B w3 (Nat.le_refl _) HL3.out HL3'.out (by omega)).mono ?_
  rintro e w4 ⟨rfl, hb4⟩
  go_wp2_with (at_builtin; fail)
  go_ret
  exact ⟨rfl, HB3.out.trans (hb4.mono hs3)⟩

end Go.Proofs.Ytidlifijgooceaa

/- impl: unset, givenSet, UnsetUses, OpenIssues, GivesOf. -/
namespace Go.Proofs.Ytidlifijgooceaa
open Go.RowKit

set_option maxHeartbeats 4000000
end Go.Proofs.Ytidlifijgooceaa

/- Plain: what flows, beside what may be set, what is needed, what leads where. No program in sight. -/
namespace Go.Proofs.Ytidlifijgooceaa

theorem taken_bit {ts : List Int} {p : Pt} {v : Nat} (hv : v < ts.length) : (takenP ts p.op p.x p.y).testBit v = (useP ts p.op p.x p.y (v : Nat) == 2) := by unfold takenP; rw [bm_bit, decide_eq_true hv, Bool.true_and]
theorem trB_set {ts : List Int} {p : Pt} {v : Nat} {b : Bool} (h : setsP p.op p.x = (v : Nat)) : trB false ts p b v = true := by
  unfold trB; rw [setBit_bit, decide_eq_true h]; simp
theorem trB_keep {ts : List Int} {p : Pt} {v : Nat} (hv : v < ts.length) (h : useP ts p.op p.x p.y (v : Nat) ≠ 2) : trB false ts p true v = true := by
  unfold trB; rw [taken_bit hv, beq_false_of_ne h]; simp
theorem Fl.maybe {ts : List Int} {pts : List Pt} {G : Nat → Pt → Nat → Bool} {C : Pt → Bool} {i v e : Nat} (h : Fl ts pts G C i v e) : Ac false ts pts 0 i v := by
  induction h with
  | gen hp hk hv hs _ => exact .gen hp hk hv (trB_set hs)
  | copy hp hk hv hs _ _ _ => exact .gen hp hk hv (trB_set hs)
  | keep hp hk hv _ ht _ ih => exact .keep hp hk ih (trB_keep hv ht)
theorem Fl.used {ts : List Int} {pts : List Pt} {i v e : Nat} (h : Fl ts pts Gset Cset i v e) (hn : Nd ts pts i v) : ∃ p, pts[e]? = some p ∧ setsP p.op p.x = (v : Nat) ∧ ∃ j ∈ p.next, Nd ts pts j v := by
  induction h with
  | gen hp hk _ hs h =>
    have h' := (beq_iff_eq.1 h)
    subst h'
    exact ⟨_, hp, hs, _, hk, hn⟩
  | copy _ _ _ _ hc _ _ => simp [Cset] at hc
  | keep hp hk _ hs _ _ ih => exact ih (.flow hp hk hn hs)
/-- what a loan is of, lies in it afterwards; and stays where it was -/
theorem Fl.loan {ts : List Int} {pts : List Pt} {i k e : Nat} {p : Pt} (hp : pts[i]? = some p) (hk : k ∈ p.next) (ho : p.op = 4 ∨ p.op = 5) (g : Good ts pts) (h : Fl ts pts Gcell Ccell i p.y.toNat e) :
    Fl ts pts Gcell Ccell k p.x.toNat e ∧ Fl ts pts Gcell Ccell k p.y.toNat e := by
  rcases g.ok p (List.mem_of_getElem? hp) with hh | hh | hh | hh
  · omega
  · omega
  · omega
  · have hx := typeOf_in (simple_x hh).2.2
    have hy := typeOf_in (simple_y hh (by omega))
    have hxn : ((p.x.toNat : Nat) : Int) = p.x := by omega
    have hyn : ((p.y.toNat : Nat) : Int) = p.y := by omega
    have hs : setsP p.op p.x = p.x := by unfold setsP; rw [if_pos (by omega)]
    have hne : p.x ≠ p.y := by rcases ho with ho | ho <;> rw [ho] at hh <;> simp [simpleP] at hh <;> exact hh.2.2
    refine ⟨.copy hp hk (by omega) (by rw [hs, hxn]) (by rcases ho with ho | ho <;> simp [Ccell, ho]) h, .keep hp hk (by omega) (by rw [hs, hyn]; exact hne) ?_ h⟩
    rw [hyn]
    rcases ho with ho | ho <;> simp [useP, ho]

end Go.Proofs.Ytidlifijgooceaa

/- Plain: programs behind each other: their points, and what is known at them. No program in sight. -/
namespace Go.Proofs.Ytidlifijgooceaa

/-- a point moved on by n -/
def shP (n : Nat) (p : Pt) : Pt := { p with next := p.next.map (· + n) }
mutual
theorem ptsSt_sh (n at_ : Nat) : ∀ s : St, ptsSt (at_ + n) s = (ptsSt at_ s).map (shP n)
  | .mk op x y m th el => by
    have h1 := fun a => ptsL_sh n a th
    have h2 := fun a => ptsL_sh n a el
    have e1 : ∀ a, (ptsL (a + n) th).length = (ptsL a th).length := fun a => by rw [h1]; simp
    have e2 : ∀ a, (ptsL (a + n) el).length = (ptsL a el).length := fun a => by rw [h2]; simp
    simp only [ptsSt]
    have a1 : at_ + n + 1 = at_ + 1 + n := by omega
    rw [a1, e1]
    have a2 : at_ + 1 + n + (ptsL (at_ + 1) th).length + 1 = at_ + 1 + (ptsL (at_ + 1) th).length + 1 + n := by omega
    rw [a2, e2, h1, h2]
    split
    · simp [shP]; omega
    · split
      · simp [shP]
      · simp [shP]
theorem ptsL_sh (n at_ : Nat) : ∀ l : List St, ptsL (at_ + n) l = (ptsL at_ l).map (shP n)
  | [] => by simp [ptsL]
  | s :: r => by
    have h1 := ptsSt_sh n at_ s
    have h2 := fun a => ptsL_sh n a r
    have e1 : (ptsSt (at_ + n) s).length = (ptsSt at_ s).length := by rw [h1]; simp
    have a1 : at_ + n + (ptsSt at_ s).length = at_ + (ptsSt at_ s).length + n := by omega
    simp only [ptsL, List.map_append]
    rw [e1, a1, h1, h2]
end
/-- the number of points ahead of the end -/
def npL (a : List St) : Nat := (ptsL 0 a).length
theorem ptsP_cat (a b : List St) : ptsP (a ++ b) = ptsL 0 a ++ (ptsP b).map (shP (npL a)) := by
  unfold ptsP npL
  rw [ptsL_append, show 0 + (ptsL 0 a).length = 0 + (ptsL 0 a).length from rfl, ptsL_sh]
  simp [shP]
theorem npL_len (a : List St) : (ptsP a).length = npL a + 1 := ptsP_len a
theorem cat_len (a b : List St) : (ptsP (a ++ b)).length = npL a + (ptsP b).length := by rw [ptsP_cat]; simp [npL]
theorem cat_left {a b : List St} {i : Nat} (h : i < npL a) : (ptsP (a ++ b))[i]? = (ptsP a)[i]? := by
  rw [ptsP_cat, List.getElem?_append_left h]
  unfold ptsP
  rw [List.getElem?_append_left h]
theorem cat_right {a b : List St} (j : Nat) : (ptsP (a ++ b))[npL a + j]? = ((ptsP b)[j]?).map (shP (npL a)) := by
  rw [ptsP_cat, List.getElem?_append_right (by show npL a ≤ _; omega), List.getElem?_map]
  congr 2
  show npL a + j - npL a = j
  omega
theorem end_at (a : List St) : (ptsP a)[npL a]? = some ⟨11, 0, 0, 0, []⟩ := by
  unfold ptsP npL; simp
theorem here_lt {a : List St} {i k : Nat} {p : Pt} (hp : (ptsP a)[i]? = some p) (hk : k ∈ p.next) : i < npL a := by
  have h1 := (List.getElem?_eq_some_iff.1 hp).1
  rw [npL_len] at h1
  rcases Nat.lt_or_ge i (npL a) with h | h
  · exact h
  · have : i = npL a := by omega
    subst this
    rw [end_at] at hp
    injection hp with hp
    subst hp
    cases hk
theorem sh_next {n k : Nat} {p : Pt} (h : k ∈ (shP n p).next) : ∃ j, j ∈ p.next ∧ k = j + n := by
  unfold shP at h
  obtain ⟨j, h1, h2⟩ := List.mem_map.1 h
  exact ⟨j, h1, h2.symm⟩
/-- what is gathered in the first part is gathered in the whole -/
theorem Ac.cat {ev : Bool} {ts : List Int} {a : List St} (b : List St) {f i v : Nat} (h : Ac ev ts (ptsP a) f i v) : Ac ev ts (ptsP (a ++ b)) f i v := by
  induction h with
  | init hv h => exact .init hv h
  | gen hp hk hv h => exact .gen (by rw [cat_left (here_lt hp hk)]; exact hp) hk hv h
  | keep hp hk _ h ih => exact .keep (by rw [cat_left (here_lt hp hk)]; exact hp) hk ih h
/-- what is gathered in the whole: in the first part; in the second, begun with what there is at the first one's end -/
theorem Ac.split {ev : Bool} {ts : List Int} {a b : List St} {f f' i v : Nat} (hf : ∀ v, v < ts.length → (accB ev f' v = true ↔ Ac ev ts (ptsP a) f (npL a) v)) (h : Ac ev ts (ptsP (a ++ b)) f i v) :
    (i < npL a → Ac ev ts (ptsP a) f i v) ∧ (∀ j, i = npL a + j → Ac ev ts (ptsP b) f' j v) := by
  induction h with
  | @init v hv h =>
    refine ⟨fun _ => .init hv h, fun j hj => ?_⟩
    obtain rfl : j = 0 := by omega
    have h0 : npL a = 0 := by omega
    refine .init hv ((hf v hv).2 ?_)
    rw [h0]
    exact .init hv h
  | @gen i k v p hp hk hv h =>
    rcases Nat.lt_or_ge i (npL a) with hi | hi
    · rw [cat_left hi] at hp
      have hA : Ac ev ts (ptsP a) f k v := .gen hp hk hv h
      refine ⟨fun _ => hA, fun j hj => ?_⟩
      have hkn := (ptsP_next a p (List.mem_of_getElem? hp)).2 k hk
      rw [npL_len] at hkn
      obtain rfl : j = 0 := by omega
      exact .init hv ((hf v hv).2 (by rw [show npL a = k by omega]; exact hA))
    · obtain ⟨m, rfl⟩ : ∃ m, i = npL a + m := ⟨i - npL a, by omega⟩
      rw [cat_right, Option.map_eq_some_iff] at hp
      obtain ⟨q, hq, rfl⟩ := hp
      obtain ⟨n, hn, rfl⟩ := sh_next hk
      refine ⟨fun h => by omega, fun j hj => ?_⟩
      obtain rfl : j = n := by omega
      exact .gen hq hn hv h
  | @keep i k v p hp hk hi0 h ih =>
    have hv := hi0.lt
    rcases Nat.lt_or_ge i (npL a) with hi | hi
    · rw [cat_left hi] at hp
      have hA : Ac ev ts (ptsP a) f k v := .keep hp hk (ih.1 hi) h
      refine ⟨fun _ => hA, fun j hj => ?_⟩
      have hkn := (ptsP_next a p (List.mem_of_getElem? hp)).2 k hk
      rw [npL_len] at hkn
      obtain rfl : j = 0 := by omega
      exact .init hv ((hf v hv).2 (by rw [show npL a = k by omega]; exact hA))
    · obtain ⟨m, rfl⟩ : ∃ m, i = npL a + m := ⟨i - npL a, by omega⟩
      rw [cat_right, Option.map_eq_some_iff] at hp
      obtain ⟨q, hq, rfl⟩ := hp
      obtain ⟨n, hn, rfl⟩ := sh_next hk
      refine ⟨fun h => by omega, fun j hj => ?_⟩
      obtain rfl : j = n := by omega
      exact .keep hq hn (ih.2 m rfl) h
/-- what is needed in the first part is needed in the whole; what flows there flows in the whole -/
theorem Nd.cat {ts : List Int} {a : List St} (b : List St) {i v : Nat} (h : Nd ts (ptsP a) i v) : Nd ts (ptsP (a ++ b)) i v := by
  induction h with
  | @use i v p hp hv h =>
    have hi : i < npL a := by
      have h1 := (List.getElem?_eq_some_iff.1 hp).1
      rw [npL_len] at h1
      rcases Nat.lt_or_ge i (npL a) with h2 | h2
      · exact h2
      · have : i = npL a := by omega
        subst this
        rw [end_at] at hp
        injection hp with hp
        subst hp
        exact absurd rfl h
    exact .use (by rw [cat_left hi]; exact hp) hv h
  | flow hp hk _ h ih => exact .flow (by rw [cat_left (here_lt hp hk)]; exact hp) hk ih h
theorem Fl.cat {ts : List Int} {a : List St} {G : Nat → Pt → Nat → Bool} {C : Pt → Bool} (b : List St) {i v e : Nat} (h : Fl ts (ptsP a) G C i v e) : Fl ts (ptsP (a ++ b)) G C i v e := by
  induction h with
  | gen hp hk hv hs h => exact .gen (by rw [cat_left (here_lt hp hk)]; exact hp) hk hv hs h
  | copy hp hk hv hs hc _ ih => exact .copy (by rw [cat_left (here_lt hp hk)]; exact hp) hk hv hs hc ih
  | keep hp hk hv hs ht _ ih => exact .keep (by rw [cat_left (here_lt hp hk)]; exact hp) hk hv hs ht ih

end Go.Proofs.Ytidlifijgooceaa

/- Plain: what parts of a program give each other. No program in sight. -/
namespace Go.Proofs.Ytidlifijgooceaa

end Go.Proofs.Ytidlifijgooceaa

/- Words for the laws on split programs. -/
namespace Go.Proofs.Ytidlifijgooceaa
open Go.RowKit

theorem PgB.ofS {w w1 : World} {vt vb : Value} {ts : List Int} {l : List St} (hb : Below w.heap.size w w1) (ht : IntS w1 w1.heap.size vt ts) (hl : StS w1 w1.heap.size vb l) : PgB w (w1.alloc (.cells #[vt, vb] 26)) w1.heap.size vt vb ts l := by
  have hA := bel_a w1 (.cells #[vt, vb] 26)
  exact ⟨hb.trans (hA.mono hb.size), heap_alloc_new w1 _, (ht.low hA (Nat.le_refl _)).more hA.size, (hl.low hA (Nat.le_refl _)).more hA.size⟩
end Go.Proofs.Ytidlifijgooceaa

/- Words for the exact laws: arguments of any size, the counting of sizes, trees of statements that a call made, marks. -/
namespace Go.Proofs.Ytidlifijgooceaa
open Go.RowKit

theorem maxLen_eq : maxLen = 9223372036854775807 := rfl
/-- The slice value v reads as the ints l, however long. -/
def AnI (w : World) (B : Nat) (v : Value) (l : List Int) : Prop :=
  ∃ A c, v = .slice A l.length c ∧ l.length ≤ c ∧ l.length ≤ maxLen ∧ Rd w B 1 A l.length (l.map (.int .i64))
theorem AnI.low {w w' : World} {B B' : Nat} {v : Value} {l : List Int} (h : AnI w B v l) (hb : Below B' w w') (hB : B ≤ B') : AnI w' B v l := by
  obtain ⟨A, c, e, h1, h2, h3⟩ := h
  exact ⟨A, c, e, h1, h2, h3.low hb hB⟩
theorem AnI.toS {w : World} {B : Nat} {v : Value} {l : List Int} (h : AnI w B v l) (hl : l.length ≤ 4194304) : IntS w B v l := by
  obtain ⟨A, c, e, h1, h2, h3⟩ := h
  exact ⟨A, c, e, h1, hl, h3⟩

/-- a struct stored into a row -/
theorem RowB.putL {g : Nat} {t : TypeId} : ∀ (vs : List Value) (o : Nat) (w : World) (L : List Value), RowB w g t L → o + vs.length ≤ L.length → ∃ L', RowB (w.setCells g o vs) g t L' ∧ L'.length = L.length ∧ ∀ j, L'[j]? = if o ≤ j ∧ j < o + vs.length then vs[j - o]? else L[j]?
  | [], o, w, L, h, _ => ⟨L, h, rfl, fun j => by rw [if_neg (by simp only [List.length_nil]; omega)]⟩
  | v :: vs, o, w, L, h, hl => by
    simp only [List.length_cons] at hl
    obtain ⟨L', h1, h2, h3⟩ := RowB.putL vs (o + 1) (w.setCell ⟨g, o, none⟩ v) (L.set o v) (h.set_ o v) (by simp; omega)
    refine ⟨L', h1, by rw [h2]; simp, fun j => ?_⟩
    rw [h3]
    simp only [List.length_cons]
    by_cases e : j = o
    · subst e
      rw [if_neg (by omega), if_pos ⟨by omega, by omega⟩, List.getElem?_set_self (by omega), Nat.sub_self]; rfl
    · by_cases e2 : o + 1 ≤ j ∧ j < o + 1 + vs.length
      · rw [if_pos e2, if_pos ⟨by omega, by omega⟩, show j - o = (j - (o + 1)) + 1 by omega]; rfl
      · rw [if_neg e2, if_neg (by omega), List.getElem?_set_ne (Ne.symm e)]
theorem below_putL {B g : Nat} (hg : B ≤ g) : ∀ (vs : List Value) (o : Nat) (w : World), Below B w (w.setCells g o vs)
  | [], _, w => Below.refl B w
  | v :: r, o, w => ((Below.refl B w).setCell (p := ⟨g, o, none⟩) hg v).trans (below_putL hg r (o + 1) _)
theorem heap_putL {g b : Nat} (hb : b ≠ g) : ∀ (vs : List Value) (o : Nat) (w : World), (w.setCells g o vs).heap[b]? = w.heap[b]?
  | [], _, w => rfl
  | v :: r, o, w => (heap_putL hb r (o + 1) _).trans (heap_setCell_other w ⟨g, o, none⟩ b v hb)
theorem size_putL {g : Nat} : ∀ (vs : List Value) (o : Nat) (w : World), (w.setCells g o vs).heap.size = w.heap.size
  | [], _, w => rfl
  | v :: r, o, w => (size_putL r (o + 1) _).trans (by simp)
/-- .. the whole row -/
theorem RowB.putAll {w : World} {g : Nat} {t : TypeId} {L : List Value} (vs : List Value) (h : RowB w g t L) (hl : vs.length = L.length) : RowB (w.setCells g 0 vs) g t vs := by
  obtain ⟨L', h1, h2, h3⟩ := RowB.putL vs 0 w L h (by omega)
  have e : L' = vs := by
    apply List.ext_getElem?
    intro j
    rw [h3]
    by_cases hj : j < vs.length
    · rw [if_pos ⟨by omega, by omega⟩, Nat.sub_zero]
    · rw [if_neg (by omega), List.getElem?_eq_none (by omega), List.getElem?_eq_none (by omega)]
  rwa [e] at h1

/-- All lists in l are no longer than a slice can be. -/
inductive Lens : List St → Prop where
  | mk (l : List St) (hl : l.length ≤ maxLen) (ht : ∀ i (h : i < l.length), Lens l[i].th) (he : ∀ i (h : i < l.length), Lens l[i].el) : Lens l
theorem Lens.le {l : List St} (h : Lens l) : l.length ≤ maxLen := by cases h; assumption
theorem Lens.th {l : List St} (h : Lens l) {i : Nat} (hi : i < l.length) : Lens l[i].th := by
  cases h with
  | mk l hl ht he => exact ht i hi
theorem Lens.el {l : List St} (h : Lens l) {i : Nat} (hi : i < l.length) : Lens l[i].el := by
  cases h with
  | mk l hl ht he => exact he i hi

/-- a tree of statements in rows of a call's own, each at its block's begin, the blocks meet P; ints: their numbers are those of l -/
inductive TrS (w : World) (P : Nat → Prop) (ints : Bool) : Value → List St → Prop where
  | mk (b c : Nat) (cs : List Value) (l : List St) (tv ev : Nat → Value) (hlo : P b) (hb : RowB w b 87 cs) (hcs : l.length * 6 ≤ cs.length) (hc : l.length ≤ c)
      (hi : ints = true → ∀ i (h : i < l.length), cs[i * 6]? = some (.int .i64 l[i].op) ∧ cs[i * 6 + 1]? = some (.int .i64 l[i].x) ∧ cs[i * 6 + 2]? = some (.int .i64 l[i].y) ∧ cs[i * 6 + 3]? = some (.int .i64 l[i].n))
      (hv : ∀ i (h : i < l.length), cs[i * 6 + 4]? = some (tv i) ∧ cs[i * 6 + 5]? = some (ev i))
      (ht : ∀ i (h : i < l.length), TrS w P ints (tv i) l[i].th) (he : ∀ i (h : i < l.length), TrS w P ints (ev i) l[i].el) : TrS w P ints (.slice (some ⟨b, 0, none⟩) l.length c) l

theorem TrS.slice {w : World} {P : Nat → Prop} {t : Bool} {v : Value} {l : List St} (h : TrS w P t v l) : ∃ b c, v = .slice (some ⟨b, 0, none⟩) l.length c ∧ P b ∧ b < w.heap.size ∧ l.length ≤ c := by
  cases h with
  | mk b c cs l tv ev hlo hb hcs hc hi hv ht he => exact ⟨b, c, rfl, hlo, hb.lt, hc⟩
theorem TrS.toS {w : World} {P : Nat → Prop} {v : Value} {l : List St} (h : TrS w P true v l) : StS w w.heap.size v l := by
  generalize ht0 : true = t at h
  induction h with
  | mk b c cs l tv ev hlo hb hcs hc hi hv ht he iht ihe =>
    refine .mk _ c l tv ev hc (fun hn => ⟨b, 0, rfl, hb.lt, fun i h => ?_⟩) iht ihe
    obtain ⟨h0, h1, h2, h3⟩ := hi ht0.symm i h
    obtain ⟨h4, h5⟩ := hv i h
    simp only [hb.cell, Nat.zero_add]
    exact ⟨h0, h1, h2, h3, h4, h5⟩
theorem TrS.frame {w w' : World} {P P' : Nat → Prop} {t : Bool} {v : Value} {l : List St} (h : TrS w P t v l) (hk : ∀ b, P b → b < w.heap.size → P' b ∧ w'.heap[b]? = w.heap[b]?) : TrS w' P' t v l := by
  induction h with
  | mk b c cs l tv ev hl hb hcs hc hi hv ht he iht ihe =>
    have k := hk b hl hb.lt
    exact .mk b c cs l tv ev k.1 (k.2.trans hb) hcs hc hi hv iht ihe
theorem TrS.bel {w w' : World} {P : Nat → Prop} {t : Bool} {v : Value} {l : List St} (h : TrS w P t v l) (hb : Below w.heap.size w w') : TrS w' P t v l :=
  h.frame fun b hp hb' => ⟨hp, hb.block b hb'⟩
theorem TrS.get {w : World} {P : Nat → Prop} {t : Bool} {b c n : Nat} {l : List St} (h : TrS w P t (.slice (some ⟨b, 0, none⟩) n c) l) {k : Nat} (hk : k < l.length) :
    ∃ cs tv ev, P b ∧ RowB w b 87 cs ∧ l.length * 6 ≤ cs.length ∧ cs[k * 6 + 4]? = some tv ∧ cs[k * 6 + 5]? = some ev ∧ TrS w P t tv l[k].th ∧ TrS w P t ev l[k].el := by
  cases h with
  | mk b c cs l tv ev hlo hb hcs hc hi hv ht he => exact ⟨cs, tv k, ev k, hlo, hb, hcs, (hv k hk).1, (hv k hk).2, ht k hk, he k hk⟩

/-- w' is w but for blocks that meet P; there, rows of statements keep their slices -/
structure Mk (P : Nat → Prop) (w w' : World) : Prop where
  os : w'.os = w.os
  tape : w'.tape = w.tape
  output : w'.output = w.output
  size : w'.heap.size = w.heap.size
  oth : ∀ b : Nat, ¬ P b → w'.heap[b]? = w.heap[b]?
  row : ∀ b cs, RowB w b 87 cs → ∃ cs', RowB w' b 87 cs' ∧ cs'.length = cs.length ∧ ∀ i, (i % 6 = 4 ∨ i % 6 = 5) → cs'[i]? = cs[i]?
theorem Mk.refl (P : Nat → Prop) (w : World) : Mk P w w := ⟨rfl, rfl, rfl, rfl, fun _ _ => rfl, fun b cs h => ⟨cs, h, rfl, fun _ _ => rfl⟩⟩
theorem Mk.trans {P : Nat → Prop} {a b c : World} (h : Mk P a b) (k : Mk P b c) : Mk P a c :=
  ⟨k.os.trans h.os, k.tape.trans h.tape, k.output.trans h.output, k.size.trans h.size, fun i hi => (k.oth i hi).trans (h.oth i hi), fun g cs hg => by
    obtain ⟨cs1, h1, l1, e1⟩ := h.row g cs hg
    obtain ⟨cs2, h2, l2, e2⟩ := k.row g cs1 h1
    exact ⟨cs2, h2, l2.trans l1, fun i hi => (e2 i hi).trans (e1 i hi)⟩⟩
theorem Mk.bel {P : Nat → Prop} {w w' : World} (h : Mk P w w') {lo : Nat} (hl : ∀ b, P b → lo ≤ b) : Below lo w w' :=
  ⟨h.os, h.tape, h.output, Nat.le_of_eq h.size.symm, fun b hb => h.oth b fun hp => by have := hl b hp; omega⟩
theorem Mk.set_ {P : Nat → Prop} {w : World} {g : Nat} (i : Nat) (u : Value) (hg : P g) (hi : i % 6 < 4) : Mk P w (w.setCell ⟨g, i, none⟩ u) := by
  refine ⟨rfl, rfl, rfl, by simp, fun b hb => heap_setCell_other w ⟨g, i, none⟩ b u (fun e => hb (by rw [e]; exact hg)), fun b cs hb => ?_⟩
  by_cases hbg : b = g
  · subst hbg
    refine ⟨_, hb.set_ i u, by simp, fun j hj => ?_⟩
    rw [List.getElem?_set_ne (by omega)]
  · exact ⟨cs, hb.other hbg i u, rfl, fun _ _ => rfl⟩
end Go.Proofs.Ytidlifijgooceaa

/- Trees of statements whose rows are all different; a statement dropped from a row. -/
namespace Go.Proofs.Ytidlifijgooceaa
open Go.RowKit

/-- the row g of cap statements begins with those of l, whose lists are tv and ev -/
structure LvF (w : World) (g cap : Nat) (cs : List Value) (l : List St) (tv ev : Nat → Value) : Prop where
  row : RowB w g 87 cs
  len : cs.length = cap * 6
  le : l.length ≤ cap
  cm : cap ≤ maxLen
  ci : ∀ i (h : i < l.length), cs[i * 6]? = some (.int .i64 l[i].op) ∧ cs[i * 6 + 1]? = some (.int .i64 l[i].x) ∧ cs[i * 6 + 2]? = some (.int .i64 l[i].y) ∧ cs[i * 6 + 3]? = some (.int .i64 l[i].n)
  cv : ∀ i, i < l.length → cs[i * 6 + 4]? = some (tv i) ∧ cs[i * 6 + 5]? = some (ev i)
theorem LvF.keep {w w' : World} {g cap : Nat} {cs : List Value} {l : List St} {tv ev : Nat → Value} (h : LvF w g cap cs l tv ev) (hk : w'.heap[g]? = w.heap[g]?) : LvF w' g cap cs l tv ev :=
  ⟨hk.trans h.row, h.len, h.le, h.cm, h.ci, h.cv⟩
theorem LvF.own {w : World} {g cap : Nat} {cs : List Value} {l : List St} {tv ev : Nat → Value} (h : LvF w g cap cs l tv ev) {base : Nat} (hb : base ≤ g) : w.ownsRow base 87 6 (.slice (some ⟨g, 0, none⟩) l.length cap) l.length (cs.take (l.length * 6)) := by
  have h1 := h.len
  have h2 := h.le
  exact ⟨by rw [List.length_take]; omega, .inr ⟨g, cap, cs.toArray, rfl, hb, h.row, h.le, h.cm, by simpa using h1, by simp⟩⟩
/-- blocks from a on, below b -/
def rg (a b : Nat) : Nat → Prop := fun x => a ≤ x ∧ x < b
inductive DT (w : World) : (Nat → Prop) → Value → List St → Prop where
  | nil (P : Nat → Prop) : DT w P (.slice none 0 0) []
  | mk (P : Nat → Prop) (g cap : Nat) (cs : List Value) (l : List St) (tv ev : Nat → Value) (Pt Pe : Nat → Nat → Prop) (hg : P g) (hr : LvF w g cap cs l tv ev)
      (ht : ∀ i (h : i < l.length), DT w (Pt i) (tv i) l[i].th) (he : ∀ i (h : i < l.length), DT w (Pe i) (ev i) l[i].el)
      (st : ∀ i b, i < l.length → (Pt i b ∨ Pe i b) → P b ∧ b ≠ g)
      (dj : ∀ i j b, i < l.length → j < l.length → (Pt i b → ¬ Pe j b) ∧ (i ≠ j → (Pt i b → ¬ Pt j b) ∧ (Pe i b → ¬ Pe j b))) : DT w P (.slice (some ⟨g, 0, none⟩) l.length cap) l
theorem DT.slice {w : World} {P : Nat → Prop} {v : Value} {l : List St} (h : DT w P v l) : ∃ A c, v = .slice A l.length c ∧ l.length ≤ c := by
  cases h with
  | nil => exact ⟨_, _, rfl, Nat.le_refl _⟩
  | mk P g cap cs l tv ev Pt Pe hg hr ht he st dj => exact ⟨_, _, rfl, hr.le⟩
theorem DT.one {w : World} {P : Nat → Prop} {v : Value} {l : List St} (h : DT w P v l) : v.oneCell' = true := by
  obtain ⟨A, c, rfl, _⟩ := h.slice
  rfl
theorem DT.toS {w : World} {P : Nat → Prop} {v : Value} {l : List St} (h : DT w P v l) : StS w w.heap.size v l := by
  induction h with
  | nil P => exact .mk _ 0 [] (fun _ => undef) (fun _ => undef) (Nat.le_refl _) (fun h => by simp at h) (fun i h => by simp at h) fun i h => by simp at h
  | mk P g cap cs l tv ev Pt Pe hg hr ht he st dj iht ihe =>
    refine .mk _ cap l tv ev hr.le (fun _ => ⟨g, 0, rfl, hr.row.lt, fun i h => ?_⟩) iht ihe
    obtain ⟨h0, h1, h2, h3⟩ := hr.ci i h
    obtain ⟨h4, h5⟩ := hr.cv i h
    simp only [hr.row.cell, Nat.zero_add]
    exact ⟨h0, h1, h2, h3, h4, h5⟩
theorem DT.frame {w w' : World} {P : Nat → Prop} {v : Value} {l : List St} (h : DT w P v l) : (∀ b : Nat, P b → b < w.heap.size → w'.heap[b]? = w.heap[b]?) → DT w' P v l := by
  induction h with
  | nil P => exact fun _ => .nil P
  | mk P g cap cs l tv ev Pt Pe hg hr ht he st dj iht ihe =>
    intro hk
    exact .mk P g cap cs l tv ev Pt Pe hg (hr.keep (hk g hg hr.row.lt)) (fun i h => iht i h fun b hp hb => hk b (st i b h (.inl hp)).1 hb) (fun i h => ihe i h fun b hp hb => hk b (st i b h (.inr hp)).1 hb) st dj
theorem DT.mono {w : World} {P Q : Nat → Prop} {v : Value} {l : List St} (h : DT w P v l) (hq : ∀ b, P b → Q b) : DT w Q v l := by
  cases h with
  | nil P => exact .nil Q
  | mk P g cap cs l tv ev Pt Pe hg hr ht he st dj => exact .mk Q g cap cs l tv ev Pt Pe (hq g hg) hr ht he (fun i b hi hb => ⟨hq b (st i b hi hb).1, (st i b hi hb).2⟩) dj
theorem DT.bel {w w' : World} {P : Nat → Prop} {v : Value} {l : List St} (h : DT w P v l) (hb : Below w.heap.size w w') : DT w' P v l :=
  h.frame fun b _ hb' => hb.block b hb'
/-- append(out, Stmt{..}) -/
theorem wpList_push_dt {ops : Array Oper} {rest : List Oper} {o : Oper} {a : Act} {Q : Exit → Act → World → Prop} {w : World} {base m p : Nat} {vo : Value} {l : List St} (hgd : o.guard = none) (s x : Operand)
    (ho : o.op = .call { callee := .builtin .append, args := #[s, x], argTypes := #[24, 24] })
    (hP : DT w (rg base m) vo l) (hbm : base ≤ m) (hmp : m ≤ p) (hpw : p ≤ w.heap.size) (hn : l.length + 1 ≤ 4194304) (op px py pn : Int) (tv ev : Value) (th el : List St)
    (hT : DT w (rg m p) tv th) (hE : DT w (rg p w.heap.size) ev el)
    (hs : a.eval s = vo) (hx : a.eval x = .slice (some ⟨w.heap.size, 0, none⟩) 1 1)
    (h : ∀ v' w', DT w' (rg base w'.heap.size) v' (l ++ [.mk op px py pn th el]) → Below base (w.alloc (.cells #[.int .i64 op, .int .i64 px, .int .i64 py, .int .i64 pn, tv, ev] 87)) w' → wpList Try.prog ops Q rest (a.put o.dst v') w') :
    wpList Try.prog ops Q (o :: rest) a (w.alloc (.cells #[.int .i64 op, .int .i64 px, .int .i64 py, .int .i64 pn, tv, ev] 87)) := by
  obtain ⟨i0, hi0, hz0, hz1, hz2⟩ := info_parts Try.infoSt
  have hA := bel_a w (.cells #[.int .i64 op, .int .i64 px, .int .i64 py, .int .i64 pn, tv, ev] 87)
  have hr := heap_alloc_new w (.cells #[.int .i64 op, .int .i64 px, .int .i64 py, .int .i64 pn, tv, ev] 87)
  have hsW : (w.alloc (.cells #[.int .i64 op, .int .i64 px, .int .i64 py, .int .i64 pn, tv, ev] 87)).heap.size = w.heap.size + 1 := by simp
  have hP2 := hP.bel hA
  have hT2 := hT.bel hA
  have hE2 := hE.bel hA
  have ho1 := hT.one
  have ho2 := hE.one
  generalize w.alloc (.cells #[.int .i64 op, .int .i64 px, .int .i64 py, .int .i64 pn, tv, ev] 87) = W at *
  have hown : ∃ xs, W.ownsRow base 87 6 vo l.length xs ∧ ∃ (cs : List Value) (tf ef : Nat → Value) (Pt Pe : Nat → Nat → Prop), xs = cs.take (l.length * 6) ∧ l.length * 6 ≤ cs.length ∧
      (∀ i (h : i < l.length), cs[i * 6]? = some (.int .i64 l[i].op) ∧ cs[i * 6 + 1]? = some (.int .i64 l[i].x) ∧ cs[i * 6 + 2]? = some (.int .i64 l[i].y) ∧ cs[i * 6 + 3]? = some (.int .i64 l[i].n)) ∧
      (∀ i, i < l.length → cs[i * 6 + 4]? = some (tf i) ∧ cs[i * 6 + 5]? = some (ef i)) ∧
      (∀ i (h : i < l.length), DT W (Pt i) (tf i) l[i].th) ∧ (∀ i (h : i < l.length), DT W (Pe i) (ef i) l[i].el) ∧
      (∀ i b, i < l.length → (Pt i b ∨ Pe i b) → rg base m b ∧ vo.ownBlock ≠ some b) ∧
      (∀ i j b, i < l.length → j < l.length → (Pt i b → ¬ Pe j b) ∧ (i ≠ j → (Pt i b → ¬ Pt j b) ∧ (Pe i b → ¬ Pe j b))) ∧ (∀ g, vo.ownBlock = some g → rg base m g) := by
    cases hP2 with
    | nil => exact ⟨[], World.ownsRow_nil _ _ _ _, [], fun _ => undef, fun _ => undef, fun _ _ => False, fun _ _ => False, rfl, Nat.le_refl _, fun i h => by simp at h, fun i h => by simp at h, fun i h => by simp at h, fun i h => by simp at h, fun i b h => by simp at h, fun i j b h => by simp at h, fun g h => by simp [Value.ownBlock] at h⟩
    | mk P g cap cs l tv ev Pt Pe hg hrw ht he st dj =>
      have h1 := hrw.len
      have h2 := hrw.le
      exact ⟨_, hrw.own hg.1, cs, tv, ev, Pt, Pe, rfl, by omega, hrw.ci, hrw.cv, ht, he, fun i b hi hb => ⟨(st i b hi hb).1, fun e => (st i b hi hb).2 (by simpa [Value.ownBlock] using e.symm)⟩, dj, fun g' e => by
        have : g' = g := by simpa [Value.ownBlock] using e.symm
        subst this; exact hg⟩
  obtain ⟨xs, hown, cs, tf, ef, Pt, Pe, rfl, hcl, hci, hcv, htt, hee, hst, hdj, hgb⟩ := hown
  refine wpList_append_own_at _ hgd s x 24 ho base 87 i0 _ 6 80 Try.underlying24 hi0 hz0 hz1 hz2 rfl (by omega) vo l.length _ hs hown ⟨w.heap.size, 0, none⟩ 1 1 [.int .i64 op, .int .i64 px, .int .i64 py, .int .i64 pn, tv, ev] hx rfl ?_ ?_ (by simp only [maxLen]; omega) (by omega) (by omega) ?_
  · intro j u hu
    have : W.cell? ⟨w.heap.size, j, none⟩ = some u := by
      rw [cell_of_row _ _ _ _ _ _ hr]
      simpa using hu
    unfold Addr.add
    by_cases hj : j = 0
    · subst hj; simpa using this
    · simpa [hj] using this
  · intro u hu
    simp at hu
    rcases hu with rfl | rfl | rfl | rfl | rfl | rfl <;> first | rfl | exact ho1 | exact ho2
  · intro v' w' k1 k2 k3 k4
    have hs2 := k2.size
    have hfr : ∀ {R : Nat → Prop} {v : Value} {l : List St}, DT W R v l → (∀ b, R b → b < W.heap.size ∧ vo.ownBlock ≠ some b) → DT w' R v l := fun hd hR => hd.frame fun b hb _ => k2.block b (hR b hb).1 fun e => (hR b hb).2 e.symm
    have hnt : ∀ b, rg m p b ∨ rg p w.heap.size b → b < W.heap.size ∧ vo.ownBlock ≠ some b := fun b hb => by
      refine ⟨by rcases hb with hb | hb <;> (have := hb.2; omega), fun e => ?_⟩
      have h1 := (hgb b e).2
      rcases hb with hb | hb <;> (have := hb.1; omega)
    refine h v' w' ?_ ⟨k2.os, k2.tape, k2.output, hs2, fun k hlt => k2.block k (by omega) fun e => ?_⟩
    · rcases k1.2 with ⟨_, e0⟩ | ⟨g, cap, cur, rfl, hg, hh, hle, hcm, hsz, htk⟩
      · omega
      · have hln : (l ++ [St.mk op px py pn th el]).length = l.length + 1 := by simp
        have hget : ∀ j, j < (l.length + 1) * 6 → cur.toList[j]? = (cs.take (l.length * 6) ++ [.int .i64 op, .int .i64 px, .int .i64 py, .int .i64 pn, tv, ev])[j]? := fun j hj => by
          rw [← htk, List.getElem?_take, if_pos hj]
        have hold : ∀ j, j < l.length * 6 → cur.toList[j]? = cs[j]? := fun j hj => by
          rw [hget j (by omega), List.getElem?_append_left (by rw [List.length_take]; omega), List.getElem?_take, if_pos hj]
        have hnew : ∀ d, d < 6 → cur.toList[l.length * 6 + d]? = ([.int .i64 op, .int .i64 px, .int .i64 py, .int .i64 pn, tv, ev] : List Value)[d]? := fun d hd => by
          rw [hget _ (by omega), List.getElem?_append_right (by rw [List.length_take]; omega), List.length_take, show l.length * 6 + d - min (l.length * 6) cs.length = d by omega]
        have hgl : ∀ i (hi : i < (l ++ [St.mk op px py pn th el]).length) (hil : i < l.length), (l ++ [St.mk op px py pn th el])[i] = l[i] := fun i hi hil => List.getElem_append_left hil
        have hge : ∀ i (hi : i < (l ++ [St.mk op px py pn th el]).length) (hil : ¬ i < l.length), (l ++ [St.mk op px py pn th el])[i] = St.mk op px py pn th el := fun i hi hil => by
          have : i = l.length := by omega
          subst this
          simp
        have hgn : g ≠ w.heap.size ∨ True := .inr trivial
        have hgw : g < w'.heap.size := row_lt hh
        have hgo : vo.ownBlock = some g ∨ W.heap.size ≤ g := by
          rcases k4 with e | e
          · left; rw [← e]; rfl
          · right
            have : some g = some W.heap.size := e
            injection this with this
            omega
        have hdg : ∀ b, b < W.heap.size → vo.ownBlock ≠ some b → b ≠ g := fun b hb hne e => by
          subst e
          rcases hgo with e | e
          · exact hne e
          · omega
        rw [← hln]
        refine .mk _ g cap cur.toList _ (fun i => if i = l.length then tv else tf i) (fun i => if i = l.length then ev else ef i) (fun i => if i = l.length then rg m p else Pt i) (fun i => if i = l.length then rg p w.heap.size else Pe i) ⟨hg, hgw⟩ ⟨by unfold RowB; rw [Array.toArray_toList]; exact hh, by simpa using hsz, by rw [hln]; exact hle, hcm, fun i hi => ?_, fun i hi => ?_⟩ (fun i hi => ?_) (fun i hi => ?_) (fun i b hi hb => ?_) (fun i j b hi hj => ?_)
        · by_cases hil : i < l.length
          · rw [hgl i hi hil, hold _ (by omega), hold _ (by omega), hold _ (by omega), hold _ (by omega)]
            exact hci i hil
          · have : i = l.length := by omega
            rw [hge i hi hil, this]
            exact ⟨hnew 0 (by omega), hnew 1 (by omega), hnew 2 (by omega), hnew 3 (by omega)⟩
        · by_cases hil : i < l.length
          · rw [hold _ (by omega), hold _ (by omega), if_neg (by omega), if_neg (by omega)]
            exact hcv i hil
          · have : i = l.length := by omega
            rw [this, if_pos rfl, if_pos rfl]
            exact ⟨hnew 4 (by omega), hnew 5 (by omega)⟩
        · by_cases hil : i < l.length
          · rw [hgl i hi hil, if_neg (by omega), if_neg (by omega)]
            exact hfr (htt i hil) fun b hb => by have := hst i b hil (.inl hb); exact ⟨by have := this.1.2; omega, this.2⟩
          · have : i = l.length := by omega
            rw [hge i hi hil, if_pos this, if_pos this]
            exact hfr hT2 fun b hb => hnt b (.inl hb)
        · by_cases hil : i < l.length
          · rw [hgl i hi hil, if_neg (by omega), if_neg (by omega)]
            exact hfr (hee i hil) fun b hb => by have := hst i b hil (.inr hb); exact ⟨by have := this.1.2; omega, this.2⟩
          · have : i = l.length := by omega
            rw [hge i hi hil, if_pos this, if_pos this]
            exact hfr hE2 fun b hb => hnt b (.inr hb)
        · by_cases hil : i < l.length
          · rw [if_neg (by omega), if_neg (by omega)] at hb
            have h1 := hst i b hil hb
            exact ⟨⟨h1.1.1, by have := h1.1.2; omega⟩, hdg b (by have := h1.1.2; omega) h1.2⟩
          · have : i = l.length := by omega
            rw [if_pos this, if_pos this] at hb
            have h1 := hnt b hb
            exact ⟨⟨by rcases hb with hb | hb <;> (have := hb.1; omega), by have := h1.1; omega⟩, hdg b h1.1 h1.2⟩
        · have hi2 : i < l.length + 1 := by omega
          have hj2 : j < l.length + 1 := by omega
          by_cases hil : i < l.length <;> by_cases hjl : j < l.length
          · rw [if_neg (by omega), if_neg (by omega), if_neg (by omega), if_neg (by omega)]
            exact hdj i j b hil hjl
          · have hj' : j = l.length := by omega
            rw [if_neg (show ¬ i = l.length by omega), if_neg (show ¬ i = l.length by omega), if_pos hj', if_pos hj']
            refine ⟨fun h1 h2 => ?_, fun _ => ⟨fun h1 h2 => ?_, fun h1 h2 => ?_⟩⟩
            · have := (hst i b hil (.inl h1)).1.2; have := h2.1; omega
            · have := (hst i b hil (.inl h1)).1.2; have := h2.1; omega
            · have := (hst i b hil (.inr h1)).1.2; have := h2.1; omega
          · have hi' : i = l.length := by omega
            rw [if_neg (show ¬ j = l.length by omega), if_neg (show ¬ j = l.length by omega), if_pos hi', if_pos hi']
            refine ⟨fun h1 h2 => ?_, fun _ => ⟨fun h1 h2 => ?_, fun h1 h2 => ?_⟩⟩
            · have := (hst j b hjl (.inr h2)).1.2; have := h1.1; omega
            · have := (hst j b hjl (.inl h2)).1.2; have := h1.1; omega
            · have := (hst j b hjl (.inr h2)).1.2; have := h1.1; omega
          · have hi' : i = l.length := by omega
            have hj' : j = l.length := by omega
            rw [if_pos hi', if_pos hi', if_pos hj', if_pos hj']
            refine ⟨fun h1 h2 => ?_, fun hne => absurd (hi'.trans hj'.symm) hne⟩
            have := h1.2; have := h2.1; omega
    · have := (hgb k e.symm).1
      omega

end Go.Proofs.Ytidlifijgooceaa
