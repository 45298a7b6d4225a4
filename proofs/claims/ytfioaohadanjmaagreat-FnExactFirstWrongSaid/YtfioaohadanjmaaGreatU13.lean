import Derived.Test.YtfioaohadanjmaaGreatU08
import Derived.Test.YtfioaohadanjmaaGreatU09
import Derived.Test.YtfioaohadanjmaaGreatU11
import Derived.Test.YtfioaohadanjmaaGreatU12
import Derived.Test.YtfioaohadanjmaaGreatU07
import Derived.Test.YtfioaohadanjmaaGreatU06
import Derived.RegionTactic
import Derived.Laws.OwnMore
import Derived.Lib.AppendZeros
import Derived.Conc.MuLone
import Derived.Deep.RegionLaw
set_option linter.unusedVariables false

/- Words for the walks of the exact laws: the argument in its box, the copy that is handed over, results. -/
namespace Go.Proofs.YtfioaohadanjmaaGreat
open Go.RowKit

def LwRet (w : World) (e : Ending) (w' : World) : Prop := e = .returned (.bool true) ∧ Below w.heap.size w w'
/-- the law's argument in its box -/
structure ArB (w W : World) (g : Nat) (vt vb : Value) (ts : List Int) (l : List St) : Prop where
  bel : Below w.heap.size w W
  row : RowB W g 25 [vt, vb]
  hg : w.heap.size ≤ g
  ht : IntS W w.heap.size vt ts
  hl : StS W w.heap.size vb l
theorem ArB.lt {w W : World} {g : Nat} {vt vb : Value} {ts : List Int} {l : List St} (h : ArB w W g vt vb ts l) : g < W.heap.size := h.row.lt
theorem ArB.low {w W W' : World} {g B : Nat} {vt vb : Value} {ts : List Int} {l : List St} (h : ArB w W g vt vb ts l) (hb : Below B W W') (hg : g < B) : ArB w W' g vt vb ts l := by
  have h1 := h.hg
  exact ⟨h.bel.trans (hb.mono (by omega)), h.row.low hb hg, h.hg, h.ht.low hb (by omega), h.hl.low hb (by omega)⟩
theorem ArB.bels {w W W' : World} {g : Nat} {vt vb : Value} {ts : List Int} {l : List St} (h : ArB w W g vt vb ts l) (hb : Below W.heap.size W W') : ArB w W' g vt vb ts l := h.low hb h.lt
theorem ArB.c0 {w W : World} {g : Nat} {vt vb : Value} {ts : List Int} {l : List St} (h : ArB w W g vt vb ts l) : W.cell? ⟨g, 0, none⟩ = some vt := h.row.cell 0
theorem ArB.c1 {w W : World} {g : Nat} {vt vb : Value} {ts : List Int} {l : List St} (h : ArB w W g vt vb ts l) : W.cell? ⟨g, 1, none⟩ = some vb := h.row.cell 1

/-- the copy that is handed over, in its box -/
structure XB (W : World) (lo hi : Nat) (vt vb : Value) (ts : List Int) (l : List St) : Prop where
  row : RowB W hi 31 [vt, vb]
  le : lo ≤ hi
  ht : OInts W lo vt ts
  own : ∀ b, vt.ownBlock = some b → b < hi
  hl : TrS W (fun b => lo ≤ b ∧ b < hi) true vb l
theorem XB.lt {W : World} {lo hi : Nat} {vt vb : Value} {ts : List Int} {l : List St} (h : XB W lo hi vt vb ts l) : hi < W.heap.size := h.row.lt
theorem XB.bels {W W' : World} {lo hi : Nat} {vt vb : Value} {ts : List Int} {l : List St} (h : XB W lo hi vt vb ts l) (hb : Below W.heap.size W W') : XB W' lo hi vt vb ts l :=
  ⟨h.row.low hb h.lt, h.le, h.ht.bel hb, h.own, h.hl.bel hb⟩
theorem XB.c0 {W : World} {lo hi : Nat} {vt vb : Value} {ts : List Int} {l : List St} (h : XB W lo hi vt vb ts l) : W.cell? ⟨hi, 0, none⟩ = some vt := h.row.cell 0
theorem XB.c1 {W : World} {lo hi : Nat} {vt vb : Value} {ts : List Int} {l : List St} (h : XB W lo hi vt vb ts l) : W.cell? ⟨hi, 1, none⟩ = some vb := h.row.cell 1
theorem XB.new {w W : World} {vt vb : Value} {ts : List Int} {l : List St} (ht : OInts W w.heap.size vt ts) (hl : TrS W (fun b => w.heap.size ≤ b) true vb l) (hb : Below w.heap.size w W) : XB (W.alloc (.cells #[vt, vb] 31)) w.heap.size W.heap.size vt vb ts l := by
  have hA := bel_a W (.cells #[vt, vb] 31)
  exact ⟨RowB.new W [vt, vb] _, hb.size, ht.bel hA, fun b e => (ht.own_lt e).2, hl.frame fun b hp hl => ⟨⟨hp, hl⟩, hA.block b hl⟩⟩
theorem XB.rt {W : World} {lo hi : Nat} {vt vb : Value} {ts : List Int} {l : List St} (h : XB W lo hi vt vb ts l) (hl : ts.length ≤ 4194304) : IntS W W.heap.size vt ts := h.ht.toS hl
theorem XB.rl {W : World} {lo hi : Nat} {vt vb : Value} {ts : List Int} {l : List St} (h : XB W lo hi vt vb ts l) : StS W W.heap.size vb l := h.hl.toS
/-- what marks turn in the copy -/
def XQ (vt : Value) (lo hi : Nat) : Nat → Prop := fun b => vt.ownBlock = some b ∨ (lo ≤ b ∧ b < hi)
theorem XB.q {W : World} {lo hi : Nat} {vt vb : Value} {ts : List Int} {l : List St} (h : XB W lo hi vt vb ts l) : ∀ b, XQ vt lo hi b → lo ≤ b ∧ b < hi := fun b hb => by
  rcases hb with e | hb
  · exact ⟨(h.ht.own_lt e).1, h.own b e⟩
  · exact hb
theorem OInts.ownMk {w w' : World} {base lo : Nat} {v : Value} {l : List Int} (h : OInts w base v l) (hm : Mk (fun b => v.ownBlock = some b) w w') (hlo : lo ≤ base) : Below lo w w' :=
  hm.bel fun b e => Nat.le_trans hlo (h.own_lt e).1
/-- what is read of an argument, any size -/
structure ArA (w W : World) (g : Nat) (vt vb : Value) (ts : List Int) (l : List St) : Prop where
  bel : Below w.heap.size w W
  row : RowB W g 25 [vt, vb]
  hg : w.heap.size ≤ g
  ht : AnI W w.heap.size vt ts
  hl : StS W w.heap.size vb l
theorem ArA.new {w : World} {vt vb : Value} {ts : List Int} {l : List St} (ht : AnI w w.heap.size vt ts) (hl : StS w w.heap.size vb l) : ArA w (w.alloc (.cells #[vt, vb] 25)) w.heap.size vt vb ts l := by
  have hA := bel_a w (.cells #[vt, vb] 25)
  exact ⟨hA, RowB.new w [vt, vb] _, Nat.le_refl _, ht.low hA (Nat.le_refl _), hl.low hA (Nat.le_refl _)⟩
theorem ArA.bels {w W W' : World} {g : Nat} {vt vb : Value} {ts : List Int} {l : List St} (h : ArA w W g vt vb ts l) (hb : Below W.heap.size W W') : ArA w W' g vt vb ts l := by
  have h1 := h.bel.size
  exact ⟨h.bel.trans (hb.mono h1), h.row.low hb h.row.lt, h.hg, h.ht.low hb h1, h.hl.low hb h1⟩
theorem ArA.toB {w W : World} {g : Nat} {vt vb : Value} {ts : List Int} {l : List St} (h : ArA w W g vt vb ts l) (hl : ts.length ≤ 4194304) : ArB w W g vt vb ts l := ⟨h.bel, h.row, h.hg, h.ht.toS hl, h.hl⟩

end Go.Proofs.YtfioaohadanjmaaGreat

/- Rows of sets of 64 bits; impl.graph.tracked. -/
namespace Go.Proofs.YtfioaohadanjmaaGreat
open Go.RowKit

theorem RowB.grown {w w' : World} {g g' : Nat} {t : TypeId} {l : List Value} (h : RowB w g t l) (k : w.grownBy w' (some g')) (hne : g ≠ g') : RowB w' g t l :=
  (k.block g h.lt (fun e => hne (by injection e))).trans h
theorem OInts.oth {w w' : World} {base g : Nat} {v : Value} {l : List Int} (h : OInts w base v l) (hg : g < base) (k : w.grownBy w' (some g)) : OInts w' base v l :=
  World.ownsRow.kept h k (.inr (by
    cases e : v.ownBlock with
    | none => simp
    | some k => intro e'; injection e' with e'; have := (World.ownsRow.lt h k e).1; omega))
theorem OInts.at_ {w : World} {base : Nat} {A : Option Addr} {n c : Nat} {l : List Int} (h : OInts w base (.slice A n c) l) {k : Nat} (hk : k < l.length) :
    ∃ g, A = some ⟨g, 0, none⟩ ∧ base ≤ g ∧ g < w.heap.size ∧ n = l.length ∧ w.cell? ⟨g, k, none⟩ = some (.int .i64 (l.getD k 0)) := by
  obtain ⟨A', c', e, _⟩ := h.slice
  injection e with _ e2 _
  subst e2
  obtain ⟨g, cap, e, hb, hlt⟩ := World.ownsRow.form h (by omega)
  injection e with e1 _ e3
  subst e1 e3
  refine ⟨g, rfl, hb, hlt, rfl, ?_⟩
  rw [World.ownsRow.cellAt h k (by omega), List.getElem?_map, List.getElem?_eq_getElem hk, getD_lt hk]; rfl
/-- bits, with a slice of its own -/
def OIntsRet (w : World) (l : List Int) (e : Ending) (w' : World) : Prop := ∃ v, e = .returned v ∧ OInts w' w.heap.size v l ∧ Below w.heap.size w w'
set_option maxHeartbeats 1000000 in
theorem bits_own (m : Nat) (hm : m < 64) (w : World) : Calls Tryz.prog 92 #[.int .i64 (m : Nat)] w (OIntsRet w (lst 6 m.testBit)) := by
  go_enter Tryz.func92, Tryz.ntmps92
  go_wp2_with fail
  go_loopw [3, 4] (fun v i wr => ∃ (k : Nat) (l : List Int), k ≤ 6 ∧ i = .int .i64 k ∧ l = lst k m.testBit ∧ OInts wr w.heap.size v l ∧ Below w.heap.size w wr) (fun _ i _ => 6 - (intOf i).toNat)
  case atStart => exact ⟨0, [], by omega, rfl, rfl, OInts.nil _ _, Below.refl _ _⟩
  case round =>
    obtain ⟨k, l, hk, rfl, hl, hP, hb⟩ := hrel
    have HL := Lib.hid hl
    clear hl
    obtain ⟨A, c, rfl, hc⟩ := hP.slice
    obtain ⟨q, hq⟩ : ∃ q : Nat, ((m : Int) / 2 ^ k) = q := ⟨m / 2 ^ k, by simp⟩
    have hq' : q = m / 2 ^ k := by
      have : ((m / 2 ^ k : Nat) : Int) = q := by rw [← hq]; simp
      omega
    have hq64 : q ≤ 63 := by rw [hq']; exact Nat.le_trans (Nat.div_le_self _ _) (by omega)
    have HQ := Lib.hid hq'
    clear hq'
    have hbt := bit_test HQ.out hq64
    by_cases hpos : 0 < q
    · have hk5 : k < 6 := by
        rcases Nat.lt_or_ge k 6 with h | h
        · exact h
        · have hp : 64 ≤ 2 ^ k := Nat.pow_le_pow_right (n := 2) (by omega) h
          have := HQ.out
          rw [Nat.div_eq_of_lt (by omega)] at this
          omega
      cases hbk : m.testBit k
      · rw [hbk] at hbt
        have HBK := Lib.hid hbk
        clear hbk
        go_wp2_with (at_builtin; fail)
        refine ⟨⟨k + 1, l, by omega, by go_num, by rw [lst_succ_false HBK.out]; exact HL.out, hP, hb⟩, by simp [intOf]; omega⟩
      · rw [hbk] at hbt
        have HBK := Lib.hid hbk
        clear hbk
        have hll : l.length ≤ 6 := by rw [HL.out]; have := lst_len k m.testBit; omega
        go_wp2_with (at_builtin; go_must (refine wpList_push_int rfl (.tmp 16) (.tmp 18) rfl hP hb.size (by omega) _ rfl rfl ?_); intro v' w' hP' hE')
        refine ⟨⟨k + 1, _, by omega, by go_num, by rw [lst_succ_true HBK.out, HL.out], hP', hb.trans ((((Evo.alloc w.heap.size 3 _ _).trans hE').below hb.size))⟩, by simp [intOf]; omega⟩
    · have hq0 : q = 0 := by omega
      subst hq0
      go_wp2_with (at_builtin; fail)
      go_ret
      have hfin : lst k m.testBit = lst 6 m.testBit := lst_more hk fun i h1 h2 => by
        rw [Nat.testBit_eq_decide_div_mod_eq]
        have h0 : m < 2 ^ k := by
          have := HQ.out
          rcases Nat.lt_or_ge m (2 ^ k) with h | h
          · exact h
          · have := Nat.div_pos h (Nat.two_pow_pos k); omega
        have hp : 2 ^ k ≤ 2 ^ i := Nat.pow_le_pow_right (n := 2) (by omega) h1
        rw [Nat.div_eq_of_lt (by omega)]
        rfl
      refine ⟨_, rfl, ?_, hb⟩
      rw [← hfin, ← HL.out]
      exact hP

set_option maxHeartbeats 8000000
set_option maxRecDepth 100000

end Go.Proofs.YtfioaohadanjmaaGreat

/- Plain: a run under way. No program in sight. -/
namespace Go.Proofs.YtfioaohadanjmaaGreat

/-- a run under way: o are its points so far, a comes next, cs' are the choices that are left -/
def RunRel (pts : List Pt) (most : Nat) (cs : List Int) (o : List Nat) (a : Nat) (cs' : List Int) : Prop :=
  (o.length ≤ most ∧ runF pts most 0 cs = (o ++ (runF pts (most - o.length) a cs').1, (runF pts (most - o.length) a cs').2)) ∨ (o.length = most + 1 ∧ runF pts most 0 cs = (o.take most, false))
theorem RunRel.start (pts : List Pt) (most : Nat) (cs : List Int) : RunRel pts most cs [] 0 cs := .inl ⟨by simp, by simp⟩
theorem RunRel.stop {pts : List Pt} {most a : Nat} {cs cs' : List Int} {o : List Nat} (h : RunRel pts most cs o a cs') (hl : o.length ≤ most) (ho : (ptD pts a).op = 11) : runF pts most 0 cs = (o ++ [a], true) := by
  rcases h with ⟨_, h⟩ | ⟨h, _⟩
  · rw [h, runF_end ho]
  · omega
theorem RunRel.go {pts : List Pt} {most a : Nat} {cs cs' : List Int} {o : List Nat} (h : RunRel pts most cs o a cs') (hl : o.length ≤ most) (ho : (ptD pts a).op ≠ 11) : RunRel pts most cs (o ++ [a]) (stepP (ptD pts a) cs') (restP (ptD pts a) cs') := by
  rcases h with ⟨_, h⟩ | ⟨h, _⟩
  · by_cases e : o.length = most
    · refine .inr ⟨by simp [e], ?_⟩
      rw [h, e, Nat.sub_self, runF_cut ho, ← e]
      simp
    · refine .inl ⟨by simp; omega, ?_⟩
      rw [h, show most - o.length = (most - (o ++ [a]).length) + 1 by simp; omega, runF_go ho]
      simp
  · omega
theorem RunRel.cut {pts : List Pt} {most a : Nat} {cs cs' : List Int} {o : List Nat} (h : RunRel pts most cs o a cs') (hl : ¬ o.length ≤ most) : o.length = most + 1 ∧ runF pts most 0 cs = (o.take most, false) := by
  rcases h with ⟨h, _⟩ | h
  · exact absurd h hl
  · exact h

end Go.Proofs.YtfioaohadanjmaaGreat

/- slices.Grow of nil, slices.Concat of two slices of ints; impl.graph.from, PathsTo, PathsFrom. -/
namespace Go.Proofs.YtfioaohadanjmaaGreat
open Go.RowKit

theorem IntS.toX {w : World} {B : Nat} {v : Value} {l : List Int} {P : Nat → Prop} (h : IntS w B v l) (hB : B ≤ w.heap.size) (hP : ∀ b, b < B → P b) : IntX w P v l := by
  obtain ⟨A, c, e, h1, h2, h3⟩ := h
  refine ⟨A, c, e, h1, h2, fun hn => ?_⟩
  obtain ⟨b, off, e, hb, hc⟩ := h3.int_at hn
  exact ⟨b, off, e, hP b hb, by omega, hc⟩
theorem IntX.head {w : World} {P : Nat → Prop} {v : Value} {a : Int} {q : List Int} (h : IntX w P v (a :: q)) :
    ∃ b off c, v = .slice (some ⟨b, off, none⟩) (q.length + 1) (c + 1) ∧ q.length ≤ c ∧ P b ∧ b < w.heap.size ∧ w.cell? ⟨b, off, none⟩ = some (.int .i64 a) ∧ (∀ off', (off' = off ∧ c = 0 ∨ off' = off + 1) → IntX w P (.slice (some ⟨b, off', none⟩) q.length c) q) := by
  obtain ⟨A, c, e, h1, h2, h3⟩ := h
  obtain ⟨b, off, rfl, hP, hb, hc⟩ := h3 (by simp)
  simp only [List.length_cons] at h1 h2 e hc
  obtain ⟨c, rfl⟩ : ∃ c', c = c' + 1 := ⟨c - 1, by omega⟩
  refine ⟨b, off, c, e, by omega, hP, hb, by simpa using hc 0 (by omega), fun off' ho => ⟨_, c, rfl, by omega, by omega, fun hn => ⟨b, off', rfl, hP, hb, fun j hj => ?_⟩⟩⟩
  rcases ho with ⟨-, hc0⟩ | rfl
  · omega
  · have := hc (j + 1) (by omega)
    rw [show off + 1 + j = off + (j + 1) by omega, this]
    simp [List.getD]

end Go.Proofs.YtfioaohadanjmaaGreat

/- impl.Point.isLoan, isChoice; impl.graph.run; slices.Clone; impl.RunPath. -/
namespace Go.Proofs.YtfioaohadanjmaaGreat
open Go.RowKit

set_option maxHeartbeats 400000 in
theorem isChoice_any (op x y n : Int) (A : Option Addr) (m c : Nat) (w : World) :
    Calls Tryz.prog 91 #[.agg #[.int .i64 op, .int .i64 x, .int .i64 y, .int .i64 n, .slice A m c]] w fun e w' => e = .returned (.bool (decide (m = 2))) ∧ Below w.heap.size w w' := by
  have hd : (((m : Nat) : Int) == 2) = decide (m = 2) := by rw [Bool.eq_iff_iff]; simp; omega
  go_enter Tryz.func91, Tryz.ntmps91
  go_wp2_with fail
  go_ret
  exact ⟨rfl, bel_a _ _⟩
theorem IntS.take {w : World} {B n c m : Nat} {A : Option Addr} {l : List Int} (h : IntS w B (.slice A n c) l) (hm : m ≤ l.length) : IntS w B (.slice A m c) (l.take m) := by
  obtain ⟨A', c', e, h1, h2, h3⟩ := h
  injection e with e1 e2 e3
  subst e1 e3
  have hl : (l.take m).length = m := by simp; omega
  refine ⟨A, c, by rw [hl], by omega, by omega, by simp, fun hn => ?_⟩
  obtain ⟨b, off, e, hb, hc⟩ := h3.2 (by omega)
  refine ⟨b, off, e, hb, fun j u hu => hc j u ?_⟩
  have hj : j < m := by have := (List.getElem?_eq_some_iff.1 hu).1; simp at this; omega
  rw [List.getElem?_map, List.getElem?_take_of_lt hj] at hu
  rw [List.getElem?_map]; exact hu
theorem and_one (c : Int) : bits .and .i64 c 1 = c % 2 := by
  show IntKind.i64.wrap ((BitVec.ofInt 64 c &&& BitVec.ofInt 64 1).toNat : Int) = _
  rw [BitVec.toNat_and, show (BitVec.ofInt 64 1).toNat = 1 by decide, Nat.and_one_is_mod, BitVec.toNat_ofInt, back64 (by omega)]
  omega

end Go.Proofs.YtfioaohadanjmaaGreat

/- Loans: owned rows of them; impl.LoansOf. -/
namespace Go.Proofs.YtfioaohadanjmaaGreat
open Go.RowKit

end Go.Proofs.YtfioaohadanjmaaGreat

/- impl.graphOf once more: without a graph it answers nil. -/
namespace Go.Proofs.YtfioaohadanjmaaGreat
open Go.RowKit

end Go.Proofs.YtfioaohadanjmaaGreat

/- What is made at points: the closures of impl's cells, numbers, setters; impl.CellsOf, SettersOf, NumbersOf. -/
namespace Go.Proofs.YtfioaohadanjmaaGreat
open Go.RowKit

theorem Good.y {ts : List Int} {pts : List Pt} (g : Good ts pts) {k : Nat} {p : Pt} (hp : pts[k]? = some p) (ho : 3 ≤ p.op ∧ p.op ≤ 7) : 0 ≤ p.y ∧ p.y < ts.length := by
  rcases g.ok p (List.mem_of_getElem? hp) with h | h | h | h
  · omega
  · omega
  · omega
  · exact typeOf_in (simple_y h ho)
theorem simple_n {ts : List Int} {op x y n : Int} (h : simpleP ts op x y n = true) : 0 ≤ n ∧ n ≤ 9 := by
  unfold simpleP at h
  repeat' split at h
  all_goals simp only [Bool.and_eq_true, Bool.or_eq_true, beq_iff_eq, bne_iff_ne, decide_eq_true_eq, Bool.false_eq_true] at h
  all_goals first | exact h.elim | omega
theorem Good.n {ts : List Int} {pts : List Pt} (g : Good ts pts) {k : Nat} {p : Pt} (hp : pts[k]? = some p) (ho : p.op ≤ 8) : 0 ≤ p.n ∧ p.n ≤ 9 := by
  rcases g.ok p (List.mem_of_getElem? hp) with h | h | h | h
  · omega
  · omega
  · omega
  · exact simple_n h
end Go.Proofs.YtfioaohadanjmaaGreat

/- impl.CellsOf, SettersOf, NumbersOf, MayAlias, UsersOf. -/
namespace Go.Proofs.YtfioaohadanjmaaGreat
open Go.RowKit

end Go.Proofs.YtfioaohadanjmaaGreat

/- Plain: what flows, beside what may be set, what is needed, what leads where. No program in sight. -/
namespace Go.Proofs.YtfioaohadanjmaaGreat

theorem taken_bit {ts : List Int} {p : Pt} {v : Nat} (hv : v < ts.length) : (takenP ts p.op p.x p.y).testBit v = (useP ts p.op p.x p.y (v : Nat) == 2) := by unfold takenP; rw [bm_bit, decide_eq_true hv, Bool.true_and]
theorem trB_set {ts : List Int} {p : Pt} {v : Nat} {b : Bool} (h : setsP p.op p.x = (v : Nat)) : trB false ts p b v = true := by
  unfold trB; rw [setBit_bit, decide_eq_true h]; simp
theorem trB_keep {ts : List Int} {p : Pt} {v : Nat} (hv : v < ts.length) (h : useP ts p.op p.x p.y (v : Nat) ≠ 2) : trB false ts p true v = true := by
  unfold trB; rw [taken_bit hv, beq_false_of_ne h]; simp
theorem Fl.maybe {ts : List Int} {pts : List Pt} {G : Nat → Pt → Nat → Bool} {C : Pt → Bool} {i v e : Nat} (h : Fl ts pts G C i v e) : Ac false ts pts 0 i v := by
  induction h with
  | gen hp hk hv hs _ => exact .gen hp hk hv (trB_set hs)
  | copy hp hk hv hs _ _ _ => exact .gen hp hk hv (trB_set hs)
  | keep hp hk hv _ ht _ ih => exact .keep hp hk ih (trB_keep hv ht)
theorem Fl.used {ts : List Int} {pts : List Pt} {i v e : Nat} (h : Fl ts pts Gset Cset i v e) (hn : Nd ts pts i v) : ∃ p, pts[e]? = some p ∧ setsP p.op p.x = (v : Nat) ∧ ∃ j ∈ p.next, Nd ts pts j v := by
  induction h with
  | gen hp hk _ hs h =>
    have h' := (beq_iff_eq.1 h)
    subst h'
    exact ⟨_, hp, hs, _, hk, hn⟩
  | copy _ _ _ _ hc _ _ => simp [Cset] at hc
  | keep hp hk _ hs _ _ ih => exact ih (.flow hp hk hn hs)
/-- what a loan is of, lies in it afterwards; and stays where it was -/
theorem Fl.loan {ts : List Int} {pts : List Pt} {i k e : Nat} {p : Pt} (hp : pts[i]? = some p) (hk : k ∈ p.next) (ho : p.op = 4 ∨ p.op = 5) (g : Good ts pts) (h : Fl ts pts Gcell Ccell i p.y.toNat e) :
    Fl ts pts Gcell Ccell k p.x.toNat e ∧ Fl ts pts Gcell Ccell k p.y.toNat e := by
  rcases g.ok p (List.mem_of_getElem? hp) with hh | hh | hh | hh
  · omega
  · omega
  · omega
  · have hx := typeOf_in (simple_x hh).2.2
    have hy := typeOf_in (simple_y hh (by omega))
    have hxn : ((p.x.toNat : Nat) : Int) = p.x := by omega
    have hyn : ((p.y.toNat : Nat) : Int) = p.y := by omega
    have hs : setsP p.op p.x = p.x := by unfold setsP; rw [if_pos (by omega)]
    have hne : p.x ≠ p.y := by rcases ho with ho | ho <;> rw [ho] at hh <;> simp [simpleP] at hh <;> exact hh.2.2
    refine ⟨.copy hp hk (by omega) (by rw [hs, hxn]) (by rcases ho with ho | ho <;> simp [Ccell, ho]) h, .keep hp hk (by omega) (by rw [hs, hyn]; exact hne) ?_ h⟩
    rw [hyn]
    rcases ho with ho | ho <;> simp [useP, ho]

end Go.Proofs.YtfioaohadanjmaaGreat

/- Plain: loans: from which of them values come, where they are placed. No program in sight. -/
namespace Go.Proofs.YtfioaohadanjmaaGreat

def lonB (p : Pt) : Bool := p.op == 4 || p.op == 5
theorem lonB_iff {p : Pt} : lonB p = true ↔ p.op = 4 ∨ p.op = 5 := by simp [lonB]
theorem Gloan_iff {i e : Nat} {p : Pt} : Gloan i p e = true ↔ (p.op = 4 ∨ p.op = 5) ∧ e = i := by simp [Gloan]
/-- what comes from a loan: the loan's point, which leads there; and it is a reference -/
theorem Fl.loanOf {ts : List Int} {pts : List Pt} {i v e : Nat} (h : Fl ts pts Gloan (Cloan ts) i v e) (g : Good ts pts) : (∃ p, pts[e]? = some p ∧ (p.op = 4 ∨ p.op = 5)) ∧ Lds pts e i ∧ isRefP (typeOfP ts (v : Nat)) = true := by
  induction h with
  | @gen i k v e p hp hk hv hs h =>
    obtain ⟨ho, rfl⟩ := Gloan_iff.1 h
    refine ⟨⟨p, hp, ho⟩, .one hp hk, ?_⟩
    rcases g.ok p (List.mem_of_getElem? hp) with hh | hh | hh | hh
    · omega
    · omega
    · omega
    · have hx : p.x = (v : Nat) := by rw [← hs]; unfold setsP; rw [if_pos (by omega)]
      rw [← hx]
      rcases ho with ho | ho <;> rw [ho] at hh <;> simp [simpleP] at hh <;> (rw [hh.2.1.1]; rfl)
  | @copy i k v e p hp hk hv hs hc hi ih =>
    obtain ⟨ih1, ih2, ih3⟩ := ih
    refine ⟨ih1, ih2.snoc hp hk, ?_⟩
    have ho : p.op = 3 ∨ p.op = 4 ∨ p.op = 5 := by
      unfold Cloan at hc
      simp at hc
      rcases hc with h | ⟨h, _⟩ <;> omega
    rcases g.ok p (List.mem_of_getElem? hp) with hh | hh | hh | hh
    · omega
    · omega
    · omega
    · have hx : p.x = (v : Nat) := by rw [← hs]; unfold setsP; rw [if_pos (by omega)]
      have hy := typeOf_in (simple_y hh (by omega))
      have hyn : ((p.y.toNat : Nat) : Int) = p.y := by omega
      rw [hyn] at ih3
      rw [← hx]
      rcases ho with ho | ho | ho <;> rw [ho] at hh <;> simp [simpleP] at hh
      · rw [hh.2.1.1]; exact ih3
      · rw [hh.2.1.1]; rfl
      · rw [hh.2.1.1]; rfl
  | keep hp hk _ _ _ _ ih => exact ⟨ih.1, ih.2.1.snoc hp hk, ih.2.2⟩

/-- does p end the placing of the loan at e? -/
def killB (ts : List Int) (pts : List Pt) (p : Pt) (e : Nat) : Bool := match pts[e]? with
  | some q => lonB q && (useP ts p.op p.x p.y q.y == 2 || setsP p.op p.x == q.y)
  | none => false
/-- which loans are placed before a point -/
inductive Pld (ts : List Int) (pts : List Pt) : Nat → Nat → Prop
  | gen {i k : Nat} {p : Pt} (hp : pts[i]? = some p) (hk : k ∈ p.next) (hl : lonB p = true) : Pld ts pts k i
  | keep {i k e : Nat} {p : Pt} (hp : pts[i]? = some p) (hk : k ∈ p.next) (hn : killB ts pts p e = false) (hi : Pld ts pts i e) : Pld ts pts k e
theorem Pld.loan {ts : List Int} {pts : List Pt} {k e : Nat} (h : Pld ts pts k e) : (∃ p, pts[e]? = some p ∧ lonB p = true) ∧ Lds pts e k := by
  induction h with
  | gen hp hk hl => exact ⟨⟨_, hp, hl⟩, .one hp hk⟩
  | keep hp hk _ _ ih => exact ⟨ih.1, ih.2.snoc hp hk⟩
theorem Pld.lt {ts : List Int} {pts : List Pt} {k e : Nat} (h : Pld ts pts k e) : e < pts.length := by
  obtain ⟨⟨p, hp, -⟩, -⟩ := h.loan
  exact (List.getElem?_eq_some_iff.1 hp).1
def aftP (ts : List Int) (pts : List Pt) (i : Nat) (p : Pt) (b : Nat → Bool) (e : Nat) : Bool := (b e && !killB ts pts p e) || (lonB p && e == i)
theorem Pld.aft {ts : List Int} {pts : List Pt} {i k e : Nat} {p : Pt} {b : Nat → Bool} (hb : ∀ e, b e = true → Pld ts pts i e) (hp : pts[i]? = some p) (hk : k ∈ p.next) (h : aftP ts pts i p b e = true) : Pld ts pts k e := by
  unfold aftP at h
  rw [Bool.or_eq_true, Bool.and_eq_true, Bool.and_eq_true] at h
  rcases h with ⟨h1, h2⟩ | ⟨h1, h2⟩
  · exact .keep hp hk (by simpa using h2) (hb e h1)
  · obtain rfl := beq_iff_eq.1 h2
    exact .gen hp hk h1
theorem Pld.done {ts : List Int} {pts : List Pt} {st : Nat → Nat → Bool} (hc : ∀ i p k e, pts[i]? = some p → k ∈ p.next → e < pts.length → aftP ts pts i p (st i) e = true → st k e = true) {k e : Nat} (h : Pld ts pts k e) : st k e = true := by
  have hl := h.lt
  induction h with
  | gen hp hk hl2 => exact hc _ _ _ _ hp hk hl (by unfold aftP; rw [hl2]; simp)
  | keep hp hk hn hi ih => exact hc _ _ _ _ hp hk hl (by unfold aftP; rw [ih hl, hn]; rfl)

/-- the search for what is placed, its sets numbers of 64 bits -/
def stP (os : List Nat) (i e : Nat) : Bool := (os.getD i 0).testBit e
structure PlI (ts : List Int) (pts : List Pt) (os : List Nat) : Prop where
  len : os.length = pts.length
  small : ∀ m ∈ os, m < top64
  snd : ∀ i e, stP os i e = true → Pld ts pts i e
theorem PlI.init (ts : List Int) (pts : List Pt) : PlI ts pts (List.replicate pts.length 0) := by
  refine ⟨by simp, fun m hm => ?_, fun i e h => ?_⟩
  · rw [(List.mem_replicate.1 hm).2]; exact Nat.two_pow_pos _
  · have h0 : (List.replicate pts.length 0).getD i 0 = 0 := by
      by_cases hk : i < pts.length
      · rw [getD_lt (by simpa using hk)]; simp
      · rw [getD_ge (by simpa using hk)]
    unfold stP at h
    rw [h0] at h; simp at h
/-- along all edges of point i nothing is missing -/
def ClP (ts : List Int) (pts : List Pt) (os : List Nat) (i : Nat) : Prop := ∀ p, pts[i]? = some p → ∀ k ∈ p.next, ∀ e, aftP ts pts i p (stP os i) e = true → stP os k e = true
theorem PlI.done {ts : List Int} {pts : List Pt} {os : List Nat} (h : PlI ts pts os) (hc : ∀ i, i < pts.length → ClP ts pts os i) (i e : Nat) : stP os i e = true ↔ Pld ts pts i e := by
  refine ⟨h.snd i e, fun hf => Pld.done (st := stP os) (fun i p k e hp hk _ ha => ?_) hf⟩
  exact hc i (List.getElem?_eq_some_iff.1 hp).1 p hp k hk e ha

end Go.Proofs.YtfioaohadanjmaaGreat

/- Plain: bounds of regions, and the least regions that keep them. No program in sight. -/
namespace Go.Proofs.YtfioaohadanjmaaGreat

/-- a bound: the region of v has a loan (src < 0), or all that the region of src has (loan < 0) -/
structure Bd where
  v : Int
  loan : Int
  src : Int
def bdsPt (ts : List Int) (i : Nat) (p : Pt) : List Bd := (if lonB p then [⟨p.x, (i : Nat), -1⟩] else []) ++ (if (lonB p || p.op == 3) && isRefP (typeOfP ts p.y) then [⟨p.x, -1, p.y⟩] else [])
def bdsL (ts : List Int) (at_ : Nat) : List Pt → List Bd
  | [] => []
  | p :: r => bdsPt ts at_ p ++ bdsL ts (at_ + 1) r
theorem bdsL_mem {ts : List Int} {at_ : Nat} {L : List Pt} {b : Bd} : b ∈ bdsL ts at_ L ↔ ∃ i p, L[i]? = some p ∧ b ∈ bdsPt ts (at_ + i) p := by
  induction L generalizing at_ with
  | nil => simp [bdsL]
  | cons q r ih =>
    simp only [bdsL, List.mem_append, ih]
    constructor
    · rintro (h | ⟨i, p, hp, h⟩)
      · exact ⟨0, q, rfl, h⟩
      · exact ⟨i + 1, p, by simpa using hp, by rwa [show at_ + (i + 1) = at_ + 1 + i by omega]⟩
    · rintro ⟨i, p, hp, h⟩
      cases i with
      | zero => simp at hp; subst hp; exact .inl h
      | succ i => exact .inr ⟨i, p, by simpa using hp, by rwa [show at_ + (i + 1) = at_ + 1 + i by omega] at h⟩
theorem bdsPt_mem {ts : List Int} {i : Nat} {p : Pt} {b : Bd} : b ∈ bdsPt ts i p ↔ (lonB p = true ∧ b = ⟨p.x, (i : Nat), -1⟩) ∨ ((lonB p = true ∨ p.op = 3) ∧ isRefP (typeOfP ts p.y) = true ∧ b = ⟨p.x, -1, p.y⟩) := by
  unfold bdsPt
  rw [List.mem_append]
  refine or_congr ?_ ?_
  · by_cases h : lonB p = true
    · simp [h]
    · simp [h]
  · by_cases h : ((lonB p || p.op == 3) && isRefP (typeOfP ts p.y)) = true
    · rw [if_pos h]; simp at h; simp [h]
    · rw [if_neg h]; simp at h ⊢; intro h1 h2; exact absurd h2 (by simp [h h1])
/-- the bounds of a program's points -/
def bds (ts : List Int) (pts : List Pt) : List Bd := bdsL ts 0 pts
/-- the bounds speak of variables and loans that are there -/
structure BdOk (n m : Nat) (b : Bd) : Prop where
  v0 : 0 ≤ b.v
  v1 : b.v < n
  alt : (b.src = -1 ∧ 0 ≤ b.loan ∧ b.loan < m) ∨ (b.loan = -1 ∧ 0 ≤ b.src ∧ b.src < n)
/-- the least regions -/
inductive Rg (bs : List Bd) : Nat → Nat → Prop
  | base {v e : Nat} (h : ⟨(v : Nat), (e : Nat), -1⟩ ∈ bs) : Rg bs v e
  | step {v u e : Nat} (h : ⟨(v : Nat), -1, (u : Nat)⟩ ∈ bs) (hu : Rg bs u e) : Rg bs v e
theorem Rg.lt {bs : List Bd} {n m v e : Nat} (h : Rg bs v e) (hok : ∀ b ∈ bs, BdOk n m b) : v < n := by
  cases h with
  | base h => have := (hok _ h).v1; simpa using this
  | step h => have := (hok _ h).v1; simpa using this
theorem Rg.size {bs : List Bd} {n m v e : Nat} (h : Rg bs v e) (hok : ∀ b ∈ bs, BdOk n m b) : e < m := by
  induction h with
  | base h => rcases (hok _ h).alt with ⟨_, _, h3⟩ | ⟨h1, _, _⟩
              · simpa using h3
              · simp at h1
  | step _ _ ih => exact ih
/-- what a bound asks of sets -/
def keepB (s : Nat → Nat → Bool) (b : Bd) : Prop := if b.src < 0 then s b.v.toNat b.loan.toNat = true else ∀ e, s b.src.toNat e = true → s b.v.toNat e = true
theorem Rg.done {bs : List Bd} {n m v e : Nat} {s : Nat → Nat → Bool} (hok : ∀ b ∈ bs, BdOk n m b) (hk : ∀ b ∈ bs, keepB s b) (h : Rg bs v e) : s v e = true := by
  induction h with
  | base h => have := hk _ h; unfold keepB at this; simpa using this
  | @step v u e h _ ih =>
    have := hk _ h
    unfold keepB at this
    rw [if_neg (by simp)] at this
    simpa using this e (by simpa using ih)
/-- a bound's step stays right -/
theorem Rg.bound {bs : List Bd} {n m e : Nat} {b : Bd} {s : Nat → Nat → Bool} (hok : ∀ b ∈ bs, BdOk n m b) (hs : ∀ v e, s v e = true → Rg bs v e) (hb : b ∈ bs) (h : if b.src < 0 then e = b.loan.toNat else s b.src.toNat e = true) : Rg bs b.v.toNat e := by
  have ho := hok b hb
  have hv : ((b.v.toNat : Nat) : Int) = b.v := by have := ho.v0; omega
  rcases ho.alt with ⟨h1, h2, h3⟩ | ⟨h1, h2, h3⟩
  · rw [if_pos (by omega)] at h
    refine .base ?_
    rw [hv, h, show ((b.loan.toNat : Nat) : Int) = b.loan by omega, ← h1]; exact hb
  · rw [if_neg (by omega)] at h
    refine .step (u := b.src.toNat) ?_ (hs _ _ h)
    rw [hv, show ((b.src.toNat : Nat) : Int) = b.src by omega, ← h1]; exact hb

/-- what is there after k rounds, at the least -/
def Rk (bs : List Bd) : Nat → Nat → Nat → Prop
  | 0, _, _ => False
  | k + 1, v, e => (⟨(v : Nat), (e : Nat), -1⟩ : Bd) ∈ bs ∨ Rk bs k v e ∨ ∃ u : Nat, (⟨(v : Nat), -1, (u : Nat)⟩ : Bd) ∈ bs ∧ Rk bs k u e
theorem Rk.rg {bs : List Bd} {k v e : Nat} (h : Rk bs k v e) : Rg bs v e := by
  induction k generalizing v with
  | zero => exact h.elim
  | succ k ih =>
    rcases h with h | h | ⟨u, hu, h⟩
    · exact .base h
    · exact ih h
    · exact .step hu (ih h)
theorem Rk.up {bs : List Bd} {k j v e : Nat} (h : Rk bs k v e) (hk : k ≤ j) : Rk bs j v e := by
  induction j with
  | zero => have : k = 0 := by omega
            subst this; exact h
  | succ j ih =>
    by_cases e : k = j + 1
    · subst e; exact h
    · exact .inr (.inl (ih (by omega)))
theorem Rk.stop {bs : List Bd} {k e : Nat} (h : ∀ v, Rk bs (k + 1) v e → Rk bs k v e) {v : Nat} (hr : Rg bs v e) : Rk bs k v e := by
  induction hr with
  | base hb => exact h _ (.inl hb)
  | step hb _ ih => exact h _ (.inr (.inr ⟨_, hb, ih h⟩))
/-- n + 1 rounds are enough for n variables -/
theorem Rk.all {bs : List Bd} {n m v e : Nat} (hok : ∀ b ∈ bs, BdOk n m b) (h : Rg bs v e) : Rk bs (n + 1) v e := by
  refine Classical.byContradiction fun hno => ?_
  have grow : ∀ k, k ≤ n + 1 → k ≤ sumN n fun u => if dec (Rk bs k u e) then 1 else 0 := by
    intro k
    induction k with
    | zero => intro _; exact Nat.zero_le _
    | succ k ih =>
      intro hk
      have h1 := ih (by omega)
      have hne : ¬ ∀ u, Rk bs (k + 1) u e → Rk bs k u e := fun hs => hno ((Rk.stop hs h).up (by omega))
      obtain ⟨u, hu⟩ := Classical.not_forall.1 hne
      have hu2 : Rk bs (k + 1) u e ∧ ¬ Rk bs k u e := Classical.byContradiction fun hh => hu fun h1 => Classical.byContradiction fun h2 => hh ⟨h1, h2⟩
      have := sumN_lt (n := n) (k := u) (f := fun u => if dec (Rk bs k u e) then 1 else 0) (g := fun u => if dec (Rk bs (k + 1) u e) then 1 else 0) (fun i _ => by
        by_cases h : Rk bs k i e
        · simp only [dec_true h, dec_true (h.up (Nat.le_succ k))]; omega
        · simp only [dec_false h]; simp) (hu2.1.rg.lt hok) (by simp only [dec_true hu2.1, dec_false hu2.2]; simp)
      omega
  have h1 := grow (n + 1) (Nat.le_refl _)
  have h2 : ∀ n, (sumN n fun u => if dec (Rk bs (n + 1) u e) then 1 else 0) ≤ n := fun n => by
    have : ∀ (f : Nat → Nat) n, (∀ i, f i ≤ 1) → sumN n f ≤ n := fun f n hf => by
      induction n with
      | zero => exact Nat.le_refl _
      | succ n ih => have := hf n; simp only [sumN]; omega
    exact this _ n fun i => by split <;> omega
  have := h2 n
  omega
/-- sets that have what k rounds give, and along which the first i bounds were gone once more -/
structure RdI (bs : List Bd) (k i : Nat) (s : Nat → Nat → Bool) : Prop where
  snd : ∀ v e, s v e = true → Rg bs v e
  has : ∀ v e, Rk bs k v e → s v e = true
  part : ∀ b ∈ bs.take i, if b.src < 0 then s b.v.toNat b.loan.toNat = true else ∀ e, Rk bs k b.src.toNat e → s b.v.toNat e = true
theorem RdI.next {bs : List Bd} {n m k : Nat} {s : Nat → Nat → Bool} (hok : ∀ b ∈ bs, BdOk n m b) (h : RdI bs k bs.length s) : RdI bs (k + 1) 0 s := by
  refine ⟨h.snd, fun v e hr => ?_, fun b hb => by simp at hb⟩
  have hp := h.part
  rw [List.take_length] at hp
  rcases hr with hr | hr | ⟨u, hb, hr⟩
  · have := hp _ hr; simpa using this
  · exact h.has v e hr
  · have := hp _ hb
    rw [if_neg (by simp)] at this
    simpa using this e (by simpa using hr)
theorem RdI.go {bs : List Bd} {n m k i : Nat} {s s' : Nat → Nat → Bool} (hok : ∀ b ∈ bs, BdOk n m b) (h : RdI bs k i s) (hi : i < bs.length)
    (hs : ∀ v e, s' v e = true ↔ s v e = true ∨ (v = bs[i].v.toNat ∧ if bs[i].src < 0 then e = bs[i].loan.toNat else s bs[i].src.toNat e = true)) : RdI bs k (i + 1) s' := by
  have up : ∀ v e, s v e = true → s' v e = true := fun v e h => (hs v e).2 (.inl h)
  refine ⟨fun v e h2 => ?_, fun v e h2 => up v e (h.has v e h2), fun b hb => ?_⟩
  · rcases (hs v e).1 h2 with h3 | ⟨rfl, h3⟩
    · exact h.snd v e h3
    · exact Rg.bound hok h.snd (List.getElem_mem hi) h3
  · rw [take_succ_get bs i hi, List.mem_append, List.mem_singleton] at hb
    rcases hb with hb | rfl
    · have := h.part b hb
      by_cases h1 : b.src < 0
      · rw [if_pos h1] at this ⊢; exact up _ _ this
      · rw [if_neg h1] at this ⊢; exact fun e he => up _ _ (this e he)
    · by_cases h1 : bs[i].src < 0
      · rw [if_pos h1]; exact (hs _ _).2 (.inr ⟨rfl, by rw [if_pos h1]⟩)
      · rw [if_neg h1]; exact fun e he => (hs _ _).2 (.inr ⟨rfl, by rw [if_neg h1]; exact h.has _ _ he⟩)
theorem RdI.done {bs : List Bd} {n m k : Nat} {s : Nat → Nat → Bool} (hok : ∀ b ∈ bs, BdOk n m b) (h : RdI bs k 0 s) (hk : n + 1 ≤ k) (v e : Nat) : s v e = true ↔ Rg bs v e :=
  ⟨h.snd v e, fun hr => h.has v e ((Rk.all hok hr).up hk)⟩

/-- from where a value can come lies in the region -/
theorem Fl.region {ts : List Int} {pts : List Pt} {i v e : Nat} (g : Good ts pts) (h : Fl ts pts Gloan (Cloan ts) i v e) : Rg (bds ts pts) v e := by
  have hx : ∀ (v : Nat) (p : Pt), (p.op = 3 ∨ p.op = 4 ∨ p.op = 5) → setsP p.op p.x = (v : Nat) → p.x = (v : Nat) := fun v p ho hs => by
    rw [← hs]; unfold setsP; rw [if_pos (by omega)]
  induction h with
  | @gen i k v e p hp hk hv hs h =>
    obtain ⟨ho, rfl⟩ := Gloan_iff.1 h
    refine .base (bdsL_mem.2 ⟨e, p, hp, bdsPt_mem.2 (.inl ⟨lonB_iff.2 ho, ?_⟩)⟩)
    rw [hx v p (.inr ho) hs, Nat.zero_add]
  | @copy i k v e p hp hk hv hs hc hi ih =>
    have hr := (hi.loanOf g).2.2
    have ho : p.op = 3 ∨ p.op = 4 ∨ p.op = 5 := by
      unfold Cloan at hc; simp at hc
      rcases hc with h | ⟨h, _⟩ <;> omega
    have hy : ((p.y.toNat : Nat) : Int) = p.y := by
      rcases g.ok p (List.mem_of_getElem? hp) with hh | hh | hh | hh
      · omega
      · omega
      · omega
      · have := typeOf_in (simple_y hh (by omega)); omega
    rw [hy] at hr
    refine .step (u := p.y.toNat) (bdsL_mem.2 ⟨i, p, hp, bdsPt_mem.2 (.inr ⟨?_, hr, ?_⟩)⟩) ih
    · rcases ho with h | h
      · exact .inr h
      · exact .inl (lonB_iff.2 h)
    · rw [hx v p ho hs, hy]
  | keep _ _ _ _ _ _ ih => exact ih

end Go.Proofs.YtfioaohadanjmaaGreat

/- A region that draws its order, walked in the order of the text, where some operations yield a value of which only a property is known. No program in sight. -/
namespace Go.Proofs.YtfioaohadanjmaaGreat
open Go Go.RowKit

section
variable {P : Program} {ops : Array Oper} {Q : Exit → Act → World → Prop} {md : Region.Mode} {S : World → Prop} {V : Nat → Option (Value → Prop)}

def PureS (P : Program) (S : World → Prop) (o : Oper) (c : Value) (a : Act) : Prop := ∀ w, S w → (execOp a.eval o).run P w = .ok (.value c) w
def RelS (P : Program) (S : World → Prop) (o : Oper) (p : Value → Prop) (a : Act) : Prop :=
  (∀ w, S w → ∃ v w', (execOp a.eval o).run P w = .ok (.value v) w' ∧ p v ∧ S w') ∨
  (∃ f args, ∀ w, S w → (execOp a.eval o).run P w = .ok (.enter f args) w ∧ Calls P f args w fun e w' => ∃ v, e = .returned v ∧ p v ∧ S w')
/-- what operation o (number i) may do, and what is to hold of each outcome -/
def StepV (P : Program) (ops : Array Oper) (S : World → Prop) (V : Nat → Option (Value → Prop)) (i : Nat) (o : Oper) (a : Act) (K : Act → Prop) : Prop :=
  (Region.wanted o (yielded ops a.tmps) = false ∧ K (a.put o.dst undef)) ∨
  (Region.wanted o (yielded ops a.tmps) = true ∧ ((V i = none ∧ ∃ c, PureS P S o c a ∧ K (a.put o.dst c)) ∨ ∃ p, V i = some p ∧ RelS P S o p a ∧ ∀ v, p v → K (a.put o.dst v)))

theorem StepV.mono {i : Nat} {o : Oper} {a : Act} {K K' : Act → Prop} (h : StepV P ops S V i o a K) (hk : ∀ a, K a → K' a) : StepV P ops S V i o a K' := by
  rcases h with ⟨hw, h⟩ | ⟨hw, ⟨hv, c, hc, h⟩ | ⟨p, hv, hr, h⟩⟩
  · exact .inl ⟨hw, hk _ h⟩
  · exact .inr ⟨hw, .inl ⟨hv, c, hc, hk _ h⟩⟩
  · exact .inr ⟨hw, .inr ⟨p, hv, hr, fun v hp => hk _ (h v hp)⟩⟩
theorem StepV.mono' {i : Nat} {o : Oper} {a : Act} {K K' : Act → Prop} (h : StepV P ops S V i o a K) (hk : ∀ v, K (a.put o.dst v) → K' (a.put o.dst v)) : StepV P ops S V i o a K' := by
  rcases h with ⟨hw, h⟩ | ⟨hw, ⟨hv, c, hc, h⟩ | ⟨p, hv, hr, h⟩⟩
  · exact .inl ⟨hw, hk _ h⟩
  · exact .inr ⟨hw, .inl ⟨hv, c, hc, hk _ h⟩⟩
  · exact .inr ⟨hw, .inr ⟨p, hv, hr, fun v hp => hk _ (h v hp)⟩⟩
/-- some outcome there is -/
theorem StepV.some_ {i : Nat} {o : Oper} {a : Act} {K : Act → Prop} (h : StepV P ops S V i o a K) (hne : ∃ w, S w) : ∃ v, K (a.put o.dst v) := by
  obtain ⟨w, hS⟩ := hne
  rcases h with ⟨_, h⟩ | ⟨_, ⟨_, c, _, h⟩ | ⟨p, _, hr, h⟩⟩
  · exact ⟨_, h⟩
  · exact ⟨_, h⟩
  · rcases hr with hr | ⟨f, args, hr⟩
    · obtain ⟨v, _, _, hp, _⟩ := hr w hS; exact ⟨v, h v hp⟩
    · obtain ⟨_, hc⟩ := hr w hS
      obtain ⟨e, w', fr, ⟨v, _, hp, _⟩, _⟩ := hc []
      exact ⟨v, h v hp⟩
/-- the step of i at a, where K is to hold behind it, is the step at a state that differs only in what it does not look at -/
theorem StepV.shift {i : Nat} {o : Oper} {a a' : Act} {K K' : Act → Prop} (h : StepV P ops S V i o a K) (he : execOp a'.eval o = execOp a.eval o) (hw : Region.wanted o (yielded ops a'.tmps) = Region.wanted o (yielded ops a.tmps))
    (hk : ∀ v, K (a.put o.dst v) → K' (a'.put o.dst v)) : StepV P ops S V i o a' K' := by
  unfold StepV PureS RelS at *
  rw [he, hw]
  rcases h with ⟨hw, h⟩ | ⟨hw, ⟨hv, c, hc, h⟩ | ⟨p, hv, hr, h⟩⟩
  · exact .inl ⟨hw, hk _ h⟩
  · exact .inr ⟨hw, .inl ⟨hv, c, hc, hk _ h⟩⟩
  · exact .inr ⟨hw, .inr ⟨p, hv, hr, fun v hp => hk _ (h v hp)⟩⟩
/-- one step for many states behind another's -/
theorem StepV.all {i : Nat} {o : Oper} {a : Act} {X : Value → Prop} {K : Value → Act → Prop} (hne : ∃ w, S w) (h : ∀ v, X v → StepV P ops S V i o a (K v)) (hx : ∃ v, X v) : StepV P ops S V i o a fun a' => ∀ v, X v → K v a' := by
  obtain ⟨v0, hv0⟩ := hx
  obtain ⟨w, hS⟩ := hne
  rcases h v0 hv0 with ⟨hw, _⟩ | ⟨hw, ⟨hv, c, hc, _⟩ | ⟨p, hv, hr, _⟩⟩
  · refine .inl ⟨hw, fun v hx => ?_⟩
    rcases h v hx with ⟨_, h'⟩ | ⟨hw', _⟩
    · exact h'
    · rw [hw] at hw'; cases hw'
  · refine .inr ⟨hw, .inl ⟨hv, c, hc, fun v hx => ?_⟩⟩
    rcases h v hx with ⟨hw', _⟩ | ⟨_, ⟨_, c', hc', h'⟩ | ⟨p, hv', _⟩⟩
    · rw [hw] at hw'; cases hw'
    · have e := (hc w hS).symm.trans (hc' w hS)
      injection e with e
      injection e with e
      rw [e]; exact h'
    · rw [hv] at hv'; cases hv'
  · refine .inr ⟨hw, .inr ⟨p, hv, hr, fun u hp v hx => ?_⟩⟩
    rcases h v hx with ⟨hw', _⟩ | ⟨_, ⟨hv', _⟩ | ⟨p', hv', _, h'⟩⟩
    · rw [hw] at hw'; cases hw'
    · rw [hv] at hv'; cases hv'
    · rw [hv] at hv'; injection hv' with hv'; subst hv'; exact h' u hp

/-- in whatever order -/
def DetV (P : Program) (md : Region.Mode) (ops : Array Oper) (Q : Exit → Act → World → Prop) (S : World → Prop) (V : Nat → Option (Value → Prop)) : Nat → Array Bool → Act → Prop
  | 0, listed, a => Region.ready md ops listed = [] ∧ ∀ w, S w → Q .normal a w
  | fuel + 1, listed, a => (Region.ready md ops listed = [] → ∀ w, S w → Q .normal a w) ∧
    ∀ i ∈ Region.ready md ops listed, ∃ o, ops[i]? = some o ∧ StepV P ops S V i o a (DetV P md ops Q S V fuel (listed.setIfInBounds i true))
theorem DetV.first {i : Nat} {oi : Oper} (hne : ∃ w, S w) (hi : ops[i]? = some oi) (hsel : ∀ (j : Nat) (o : Oper) cs b, ops[j]? = some o → o.op ≠ .select cs b) :
    ∀ (fuel : Nat) (listed : Array Bool) (a : Act),
      (∀ j oj, ops[j]? = some oj → j ≠ i → listed.getD j true = false → (∀ e ∈ oj.after, Region.binds md e = true → e.on ≠ i) → oi.apart ops oj = true) →
      i ∈ Region.ready md ops listed → StepV P ops S V i oi a (DetV P md ops Q S V fuel (listed.setIfInBounds i true)) → DetV P md ops Q S V (fuel + 1) listed a := by
  intro fuel
  induction fuel with
  | zero =>
    intro listed a _ hr hy
    refine ⟨fun h => (by rw [h] at hr; cases hr), fun j hj => ?_⟩
    by_cases hji : j = i
    · subst hji; exact ⟨oi, hi, hy⟩
    · have := ready_mono hj hji
      obtain ⟨v, hv⟩ := hy.some_ hne
      rw [hv.1] at this
      cases this
  | succ fuel ih =>
    intro listed a hfree hr hy
    refine ⟨fun h => (by rw [h] at hr; cases hr), fun j hj => ?_⟩
    by_cases hji : j = i
    · subst hji; exact ⟨oi, hi, hy⟩
    · obtain ⟨hjun, oj, hoj, hall⟩ := mem_ready.1 hj
      have hnot : ∀ e ∈ oj.after, Region.binds md e = true → e.on ≠ i := fun e he hb heq => by
        have h1 := hall e he hb
        have h0 := (mem_ready.1 hr).1
        rw [heq] at h1
        rcases Nat.lt_or_ge i listed.size with h' | h'
        · simp [h'] at h0 h1; rw [h0] at h1; cases h1
        · simp [Array.getElem?_eq_none h'] at h1
      obtain ⟨h1, h2, h3⟩ := Oper.apart_spec (hfree j oj hoj hji hjun hnot)
      have hfree' : ∀ k ok, ops[k]? = some ok → k ≠ i → (listed.setIfInBounds j true).getD k true = false →
          (∀ e ∈ ok.after, Region.binds md e = true → e.on ≠ i) → oi.apart ops ok = true := fun k ok hk hki hun hno => by
        refine hfree k ok hk hki ?_ hno
        by_cases hjk : j = k
        · subst hjk; exact hjun
        · rw [getD_set_ne true hjk] at hun; exact hun
      -- the step of j, behind each outcome of i
      let X : Value → Prop := fun v => DetV P md ops Q S V (fuel + 1) (listed.setIfInBounds i true) (a.put oi.dst v)
      have hj' : ∀ v, X v → StepV P ops S V j oj a fun a' => DetV P md ops Q S V fuel ((listed.setIfInBounds i true).setIfInBounds j true) (a'.put oi.dst v) := fun v hv => by
        obtain ⟨oj', hoj', hst⟩ := hv.2 j (ready_mono hj hji)
        rw [hoj] at hoj'
        injection hoj' with e
        subst e
        refine hst.shift (execOp_put oj (fun cs b => hsel j oj cs b hoj) a oi.dst v h1).symm (wanted_put oj a oi.dst v h1).symm fun u hu => ?_
        rw [← Act.put_comm a v u h2]; exact hu
      refine ⟨oj, hoj, (StepV.all hne hj' (hy.some_ hne)).mono' fun u hu => ?_⟩
      refine ih (listed.setIfInBounds j true) (a.put oj.dst u) hfree' (ready_mono hr (Ne.symm hji)) ?_
      refine hy.shift (execOp_put oi (fun cs b => hsel i oi cs b hi) a oj.dst u h3) (wanted_put oi a oj.dst u h3) fun v hv => ?_
      have := hu v hv
      rw [Array.setIfInBounds_comm _ _ hji]
      exact this

/-- in the order of the text, from operation i on -/
def SeqV (P : Program) (ops : Array Oper) (Q : Exit → Act → World → Prop) (S : World → Prop) (V : Nat → Option (Value → Prop)) : Nat → List Oper → Act → Prop
  | _, [], a => ∀ w, S w → Q .normal a w
  | i, o :: rest, a => StepV P ops S V i o a (SeqV P ops Q S V (i + 1) rest)
theorem SeqV.skip {i : Nat} {o : Oper} {rest : List Oper} {a : Act} (hw : Region.wanted o (yielded ops a.tmps) = false) (h : SeqV P ops Q S V (i + 1) rest (a.put o.dst undef)) : SeqV P ops Q S V i (o :: rest) a := .inl ⟨hw, h⟩
theorem SeqV.call {i : Nat} {o : Oper} {rest : List Oper} {a : Act} {f : FuncId} {args : Array Value} (p : Value → Prop) (hw : Region.wanted o (yielded ops a.tmps) = true) (hV : V i = some p) (he : ∀ w, (execOp a.eval o).run P w = .ok (.enter f args) w) (hc : ∀ w, S w → Calls P f args w fun e w' => ∃ v, e = .returned v ∧ p v ∧ S w') (h : ∀ v, p v → SeqV P ops Q S V (i + 1) rest (a.put o.dst v)) : SeqV P ops Q S V i (o :: rest) a :=
  .inr ⟨hw, .inr ⟨p, hV, .inr ⟨f, args, fun w hS => ⟨he w, hc w hS⟩⟩, h⟩⟩

end
end Go.Proofs.YtfioaohadanjmaaGreat

/- Words for l1Mutate: a field of a statement turns; a statement is struck; a statement is put behind. -/
namespace Go.Proofs.YtfioaohadanjmaaGreat
open Go.RowKit

theorem OSt.form {w : World} {base : Nat} {v : Value} {l : List St} (h : OSt w base v l) (hn : 0 < l.length) : ∃ g cap, v = .slice (some ⟨g, 0, none⟩) l.length cap ∧ base ≤ g ∧ g < w.heap.size ∧ l.length ≤ cap ∧
    (∀ i (hi : i < l.length), ∃ tv ev, w.cell? ⟨g, i * 6, none⟩ = some (.int .i64 l[i].op) ∧ w.cell? ⟨g, i * 6 + 1, none⟩ = some (.int .i64 l[i].x) ∧ w.cell? ⟨g, i * 6 + 2, none⟩ = some (.int .i64 l[i].y) ∧ w.cell? ⟨g, i * 6 + 3, none⟩ = some (.int .i64 l[i].n) ∧
      w.cell? ⟨g, i * 6 + 4, none⟩ = some tv ∧ w.cell? ⟨g, i * 6 + 5, none⟩ = some ev ∧ StX w (fun b => base ≤ b ∧ g ≠ b) tv l[i].th ∧ StX w (fun b => base ≤ b ∧ g ≠ b) ev l[i].el) ∧ (∀ j, w.frozen? ⟨g, j, none⟩ = false) := by
  obtain ⟨es, rfl, h2, h3⟩ := h
  simp only [List.length_map] at hn
  obtain ⟨g, cap, rfl, hb, hlt⟩ := h2.form hn
  refine ⟨g, cap, by simp, hb, hlt, ?_, fun i hi => ?_, fun j => ?_⟩
  · rcases h2.2 with ⟨e, _⟩ | ⟨g', cap', cur, e, _, _, hc, _⟩
    · cases e
    · injection e with e1 e2 e3; subst e3; simpa using hc
  · have hi' : i < es.length := by simpa using hi
    obtain ⟨a0, a1, a2, a3, a4, a5⟩ := seCells_at hi'
    have hat : ∀ j, j < 6 → w.cell? ⟨g, i * 6 + j, none⟩ = (seCells es)[i * 6 + j]? := fun j hj => h2.cellAt _ (by omega)
    have hat0 : w.cell? ⟨g, i * 6, none⟩ = (seCells es)[i * 6]? := hat 0 (by omega)
    have k := h3 es[i] (List.getElem_mem hi')
    refine ⟨es[i].tv, es[i].ev, ?_⟩
    simp only [hat0, hat 1 (by omega), hat 2 (by omega), hat 3 (by omega), hat 4 (by omega), hat 5 (by omega), a0, a1, a2, a3, a4, a5, List.getElem_map]
    refine ⟨by first | trivial | rfl, by first | trivial | rfl, by first | trivial | rfl, by first | trivial | rfl, by first | trivial | rfl, by first | trivial | rfl, ?_, ?_⟩
    · exact k.1.frame (Nat.le_refl _) fun b hb' _ => ⟨⟨hb'.1, fun e => hb'.2 (by rw [e]; rfl)⟩, rfl⟩
    · exact k.2.frame (Nat.le_refl _) fun b hb' _ => ⟨⟨hb'.1, fun e => hb'.2 (by rw [e]; rfl)⟩, rfl⟩
  · rcases h2.2 with ⟨e, _⟩ | ⟨g', cap', cur, e, _, hh, _⟩
    · cases e
    · injection e with e1 e2 e3
      injection e1 with e1
      injection e1 with e1
      subst e1
      exact frozen_of_row w g j _ _ hh
/-- an owned row of statements whose statements' own rows lie in blocks of R -/
def OStR (w : World) (base : Nat) (R : Nat → Prop) (v : Value) (l : List St) : Prop :=
  ∃ es : List Se, l = es.map Se.st ∧ w.ownsRow base 100 6 v es.length (seCells es) ∧
    ∀ e ∈ es, StX w (fun b => (base ≤ b ∧ R b) ∧ v.ownBlock ≠ some b) e.tv e.th ∧ StX w (fun b => (base ≤ b ∧ R b) ∧ v.ownBlock ≠ some b) e.ev e.el
theorem OStR.to {w : World} {base : Nat} {R : Nat → Prop} {v : Value} {l : List St} (h : OStR w base R v l) : OSt w base v l := by
  obtain ⟨es, rfl, h2, h3⟩ := h
  exact ⟨es, rfl, h2, fun e he => ⟨(h3 e he).1.frame (Nat.le_refl _) fun b hb _ => ⟨⟨hb.1.1, hb.2⟩, rfl⟩, (h3 e he).2.frame (Nat.le_refl _) fun b hb _ => ⟨⟨hb.1.1, hb.2⟩, rfl⟩⟩⟩
/-- what leaves alone the rows from base on that are of R -/
theorem OStR.move {w w' : World} {base : Nat} {R : Nat → Prop} {v : Value} {l : List St} (h : OStR w base R v l) (hs : w.heap.size ≤ w'.heap.size) (hown : ∀ g, v.ownBlock = some g → w'.heap[g]? = w.heap[g]?) (hk : ∀ b, base ≤ b → R b → b < w.heap.size → w'.heap[b]? = w.heap[b]?) : OStR w' base R v l := by
  obtain ⟨es, rfl, h2, h3⟩ := h
  refine ⟨es, rfl, ⟨h2.1, ?_⟩, fun e he => ?_⟩
  · rcases h2.2 with h' | ⟨g, cap, cur, rfl, hbg, hh, rest⟩
    · exact .inl h'
    · exact .inr ⟨g, cap, cur, rfl, hbg, (hown g rfl).trans hh, rest⟩
  · obtain ⟨k1, k2⟩ := h3 e he
    have hk' : ∀ b, ((base ≤ b ∧ R b) ∧ v.ownBlock ≠ some b) → b < w.heap.size → ((base ≤ b ∧ R b) ∧ v.ownBlock ≠ some b) ∧ w'.heap[b]? = w.heap[b]? := fun b hb' hl => ⟨hb', hk b hb'.1.1 hb'.1.2 hl⟩
    exact ⟨k1.frame hs hk', k2.frame hs hk'⟩
/-- the first k statements of an owned row, with the room behind -/
theorem OStR.cut {w : World} {base g n cap : Nat} {R : Nat → Prop} {l : List St} (h : OStR w base R (.slice (some ⟨g, 0, none⟩) n cap) l) {k : Nat} (hk : k < l.length) :
    OStR w base R (.slice (some ⟨g, 0, none⟩) k cap) (l.take k) ∧ ∃ es2 : List Se, l.drop (k + 1) = es2.map Se.st ∧ (∀ j u, (seCells es2)[j]? = some u → w.cell? ⟨g, (k + 1) * 6 + j, none⟩ = some u) ∧
      (∀ e ∈ es2, StX w (fun b => (base ≤ b ∧ R b) ∧ (Value.slice (some ⟨g, 0, none⟩) k cap).ownBlock ≠ some b) e.tv e.th ∧ StX w (fun b => (base ≤ b ∧ R b) ∧ (Value.slice (some ⟨g, 0, none⟩) k cap).ownBlock ≠ some b) e.ev e.el) := by
  obtain ⟨es, rfl, h2, h3⟩ := h
  have hk' : k < es.length := by simpa using hk
  have hne : n = es.length := by
    rcases h2.2 with ⟨e, _⟩ | ⟨g', cap', cur, e, _⟩
    · cases e
    · injection e
  subst hne
  have hse : seCells es = seCells (es.take k) ++ seCells (es.drop k) := by rw [← seCells_append, List.take_append_drop]
  have hse2 : seCells es = seCells (es.take (k + 1)) ++ seCells (es.drop (k + 1)) := by rw [← seCells_append, List.take_append_drop]
  have hl1 : (seCells (es.take k)).length = k * 6 := by rw [seCells_len]; simp; omega
  have hl2 : (seCells (es.take (k + 1))).length = (k + 1) * 6 := by rw [seCells_len]; simp; omega
  refine ⟨⟨es.take k, by simp [List.map_take], ?_, fun e he => h3 e (List.mem_of_mem_take he)⟩, es.drop (k + 1), by simp [List.map_drop], fun j u hu => ?_, fun e he => h3 e (List.mem_of_mem_drop he)⟩
  · have hlen : (es.take k).length = k := by simp; omega
    rw [hlen]
    refine ⟨by rw [hl1], .inr ?_⟩
    rcases h2.2 with ⟨e, _⟩ | ⟨g', cap', cur, e, hb, hh, hc, hm, hs, hcur⟩
    · cases e
    · injection e with e1 e2 e3
      injection e1 with e1
      injection e1 with e1
      subst e1 e3
      refine ⟨g, cap, cur, rfl, hb, hh, by omega, hm, hs, ?_⟩
      have e1 : cur.toList.take (k * 6) = (cur.toList.take (es.length * 6)).take (k * 6) := by rw [List.take_take, Nat.min_eq_left (by omega)]
      rw [e1, hcur, hse, List.take_left' hl1]
  · have hj : j < (seCells (es.drop (k + 1))).length := by
      rcases Nat.lt_or_ge j (seCells (es.drop (k + 1))).length with h | h
      · exact h
      · rw [List.getElem?_eq_none h] at hu; cases hu
    have hlen : (seCells es).length = es.length * 6 := seCells_len _
    have e : (seCells es)[(k + 1) * 6 + j]? = some u := by
      rw [hse2, List.getElem?_append_right (by omega), hl2, Nat.add_sub_cancel_left]; exact hu
    rw [← e]
    have hlt : (k + 1) * 6 + j < es.length * 6 := by
      rw [← hlen, hse2, List.length_append, hl2]; omega
    exact h2.cellAt _ hlt

theorem OStR.first {w : World} {base : Nat} {R : Nat → Prop} {v : Value} {l : List St} (h : OStR w base R v l) (hn : 0 < l.length) : ∃ (g cap : Nat) (e : Se), v = .slice (some ⟨g, 0, none⟩) l.length cap ∧ base ≤ g ∧ g < w.heap.size ∧ l.head? = some e.st ∧
    w.cell? ⟨g, 0, none⟩ = some (.int .i64 e.op) ∧ w.cell? ⟨g, 1, none⟩ = some (.int .i64 e.x) ∧ w.cell? ⟨g, 2, none⟩ = some (.int .i64 e.y) ∧ w.cell? ⟨g, 3, none⟩ = some (.int .i64 e.n) ∧ w.cell? ⟨g, 4, none⟩ = some e.tv ∧ w.cell? ⟨g, 5, none⟩ = some e.ev ∧
    StX w (fun b => (base ≤ b ∧ R b) ∧ v.ownBlock ≠ some b) e.tv e.th ∧ StX w (fun b => (base ≤ b ∧ R b) ∧ v.ownBlock ≠ some b) e.ev e.el := by
  obtain ⟨es, rfl, h2, h3⟩ := h
  simp only [List.length_map] at hn
  obtain ⟨e, r, rfl⟩ : ∃ e r, es = e :: r := by
    cases es with
    | nil => simp at hn
    | cons e r => exact ⟨e, r, rfl⟩
  obtain ⟨g, cap, rfl, hb, hlt⟩ := h2.form hn
  have hat : ∀ j, j < 6 → w.cell? ⟨g, j, none⟩ = (seCells (e :: r))[j]? := fun j hj => h2.cellAt _ (by simp; omega)
  exact ⟨g, cap, e, by simp, hb, hlt, rfl, hat 0 (by omega), hat 1 (by omega), hat 2 (by omega), hat 3 (by omega), hat 4 (by omega), hat 5 (by omega), (h3 e (by simp)).1, (h3 e (by simp)).2⟩
theorem OStR.own_ge {w : World} {base g : Nat} {R : Nat → Prop} {v : Value} {l : List St} (h : OStR w base R v l) (e : v.ownBlock = some g) : base ≤ g := by
  obtain ⟨es, rfl, h2, _⟩ := h
  exact (h2.lt g e).1

end Go.Proofs.YtfioaohadanjmaaGreat

/- l1Mutate. -/
namespace Go.Proofs.YtfioaohadanjmaaGreat
open Go.RowKit

theorem ints_one (w : World) (x : Int) : IntS (w.alloc (.cells #[.int .i64 x] 3)) (w.heap.size + 1) (.slice (some ⟨w.heap.size, 0, none⟩) 1 1) [x] := by
  refine ⟨_, 1, rfl, by simp, by simp, by simp, fun _ => ⟨w.heap.size, 0, rfl, by omega, fun j u hj => ?_⟩⟩
  have hj0 : j = 0 := by
    rcases Nat.eq_zero_or_pos j with h | h
    · exact h
    · rw [List.getElem?_eq_none (by simp; omega)] at hj; cases hj
  subst hj0
  rw [cell_of_row _ _ _ _ _ _ (heap_alloc_new w _)]
  simpa using hj
end Go.Proofs.YtfioaohadanjmaaGreat

/- DrawNeedsOf, DrawTakesOf. -/
namespace Go.Proofs.YtfioaohadanjmaaGreat
open Go.RowKit

theorem grown_new {w a b : World} {g : Nat} (h : Below w.heap.size w a) (hg : w.heap.size ≤ g) (k : a.grownBy b (some g)) : Below w.heap.size w b :=
  ⟨k.os.trans h.os, k.tape.trans h.tape, k.output.trans h.output, Nat.le_trans h.size k.size, fun i hi => (k.block i (Nat.lt_of_lt_of_le hi h.size) (fun e => by injection e with e; omega)).trans (h.block i hi)⟩
end Go.Proofs.YtfioaohadanjmaaGreat

/- spec.l2Branch, l3Place, the draws of the flow laws. -/
namespace Go.Proofs.YtfioaohadanjmaaGreat
open Go.RowKit

set_option maxHeartbeats 4000000
set_option maxRecDepth 100000

end Go.Proofs.YtfioaohadanjmaaGreat

/- FnTakesOf: the draw, the plain law, the walk. -/
namespace Go.Proofs.YtfioaohadanjmaaGreat
open Go.RowKit

end Go.Proofs.YtfioaohadanjmaaGreat

/- Words for the laws' walks: a drawn program in its box. The plain law of NeedsOpen. -/
namespace Go.Proofs.YtfioaohadanjmaaGreat
open Go.RowKit

/-- the program (vt, vb) lies in the box g and reads as (ts, l); what was in w is as it was -/
structure PgB (w W : World) (g : Nat) (vt vb : Value) (ts : List Int) (l : List St) : Prop where
  bel : Below w.heap.size w W
  row : W.heap[g]? = some (.cells #[vt, vb] 31 (0, 0))
  ht : IntS W W.heap.size vt ts
  hl : StS W W.heap.size vb l
theorem PgB.lt {w W : World} {g : Nat} {vt vb : Value} {ts : List Int} {l : List St} (h : PgB w W g vt vb ts l) : g < W.heap.size := row_lt h.row
theorem PgB.c0 {w W : World} {g : Nat} {vt vb : Value} {ts : List Int} {l : List St} (h : PgB w W g vt vb ts l) : W.cell? ⟨g, 0, none⟩ = some vt := by rw [cell_of_row _ _ _ _ _ _ h.row]; rfl
theorem PgB.c1 {w W : World} {g : Nat} {vt vb : Value} {ts : List Int} {l : List St} (h : PgB w W g vt vb ts l) : W.cell? ⟨g, 1, none⟩ = some vb := by rw [cell_of_row _ _ _ _ _ _ h.row]; rfl
theorem PgB.bels {w W W' : World} {g : Nat} {vt vb : Value} {ts : List Int} {l : List St} (h : PgB w W g vt vb ts l) (hb : Below W.heap.size W W') : PgB w W' g vt vb ts l :=
  ⟨h.bel.trans (hb.mono h.bel.size), row_below h.row hb, (h.ht.low hb (Nat.le_refl _)).more hb.size, (h.hl.low hb (Nat.le_refl _)).more hb.size⟩
theorem PgB.new {w w1 : World} {vt vb : Value} {ts : List Int} {l : List St} {P Q : Nat → Prop} (ht : IntX w1 P vt ts) (hl : StX w1 Q vb l) (hb : Below w.heap.size w w1) : PgB w (w1.alloc (.cells #[vt, vb] 31)) w1.heap.size vt vb ts l := by
  have hA := bel_a w1 (.cells #[vt, vb] 31)
  exact ⟨hb.trans (hA.mono hb.size), heap_alloc_new w1 _, ((ht.toS).low hA (Nat.le_refl _)).more hA.size, ((hl.toS).low hA (Nat.le_refl _)).more hA.size⟩
theorem IntS.bel {w w' : World} {v : Value} {l : List Int} (h : IntS w w.heap.size v l) (hb : Below w.heap.size w w') : IntS w' w'.heap.size v l := (h.low hb (Nat.le_refl _)).more hb.size
theorem PtS.bel {w w' : World} {v : Value} {pts : List Pt} (h : PtS w w.heap.size v pts) (hb : Below w.heap.size w w') : PtS w' w'.heap.size v pts := (h.low hb (Nat.le_refl _)).more hb.size

end Go.Proofs.YtfioaohadanjmaaGreat

/- spec.l14Case and the draws that hand it on. -/
namespace Go.Proofs.YtfioaohadanjmaaGreat
open Go.RowKit

/-- below 'base' only block g has turned -/
structure Gb (base g : Nat) (W w : World) : Prop where
  os : w.os = W.os
  tape : w.tape = W.tape
  output : w.output = W.output
  size : W.heap.size ≤ w.heap.size
  block : ∀ b, b < base → b ≠ g → w.heap[b]? = W.heap[b]?
theorem Gb.refl (base g : Nat) (W : World) : Gb base g W W := ⟨rfl, rfl, rfl, Nat.le_refl _, fun _ _ _ => rfl⟩
theorem Gb.bel {base g : Nat} {W a b : World} (h : Gb base g W a) (k : Below base a b) : Gb base g W b :=
  ⟨k.os.trans h.os, k.tape.trans h.tape, k.output.trans h.output, Nat.le_trans h.size k.size, fun i hi hne => (k.block i hi).trans (h.block i hi hne)⟩
set_option maxHeartbeats 4000000
set_option maxRecDepth 100000

end Go.Proofs.YtfioaohadanjmaaGreat
