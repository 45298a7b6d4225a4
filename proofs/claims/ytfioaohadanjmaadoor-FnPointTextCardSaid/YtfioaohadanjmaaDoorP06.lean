import Derived.Test.YtfioaohadanjmaaDoorP01
import Derived.Laws.BitsAllLaws
import Derived.Laws.BitsLemmas
import Derived.Test.YtfioaohadanjmaaDoorP05
import Derived.Deep.RegionHeld3
import Derived.Deep.LoopGhost
set_option linter.unusedVariables false

/- Plain: sets of small numbers as numbers. No program in sight. -/
namespace Go.Proofs.YtfioaohadanjmaaDoor

/-- the set of the numbers below n at which f says yes -/
def bm : Nat → (Nat → Bool) → Nat
  | 0, _ => 0
  | n + 1, f => bm n f ||| (if f n then 1 <<< n else 0)
theorem bm_bit (n : Nat) (f : Nat → Bool) (i : Nat) : (bm n f).testBit i = (decide (i < n) && f i) := by
  induction n with
  | zero => simp [bm]
  | succ n ih =>
    simp only [bm, Nat.testBit_or, ih]
    by_cases hf : f n = true
    · rw [if_pos hf, Nat.one_shiftLeft, Nat.testBit_two_pow]
      by_cases h1 : i < n
      · simp [h1, show i < n + 1 by omega, show ¬ n = i by omega]
      · by_cases h2 : n = i
        · subst h2; simp [hf]
        · simp [h1, show ¬ i < n + 1 by omega, h2]
    · rw [if_neg hf]
      by_cases h1 : i < n
      · simp [h1, show i < n + 1 by omega]
      · by_cases h2 : i = n
        · subst h2; simp [hf]
        · simp [h1, show ¬ i < n + 1 by omega]
theorem bm_lt (n : Nat) (f : Nat → Bool) : bm n f < 2 ^ n := by
  induction n with
  | zero => simp [bm]
  | succ n ih =>
    simp only [bm]
    refine Nat.or_lt_two_pow (by rw [Nat.pow_succ]; omega) ?_
    split
    · rw [Nat.shiftLeft_eq, Nat.pow_succ]; have := Nat.two_pow_pos n; omega
    · exact Nat.two_pow_pos _
theorem bm_lt64 {n : Nat} (hn : n ≤ 6) (f : Nat → Bool) : bm n f < 64 := Nat.lt_of_lt_of_le (bm_lt n f) (show 2 ^ n ≤ 64 from Nat.pow_le_pow_right (n := 2) (by omega) hn)
/-- a and not b -/
def andn (a b : Nat) : Nat := bm 6 fun i => a.testBit i && !b.testBit i
theorem andn_bit (a b i : Nat) (hi : i < 6) : (andn a b).testBit i = (a.testBit i && !b.testBit i) := by rw [andn, bm_bit]; simp [hi]
theorem andn_lt (a b : Nat) : andn a b < 64 := bm_lt64 (by omega) _

end Go.Proofs.YtfioaohadanjmaaDoor

/- Words on bits at int and uint64. No program in sight. -/
namespace Go.Proofs.YtfioaohadanjmaaDoor
open Go.RowKit

theorem of_nat64 {a : Nat} (ha : a < 9223372036854775808) : (BitVec.ofInt 64 (a : Int)).toNat = a := by
  rw [BitVec.ofInt_natCast, BitVec.toNat_ofNat]; exact Nat.mod_eq_of_lt (by omega)
theorem back64 {r : Nat} (h : r < 9223372036854775808) : IntKind.i64.wrap (r : Int) = (r : Int) := by
  rw [IntKind.wrap_i64]; omega
end Go.Proofs.YtfioaohadanjmaaDoor

/- Words for rows that a call makes: ints, bools. -/
namespace Go.Proofs.YtfioaohadanjmaaDoor
open Go.RowKit

/-- an owned row of ints -/
def OInts (w : World) (base : Nat) (v : Value) (l : List Int) : Prop := w.ownsRow base 3 1 v l.length (l.map (.int .i64))
theorem OInts.nil (w : World) (base : Nat) : OInts w base (.slice none 0 0) [] := World.ownsRow_nil _ _ _ _
theorem OInts.empty (w : World) (base : Nat) (hb : base ≤ w.heap.size) : OInts (w.alloc (.cells #[] 3)) base (.slice (some ⟨w.heap.size, 0, none⟩) 0 0) [] :=
  World.ownsRow_lit (base := base) (e := 3) (size := 1) w #[] 0 hb (by simp [maxLen]) rfl
theorem OInts.slice {w : World} {base : Nat} {v : Value} {l : List Int} (h : OInts w base v l) : ∃ A c, v = .slice A l.length c ∧ l.length ≤ c := by
  rcases h.2 with ⟨rfl, h0⟩ | ⟨g, cap, cur, rfl, _, _, hc, _⟩
  · exact ⟨none, 0, by rw [h0], by omega⟩
  · exact ⟨_, cap, rfl, hc⟩
theorem OInts.toS {w : World} {base : Nat} {v : Value} {l : List Int} (h : OInts w base v l) (hl : l.length ≤ 4194304) : IntS w w.heap.size v l := own_ints h hl

/-- append(out, x) -/
theorem wpList_push_int {ops : Array Oper} {rest : List Oper} {o : Oper} {a : Act} {Q : Exit → Act → World → Prop} {w : World} {base : Nat} {vo : Value} {l : List Int} (hgd : o.guard = none) (s x : Operand)
    (ho : o.op = .call { callee := .builtin .append, args := #[s, x], argTypes := #[23, 23] })
    (hP : OInts w base vo l) (hb : base ≤ w.heap.size) (hn : l.length + 1 ≤ 8388608) (n : Int) (hs : a.eval s = vo) (hx : a.eval x = .slice (some ⟨w.heap.size, 0, none⟩) 1 1)
    (h : ∀ v' w', OInts w' base v' (l ++ [n]) → Evo base 3 (w.alloc (.cells #[.int .i64 n] 3)) w' → wpList Tryd.prog ops Q rest (a.put o.dst v') w') :
    wpList Tryd.prog ops Q (o :: rest) a (w.alloc (.cells #[.int .i64 n] 3)) := by
  obtain ⟨i0, hi0, hz0, hz1, hz2⟩ := info_parts Tryd.infoInt
  have hown := World.ownsRow.alloc hP (.cells #[.int .i64 n] 3)
  refine wpList_append_own_at _ hgd s x 23 ho base 3 i0 _ 1 8 Tryd.underlying23 hi0 hz0 hz1 hz2 rfl (by omega) vo l.length _ hs hown ⟨w.heap.size, 0, none⟩ 1 1 [.int .i64 n] hx rfl ?_ ?_ (by simp only [maxLen]; omega) (by omega) (by simp; omega) ?_
  · intro j u hu
    have hj : j = 0 := by
      rcases Nat.eq_zero_or_pos j with h | h
      · exact h
      · rw [List.getElem?_eq_none (by simp; omega)] at hu; cases hu
    subst hj
    have : (w.alloc (.cells #[.int .i64 n] 3)).cell? ⟨w.heap.size, 0, none⟩ = some u := by
      rw [cell_of_row _ _ _ _ _ _ (heap_alloc_new w _)]
      simpa using hu
    simpa [Addr.add] using this
  · intro u hu
    simp at hu
    subst hu; rfl
  · intro v' w' k1 k2 k3 k4
    refine h v' w' ?_ (Evo.grown hown k2)
    simpa [OInts] using k1

end Go.Proofs.YtfioaohadanjmaaDoor

namespace Go.Proofs.YtfioaohadanjmaaDoor
open Go.RowKit

/-- v points to a graph: types and points -/
def GrS (w : World) (B : Nat) (v : Value) (ts : List Int) (pts : List Pt) : Prop :=
  ∃ g vt vb vl, v = .pointer (some ⟨g, 0, none⟩) ∧ g < B ∧ w.cell? ⟨g, 0, none⟩ = some vt ∧ w.cell? ⟨g, 1, none⟩ = some vb ∧ w.cell? ⟨g, 2, none⟩ = some vl ∧ IntS w B vt ts ∧ PtS w B vl pts
theorem GrS.keep {w w' : World} {B : Nat} {v : Value} {ts : List Int} {pts : List Pt} (h : GrS w B v ts pts) (hk : ∀ b o, b < B → w'.cell? ⟨b, o, none⟩ = w.cell? ⟨b, o, none⟩) : GrS w' B v ts pts := by
  obtain ⟨g, vt, vb, vl, e, hg, h0, h1, h2, h3, h4⟩ := h
  exact ⟨g, vt, vb, vl, e, hg, (hk _ _ hg).trans h0, (hk _ _ hg).trans h1, (hk _ _ hg).trans h2, h3.keep hk, h4.keep hk⟩
theorem GrS.low {w w' : World} {B B' : Nat} {v : Value} {ts : List Int} {pts : List Pt} (h : GrS w B v ts pts) (hb : Below B' w w') (hB : B ≤ B') : GrS w' B v ts pts :=
  h.keep fun b o hlt => hb.cell (p := ⟨b, o, none⟩) (by show b < B'; omega)
theorem GrS.more {w : World} {B B' : Nat} {v : Value} {ts : List Int} {pts : List Pt} (h : GrS w B v ts pts) (hB : B ≤ B') : GrS w B' v ts pts := by
  obtain ⟨g, vt, vb, vl, e, hg, h0, h1, h2, h3, h4⟩ := h
  exact ⟨g, vt, vb, vl, e, by omega, h0, h1, h2, h3.more hB, h4.more hB⟩

/-- two cells of a box of the call's own, and all that is older: what a region holds on to -/
def Held2 (w1 : World) (g : Nat) (vt vb : Value) (w' : World) : Prop := w'.cell? ⟨g, 0, none⟩ = some vt ∧ w'.cell? ⟨g, 1, none⟩ = some vb ∧ Below w1.heap.size w1 w' ∧ g < w1.heap.size
theorem Held2.step {w1 : World} {g : Nat} {vt vb : Value} {w' w'' : World} (h : Held2 w1 g vt vb w') (hb : Below w'.heap.size w' w'') : Held2 w1 g vt vb w'' := by
  obtain ⟨h0, h1, h2, h3⟩ := h
  have hs := h2.size
  exact ⟨(hb.cell (p := ⟨g, 0, none⟩) (by show g < _; omega)).trans h0, (hb.cell (p := ⟨g, 1, none⟩) (by show g < _; omega)).trans h1, h2.trans (hb.mono hs), h3⟩

theorem Held2.bel {w1 : World} {g : Nat} {vt vb : Value} {w' : World} (h : Held2 w1 g vt vb w') : Below w1.heap.size w1 w' := h.2.2.1

end Go.Proofs.YtfioaohadanjmaaDoor

namespace Go.Proofs.YtfioaohadanjmaaDoor
open Go.RowKit

/-- a graph, opened for a walk -/
theorem GrS.open_ {w : World} {B : Nat} {v : Value} {ts : List Int} {pts : List Pt} (h : GrS w B v ts pts) :
    ∃ g At ct vb Al cl, v = .pointer (some ⟨g, 0, none⟩) ∧ g < B ∧ w.cell? ⟨g, 0, none⟩ = some (.slice At ts.length ct) ∧ w.cell? ⟨g, 1, none⟩ = some vb ∧ w.cell? ⟨g, 2, none⟩ = some (.slice Al pts.length cl) ∧
      IntS w B (.slice At ts.length ct) ts ∧ PtS w B (.slice Al pts.length cl) pts ∧ ts.length ≤ 4194304 ∧ pts.length ≤ 8388608 := by
  obtain ⟨g, vt, vb, vl, e, hg, h0, h1, h2, h3, h4⟩ := h
  have h3' := h3
  obtain ⟨At, ct, rfl, _, ht, _⟩ := h3
  obtain ⟨Al, cl, rfl, _, hp⟩ := h4.slice
  exact ⟨g, At, ct, vb, Al, cl, e, hg, h0, h1, h2, h3', h4, ht, hp⟩

end Go.Proofs.YtfioaohadanjmaaDoor

namespace Go.Proofs.YtfioaohadanjmaaDoor
open Go.RowKit

end Go.Proofs.YtfioaohadanjmaaDoor

namespace Go.Proofs.YtfioaohadanjmaaDoor
open Go.RowKit

end Go.Proofs.YtfioaohadanjmaaDoor

namespace Go.Proofs.YtfioaohadanjmaaDoor
open Go.RowKit

def takenP (ts : List Int) (op x y : Int) : Nat := bm ts.length (fun v => useP ts op x y (v : Nat) == 2)
def usedP (ts : List Int) (op x y : Int) : Nat := bm ts.length (fun v => useP ts op x y (v : Nat) != 0)
/-- the set of the variable that a point sets -/
def setBitP (op x : Int) : Nat := if 0 ≤ setsP op x then 2 ^ (setsP op x).toNat else 0

end Go.Proofs.YtfioaohadanjmaaDoor

namespace Go.Proofs.YtfioaohadanjmaaDoor
open Go.RowKit

/-- sets as ints -/
def msk (ms : List Nat) : List Int := ms.map fun m => ((m : Nat) : Int)
theorem msk_len (ms : List Nat) : (msk ms).length = ms.length := by simp [msk]
def orL (ms : List Nat) (nx : List Nat) : Nat := nx.foldl (fun a k => a ||| ms.getD k 0) 0
theorem orL_bit (ms nx : List Nat) (i : Nat) : (orL ms nx).testBit i = nx.any fun k => (ms.getD k 0).testBit i := by
  unfold orL
  have : ∀ z : Nat, (nx.foldl (fun a k => a ||| ms.getD k 0) z).testBit i = (z.testBit i || nx.any fun k => (ms.getD k 0).testBit i) := by
    induction nx with
    | nil => simp
    | cons k r ih => intro z; simp only [List.foldl_cons, List.any_cons, ih, Nat.testBit_or, Bool.or_assoc]
  simpa using this 0

/-- what a region holds on to: a boxed point, and all that is older -/
def Box5 (w1 : World) (g : Nat) (op x y n : Int) (nv : Value) (w' : World) : Prop :=
  w'.cell? ⟨g, 0, none⟩ = some (.int .i64 op) ∧ w'.cell? ⟨g, 1, none⟩ = some (.int .i64 x) ∧ w'.cell? ⟨g, 2, none⟩ = some (.int .i64 y) ∧ w'.cell? ⟨g, 3, none⟩ = some (.int .i64 n) ∧ w'.cell? ⟨g, 4, none⟩ = some nv ∧
    Below w1.heap.size w1 w' ∧ g < w1.heap.size
theorem Box5.step {w1 : World} {g : Nat} {op x y n : Int} {nv : Value} {w' w'' : World} (h : Box5 w1 g op x y n nv w') (hb : Below w'.heap.size w' w'') : Box5 w1 g op x y n nv w'' := by
  obtain ⟨h0, h1, h2, h3, h4, h5, h6⟩ := h
  have hs := h5.size
  exact ⟨(hb.cell (p := ⟨g, 0, none⟩) (by show g < _; omega)).trans h0, (hb.cell (p := ⟨g, 1, none⟩) (by show g < _; omega)).trans h1, (hb.cell (p := ⟨g, 2, none⟩) (by show g < _; omega)).trans h2,
    (hb.cell (p := ⟨g, 3, none⟩) (by show g < _; omega)).trans h3, (hb.cell (p := ⟨g, 4, none⟩) (by show g < _; omega)).trans h4, h5.trans (hb.mono hs), h6⟩
theorem Box5.bel {w1 : World} {g : Nat} {op x y n : Int} {nv : Value} {w' : World} (h : Box5 w1 g op x y n nv w') : Below w1.heap.size w1 w' := h.2.2.2.2.2.1
theorem Box5.new (w : World) (op x y n : Int) (nv : Value) (t : TypeId) : Box5 (w.alloc (.cells #[.int .i64 op, .int .i64 x, .int .i64 y, .int .i64 n, nv] t)) w.heap.size op x y n nv (w.alloc (.cells #[.int .i64 op, .int .i64 x, .int .i64 y, .int .i64 n, nv] t)).drew :=
  ⟨cell_of_row _ _ _ _ _ _ (heap_alloc_new w _), cell_of_row _ _ _ _ _ _ (heap_alloc_new w _), cell_of_row _ _ _ _ _ _ (heap_alloc_new w _), cell_of_row _ _ _ _ _ _ (heap_alloc_new w _), cell_of_row _ _ _ _ _ _ (heap_alloc_new w _), (Below.refl _ _).drew, by simp⟩

end Go.Proofs.YtfioaohadanjmaaDoor

/- Plain: what flows forward along points, as a least set. No program in sight. -/
namespace Go.Proofs.YtfioaohadanjmaaDoor

noncomputable def dec (p : Prop) : Bool := @decide p (Classical.propDecidable p)
/-- is v in what is gathered: the set itself, or (ev) what it lacks -/
def accB (ev : Bool) (m v : Nat) : Bool := m.testBit v != ev
def cmb (ev : Bool) (a b : Nat) : Nat := if ev then a &&& b else a ||| b
theorem accB_cmb (ev : Bool) (a b v : Nat) : accB ev (cmb ev a b) v = (accB ev a v || accB ev b v) := by
  cases ev
  · simp [accB, cmb, Nat.testBit_or]
  · simp only [accB, cmb, if_true, Nat.testBit_and]
    cases a.testBit v <;> cases b.testBit v <;> rfl
def trB (ev : Bool) (ts : List Int) (p : Pt) (b : Bool) (v : Nat) : Bool := ((((b != ev) && !(takenP ts p.op p.x p.y).testBit v) || (setBitP p.op p.x).testBit v) != ev)
/-- what is gathered before a point -/
inductive Ac (ev : Bool) (ts : List Int) (pts : List Pt) (first : Nat) : Nat → Nat → Prop
  | init {v : Nat} (hv : v < ts.length) (h : accB ev first v = true) : Ac ev ts pts first 0 v
  | gen {i k v : Nat} {p : Pt} (hp : pts[i]? = some p) (hk : k ∈ p.next) (hv : v < ts.length) (h : trB ev ts p false v = true) : Ac ev ts pts first k v
  | keep {i k v : Nat} {p : Pt} (hp : pts[i]? = some p) (hk : k ∈ p.next) (hi : Ac ev ts pts first i v) (h : trB ev ts p true v = true) : Ac ev ts pts first k v

theorem Ac.lt {ev : Bool} {ts : List Int} {pts : List Pt} {first i v : Nat} (h : Ac ev ts pts first i v) : v < ts.length := by
  induction h with
  | init hv _ => exact hv
  | gen _ _ hv _ => exact hv
  | keep _ _ _ _ ih => exact ih

/-- the state of the search: sets before all points -/
structure FwdI (ev : Bool) (ts : List Int) (pts : List Pt) (first : Nat) (ms : List Nat) : Prop where
  len : ms.length = pts.length
  small : ∀ m ∈ ms, m < 2 ^ ts.length
  sound : ∀ i v, i < ms.length → v < ts.length → accB ev (ms.getD i 0) v = true → Ac ev ts pts first i v
  inits : ∀ v, v < ts.length → accB ev first v = true → accB ev (ms.getD 0 0) v = true
/-- the set s goes along all edges of point i, and all that it gathers is right -/
def SetOf (ev : Bool) (ts : List Int) (pts : List Pt) (first i s : Nat) : Prop := s < 2 ^ ts.length ∧ ∀ k v, (∃ p, pts[i]? = some p ∧ k ∈ p.next) → v < ts.length → accB ev s v = true → Ac ev ts pts first k v
theorem sum_set_lt {f : Nat → Nat} {l : List Nat} {k m : Nat} (hk : k < l.length) (h : f m < f l[k]) : ((l.set k m).map f).sum < (l.map f).sum := by
  induction l generalizing k with
  | nil => simp at hk
  | cons a r ih =>
    cases k with
    | zero => simp at h ⊢; omega
    | succ k =>
      have := ih (k := k) (by simpa using hk) (by simpa using h)
      simp only [List.set_cons_succ, List.map_cons, List.sum_cons]
      omega
theorem cmb_lt {ev : Bool} {a b n : Nat} (ha : a < 2 ^ n) (hb : b < 2 ^ n) : cmb ev a b < 2 ^ n := by
  unfold cmb; split
  · exact Nat.and_lt_two_pow _ hb
  · exact Nat.or_lt_two_pow ha hb
theorem getD_set {l : List Nat} {k m i : Nat} (hk : k < l.length) : (l.set k m).getD i 0 = if i = k then m else l.getD i 0 := by
  by_cases h : i = k
  · subst h; simp [List.getD, hk]
  · simp [List.getD, h, Ne.symm h]
theorem FwdI.upd {ev : Bool} {ts : List Int} {pts : List Pt} {first i k s : Nat} {p : Pt} {ms : List Nat} (h : FwdI ev ts pts first ms) (hs : SetOf ev ts pts first i s) (hp : pts[i]? = some p) (hk : k ∈ p.next) (hkl : k < ms.length) : FwdI ev ts pts first (ms.set k (cmb ev (ms.getD k 0) s)) := by
  refine ⟨by simp [h.len], ?_, ?_, ?_⟩
  · intro m hm
    rcases List.mem_or_eq_of_mem_set hm with hm | rfl
    · exact h.small m hm
    · exact cmb_lt (by rw [getD_lt hkl]; exact h.small _ (List.getElem_mem hkl)) hs.1
  · intro j v hj hv ha
    rw [getD_set hkl] at ha
    split at ha
    · rename_i e
      subst e
      rw [accB_cmb, Bool.or_eq_true] at ha
      rcases ha with ha | ha
      · exact h.sound _ v hkl hv ha
      · exact hs.2 _ v ⟨p, hp, hk⟩ hv ha
    · exact h.sound j v (by simpa using hj) hv ha
  · intro v hv ha
    rw [getD_set hkl]
    split
    · rename_i e
      subst e
      rw [accB_cmb, h.inits v hv ha]; rfl
    · exact h.inits v hv ha
end Go.Proofs.YtfioaohadanjmaaDoor

/- Plain: what is needed from points on, as a least set. No program in sight. -/
namespace Go.Proofs.YtfioaohadanjmaaDoor

/-- v is used from point i on, before it is set -/
inductive Nd (ts : List Int) (pts : List Pt) : Nat → Nat → Prop
  | use {i v : Nat} {p : Pt} (hp : pts[i]? = some p) (hv : v < ts.length) (h : useP ts p.op p.x p.y (v : Nat) ≠ 0) : Nd ts pts i v
  | flow {i k v : Nat} {p : Pt} (hp : pts[i]? = some p) (hk : k ∈ p.next) (hn : Nd ts pts k v) (h : setsP p.op p.x ≠ (v : Nat)) : Nd ts pts i v
theorem Nd.lt {ts : List Int} {pts : List Pt} {i v : Nat} (h : Nd ts pts i v) : v < ts.length := by
  induction h with
  | use _ hv _ => exact hv
  | flow _ _ _ _ ih => exact ih
/-- one step back -/
def backP (ts : List Int) (p : Pt) (ms : List Nat) : Nat := usedP ts p.op p.x p.y ||| andn (orL ms p.next) (setBitP p.op p.x)
theorem setBit_bit (op x : Int) (v : Nat) : (setBitP op x).testBit v = decide (setsP op x = (v : Nat)) := by
  unfold setBitP
  split
  · rename_i h
    rw [Nat.testBit_two_pow, Bool.eq_iff_iff]; simp; omega
  · rename_i h
    rw [Nat.zero_testBit, eq_comm, decide_eq_false_iff_not]; omega
theorem back_bit (ts : List Int) (p : Pt) (ms : List Nat) (v : Nat) (hv : v < ts.length) (h6 : ts.length ≤ 6) :
    (backP ts p ms).testBit v = ((useP ts p.op p.x p.y (v : Nat) != 0) || ((p.next.any fun k => (ms.getD k 0).testBit v) && decide (setsP p.op p.x ≠ (v : Nat)))) := by
  rw [backP, Nat.testBit_or, andn_bit _ _ _ (by omega), orL_bit, setBit_bit, usedP, bm_bit, decide_eq_true hv, Bool.true_and]
  simp
structure NdI (ts : List Int) (pts : List Pt) (ms : List Nat) : Prop where
  len : ms.length = pts.length
  small : ∀ m ∈ ms, m < 2 ^ ts.length
  sound : ∀ i v, i < ms.length → v < ts.length → (ms.getD i 0).testBit v = true → Nd ts pts i v
  pre : ∀ i v p, pts[i]? = some p → v < ts.length → (ms.getD i 0).testBit v = true → (backP ts p ms).testBit v = true
def muN (ms : List Nat) : Nat := (ms.map fun m => 63 - m).sum
theorem back_lt {ts : List Int} {p : Pt} {ms : List Nat} (h6 : ts.length ≤ 6) (hs : ∀ m ∈ ms, m < 2 ^ ts.length) : backP ts p ms < 2 ^ ts.length := by
  have hg : ∀ k, ms.getD k 0 < 2 ^ ts.length := fun k => by
    by_cases hk : k < ms.length
    · rw [getD_lt hk]; exact hs _ (List.getElem_mem hk)
    · rw [getD_ge (by omega)]; exact Nat.two_pow_pos _
  refine Nat.or_lt_two_pow (bm_lt _ _) (Nat.lt_pow_two_of_testBit _ fun j hj => ?_)
  by_cases hj6 : j < 6
  · rw [andn_bit _ _ _ hj6, orL_bit]
    have : (p.next.any fun k => (ms.getD k 0).testBit j) = false := by
      rw [List.any_eq_false]
      intro k _
      rw [Nat.testBit_lt_two_pow (Nat.lt_of_lt_of_le (hg k) (Nat.pow_le_pow_right (n := 2) (by omega) hj))]; simp
    rw [this]; rfl
  · exact Nat.testBit_lt_two_pow (Nat.lt_of_lt_of_le (andn_lt _ _) (show 64 ≤ 2 ^ j from Nat.pow_le_pow_right (n := 2) (by omega) (show 6 ≤ j by omega)))
theorem NdI.init (ts : List Int) (pts : List Pt) : NdI ts pts (List.replicate pts.length 0) := by
  have h0 : ∀ i v, ((List.replicate pts.length 0).getD i 0).testBit v = false := fun i v => by
    by_cases h : i < pts.length
    · rw [getD_lt (by simpa using h)]; simp
    · rw [getD_ge (by simp; omega)]; simp
  refine ⟨by simp, ?_, ?_, ?_⟩
  · intro m hm
    rw [(List.mem_replicate.1 hm).2]; exact Nat.two_pow_pos _
  · intro i v _ _ h
    rw [h0] at h; cases h
  · intro i v p _ _ h
    rw [h0] at h; cases h
theorem le_of_bits {a b n : Nat} (ha : a < 2 ^ n) (h : ∀ v, v < n → a.testBit v = true → b.testBit v = true) : a ||| b = b := by
  apply Nat.eq_of_testBit_eq
  intro v
  rw [Nat.testBit_or]
  by_cases hv : v < n
  · cases e : a.testBit v
    · simp
    · simp [h v hv e]
  · rw [Nat.testBit_lt_two_pow (Nat.lt_of_lt_of_le ha (Nat.pow_le_pow_right (n := 2) (by omega) (by omega)))]; simp
theorem NdI.upd {ts : List Int} {pts : List Pt} {i : Nat} {p : Pt} {ms : List Nat} (h : NdI ts pts ms) (h6 : ts.length ≤ 6) (hp : pts[i]? = some p) (hi : i < ms.length) :
    NdI ts pts (ms.set i (backP ts p ms)) ∧ (backP ts p ms ≠ ms.getD i 0 → muN (ms.set i (backP ts p ms)) < muN ms) := by
  have hle : ∀ k v, v < ts.length → (ms.getD k 0).testBit v = true → ((ms.set i (backP ts p ms)).getD k 0).testBit v = true := by
    intro k v hv hb
    rw [getD_set hi]
    split
    · rename_i e; subst e; exact h.pre _ v p hp hv hb
    · exact hb
  have hbm : ∀ (q : Pt) v, v < ts.length → (backP ts q ms).testBit v = true → (backP ts q (ms.set i (backP ts p ms))).testBit v = true := by
    intro q v hv hb
    rw [back_bit _ _ _ _ hv h6, Bool.or_eq_true, Bool.and_eq_true] at hb ⊢
    refine hb.imp id fun hb => ⟨?_, hb.2⟩
    obtain ⟨k, hk, hkb⟩ := List.any_eq_true.1 hb.1
    exact List.any_eq_true.2 ⟨k, hk, hle k v hv hkb⟩
  refine ⟨⟨by simp [h.len], ?_, ?_, ?_⟩, ?_⟩
  · intro m hm
    rcases List.mem_or_eq_of_mem_set hm with hm | rfl
    · exact h.small m hm
    · exact back_lt h6 h.small
  · intro k v hk hv hb
    rw [getD_set hi] at hb
    split at hb
    · rename_i e
      subst e
      rw [back_bit _ _ _ _ hv h6, Bool.or_eq_true, Bool.and_eq_true] at hb
      rcases hb with hb | ⟨hb, hs⟩
      · exact .use hp hv (by simpa using hb)
      · obtain ⟨j, hj, hjb⟩ := List.any_eq_true.1 hb
        have hjl : j < ms.length := by
          rcases Nat.lt_or_ge j ms.length with h | h
          · exact h
          · rw [getD_ge h] at hjb; simp at hjb
        exact .flow hp hj (h.sound j v hjl hv hjb) (by simpa using hs)
    · exact h.sound k v (by simpa using hk) hv hb
  · intro k v q hq hv hb
    rw [getD_set hi] at hb
    split at hb
    · rename_i e
      subst e
      rw [hp] at hq; injection hq with hq; subst hq
      exact hbm _ v hv hb
    · exact hbm q v hv (h.pre k v q hq hv hb)
  · intro hne
    refine sum_set_lt (f := fun m => 63 - m) hi ?_
    rw [getD_lt hi] at hne
    have hsm := h.small _ (List.getElem_mem hi)
    have hor := le_of_bits (a := ms[i]) (b := backP ts p ms) hsm (fun v hv hb => h.pre i v p hp hv (by rw [getD_lt hi]; exact hb))
    have h1 := Nat.left_le_or (n := ms[i]) (m := backP ts p ms)
    rw [hor] at h1
    have h2 := back_lt (p := p) h6 h.small
    have h3 : 2 ^ ts.length ≤ 64 := Nat.pow_le_pow_right (n := 2) (by omega) h6
    show 63 - backP ts p ms < 63 - ms[i]
    omega
end Go.Proofs.YtfioaohadanjmaaDoor

namespace Go.Proofs.YtfioaohadanjmaaDoor
open Go.RowKit

/-- block g is just these cells -/
def RowB (w : World) (g : Nat) (t : TypeId) (l : List Value) : Prop := w.heap[g]? = some (.cells l.toArray t (0, 0))
theorem RowB.lt {w : World} {g : Nat} {t : TypeId} {l : List Value} (h : RowB w g t l) : g < w.heap.size := by
  rcases Nat.lt_or_ge g w.heap.size with hlt | hge
  · exact hlt
  · unfold RowB at h; rw [Array.getElem?_eq_none hge] at h; cases h
theorem RowB.cell {w : World} {g : Nat} {t : TypeId} {l : List Value} (h : RowB w g t l) (i : Nat) : w.cell? ⟨g, i, none⟩ = l[i]? := by
  rw [cell_of_row w g i _ t (0, 0) h]; simp
theorem RowB.frozen {w : World} {g : Nat} {t : TypeId} {l : List Value} (h : RowB w g t l) (i : Nat) : w.frozen? ⟨g, i, none⟩ = false := frozen_of_row w g i _ t h
theorem RowB.low {w w' : World} {g B : Nat} {t : TypeId} {l : List Value} (h : RowB w g t l) (hb : Below B w w') (hg : g < B) : RowB w' g t l := (hb.block g hg).trans h
theorem RowB.alloc {w : World} {g : Nat} {t : TypeId} {l : List Value} (h : RowB w g t l) (o : Obj) : RowB (w.alloc o) g t l := h.low (bel_a w o) h.lt
theorem RowB.set_ {w : World} {g : Nat} {t : TypeId} {l : List Value} (h : RowB w g t l) (i : Nat) (u : Value) : RowB (w.setCell ⟨g, i, none⟩ u) g t (l.set i u) := by
  have := heap_setCell_same w g i _ t u h
  unfold RowB
  rw [this]; simp
theorem RowB.other {w : World} {g g' : Nat} {t : TypeId} {l : List Value} (h : RowB w g t l) (hne : g ≠ g') (i : Nat) (u : Value) : RowB (w.setCell ⟨g', i, none⟩ u) g t l := (heap_setCell_other w ⟨g', i, none⟩ g u hne).trans h
theorem RowB.new (w : World) (l : List Value) (t : TypeId) : RowB (w.alloc (.cells l.toArray t)) w.heap.size t l := heap_alloc_new w _

/-- ints in such a block, for a walk -/
def iv (ms : List Nat) : List Value := ms.map fun m => .int .i64 (m : Nat)
theorem RowB.ints {w : World} {g : Nat} {t : TypeId} {ms : List Nat} (h : RowB w g t (iv ms)) (hl : ms.length ≤ 4194304) {c : Nat} (hc : ms.length ≤ c) : IntS w w.heap.size (.slice (some ⟨g, 0, none⟩) ms.length c) (msk ms) := by
  refine ⟨_, c, by rw [msk_len], by rw [msk_len]; exact hc, by rw [msk_len]; exact hl, by simp, fun hn => ⟨g, 0, rfl, h.lt, fun j u hu => ?_⟩⟩
  rw [Nat.zero_add, h.cell]
  simpa [iv, msk] using hu
end Go.Proofs.YtfioaohadanjmaaDoor

/- Plain: what a valid program's points are like; what the exported functions answer. No program in sight. -/
namespace Go.Proofs.YtfioaohadanjmaaDoor

def PtOk (ts : List Int) (p : Pt) : Prop := p.op = 9 ∨ p.op = 10 ∨ p.op = 11 ∨ simpleP ts p.op p.x p.y p.n = true
theorem valid_parts {ts : List Int} {l : List St} (h : validP ts l = true) : tsOkP ts = true ∧ slOk ts 4 l = true ∧ szL l ≤ 30 := by
  simpa [validP, Bool.and_eq_true] using h
theorem ts6 {ts : List Int} (h : tsOkP ts = true) : ts.length ≤ 6 := by
  simp only [tsOkP, Bool.and_eq_true, decide_eq_true_eq] at h; exact h.1
theorem typeOf_in {ts : List Int} {v : Int} (h : typeOfP ts v ≠ 0) : 0 ≤ v ∧ v < ts.length := by
  unfold typeOfP at h
  split at h
  · rename_i h0
    refine ⟨h0, ?_⟩
    rcases Nat.lt_or_ge v.toNat ts.length with h1 | h1
    · omega
    · rw [getD_ge h1] at h; exact absurd rfl h
  · exact absurd rfl h
theorem simple_x {ts : List Int} {op x y n : Int} (h : simpleP ts op x y n = true) : 1 ≤ op ∧ op ≤ 8 ∧ typeOfP ts x ≠ 0 := by
  unfold simpleP at h
  repeat' split at h
  all_goals simp only [Bool.and_eq_true, Bool.or_eq_true, beq_iff_eq, bne_iff_ne, decide_eq_true_eq, Bool.false_eq_true] at h
  all_goals first | exact h.elim | (refine ⟨by omega, by omega, ?_⟩; omega)
theorem simple_y {ts : List Int} {op x y n : Int} (h : simpleP ts op x y n = true) (ho : 3 ≤ op ∧ op ≤ 7) : typeOfP ts y ≠ 0 := by
  unfold simpleP isHolderP isRefP at h
  repeat' split at h
  all_goals simp only [Bool.and_eq_true, Bool.or_eq_true, beq_iff_eq, bne_iff_ne, decide_eq_true_eq, Bool.false_eq_true] at h
  all_goals first | exact h.elim | omega
theorem PtOk.sets {ts : List Int} {p : Pt} (h : PtOk ts p) : setsP p.op p.x < ts.length := by
  unfold setsP
  split
  · rename_i ho
    rcases h with h | h | h | h
    · omega
    · omega
    · omega
    · exact (typeOf_in (simple_x h).2.2).2
  · omega

end Go.Proofs.YtfioaohadanjmaaDoor

namespace Go.Proofs.YtfioaohadanjmaaDoor
open Go.RowKit

end Go.Proofs.YtfioaohadanjmaaDoor

namespace Go.Proofs.YtfioaohadanjmaaDoor
open Go.RowKit

end Go.Proofs.YtfioaohadanjmaaDoor

namespace Go.Proofs.YtfioaohadanjmaaDoor
open Go.RowKit

end Go.Proofs.YtfioaohadanjmaaDoor

namespace Go.Proofs.YtfioaohadanjmaaDoor
open Go.RowKit

end Go.Proofs.YtfioaohadanjmaaDoor

namespace Go.Proofs.YtfioaohadanjmaaDoor
open Go.RowKit

end Go.Proofs.YtfioaohadanjmaaDoor

namespace Go.Proofs.YtfioaohadanjmaaDoor
open Go.RowKit

/-- bools -/
def BoolS (w : World) (B : Nat) (v : Value) (l : List Bool) : Prop :=
  ∃ A c, v = .slice A l.length c ∧ l.length ≤ c ∧ l.length ≤ 4194304 ∧ Rd w B 1 A l.length (l.map .bool)
theorem BoolS.low {w w' : World} {B B' : Nat} {v : Value} {l : List Bool} (h : BoolS w B v l) (hb : Below B' w w') (hB : B ≤ B') : BoolS w' B v l := by
  obtain ⟨A, c, e, h1, h2, h3⟩ := h
  exact ⟨A, c, e, h1, h2, h3.low hb hB⟩
theorem BoolS.more {w : World} {B B' : Nat} {v : Value} {l : List Bool} (h : BoolS w B v l) (hB : B ≤ B') : BoolS w B' v l := by
  obtain ⟨A, c, e, h1, h2, h3⟩ := h
  exact ⟨A, c, e, h1, h2, h3.more hB⟩
end Go.Proofs.YtfioaohadanjmaaDoor

/- Words for regions: cells that a region holds on to. Made by wip/gen_Held.py. -/
namespace Go.Proofs.YtfioaohadanjmaaDoor
open Go.RowKit

def Hc1 (W : World) (b1 o1 : Nat) (v1 : Value) (w' : World) : Prop := w'.cell? ⟨b1, o1, none⟩ = some v1 ∧ Below W.heap.size W w' ∧ b1 < W.heap.size
theorem Hc1.step {W : World} {b1 o1 : Nat} {v1 : Value} {w' w'' : World} (h : Hc1 W b1 o1 v1 w') (hb : Below w'.heap.size w' w'') : Hc1 W b1 o1 v1 w'' := by
  obtain ⟨h1, hB, k1⟩ := h
  have hs := hB.size
  exact ⟨(hb.cell (p := ⟨b1, o1, none⟩) (by show b1 < _; omega)).trans h1, hB.trans (hb.mono hs), k1⟩
theorem Hc1.bel {W : World} {b1 o1 : Nat} {v1 : Value} {w' : World} (h : Hc1 W b1 o1 v1 w') : Below W.heap.size W w' := h.2.1
def Hc2 (W : World) (b1 o1 : Nat) (v1 : Value) (b2 o2 : Nat) (v2 : Value) (w' : World) : Prop := w'.cell? ⟨b1, o1, none⟩ = some v1 ∧ w'.cell? ⟨b2, o2, none⟩ = some v2 ∧ Below W.heap.size W w' ∧ b1 < W.heap.size ∧ b2 < W.heap.size
theorem Hc2.step {W : World} {b1 o1 : Nat} {v1 : Value} {b2 o2 : Nat} {v2 : Value} {w' w'' : World} (h : Hc2 W b1 o1 v1 b2 o2 v2 w') (hb : Below w'.heap.size w' w'') : Hc2 W b1 o1 v1 b2 o2 v2 w'' := by
  obtain ⟨h1, h2, hB, k1, k2⟩ := h
  have hs := hB.size
  exact ⟨(hb.cell (p := ⟨b1, o1, none⟩) (by show b1 < _; omega)).trans h1, (hb.cell (p := ⟨b2, o2, none⟩) (by show b2 < _; omega)).trans h2, hB.trans (hb.mono hs), k1, k2⟩
theorem Hc2.bel {W : World} {b1 o1 : Nat} {v1 : Value} {b2 o2 : Nat} {v2 : Value} {w' : World} (h : Hc2 W b1 o1 v1 b2 o2 v2 w') : Below W.heap.size W w' := h.2.2.1
def Hc6 (W : World) (b1 o1 : Nat) (v1 : Value) (b2 o2 : Nat) (v2 : Value) (b3 o3 : Nat) (v3 : Value) (b4 o4 : Nat) (v4 : Value) (b5 o5 : Nat) (v5 : Value) (b6 o6 : Nat) (v6 : Value) (w' : World) : Prop := w'.cell? ⟨b1, o1, none⟩ = some v1 ∧ w'.cell? ⟨b2, o2, none⟩ = some v2 ∧ w'.cell? ⟨b3, o3, none⟩ = some v3 ∧ w'.cell? ⟨b4, o4, none⟩ = some v4 ∧ w'.cell? ⟨b5, o5, none⟩ = some v5 ∧ w'.cell? ⟨b6, o6, none⟩ = some v6 ∧ Below W.heap.size W w' ∧ b1 < W.heap.size ∧ b2 < W.heap.size ∧ b3 < W.heap.size ∧ b4 < W.heap.size ∧ b5 < W.heap.size ∧ b6 < W.heap.size
theorem Hc6.step {W : World} {b1 o1 : Nat} {v1 : Value} {b2 o2 : Nat} {v2 : Value} {b3 o3 : Nat} {v3 : Value} {b4 o4 : Nat} {v4 : Value} {b5 o5 : Nat} {v5 : Value} {b6 o6 : Nat} {v6 : Value} {w' w'' : World} (h : Hc6 W b1 o1 v1 b2 o2 v2 b3 o3 v3 b4 o4 v4 b5 o5 v5 b6 o6 v6 w') (hb : Below w'.heap.size w' w'') : Hc6 W b1 o1 v1 b2 o2 v2 b3 o3 v3 b4 o4 v4 b5 o5 v5 b6 o6 v6 w'' := by
  obtain ⟨h1, h2, h3, h4, h5, h6, hB, k1, k2, k3, k4, k5, k6⟩ := h
  have hs := hB.size
  exact ⟨(hb.cell (p := ⟨b1, o1, none⟩) (by show b1 < _; omega)).trans h1, (hb.cell (p := ⟨b2, o2, none⟩) (by show b2 < _; omega)).trans h2, (hb.cell (p := ⟨b3, o3, none⟩) (by show b3 < _; omega)).trans h3, (hb.cell (p := ⟨b4, o4, none⟩) (by show b4 < _; omega)).trans h4, (hb.cell (p := ⟨b5, o5, none⟩) (by show b5 < _; omega)).trans h5, (hb.cell (p := ⟨b6, o6, none⟩) (by show b6 < _; omega)).trans h6, hB.trans (hb.mono hs), k1, k2, k3, k4, k5, k6⟩
theorem Hc6.bel {W : World} {b1 o1 : Nat} {v1 : Value} {b2 o2 : Nat} {v2 : Value} {b3 o3 : Nat} {v3 : Value} {b4 o4 : Nat} {v4 : Value} {b5 o5 : Nat} {v5 : Value} {b6 o6 : Nat} {v6 : Value} {w' : World} (h : Hc6 W b1 o1 v1 b2 o2 v2 b3 o3 v3 b4 o4 v4 b5 o5 v5 b6 o6 v6 w') : Below W.heap.size W w' := h.2.2.2.2.2.2.1
def Hc7 (W : World) (b1 o1 : Nat) (v1 : Value) (b2 o2 : Nat) (v2 : Value) (b3 o3 : Nat) (v3 : Value) (b4 o4 : Nat) (v4 : Value) (b5 o5 : Nat) (v5 : Value) (b6 o6 : Nat) (v6 : Value) (b7 o7 : Nat) (v7 : Value) (w' : World) : Prop := w'.cell? ⟨b1, o1, none⟩ = some v1 ∧ w'.cell? ⟨b2, o2, none⟩ = some v2 ∧ w'.cell? ⟨b3, o3, none⟩ = some v3 ∧ w'.cell? ⟨b4, o4, none⟩ = some v4 ∧ w'.cell? ⟨b5, o5, none⟩ = some v5 ∧ w'.cell? ⟨b6, o6, none⟩ = some v6 ∧ w'.cell? ⟨b7, o7, none⟩ = some v7 ∧ Below W.heap.size W w' ∧ b1 < W.heap.size ∧ b2 < W.heap.size ∧ b3 < W.heap.size ∧ b4 < W.heap.size ∧ b5 < W.heap.size ∧ b6 < W.heap.size ∧ b7 < W.heap.size
theorem Hc7.step {W : World} {b1 o1 : Nat} {v1 : Value} {b2 o2 : Nat} {v2 : Value} {b3 o3 : Nat} {v3 : Value} {b4 o4 : Nat} {v4 : Value} {b5 o5 : Nat} {v5 : Value} {b6 o6 : Nat} {v6 : Value} {b7 o7 : Nat} {v7 : Value} {w' w'' : World} (h : Hc7 W b1 o1 v1 b2 o2 v2 b3 o3 v3 b4 o4 v4 b5 o5 v5 b6 o6 v6 b7 o7 v7 w') (hb : Below w'.heap.size w' w'') : Hc7 W b1 o1 v1 b2 o2 v2 b3 o3 v3 b4 o4 v4 b5 o5 v5 b6 o6 v6 b7 o7 v7 w'' := by
  obtain ⟨h1, h2, h3, h4, h5, h6, h7, hB, k1, k2, k3, k4, k5, k6, k7⟩ := h
  have hs := hB.size
  exact ⟨(hb.cell (p := ⟨b1, o1, none⟩) (by show b1 < _; omega)).trans h1, (hb.cell (p := ⟨b2, o2, none⟩) (by show b2 < _; omega)).trans h2, (hb.cell (p := ⟨b3, o3, none⟩) (by show b3 < _; omega)).trans h3, (hb.cell (p := ⟨b4, o4, none⟩) (by show b4 < _; omega)).trans h4, (hb.cell (p := ⟨b5, o5, none⟩) (by show b5 < _; omega)).trans h5, (hb.cell (p := ⟨b6, o6, none⟩) (by show b6 < _; omega)).trans h6, (hb.cell (p := ⟨b7, o7, none⟩) (by show b7 < _; omega)).trans h7, hB.trans (hb.mono hs), k1, k2, k3, k4, k5, k6, k7⟩
theorem Hc7.bel {W : World} {b1 o1 : Nat} {v1 : Value} {b2 o2 : Nat} {v2 : Value} {b3 o3 : Nat} {v3 : Value} {b4 o4 : Nat} {v4 : Value} {b5 o5 : Nat} {v5 : Value} {b6 o6 : Nat} {v6 : Value} {b7 o7 : Nat} {v7 : Value} {w' : World} (h : Hc7 W b1 o1 v1 b2 o2 v2 b3 o3 v3 b4 o4 v4 b5 o5 v5 b6 o6 v6 b7 o7 v7 w') : Below W.heap.size W w' := h.2.2.2.2.2.2.2.1
def Hc8 (W : World) (b1 o1 : Nat) (v1 : Value) (b2 o2 : Nat) (v2 : Value) (b3 o3 : Nat) (v3 : Value) (b4 o4 : Nat) (v4 : Value) (b5 o5 : Nat) (v5 : Value) (b6 o6 : Nat) (v6 : Value) (b7 o7 : Nat) (v7 : Value) (b8 o8 : Nat) (v8 : Value) (w' : World) : Prop := w'.cell? ⟨b1, o1, none⟩ = some v1 ∧ w'.cell? ⟨b2, o2, none⟩ = some v2 ∧ w'.cell? ⟨b3, o3, none⟩ = some v3 ∧ w'.cell? ⟨b4, o4, none⟩ = some v4 ∧ w'.cell? ⟨b5, o5, none⟩ = some v5 ∧ w'.cell? ⟨b6, o6, none⟩ = some v6 ∧ w'.cell? ⟨b7, o7, none⟩ = some v7 ∧ w'.cell? ⟨b8, o8, none⟩ = some v8 ∧ Below W.heap.size W w' ∧ b1 < W.heap.size ∧ b2 < W.heap.size ∧ b3 < W.heap.size ∧ b4 < W.heap.size ∧ b5 < W.heap.size ∧ b6 < W.heap.size ∧ b7 < W.heap.size ∧ b8 < W.heap.size
theorem Hc8.step {W : World} {b1 o1 : Nat} {v1 : Value} {b2 o2 : Nat} {v2 : Value} {b3 o3 : Nat} {v3 : Value} {b4 o4 : Nat} {v4 : Value} {b5 o5 : Nat} {v5 : Value} {b6 o6 : Nat} {v6 : Value} {b7 o7 : Nat} {v7 : Value} {b8 o8 : Nat} {v8 : Value} {w' w'' : World} (h : Hc8 W b1 o1 v1 b2 o2 v2 b3 o3 v3 b4 o4 v4 b5 o5 v5 b6 o6 v6 b7 o7 v7 b8 o8 v8 w') (hb : Below w'.heap.size w' w'') : Hc8 W b1 o1 v1 b2 o2 v2 b3 o3 v3 b4 o4 v4 b5 o5 v5 b6 o6 v6 b7 o7 v7 b8 o8 v8 w'' := by
  obtain ⟨h1, h2, h3, h4, h5, h6, h7, h8, hB, k1, k2, k3, k4, k5, k6, k7, k8⟩ := h
  have hs := hB.size
  exact ⟨(hb.cell (p := ⟨b1, o1, none⟩) (by show b1 < _; omega)).trans h1, (hb.cell (p := ⟨b2, o2, none⟩) (by show b2 < _; omega)).trans h2, (hb.cell (p := ⟨b3, o3, none⟩) (by show b3 < _; omega)).trans h3, (hb.cell (p := ⟨b4, o4, none⟩) (by show b4 < _; omega)).trans h4, (hb.cell (p := ⟨b5, o5, none⟩) (by show b5 < _; omega)).trans h5, (hb.cell (p := ⟨b6, o6, none⟩) (by show b6 < _; omega)).trans h6, (hb.cell (p := ⟨b7, o7, none⟩) (by show b7 < _; omega)).trans h7, (hb.cell (p := ⟨b8, o8, none⟩) (by show b8 < _; omega)).trans h8, hB.trans (hb.mono hs), k1, k2, k3, k4, k5, k6, k7, k8⟩
theorem Hc8.bel {W : World} {b1 o1 : Nat} {v1 : Value} {b2 o2 : Nat} {v2 : Value} {b3 o3 : Nat} {v3 : Value} {b4 o4 : Nat} {v4 : Value} {b5 o5 : Nat} {v5 : Value} {b6 o6 : Nat} {v6 : Value} {b7 o7 : Nat} {v7 : Value} {b8 o8 : Nat} {v8 : Value} {w' : World} (h : Hc8 W b1 o1 v1 b2 o2 v2 b3 o3 v3 b4 o4 v4 b5 o5 v5 b6 o6 v6 b7 o7 v7 b8 o8 v8 w') : Below W.heap.size W w' := h.2.2.2.2.2.2.2.2.1
def Hc12 (W : World) (b1 o1 : Nat) (v1 : Value) (b2 o2 : Nat) (v2 : Value) (b3 o3 : Nat) (v3 : Value) (b4 o4 : Nat) (v4 : Value) (b5 o5 : Nat) (v5 : Value) (b6 o6 : Nat) (v6 : Value) (b7 o7 : Nat) (v7 : Value) (b8 o8 : Nat) (v8 : Value) (b9 o9 : Nat) (v9 : Value) (b10 o10 : Nat) (v10 : Value) (b11 o11 : Nat) (v11 : Value) (b12 o12 : Nat) (v12 : Value) (w' : World) : Prop := w'.cell? ⟨b1, o1, none⟩ = some v1 ∧ w'.cell? ⟨b2, o2, none⟩ = some v2 ∧ w'.cell? ⟨b3, o3, none⟩ = some v3 ∧ w'.cell? ⟨b4, o4, none⟩ = some v4 ∧ w'.cell? ⟨b5, o5, none⟩ = some v5 ∧ w'.cell? ⟨b6, o6, none⟩ = some v6 ∧ w'.cell? ⟨b7, o7, none⟩ = some v7 ∧ w'.cell? ⟨b8, o8, none⟩ = some v8 ∧ w'.cell? ⟨b9, o9, none⟩ = some v9 ∧ w'.cell? ⟨b10, o10, none⟩ = some v10 ∧ w'.cell? ⟨b11, o11, none⟩ = some v11 ∧ w'.cell? ⟨b12, o12, none⟩ = some v12 ∧ Below W.heap.size W w' ∧ b1 < W.heap.size ∧ b2 < W.heap.size ∧ b3 < W.heap.size ∧ b4 < W.heap.size ∧ b5 < W.heap.size ∧ b6 < W.heap.size ∧ b7 < W.heap.size ∧ b8 < W.heap.size ∧ b9 < W.heap.size ∧ b10 < W.heap.size ∧ b11 < W.heap.size ∧ b12 < W.heap.size
theorem Hc12.step {W : World} {b1 o1 : Nat} {v1 : Value} {b2 o2 : Nat} {v2 : Value} {b3 o3 : Nat} {v3 : Value} {b4 o4 : Nat} {v4 : Value} {b5 o5 : Nat} {v5 : Value} {b6 o6 : Nat} {v6 : Value} {b7 o7 : Nat} {v7 : Value} {b8 o8 : Nat} {v8 : Value} {b9 o9 : Nat} {v9 : Value} {b10 o10 : Nat} {v10 : Value} {b11 o11 : Nat} {v11 : Value} {b12 o12 : Nat} {v12 : Value} {w' w'' : World} (h : Hc12 W b1 o1 v1 b2 o2 v2 b3 o3 v3 b4 o4 v4 b5 o5 v5 b6 o6 v6 b7 o7 v7 b8 o8 v8 b9 o9 v9 b10 o10 v10 b11 o11 v11 b12 o12 v12 w') (hb : Below w'.heap.size w' w'') : Hc12 W b1 o1 v1 b2 o2 v2 b3 o3 v3 b4 o4 v4 b5 o5 v5 b6 o6 v6 b7 o7 v7 b8 o8 v8 b9 o9 v9 b10 o10 v10 b11 o11 v11 b12 o12 v12 w'' := by
  obtain ⟨h1, h2, h3, h4, h5, h6, h7, h8, h9, h10, h11, h12, hB, k1, k2, k3, k4, k5, k6, k7, k8, k9, k10, k11, k12⟩ := h
  have hs := hB.size
  exact ⟨(hb.cell (p := ⟨b1, o1, none⟩) (by show b1 < _; omega)).trans h1, (hb.cell (p := ⟨b2, o2, none⟩) (by show b2 < _; omega)).trans h2, (hb.cell (p := ⟨b3, o3, none⟩) (by show b3 < _; omega)).trans h3, (hb.cell (p := ⟨b4, o4, none⟩) (by show b4 < _; omega)).trans h4, (hb.cell (p := ⟨b5, o5, none⟩) (by show b5 < _; omega)).trans h5, (hb.cell (p := ⟨b6, o6, none⟩) (by show b6 < _; omega)).trans h6, (hb.cell (p := ⟨b7, o7, none⟩) (by show b7 < _; omega)).trans h7, (hb.cell (p := ⟨b8, o8, none⟩) (by show b8 < _; omega)).trans h8, (hb.cell (p := ⟨b9, o9, none⟩) (by show b9 < _; omega)).trans h9, (hb.cell (p := ⟨b10, o10, none⟩) (by show b10 < _; omega)).trans h10, (hb.cell (p := ⟨b11, o11, none⟩) (by show b11 < _; omega)).trans h11, (hb.cell (p := ⟨b12, o12, none⟩) (by show b12 < _; omega)).trans h12, hB.trans (hb.mono hs), k1, k2, k3, k4, k5, k6, k7, k8, k9, k10, k11, k12⟩
theorem Hc12.bel {W : World} {b1 o1 : Nat} {v1 : Value} {b2 o2 : Nat} {v2 : Value} {b3 o3 : Nat} {v3 : Value} {b4 o4 : Nat} {v4 : Value} {b5 o5 : Nat} {v5 : Value} {b6 o6 : Nat} {v6 : Value} {b7 o7 : Nat} {v7 : Value} {b8 o8 : Nat} {v8 : Value} {b9 o9 : Nat} {v9 : Value} {b10 o10 : Nat} {v10 : Value} {b11 o11 : Nat} {v11 : Value} {b12 o12 : Nat} {v12 : Value} {w' : World} (h : Hc12 W b1 o1 v1 b2 o2 v2 b3 o3 v3 b4 o4 v4 b5 o5 v5 b6 o6 v6 b7 o7 v7 b8 o8 v8 b9 o9 v9 b10 o10 v10 b11 o11 v11 b12 o12 v12 w') : Below W.heap.size W w' := h.2.2.2.2.2.2.2.2.2.2.2.2.1

def bv (l : List Bool) : List Value := l.map .bool
theorem RowB.bools {w : World} {g : Nat} {t : TypeId} {l : List Bool} (h : RowB w g t (bv l)) (hl : l.length ≤ 4194304) {c : Nat} (hc : l.length ≤ c) : BoolS w w.heap.size (.slice (some ⟨g, 0, none⟩) l.length c) l := by
  refine ⟨_, c, rfl, hc, hl, by simp, fun hn => ⟨g, 0, rfl, h.lt, fun j u hu => ?_⟩⟩
  rw [Nat.zero_add, h.cell]
  exact hu
end Go.Proofs.YtfioaohadanjmaaDoor

namespace Go.Proofs.YtfioaohadanjmaaDoor
open Go.RowKit

end Go.Proofs.YtfioaohadanjmaaDoor

/- The source of drawn numbers: its block, pick, num, l17Open. -/
namespace Go.Proofs.YtfioaohadanjmaaDoor
open Go.RowKit

/-- n bytes lie at A, below block B -/
def Byt (w : World) (B : Nat) (A : Option Addr) (n : Nat) : Prop :=
  0 < n → ∃ b off, A = some ⟨b, off, none⟩ ∧ b < B ∧ ∀ j, j < n → ∃ u : Nat, u < 256 ∧ w.cell? ⟨b, off + j, none⟩ = some (.int .u8 (u : Nat))
theorem Byt.keep {w w' : World} {B n : Nat} {A : Option Addr} (h : Byt w B A n) (hk : ∀ b o, b < B → w'.cell? ⟨b, o, none⟩ = w.cell? ⟨b, o, none⟩) : Byt w' B A n := fun hn => by
  obtain ⟨b, off, e, hb, hc⟩ := h hn
  refine ⟨b, off, e, hb, fun j hj => ?_⟩
  obtain ⟨u, hu, hcu⟩ := hc j hj
  exact ⟨u, hu, (hk _ _ hb).trans hcu⟩
theorem Byt.cut {w : World} {B n m : Nat} {A : Option Addr} (h : Byt w B A n) (hm : m ≤ n) : Byt w B A m := fun hn => by
  obtain ⟨b, off, e, hb, hc⟩ := h (by omega)
  exact ⟨b, off, e, hb, fun j hj => hc j (by omega)⟩
theorem Byt.more {w : World} {B B' n : Nat} {A : Option Addr} (h : Byt w B A n) (hB : B ≤ B') : Byt w B' A n := fun hn => by
  obtain ⟨b, off, e, hb, hc⟩ := h hn
  exact ⟨b, off, e, by omega, hc⟩

/-- the source of drawn numbers lies in block g and has drawn p of them -/
def Dr (w : World) (g p : Nat) : Prop := ∃ A n c, w.heap[g]? = some (.cells #[.slice A n c, .int .i64 (p : Nat)] 49 (0, 0)) ∧ n ≤ 2000 ∧ n ≤ c ∧ Byt w g A n
theorem Dr.lt {w : World} {g p : Nat} (h : Dr w g p) : g < w.heap.size := by
  obtain ⟨A, n, c, h, _⟩ := h
  rcases Nat.lt_or_ge g w.heap.size with hlt | hge
  · exact hlt
  · rw [Array.getElem?_eq_none hge] at h; cases h
theorem Dr.low {w w' : World} {g p B : Nat} (h : Dr w g p) (hb : Below B w w') (hg : g < B) : Dr w' g p := by
  obtain ⟨A, n, c, h1, h2, h3, h4⟩ := h
  exact ⟨A, n, c, (hb.block g hg).trans h1, h2, h3, h4.keep fun b o hlt => hb.cell (p := ⟨b, o, none⟩) (by show b < B; omega)⟩

theorem xor_half (X : Int) (h0 : 0 ≤ X) (h1 : X < 4611686018427387904) : 0 ≤ bits .xor .i64 X (wrap64 (X.tdiv 64)) := by
  obtain ⟨a, rfl⟩ := Int.eq_ofNat_of_zero_le h0
  have e : wrap64 ((a : Int).tdiv 64) = ((a / 64 : Nat) : Int) := by
    rw [Int.tdiv_eq_ediv_of_nonneg (by omega)]; unfold wrap64; omega
  rw [e]
  have hx : a ^^^ a / 64 < 2 ^ 62 := Nat.xor_lt_two_pow (by omega) (by omega)
  show 0 ≤ IntKind.i64.wrap ((BitVec.ofInt 64 (a : Int) ^^^ BitVec.ofInt 64 ((a / 64 : Nat) : Int)).toNat : Int)
  rw [BitVec.toNat_xor, of_nat64 (by omega), of_nat64 (by omega), back64 (by omega)]
  omega
theorem pick_sum (u v p m : Nat) (hu : u < 256) (hv : v < 256) (hp : p ≤ 1000000) : 0 ≤ wrap64 ((u : Int) * 131 + v * 1117 + p * 29 + wrap64 (wrap64 ((p : Int) / m) * 53)) ∧ wrap64 ((u : Int) * 131 + v * 1117 + p * 29 + wrap64 (wrap64 ((p : Int) / m) * 53)) < 4611686018427387904 := by
  have h : (p : Int) / m = ((p / m : Nat) : Int) := by omega
  have h2 : p / m ≤ p := Nat.div_le_self _ _
  rw [h]
  generalize p / m = q at *
  have e1 : wrap64 (q : Int) = q := by unfold wrap64; omega
  rw [e1]
  have e2 : wrap64 ((q : Int) * 53) = q * 53 := by unfold wrap64; omega
  rw [e2]
  have e3 : wrap64 ((u : Int) * 131 + v * 1117 + p * 29 + q * 53) = (u : Int) * 131 + v * 1117 + p * 29 + q * 53 := by unfold wrap64; omega
  rw [e3]
  omega

set_option maxHeartbeats 2000000 in
set_option maxRecDepth 100000 in
theorem pick_any (g p : Nat) (n : Int) (w : World) (hd : Dr w g p) (hp : p ≤ 1000000) (hn : n ≤ 1000000) (hn0 : -1000000 ≤ n) :
    Calls Tryd.prog 14 #[.pointer (some ⟨g, 0, none⟩), .int .i64 n] w (fun e w' => ∃ k : Int, e = .returned (.int .i64 k) ∧ 0 ≤ k ∧ (1 ≤ n → k < n) ∧ Dr w' g (p + 1) ∧ w.grownBy w' (some g)) := by
  have hlt := hd.lt
  obtain ⟨A, m, c, hg, hm, hc, hby⟩ := hd
  have c0 : w.cell? ⟨g, 0, none⟩ = some (.slice A m c) := by rw [cell_of_row _ _ _ _ _ _ hg]; rfl
  have c1 : w.cell? ⟨g, 1, none⟩ = some (.int .i64 (p : Nat)) := by rw [cell_of_row _ _ _ _ _ _ hg]; rfl
  have fr1 : w.frozen? ⟨g, 1, none⟩ = false := frozen_of_row w g 1 _ _ hg
  have hrow := heap_setCell_same w g 1 _ _ (.int .i64 ((p : Int) + 1)) hg
  have hgr := grown_set w g 1 (.int .i64 ((p : Int) + 1))
  have hby3 : Byt (w.setCell ⟨g, 1, none⟩ (.int .i64 ((p : Int) + 1))) g A m := hby.keep (grown_keep hgr (Nat.le_refl _) hlt)
  have hdr : Dr (w.setCell ⟨g, 1, none⟩ (.int .i64 ((p : Int) + 1))) g (p + 1) := ⟨A, m, c, by rw [hrow]; simp, hm, hc, hby3⟩
  have d0 : (w.setCell ⟨g, 1, none⟩ (.int .i64 ((p : Int) + 1))).cell? ⟨g, 0, none⟩ = some (.slice A m c) := by rw [cell_of_row _ _ _ _ _ _ hrow]; rfl
  have d1 : (w.setCell ⟨g, 1, none⟩ (.int .i64 ((p : Int) + 1))).cell? ⟨g, 1, none⟩ = some (.int .i64 ((p : Int) + 1)) := by rw [cell_of_row _ _ _ _ _ _ hrow]; rfl
  clear hrow hby
  have HGR := Lib.hid hgr
  have HDR := Lib.hid hdr
  clear hgr hdr hg
  by_cases hn1 : n < 1
  · clear hby3
    go_enter Tryd.func14, Tryd.ntmps14
    go_wp2_with fail
    go_ret
    exact ⟨0, rfl, by omega, by omega, HDR.out, HGR.out⟩
  · by_cases hm0 : m = 0
    · subst hm0
      clear hby3
      go_enter Tryd.func14, Tryd.ntmps14
      go_wp2_with fail
      go_ret
      exact ⟨0, rfl, by omega, by omega, HDR.out, HGR.out⟩
    · obtain ⟨b, off, rfl, hb, hcell⟩ := hby3 (by omega)
      by_cases hpm : p < m
      · obtain ⟨u, hu, hcu⟩ := hcell p hpm
        clear hcell
        go_enter Tryd.func14, Tryd.ntmps14
        go_wp2_with fail
        go_ret
        exact ⟨_, rfl, Int.emod_nonneg _ (by omega), by first | exact fun _ => Int.emod_lt_of_pos _ (by omega) | exact Int.emod_lt_of_pos _ (by omega), HDR.out, HGR.out⟩
      · obtain ⟨u, hu, hcu⟩ := hcell (p % m) (Nat.mod_lt _ (by omega))
        obtain ⟨v, hv, hcv⟩ := hcell ((p * 7 + 3) % m) (Nat.mod_lt _ (by omega))
        clear hcell
        have q1 : ((p : Int)).tmod m = (p % m : Nat) := by rw [Int.tmod_eq_emod_of_nonneg (by omega)]; omega
        have q2 : ((p : Int) * 7 + 3).tmod m = ((p * 7 + 3) % m : Nat) := by rw [Int.tmod_eq_emod_of_nonneg (by omega)]; push_cast; rfl
        have q3 : p % m < m := Nat.mod_lt _ (by omega)
        have q4 : (p * 7 + 3) % m < m := Nat.mod_lt _ (by omega)
        generalize p % m = r1 at *
        generalize (p * 7 + 3) % m = r2 at *
        go_enter Tryd.func14, Tryd.ntmps14
        go_wp2_with fail
        go_quiet (fail)
        go_wp2_with fail
        go_ret
        obtain ⟨z0, z1⟩ := pick_sum u v p m hu hv hp
        exact ⟨_, rfl, Int.tmod_nonneg _ (xor_half _ z0 z1), by first | exact fun _ => Int.tmod_lt_of_pos _ (by omega) | exact Int.tmod_lt_of_pos _ (by omega), HDR.out.low (below_of_drewN ⟨_, rfl⟩ _) (Nat.lt_succ_self _), grown_tr HGR.out (grown_bel (below_of_drewN ⟨_, rfl⟩ _) (Nat.le_refl _) _)⟩

end Go.Proofs.YtfioaohadanjmaaDoor

/- num, l17Open. -/
namespace Go.Proofs.YtfioaohadanjmaaDoor
open Go.RowKit

set_option maxHeartbeats 1000000 in
theorem num_any (g p b : Nat) (l : List Int) (t : TypeId) (w : World) (hd : Dr w g p) (hp : p ≤ 1000000) (hr : RowB w b t (l.map (.int .i64))) (hne : b ≠ g) (h1 : 1 ≤ l.length) (h2 : l.length ≤ 1000) :
    Calls Tryd.prog 15 #[.pointer (some ⟨g, 0, none⟩), .slice (some ⟨b, 0, none⟩) l.length l.length] w (fun e w' => ∃ x : Int, e = .returned (.int .i64 x) ∧ x ∈ l ∧ Dr w' g (p + 1) ∧ w.grownBy w' (some g)) := by
  have HD := Lib.hid hd
  have HR := Lib.hid hr
  clear hd hr
  go_enter Tryd.func15, Tryd.ntmps15
  go_wp2_with fail
  refine (pick_any g p _ _ HD.out hp (by omega) (by omega)).mono ?_
  rintro e w1 ⟨k, rfl, k0, k1, hd1, hg1⟩
  have hk := k1 (by omega)
  clear k1
  obtain ⟨k, rfl⟩ := Int.eq_ofNat_of_zero_le k0
  have hkl : k < l.length := by omega
  have hc : w1.cell? ⟨b, k, none⟩ = some (.int .i64 l[k]) := by
    have hb1 := hg1.block b HR.out.lt (fun e => by injection e with e; exact absurd e (by omega))
    have : RowB w1 b t (l.map (.int .i64)) := hb1.trans HR.out
    rw [this.cell, List.getElem?_map, List.getElem?_eq_getElem hkl]; rfl
  have HD1 := Lib.hid hd1
  have HG1 := Lib.hid hg1
  clear hd1 hg1
  have HM : Hid (l[k] ∈ l) := List.getElem_mem hkl
  generalize l[k] = x at *
  go_wp2_with fail
  go_ret
  exact ⟨x, rfl, HM.out, HD1.out, HG1.out⟩

theorem l17Open_any (A : Option Addr) (n c : Nat) (w : World) (hb : Byt w w.heap.size A n) (hn : n ≤ 1048576) (hc : n ≤ c) :
    Calls Tryd.prog 11 #[.slice A n c] w (fun e w' => e = .returned (.pointer (some ⟨w.heap.size, 0, none⟩)) ∧ Dr w' w.heap.size 0 ∧ Below w.heap.size w w') := by
  have HB := Lib.hid hb
  have hd : ∀ m, m ≤ n → m ≤ 2000 → Dr (w.alloc (.cells #[.slice A m c, .int .i64 0] 49)) w.heap.size 0 := fun m h1 h2 =>
    ⟨A, m, c, heap_alloc_new w _, h2, by omega, (hb.cut h1).keep fun b o hlt => (bel_a w _).cell (p := ⟨b, o, none⟩) hlt⟩
  have HD := Lib.hid hd
  clear hd hb
  have h0 : n = 0 → A = A := fun _ => rfl
  by_cases hl : n ≤ 2000
  · go_enter Tryd.func11, Tryd.ntmps11
    go_wp2_with fail
    go_ret
    exact ⟨rfl, HD.out n (by omega) hl, bel_a _ _⟩
  · obtain ⟨b, off, rfl, hbb, -⟩ := HB.out (by omega)
    go_enter Tryd.func11, Tryd.ntmps11
    go_wp2_with fail
    go_ret
    exact ⟨rfl, HD.out 2000 (by omega) (by omega), bel_a _ _⟩

end Go.Proofs.YtfioaohadanjmaaDoor
