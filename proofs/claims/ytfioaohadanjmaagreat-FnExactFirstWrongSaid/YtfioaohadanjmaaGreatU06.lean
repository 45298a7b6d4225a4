import Derived.Test.YtfioaohadanjmaaGreatU01
import Derived.Laws.BitsAllLaws
import Derived.Laws.BitsLemmas
import Derived.Test.YtfioaohadanjmaaGreatU05
import Derived.Deep.RegionHeld3
import Derived.Deep.LoopGhost
set_option linter.unusedVariables false

/- Plain: sets of small numbers as numbers. No program in sight. -/
namespace Go.Proofs.YtfioaohadanjmaaGreat

/-- the set of the numbers below n at which f says yes -/
def bm : Nat → (Nat → Bool) → Nat
  | 0, _ => 0
  | n + 1, f => bm n f ||| (if f n then 1 <<< n else 0)
theorem bm_bit (n : Nat) (f : Nat → Bool) (i : Nat) : (bm n f).testBit i = (decide (i < n) && f i) := by
  induction n with
  | zero => simp [bm]
  | succ n ih =>
    simp only [bm, Nat.testBit_or, ih]
    by_cases hf : f n = true
    · rw [if_pos hf, Nat.one_shiftLeft, Nat.testBit_two_pow]
      by_cases h1 : i < n
      · simp [h1, show i < n + 1 by omega, show ¬ n = i by omega]
      · by_cases h2 : n = i
        · subst h2; simp [hf]
        · simp [h1, show ¬ i < n + 1 by omega, h2]
    · rw [if_neg hf]
      by_cases h1 : i < n
      · simp [h1, show i < n + 1 by omega]
      · by_cases h2 : i = n
        · subst h2; simp [hf]
        · simp [h1, show ¬ i < n + 1 by omega]
theorem bm_lt (n : Nat) (f : Nat → Bool) : bm n f < 2 ^ n := by
  induction n with
  | zero => simp [bm]
  | succ n ih =>
    simp only [bm]
    refine Nat.or_lt_two_pow (by rw [Nat.pow_succ]; omega) ?_
    split
    · rw [Nat.shiftLeft_eq, Nat.pow_succ]; have := Nat.two_pow_pos n; omega
    · exact Nat.two_pow_pos _
theorem bm_lt64 {n : Nat} (hn : n ≤ 6) (f : Nat → Bool) : bm n f < 64 := Nat.lt_of_lt_of_le (bm_lt n f) (show 2 ^ n ≤ 64 from Nat.pow_le_pow_right (n := 2) (by omega) hn)
theorem bm_congr {n : Nat} {f g : Nat → Bool} (h : ∀ i, i < n → f i = g i) : bm n f = bm n g := by
  apply Nat.eq_of_testBit_eq
  intro i
  rw [bm_bit, bm_bit]
  by_cases hi : i < n
  · rw [h i hi]
  · simp [hi]

/-- the numbers below n at which f says yes, in ascending order -/
def lst (n : Nat) (f : Nat → Bool) : List Int := ((List.range n).filter f).map fun k => ((k : Nat) : Int)
theorem lst_succ_true {n : Nat} {f : Nat → Bool} (h : f n = true) : lst (n + 1) f = lst n f ++ [((n : Nat) : Int)] := by simp [lst, List.range_succ, List.filter_append, h]
theorem lst_succ_false {n : Nat} {f : Nat → Bool} (h : f n = false) : lst (n + 1) f = lst n f := by simp [lst, List.range_succ, List.filter_append, h]
theorem lst_len (n : Nat) (f : Nat → Bool) : (lst n f).length ≤ n := by
  have := List.length_filter_le f (List.range n)
  simpa [lst] using this
theorem lst_mem {n : Nat} {f : Nat → Bool} {x : Int} : x ∈ lst n f ↔ ∃ k : Nat, k < n ∧ f k = true ∧ x = (k : Int) := by
  simp only [lst, List.mem_map, List.mem_filter, List.mem_range]
  constructor
  · rintro ⟨k, ⟨h1, h2⟩, rfl⟩; exact ⟨k, h1, h2, rfl⟩
  · rintro ⟨k, h1, h2, rfl⟩; exact ⟨k, ⟨h1, h2⟩, rfl⟩
theorem lst_more {n m : Nat} {f : Nat → Bool} (hnm : n ≤ m) (h : ∀ i, n ≤ i → i < m → f i = false) : lst n f = lst m f := by
  induction m with
  | zero => have : n = 0 := by omega
            subst this; rfl
  | succ m ih =>
    by_cases e : n = m + 1
    · subst e; rfl
    · rw [lst_succ_false (h m (by omega) (by omega)), ih (by omega) fun i h1 h2 => h i h1 (by omega)]
/-- a and not b -/
def andn (a b : Nat) : Nat := bm 6 fun i => a.testBit i && !b.testBit i
theorem andn_bit (a b i : Nat) (hi : i < 6) : (andn a b).testBit i = (a.testBit i && !b.testBit i) := by rw [andn, bm_bit]; simp [hi]
theorem andn_lt (a b : Nat) : andn a b < 64 := bm_lt64 (by omega) _

end Go.Proofs.YtfioaohadanjmaaGreat

/- Words on bits at int and uint64. No program in sight. -/
namespace Go.Proofs.YtfioaohadanjmaaGreat
open Go.RowKit

theorem of_nat64 {a : Nat} (ha : a < 9223372036854775808) : (BitVec.ofInt 64 (a : Int)).toNat = a := by
  rw [BitVec.ofInt_natCast, BitVec.toNat_ofNat]; exact Nat.mod_eq_of_lt (by omega)
theorem back64 {r : Nat} (h : r < 9223372036854775808) : IntKind.i64.wrap (r : Int) = (r : Int) := by
  rw [IntKind.wrap_i64]; omega
/-- or, at ints that are small sets -/
theorem or_small {a b : Nat} (ha : a < 64) (hb : b < 64) : bits .or .i64 (a : Int) (b : Int) = ((a ||| b : Nat) : Int) := by
  have hx : a ||| b < 2 ^ 6 := Nat.or_lt_two_pow (by omega) (by omega)
  show IntKind.i64.wrap ((BitVec.ofInt 64 (a : Int) ||| BitVec.ofInt 64 (b : Int)).toNat : Int) = _
  rw [BitVec.toNat_or, of_nat64 (by omega), of_nat64 (by omega), back64 (by omega)]
theorem and_small {a b : Nat} (ha : a < 64) (hb : b < 64) : bits .and .i64 (a : Int) (b : Int) = ((a &&& b : Nat) : Int) := by
  have hx : a &&& b < 2 ^ 6 := Nat.and_lt_two_pow _ (by omega)
  show IntKind.i64.wrap ((BitVec.ofInt 64 (a : Int) &&& BitVec.ofInt 64 (b : Int)).toNat : Int) = _
  rw [BitVec.toNat_and, of_nat64 (by omega), of_nat64 (by omega), back64 (by omega)]
theorem pow_small {k : Nat} (hk : k ≤ 6) : wrap64 (2 ^ k) = ((2 ^ k : Nat) : Int) := by
  rcases (show k = 0 ∨ k = 1 ∨ k = 2 ∨ k = 3 ∨ k = 4 ∨ k = 5 ∨ k = 6 by omega) with h | h | h | h | h | h | h <;> subst h <;> simp [wrap64]
theorem bm_succ_true {n : Nat} {f : Nat → Bool} (h : f n = true) : bm (n + 1) f = bm n f ||| 2 ^ n := by simp [bm, h, Nat.one_shiftLeft]
theorem bm_succ_false {n : Nat} {f : Nat → Bool} (h : f n = false) : bm (n + 1) f = bm n f := by simp [bm, h]
theorem two_pow_lt {k : Nat} (hk : k ≤ 5) : 2 ^ k < 64 := by
  rcases (show k = 0 ∨ k = 1 ∨ k = 2 ∨ k = 3 ∨ k = 4 ∨ k = 5 by omega) with h | h | h | h | h | h <;> subst h <;> decide

theorem bit_test {m k q : Nat} (hq : q = m / 2 ^ k) (h : q ≤ 63) : (bits .and .i64 (q : Int) 1 == 1) = m.testBit k := by
  have h1 := and_small (a := q) (b := 1) (by omega) (by omega)
  rw [show ((1 : Int)) = ((1 : Nat) : Int) from rfl, h1, Nat.testBit_eq_decide_div_mod_eq, ← hq, Nat.and_one_is_mod, Bool.eq_iff_iff]
  simp
  omega

end Go.Proofs.YtfioaohadanjmaaGreat

/- Words for rows that a call makes: ints, bools. -/
namespace Go.Proofs.YtfioaohadanjmaaGreat
open Go.RowKit

/-- an owned row of ints -/
def OInts (w : World) (base : Nat) (v : Value) (l : List Int) : Prop := w.ownsRow base 3 1 v l.length (l.map (.int .i64))
theorem OInts.nil (w : World) (base : Nat) : OInts w base (.slice none 0 0) [] := World.ownsRow_nil _ _ _ _
theorem OInts.empty (w : World) (base : Nat) (hb : base ≤ w.heap.size) : OInts (w.alloc (.cells #[] 3)) base (.slice (some ⟨w.heap.size, 0, none⟩) 0 0) [] :=
  World.ownsRow_lit (base := base) (e := 3) (size := 1) w #[] 0 hb (by simp [maxLen]) rfl
theorem OInts.slice {w : World} {base : Nat} {v : Value} {l : List Int} (h : OInts w base v l) : ∃ A c, v = .slice A l.length c ∧ l.length ≤ c := by
  rcases h.2 with ⟨rfl, h0⟩ | ⟨g, cap, cur, rfl, _, _, hc, _⟩
  · exact ⟨none, 0, by rw [h0], by omega⟩
  · exact ⟨_, cap, rfl, hc⟩
theorem OInts.toS {w : World} {base : Nat} {v : Value} {l : List Int} (h : OInts w base v l) (hl : l.length ≤ 4194304) : IntS w w.heap.size v l := own_ints h hl

/-- append(out, x) -/
theorem wpList_push_int {ops : Array Oper} {rest : List Oper} {o : Oper} {a : Act} {Q : Exit → Act → World → Prop} {w : World} {base : Nat} {vo : Value} {l : List Int} (hgd : o.guard = none) (s x : Operand)
    (ho : o.op = .call { callee := .builtin .append, args := #[s, x], argTypes := #[22, 22] })
    (hP : OInts w base vo l) (hb : base ≤ w.heap.size) (hn : l.length + 1 ≤ 8388608) (n : Int) (hs : a.eval s = vo) (hx : a.eval x = .slice (some ⟨w.heap.size, 0, none⟩) 1 1)
    (h : ∀ v' w', OInts w' base v' (l ++ [n]) → Evo base 3 (w.alloc (.cells #[.int .i64 n] 3)) w' → wpList Tryz.prog ops Q rest (a.put o.dst v') w') :
    wpList Tryz.prog ops Q (o :: rest) a (w.alloc (.cells #[.int .i64 n] 3)) := by
  obtain ⟨i0, hi0, hz0, hz1, hz2⟩ := info_parts Tryz.infoInt
  have hown := World.ownsRow.alloc hP (.cells #[.int .i64 n] 3)
  refine wpList_append_own_at _ hgd s x 22 ho base 3 i0 _ 1 8 Tryz.underlying22 hi0 hz0 hz1 hz2 rfl (by omega) vo l.length _ hs hown ⟨w.heap.size, 0, none⟩ 1 1 [.int .i64 n] hx rfl ?_ ?_ (by simp only [maxLen]; omega) (by omega) (by simp; omega) ?_
  · intro j u hu
    have hj : j = 0 := by
      rcases Nat.eq_zero_or_pos j with h | h
      · exact h
      · rw [List.getElem?_eq_none (by simp; omega)] at hu; cases hu
    subst hj
    have : (w.alloc (.cells #[.int .i64 n] 3)).cell? ⟨w.heap.size, 0, none⟩ = some u := by
      rw [cell_of_row _ _ _ _ _ _ (heap_alloc_new w _)]
      simpa using hu
    simpa [Addr.add] using this
  · intro u hu
    simp at hu
    subst hu; rfl
  · intro v' w' k1 k2 k3 k4
    refine h v' w' ?_ (Evo.grown hown k2)
    simpa [OInts] using k1

end Go.Proofs.YtfioaohadanjmaaGreat

namespace Go.Proofs.YtfioaohadanjmaaGreat
open Go.RowKit

/-- v points to a graph: types and points -/
def GrS (w : World) (B : Nat) (v : Value) (ts : List Int) (pts : List Pt) : Prop :=
  ∃ g vt vb vl, v = .pointer (some ⟨g, 0, none⟩) ∧ g < B ∧ w.cell? ⟨g, 0, none⟩ = some vt ∧ w.cell? ⟨g, 1, none⟩ = some vb ∧ w.cell? ⟨g, 2, none⟩ = some vl ∧ IntS w B vt ts ∧ PtS w B vl pts
theorem GrS.keep {w w' : World} {B : Nat} {v : Value} {ts : List Int} {pts : List Pt} (h : GrS w B v ts pts) (hk : ∀ b o, b < B → w'.cell? ⟨b, o, none⟩ = w.cell? ⟨b, o, none⟩) : GrS w' B v ts pts := by
  obtain ⟨g, vt, vb, vl, e, hg, h0, h1, h2, h3, h4⟩ := h
  exact ⟨g, vt, vb, vl, e, hg, (hk _ _ hg).trans h0, (hk _ _ hg).trans h1, (hk _ _ hg).trans h2, h3.keep hk, h4.keep hk⟩
theorem GrS.low {w w' : World} {B B' : Nat} {v : Value} {ts : List Int} {pts : List Pt} (h : GrS w B v ts pts) (hb : Below B' w w') (hB : B ≤ B') : GrS w' B v ts pts :=
  h.keep fun b o hlt => hb.cell (p := ⟨b, o, none⟩) (by show b < B'; omega)
theorem GrS.more {w : World} {B B' : Nat} {v : Value} {ts : List Int} {pts : List Pt} (h : GrS w B v ts pts) (hB : B ≤ B') : GrS w B' v ts pts := by
  obtain ⟨g, vt, vb, vl, e, hg, h0, h1, h2, h3, h4⟩ := h
  exact ⟨g, vt, vb, vl, e, by omega, h0, h1, h2, h3.more hB, h4.more hB⟩

def graphOk (ts : List Int) (l : List St) (ats : List Int) : Bool := validP ts l && ats.all (fun a => withinP a 0 ((ptsP l).length - 1))
/-- what impl.graphOf answers -/
def GraphRet (w : World) (ts : List Int) (l : List St) (ok : Bool) (e : Ending) (w' : World) : Prop :=
  ∃ v, e = .returned (.tuple #[v, .bool ok]) ∧ (ok = true → GrS w' w'.heap.size v ts (ptsP l)) ∧ Below w.heap.size w w'

/-- two cells of a box of the call's own, and all that is older: what a region holds on to -/
def Held2 (w1 : World) (g : Nat) (vt vb : Value) (w' : World) : Prop := w'.cell? ⟨g, 0, none⟩ = some vt ∧ w'.cell? ⟨g, 1, none⟩ = some vb ∧ Below w1.heap.size w1 w' ∧ g < w1.heap.size
theorem Held2.step {w1 : World} {g : Nat} {vt vb : Value} {w' w'' : World} (h : Held2 w1 g vt vb w') (hb : Below w'.heap.size w' w'') : Held2 w1 g vt vb w'' := by
  obtain ⟨h0, h1, h2, h3⟩ := h
  have hs := h2.size
  exact ⟨(hb.cell (p := ⟨g, 0, none⟩) (by show g < _; omega)).trans h0, (hb.cell (p := ⟨g, 1, none⟩) (by show g < _; omega)).trans h1, h2.trans (hb.mono hs), h3⟩

theorem Held2.bel {w1 : World} {g : Nat} {vt vb : Value} {w' : World} (h : Held2 w1 g vt vb w') : Below w1.heap.size w1 w' := h.2.2.1

set_option maxHeartbeats 1000000 in
theorem graphOf_any (vt vb va : Value) (ts : List Int) (l : List St) (ats : List Int) (B : Nat) (w : World) (ht : IntS w B vt ts) (hl : StS w B vb l) (ha : IntS w B va ats) (hB : B ≤ w.heap.size) (hsz : szL l ≤ 4194300) :
    Calls Tryz.prog 64 #[.agg #[vt, vb], va] w (GraphRet w ts l (graphOk ts l ats)) := by
  have hpos := ptsP_pos l
  have ha' := ha
  obtain ⟨A, c, rfl, hac, ham, har⟩ := ha
  cases hv : validP ts l
  · have HV := Lib.hid hv
    clear hv
    go_enter Tryz.func64, Tryz.ntmps64
    go_wp2_with fail
    refine (iProgramValid_any vt vb ts l B _ (ht.low (bel_a _ _) hB) (hl.low (bel_a _ _) hB) (by simp; omega) (by omega)).mono ?_
    rintro e w1 ⟨rfl, hb1⟩
    have hb2 := (bel_a _ _).trans (hb1.mono (by simp))
    rw [HV.out]
    go_wp2_with fail
    go_ret2
    exact ⟨_, by rw [graphOk, HV.out]; rfl, fun h => (by rw [graphOk, HV.out] at h; cases h), hb2⟩
  · have HV := Lib.hid hv
    clear hv
    go_enter Tryz.func64, Tryz.ntmps64
    go_wp2_with fail
    refine (iProgramValid_any vt vb ts l B _ (ht.low (bel_a _ _) hB) (hl.low (bel_a _ _) hB) (by simp; omega) (by omega)).mono ?_
    rintro e w1 ⟨rfl, hb1⟩
    have hc := box_kept hb1 (by simp)
    have hb2 := (bel_a _ _).trans (hb1.mono (by simp))
    have hs2 := hb2.size
    have hs1 : w.heap.size < w1.heap.size := by have := hb1.size; simp at this; omega
    have hc0 := hc 0
    have hc1 := hc 1
    simp at hc0 hc1
    rw [HV.out]
    clear hc
    go_wp2_with fail
    go_region_held3 (fun w' => w'.cell? ⟨w.heap.size, 0, none⟩ = some vt ∧ w'.cell? ⟨w.heap.size, 1, none⟩ = some vb ∧ Below w1.heap.size w1 w' ∧ w.heap.size < w1.heap.size) (first | exact ⟨hc0, hc1, (Below.refl _ _).drew, hs1⟩ | exact Held2.step (by assumption) (by assumption) | exact Held2.step (by assumption) (bel_a _ _) | go_keep)
      (first | (go_at_call 90; refine (points_any vt vb l B _ (by exact hl.low (hb2.trans ((Held2.bel (g := w.heap.size) (vt := vt) (vb := vb) (by assumption)).mono hs2)) hB) (by have := (Held2.bel (w1 := w1) (g := w.heap.size) (vt := vt) (vb := vb) (by assumption)).size; omega) hsz).mono ?_; (rintro e w2 ⟨v2, rfl, hP2, hb3⟩); (obtain ⟨A3, c3, rfl, hc3, hm3⟩ := hP2.slice)))
    have hb4 : Below w.heap.size w w2 := hb2.trans (((Below.refl _ _).drew.trans hb3).mono hs2)
    have hb5 := hb4.alloc hb4.size (.cells #[vt, vb, .slice A3 (ptsP l).length c3] 106)
    have hs4 := hb4.size
    have har5 := ha'.low hb5 hB
    have hgr : GrS (w2.alloc (.cells #[vt, vb, .slice A3 (ptsP l).length c3] 106)) (w2.alloc (.cells #[vt, vb, .slice A3 (ptsP l).length c3] 106)).heap.size (.pointer (some ⟨w2.heap.size, 0, none⟩)) ts (ptsP l) :=
      ⟨w2.heap.size, vt, vb, _, rfl, by simp, cell_of_row _ _ _ _ _ _ (heap_alloc_new w2 _), cell_of_row _ _ _ _ _ _ (heap_alloc_new w2 _), cell_of_row _ _ _ _ _ _ (heap_alloc_new w2 _),
        (ht.low hb5 hB).more (by simp; omega), (hP2.low (bel_a _ _) (Nat.le_refl _)).more (by simp)⟩
    have HGR := Lib.hid hgr
    have HB5 := Lib.hid hb5
    obtain ⟨A', c', hsl, _, _, har6⟩ := har5
    injection hsl with e1 _ e2
    subst e1 e2
    clear hb5 hgr hb4 har
    go_wp2_with fail
    go_loop [19] (fun i => ∃ k : Nat, k ≤ ats.length ∧ i = .int .i64 k ∧ ∀ x ∈ ats.take k, withinP x 0 ((ptsP l).length - 1) = true) (fun i => ats.length - (intOf i).toNat)
    case atStart => exact ⟨0, Nat.zero_le _, rfl, by simp⟩
    case round =>
      obtain ⟨k, hk, rfl, hn⟩ := hrel
      have H := Lib.hid hn
      clear hn
      by_cases hlt : k < ats.length
      · obtain ⟨b, off, rfl, hb, hcell⟩ := har6.int_at hlt
        have hck := hcell k hlt
        clear hcell
        go_wp2_with fail
        refine (within_any _ _ _ _).mono ?_
        rintro e w' ⟨rfl, rfl⟩
        cases hx : withinP ats[k] 0 ((ptsP l).length - 1)
        · have HX := Lib.hid hx
          clear hx
          go_wp2_with fail
          go_ret2
          have hno : graphOk ts l ats = false := by
            rw [graphOk, Bool.and_eq_false_iff]
            right
            rw [List.all_eq_false]
            exact ⟨ats[k], List.getElem_mem hlt, by rw [HX.out]; simp⟩
          exact ⟨_, by rw [hno]; rfl, fun h => (by rw [hno] at h; cases h), HB5.out⟩
        · have HX := Lib.hid hx
          clear hx
          go_wp2_with fail
          refine ⟨⟨k + 1, by omega, by go_num, ?_⟩, by simp [intOf]; omega⟩
          rw [take_succ_get ats k hlt]
          intro x hxm
          rcases List.mem_append.1 hxm with h | h
          · exact H.out x h
          · rw [List.mem_singleton.1 h]; exact HX.out
      · have hkl : k = ats.length := by omega
        have h := H.out
        rw [take_all hkl] at h
        have H' := Lib.hid h
        clear h hkl
        go_wp2_with fail
        go_ret2
        have hyes : graphOk ts l ats = true := by
          rw [graphOk, HV.out, Bool.true_and, List.all_eq_true]
          exact H'.out
        exact ⟨_, by rw [hyes]; rfl, fun _ => HGR.out, HB5.out⟩

end Go.Proofs.YtfioaohadanjmaaGreat

namespace Go.Proofs.YtfioaohadanjmaaGreat
open Go.RowKit

/-- a graph, opened for a walk -/
theorem GrS.open_ {w : World} {B : Nat} {v : Value} {ts : List Int} {pts : List Pt} (h : GrS w B v ts pts) :
    ∃ g At ct vb Al cl, v = .pointer (some ⟨g, 0, none⟩) ∧ g < B ∧ w.cell? ⟨g, 0, none⟩ = some (.slice At ts.length ct) ∧ w.cell? ⟨g, 1, none⟩ = some vb ∧ w.cell? ⟨g, 2, none⟩ = some (.slice Al pts.length cl) ∧
      IntS w B (.slice At ts.length ct) ts ∧ PtS w B (.slice Al pts.length cl) pts ∧ ts.length ≤ 4194304 ∧ pts.length ≤ 8388608 := by
  obtain ⟨g, vt, vb, vl, e, hg, h0, h1, h2, h3, h4⟩ := h
  have h3' := h3
  obtain ⟨At, ct, rfl, _, ht, _⟩ := h3
  obtain ⟨Al, cl, rfl, _, hp⟩ := h4.slice
  exact ⟨g, At, ct, vb, Al, cl, e, hg, h0, h1, h2, h3', h4, ht, hp⟩

set_option maxHeartbeats 400000 in
theorem takes_any (vg : Value) (ts : List Int) (pts : List Pt) (B : Nat) (v : Int) (w : World) (hg : GrS w B vg ts pts) (h0 : 0 ≤ v) (h1 : v < ts.length) :
    Calls Tryz.prog 96 #[vg, .int .i64 v] w fun e w' => e = .returned (.bool (takesP ts v)) ∧ w = w' := by
  obtain ⟨g, At, ct, vb, Al, cl, rfl, hgB, g0, g1, g2, ht, hp, htl, hpl⟩ := hg.open_
  obtain ⟨b, off, c, e, hb, hc, hm, hcell⟩ := ht.get h0 h1
  injection e with e1 _ e2
  subst e1 e2
  go_enter Tryz.func96, Tryz.ntmps96
  go_wp2
  all_goals (go_ret; exact ⟨ret_bool (by simp_all [takesP]), rfl⟩)

theorem useP_alt (ts : List Int) (op x y v : Int) : useP ts op x y v =
    if op = 3 then (if y = v then (if takesP ts v = true then 2 else 1) else 0)
    else if op = 4 ∨ op = 5 ∨ op = 6 then (if y = v then 3 else 0)
    else if op = 7 then (if x = v then 3 else if y = v then 1 else 0)
    else if op = 8 then (if x = v then 2 else 0)
    else 0 := by
  unfold useP takesP
  have e1 : (v = y) = (y = v) := propext eq_comm
  have e2 : (v = x) = (x = v) := propext eq_comm
  simp only [e1, e2, Bool.or_eq_true, beq_iff_eq]

set_option maxHeartbeats 1000000 in
theorem use_any (vg : Value) (ts : List Int) (pts : List Pt) (B : Nat) (op x y n v : Int) (nv : Value) (w : World) (hg : GrS w B vg ts pts) (hB : B ≤ w.heap.size) (h0 : 0 ≤ v) (h1 : v < ts.length) :
    Calls Tryz.prog 128 #[vg, .agg #[.int .i64 op, .int .i64 x, .int .i64 y, .int .i64 n, nv], .int .i64 v] w fun e w' => e = .returned (.int .i64 (useP ts op x y v)) ∧ Below w.heap.size w w' := by
  go_enter Tryz.func128, Tryz.ntmps128
  go_wp2_with (go_at_call 96; go_must (refine (takes_any _ ts pts B _ _ (hg.low (bel_a _ _) hB) (by omega) (by omega)).mono ?_); rintro e w' ⟨rfl, rfl⟩)
  all_goals (go_ret; refine ⟨ret_int ?_, bel_a _ _⟩; rw [useP_alt]; simp_all)

end Go.Proofs.YtfioaohadanjmaaGreat

namespace Go.Proofs.YtfioaohadanjmaaGreat
open Go.RowKit

/-- the variables that a point uses in one of these ways -/
def whichP (ts uses : List Int) (op x y : Int) : Nat := bm ts.length (fun v => hasP uses (useP ts op x y (v : Nat)))

set_option maxHeartbeats 1000000 in
theorem which_any (vg vu : Value) (ts uses : List Int) (pts : List Pt) (B : Nat) (op x y n : Int) (nv : Value) (w : World) (hg : GrS w B vg ts pts) (hu : IntS w B vu uses) (hB : B ≤ w.heap.size) (h6 : ts.length ≤ 6) :
    Calls Tryz.prog 114 #[vg, .agg #[.int .i64 op, .int .i64 x, .int .i64 y, .int .i64 n, nv], vu] w fun e w' => e = .returned (.int .i64 (whichP ts uses op x y : Nat)) ∧ Below w.heap.size w w' := by
  have HG := Lib.hid hg
  obtain ⟨g, At, ct, vb, Al, cl, rfl, hgB, g0, g1, g2, ht, hp, htl, hpl⟩ := hg.open_
  have g0' : ∀ o, (w.alloc o).cell? ⟨g, 0, none⟩ = some (.slice At ts.length ct) := fun o => (World.cell?_alloc_past _ _ _ (by omega)).trans g0
  go_enter Tryz.func114, Tryz.ntmps114
  go_wp2_with fail
  go_loopw [7, 15] (fun s i wr => ∃ k : Nat, k ≤ ts.length ∧ i = .int .i64 k ∧ s = .int .i64 (bm k (fun v => hasP uses (useP ts op x y (v : Nat))) : Nat) ∧ Below (w.alloc (.cells #[.int .i64 op, .int .i64 x, .int .i64 y, .int .i64 n, nv] 94)).heap.size (w.alloc (.cells #[.int .i64 op, .int .i64 x, .int .i64 y, .int .i64 n, nv] 94)) wr) (fun _ i _ => ts.length - (intOf i).toNat)
  case atStart => exact ⟨0, Nat.zero_le _, rfl, rfl, Below.refl _ _⟩
  case round =>
    obtain ⟨k, hk, rfl, rfl, hb1⟩ := hrel
    have hc := box_kept hb1 (by simp)
    have hb2 := (bel_a _ _).trans (hb1.mono (by simp))
    have hs2 := hb2.size
    by_cases hlt : k < ts.length
    · have hc0 := hc 0
      have hc1 := hc 1
      have hc2 := hc 2
      have hc3 := hc 3
      have hc4 := hc 4
      simp at hc0 hc1 hc2 hc3 hc4
      clear hc
      have hbl := bm_lt64 (n := k) (by omega) (fun v => hasP uses (useP ts op x y (v : Nat)))
      go_wp2_with fail
      refine (use_any _ ts pts B op x y n k nv _ (HG.out.low hb2 hB) (by omega) (by omega) (by omega)).mono ?_
      rintro e w1 ⟨rfl, hb3⟩
      have hb4 := hb2.trans (hb3.mono (by omega))
      go_wp2_with fail
      refine (contains_any _ uses _ B _ (hu.low hb4 hB)).mono ?_
      rintro e w' ⟨rfl, rfl⟩
      cases hx : hasP uses (useP ts op x y k)
      · have HX := Lib.hid hx
        clear hx
        go_wp2_with fail
        refine ⟨⟨k + 1, by omega, by go_num, by rw [bm_succ_false HX.out], hb1.trans ((hb3.mono (by have := hb1.size; omega)))⟩, by simp [intOf]; omega⟩
      · have HX := Lib.hid hx
        clear hx
        go_wp2_with fail
        refine ⟨⟨k + 1, by omega, by go_num, ?_, hb1.trans ((hb3.mono (by have := hb1.size; omega)))⟩, by simp [intOf]; omega⟩
        rw [pow_small (by omega), or_small hbl (two_pow_lt (by omega)), bm_succ_true HX.out]
    · obtain rfl : k = ts.length := by omega
      go_wp2_with fail
      go_ret
      exact ⟨rfl, hb2⟩

end Go.Proofs.YtfioaohadanjmaaGreat

namespace Go.Proofs.YtfioaohadanjmaaGreat
open Go.RowKit

end Go.Proofs.YtfioaohadanjmaaGreat

namespace Go.Proofs.YtfioaohadanjmaaGreat
open Go.RowKit

theorem ints_lit (w : World) (l : List Int) (t : TypeId) (hl : l.length ≤ 4194304) : IntS (w.alloc (.cells ((l.map (.int .i64)).toArray) t)) (w.heap.size + 1) (.slice (some ⟨w.heap.size, 0, none⟩) l.length l.length) l := by
  refine ⟨_, _, rfl, Nat.le_refl _, hl, by simp, fun hn => ⟨w.heap.size, 0, rfl, by omega, fun j u hu => ?_⟩⟩
  rw [Nat.zero_add, cell_of_row _ _ _ _ _ _ (heap_alloc_new w _)]
  simpa using hu

def takenP (ts : List Int) (op x y : Int) : Nat := bm ts.length (fun v => useP ts op x y (v : Nat) == 2)
def usedP (ts : List Int) (op x y : Int) : Nat := bm ts.length (fun v => useP ts op x y (v : Nat) != 0)
theorem useP_range (ts : List Int) (op x y v : Int) : useP ts op x y v = 0 ∨ useP ts op x y v = 1 ∨ useP ts op x y v = 2 ∨ useP ts op x y v = 3 := by
  unfold useP
  repeat' split
  all_goals simp
theorem used_which (ts : List Int) (op x y : Int) : whichP ts [1, 2, 3] op x y = usedP ts op x y := by
  refine bm_congr fun i hi => ?_
  rcases useP_range ts op x y (i : Nat) with h | h | h | h <;> rw [h] <;> rfl

set_option maxHeartbeats 400000 in
theorem used_any (vg : Value) (ts : List Int) (pts : List Pt) (B : Nat) (op x y n : Int) (nv : Value) (w : World) (hg : GrS w B vg ts pts) (hB : B ≤ w.heap.size) (h6 : ts.length ≤ 6) :
    Calls Tryz.prog 93 #[vg, .agg #[.int .i64 op, .int .i64 x, .int .i64 y, .int .i64 n, nv]] w fun e w' => e = .returned (.int .i64 (usedP ts op x y : Nat)) ∧ Below w.heap.size w w' := by
  have e := used_which ts op x y
  have HE := Lib.hid e
  clear e
  go_enter Tryz.func93, Tryz.ntmps93
  go_wp2_with fail
  have hb2 : ∀ o o', Below w.heap.size w ((w.alloc o).alloc o') := fun o o' => (bel_a w o).alloc (by simp) o'
  refine (which_any vg _ ts [1, 2, 3] pts (w.heap.size + 2) op x y n nv _ ((hg.low (hb2 _ _) hB).more (by omega)) (by simpa using ints_lit (w.alloc _) [1, 2, 3] 3 (by simp)) (by simp) h6).mono ?_
  rintro e w1 ⟨rfl, hb⟩
  go_wp2_with fail
  go_ret
  exact ⟨by rw [← HE.out]; rfl, (hb2 _ _).trans (hb.mono (by simp; omega))⟩

/-- the set of the variable that a point sets -/
def setBitP (op x : Int) : Nat := if 0 ≤ setsP op x then 2 ^ (setsP op x).toNat else 0

end Go.Proofs.YtfioaohadanjmaaGreat

namespace Go.Proofs.YtfioaohadanjmaaGreat
open Go.RowKit

/-- sets as ints -/
def msk (ms : List Nat) : List Int := ms.map fun m => ((m : Nat) : Int)
theorem msk_len (ms : List Nat) : (msk ms).length = ms.length := by simp [msk]
theorem msk_get {ms : List Nat} {k : Nat} (hk : k < ms.length) : (msk ms).getD k 0 = ((ms.getD k 0 : Nat) : Int) := by
  rw [getD_lt (by rw [msk_len]; exact hk), getD_lt hk]; simp [msk]
def orL (ms : List Nat) (nx : List Nat) : Nat := nx.foldl (fun a k => a ||| ms.getD k 0) 0
theorem orL_bit (ms nx : List Nat) (i : Nat) : (orL ms nx).testBit i = nx.any fun k => (ms.getD k 0).testBit i := by
  unfold orL
  have : ∀ z : Nat, (nx.foldl (fun a k => a ||| ms.getD k 0) z).testBit i = (z.testBit i || nx.any fun k => (ms.getD k 0).testBit i) := by
    induction nx with
    | nil => simp
    | cons k r ih => intro z; simp only [List.foldl_cons, List.any_cons, ih, Nat.testBit_or, Bool.or_assoc]
  simpa using this 0

/-- what a region holds on to: a boxed point, and all that is older -/
def Box5 (w1 : World) (g : Nat) (op x y n : Int) (nv : Value) (w' : World) : Prop :=
  w'.cell? ⟨g, 0, none⟩ = some (.int .i64 op) ∧ w'.cell? ⟨g, 1, none⟩ = some (.int .i64 x) ∧ w'.cell? ⟨g, 2, none⟩ = some (.int .i64 y) ∧ w'.cell? ⟨g, 3, none⟩ = some (.int .i64 n) ∧ w'.cell? ⟨g, 4, none⟩ = some nv ∧
    Below w1.heap.size w1 w' ∧ g < w1.heap.size
theorem Box5.step {w1 : World} {g : Nat} {op x y n : Int} {nv : Value} {w' w'' : World} (h : Box5 w1 g op x y n nv w') (hb : Below w'.heap.size w' w'') : Box5 w1 g op x y n nv w'' := by
  obtain ⟨h0, h1, h2, h3, h4, h5, h6⟩ := h
  have hs := h5.size
  exact ⟨(hb.cell (p := ⟨g, 0, none⟩) (by show g < _; omega)).trans h0, (hb.cell (p := ⟨g, 1, none⟩) (by show g < _; omega)).trans h1, (hb.cell (p := ⟨g, 2, none⟩) (by show g < _; omega)).trans h2,
    (hb.cell (p := ⟨g, 3, none⟩) (by show g < _; omega)).trans h3, (hb.cell (p := ⟨g, 4, none⟩) (by show g < _; omega)).trans h4, h5.trans (hb.mono hs), h6⟩
theorem Box5.bel {w1 : World} {g : Nat} {op x y n : Int} {nv : Value} {w' : World} (h : Box5 w1 g op x y n nv w') : Below w1.heap.size w1 w' := h.2.2.2.2.2.1
theorem Box5.new (w : World) (op x y n : Int) (nv : Value) (t : TypeId) : Box5 (w.alloc (.cells #[.int .i64 op, .int .i64 x, .int .i64 y, .int .i64 n, nv] t)) w.heap.size op x y n nv (w.alloc (.cells #[.int .i64 op, .int .i64 x, .int .i64 y, .int .i64 n, nv] t)).drew :=
  ⟨cell_of_row _ _ _ _ _ _ (heap_alloc_new w _), cell_of_row _ _ _ _ _ _ (heap_alloc_new w _), cell_of_row _ _ _ _ _ _ (heap_alloc_new w _), cell_of_row _ _ _ _ _ _ (heap_alloc_new w _), cell_of_row _ _ _ _ _ _ (heap_alloc_new w _), (Below.refl _ _).drew, by simp⟩

def valP (ts : List Int) (p : Pt) (m : Nat) : Nat := andn m (takenP ts p.op p.x p.y) ||| setBitP p.op p.x
theorem usedP_lt {ts : List Int} (h6 : ts.length ≤ 6) (op x y : Int) : usedP ts op x y < 64 := bm_lt64 h6 _
end Go.Proofs.YtfioaohadanjmaaGreat

/- Plain: what flows forward along points, as a least set. No program in sight. -/
namespace Go.Proofs.YtfioaohadanjmaaGreat

noncomputable def dec (p : Prop) : Bool := @decide p (Classical.propDecidable p)
theorem dec_iff {p : Prop} : dec p = true ↔ p := by unfold dec; exact @decide_eq_true_iff p (Classical.propDecidable p)
theorem dec_true {p : Prop} (h : p) : dec p = true := dec_iff.2 h
theorem dec_false {p : Prop} (h : ¬ p) : dec p = false := Bool.eq_false_iff.2 fun hh => h (dec_iff.1 hh)
/-- is v in what is gathered: the set itself, or (ev) what it lacks -/
def accB (ev : Bool) (m v : Nat) : Bool := m.testBit v != ev
def cmb (ev : Bool) (a b : Nat) : Nat := if ev then a &&& b else a ||| b
theorem accB_cmb (ev : Bool) (a b v : Nat) : accB ev (cmb ev a b) v = (accB ev a v || accB ev b v) := by
  cases ev
  · simp [accB, cmb, Nat.testBit_or]
  · simp only [accB, cmb, if_true, Nat.testBit_and]
    cases a.testBit v <;> cases b.testBit v <;> rfl
def trB (ev : Bool) (ts : List Int) (p : Pt) (b : Bool) (v : Nat) : Bool := ((((b != ev) && !(takenP ts p.op p.x p.y).testBit v) || (setBitP p.op p.x).testBit v) != ev)
theorem accB_val (ev : Bool) (ts : List Int) (p : Pt) (m v : Nat) (hv : v < 6) : accB ev (valP ts p m) v = trB ev ts p (accB ev m v) v := by
  unfold accB valP trB
  rw [Nat.testBit_or, andn_bit _ _ _ hv]
  cases m.testBit v <;> cases ev <;> rfl
theorem trB_mono (ev : Bool) (ts : List Int) (p : Pt) (b : Bool) (v : Nat) : trB ev ts p b v = (trB ev ts p false v || (b && trB ev ts p true v)) := by
  unfold trB
  cases b <;> cases ev <;> cases (takenP ts p.op p.x p.y).testBit v <;> cases (setBitP p.op p.x).testBit v <;> rfl

/-- what is gathered before a point -/
inductive Ac (ev : Bool) (ts : List Int) (pts : List Pt) (first : Nat) : Nat → Nat → Prop
  | init {v : Nat} (hv : v < ts.length) (h : accB ev first v = true) : Ac ev ts pts first 0 v
  | gen {i k v : Nat} {p : Pt} (hp : pts[i]? = some p) (hk : k ∈ p.next) (hv : v < ts.length) (h : trB ev ts p false v = true) : Ac ev ts pts first k v
  | keep {i k v : Nat} {p : Pt} (hp : pts[i]? = some p) (hk : k ∈ p.next) (hi : Ac ev ts pts first i v) (h : trB ev ts p true v = true) : Ac ev ts pts first k v

theorem Ac.lt {ev : Bool} {ts : List Int} {pts : List Pt} {first i v : Nat} (h : Ac ev ts pts first i v) : v < ts.length := by
  induction h with
  | init hv _ => exact hv
  | gen _ _ hv _ => exact hv
  | keep _ _ _ _ ih => exact ih

noncomputable def fwdM (ev : Bool) (ts : List Int) (pts : List Pt) (first i : Nat) : Nat := bm ts.length fun v => dec (Ac ev ts pts first i v) != ev
noncomputable def fwdL (ev : Bool) (ts : List Int) (pts : List Pt) (first : Nat) : List Nat := (List.range pts.length).map (fwdM ev ts pts first)

/-- the state of the search: sets before all points -/
structure FwdI (ev : Bool) (ts : List Int) (pts : List Pt) (first : Nat) (ms : List Nat) : Prop where
  len : ms.length = pts.length
  small : ∀ m ∈ ms, m < 2 ^ ts.length
  sound : ∀ i v, i < ms.length → v < ts.length → accB ev (ms.getD i 0) v = true → Ac ev ts pts first i v
  inits : ∀ v, v < ts.length → accB ev first v = true → accB ev (ms.getD 0 0) v = true
/-- the set s goes along all edges of point i, and all that it gathers is right -/
def SetOf (ev : Bool) (ts : List Int) (pts : List Pt) (first i s : Nat) : Prop := s < 2 ^ ts.length ∧ ∀ k v, (∃ p, pts[i]? = some p ∧ k ∈ p.next) → v < ts.length → accB ev s v = true → Ac ev ts pts first k v
def ClosedAt (ev : Bool) (ts : List Int) (pts : List Pt) (ms : List Nat) (i : Nat) : Prop := ∀ p, pts[i]? = some p → ∀ k ∈ p.next, cmb ev (ms.getD k 0) (valP ts p (ms.getD i 0)) = ms.getD k 0
theorem FwdI.setOf {ev : Bool} {ts : List Int} {pts : List Pt} {first i : Nat} {p : Pt} {ms : List Nat} (h : FwdI ev ts pts first ms) (h6 : ts.length ≤ 6) (hp : pts[i]? = some p) (hx : setsP p.op p.x < ts.length) : SetOf ev ts pts first i (valP ts p (ms.getD i 0)) := by
  have hi : i < pts.length := by
    rcases Nat.lt_or_ge i pts.length with h | h
    · exact h
    · rw [List.getElem?_eq_none h] at hp; cases hp
  have hil : i < ms.length := by rw [h.len]; exact hi
  have hsm : ms.getD i 0 < 2 ^ ts.length := by rw [getD_lt hil]; exact h.small _ (List.getElem_mem hil)
  refine ⟨?_, ?_⟩
  · refine Nat.or_lt_two_pow ?_ ?_
    · refine Nat.lt_pow_two_of_testBit _ fun j hj => ?_
      by_cases hj6 : j < 6
      · rw [andn_bit _ _ _ hj6, Nat.testBit_lt_two_pow (Nat.lt_of_lt_of_le hsm (Nat.pow_le_pow_right (n := 2) (by omega) hj))]; rfl
      · exact Nat.testBit_lt_two_pow (Nat.lt_of_lt_of_le (andn_lt _ _) (show 64 ≤ 2 ^ j from Nat.pow_le_pow_right (n := 2) (by omega) (show 6 ≤ j by omega)))
    · unfold setBitP
      split
      · exact Nat.pow_lt_pow_right (by omega) (by omega)
      · exact Nat.two_pow_pos _
  · rintro k v ⟨p', hp', hk⟩ hv ha
    rw [hp] at hp'
    injection hp' with hp'
    subst hp'
    rw [accB_val _ _ _ _ _ (by omega), trB_mono, Bool.or_eq_true, Bool.and_eq_true] at ha
    rcases ha with ha | ⟨ha, hb⟩
    · exact .gen hp hk hv ha
    · exact .keep hp hk (h.sound i v hil hv ha) hb

/-- where nothing changes any more, the sets are the least ones -/
theorem FwdI.done {ev : Bool} {ts : List Int} {pts : List Pt} {first : Nat} {ms : List Nat} (h : FwdI ev ts pts first ms) (h6 : ts.length ≤ 6) (hn : ∀ p ∈ pts, ∀ k ∈ p.next, k < pts.length) (h0 : 0 < pts.length) (hc : ∀ i, i < pts.length → ClosedAt ev ts pts ms i) : ms = fwdL ev ts pts first := by
  have hac : ∀ i v, Ac ev ts pts first i v → i < pts.length ∧ accB ev (ms.getD i 0) v = true := by
    intro i v ha
    induction ha with
    | init hv h1 => exact ⟨h0, h.inits _ hv h1⟩
    | @gen i k v p hp hk hv h1 =>
      have hi : i < pts.length := by
        rcases Nat.lt_or_ge i pts.length with h | h
        · exact h
        · rw [List.getElem?_eq_none h] at hp; cases hp
      refine ⟨hn p (List.mem_of_getElem? hp) k hk, ?_⟩
      rw [← hc i hi p hp k hk, accB_cmb, accB_val _ _ _ _ _ (by omega), trB_mono, h1]; simp
    | @keep i k v p hp hk ha h1 ih =>
      have hi := ih.1
      have hv := ha.lt
      refine ⟨hn p (List.mem_of_getElem? hp) k hk, ?_⟩
      rw [← hc i hi p hp k hk, accB_cmb, accB_val _ _ _ _ _ (by omega), trB_mono, ih.2, h1]; simp
  apply List.ext_getElem
  · simp [fwdL, h.len]
  · intro i hi hi'
    have hip : i < pts.length := by rw [← h.len]; exact hi
    simp only [fwdL, List.getElem_map, List.getElem_range]
    apply Nat.eq_of_testBit_eq
    intro v
    rw [fwdM, bm_bit]
    by_cases hv : v < ts.length
    · have e : dec (Ac ev ts pts first i v) = accB ev ms[i] v := by
        rw [Bool.eq_iff_iff, dec_iff]
        constructor
        · intro ha; have := (hac i v ha).2; rwa [getD_lt hi] at this
        · intro ha; exact h.sound i v hi hv (by rw [getD_lt hi]; exact ha)
      rw [e]
      unfold accB
      cases ms[i].testBit v <;> cases ev <;> simp [hv]
    · rw [Nat.testBit_lt_two_pow (Nat.lt_of_lt_of_le (h.small _ (List.getElem_mem hi)) (Nat.pow_le_pow_right (n := 2) (by omega) (by omega)))]
      simp [hv]

end Go.Proofs.YtfioaohadanjmaaGreat

/- Plain: what is needed from points on, as a least set. No program in sight. -/
namespace Go.Proofs.YtfioaohadanjmaaGreat

/-- v is used from point i on, before it is set -/
inductive Nd (ts : List Int) (pts : List Pt) : Nat → Nat → Prop
  | use {i v : Nat} {p : Pt} (hp : pts[i]? = some p) (hv : v < ts.length) (h : useP ts p.op p.x p.y (v : Nat) ≠ 0) : Nd ts pts i v
  | flow {i k v : Nat} {p : Pt} (hp : pts[i]? = some p) (hk : k ∈ p.next) (hn : Nd ts pts k v) (h : setsP p.op p.x ≠ (v : Nat)) : Nd ts pts i v
theorem Nd.lt {ts : List Int} {pts : List Pt} {i v : Nat} (h : Nd ts pts i v) : v < ts.length := by
  induction h with
  | use _ hv _ => exact hv
  | flow _ _ _ _ ih => exact ih
noncomputable def ndM (ts : List Int) (pts : List Pt) (i : Nat) : Nat := bm ts.length fun v => dec (Nd ts pts i v)
noncomputable def ndL (ts : List Int) (pts : List Pt) : List Nat := (List.range pts.length).map (ndM ts pts)
/-- one step back -/
def backP (ts : List Int) (p : Pt) (ms : List Nat) : Nat := usedP ts p.op p.x p.y ||| andn (orL ms p.next) (setBitP p.op p.x)
theorem setBit_bit (op x : Int) (v : Nat) : (setBitP op x).testBit v = decide (setsP op x = (v : Nat)) := by
  unfold setBitP
  split
  · rename_i h
    rw [Nat.testBit_two_pow, Bool.eq_iff_iff]; simp; omega
  · rename_i h
    rw [Nat.zero_testBit, eq_comm, decide_eq_false_iff_not]; omega
theorem back_bit (ts : List Int) (p : Pt) (ms : List Nat) (v : Nat) (hv : v < ts.length) (h6 : ts.length ≤ 6) :
    (backP ts p ms).testBit v = ((useP ts p.op p.x p.y (v : Nat) != 0) || ((p.next.any fun k => (ms.getD k 0).testBit v) && decide (setsP p.op p.x ≠ (v : Nat)))) := by
  rw [backP, Nat.testBit_or, andn_bit _ _ _ (by omega), orL_bit, setBit_bit, usedP, bm_bit, decide_eq_true hv, Bool.true_and]
  simp
structure NdI (ts : List Int) (pts : List Pt) (ms : List Nat) : Prop where
  len : ms.length = pts.length
  small : ∀ m ∈ ms, m < 2 ^ ts.length
  sound : ∀ i v, i < ms.length → v < ts.length → (ms.getD i 0).testBit v = true → Nd ts pts i v
  pre : ∀ i v p, pts[i]? = some p → v < ts.length → (ms.getD i 0).testBit v = true → (backP ts p ms).testBit v = true
theorem NdI.init (ts : List Int) (pts : List Pt) : NdI ts pts (List.replicate pts.length 0) := by
  have h0 : ∀ i v, ((List.replicate pts.length 0).getD i 0).testBit v = false := fun i v => by
    by_cases h : i < pts.length
    · rw [getD_lt (by simpa using h)]; simp
    · rw [getD_ge (by simp; omega)]; simp
  refine ⟨by simp, ?_, ?_, ?_⟩
  · intro m hm
    rw [(List.mem_replicate.1 hm).2]; exact Nat.two_pow_pos _
  · intro i v _ _ h
    rw [h0] at h; cases h
  · intro i v p _ _ h
    rw [h0] at h; cases h
theorem NdI.done {ts : List Int} {pts : List Pt} {ms : List Nat} (h : NdI ts pts ms) (h6 : ts.length ≤ 6) (hn : ∀ p ∈ pts, ∀ k ∈ p.next, k < pts.length) (hc : ∀ i p, pts[i]? = some p → backP ts p ms = ms.getD i 0) : ms = ndL ts pts := by
  have hac : ∀ i v, Nd ts pts i v → (ms.getD i 0).testBit v = true := by
    intro i v hd
    induction hd with
    | use hp hv h1 => rw [← hc _ _ hp, back_bit _ _ _ _ hv h6]; simp [h1]
    | flow hp hk hd h1 ih =>
      rw [← hc _ _ hp, back_bit _ _ _ _ hd.lt h6, Bool.or_eq_true, Bool.and_eq_true]
      exact .inr ⟨List.any_eq_true.2 ⟨_, hk, ih⟩, by simpa using h1⟩
  apply List.ext_getElem
  · simp [ndL, h.len]
  · intro i hi hi'
    simp only [ndL, List.getElem_map, List.getElem_range]
    apply Nat.eq_of_testBit_eq
    intro v
    rw [ndM, bm_bit]
    by_cases hv : v < ts.length
    · rw [decide_eq_true hv, Bool.true_and, Bool.eq_iff_iff, dec_iff]
      constructor
      · intro hb; exact h.sound i v hi hv (by rw [getD_lt hi]; exact hb)
      · intro hd; have := hac i v hd; rwa [getD_lt hi] at this
    · rw [Nat.testBit_lt_two_pow (Nat.lt_of_lt_of_le (h.small _ (List.getElem_mem hi)) (Nat.pow_le_pow_right (n := 2) (by omega) (by omega)))]
      simp [hv]

end Go.Proofs.YtfioaohadanjmaaGreat

namespace Go.Proofs.YtfioaohadanjmaaGreat
open Go.RowKit

/-- block g is just these cells -/
def RowB (w : World) (g : Nat) (t : TypeId) (l : List Value) : Prop := w.heap[g]? = some (.cells l.toArray t (0, 0))
theorem RowB.lt {w : World} {g : Nat} {t : TypeId} {l : List Value} (h : RowB w g t l) : g < w.heap.size := by
  rcases Nat.lt_or_ge g w.heap.size with hlt | hge
  · exact hlt
  · unfold RowB at h; rw [Array.getElem?_eq_none hge] at h; cases h
theorem RowB.cell {w : World} {g : Nat} {t : TypeId} {l : List Value} (h : RowB w g t l) (i : Nat) : w.cell? ⟨g, i, none⟩ = l[i]? := by
  rw [cell_of_row w g i _ t (0, 0) h]; simp
theorem RowB.frozen {w : World} {g : Nat} {t : TypeId} {l : List Value} (h : RowB w g t l) (i : Nat) : w.frozen? ⟨g, i, none⟩ = false := frozen_of_row w g i _ t h
theorem RowB.low {w w' : World} {g B : Nat} {t : TypeId} {l : List Value} (h : RowB w g t l) (hb : Below B w w') (hg : g < B) : RowB w' g t l := (hb.block g hg).trans h
theorem RowB.alloc {w : World} {g : Nat} {t : TypeId} {l : List Value} (h : RowB w g t l) (o : Obj) : RowB (w.alloc o) g t l := h.low (bel_a w o) h.lt
theorem RowB.set_ {w : World} {g : Nat} {t : TypeId} {l : List Value} (h : RowB w g t l) (i : Nat) (u : Value) : RowB (w.setCell ⟨g, i, none⟩ u) g t (l.set i u) := by
  have := heap_setCell_same w g i _ t u h
  unfold RowB
  rw [this]; simp
theorem RowB.other {w : World} {g g' : Nat} {t : TypeId} {l : List Value} (h : RowB w g t l) (hne : g ≠ g') (i : Nat) (u : Value) : RowB (w.setCell ⟨g', i, none⟩ u) g t l := (heap_setCell_other w ⟨g', i, none⟩ g u hne).trans h
theorem RowB.new (w : World) (l : List Value) (t : TypeId) : RowB (w.alloc (.cells l.toArray t)) w.heap.size t l := heap_alloc_new w _

/-- ints in such a block, for a walk -/
def iv (ms : List Nat) : List Value := ms.map fun m => .int .i64 (m : Nat)
theorem RowB.ints {w : World} {g : Nat} {t : TypeId} {ms : List Nat} (h : RowB w g t (iv ms)) (hl : ms.length ≤ 4194304) {c : Nat} (hc : ms.length ≤ c) : IntS w w.heap.size (.slice (some ⟨g, 0, none⟩) ms.length c) (msk ms) := by
  refine ⟨_, c, by rw [msk_len], by rw [msk_len]; exact hc, by rw [msk_len]; exact hl, by simp, fun hn => ⟨g, 0, rfl, h.lt, fun j u hu => ?_⟩⟩
  rw [Nat.zero_add, h.cell]
  simpa [iv, msk] using hu
/-- make([]int, n) -/
theorem make_ints (n : Nat) (hn : n ≤ 8388608) (W : World) : (Instr.makeSlice 22 (.int .i64 (n : Int)) (.int .i64 (n : Int))).run Tryz.prog W = .ok (.slice (some ⟨W.heap.size, 0, none⟩) n n) (W.alloc (.cells (iv (List.replicate n 0)).toArray 3)) := by
  obtain ⟨i0, hi0, hz0, hz1, hz2⟩ := info_parts Tryz.infoInt
  have h := run_make (P := Tryz.prog) W 22 3 i0 _ Tryz.underlying22 hi0 hz0 .i64 .i64 (n : Int) (n : Int) (by omega) (by omega) (by rw [hz2]; omega) (by omega)
  simp only [Int.toNat_natCast] at h
  rw [h]
  have e : madeCells (Value.cells (.int .i64 0)) (n * i0.size) = (iv (List.replicate n 0)).toArray := by
    have := toList_madeCells_one (.int .i64 0) (n * i0.size)
    rw [hz1, Nat.mul_one] at this ⊢
    apply Array.toList_inj.1
    show (madeCells #[.int .i64 0] n).toList = _
    rw [this]
    simp [iv]
  rw [e]

end Go.Proofs.YtfioaohadanjmaaGreat

/- Plain: what a valid program's points are like; what the exported functions answer. No program in sight. -/
namespace Go.Proofs.YtfioaohadanjmaaGreat

def PtOk (ts : List Int) (p : Pt) : Prop := p.op = 9 ∨ p.op = 10 ∨ p.op = 11 ∨ simpleP ts p.op p.x p.y p.n = true
mutual
theorem ptsSt_ok (ts : List Int) (at_ d : Nat) : ∀ s : St, stOk ts d s = true → ∀ p ∈ ptsSt at_ s, PtOk ts p
  | .mk op x y n th el => by
    have h1 := fun a d => ptsL_ok ts a d th
    have h2 := fun a d => ptsL_ok ts a d el
    intro hs p hp
    simp only [stOk] at hs
    simp only [ptsSt] at hp
    split at hp
    · rename_i ho
      rw [if_pos (by simp [isBranchP, ho])] at hs
      simp only [Bool.and_eq_true] at hs
      simp only [List.mem_cons, List.mem_append] at hp
      rcases hp with rfl | hp | rfl | hp
      · exact .inl rfl
      · exact h1 _ _ hs.1.2 p hp
      · exact .inr (.inl rfl)
      · exact h2 _ _ hs.2 p hp
    · split at hp
      · rename_i ho2
        rw [if_pos (by simp [isBranchP, ho2])] at hs
        simp only [Bool.and_eq_true] at hs
        simp only [List.mem_cons, List.mem_append, List.not_mem_nil, or_false] at hp
        rcases hp with rfl | hp | rfl
        · exact .inr (.inl rfl)
        · exact h1 _ _ hs.1.2 p hp
        · exact .inr (.inl rfl)
      · rename_i ho1 ho2
        rw [if_neg (by simp [isBranchP, ho1, ho2])] at hs
        simp only [Bool.and_eq_true] at hs
        simp only [List.mem_singleton] at hp
        subst hp
        exact .inr (.inr (.inr hs.2))
theorem ptsL_ok (ts : List Int) (at_ d : Nat) : ∀ l : List St, slOk ts d l = true → ∀ p ∈ ptsL at_ l, PtOk ts p
  | [] => by simp [ptsL]
  | s :: r => by
    have h1 := ptsSt_ok ts at_ d s
    have h2 := ptsL_ok ts (at_ + (ptsSt at_ s).length) d r
    intro hs p hp
    simp only [slOk, Bool.and_eq_true] at hs
    simp only [ptsL, List.mem_append] at hp
    rcases hp with hp | hp
    · exact h1 hs.1 p hp
    · exact h2 hs.2 p hp
end
theorem valid_parts {ts : List Int} {l : List St} (h : validP ts l = true) : tsOkP ts = true ∧ slOk ts 4 l = true ∧ szL l ≤ 30 := by
  simpa [validP, Bool.and_eq_true] using h
theorem ts6 {ts : List Int} (h : tsOkP ts = true) : ts.length ≤ 6 := by
  simp only [tsOkP, Bool.and_eq_true, decide_eq_true_eq] at h; exact h.1
theorem ptsP_ok {ts : List Int} {l : List St} (h : validP ts l = true) : ∀ p ∈ ptsP l, PtOk ts p := by
  intro p hp
  simp only [ptsP, List.mem_append, List.mem_singleton] at hp
  rcases hp with hp | rfl
  · exact ptsL_ok ts 0 4 l (valid_parts h).2.1 p hp
  · exact .inr (.inr (.inl rfl))
theorem ptsP_le {ts : List Int} {l : List St} (h : validP ts l = true) : (ptsP l).length ≤ 61 := by
  have h1 := ptsL_le 0 l
  have h2 := (valid_parts h).2.2
  rw [ptsP_len]; omega
theorem typeOf_in {ts : List Int} {v : Int} (h : typeOfP ts v ≠ 0) : 0 ≤ v ∧ v < ts.length := by
  unfold typeOfP at h
  split at h
  · rename_i h0
    refine ⟨h0, ?_⟩
    rcases Nat.lt_or_ge v.toNat ts.length with h1 | h1
    · omega
    · rw [getD_ge h1] at h; exact absurd rfl h
  · exact absurd rfl h
theorem simple_x {ts : List Int} {op x y n : Int} (h : simpleP ts op x y n = true) : 1 ≤ op ∧ op ≤ 8 ∧ typeOfP ts x ≠ 0 := by
  unfold simpleP at h
  repeat' split at h
  all_goals simp only [Bool.and_eq_true, Bool.or_eq_true, beq_iff_eq, bne_iff_ne, decide_eq_true_eq, Bool.false_eq_true] at h
  all_goals first | exact h.elim | (refine ⟨by omega, by omega, ?_⟩; omega)
theorem simple_y {ts : List Int} {op x y n : Int} (h : simpleP ts op x y n = true) (ho : 3 ≤ op ∧ op ≤ 7) : typeOfP ts y ≠ 0 := by
  unfold simpleP isHolderP isRefP at h
  repeat' split at h
  all_goals simp only [Bool.and_eq_true, Bool.or_eq_true, beq_iff_eq, bne_iff_ne, decide_eq_true_eq, Bool.false_eq_true] at h
  all_goals first | exact h.elim | omega
theorem PtOk.sets {ts : List Int} {p : Pt} (h : PtOk ts p) : setsP p.op p.x < ts.length := by
  unfold setsP
  split
  · rename_i ho
    rcases h with h | h | h | h
    · omega
    · omega
    · omega
    · exact (typeOf_in (simple_x h).2.2).2
  · omega

/-- the points that the exported functions speak of -/
structure Good (ts : List Int) (pts : List Pt) : Prop where
  h6 : ts.length ≤ 6
  len : pts.length ≤ 61
  pos : 0 < pts.length
  next : ∀ p ∈ pts, ∀ k ∈ p.next, k < pts.length
  next2 : ∀ p ∈ pts, p.next.length ≤ 2
  ok : ∀ p ∈ pts, PtOk ts p
theorem Good.of_valid {ts : List Int} {l : List St} (h : validP ts l = true) : Good ts (ptsP l) :=
  ⟨ts6 (valid_parts h).1, ptsP_le h, ptsP_pos l, fun p hp => (ptsP_next l p hp).2, fun p hp => (ptsP_next l p hp).1, ptsP_ok h⟩

end Go.Proofs.YtfioaohadanjmaaGreat

namespace Go.Proofs.YtfioaohadanjmaaGreat
open Go.RowKit

end Go.Proofs.YtfioaohadanjmaaGreat

namespace Go.Proofs.YtfioaohadanjmaaGreat
open Go.RowKit

end Go.Proofs.YtfioaohadanjmaaGreat

namespace Go.Proofs.YtfioaohadanjmaaGreat
open Go.RowKit

end Go.Proofs.YtfioaohadanjmaaGreat

namespace Go.Proofs.YtfioaohadanjmaaGreat
open Go.RowKit

theorem graphOk_nil {ts : List Int} {l : List St} : graphOk ts l [] = validP ts l := by simp [graphOk]

end Go.Proofs.YtfioaohadanjmaaGreat

namespace Go.Proofs.YtfioaohadanjmaaGreat
open Go.RowKit

end Go.Proofs.YtfioaohadanjmaaGreat

namespace Go.Proofs.YtfioaohadanjmaaGreat
open Go.RowKit

/-- bools -/
def BoolS (w : World) (B : Nat) (v : Value) (l : List Bool) : Prop :=
  ∃ A c, v = .slice A l.length c ∧ l.length ≤ c ∧ l.length ≤ 4194304 ∧ Rd w B 1 A l.length (l.map .bool)
theorem BoolS.low {w w' : World} {B B' : Nat} {v : Value} {l : List Bool} (h : BoolS w B v l) (hb : Below B' w w') (hB : B ≤ B') : BoolS w' B v l := by
  obtain ⟨A, c, e, h1, h2, h3⟩ := h
  exact ⟨A, c, e, h1, h2, h3.low hb hB⟩
theorem BoolS.more {w : World} {B B' : Nat} {v : Value} {l : List Bool} (h : BoolS w B v l) (hB : B ≤ B') : BoolS w B' v l := by
  obtain ⟨A, c, e, h1, h2, h3⟩ := h
  exact ⟨A, c, e, h1, h2, h3.more hB⟩
end Go.Proofs.YtfioaohadanjmaaGreat
