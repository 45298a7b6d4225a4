import Derived.Test.YtidlifijgooceaaGreatG26
import Derived.Test.YtidlifijgooceaaGreatG18
import Derived.Test.YtidlifijgooceaaGreatG23
import Derived.Lib.AppendZeros
import Derived.Test.YtidlifijgooceaaGreatG29
set_option linter.unusedVariables false

/- slices.Grow of nil, slices.Concat of two slices of ints; impl.graph.from, PathsTo, PathsFrom. -/
namespace Go.Proofs.YtidlifijgooceaaGreat
open Go.RowKit

theorem IntS.toX {w : World} {B : Nat} {v : Value} {l : List Int} {P : Nat → Prop} (h : IntS w B v l) (hB : B ≤ w.heap.size) (hP : ∀ b, b < B → P b) : IntX w P v l := by
  obtain ⟨A, c, e, h1, h2, h3⟩ := h
  refine ⟨A, c, e, h1, h2, fun hn => ?_⟩
  obtain ⟨b, off, e, hb, hc⟩ := h3.int_at hn
  exact ⟨b, off, e, hP b hb, by omega, hc⟩
theorem IntX.head {w : World} {P : Nat → Prop} {v : Value} {a : Int} {q : List Int} (h : IntX w P v (a :: q)) :
    ∃ b off c, v = .slice (some ⟨b, off, none⟩) (q.length + 1) (c + 1) ∧ q.length ≤ c ∧ P b ∧ b < w.heap.size ∧ w.cell? ⟨b, off, none⟩ = some (.int .i64 a) ∧ (∀ off', (off' = off ∧ c = 0 ∨ off' = off + 1) → IntX w P (.slice (some ⟨b, off', none⟩) q.length c) q) := by
  obtain ⟨A, c, e, h1, h2, h3⟩ := h
  obtain ⟨b, off, rfl, hP, hb, hc⟩ := h3 (by simp)
  simp only [List.length_cons] at h1 h2 e hc
  obtain ⟨c, rfl⟩ : ∃ c', c = c' + 1 := ⟨c - 1, by omega⟩
  refine ⟨b, off, c, e, by omega, hP, hb, by simpa using hc 0 (by omega), fun off' ho => ⟨_, c, rfl, by omega, by omega, fun hn => ⟨b, off', rfl, hP, hb, fun j hj => ?_⟩⟩⟩
  rcases ho with ⟨-, hc0⟩ | rfl
  · omega
  · have := hc (j + 1) (by omega)
    rw [show off + 1 + j = off + (j + 1) by omega, this]
    simp [List.getD]


theorem wpList_app_ints {ops : Array Oper} {rest : List Oper} {o : Oper} {a : Act} {Q : Exit → Act → World → Prop} {w : World} (hgd : o.guard = none) (s x : Operand)
    (ho : o.op = .call { callee := .builtin .append, args := #[s, x], argTypes := #[23, 23] })
    (base : Nat) (v : Value) (l : List Int) (hs : a.eval s = v) (hP : OInts w base v l) (B : Nat) (vs : Value) (ts : List Int) (hx : a.eval x = vs) (hr : IntS w B vs ts) (hb : base ≤ w.heap.size) (hn : l.length + ts.length ≤ 8388608)
    (h : ∀ v' w', OInts w' base v' (l ++ ts) → Below base w w' → wpList Tryz.prog ops Q rest (a.put o.dst v') w') : wpList Tryz.prog ops Q (o :: rest) a w :=
  wpList_plain hgd fun _ hK => wp_app_ints s x ho base v l hs hP B vs ts hx hr hb hn fun v' w' h1 h2 _ => hK _ _ (h v' w' h1 ((Evo.grown (T := 3) hP h2).below hb))


noncomputable def ldsL (pts : List Pt) (a : Nat) : List Bool := (List.range pts.length).map fun k => dec (Lds pts a k)
theorem FrI.ldsL {pts : List Pt} {a : Nat} {fl : List Bool} (h : FrI pts a fl []) : fl = ldsL pts a := by
  apply List.ext_getElem
  · simp [Proofs.YtidlifijgooceaaGreat.ldsL, h.len]
  · intro i h1 h2
    simp only [Proofs.YtidlifijgooceaaGreat.ldsL, List.getElem_map, List.getElem_range]
    rw [Bool.eq_iff_iff, dec_iff, ← h.done i, getD_lt h1]
def FromRet (w : World) (pts : List Pt) (a : Nat) (e : Ending) (w' : World) : Prop :=
  ∃ g, e = .returned (.slice (some ⟨g, 0, none⟩) pts.length pts.length) ∧ RowB w' g 4 (bv (ldsL pts a)) ∧ Below w.heap.size w w'


theorem ldsL_get {pts : List Pt} {a k : Nat} (hk : k < pts.length) : (ldsL pts a).getD k false = dec (Lds pts a k) := by
  rw [getD_lt (by simpa [ldsL] using hk)]; simp [ldsL]
theorem ldsL_len (pts : List Pt) (a : Nat) : (ldsL pts a).length = pts.length := by simp [ldsL]
noncomputable def toRes (l : List St) (ts : List Int) (a : Int) : List Int := if graphOk ts l [a] = true then lst (ptsP l).length (fun i => dec (Lds (ptsP l) i a.toNat)) else []
noncomputable def frRes (l : List St) (ts : List Int) (a : Int) : List Int := if graphOk ts l [a] = true then lst (ptsP l).length (fun i => dec (Lds (ptsP l) a.toNat i)) else []


end Go.Proofs.YtidlifijgooceaaGreat

/- impl.Point.isLoan, isChoice; impl.graph.run; slices.Clone; impl.RunPath. -/
namespace Go.Proofs.YtidlifijgooceaaGreat
open Go.RowKit

def loanB (op : Int) : Bool := op == 4 || op == 5
set_option maxHeartbeats 400000 in
theorem isLoan_any (op x y n : Int) (nv : Value) (w : World) :
    Calls Tryz.prog 37 #[.agg #[.int .i64 op, .int .i64 x, .int .i64 y, .int .i64 n, nv]] w fun e w' => e = .returned (.bool (loanB op)) ∧ Below w.heap.size w w' := by
  by_cases h4 : op = 4
  · subst h4
    go_enter Tryz.func37, Tryz.ntmps37
    go_wp2_with fail
    go_ret
    exact ⟨rfl, bel_a _ _⟩
  · by_cases h5 : op = 5
    · subst h5
      go_enter Tryz.func37, Tryz.ntmps37
      go_wp2_with fail
      go_ret
      exact ⟨rfl, bel_a _ _⟩
    · go_enter Tryz.func37, Tryz.ntmps37
      go_wp2_with fail
      go_ret
      exact ⟨ret_bool (by simp [loanB]), bel_a _ _⟩
theorem IntS.take {w : World} {B n c m : Nat} {A : Option Addr} {l : List Int} (h : IntS w B (.slice A n c) l) (hm : m ≤ l.length) : IntS w B (.slice A m c) (l.take m) := by
  obtain ⟨A', c', e, h1, h2, h3⟩ := h
  injection e with e1 e2 e3
  subst e1 e3
  have hl : (l.take m).length = m := by simp; omega
  refine ⟨A, c, by rw [hl], by omega, by omega, by simp, fun hn => ?_⟩
  obtain ⟨b, off, e, hb, hc⟩ := h3.2 (by omega)
  refine ⟨b, off, e, hb, fun j u hu => hc j u ?_⟩
  have hj : j < m := by have := (List.getElem?_eq_some_iff.1 hu).1; simp at this; omega
  rw [List.getElem?_map, List.getElem?_take_of_lt hj] at hu
  rw [List.getElem?_map]; exact hu
theorem and_one (c : Int) : bits .and .i64 c 1 = c % 2 := by
  show IntKind.i64.wrap ((BitVec.ofInt 64 c &&& BitVec.ofInt 64 1).toNat : Int) = _
  rw [BitVec.toNat_and, show (BitVec.ofInt 64 1).toNat = 1 by decide, Nat.and_one_is_mod, BitVec.toNat_ofInt, back64 (by omega)]
  omega



def runRes (ts : List Int) (l : List St) (cs : List Int) (most : Int) : List Nat × Bool := if validP ts l = true ∧ withinP most 0 1000 = true then runF (ptsP l) most.toNat 0 cs else ([], false)

end Go.Proofs.YtidlifijgooceaaGreat

/- Loans: owned rows of them; impl.LoansOf. -/
namespace Go.Proofs.YtidlifijgooceaaGreat
open Go.RowKit

structure Ln where
  pt : Nat
  un : Bool
  vr : Int
def lnCells : List Ln → List Value
  | [] => []
  | x :: r => .int .i64 (x.pt : Nat) :: .bool x.un :: .int .i64 x.vr :: lnCells r
theorem lnCells_append (a b : List Ln) : lnCells (a ++ b) = lnCells a ++ lnCells b := by
  induction a with
  | nil => rfl
  | cons x r ih => simp [lnCells, ih]
theorem lnCells_len (a : List Ln) : (lnCells a).length = a.length * 3 := by
  induction a with
  | nil => rfl
  | cons x r ih => simp [lnCells, ih]; omega
theorem lnCells_at {ls : List Ln} {i : Nat} (hi : i < ls.length) : (lnCells ls)[i * 3]? = some (.int .i64 (ls[i].pt : Nat)) ∧ (lnCells ls)[i * 3 + 1]? = some (.bool ls[i].un) ∧ (lnCells ls)[i * 3 + 2]? = some (.int .i64 ls[i].vr) := by
  induction ls generalizing i with
  | nil => simp at hi
  | cons x r ih =>
    cases i with
    | zero => simp [lnCells]
    | succ i =>
      have := ih (i := i) (by simpa using hi)
      simp only [lnCells, show (i + 1) * 3 = i * 3 + 3 by omega, show i * 3 + 3 + 1 = i * 3 + 1 + 3 by omega, show i * 3 + 3 + 2 = i * 3 + 2 + 3 by omega, List.getElem?_cons_succ, List.getElem_cons_succ]
      exact this
def OLn (w : World) (base : Nat) (v : Value) (ls : List Ln) : Prop := w.ownsRow base 34 3 v ls.length (lnCells ls)
theorem OLn.nil (w : World) (base : Nat) : OLn w base (.slice none 0 0) [] := World.ownsRow_nil _ _ _ _
theorem OLn.slice {w : World} {base : Nat} {v : Value} {l : List Ln} (h : OLn w base v l) : ∃ A c, v = .slice A l.length c ∧ l.length ≤ c := by
  rcases h.2 with ⟨rfl, h0⟩ | ⟨g, cap, cur, rfl, _, _, hc, _⟩
  · exact ⟨none, 0, by rw [h0], by omega⟩
  · exact ⟨_, cap, rfl, hc⟩
theorem OLn.bel {w w' : World} {base : Nat} {v : Value} {l : List Ln} (h : OLn w base v l) (hb : Below w.heap.size w w') : OLn w' base v l :=
  World.ownsRow.kept h (grown_bel hb (Nat.le_refl _) none) (by cases v.ownBlock <;> simp)
/-- the slice v reads as the loans ls -/
def LnS (w : World) (B : Nat) (v : Value) (ls : List Ln) : Prop :=
  ∃ A c, v = .slice A ls.length c ∧ ls.length ≤ c ∧ ls.length ≤ 100000 ∧ (0 < ls.length → ∃ b off, A = some ⟨b, off, none⟩ ∧ b < B ∧ ∀ i (h : i < ls.length),
    w.cell? ⟨b, off + i * 3, none⟩ = some (.int .i64 (ls[i].pt : Nat)) ∧ w.cell? ⟨b, off + i * 3 + 1, none⟩ = some (.bool ls[i].un) ∧ w.cell? ⟨b, off + i * 3 + 2, none⟩ = some (.int .i64 ls[i].vr))
theorem LnS.low {w w' : World} {B B' : Nat} {v : Value} {l : List Ln} (h : LnS w B v l) (hb : Below B' w w') (hB : B ≤ B') : LnS w' B v l := by
  obtain ⟨A, c, e, h1, h2, h3⟩ := h
  refine ⟨A, c, e, h1, h2, fun hn => ?_⟩
  obtain ⟨b, off, e, hbb, hc⟩ := h3 hn
  have k : ∀ o, w'.cell? ⟨b, o, none⟩ = w.cell? ⟨b, o, none⟩ := fun o => hb.cell (p := ⟨b, o, none⟩) (by show b < B'; omega)
  exact ⟨b, off, e, hbb, fun i hi => by simp only [k]; exact hc i hi⟩
theorem LnS.bel {w w' : World} {v : Value} {l : List Ln} (h : LnS w w.heap.size v l) (hb : Below w.heap.size w w') : LnS w' w'.heap.size v l := by
  obtain ⟨A, c, e, h1, h2, h3⟩ := h.low hb (Nat.le_refl _)
  refine ⟨A, c, e, h1, h2, fun hn => ?_⟩
  obtain ⟨b, off, e, hbb, hc⟩ := h3 hn
  exact ⟨b, off, e, Nat.lt_of_lt_of_le hbb hb.size, hc⟩
theorem LnS.slice {w : World} {B : Nat} {v : Value} {l : List Ln} (h : LnS w B v l) : ∃ A c, v = .slice A l.length c ∧ l.length ≤ c := by
  obtain ⟨A, c, e, h1, _⟩ := h
  exact ⟨A, c, e, h1⟩
theorem LnS.get {w : World} {B n c : Nat} {A : Option Addr} {l : List Ln} (h : LnS w B (.slice A n c) l) {i : Nat} (hi : i < l.length) : ∃ b off, A = some ⟨b, off, none⟩ ∧ b < B ∧
    w.cell? ⟨b, off + i * 3, none⟩ = some (.int .i64 (l[i].pt : Nat)) ∧ w.cell? ⟨b, off + i * 3 + 1, none⟩ = some (.bool l[i].un) ∧ w.cell? ⟨b, off + i * 3 + 2, none⟩ = some (.int .i64 l[i].vr) := by
  obtain ⟨A', c', e, h1, h2, h3⟩ := h
  injection e with e1 _ _
  subst e1
  obtain ⟨b, off, e, hb, hc⟩ := h3 (by omega)
  exact ⟨b, off, e, hb, hc i hi⟩
theorem OLn.toS {w : World} {base : Nat} {v : Value} {l : List Ln} (h : OLn w base v l) (hl : l.length ≤ 100000) : LnS w w.heap.size v l := by
  obtain ⟨A, c, rfl, hc⟩ := h.slice
  refine ⟨A, c, rfl, hc, hl, fun hn => ?_⟩
  obtain ⟨g, cap, e, hb, hlt⟩ := World.ownsRow.form h hn
  injection e with e1 _ e2
  subst e1 e2
  refine ⟨g, 0, rfl, hlt, fun i hi => ?_⟩
  obtain ⟨a0, a1, a2⟩ := lnCells_at hi
  simp only [Nat.zero_add]
  exact ⟨(World.ownsRow.cellAt h _ (by omega)).trans a0, (World.ownsRow.cellAt h _ (by omega)).trans a1, (World.ownsRow.cellAt h _ (by omega)).trans a2⟩
theorem Tryz.infoLn : (Tryz.prog.info? 34).map (fun i => (i.zero, i.size, i.bytes)) = some (some (.agg #[.int .i64 0, .bool false, .int .i64 0]), 3, 24) := by kernel_rfl
/-- append(out, Loan{..}) -/
theorem wpList_push_ln {ops : Array Oper} {rest : List Oper} {o : Oper} {a : Act} {Q : Exit → Act → World → Prop} {w : World} {base : Nat} {vo : Value} {ls : List Ln} (hgd : o.guard = none) (s x : Operand)
    (ho : o.op = .call { callee := .builtin .append, args := #[s, x], argTypes := #[31, 31] })
    (hP : OLn w base vo ls) (hb : base ≤ w.heap.size) (hn : ls.length + 1 ≤ 100000) (p : Nat) (u : Bool) (y : Int) (hs : a.eval s = vo) (hx : a.eval x = .slice (some ⟨w.heap.size, 0, none⟩) 1 1)
    (h : ∀ v' w', OLn w' base v' (ls ++ [⟨p, u, y⟩]) → Below base w w' → wpList Tryz.prog ops Q rest (a.put o.dst v') w') :
    wpList Tryz.prog ops Q (o :: rest) a (w.alloc (.cells #[.int .i64 (p : Nat), .bool u, .int .i64 y] 34)) := by
  obtain ⟨i0, hi0, hz0, hz1, hz2⟩ := info_parts Tryz.infoLn
  have hown := World.ownsRow.alloc hP (.cells #[.int .i64 (p : Nat), .bool u, .int .i64 y] 34)
  refine wpList_append_own_at _ hgd s x 31 ho base 34 i0 _ 3 24 Tryz.underlying31 hi0 hz0 hz1 hz2 rfl (by omega) vo ls.length _ hs hown ⟨w.heap.size, 0, none⟩ 1 1 [.int .i64 (p : Nat), .bool u, .int .i64 y] hx rfl ?_ ?_ (by simp only [maxLen]; omega) (by omega) (by simp; omega) ?_
  · intro j u' hu
    have : (w.alloc (.cells #[.int .i64 (p : Nat), .bool u, .int .i64 y] 34)).cell? ⟨w.heap.size, j, none⟩ = some u' := by
      rw [cell_of_row _ _ _ _ _ _ (heap_alloc_new w _)]
      simpa using hu
    unfold Addr.add
    by_cases hj : j = 0
    · subst hj; simpa using this
    · simpa [hj] using this
  · intro u' hu
    simp at hu
    rcases hu with rfl | rfl | rfl <;> rfl
  · intro v' w' k1 k2 k3 k4
    refine h v' w' ?_ ((((bel_a w _).mono hb)).trans ((Evo.grown (T := 34) hown k2).below (by simp; omega)))
    unfold OLn
    rw [lnCells_append]
    simpa [lnCells] using k1

/-- the loans among the first k points -/
def lnL (pts : List Pt) (k : Nat) : List Ln := ((List.range k).filter fun i => loanB (ptD pts i).op).map fun i => ⟨i, (ptD pts i).op == 5, (ptD pts i).y⟩
theorem lnL_yes {pts : List Pt} {k : Nat} (h : loanB (ptD pts k).op = true) : lnL pts (k + 1) = lnL pts k ++ [⟨k, (ptD pts k).op == 5, (ptD pts k).y⟩] := by simp [lnL, List.range_succ, List.filter_append, h]
theorem lnL_no {pts : List Pt} {k : Nat} (h : loanB (ptD pts k).op = false) : lnL pts (k + 1) = lnL pts k := by simp [lnL, List.range_succ, List.filter_append, h]
theorem lnL_len (pts : List Pt) (k : Nat) : (lnL pts k).length ≤ k := by
  have := List.length_filter_le (fun i => loanB (ptD pts i).op) (List.range k)
  simpa [lnL] using this
theorem lnL_mem {pts : List Pt} {k : Nat} {x : Ln} (hm : x ∈ lnL pts k) : x.pt < k ∧ loanB (ptD pts x.pt).op = true ∧ x.un = ((ptD pts x.pt).op == 5) ∧ x.vr = (ptD pts x.pt).y := by
  simp only [lnL, List.mem_map, List.mem_filter, List.mem_range] at hm
  obtain ⟨j, ⟨h1, h2⟩, rfl⟩ := hm
  exact ⟨h1, h2, rfl, rfl⟩
theorem lnL_get {pts : List Pt} {k i : Nat} (h : i < (lnL pts k).length) : (lnL pts k)[i].pt < k ∧ loanB (ptD pts (lnL pts k)[i].pt).op = true ∧ (lnL pts k)[i].un = ((ptD pts (lnL pts k)[i].pt).op == 5) ∧ (lnL pts k)[i].vr = (ptD pts (lnL pts k)[i].pt).y := lnL_mem (List.getElem_mem h)
def LnRet (w : World) (ls : List Ln) (e : Ending) (w' : World) : Prop := ∃ v, e = .returned v ∧ LnS w' w'.heap.size v ls ∧ Below w.heap.size w w'

set_option maxHeartbeats 1000000 in
set_option maxRecDepth 100000 in
theorem iLoansOf_any (vt vb : Value) (ts : List Int) (l : List St) (B : Nat) (w : World) (ht : IntS w B vt ts) (hl : StS w B vb l) (hB : B ≤ w.heap.size) (hsz : szL l ≤ 4194300) :
    Calls Tryz.prog 10 #[.agg #[vt, vb]] w (LnRet w (lnL (pointsP ts l) (pointsP ts l).length)) := by
  go_enter Tryz.func10, Tryz.ntmps10
  go_wp2_with (at_builtin; fail)
  refine (iPointsOf_any vt vb ts l B _ (ht.low (bel_a _ _) hB) (hl.low (bel_a _ _) hB) (by simp; omega) (by omega)).mono ?_
  rintro e w1 ⟨vp, rfl, hps, hb1⟩
  have hb3 := (bel_a w (.cells #[vt, vb] 26)).trans (hb1.mono (by simp))
  have hs3 := hb3.size
  have hpl : (pointsP ts l).length ≤ 98001 := by
    unfold pointsP; split
    · rename_i hv; have := ptsP_le hv; omega
    · simp
  have HPS := Lib.hid hps
  have HB3 := Lib.hid hb3
  obtain ⟨Ap, cp, rfl, hcp, -⟩ := hps.slice
  generalize pointsP ts l = pts at *
  clear hps hb1 hb3 ht hl
  go_wp2_with (at_builtin; fail)
  go_loopw [3, 9] (fun v i wr => ∃ k : Nat, k ≤ pts.length ∧ i = .int .i64 k ∧ OLn wr w1.heap.size v (lnL pts k) ∧ Below w1.heap.size w1 wr) (fun _ i _ => pts.length - (intOf i).toNat)
  case atStart => exact ⟨0, by omega, rfl, OLn.nil _ _, Below.refl _ _⟩
  case round =>
    obtain ⟨k, hk, rfl, hO, hbw⟩ := hrel
    have HO := Lib.hid hO
    have HBW := Lib.hid hbw
    have hsw := hbw.size
    have hll := lnL_len pts k
    obtain ⟨A1, c1, rfl, hc1⟩ := hO.slice
    clear hO
    by_cases hlt : k < pts.length
    · obtain ⟨b, off, c, nv, e, hb, hcc, hl2, hnx, p0, p1, p2, p3, p4⟩ := (HPS.out.low hbw (Nat.le_refl _)).get hlt
      injection e with e1 e9 e2
      subst e1 e2
      clear e9 hbw
      obtain ⟨An, cn, rfl, hcn, hln, -⟩ := hnx
      simp only [List.length_map] at p4 hcn hln
      have HPD : Hid (ptD pts k = pts[k]) := Lib.hid (ptD_get hlt)
      generalize pts[k] = P at *
      have HBA := Lib.hid (HBW.out.alloc hsw (.cells #[.int .i64 P.op, .int .i64 P.x, .int .i64 P.y, .int .i64 P.n, .slice An P.next.length cn] 72))
      have HOA := Lib.hid (HO.out.bel (bel_a wr (.cells #[.int .i64 P.op, .int .i64 P.x, .int .i64 P.y, .int .i64 P.n, .slice An P.next.length cn] 72)))
      have HRA := Lib.hid (heap_alloc_new wr (.cells #[.int .i64 P.op, .int .i64 P.x, .int .i64 P.y, .int .i64 P.n, .slice An P.next.length cn] 72))
      go_wp2_with (at_builtin; fail)
      generalize wr.alloc (.cells #[.int .i64 P.op, .int .i64 P.x, .int .i64 P.y, .int .i64 P.n, .slice An P.next.length cn] 72) = w2 at *
      refine (isLoan_any _ _ _ _ _ _).mono ?_
      rintro e w3 ⟨rfl, hb4⟩
      have HB4 := Lib.hid (HBA.out.trans (hb4.mono HBA.out.size))
      have HO4 := Lib.hid (HOA.out.bel hb4)
      have hr4 := row_below HRA.out hb4
      have x0 : w3.cell? ⟨wr.heap.size, 0, none⟩ = some (.int .i64 P.op) := (cell_of_row _ _ _ _ _ _ hr4).trans rfl
      have x2 : w3.cell? ⟨wr.heap.size, 2, none⟩ = some (.int .i64 P.y) := (cell_of_row _ _ _ _ _ _ hr4).trans rfl
      clear hb4 hr4 p0 p1 p2 p3 p4
      cases hlo : loanB P.op
      · have HNO : Hid (lnL pts (k + 1) = lnL pts k) := Lib.hid (lnL_no (by rw [HPD.out]; exact hlo))
        clear hlo
        go_wp2_with (at_builtin; fail)
        exact ⟨⟨k + 1, by omega, by go_num, by rw [HNO.out]; exact HO4.out, HB4.out⟩, by simp [intOf] <;> omega⟩
      · have HYES : Hid (lnL pts (k + 1) = lnL pts k ++ [⟨k, P.op == 5, P.y⟩]) := Lib.hid (by
          have := lnL_yes (pts := pts) (k := k) (by rw [HPD.out]; exact hlo)
          rwa [HPD.out] at this)
        have hs4 := HB4.out.size
        clear hlo
        go_wp2_with (at_builtin; go_must (refine wpList_push_ln rfl (.tmp 16) (.tmp 24) rfl HO4.out (by omega) (by omega) _ _ _ rfl rfl ?_); intro v' w' hP' hE')
        exact ⟨⟨k + 1, by omega, by go_num, by rw [HYES.out]; exact hP', HB4.out.trans hE'⟩, by simp [intOf] <;> omega⟩
    · have hkl : k = pts.length := by omega
      have HF : Hid (OLn wr w1.heap.size (.slice A1 (lnL pts k).length c1) (lnL pts pts.length)) := Lib.hid (by rw [← hkl]; exact HO.out)
      have hll2 := lnL_len pts pts.length
      clear hkl hbw
      go_wp2_with (at_builtin; fail)
      go_ret
      exact ⟨_, rfl, HF.out.toS (by omega), HB3.out.trans (HBW.out.mono hs3)⟩

end Go.Proofs.YtidlifijgooceaaGreat
