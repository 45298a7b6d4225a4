import Derived.Test.YtfioaohadanjmaaC18
import Derived.Test.YtfioaohadanjmaaC29
import Derived.Test.YtfioaohadanjmaaC11
import Derived.Test.YtfioaohadanjmaaC26
import Derived.Test.YtfioaohadanjmaaC13
set_option linter.unusedVariables false

/- Bounds of regions: rows of them; impl.graph.bounds, spec.l9Bounds. -/
namespace Go.Proofs.Ytfioaohadanjmaa
open Go.RowKit

def bdCells : List Bd → List Value
  | [] => []
  | x :: r => .int .i64 x.v :: .int .i64 x.loan :: .int .i64 x.src :: bdCells r
theorem bdCells_append (a b : List Bd) : bdCells (a ++ b) = bdCells a ++ bdCells b := by
  induction a with
  | nil => rfl
  | cons x r ih => simp [bdCells, ih]
theorem bdCells_at {ls : List Bd} {i : Nat} (hi : i < ls.length) : (bdCells ls)[i * 3]? = some (.int .i64 ls[i].v) ∧ (bdCells ls)[i * 3 + 1]? = some (.int .i64 ls[i].loan) ∧ (bdCells ls)[i * 3 + 2]? = some (.int .i64 ls[i].src) := by
  induction ls generalizing i with
  | nil => simp at hi
  | cons x r ih =>
    cases i with
    | zero => simp [bdCells]
    | succ i =>
      have := ih (i := i) (by simpa using hi)
      simp only [bdCells, show (i + 1) * 3 = i * 3 + 3 by omega, show i * 3 + 3 + 1 = i * 3 + 1 + 3 by omega, show i * 3 + 3 + 2 = i * 3 + 2 + 3 by omega, List.getElem?_cons_succ, List.getElem_cons_succ]
      exact this
def OBd (w : World) (base : Nat) (v : Value) (ls : List Bd) : Prop := w.ownsRow base 148 3 v ls.length (bdCells ls)
theorem OBd.nil (w : World) (base : Nat) : OBd w base (.slice none 0 0) [] := World.ownsRow_nil _ _ _ _
theorem OBd.empty (w : World) (base : Nat) (hb : base ≤ w.heap.size) : OBd (w.alloc (.cells #[] 148)) base (.slice (some ⟨w.heap.size, 0, none⟩) 0 0) [] :=
  World.ownsRow_lit (base := base) (e := 148) (size := 3) w #[] 0 hb (by simp [maxLen]) rfl
theorem OBd.slice {w : World} {base : Nat} {v : Value} {l : List Bd} (h : OBd w base v l) : ∃ A c, v = .slice A l.length c ∧ l.length ≤ c := by
  rcases h.2 with ⟨rfl, h0⟩ | ⟨g, cap, cur, rfl, _, _, hc, _⟩
  · exact ⟨none, 0, by rw [h0], by omega⟩
  · exact ⟨_, cap, rfl, hc⟩
theorem OBd.bel {w w' : World} {base : Nat} {v : Value} {l : List Bd} (h : OBd w base v l) (hb : Below w.heap.size w w') : OBd w' base v l :=
  World.ownsRow.kept h (grown_bel hb (Nat.le_refl _) none) (by cases v.ownBlock <;> simp)
/-- the slice v reads as the bounds ls, its block meets P -/
def BdX (w : World) (P : Nat → Prop) (v : Value) (ls : List Bd) : Prop :=
  ∃ A c, v = .slice A ls.length c ∧ ls.length ≤ c ∧ ls.length ≤ 100000 ∧ (0 < ls.length → ∃ b off, A = some ⟨b, off, none⟩ ∧ P b ∧ b < w.heap.size ∧ ∀ i (h : i < ls.length),
    w.cell? ⟨b, off + i * 3, none⟩ = some (.int .i64 ls[i].v) ∧ w.cell? ⟨b, off + i * 3 + 1, none⟩ = some (.int .i64 ls[i].loan) ∧ w.cell? ⟨b, off + i * 3 + 2, none⟩ = some (.int .i64 ls[i].src))
theorem BdX.frame {w w' : World} {P P' : Nat → Prop} {v : Value} {l : List Bd} (h : BdX w P v l) (hs : w.heap.size ≤ w'.heap.size) (hk : ∀ b, P b → b < w.heap.size → P' b ∧ w'.heap[b]? = w.heap[b]?) : BdX w' P' v l := by
  obtain ⟨A, c, e, h1, h2, h3⟩ := h
  refine ⟨A, c, e, h1, h2, fun hn => ?_⟩
  obtain ⟨b, off, e, hP, hlt, hc⟩ := h3 hn
  have hk' := hk b hP hlt
  have k : ∀ o, w'.cell? ⟨b, o, none⟩ = w.cell? ⟨b, o, none⟩ := fun o => World.cell?_of_block (w := w) (a := ⟨b, o, none⟩) hk'.2
  exact ⟨b, off, e, hk'.1, by omega, fun i hi => by simp only [k]; exact hc i hi⟩
theorem BdX.bel {w w' : World} {P : Nat → Prop} {v : Value} {l : List Bd} (h : BdX w P v l) (hb : Below w.heap.size w w') : BdX w' P v l := h.frame hb.size fun b hp hl => ⟨hp, hb.block b hl⟩
theorem BdX.onl {S : Nat → Prop} {w w' : World} {P : Nat → Prop} {v : Value} {l : List Bd} (h : BdX w P v l) (hb : Onl S w w') (hP : ∀ b, P b → ¬ S b) : BdX w' P v l := h.frame hb.size fun b hp hl => ⟨hp, hb.block b hl (hP b hp)⟩
theorem BdX.slice {w : World} {P : Nat → Prop} {v : Value} {l : List Bd} (h : BdX w P v l) : ∃ A c, v = .slice A l.length c ∧ l.length ≤ c := by
  obtain ⟨A, c, e, h1, _⟩ := h
  exact ⟨A, c, e, h1⟩
theorem BdX.get {w : World} {P : Nat → Prop} {n c : Nat} {A : Option Addr} {l : List Bd} (h : BdX w P (.slice A n c) l) {i : Nat} (hi : i < l.length) : ∃ b off, A = some ⟨b, off, none⟩ ∧ P b ∧ b < w.heap.size ∧
    w.cell? ⟨b, off + i * 3, none⟩ = some (.int .i64 l[i].v) ∧ w.cell? ⟨b, off + i * 3 + 1, none⟩ = some (.int .i64 l[i].loan) ∧ w.cell? ⟨b, off + i * 3 + 2, none⟩ = some (.int .i64 l[i].src) := by
  obtain ⟨A', c', e, h1, h2, h3⟩ := h
  injection e with e1 _ _
  subst e1
  obtain ⟨b, off, e, hP, hb, hc⟩ := h3 (by omega)
  exact ⟨b, off, e, hP, hb, hc i hi⟩
theorem OBd.toX {w : World} {base : Nat} {v : Value} {l : List Bd} (h : OBd w base v l) (hl : l.length ≤ 100000) : BdX w (fun b => base ≤ b) v l := by
  obtain ⟨A, c, rfl, hc⟩ := h.slice
  refine ⟨A, c, rfl, hc, hl, fun hn => ?_⟩
  obtain ⟨g, cap, e, hb, hlt⟩ := World.ownsRow.form h hn
  injection e with e1 _ e2
  subst e1 e2
  refine ⟨g, 0, rfl, hb, hlt, fun i hi => ?_⟩
  obtain ⟨a0, a1, a2⟩ := bdCells_at hi
  simp only [Nat.zero_add]
  exact ⟨(World.ownsRow.cellAt h _ (by omega)).trans a0, (World.ownsRow.cellAt h _ (by omega)).trans a1, (World.ownsRow.cellAt h _ (by omega)).trans a2⟩
theorem Try.infoBd : (Try.prog.info? 148).map (fun i => (i.zero, i.size, i.bytes)) = some (some (.agg #[.int .i64 0, .int .i64 0, .int .i64 0]), 3, 24) := by kernel_rfl
/-- append(out, Bound{..}) -/
theorem wpList_push_bd {ops : Array Oper} {rest : List Oper} {o : Oper} {a : Act} {Q : Exit → Act → World → Prop} {w : World} {base : Nat} {vo : Value} {ls : List Bd} (hgd : o.guard = none) (s x : Operand)
    (ho : o.op = .call { callee := .builtin .append, args := #[s, x], argTypes := #[145, 145] })
    (hP : OBd w base vo ls) (hb : base ≤ w.heap.size) (hn : ls.length + 1 ≤ 100000) (p u y : Int) (hs : a.eval s = vo) (hx : a.eval x = .slice (some ⟨w.heap.size, 0, none⟩) 1 1)
    (h : ∀ (v' : Value) (w' : World), OBd w' base v' (ls ++ [⟨p, u, y⟩]) → Below base w w' → (∀ (b : Nat) (cs : Array Value) (T : TypeId), w.heap[b]? = some (Obj.cells cs T (0, 0)) → T ≠ 148 → w'.heap[b]? = some (Obj.cells cs T (0, 0))) → wpList Try.prog ops Q rest (a.put o.dst v') w') :
    wpList Try.prog ops Q (o :: rest) a (w.alloc (.cells #[.int .i64 p, .int .i64 u, .int .i64 y] 148)) := by
  obtain ⟨i0, hi0, hz0, hz1, hz2⟩ := info_parts Try.infoBd
  have hown := World.ownsRow.alloc hP (.cells #[.int .i64 p, .int .i64 u, .int .i64 y] 148)
  refine wpList_append_own_at _ hgd s x 145 ho base 148 i0 _ 3 24 Try.underlying145 hi0 hz0 hz1 hz2 rfl (by omega) vo ls.length _ hs hown ⟨w.heap.size, 0, none⟩ 1 1 [.int .i64 p, .int .i64 u, .int .i64 y] hx rfl ?_ ?_ (by simp only [maxLen]; omega) (by omega) (by simp; omega) ?_
  · intro j u' hu
    have : (w.alloc (.cells #[.int .i64 p, .int .i64 u, .int .i64 y] 148)).cell? ⟨w.heap.size, j, none⟩ = some u' := by
      rw [cell_of_row _ _ _ _ _ _ (heap_alloc_new w _)]
      simpa using hu
    unfold Addr.add
    by_cases hj : j = 0
    · subst hj; simpa using this
    · simpa [hj] using this
  · intro u' hu
    simp at hu
    rcases hu with rfl | rfl | rfl <;> rfl
  · intro v' w' k1 k2 k3 k4
    refine h v' w' ?_ ((((bel_a w _).mono hb)).trans ((Evo.grown (T := 148) hown k2).below (by simp; omega))) fun b cs T hr hT => ?_
    · unfold OBd
      rw [bdCells_append]
      simpa [bdCells] using k1
    · have hr2 := row_below hr (bel_a w (.cells #[.int .i64 p, .int .i64 u, .int .i64 y] 148))
      refine (k2.block b ?_ fun e => ?_).trans hr2
      · rcases Nat.lt_or_ge b (w.alloc (.cells #[.int .i64 p, .int .i64 u, .int .i64 y] 148)).heap.size with h' | h'
        · exact h'
        · rw [Array.getElem?_eq_none h'] at hr2; cases hr2
      · rcases hown.2 with ⟨rfl, _⟩ | ⟨g, cap, cur, rfl, _, hh, _⟩
        · cases e
        · injection e with e
          have e' : b = g := e
          subst e'
          rw [hr2] at hh
          injection hh with hh
          injection hh with _ hT'
          exact hT hT'
def BdRet (w : World) (bs : List Bd) (e : Ending) (w' : World) : Prop := ∃ v, e = .returned v ∧ BdX w' (fun b => w.heap.size ≤ b) v bs ∧ Below w.heap.size w w'
theorem bdsPt_no {ts : List Int} {i : Nat} {p : Pt} (h : lonB p = false) (h2 : (p.op == 3) = false) : bdsPt ts i p = [] := by unfold bdsPt; rw [h, h2]; rfl
theorem bdsPt_mv {ts : List Int} {i : Nat} {p : Pt} (h : lonB p = false) (h2 : (p.op == 3) = true) (r : Bool) (hr : isRefP (typeOfP ts p.y) = r) : bdsPt ts i p = if r then [⟨p.x, -1, p.y⟩] else [] := by unfold bdsPt; rw [h, h2, hr]; rfl
theorem bdsPt_ln {ts : List Int} {i : Nat} {p : Pt} (h : lonB p = true) (r : Bool) (hr : isRefP (typeOfP ts p.y) = r) : bdsPt ts i p = [⟨p.x, (i : Nat), -1⟩] ++ if r then [⟨p.x, -1, p.y⟩] else [] := by unfold bdsPt; rw [h, hr]; rfl

set_option maxHeartbeats 4000000 in
set_option maxRecDepth 100000 in
theorem bounds_any (vg : Value) (ts : List Int) (pts : List Pt) (B : Nat) (w : World) (hg : GrS w B vg ts pts) (hB : B ≤ w.heap.size) (gd : Good ts pts) :
    Calls Try.prog 105 #[vg] w (BdRet w (bds ts pts)) := by
  have GD := Lib.hid gd
  have hpl := gd.len
  have HNIL : Hid (bdsL ts 0 (pts.take 0) = []) := Lib.hid rfl
  have HALL : Hid (bdsL ts 0 (pts.take pts.length) = bds ts pts) := Lib.hid (by rw [List.take_length]; rfl)
  clear gd
  obtain ⟨g, At, ct, vb, Al, cl, rfl, hgB, g0, g1, g2, ht, hp, htl, hpl'⟩ := hg.open_
  have HT := Lib.hid ht
  have HPS := Lib.hid hp
  have hgw : g < w.heap.size := by omega
  clear ht hp
  go_enter Try.func105, Try.ntmps105
  go_wp2_with (at_builtin; fail)
  go_loopw [3, 11] (fun v i wr => ∃ k : Nat, k ≤ pts.length ∧ i = .int .i64 k ∧ OBd wr w.heap.size v (bdsL ts 0 (pts.take k)) ∧ Below w.heap.size w wr) (fun _ i _ => pts.length - (intOf i).toNat)
  case atStart => exact ⟨0, by omega, rfl, by rw [HNIL.out]; exact OBd.nil _ _, Below.refl _ _⟩
  case round =>
    obtain ⟨k, hk, rfl, hO, hbw⟩ := hrel
    have HO := Lib.hid hO
    have HBW := Lib.hid hbw
    have hsw := hbw.size
    have hll := bdsL_len ts 0 (pts.take k)
    rw [List.length_take, Nat.min_eq_left hk] at hll
    obtain ⟨A1, c1, rfl, hc1⟩ := hO.slice
    clear hO
    by_cases hlt : k < pts.length
    · obtain ⟨b, off, c, nv, e, hb, hcc, hl2, hnx, p0, p1, p2, p3, p4⟩ := (HPS.out.low hbw hB).get hlt
      injection e with e1 e9 e2
      subst e1 e2
      clear e9 hbw
      obtain ⟨An, cn, rfl, hcn, hln, -⟩ := hnx
      simp only [List.length_map] at p4 hcn hln
      have HSC := Lib.hid (bdsL_take_succ ts pts k hlt)
      have HY := Lib.hid (fun ho => GD.out.y (List.getElem?_eq_getElem hlt) ho)
      generalize pts[k] = P at *
      have HBA := Lib.hid (HBW.out.alloc hsw (.cells #[.int .i64 P.op, .int .i64 P.x, .int .i64 P.y, .int .i64 P.n, .slice An P.next.length cn] 62))
      have HOA := Lib.hid (HO.out.bel (bel_a wr (.cells #[.int .i64 P.op, .int .i64 P.x, .int .i64 P.y, .int .i64 P.n, .slice An P.next.length cn] 62)))
      have HRA := Lib.hid (heap_alloc_new wr (.cells #[.int .i64 P.op, .int .i64 P.x, .int .i64 P.y, .int .i64 P.n, .slice An P.next.length cn] 62))
      have hsA : (wr.alloc (.cells #[.int .i64 P.op, .int .i64 P.x, .int .i64 P.y, .int .i64 P.n, .slice An P.next.length cn] 62)).heap.size = wr.heap.size + 1 := by simp
      go_wp2_with (at_builtin; fail)
      generalize wr.alloc (.cells #[.int .i64 P.op, .int .i64 P.x, .int .i64 P.y, .int .i64 P.n, .slice An P.next.length cn] 62) = w2 at *
      refine (isLoan_any _ _ _ _ _ _).mono ?_
      rintro e w3 ⟨rfl, hb4⟩
      have HB4 := Lib.hid (HBA.out.trans (hb4.mono HBA.out.size))
      have HO4 := Lib.hid (HOA.out.bel hb4)
      have hr4 := row_below HRA.out hb4
      have hs4 := HB4.out.size
      have hs4b := hb4.size
      have HHR := Lib.hid hr4
      have x1 : w3.cell? ⟨wr.heap.size, 1, none⟩ = some (.int .i64 P.x) := (cell_of_row _ _ _ _ _ _ hr4).trans rfl
      clear hb4 hr4 p0 p1 p2 p3 p4 HO HBA HOA HRA
      have hlon : loanB P.op = lonB P := rfl
      cases hlo : lonB P
      · have HLO := Lib.hid hlo
        rw [hlon, hlo]
        clear hlon hlo
        go_upto_region 7 with (at_builtin; fail)
        by_cases hop : P.op = 3
        · have HOP := Lib.hid hop
          have hy := HY.out (by omega)
          have hbxl : wr.heap.size < w3.heap.size := row_lt HHR.out
          have y0 : w3.cell? ⟨wr.heap.size, 0, none⟩ = some (.int .i64 P.op) := (cell_of_row _ _ _ _ _ _ HHR.out).trans rfl
          have y1 : w3.cell? ⟨wr.heap.size, 1, none⟩ = some (.int .i64 P.x) := (cell_of_row _ _ _ _ _ _ HHR.out).trans rfl
          have y2 : w3.cell? ⟨wr.heap.size, 2, none⟩ = some (.int .i64 P.y) := (cell_of_row _ _ _ _ _ _ HHR.out).trans rfl
          have y3 : w3.cell? ⟨wr.heap.size, 3, none⟩ = some (.int .i64 P.n) := (cell_of_row _ _ _ _ _ _ HHR.out).trans rfl
          have y4 : w3.cell? ⟨wr.heap.size, 4, none⟩ = some (.slice An P.next.length cn) := (cell_of_row _ _ _ _ _ _ HHR.out).trans rfl
          obtain ⟨bt, ot, ct', et, hbt, -, -, htc⟩ := (HT.out.low HB4.out hB).get (i := P.y) hy.1 hy.2
          injection et with et1 et2 et3
          subst et1 et3
          clear et2
          have z0 := (HB4.out.cell (p := ⟨g, 0, none⟩) hgw).trans g0
          have hgW : g < w3.heap.size := by have := HB4.out.size; omega
          have hbtW : bt < w3.heap.size := by have := HB4.out.size; omega
          obtain ⟨y, hyn⟩ : ∃ y : Nat, P.y = y := ⟨P.y.toNat, by omega⟩
          rw [hyn, Int.toNat_natCast] at htc
          rw [hyn] at y2
          have hyl : y < ts.length := by omega
          have HYN := Lib.hid hyn
          have hp3 : (P.op == 3) = true := by simpa using hop
          clear hop x1
          cases hrf : isRefP (typeOfP ts (y : Nat))
          · have HRF := Lib.hid hrf
            have HIL : Hid (∀ wq, Below w3.heap.size w3 wq → Calls Try.prog 116 #[.agg #[.int .i64 P.op, .int .i64 P.x, .int .i64 (y : Nat), .int .i64 P.n, .slice An P.next.length cn]] wq fun e w'' => e = .returned (.bool false) ∧ Below w3.heap.size w3 w'') := Lib.hid fun w' hS => (isLoan_any _ _ _ _ _ _).mono fun e w'' ⟨h1, h2⟩ => ⟨by rw [h1]; exact congrArg (fun b => Ending.returned (.bool b)) HLO.out, hS.trans (h2.mono hS.size)⟩
            have HIR : Hid (∀ wq, Below w3.heap.size w3 wq → Calls Try.prog 117 #[.int .i64 (typeOfP ts (y : Nat))] wq fun e w'' => e = .returned (.bool false) ∧ Below w3.heap.size w3 w'') := Lib.hid fun w' hS => (isRef_any _ _).mono fun e w'' ⟨h1, h2⟩ => ⟨by rw [h1]; exact congrArg (fun b => Ending.returned (.bool b)) HRF.out, by rw [← h2]; exact hS⟩
            have HSU := Lib.hid (show bdsL ts 0 (pts.take (k + 1)) = bdsL ts 0 (pts.take k) from by rw [HSC.out, bdsPt_mv HLO.out hp3 false (by rw [HYN.out]; exact HRF.out)]; simp)
            have tok : True := trivial
            clear hrf hyn
            refine wp_region_seq (Below w3.heap.size w3) (by kernel_rfl) (by kernel_rfl) (Below.refl _ _).drew ?_
            repeat (first
              | (refine SeqS.skip (by rfl) ?_; (try simp only [Act.put, List.setIfInBounds_toArray, List.set_cons_zero, List.set_cons_succ]))
              | (refine SeqS.pure (v := ?_) (by rfl) (fun w' hSw => ?_) ?_; rotate_left; (obtain ⟨hc9, hf9⟩ := bcell hSw; go_simp; with_reducible rfl); (try simp only [Act.put, List.setIfInBounds_toArray, List.set_cons_zero, List.set_cons_succ]))
              | (refine SeqS.call (f := ?_) (args := ?_) (v := ?_) (by rfl) (fun w' => ?_) (fun w' hSw => ?_) ?_; rotate_left 3; (go_simp; constructor; (with_reducible rfl); (with_reducible rfl)); (first | exact HIL.out _ hSw | exact HIR.out _ hSw | fail); (try simp only [Act.put, List.setIfInBounds_toArray, List.set_cons_zero, List.set_cons_succ]))
              | fail)
            intro w7 hb7
            go_wp2_with (at_builtin; fail)
            exact ⟨⟨k + 1, by omega, by go_num, by rw [HSU.out]; exact HO4.out.bel hb7, HB4.out.trans (hb7.mono HB4.out.size)⟩, by simp [intOf] <;> omega⟩
          · have HRF := Lib.hid hrf
            have HIL : Hid (∀ wq, Below w3.heap.size w3 wq → Calls Try.prog 116 #[.agg #[.int .i64 P.op, .int .i64 P.x, .int .i64 (y : Nat), .int .i64 P.n, .slice An P.next.length cn]] wq fun e w'' => e = .returned (.bool false) ∧ Below w3.heap.size w3 w'') := Lib.hid fun w' hS => (isLoan_any _ _ _ _ _ _).mono fun e w'' ⟨h1, h2⟩ => ⟨by rw [h1]; exact congrArg (fun b => Ending.returned (.bool b)) HLO.out, hS.trans (h2.mono hS.size)⟩
            have HIR : Hid (∀ wq, Below w3.heap.size w3 wq → Calls Try.prog 117 #[.int .i64 (typeOfP ts (y : Nat))] wq fun e w'' => e = .returned (.bool true) ∧ Below w3.heap.size w3 w'') := Lib.hid fun w' hS => (isRef_any _ _).mono fun e w'' ⟨h1, h2⟩ => ⟨by rw [h1]; exact congrArg (fun b => Ending.returned (.bool b)) HRF.out, by rw [← h2]; exact hS⟩
            have HSU := Lib.hid (show bdsL ts 0 (pts.take (k + 1)) = bdsL ts 0 (pts.take k) ++ [⟨P.x, -1, (y : Nat)⟩] from by rw [HSC.out, bdsPt_mv HLO.out hp3 true (by rw [HYN.out]; exact HRF.out)]; simp [HYN.out])
            have tok : True := trivial
            clear hrf hyn
            refine wp_region_seq (Below w3.heap.size w3) (by kernel_rfl) (by kernel_rfl) (Below.refl _ _).drew ?_
            repeat (first
              | (refine SeqS.skip (by rfl) ?_; (try simp only [Act.put, List.setIfInBounds_toArray, List.set_cons_zero, List.set_cons_succ]))
              | (refine SeqS.pure (v := ?_) (by rfl) (fun w' hSw => ?_) ?_; rotate_left; (obtain ⟨hc9, hf9⟩ := bcell hSw; go_simp; with_reducible rfl); (try simp only [Act.put, List.setIfInBounds_toArray, List.set_cons_zero, List.set_cons_succ]))
              | (refine SeqS.call (f := ?_) (args := ?_) (v := ?_) (by rfl) (fun w' => ?_) (fun w' hSw => ?_) ?_; rotate_left 3; (go_simp; constructor; (with_reducible rfl); (with_reducible rfl)); (first | exact HIL.out _ hSw | exact HIR.out _ hSw | fail); (try simp only [Act.put, List.setIfInBounds_toArray, List.set_cons_zero, List.set_cons_succ]))
              | fail)
            intro w7 hb7
            have HO7 := Lib.hid (HO4.out.bel hb7)
            have HB7 := Lib.hid (HB4.out.trans (hb7.mono HB4.out.size))
            have hs7 := HB7.out.size
            have x1 := (hb7.cell (p := ⟨wr.heap.size, 1, none⟩) hbxl).trans y1
            have x2 := (hb7.cell (p := ⟨wr.heap.size, 2, none⟩) hbxl).trans y2
            clear hb7 y0 y1 y2
            go_wp2_with (at_builtin; go_must (refine wpList_push_bd rfl (.tmp 44) (.tmp 50) rfl HO7.out (by omega) (by omega) _ _ _ rfl rfl ?_); intro v' w' hP' hE' hK')
            exact ⟨⟨k + 1, by omega, by go_num, by rw [HSU.out]; exact hP', HB7.out.trans hE'⟩, by simp [intOf] <;> omega⟩
        · have hbxl : wr.heap.size < w3.heap.size := row_lt HHR.out
          have y0 : w3.cell? ⟨wr.heap.size, 0, none⟩ = some (.int .i64 P.op) := (cell_of_row _ _ _ _ _ _ HHR.out).trans rfl
          have y1 : w3.cell? ⟨wr.heap.size, 1, none⟩ = some (.int .i64 P.x) := (cell_of_row _ _ _ _ _ _ HHR.out).trans rfl
          have y2 : w3.cell? ⟨wr.heap.size, 2, none⟩ = some (.int .i64 P.y) := (cell_of_row _ _ _ _ _ _ HHR.out).trans rfl
          have y3 : w3.cell? ⟨wr.heap.size, 3, none⟩ = some (.int .i64 P.n) := (cell_of_row _ _ _ _ _ _ HHR.out).trans rfl
          have y4 : w3.cell? ⟨wr.heap.size, 4, none⟩ = some (.slice An P.next.length cn) := (cell_of_row _ _ _ _ _ _ HHR.out).trans rfl
          have hp3 : (P.op == 3) = false := by simpa using hop
          clear hop x1
          have HIL : Hid (∀ wq, Below w3.heap.size w3 wq → Calls Try.prog 116 #[.agg #[.int .i64 P.op, .int .i64 P.x, .int .i64 P.y, .int .i64 P.n, .slice An P.next.length cn]] wq fun e w'' => e = .returned (.bool false) ∧ Below w3.heap.size w3 w'') := Lib.hid fun w' hS => (isLoan_any _ _ _ _ _ _).mono fun e w'' ⟨h1, h2⟩ => ⟨by rw [h1]; exact congrArg (fun b => Ending.returned (.bool b)) HLO.out, hS.trans (h2.mono hS.size)⟩
          have HSU := Lib.hid (show bdsL ts 0 (pts.take (k + 1)) = bdsL ts 0 (pts.take k) from by rw [HSC.out, bdsPt_no HLO.out hp3, List.append_nil])
          have tok : True := trivial
          refine wp_region_seq (Below w3.heap.size w3) (by kernel_rfl) (by kernel_rfl) (Below.refl _ _).drew ?_
          repeat (first
            | (refine SeqS.skip (by rfl) ?_; (try simp only [Act.put, List.setIfInBounds_toArray, List.set_cons_zero, List.set_cons_succ]))
            | (refine SeqS.pure (v := ?_) (by rfl) (fun w' hSw => ?_) ?_; rotate_left; (obtain ⟨hc9, hf9⟩ := bcell hSw; go_simp; with_reducible rfl); (try simp only [Act.put, List.setIfInBounds_toArray, List.set_cons_zero, List.set_cons_succ]))
            | (refine SeqS.call (f := ?_) (args := ?_) (v := ?_) (by rfl) (fun w' => ?_) (fun w' hSw => ?_) ?_; rotate_left 3; (go_simp; constructor; (with_reducible rfl); (with_reducible rfl)); (first | exact HIL.out _ hSw | fail); (try simp only [Act.put, List.setIfInBounds_toArray, List.set_cons_zero, List.set_cons_succ]))
            | fail)
          intro w7 hb7
          go_wp2_with (at_builtin; fail)
          exact ⟨⟨k + 1, by omega, by go_num, by rw [HSU.out]; exact HO4.out.bel hb7, HB4.out.trans (hb7.mono HB4.out.size)⟩, by simp [intOf] <;> omega⟩
      · have HLO := Lib.hid hlo
        rw [hlon, hlo]
        have hy := HY.out (by rcases lonB_iff.1 hlo with h | h <;> omega)
        have hp0 : (bdsL ts 0 (pts.take k) ++ [(⟨P.x, (k : Nat), -1⟩ : Bd)]).length ≤ 2 * k + 1 := by rw [List.length_append]; simp; omega
        clear hlon hlo
        go_upto_region 7 with (at_builtin; go_must (refine wpList_push_bd rfl (.tmp 18) (.tmp 23) rfl HO4.out (by omega) (by omega) _ _ _ rfl rfl ?_); intro v' w' hP' hE' hK')
        have hr5 := hK' _ _ _ HHR.out (by decide)
        have HR5 := Lib.hid hr5
        have HO5 := Lib.hid hP'
        have HB5 := Lib.hid (HB4.out.trans hE')
        have hs5 := hr5
        obtain ⟨A2, c2, rfl, hc2⟩ := hP'.slice
        have hq1e : (bdsL ts 0 (pts.take k) ++ [(⟨P.x, (k : Nat), -1⟩ : Bd)]) = (bdsL ts 0 (pts.take k) ++ [(⟨P.x, (k : Nat), -1⟩ : Bd)]) := rfl
        generalize hq1 : (bdsL ts 0 (pts.take k) ++ [(⟨P.x, (k : Nat), -1⟩ : Bd)]) = q1 at *
        clear hq1e
        have hq1e := hq1
        clear hq1
        clear hP' hE' hK' hs5 x1 HO4 HHR
        have hbxl : wr.heap.size < w'.heap.size := row_lt HR5.out
        have y0 : w'.cell? ⟨wr.heap.size, 0, none⟩ = some (.int .i64 P.op) := (cell_of_row _ _ _ _ _ _ HR5.out).trans rfl
        have y1 : w'.cell? ⟨wr.heap.size, 1, none⟩ = some (.int .i64 P.x) := (cell_of_row _ _ _ _ _ _ HR5.out).trans rfl
        have y2 : w'.cell? ⟨wr.heap.size, 2, none⟩ = some (.int .i64 P.y) := (cell_of_row _ _ _ _ _ _ HR5.out).trans rfl
        have y3 : w'.cell? ⟨wr.heap.size, 3, none⟩ = some (.int .i64 P.n) := (cell_of_row _ _ _ _ _ _ HR5.out).trans rfl
        have y4 : w'.cell? ⟨wr.heap.size, 4, none⟩ = some (.slice An P.next.length cn) := (cell_of_row _ _ _ _ _ _ HR5.out).trans rfl
        obtain ⟨bt, ot, ct', et, hbt, -, -, htc⟩ := (HT.out.low HB5.out hB).get (i := P.y) hy.1 hy.2
        injection et with et1 et2 et3
        subst et1 et3
        clear et2
        have z0 := (HB5.out.cell (p := ⟨g, 0, none⟩) hgw).trans g0
        have hgW : g < w'.heap.size := by have := HB5.out.size; omega
        have hbtW : bt < w'.heap.size := by have := HB5.out.size; omega
        obtain ⟨y, hyn⟩ : ∃ y : Nat, P.y = y := ⟨P.y.toNat, by omega⟩
        rw [hyn, Int.toNat_natCast] at htc
        rw [hyn] at y2
        have hyl : y < ts.length := by omega
        have HYN := Lib.hid hyn
        have HQ := Lib.hid hq1e
        clear hq1e
        cases hrf : isRefP (typeOfP ts (y : Nat))
        · have HRF := Lib.hid hrf
          have HIL : Hid (∀ wq, Below w'.heap.size w' wq → Calls Try.prog 116 #[.agg #[.int .i64 P.op, .int .i64 P.x, .int .i64 (y : Nat), .int .i64 P.n, .slice An P.next.length cn]] wq fun e w'' => e = .returned (.bool true) ∧ Below w'.heap.size w' w'') := Lib.hid fun w' hS => (isLoan_any _ _ _ _ _ _).mono fun e w'' ⟨h1, h2⟩ => ⟨by rw [h1]; exact congrArg (fun b => Ending.returned (.bool b)) HLO.out, hS.trans (h2.mono hS.size)⟩
          have HIR : Hid (∀ wq, Below w'.heap.size w' wq → Calls Try.prog 117 #[.int .i64 (typeOfP ts (y : Nat))] wq fun e w'' => e = .returned (.bool false) ∧ Below w'.heap.size w' w'') := Lib.hid fun w' hS => (isRef_any _ _).mono fun e w'' ⟨h1, h2⟩ => ⟨by rw [h1]; exact congrArg (fun b => Ending.returned (.bool b)) HRF.out, by rw [← h2]; exact hS⟩
          have HSU := Lib.hid (show bdsL ts 0 (pts.take (k + 1)) = q1 from by rw [HSC.out, bdsPt_ln HLO.out false (by rw [HYN.out]; exact HRF.out), ← List.append_assoc, HQ.out]; simp)
          have tok : True := trivial
          clear hrf hyn
          refine wp_region_seq (Below w'.heap.size w') (by kernel_rfl) (by kernel_rfl) (Below.refl _ _).drew ?_
          repeat (first
            | (refine SeqS.skip (by rfl) ?_; (try simp only [Act.put, List.setIfInBounds_toArray, List.set_cons_zero, List.set_cons_succ]))
            | (refine SeqS.pure (v := ?_) (by rfl) (fun w' hSw => ?_) ?_; rotate_left; (obtain ⟨hc9, hf9⟩ := bcell hSw; go_simp; with_reducible rfl); (try simp only [Act.put, List.setIfInBounds_toArray, List.set_cons_zero, List.set_cons_succ]))
            | (refine SeqS.call (f := ?_) (args := ?_) (v := ?_) (by rfl) (fun w' => ?_) (fun w' hSw => ?_) ?_; rotate_left 3; (go_simp; constructor; (with_reducible rfl); (with_reducible rfl)); (first | exact HIL.out _ hSw | exact HIR.out _ hSw | fail); (try simp only [Act.put, List.setIfInBounds_toArray, List.set_cons_zero, List.set_cons_succ]))
            | fail)
          intro w7 hb7
          go_wp2_with (at_builtin; fail)
          exact ⟨⟨k + 1, by omega, by go_num, by rw [HSU.out]; exact HO5.out.bel hb7, HB5.out.trans (hb7.mono HB5.out.size)⟩, by simp [intOf] <;> omega⟩
        · have HRF := Lib.hid hrf
          have HIL : Hid (∀ wq, Below w'.heap.size w' wq → Calls Try.prog 116 #[.agg #[.int .i64 P.op, .int .i64 P.x, .int .i64 (y : Nat), .int .i64 P.n, .slice An P.next.length cn]] wq fun e w'' => e = .returned (.bool true) ∧ Below w'.heap.size w' w'') := Lib.hid fun w' hS => (isLoan_any _ _ _ _ _ _).mono fun e w'' ⟨h1, h2⟩ => ⟨by rw [h1]; exact congrArg (fun b => Ending.returned (.bool b)) HLO.out, hS.trans (h2.mono hS.size)⟩
          have HIR : Hid (∀ wq, Below w'.heap.size w' wq → Calls Try.prog 117 #[.int .i64 (typeOfP ts (y : Nat))] wq fun e w'' => e = .returned (.bool true) ∧ Below w'.heap.size w' w'') := Lib.hid fun w' hS => (isRef_any _ _).mono fun e w'' ⟨h1, h2⟩ => ⟨by rw [h1]; exact congrArg (fun b => Ending.returned (.bool b)) HRF.out, by rw [← h2]; exact hS⟩
          have HSU := Lib.hid (show bdsL ts 0 (pts.take (k + 1)) = q1 ++ [⟨P.x, -1, (y : Nat)⟩] from by rw [HSC.out, bdsPt_ln HLO.out true (by rw [HYN.out]; exact HRF.out), ← List.append_assoc, HQ.out]; simp [HYN.out])
          have tok : True := trivial
          clear hrf hyn
          refine wp_region_seq (Below w'.heap.size w') (by kernel_rfl) (by kernel_rfl) (Below.refl _ _).drew ?_
          repeat (first
            | (refine SeqS.skip (by rfl) ?_; (try simp only [Act.put, List.setIfInBounds_toArray, List.set_cons_zero, List.set_cons_succ]))
            | (refine SeqS.pure (v := ?_) (by rfl) (fun w' hSw => ?_) ?_; rotate_left; (obtain ⟨hc9, hf9⟩ := bcell hSw; go_simp; with_reducible rfl); (try simp only [Act.put, List.setIfInBounds_toArray, List.set_cons_zero, List.set_cons_succ]))
            | (refine SeqS.call (f := ?_) (args := ?_) (v := ?_) (by rfl) (fun w' => ?_) (fun w' hSw => ?_) ?_; rotate_left 3; (go_simp; constructor; (with_reducible rfl); (with_reducible rfl)); (first | exact HIL.out _ hSw | exact HIR.out _ hSw | fail); (try simp only [Act.put, List.setIfInBounds_toArray, List.set_cons_zero, List.set_cons_succ]))
            | fail)
          intro w7 hb7
          have HO7 := Lib.hid (HO5.out.bel hb7)
          have HB7 := Lib.hid (HB5.out.trans (hb7.mono HB5.out.size))
          have hs7 := HB7.out.size
          have x1 := (hb7.cell (p := ⟨wr.heap.size, 1, none⟩) hbxl).trans y1
          have x2 := (hb7.cell (p := ⟨wr.heap.size, 2, none⟩) hbxl).trans y2
          clear hb7 y0 y1 y2
          go_wp2_with (at_builtin; go_must (refine wpList_push_bd rfl (.tmp 44) (.tmp 50) rfl HO7.out (by omega) (by omega) _ _ _ rfl rfl ?_); intro v' w' hP' hE' hK')
          exact ⟨⟨k + 1, by omega, by go_num, by rw [HSU.out]; exact hP', HB7.out.trans hE'⟩, by simp [intOf] <;> omega⟩
    · have hkl : k = pts.length := by omega
      have HF : Hid (OBd wr w.heap.size (.slice A1 (bdsL ts 0 (pts.take k)).length c1) (bds ts pts)) := Lib.hid (by rw [← HALL.out, ← hkl]; exact HO.out)
      have hl3 : (bds ts pts).length ≤ 2 * pts.length := bdsL_len ts 0 pts
      clear hkl hbw
      go_wp2_with (at_builtin; fail)
      go_ret
      exact ⟨_, rfl, HF.out.toX (by omega), HBW.out⟩

end Go.Proofs.Ytfioaohadanjmaa

/- Bounds of regions: spec.l9Bounds. -/
namespace Go.Proofs.Ytfioaohadanjmaa
open Go.RowKit

def OutB (w0 w : World) (base : Nat) (v : Value) (l : List Bd) : Prop := Out w0 w base 148 3 v l.length (bdCells l)
theorem wpList_push_outB {ops : Array Oper} {rest : List Oper} {o : Oper} {a : Act} {Q : Exit → Act → World → Prop} {w0 w : World} {base : Nat} {vo : Value} {ls : List Bd} (hgd : o.guard = none) (s x : Operand)
    (ho : o.op = .call { callee := .builtin .append, args := #[s, x], argTypes := #[145, 145] })
    (hP : OutB w0 w base vo ls) (hn : ls.length ≤ 100000) (p u y : Int) (hs : a.eval s = vo) (hx : a.eval x = .slice (some ⟨w.heap.size, 0, none⟩) 1 1)
    (h : ∀ (v' : Value) (w' : World), OutB w0 w' base v' (ls ++ [⟨p, u, y⟩]) → (∀ (b : Nat) (cs : Array Value) (T : TypeId), w.heap[b]? = some (Obj.cells cs T (0, 0)) → T ≠ 148 → w'.heap[b]? = some (Obj.cells cs T (0, 0))) → wpList Try.prog ops Q rest (a.put o.dst v') w') :
    wpList Try.prog ops Q (o :: rest) a (w.alloc (.cells #[.int .i64 p, .int .i64 u, .int .i64 y] 148)) :=
  wpList_push_outK hgd s x ho Try.underlying145 Try.infoBd rfl (by omega) (by omega) hP hn [.int .i64 p, .int .i64 u, .int .i64 y] rfl (by simp [Value.oneCell']) hs hx fun v' w' h' hk => h v' w' (by
    unfold OutB
    rw [bdCells_append, List.length_append]
    exact h') hk

set_option maxHeartbeats 4000000 in
set_option maxRecDepth 100000 in
theorem sBounds_any (vt vb : Value) (ts : List Int) (l : List St) (B : Nat) (w : World) (ht : IntS w B vt ts) (hl : StS w B vb l) (hB : B ≤ w.heap.size) (hsz : szL l ≤ 4194300) (gd : Good ts (ptsP l)) :
    Calls Try.prog 104 #[.agg #[vt, vb]] w (BdRet w (bds ts (ptsP l))) := by
  have GD := Lib.hid gd
  have hpl := gd.len
  have HNIL : Hid (bdsL ts 0 ((ptsP l).take 0) = []) := Lib.hid rfl
  have HALL : Hid (bdsL ts 0 ((ptsP l).take (ptsP l).length) = bds ts (ptsP l)) := Lib.hid (by rw [List.take_length]; rfl)
  clear gd
  have hb2 : ∀ o o', Below w.heap.size w ((w.alloc o).alloc o') := fun o o' => (bel_a w o).alloc (by simp) o'
  have hO0 : ∀ o, OBd ((w.alloc o).alloc (.cells #[] 148)) (w.heap.size + 1) (.slice (some ⟨w.heap.size + 1, 0, none⟩) 0 0) [] := fun o => by
    have h := OBd.empty (w.alloc o) (w.heap.size + 1) (by simp)
    rw [show (w.alloc o).heap.size = w.heap.size + 1 by simp] at h
    exact h
  have HO0 := Lib.hid hO0
  clear hO0
  have ht0 := ht
  obtain ⟨At, ct, rfl, hct, -, -⟩ := ht0
  have HC := Lib.hid (fun o o' => l2Points_any (.slice At ts.length ct) vb l B ((w.alloc o).alloc o') (hl.low (hb2 o o') hB) (by have := (hb2 o o').size; omega) hsz)
  have HT := Lib.hid ht
  have HB2 := Lib.hid hb2
  clear ht hl hb2
  go_enter Try.func104, Try.ntmps104
  go_wp2_with (at_builtin; fail)
  refine (HC.out _ _).mono ?_
  rintro e w1 ⟨vp, rfl, hps, hb1⟩
  have HPS := Lib.hid hps
  have HB1 := Lib.hid ((HB2.out (.cells #[.slice At ts.length ct, vb] 30) (.cells #[] 148)).trans (hb1.mono (HB2.out _ _).size))
  have HO1 := Lib.hid ((HO0.out (.cells #[.slice At ts.length ct, vb] 30)).bel hb1)
  have hs1 : w.heap.size + 2 ≤ w1.heap.size := by have := hb1.size; simp at this; omega
  have HT1 := Lib.hid (HT.out.low HB1.out hB)
  have c0 : w1.cell? ⟨w.heap.size, 0, none⟩ = some (.slice At ts.length ct) := (hb1.cell (p := ⟨w.heap.size, 0, none⟩) (by show w.heap.size < _; simp; omega)).trans ((cell_of_row _ _ _ _ _ _ (row_below (heap_alloc_new w (.cells #[.slice At ts.length ct, vb] 30)) (bel_a _ _))).trans rfl)
  obtain ⟨Ap, cp, rfl, hcp, -⟩ := hps.slice
  clear hps hb1 HT HO0 HC HB2
  generalize ptsP l = pts at *
  go_wp2_with (at_builtin; fail)
  go_loopw [3, 5] (fun v i wr => ∃ k : Nat, k ≤ pts.length ∧ i = .int .i64 k ∧ OutB w1 wr (w.heap.size + 1) v (bdsL ts 0 (pts.take k))) (fun _ i _ => pts.length - (intOf i).toNat)
  case atStart => exact ⟨0, by omega, rfl, by rw [HNIL.out]; exact Out.start HO1.out (by omega)⟩
  case round =>
    obtain ⟨k, hk, rfl, hO⟩ := hrel
    have HO := Lib.hid hO
    have HKP := Lib.hid hO.kp
    have hsw := hO.kp.2
    have hll := bdsL_len ts 0 (pts.take k)
    rw [List.length_take, Nat.min_eq_left hk] at hll
    obtain ⟨A1, c1, rfl, hc1⟩ := hO.lenc
    clear hO
    by_cases hlt : k < pts.length
    · obtain ⟨b, off, c, nv, e, hb, hcc, hl2, hnx, z0, z1, z2, z3, z4⟩ := HPS.out.get hlt
      injection e with e1 e9 e2
      subst e1 e2
      clear e9
      obtain ⟨An, cn, rfl, hcn, hln, -⟩ := hnx
      simp only [List.length_map] at z4 hcn hln
      have HSC := Lib.hid (bdsL_take_succ ts pts k hlt)
      have HY := Lib.hid (fun ho => GD.out.y (List.getElem?_eq_getElem hlt) ho)
      generalize pts[k] = P at *
      have p0 := HKP.out.1 _ _ _ z0
      have p1 := HKP.out.1 _ _ _ z1
      have p2 := HKP.out.1 _ _ _ z2
      have p3 := HKP.out.1 _ _ _ z3
      have p4 := HKP.out.1 _ _ _ z4
      clear z0 z1 z2 z3 z4
      have HOA := Lib.hid (Out.belc HO.out (bel_a wr (.cells #[.int .i64 P.op, .int .i64 P.x, .int .i64 P.y, .int .i64 P.n, .slice An P.next.length cn] 62)))
      have HRA := Lib.hid (heap_alloc_new wr (.cells #[.int .i64 P.op, .int .i64 P.x, .int .i64 P.y, .int .i64 P.n, .slice An P.next.length cn] 62))
      go_upto_region 7 with (at_builtin; fail)
      generalize wr.alloc (.cells #[.int .i64 P.op, .int .i64 P.x, .int .i64 P.y, .int .i64 P.n, .slice An P.next.length cn] 62) = wb at *
      have x0 : wb.cell? ⟨wr.heap.size, 0, none⟩ = some (.int .i64 P.op) := (cell_of_row _ _ _ _ _ _ HRA.out).trans rfl
      have x1 : wb.cell? ⟨wr.heap.size, 1, none⟩ = some (.int .i64 P.x) := (cell_of_row _ _ _ _ _ _ HRA.out).trans rfl
      have x2 : wb.cell? ⟨wr.heap.size, 2, none⟩ = some (.int .i64 P.y) := (cell_of_row _ _ _ _ _ _ HRA.out).trans rfl
      clear p0 p1 p2 p3 p4 HKP HO
      have HKB := Lib.hid (Out.kp HOA.out)
      by_cases hop4 : P.op = 4
      · have HLO : Hid (lonB P = true) := Lib.hid (lonB_iff.2 (by omega))
        have hy := HY.out (by omega)
        have h4 : (P.op == 4) = true := by simpa using hop4
        have hp0 : (bdsL ts 0 (pts.take k) ++ [(⟨P.x, (k : Nat), -1⟩ : Bd)]).length ≤ 2 * k + 1 := by rw [List.length_append]; simp; omega
        clear hop4
        go_upto_region 10 with (at_builtin; go_must (refine wpList_push_outB rfl (.tmp 30) (.tmp 35) rfl HOA.out (by omega) _ _ _ rfl rfl ?_); intro v5 w5 hP5 hK5)
        have HR5 := Lib.hid (hK5 _ _ _ HRA.out (by decide))
        have HO5 := Lib.hid hP5
        have HK5 := Lib.hid (Out.kp hP5)
        have hq1e : (bdsL ts 0 (pts.take k) ++ [(⟨P.x, (k : Nat), -1⟩ : Bd)]) = (bdsL ts 0 (pts.take k) ++ [(⟨P.x, (k : Nat), -1⟩ : Bd)]) := rfl
        generalize hq1 : (bdsL ts 0 (pts.take k) ++ [(⟨P.x, (k : Nat), -1⟩ : Bd)]) = q1 at *
        clear hq1e
        have HQ := Lib.hid hq1
        clear hq1
        obtain ⟨A2, c2, rfl, hc2⟩ := Out.lenc hP5
        clear x0 x1 x2 hP5 hK5
        have x0 : w5.cell? ⟨wr.heap.size, 0, none⟩ = some (.int .i64 P.op) := (cell_of_row _ _ _ _ _ _ HR5.out).trans rfl
        have x1 : w5.cell? ⟨wr.heap.size, 1, none⟩ = some (.int .i64 P.x) := (cell_of_row _ _ _ _ _ _ HR5.out).trans rfl
        have x2 : w5.cell? ⟨wr.heap.size, 2, none⟩ = some (.int .i64 P.y) := (cell_of_row _ _ _ _ _ _ HR5.out).trans rfl
        obtain ⟨bt, ot, ct', et, hbt, -, -, htc⟩ := HT1.out.get (i := P.y) hy.1 hy.2
        injection et with et1 et2 et3
        subst et1 et3
        clear et2
        have y0 := HK5.out.1 _ _ _ c0
        have htd := HK5.out.1 _ _ _ htc
        obtain ⟨y, hyn⟩ : ∃ y : Nat, P.y = y := ⟨P.y.toNat, by omega⟩
        have hyl : y < ts.length := by omega
        rw [hyn, Int.toNat_natCast] at htd
        rw [hyn] at x2
        have HYN := Lib.hid hyn
        clear hyn htc c0
        cases hrf : isRefP (typeOfP ts (y : Nat))
        · have HRF := Lib.hid hrf
          have HSU := Lib.hid (show bdsL ts 0 (pts.take (k + 1)) = q1 from by rw [HSC.out, bdsPt_ln HLO.out false (by rw [HYN.out]; exact HRF.out), ← List.append_assoc, HQ.out]; simp)
          have HIR : Hid (∀ wq, Calls Try.prog 142 #[.int .i64 (typeOfP ts (y : Nat))] wq fun e w' => e = .returned (.bool false) ∧ wq = w') := Lib.hid fun wq => (sIsRef_any _ _).mono fun e w' ⟨h1, h2⟩ => ⟨by rw [h1]; exact congrArg (fun b => Ending.returned (.bool b)) HRF.out, h2⟩
          clear hrf
          go_wp2_with (first | (go_at_call 142; refine (HIR.out _).mono ?_; rintro e w7 ⟨rfl, rfl⟩) | (at_builtin; fail))
          exact ⟨⟨k + 1, by omega, by go_num, by rw [HSU.out]; exact HO5.out⟩, by simp [intOf] <;> omega⟩
        · have HRF := Lib.hid hrf
          have HSU := Lib.hid (show bdsL ts 0 (pts.take (k + 1)) = q1 ++ [⟨P.x, -1, (y : Nat)⟩] from by rw [HSC.out, bdsPt_ln HLO.out true (by rw [HYN.out]; exact HRF.out), ← List.append_assoc, HQ.out]; simp [HYN.out])
          have HIR : Hid (∀ wq, Calls Try.prog 142 #[.int .i64 (typeOfP ts (y : Nat))] wq fun e w' => e = .returned (.bool true) ∧ wq = w') := Lib.hid fun wq => (sIsRef_any _ _).mono fun e w' ⟨h1, h2⟩ => ⟨by rw [h1]; exact congrArg (fun b => Ending.returned (.bool b)) HRF.out, h2⟩
          clear hrf
          go_wp2_with (first | (go_at_call 142; refine (HIR.out _).mono ?_; rintro e w7 ⟨rfl, rfl⟩) | (at_builtin; go_must (refine wpList_push_outB rfl (.tmp 52) (.tmp 58) rfl HO5.out (by omega) _ _ _ rfl rfl ?_); intro v' w' hP' hK'))
          exact ⟨⟨k + 1, by omega, by go_num, by rw [HSU.out]; exact hP'⟩, by simp [intOf] <;> omega⟩
      · by_cases hop5 : P.op = 5
        · have HLO : Hid (lonB P = true) := Lib.hid (lonB_iff.2 (by omega))
          have hy := HY.out (by omega)
          have h4 : (P.op == 4) = false := by simpa using hop4
          have h5 : (P.op == 5) = true := by simpa using hop5
          have hp0 : (bdsL ts 0 (pts.take k) ++ [(⟨P.x, (k : Nat), -1⟩ : Bd)]).length ≤ 2 * k + 1 := by rw [List.length_append]; simp; omega
          clear hop4 hop5
          go_upto_region 10 with (at_builtin; go_must (refine wpList_push_outB rfl (.tmp 30) (.tmp 35) rfl HOA.out (by omega) _ _ _ rfl rfl ?_); intro v5 w5 hP5 hK5)
          have HR5 := Lib.hid (hK5 _ _ _ HRA.out (by decide))
          have HO5 := Lib.hid hP5
          have HK5 := Lib.hid (Out.kp hP5)
          have hq1e : (bdsL ts 0 (pts.take k) ++ [(⟨P.x, (k : Nat), -1⟩ : Bd)]) = (bdsL ts 0 (pts.take k) ++ [(⟨P.x, (k : Nat), -1⟩ : Bd)]) := rfl
          generalize hq1 : (bdsL ts 0 (pts.take k) ++ [(⟨P.x, (k : Nat), -1⟩ : Bd)]) = q1 at *
          clear hq1e
          have HQ := Lib.hid hq1
          clear hq1
          obtain ⟨A2, c2, rfl, hc2⟩ := Out.lenc hP5
          clear x0 x1 x2 hP5 hK5
          have x0 : w5.cell? ⟨wr.heap.size, 0, none⟩ = some (.int .i64 P.op) := (cell_of_row _ _ _ _ _ _ HR5.out).trans rfl
          have x1 : w5.cell? ⟨wr.heap.size, 1, none⟩ = some (.int .i64 P.x) := (cell_of_row _ _ _ _ _ _ HR5.out).trans rfl
          have x2 : w5.cell? ⟨wr.heap.size, 2, none⟩ = some (.int .i64 P.y) := (cell_of_row _ _ _ _ _ _ HR5.out).trans rfl
          obtain ⟨bt, ot, ct', et, hbt, -, -, htc⟩ := HT1.out.get (i := P.y) hy.1 hy.2
          injection et with et1 et2 et3
          subst et1 et3
          clear et2
          have y0 := HK5.out.1 _ _ _ c0
          have htd := HK5.out.1 _ _ _ htc
          obtain ⟨y, hyn⟩ : ∃ y : Nat, P.y = y := ⟨P.y.toNat, by omega⟩
          have hyl : y < ts.length := by omega
          rw [hyn, Int.toNat_natCast] at htd
          rw [hyn] at x2
          have HYN := Lib.hid hyn
          clear hyn htc c0
          cases hrf : isRefP (typeOfP ts (y : Nat))
          · have HRF := Lib.hid hrf
            have HSU := Lib.hid (show bdsL ts 0 (pts.take (k + 1)) = q1 from by rw [HSC.out, bdsPt_ln HLO.out false (by rw [HYN.out]; exact HRF.out), ← List.append_assoc, HQ.out]; simp)
            have HIR : Hid (∀ wq, Calls Try.prog 142 #[.int .i64 (typeOfP ts (y : Nat))] wq fun e w' => e = .returned (.bool false) ∧ wq = w') := Lib.hid fun wq => (sIsRef_any _ _).mono fun e w' ⟨h1, h2⟩ => ⟨by rw [h1]; exact congrArg (fun b => Ending.returned (.bool b)) HRF.out, h2⟩
            clear hrf
            go_wp2_with (first | (go_at_call 142; refine (HIR.out _).mono ?_; rintro e w7 ⟨rfl, rfl⟩) | (at_builtin; fail))
            exact ⟨⟨k + 1, by omega, by go_num, by rw [HSU.out]; exact HO5.out⟩, by simp [intOf] <;> omega⟩
          · have HRF := Lib.hid hrf
            have HSU := Lib.hid (show bdsL ts 0 (pts.take (k + 1)) = q1 ++ [⟨P.x, -1, (y : Nat)⟩] from by rw [HSC.out, bdsPt_ln HLO.out true (by rw [HYN.out]; exact HRF.out), ← List.append_assoc, HQ.out]; simp [HYN.out])
            have HIR : Hid (∀ wq, Calls Try.prog 142 #[.int .i64 (typeOfP ts (y : Nat))] wq fun e w' => e = .returned (.bool true) ∧ wq = w') := Lib.hid fun wq => (sIsRef_any _ _).mono fun e w' ⟨h1, h2⟩ => ⟨by rw [h1]; exact congrArg (fun b => Ending.returned (.bool b)) HRF.out, h2⟩
            clear hrf
            go_wp2_with (first | (go_at_call 142; refine (HIR.out _).mono ?_; rintro e w7 ⟨rfl, rfl⟩) | (at_builtin; go_must (refine wpList_push_outB rfl (.tmp 52) (.tmp 58) rfl HO5.out (by omega) _ _ _ rfl rfl ?_); intro v' w' hP' hK'))
            exact ⟨⟨k + 1, by omega, by go_num, by rw [HSU.out]; exact hP'⟩, by simp [intOf] <;> omega⟩
        · have HLO : Hid (lonB P = false) := Lib.hid (by cases h : lonB P; rfl; exact absurd (lonB_iff.1 h) (by omega))
          have h4 : (P.op == 4) = false := by simpa using hop4
          have h5 : (P.op == 5) = false := by simpa using hop5
          clear hop4 hop5
          by_cases hop3 : P.op = 3
          · have h3 : (P.op == 3) = true := by simpa using hop3
            have hy := HY.out (by omega)
            clear hop3
            obtain ⟨bt, ot, ct', et, hbt, -, -, htc⟩ := HT1.out.get (i := P.y) hy.1 hy.2
            injection et with et1 et2 et3
            subst et1 et3
            clear et2
            have y0 := HKB.out.1 _ _ _ c0
            have htd := HKB.out.1 _ _ _ htc
            obtain ⟨y, hyn⟩ : ∃ y : Nat, P.y = y := ⟨P.y.toNat, by omega⟩
            have hyl : y < ts.length := by omega
            rw [hyn, Int.toNat_natCast] at htd
            rw [hyn] at x2
            have HYN := Lib.hid hyn
            clear hyn htc c0
            cases hrf : isRefP (typeOfP ts (y : Nat))
            · have HRF := Lib.hid hrf
              have HSU := Lib.hid (show bdsL ts 0 (pts.take (k + 1)) = bdsL ts 0 (pts.take k) from by rw [HSC.out, bdsPt_mv HLO.out h3 false (by rw [HYN.out]; exact HRF.out)]; simp)
              have HIR : Hid (∀ wq, Calls Try.prog 142 #[.int .i64 (typeOfP ts (y : Nat))] wq fun e w' => e = .returned (.bool false) ∧ wq = w') := Lib.hid fun wq => (sIsRef_any _ _).mono fun e w' ⟨h1, h2⟩ => ⟨by rw [h1]; exact congrArg (fun b => Ending.returned (.bool b)) HRF.out, h2⟩
              clear hrf
              go_wp2_with (first | (go_at_call 142; refine (HIR.out _).mono ?_; rintro e w7 ⟨rfl, rfl⟩) | (at_builtin; fail))
              exact ⟨⟨k + 1, by omega, by go_num, by rw [HSU.out]; exact HOA.out⟩, by simp [intOf] <;> omega⟩
            · have HRF := Lib.hid hrf
              have HSU := Lib.hid (show bdsL ts 0 (pts.take (k + 1)) = bdsL ts 0 (pts.take k) ++ [⟨P.x, -1, (y : Nat)⟩] from by rw [HSC.out, bdsPt_mv HLO.out h3 true (by rw [HYN.out]; exact HRF.out)]; simp [HYN.out])
              have HIR : Hid (∀ wq, Calls Try.prog 142 #[.int .i64 (typeOfP ts (y : Nat))] wq fun e w' => e = .returned (.bool true) ∧ wq = w') := Lib.hid fun wq => (sIsRef_any _ _).mono fun e w' ⟨h1, h2⟩ => ⟨by rw [h1]; exact congrArg (fun b => Ending.returned (.bool b)) HRF.out, h2⟩
              clear hrf
              go_wp2_with (first | (go_at_call 142; refine (HIR.out _).mono ?_; rintro e w7 ⟨rfl, rfl⟩) | (at_builtin; go_must (refine wpList_push_outB rfl (.tmp 52) (.tmp 58) rfl HOA.out (by omega) _ _ _ rfl rfl ?_); intro v' w' hP' hK'))
              exact ⟨⟨k + 1, by omega, by go_num, by rw [HSU.out]; exact hP'⟩, by simp [intOf] <;> omega⟩
          · have h3 : (P.op == 3) = false := by simpa using hop3
            clear hop3
            have HSU := Lib.hid (show bdsL ts 0 (pts.take (k + 1)) = bdsL ts 0 (pts.take k) from by rw [HSC.out, bdsPt_no HLO.out h3, List.append_nil])
            go_wp2_with (at_builtin; fail)
            exact ⟨⟨k + 1, by omega, by go_num, by rw [HSU.out]; exact HOA.out⟩, by simp [intOf] <;> omega⟩
    · have hkl : k = pts.length := by omega
      have HF : Hid (OutB w1 wr (w.heap.size + 1) (.slice A1 (bdsL ts 0 (pts.take k)).length c1) (bds ts pts)) := Lib.hid (by rw [← HALL.out, ← hkl]; exact HO.out)
      have hl3 : (bds ts pts).length ≤ 2 * pts.length := bdsL_len ts 0 pts
      clear hkl
      go_wp2_with (at_builtin; fail)
      go_ret
      exact ⟨_, rfl, (OBd.toX (base := w.heap.size + 1) (Out.own HF.out) (by omega)).frame (Nat.le_refl _) fun b hb _ => ⟨Nat.le_of_succ_le hb, rfl⟩, HB1.out.trans ((Out.bel HF.out).mono (by omega))⟩

end Go.Proofs.Ytfioaohadanjmaa

/- Plain: the search for least regions with numbers of 64 bits. No program in sight. -/
namespace Go.Proofs.Ytfioaohadanjmaa

structure ReI (bs : List Bd) (os : List Nat) : Prop where
  len : os.length = 6
  small : ∀ m ∈ os, m < top64
  snd : ∀ v e, stP os v e = true → Rg bs v e
theorem ReI.init (bs : List Bd) : ReI bs [0, 0, 0, 0, 0, 0] := by
  refine ⟨rfl, fun m hm => ?_, fun v e h => ?_⟩
  · have : m = 0 := by simpa using hm
    subst this; exact Nat.two_pow_pos _
  · have h0 : ([0, 0, 0, 0, 0, 0] : List Nat).getD v 0 = 0 := by
      match v with
      | 0 | 1 | 2 | 3 | 4 | 5 => rfl
      | v + 6 => rw [getD_ge (by simp)]
    unfold stP at h
    rw [h0] at h; simp at h
theorem ReI.upd {bs : List Bd} {os : List Nat} {v s : Nat} (h : ReI bs os) (hv : v < 6) (hs : s < top64) (hf : ∀ e, s.testBit e = true → Rg bs v e) : ReI bs (os.set v (os.getD v 0 ||| s)) := by
  have hl : v < os.length := by rw [h.len]; exact hv
  refine ⟨by simp [h.len], fun m hm => ?_, fun i e he => ?_⟩
  · rcases List.mem_or_eq_of_mem_set hm with hm | rfl
    · exact h.small m hm
    · exact or_top (getD_small h.small _) hs
  · rw [stP_set hl, Bool.or_eq_true] at he
    rcases he with he | he
    · exact h.snd i e he
    · simp only [Bool.and_eq_true, decide_eq_true_eq] at he
      obtain ⟨rfl, he⟩ := he
      exact hf e he
theorem ReI.done {bs : List Bd} {os : List Nat} {n m : Nat} (h : ReI bs os) (hok : ∀ b ∈ bs, BdOk n m b) (hk : ∀ b ∈ bs, keepB (stP os) b) (v e : Nat) : stP os v e = true ↔ Rg bs v e := ⟨h.snd v e, Rg.done hok hk⟩
/-- the number that a bound adds -/
def addB (os : List Nat) (b : Bd) : Nat := if b.src < 0 then 2 ^ b.loan.toNat else os.getD b.src.toNat 0
theorem addB_lt {bs : List Bd} {os : List Nat} {n m : Nat} {b : Bd} (h : ReI bs os) (hb : BdOk n m b) (hm : m ≤ 64) : addB os b < top64 := by
  unfold addB
  split
  · rcases hb.alt with ⟨_, _, h3⟩ | ⟨_, h2, _⟩
    · exact Nat.pow_lt_pow_right (by omega) (by omega)
    · omega
  · exact getD_small h.small _
theorem addB_rg {bs : List Bd} {os : List Nat} {n m : Nat} {b : Bd} (h : ReI bs os) (hok : ∀ b ∈ bs, BdOk n m b) (hb : b ∈ bs) : ∀ e, (addB os b).testBit e = true → Rg bs b.v.toNat e := by
  intro e he
  refine Rg.bound (s := stP os) hok h.snd hb ?_
  unfold addB at he
  split at he
  · rename_i h1
    rw [if_pos h1]
    rw [Nat.testBit_two_pow] at he
    have h2 : b.loan.toNat = e := by simpa using he
    exact h2.symm
  · rename_i h1
    rw [if_neg h1]; exact he
theorem addB_keep {os : List Nat} {b : Bd} (h : os.getD b.v.toNat 0 ||| addB os b = os.getD b.v.toNat 0) : keepB (stP os) b := by
  have hb : ∀ e, (addB os b).testBit e = true → stP os b.v.toNat e = true := fun e he => by
    unfold stP
    rw [← h, Nat.testBit_or, he]; simp
  unfold keepB
  unfold addB at hb
  split
  · rename_i h1
    rw [if_pos h1] at hb
    exact hb _ (by rw [Nat.testBit_two_pow_self])
  · rename_i h1
    rw [if_neg h1] at hb
    exact hb
theorem bds_ne {ts : List Int} {pts : List Pt} (g : Good ts pts) : ∀ b ∈ bds ts pts, ¬ b.src < 0 → b.v ≠ b.src := by
  intro b hb hs
  obtain ⟨i, p, hp, hb⟩ := bdsL_mem.1 hb
  rcases bdsPt_mem.1 hb with ⟨-, rfl⟩ | ⟨ho, -, rfl⟩
  · exact absurd (by simp) hs
  · have ho' : p.op = 3 ∨ p.op = 4 ∨ p.op = 5 := by
      rcases ho with h | h
      · exact .inr (lonB_iff.1 h)
      · exact .inl h
    show p.x ≠ p.y
    rcases g.ok p (List.mem_of_getElem? hp) with hh | hh | hh | hh
    · omega
    · omega
    · omega
    · rcases ho' with h | h | h <;> rw [h] at hh <;> simp [simpleP] at hh
      · exact hh.2.2
      · exact hh.2.2
      · exact hh.2.2

end Go.Proofs.Ytfioaohadanjmaa
