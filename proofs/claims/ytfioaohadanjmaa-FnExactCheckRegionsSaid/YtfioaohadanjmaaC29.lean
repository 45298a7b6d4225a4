import Derived.Test.YtfioaohadanjmaaC28
import Derived.Deep.CutBlock
import Derived.Deep.DeepCutAuto
import Derived.Test.YtfioaohadanjmaaC26
import Derived.Test.YtfioaohadanjmaaC18
set_option linter.unusedVariables false

/- spec.l4After. -/
namespace Go.Proofs.Ytfioaohadanjmaa
open Go.RowKit

set_option maxHeartbeats 400000 in
theorem sIsRef_any (t : Int) (w : World) :
    Calls Try.prog 142 #[.int .i64 t] w fun e w' => e = .returned (.bool (isRefP t)) ∧ w = w' := by
  go_enter Try.func142, Try.ntmps142
  go_wp2
  all_goals (go_ret; exact ⟨by simp_all [isRefP], rfl⟩)
theorem OSta.bel {w w' : World} {lo base : Nat} {vf vp : Value} {vs : List Value} {F : List (List Bool)} {P : List Bool} (h : OSta w lo base vf vp vs F P) (hb : Below w.heap.size w w') : OSta w' lo base vf vp vs F P :=
  ⟨h.le, h.fr.bel hb, h.pl.bel hb, h.ne, Nat.le_trans h.sz hb.size⟩
/-- the loans that are lost by what takes variables below j -/
def lostB (ts : List Int) (pts : List Pt) (p : Pt) (j e : Nat) : Bool := (List.range j).any fun u => (useP ts p.op p.x p.y (u : Nat) == 2) && lonV pts (u : Nat) e
theorem lostB_succ (ts : List Int) (pts : List Pt) (p : Pt) (j e : Nat) : lostB ts pts p (j + 1) e = (lostB ts pts p j e || ((useP ts p.op p.x p.y (j : Nat) == 2) && lonV pts (j : Nat) e)) := by
  unfold lostB; rw [List.range_succ, List.any_append]; simp
theorem lonV_kill {ts : List Int} {pts : List Pt} (g : Good ts pts) (p : Pt) (e : Nat) : (lostB ts pts p ts.length e || lonV pts (setsP p.op p.x) e) = killB ts pts p e := by
  unfold killB lostB lonV
  cases h : pts[e]? with
  | none => simp
  | some q =>
    simp only
    by_cases hq : lonB q = true
    · have hy := g.y h (by rcases lonB_iff.1 hq with h | h <;> omega)
      rw [hq]
      simp only [Bool.true_and]
      have e1 : ((List.range ts.length).any fun u => (useP ts p.op p.x p.y (u : Nat) == 2) && (q.y == ((u : Nat) : Int))) = (useP ts p.op p.x p.y q.y == 2) := by
        rw [Bool.eq_iff_iff, List.any_eq_true]
        constructor
        · rintro ⟨u, _, hu⟩
          rw [Bool.and_eq_true, beq_iff_eq (a := q.y)] at hu
          rw [hu.2]; exact hu.1
        · intro hu
          refine ⟨q.y.toNat, List.mem_range.2 (by omega), ?_⟩
          have hyn : ((q.y.toNat : Nat) : Int) = q.y := by omega
          rw [hyn, hu]; simp
      rw [e1]
      congr 1
      rw [Bool.eq_iff_iff]; simp; exact eq_comm
    · rw [Bool.not_eq_true] at hq
      rw [hq]; simp
theorem lonV_neg {ts : List Int} {pts : List Pt} (g : Good ts pts) {v : Int} (h : v < 0) (e : Nat) : lonV pts v e = false := by
  unfold lonV
  cases hq : pts[e]? with
  | none => rfl
  | some q =>
    simp only
    by_cases hl : lonB q = true
    · have hy := g.y hq (by rcases lonB_iff.1 hl with h | h <;> omega)
      rw [hl, Bool.true_and, beq_false_of_ne (by omega)]
    · rw [Bool.not_eq_true] at hl; rw [hl]; rfl
theorem ORw.onl {S : Nat → Prop} {w w' : World} {base : Nat} {v : Value} {vs : List Value} {l : List (List Bool)} (h : ORw w base v vs l) (k : Onl S w w') (hS : ∀ b, S b → b < base) : ORw w' base v vs l :=
  ⟨own_onl h.own k (fun g hg e => by have := (World.ownsRow.lt h.own g hg).1; have := hS g e; omega), h.len, fun i hi => own_onl (h.row i hi) k (fun g hg e => by have := ((h.row i hi).own_lt hg).1; have := hS g e; omega)⟩
theorem l4Lose_n (Af : Option Addr) (nf cf n : Nat) (vpts : Value) (gp cp B lo : Nat) (pts : List Pt) (P : List Bool) (v : Int) (w : World) (hps : PtS w B vpts pts) (hB : B ≤ w.heap.size) (hgp : B ≤ gp) (hP : OBools w lo (.slice (some ⟨gp, 0, none⟩) n cp) P) (hl : P.length = n) (hn : n = pts.length) (hpl : pts.length ≤ 100) :
    Calls Try.prog 143 #[.agg #[.slice Af nf cf, .slice (some ⟨gp, 0, none⟩) n cp], vpts, .int .i64 v] w fun e w' => e = .returned (.tuple #[]) ∧ ∃ P', OBools w' lo (.slice (some ⟨gp, 0, none⟩) n cp) P' ∧ P'.length = n ∧ (∀ e, P'.getD e false = (P.getD e false && !lonV pts v e)) ∧ Onl (fun b => b = gp) w w' := by
  subst hn
  exact l4Lose_any Af nf cf vpts gp cp B lo pts P v w hps hB hgp hP hl hpl
theorem rep_get' {s e : Nat} : (List.replicate s false).getD e false = false := by
  by_cases h : e < s
  · rw [getD_lt (by simpa using h)]; simp
  · rw [getD_ge (by simpa using h)]
theorem loan_x {ts : List Int} {pts : List Pt} (g : Good ts pts) {i : Nat} {p : Pt} (hp : pts[i]? = some p) (ho : p.op = 4 ∨ p.op = 5) : 0 ≤ p.x := by
  rcases g.ok p (List.mem_of_getElem? hp) with h | h | h | h
  · omega
  · omega
  · omega
  · exact (typeOf_in (simple_x h).2.2).1
/-- what l4After answers -/
def Af4Ret (w : World) (ts : List Int) (pts : List Pt) (i : Nat) (p : Pt) (F : List (List Bool)) (P : List Bool) (e : Ending) (w' : World) : Prop :=
  ∃ vf vp F' P', e = .returned (.agg #[vf, vp]) ∧ RwX w' (fun b => w.heap.size ≤ b) vf F' ∧ BoolX w' (fun b => w.heap.size ≤ b) vp P' ∧ AfR ts Gloan (Cloan ts) pts.length i p F F' ∧ P'.length = pts.length ∧ (∀ e, e < pts.length → P'.getD e false = aftP ts pts i p (fun e => P.getD e false) e) ∧ Below w.heap.size w w'
set_option maxHeartbeats 8000000 in
set_option maxRecDepth 100000 in
theorem l4After_any (vt vpts vf vp : Value) (ts : List Int) (pts : List Pt) (i B : Nat) (F : List (List Bool)) (P : List Bool) (Pf : Nat → Prop) (w : World)
    (ht : IntS w B vt ts) (hps : PtS w B vpts pts) (hB : B ≤ w.heap.size) (gd : Good ts pts) (hi : i < pts.length) (hf : RwX w Pf vf F) (hp : BoolX w Pf vp P) (hl : F.length = ts.length) (hr : ∀ v, v < ts.length → (F.getD v []).length = pts.length) (hpl : P.length = pts.length) :
    Calls Try.prog 101 #[vt, vpts, .int .i64 (i : Nat), .agg #[vf, vp]] w (Af4Ret w ts pts i pts[i] F P) := by
  have h6 := gd.h6
  have hlen := gd.len
  have GD := Lib.hid gd
  have HF := Lib.hid hf
  have HP := Lib.hid hp
  have HT := Lib.hid ht
  have HPS := Lib.hid hps
  have HR := Lib.hid hr
  have HL := Lib.hid hl
  have HPL := Lib.hid hpl
  obtain ⟨Af, cf, rfl, hcf⟩ := hf.slice
  obtain ⟨Ap, cp, rfl, hcp⟩ := hp.slice
  obtain ⟨At, ct, rfl, -⟩ := ht
  obtain ⟨b, off, c, nv, e, hb, hc, hlp, hnx, z0, z1, z2, z3, z4⟩ := hps.get hi
  subst e
  have hbB : b < w.heap.size := by omega
  obtain ⟨An, cn, rfl, hcn, hln, -⟩ := hnx
  simp only [List.length_map] at hcn hln z4
  have HPG := Lib.hid (List.getElem?_eq_getElem hi)
  have HY := Lib.hid (fun ho => GD.out.y (List.getElem?_eq_getElem hi) ho)
  have hsx := (gd.ok _ (List.getElem_mem hi)).sets
  have HX0 := Lib.hid (fun ho => loan_x gd (List.getElem?_eq_getElem hi) ho)
  have HSX := Lib.hid hsx
  generalize pts[i] = p at *
  have hl1 : F.length ≤ ts.length := by omega
  have hl2 : ts.length ≤ F.length := by omega
  have hp1 : P.length ≤ pts.length := by omega
  have hp2 : pts.length ≤ P.length := by omega
  clear hf hp hps hr hl hpl gd hsx
  have HW : Hid ((((w.alloc (.cells #[.slice Af F.length cf, .slice Ap P.length cp] 99)).alloc (.cells #[.slice none 0 0, .slice none 0 0] 99)).alloc (.cells #[.int .i64 p.op, .int .i64 p.x, .int .i64 p.y, .int .i64 p.n, .slice An p.next.length cn] 62)).heap.size = w.heap.size + 3) := Lib.hid (by simp)
  have HB0 : Hid (Below w.heap.size w (((w.alloc (.cells #[.slice Af F.length cf, .slice Ap P.length cp] 99)).alloc (.cells #[.slice none 0 0, .slice none 0 0] 99)).alloc (.cells #[.int .i64 p.op, .int .i64 p.x, .int .i64 p.y, .int .i64 p.n, .slice An p.next.length cn] 62))) := Lib.hid (((bel_a w _).alloc (by simp) _).alloc (by simp <;> omega) _)
  have HR0 : Hid ((((w.alloc (.cells #[.slice Af F.length cf, .slice Ap P.length cp] 99)).alloc (.cells #[.slice none 0 0, .slice none 0 0] 99)).alloc (.cells #[.int .i64 p.op, .int .i64 p.x, .int .i64 p.y, .int .i64 p.n, .slice An p.next.length cn] 62)).heap[w.heap.size]? = some (.cells #[.slice Af F.length cf, .slice Ap P.length cp] 99)) := Lib.hid (row_below (row_below (heap_alloc_new w _) (bel_a _ _)) (bel_a _ _))
  have HR1 : Hid ((((w.alloc (.cells #[.slice Af F.length cf, .slice Ap P.length cp] 99)).alloc (.cells #[.slice none 0 0, .slice none 0 0] 99)).alloc (.cells #[.int .i64 p.op, .int .i64 p.x, .int .i64 p.y, .int .i64 p.n, .slice An p.next.length cn] 62)).heap[w.heap.size + 1]? = some (.cells #[.slice none 0 0, .slice none 0 0] 99)) := Lib.hid (by
    have h := row_below (heap_alloc_new (w.alloc (.cells #[.slice Af F.length cf, .slice Ap P.length cp] 99)) (.cells #[.slice none 0 0, .slice none 0 0] 99)) (bel_a _ (.cells #[.int .i64 p.op, .int .i64 p.x, .int .i64 p.y, .int .i64 p.n, .slice An p.next.length cn] 62))
    rw [show (w.alloc (.cells #[.slice Af F.length cf, .slice Ap P.length cp] 99)).heap.size = w.heap.size + 1 by simp] at h
    exact h)
  have HR2 : Hid (RowB (((w.alloc (.cells #[.slice Af F.length cf, .slice Ap P.length cp] 99)).alloc (.cells #[.slice none 0 0, .slice none 0 0] 99)).alloc (.cells #[.int .i64 p.op, .int .i64 p.x, .int .i64 p.y, .int .i64 p.n, .slice An p.next.length cn] 62)) (w.heap.size + 2) 62 [.int .i64 p.op, .int .i64 p.x, .int .i64 p.y, .int .i64 p.n, .slice An p.next.length cn]) := Lib.hid (by
    have h := RowB.new ((w.alloc (.cells #[.slice Af F.length cf, .slice Ap P.length cp] 99)).alloc (.cells #[.slice none 0 0, .slice none 0 0] 99)) [.int .i64 p.op, .int .i64 p.x, .int .i64 p.y, .int .i64 p.n, .slice An p.next.length cn] 62
    rw [show ((w.alloc (.cells #[.slice Af F.length cf, .slice Ap P.length cp] 99)).alloc (.cells #[.slice none 0 0, .slice none 0 0] 99)).heap.size = w.heap.size + 2 by simp] at h
    exact h)
  have hmk := make_bools pts.length (by omega)
  have HMK := Lib.hid hmk
  clear hmk
  go_enter Try.func101, Try.ntmps101
  go_wp2_with (at_builtin; fail)
  generalize (((w.alloc (.cells #[.slice Af F.length cf, .slice Ap P.length cp] 99)).alloc (.cells #[.slice none 0 0, .slice none 0 0] 99)).alloc (.cells #[.int .i64 p.op, .int .i64 p.x, .int .i64 p.y, .int .i64 p.n, .slice An p.next.length cn] 62)) = w3 at *
  have HF3 := Lib.hid (HF.out.frame (P' := fun b => b < w.heap.size) (w' := w3) HB0.out.size fun b _ hl => ⟨hl, HB0.out.block b hl⟩)
  have HP3 := Lib.hid (HP.out.frame (P' := fun b => b < w.heap.size) (w' := w3) HB0.out.size fun b _ hl => ⟨hl, HB0.out.block b hl⟩)
  refine (l4Copy_any _ _ F P _ w3 HF3.out HP3.out (by omega) (fun v hv => by rw [HR.out v (by omega)]; omega) (by omega)).mono ?_
  rintro e w4 ⟨vf4, vp4, vs4, base, rfl, hos, hb4⟩
  have HOS4 := Lib.hid hos
  obtain ⟨A4, c4, rfl, hc4⟩ := hos.fr.slice
  obtain ⟨A5, c5, rfl, hc5⟩ := hos.pl.slice
  have hs4 := hb4.size
  have hs4' : w.heap.size + 3 ≤ w4.heap.size := by have := HW.out; omega
  have hmk := HMK.out
  have HRZ : Hid ((List.replicate pts.length false).length = pts.length ∧ ∀ e, (List.replicate pts.length false).getD e false = false) := Lib.hid ⟨by simp, fun e => rep_get'⟩
  generalize List.replicate pts.length false = rz at *
  have HNO : Hid (∀ g, (Value.slice A4 F.length c4).ownBlock = some g → g < w4.heap.size) := Lib.hid fun g e => (World.ownsRow.lt HOS4.out.fr.own g e).2
  have HRT : Hid (((w4.alloc (.cells #[.slice A4 F.length c4, .slice A5 P.length c5] 99)).alloc (.cells (bv rz).toArray 4)).heap[w4.heap.size]? = some (.cells #[.slice A4 F.length c4, .slice A5 P.length c5] 99)) := Lib.hid (row_below (heap_alloc_new w4 _) (bel_a _ _))
  have HRV : Hid (RowB ((w4.alloc (.cells #[.slice A4 F.length c4, .slice A5 P.length c5] 99)).alloc (.cells (bv rz).toArray 4)) (w4.heap.size + 1) 4 (bv rz)) := Lib.hid (by
    have h := RowB.new (w4.alloc (.cells #[.slice A4 F.length c4, .slice A5 P.length c5] 99)) (bv rz) 4
    rw [show (w4.alloc (.cells #[.slice A4 F.length c4, .slice A5 P.length c5] 99)).heap.size = w4.heap.size + 1 by simp] at h
    exact h)
  have HB5 : Hid (Below w4.heap.size w4 ((w4.alloc (.cells #[.slice A4 F.length c4, .slice A5 P.length c5] 99)).alloc (.cells (bv rz).toArray 4))) := Lib.hid ((bel_a w4 _).alloc (by simp) _)
  have HS5 : Hid (((w4.alloc (.cells #[.slice A4 F.length c4, .slice A5 P.length c5] 99)).alloc (.cells (bv rz).toArray 4)).heap.size = w4.heap.size + 2) := Lib.hid (by simp)
  have HOS5 := Lib.hid (HOS4.out.bel HB5.out)
  have HB35 := Lib.hid (hb4.trans (HB5.out.mono hs4))
  have HR05 := Lib.hid (row_below HR0.out HB35.out)
  have HR15 := Lib.hid (row_below HR1.out HB35.out)
  have HR25 := Lib.hid (HR2.out.low HB35.out HR2.out.lt)
  have HF5 := Lib.hid (HF3.out.bel HB35.out)
  have HPN : Hid (∀ g, (Value.slice A5 P.length c5).ownBlock = some g → g < base) := Lib.hid HOS4.out.ne
  have hbs := HOS4.out.sz
  have HT5 := Lib.hid (HT.out.low (HB0.out.trans (HB35.out.mono HB0.out.size)) hB)
  have hlo := HOS4.out.le
  have HB34 := Lib.hid hb4
  clear hb4 hos HF3 HP3 z0 z1 z2 z3 z4
  go_upto_region 4 with (at_builtin; fail)
  have hs5 := HS5.out
  generalize ((w4.alloc (.cells #[.slice A4 F.length c4, .slice A5 P.length c5] 99)).alloc (.cells (bv rz).toArray 4)) = w5 at *
  obtain ⟨t, ht⟩ : ∃ t, t = w4.heap.size := ⟨_, rfl⟩
  rw [← ht] at HRT HRV HNO hs5 hbs hs4'
  have HTE := Lib.hid ht
  have HS5' := Lib.hid hs5
  have hs5g : t + 2 ≤ w5.heap.size := by omega
  rw [← HTE.out]
  clear ht hs5 HS5 hs4 hmk
  have b0 : w5.cell? ⟨w.heap.size, 0, none⟩ = some (.slice Af F.length cf) := by rw [cell_of_row _ _ _ _ _ _ HR05.out]; rfl
  have x0 : w5.cell? ⟨w.heap.size + 2, 0, none⟩ = some (.int .i64 p.op) := HR25.out.cell 0
  have x2 : w5.cell? ⟨w.heap.size + 2, 2, none⟩ = some (.int .i64 p.y) := HR25.out.cell 2
  go_upto_block 0 with (at_builtin; fail)
  go_cut [] from 25 to 54 (fun wx => ∃ VL : List Bool, RowB wx (t + 1) 4 (bv VL) ∧ VL.length = pts.length ∧ (∀ e, e < pts.length → VL.getD e false = (Gloan i p e || (Cloan ts p && rget F p.y.toNat e))) ∧ Onl (fun b => b = t + 1) w5 wx)
  case first =>
    by_cases h3 : p.op = 3
    · have hy := HY.out (by omega)
      obtain ⟨y, hyn⟩ : ∃ y : Nat, p.y = y := ⟨p.y.toNat, by omega⟩
      have hyF : y < F.length := by omega
      have hyt : y < ts.length := by omega
      obtain ⟨bf, of_, rv, rfl, hpf, hbl, e9, hcell, hrow⟩ := HF5.out.at_ hyF
      have hrl := HR.out y hyt
      have HGE : Hid (∀ (VL : List Bool), (∀ e, e < pts.length → VL.getD e false = (rz.getD e false || (F.getD y []).getD e false)) → ∀ e, e < pts.length → VL.getD e false = (Gloan i p e || (Cloan ts p && rget F p.y.toNat e))) := Lib.hid fun VL h e he => by
        rw [h e he, HRZ.out.2, hyn]; unfold Gloan Cloan rget; simp [h3]
      obtain ⟨Ar, cr, rfl, hcr⟩ := hrow.slice
      have HAD := Lib.hid (l4Add_any (t + 1) pts.length pts.length (.slice Ar (F.getD y []).length cr) rz (F.getD y []) w5 HRV.out (hrow.imp fun b h1 h2 => by have h1' : b < w.heap.size := h1; omega) HRZ.out.1.symm (by rw [hrl, HRZ.out.1]; exact Nat.le_refl _) (by rw [HRZ.out.1]; omega))
      have HRL := Lib.hid hrl
      generalize F.getD y [] = fy at *
      rw [hyn] at x2
      have e3 : (p.op == 3) = true := by rw [h3]; rfl
      clear hrow hy hrl hyn e9 h3
      go_wp2_with (at_builtin; fail)
      refine HAD.out.mono ?_
      rintro e w6 ⟨rfl, r, hr, hrr, hr1, hr2, hon⟩
      have HEND := Lib.hid (HGE.out r (fun e he => hr1 e (by rw [HRL.out]; exact he)))
      have HRR := Lib.hid (hrr.trans HRZ.out.1)
      clear hrr hr1 hr2
      go_wp2_with (at_builtin; fail)
      go_meet
      exact ⟨r, hr, HRR.out, HEND.out, hon⟩
    · by_cases h45 : p.op = 4 ∨ p.op = 5
      · have hy := HY.out (by omega)
        obtain ⟨y, hyn⟩ : ∃ y : Nat, p.y = y := ⟨p.y.toNat, by omega⟩
        have hyF : y < F.length := by omega
        have hyt : y < ts.length := by omega
        obtain ⟨bt, ot, ct2, et, hbt, -, -, hct⟩ := HT5.out.get hy.1 hy.2
        injection et with e1 e9 e2
        subst e1 e2
        clear e9
        have hfr := HRV.out.frozen i
        have hcv : w5.cell? ⟨t + 1, i, none⟩ = some (.bool (rz.getD i false)) := by rw [HRV.out.cell, bv_get (by rw [HRZ.out.1]; exact hi)]
        have HRV6 := Lib.hid (HRV.out.set_ i (.bool true))
        rw [bv_set] at HRV6
        have HON6 := Lib.hid (Onl.set (S := fun b => b = t + 1) w5 rfl i (.bool true))
        have hbt2 : bt ≠ t + 1 := by omega
        have hct6 : (w5.setCell ⟨t + 1, i, none⟩ (.bool true)).cell? ⟨bt, ot + p.y.toNat, none⟩ = some (.int .i64 (typeOfP ts p.y)) := (World.cell?_of_block (w := w5) (a := ⟨bt, ot + p.y.toNat, none⟩) (HON6.out.block bt (by omega) hbt2)).trans hct
        have x26 : (w5.setCell ⟨t + 1, i, none⟩ (.bool true)).cell? ⟨w.heap.size + 2, 2, none⟩ = some (.int .i64 p.y) := (World.cell?_of_block (w := w5) (a := ⟨w.heap.size + 2, 2, none⟩) (HON6.out.block (w.heap.size + 2) (by omega) (fun e => by have e' : w.heap.size + 2 = t + 1 := e; omega))).trans x2
        have b06 : (w5.setCell ⟨t + 1, i, none⟩ (.bool true)).cell? ⟨w.heap.size, 0, none⟩ = some (.slice Af F.length cf) := (World.cell?_of_block (w := w5) (a := ⟨w.heap.size, 0, none⟩) (HON6.out.block w.heap.size (by omega) (fun e => by have e' : w.heap.size = t + 1 := e; omega))).trans b0
        have HF6 := Lib.hid (HF5.out.onl HON6.out (fun b hb e => by have hb' : b < w.heap.size := hb; have e' : b = t + 1 := e; omega))
        have HRZ6 : Hid ((rz.set i true).length = pts.length ∧ ∀ e, (rz.set i true).getD e false = (e == i)) := Lib.hid ⟨by rw [List.length_set]; exact HRZ.out.1, fun e => by
          rw [getD_setT (by rw [HRZ.out.1]; exact hi)]
          by_cases h : e = i
          · rw [if_pos h, h]; simp
          · rw [if_neg h, HRZ.out.2, beq_false_of_ne h]⟩
        have HG : Hid (∀ e, Gloan i p e = (e == i)) := Lib.hid fun e => by unfold Gloan; rcases h45 with h | h <;> simp [h]
        have HC : Hid (Cloan ts p = isRefP (typeOfP ts p.y)) := Lib.hid (by unfold Cloan; rcases h45 with h | h <;> simp [h])
        generalize rz.set i true = r6 at *
        have hypn : p.y.toNat = y := by omega
        have hy0 := hy.1
        have hy1 := hy.2
        cases hrf : isRefP (typeOfP ts p.y)
        · have HRF := Lib.hid hrf
          have HEND : Hid (∀ e, e < pts.length → r6.getD e false = (Gloan i p e || (Cloan ts p && rget F p.y.toNat e))) := Lib.hid fun e _ => by rw [HRZ6.out.2, HG.out, HC.out, HRF.out]; simp
          clear hrf
          rcases h45 with h | h
          all_goals
            have e3 : (p.op == 3) = false := by rw [h]; rfl
            first
              | (have e4 : (p.op == 4) = true := by (rw [h]; rfl))
              | (have e4 : (p.op == 4) = false := by (rw [h]; rfl)); (have e5 : (p.op == 5) = true := by (rw [h]; rfl))
            clear h hyn hypn
            go_wp2_with (at_builtin; fail)
            refine (sIsRef_any _ _).mono ?_
            rintro e w7 ⟨rfl, rfl⟩
            rw [HRF.out]
            go_wp2_with (at_builtin; fail)
            go_meet
            exact ⟨r6, HRV6.out, HRZ6.out.1, HEND.out, HON6.out⟩
        · have HRF := Lib.hid hrf
          obtain ⟨bf, of_, rv, rfl, hpf, hbl, e9, hcell, hrow⟩ := HF6.out.at_ hyF
          have hrl := HR.out y hyt
          have HGE : Hid (∀ (VL : List Bool), (∀ e, e < pts.length → VL.getD e false = (r6.getD e false || (F.getD y []).getD e false)) → ∀ e, e < pts.length → VL.getD e false = (Gloan i p e || (Cloan ts p && rget F p.y.toNat e))) := Lib.hid fun VL h e he => by
            rw [h e he, HRZ6.out.2, HG.out, HC.out, HRF.out, hypn]; simp [rget]
          obtain ⟨Ar, cr, rfl, hcr⟩ := hrow.slice
          have HAD := Lib.hid (l4Add_any (t + 1) pts.length pts.length (.slice Ar (F.getD y []).length cr) r6 (F.getD y []) _ HRV6.out (hrow.imp fun b h1 h2 => by have h1' : b < w.heap.size := h1; omega) HRZ6.out.1.symm (by rw [hrl, HRZ6.out.1]; exact Nat.le_refl _) (by rw [HRZ6.out.1]; omega))
          have HRL := Lib.hid hrl
          generalize F.getD y [] = fy at *
          have HYN := Lib.hid hyn
          clear hrow hy hrl hypn e9 hrf
          rcases h45 with h | h
          all_goals
            have e3 : (p.op == 3) = false := by rw [h]; rfl
            first
              | (have e4 : (p.op == 4) = true := by (rw [h]; rfl))
              | (have e4 : (p.op == 4) = false := by (rw [h]; rfl)); (have e5 : (p.op == 5) = true := by (rw [h]; rfl))
            clear h hyn
            go_wp2_with (at_builtin; fail)
            refine (sIsRef_any _ _).mono ?_
            rintro e w7 ⟨rfl, rfl⟩
            rw [HRF.out]
            rw [HYN.out] at x26
            go_wp2_with (at_builtin; fail)
            refine HAD.out.mono ?_
            rintro e w8 ⟨rfl, r, hr, hrr, hr1, hr2, hon⟩
            have HEND := Lib.hid (HGE.out r (fun e he => hr1 e (by rw [HRL.out]; exact he)))
            have HRR := Lib.hid (hrr.trans HRZ6.out.1)
            have HONF := Lib.hid (HON6.out.trans hon)
            clear hrr hr1 hr2 hon
            go_wp2_with (at_builtin; fail)
            go_meet
            exact ⟨r, hr, HRR.out, HEND.out, HONF.out⟩
      · have n4 : (p.op == 4) = false := by
          have : ¬ p.op = 4 := fun h => h45 (.inl h)
          simpa using this
        have n5 : (p.op == 5) = false := by
          have : ¬ p.op = 5 := fun h => h45 (.inr h)
          simpa using this
        have n3 : (p.op == 3) = false := by simpa using h3
        have HEND : Hid (∀ e, e < pts.length → rz.getD e false = (Gloan i p e || (Cloan ts p && rget F p.y.toNat e))) := Lib.hid fun e _ => by rw [HRZ.out.2]; unfold Gloan Cloan; rw [n3, n4, n5]; rfl
        clear h3 h45
        go_wp2_with (at_builtin; fail)
        go_meet
        exact ⟨rz, HRV.out, HRZ.out.1, HEND.out, Onl.refl _ _⟩
  case rest =>
    obtain ⟨VL, hv, hvl, hve, hon⟩ := hcut
    have HV := Lib.hid hv
    have HVL := Lib.hid hvl
    have HVE := Lib.hid hve
    have HB5c : Hid (Below t w5 wc) := Lib.hid (hon.below (by omega) (fun k e => by have e' : k = t + 1 := e; omega))
    have HB4c : Hid (Below w4.heap.size w4 wc) := Lib.hid (HB5.out.trans (by rw [← HTE.out]; exact HB5c.out))
    have HOSc := Lib.hid (HOS4.out.bel HB4c.out)
    have HTc := Lib.hid ((hon.block t (by omega) (fun e => by have e' : t = t + 1 := e; omega)).trans HRT.out)
    have HB3c := Lib.hid (HB34.out.trans (HB4c.out.mono HB34.out.size))
    have hLW := HW.out
    have HR2X := Lib.hid HR2.out
    have HPSc := Lib.hid ((HPS.out.low HB0.out hB))
    clear hv hvl hve hon HB5c HB4c HOS4 HRT HB5 HB35 HR05 HR15 HR25 HF5 HR0 HR2 HT5 HOS5 HRV b0 x0 x2 HP HF
    obtain ⟨gp, eA5, -, -, -, -, -⟩ := HOSc.out.pl.at_ (k := 0) (by omega)
    subst eA5
    have hgp := HPN.out gp rfl
    have hgp2 := (HOSc.out.pl.own_lt rfl).1
    go_wp2_with (at_builtin; fail)
    go_loopw [12] (fun j wr => ∃ (k : Nat) (vs : List Value) (F' : List (List Bool)) (P' : List Bool), k ≤ ts.length ∧ j = .int .i64 k ∧ OSta wr w3.heap.size base (.slice A4 F.length c4) (.slice (some ⟨gp, 0, none⟩) P.length c5) vs F' P' ∧ F'.length = F.length ∧ (∀ u, u < ts.length → (F'.getD u []).length = pts.length ∧ ∀ e, e < pts.length → rget F' u e = (rget F u e && !(decide (u < k) && (useP ts p.op p.x p.y (u : Nat) == 2)))) ∧ P'.length = P.length ∧ (∀ e, P'.getD e false = (P.getD e false && !lostB ts pts p k e)) ∧ RowB wr (t + 1) 4 (bv VL) ∧ wr.heap[t]? = some (.cells #[.slice A4 F.length c4, .slice (some ⟨gp, 0, none⟩) P.length c5] 99 (0, 0)) ∧ Below w3.heap.size w3 wr ∧ t + 2 ≤ wr.heap.size) (fun j _ => ts.length - (intOf j).toNat)
    case atStart => exact ⟨0, vs4, F, P, Nat.zero_le _, rfl, HOSc.out, rfl, fun u hu => ⟨HR.out u hu, fun e _ => by simp⟩, rfl, fun e => by simp [lostB], HV.out, HTc.out, HB3c.out, by have := HV.out.lt; have := HOSc.out.sz; omega⟩
    case round =>
      obtain ⟨k, vs, F', P', hk, rfl, hos, hFl, hFg, hPl, hPg, hrv, hrt, hbw, hsw⟩ := hrel
      have HO := Lib.hid hos
      have HFL := Lib.hid hFl
      have HFG := Lib.hid hFg
      have HPLw := Lib.hid hPl
      have HPGw := Lib.hid hPg
      have HRVw := Lib.hid hrv
      have HRTw := Lib.hid hrt
      have HBW := Lib.hid hbw
      have hXw := HR2X.out.low hbw (by omega)
      have x0 : wr.cell? ⟨w.heap.size + 2, 0, none⟩ = some (.int .i64 p.op) := hXw.cell 0
      have x1 : wr.cell? ⟨w.heap.size + 2, 1, none⟩ = some (.int .i64 p.x) := hXw.cell 1
      have x2 : wr.cell? ⟨w.heap.size + 2, 2, none⟩ = some (.int .i64 p.y) := hXw.cell 2
      have x3 : wr.cell? ⟨w.heap.size + 2, 3, none⟩ = some (.int .i64 p.n) := hXw.cell 3
      have x4 : wr.cell? ⟨w.heap.size + 2, 4, none⟩ = some (.slice An p.next.length cn) := hXw.cell 4
      have hszw := hbw.size
      clear hos hFl hFg hPl hPg hrv hrt hXw hbw
      by_cases hlt : k < ts.length
      · have HTW := Lib.hid ((HT.out.low HB0.out hB).low HBW.out (by omega))
        go_wp2_with (at_builtin; fail)
        refine (l3Use_any _ ts B p.op p.x p.y p.n (k : Nat) _ wr HTW.out (by omega) (by omega) (by omega)).mono ?_
        rintro e w6 ⟨rfl, hb6⟩
        have HO6 := Lib.hid (HO.out.bel hb6)
        have HRV6 := Lib.hid (HRVw.out.low hb6 HRVw.out.lt)
        have HRT6 := Lib.hid (row_below HRTw.out hb6)
        have HB6 := Lib.hid (HBW.out.trans (hb6.mono hszw))
        have hs6 : t + 2 ≤ w6.heap.size := by have := hb6.size; omega
        clear hb6 x0 x1 x2 x3 x4 HTW
        cases hu : (useP ts p.op p.x p.y (k : Nat) == 2)
        · have HFN : Hid (∀ u, u < ts.length → (F'.getD u []).length = pts.length ∧ ∀ e, e < pts.length → rget F' u e = (rget F u e && !(decide (u < k + 1) && (useP ts p.op p.x p.y (u : Nat) == 2)))) := Lib.hid fun u hu2 => ⟨(HFG.out u hu2).1, fun e he => by
            rw [(HFG.out u hu2).2 e he]
            by_cases h1 : u < k
            · rw [decide_eq_true h1, decide_eq_true (by omega)]
            · by_cases h2 : u = k
              · rw [h2, hu]; simp
              · rw [decide_eq_false h1, decide_eq_false (by omega)]⟩
          have HPN2 : Hid (∀ e, P'.getD e false = (P.getD e false && !lostB ts pts p (k + 1) e)) := Lib.hid fun e => by rw [HPGw.out e, lostB_succ, hu]; simp
          have HU := Lib.hid hu
          go_wp2_with (at_builtin; fail)
          exact ⟨⟨k + 1, vs, F', P', by omega, by go_num, HO6.out, HFL.out, HFN.out, HPLw.out, HPN2.out, HRV6.out, HRT6.out, HB6.out, hs6⟩, by simp [intOf] <;> omega⟩
        · have HU := Lib.hid hu
          have hkF : k < F'.length := by rw [HFL.out]; omega
          obtain ⟨go, eA4, hgo1, hgo2, e9, hgc, hgf⟩ := HO6.out.fr.at_ (k := k) hkF
          subst eA4
          have hgo3 := HNO.out go rfl
          have d0 : w6.cell? ⟨t, 0, none⟩ = some (.slice (some ⟨go, 0, none⟩) F.length c4) := by rw [cell_of_row _ _ _ _ _ _ HRT6.out]; rfl
          have d1 : w6.cell? ⟨t, 1, none⟩ = some (.slice (some ⟨gp, 0, none⟩) P.length c5) := by rw [cell_of_row _ _ _ _ _ _ HRT6.out]; rfl
          have d0a : ∀ o, (w6.alloc o).cell? ⟨t, 0, none⟩ = some (.slice (some ⟨go, 0, none⟩) F.length c4) := fun o => by rw [cell_of_row _ _ _ _ _ _ (row_below HRT6.out (bel_a w6 o))]; rfl
          have hgca : ∀ o, (w6.alloc o).cell? ⟨go, k, none⟩ = some (vs.getD k (.slice none 0 0)) := fun o => ((bel_a w6 o).cell (p := ⟨go, k, none⟩) hgo2).trans hgc
          have hgfa : ∀ o, (w6.alloc o).frozen? ⟨go, k, none⟩ = false := fun o => by
            obtain ⟨g', e', _, _, _, _, hf'⟩ := (HO6.out.bel (bel_a w6 o)).fr.at_ (k := k) hkF
            injection e' with e'
            injection e' with e'
            subst e'
            exact hf'
          have hkF2 : k < F.length := by omega
          have hmk := HMK.out
          have HFN : Hid (∀ u, u < ts.length → ((F'.set k rz).getD u []).length = pts.length ∧ ∀ e, e < pts.length → rget (F'.set k rz) u e = (rget F u e && !(decide (u < k + 1) && (useP ts p.op p.x p.y (u : Nat) == 2)))) := Lib.hid fun u hu2 => by
            unfold rget
            rw [getD_setT hkF]
            by_cases h2 : u = k
            · rw [if_pos h2]
              refine ⟨HRZ.out.1, fun e he => ?_⟩
              rw [HRZ.out.2, h2, HU.out]; simp
            · rw [if_neg h2]
              refine ⟨(HFG.out u hu2).1, fun e he => ?_⟩
              have := (HFG.out u hu2).2 e he
              unfold rget at this
              rw [this]
              by_cases h1 : u < k
              · rw [decide_eq_true h1, decide_eq_true (by omega)]
              · rw [decide_eq_false h1, decide_eq_false (by omega)]
          have hOR := HO6.out.bel (bel_a w6 (.cells (bv rz).toArray 4))
          have hXZ : OBools (w6.alloc (.cells (bv rz).toArray 4)) base (.slice (some ⟨w6.heap.size, 0, none⟩) pts.length pts.length) rz := OBools.ofRow (RowB.new _ _ _) (by have := HO6.out.sz; omega) HRZ.out.1 (by omega)
          have hOS7 : OSta ((w6.alloc (.cells (bv rz).toArray 4)).setCell ⟨go, k, none⟩ (.slice (some ⟨w6.heap.size, 0, none⟩) pts.length pts.length)).drew w3.heap.size base (.slice (some ⟨go, 0, none⟩) F.length c4) (.slice (some ⟨gp, 0, none⟩) P.length c5) (vs.set k (.slice (some ⟨w6.heap.size, 0, none⟩) pts.length pts.length)) (F'.set k rz) P' :=
            OSta.bel ⟨hOR.le, hOR.fr.set hkF hXZ, hOR.pl.setLow (fun g hg e => by have := HPN.out g hg; omega) k _, hOR.ne, by rw [size_set]; exact hOR.sz⟩ ((Below.refl _ _).drew)
          have hRV7 : RowB ((w6.alloc (.cells (bv rz).toArray 4)).setCell ⟨go, k, none⟩ (.slice (some ⟨w6.heap.size, 0, none⟩) pts.length pts.length)).drew (t + 1) 4 (bv VL) := (HRV6.out.alloc (.cells (bv rz).toArray 4)).other (by omega) k _
          have hRT7 : ((w6.alloc (.cells (bv rz).toArray 4)).setCell ⟨go, k, none⟩ (.slice (some ⟨w6.heap.size, 0, none⟩) pts.length pts.length)).drew.heap[t]? = some (.cells #[.slice (some ⟨go, 0, none⟩) F.length c4, .slice (some ⟨gp, 0, none⟩) P.length c5] 99 (0, 0)) := (heap_setCell_other _ ⟨go, k, none⟩ t _ (by show t ≠ go; omega)).trans (row_below HRT6.out (bel_a w6 _))
          have hB7 : Below w3.heap.size w3 ((w6.alloc (.cells (bv rz).toArray 4)).setCell ⟨go, k, none⟩ (.slice (some ⟨w6.heap.size, 0, none⟩) pts.length pts.length)).drew := ((HB6.out.alloc HB6.out.size (.cells (bv rz).toArray 4)).setCell (p := ⟨go, k, none⟩) (by show w3.heap.size ≤ go; omega) _).drew
          have hs7 : t + 2 ≤ ((w6.alloc (.cells (bv rz).toArray 4)).setCell ⟨go, k, none⟩ (.slice (some ⟨w6.heap.size, 0, none⟩) pts.length pts.length)).drew.heap.size := by
            show t + 2 ≤ ((w6.alloc (.cells (bv rz).toArray 4)).setCell ⟨go, k, none⟩ (.slice (some ⟨w6.heap.size, 0, none⟩) pts.length pts.length)).heap.size
            rw [size_set]; simp; omega
          rw [World.setCell_alloc_past _ _ _ _ hgo2] at hOS7 hRV7 hRT7 hB7 hs7
          have HOS7 := Lib.hid hOS7
          have HRV7 := Lib.hid hRV7
          have HRT7 := Lib.hid hRT7
          have HB7 := Lib.hid hB7
          have HS7 := Lib.hid hs7
          clear hOR hXZ hOS7 hRV7 hRT7 hB7 hs7 e9
          go_wp2_with (at_builtin; fail)
          go_region
          all_goals
            generalize ((w6.setCell ⟨go, k, none⟩ (.slice (some ⟨w6.heap.size, 0, none⟩) pts.length pts.length)).alloc (.cells (bv rz).toArray 4)).drew = w7 at *
            have e0 : w7.cell? ⟨t, 0, none⟩ = some (.slice (some ⟨go, 0, none⟩) F.length c4) := by rw [cell_of_row _ _ _ _ _ _ HRT7.out]; rfl
            have e1 : w7.cell? ⟨t, 1, none⟩ = some (.slice (some ⟨gp, 0, none⟩) P.length c5) := by rw [cell_of_row _ _ _ _ _ _ HRT7.out]; rfl
            clear d0 d1 d0a hgca hgfa hgc hgf hu hmk
            go_wp2_with (at_builtin; fail)
            refine (l4Lose_n (some ⟨go, 0, none⟩) F.length c4 P.length _ gp c5 B w3.heap.size pts P' (k : Nat) w7 (HPSc.out.low HB7.out (by omega)) (by have := HB7.out.size; omega) (by omega) HOS7.out.pl HPLw.out HPL.out (by omega)).mono ?_
            rintro e w8 ⟨rfl, P2, hp2, hpl2, hpg2, hon⟩
            have HOS8 : Hid (OSta w8 w3.heap.size base (.slice (some ⟨go, 0, none⟩) F.length c4) (.slice (some ⟨gp, 0, none⟩) P.length c5) (vs.set k (.slice (some ⟨w6.heap.size, 0, none⟩) pts.length pts.length)) (F'.set k rz) P2) := Lib.hid ⟨HOS7.out.le, HOS7.out.fr.onl hon (fun b e => by have e' : b = gp := e; omega), hp2, HOS7.out.ne, Nat.le_trans HOS7.out.sz hon.size⟩
            have HRV8 := Lib.hid (HRV7.out.onl hon (fun e => by have e' : t + 1 = gp := e; omega))
            have HRT8 := Lib.hid ((hon.block t (by have := HS7.out; omega) (fun e => by have e' : t = gp := e; omega)).trans HRT7.out)
            have HB8 := Lib.hid (HB7.out.trans (hon.below HB7.out.size (fun k e => by have e' : k = gp := e; omega)))
            have HS8 : Hid (t + 2 ≤ w8.heap.size) := Lib.hid (Nat.le_trans HS7.out hon.size)
            have HPN2 : Hid (∀ e, P2.getD e false = (P.getD e false && !lostB ts pts p (k + 1) e)) := Lib.hid fun e => by
              rw [hpg2 e, HPGw.out e, lostB_succ, HU.out]
              cases P.getD e false <;> cases lostB ts pts p k e <;> cases lonV pts (k : Nat) e <;> rfl
            have HPL2 := Lib.hid hpl2
            clear hp2 hpl2 hpg2 hon e0 e1
            go_wp2_with (at_builtin; fail)
            exact ⟨⟨k + 1, _, F'.set k rz, P2, by omega, by go_num, HOS8.out, by rw [List.length_set]; exact HFL.out, HFN.out, HPL2.out, HPN2.out, HRV8.out, HRT8.out, HB8.out, HS8.out⟩, by simp [intOf] <;> omega⟩
      · have hkn : k = ts.length := by omega
        have HFE : Hid (∀ u, u < ts.length → (F'.getD u []).length = pts.length ∧ ∀ e, e < pts.length → rget F' u e = (rget F u e && !(useP ts p.op p.x p.y (u : Nat) == 2))) := Lib.hid fun u hu => ⟨(HFG.out u hu).1, fun e he => by rw [(HFG.out u hu).2 e he, hkn, decide_eq_true hu, Bool.true_and]⟩
        have HPE : Hid (∀ e, P'.getD e false = (P.getD e false && !lostB ts pts p ts.length e)) := Lib.hid (by rw [← hkn]; exact HPGw.out)
        clear hkn
        have d0 : wr.cell? ⟨t, 0, none⟩ = some (.slice A4 F.length c4) := by rw [cell_of_row _ _ _ _ _ _ HRTw.out]; rfl
        have d1 : wr.cell? ⟨t, 1, none⟩ = some (.slice (some ⟨gp, 0, none⟩) P.length c5) := by rw [cell_of_row _ _ _ _ _ _ HRTw.out]; rfl
        go_wp2_with (at_builtin; fail)
        refine (l3Set_any _ _ _ _ _ _).mono ?_
        rintro e w6 ⟨rfl, hb6⟩
        have HO6 := Lib.hid (HO.out.bel hb6)
        have HRV6 := Lib.hid (HRVw.out.low hb6 HRVw.out.lt)
        have HRT6 := Lib.hid (row_below HRTw.out hb6)
        have HB6 := Lib.hid (HBW.out.trans (hb6.mono hszw))
        have hs6 : t + 2 ≤ w6.heap.size := by have := hb6.size; omega
        have HR16 := Lib.hid (row_below HR1.out HB6.out)
        have hX6 := HR2X.out.low HB6.out (by omega)
        have x0' : w6.cell? ⟨w.heap.size + 2, 0, none⟩ = some (.int .i64 p.op) := hX6.cell 0
        have d0' : w6.cell? ⟨t, 0, none⟩ = some (.slice A4 F.length c4) := by rw [cell_of_row _ _ _ _ _ _ HRT6.out]; rfl
        have d1' : w6.cell? ⟨t, 1, none⟩ = some (.slice (some ⟨gp, 0, none⟩) P.length c5) := by rw [cell_of_row _ _ _ _ _ _ HRT6.out]; rfl
        clear hb6 x0 x1 x2 x3 x4 d0 d1 hX6 HRVw HRTw HO
        by_cases hs0 : 0 ≤ setsP p.op p.x
        · obtain ⟨x, hxe⟩ : ∃ x : Nat, setsP p.op p.x = x := ⟨(setsP p.op p.x).toNat, by omega⟩
          have hxl : x < ts.length := by have := HSX.out; omega
          have HXE := Lib.hid hxe
          rw [hxe]
          have hxF : x < F'.length := by rw [HFL.out]; omega
          have hxF2 : x < F.length := by omega
          obtain ⟨go, eA4, hgo1, hgo2, e9, hgc, hgf⟩ := HO6.out.fr.at_ (k := x) hxF
          subst eA4
          have hgo3 := HNO.out go rfl
          have hXV : OBools w6 base (.slice (some ⟨t + 1, 0, none⟩) pts.length pts.length) VL := OBools.ofRow HRV6.out (by omega) HVL.out (by omega)
          have HOS7 : Hid (OSta (w6.setCell ⟨go, x, none⟩ (.slice (some ⟨t + 1, 0, none⟩) pts.length pts.length)) w3.heap.size base (.slice (some ⟨go, 0, none⟩) F.length c4) (.slice (some ⟨gp, 0, none⟩) P.length c5) (vs.set x (.slice (some ⟨t + 1, 0, none⟩) pts.length pts.length)) (F'.set x VL) P') :=
            Lib.hid ⟨HO6.out.le, HO6.out.fr.set hxF hXV, HO6.out.pl.setLow (fun g hg e => by have := HPN.out g hg; omega) x _, HO6.out.ne, by rw [size_set]; exact HO6.out.sz⟩
          have HRT7 : Hid ((w6.setCell ⟨go, x, none⟩ (.slice (some ⟨t + 1, 0, none⟩) pts.length pts.length)).heap[t]? = some (.cells #[.slice (some ⟨go, 0, none⟩) F.length c4, .slice (some ⟨gp, 0, none⟩) P.length c5] 99 (0, 0))) := Lib.hid ((heap_setCell_other _ ⟨go, x, none⟩ t _ (by show t ≠ go; omega)).trans HRT6.out)
          have HB7 := Lib.hid (HB6.out.setCell (p := ⟨go, x, none⟩) (by show w3.heap.size ≤ go; omega) (.slice (some ⟨t + 1, 0, none⟩) pts.length pts.length))
          have HR17 : Hid ((w6.setCell ⟨go, x, none⟩ (.slice (some ⟨t + 1, 0, none⟩) pts.length pts.length)).heap[w.heap.size + 1]? = some (.cells #[.slice none 0 0, .slice none 0 0] 99)) := Lib.hid ((heap_setCell_other _ ⟨go, x, none⟩ (w.heap.size + 1) _ (by show w.heap.size + 1 ≠ go; omega)).trans HR16.out)
          have hs7 : (w6.setCell ⟨go, x, none⟩ (.slice (some ⟨t + 1, 0, none⟩) pts.length pts.length)).heap.size = w6.heap.size := size_set _ _ _
          have d07 : (w6.setCell ⟨go, x, none⟩ (.slice (some ⟨t + 1, 0, none⟩) pts.length pts.length)).cell? ⟨t, 0, none⟩ = some (.slice (some ⟨go, 0, none⟩) F.length c4) := by rw [cell_of_row _ _ _ _ _ _ HRT7.out]; rfl
          have d17 : (w6.setCell ⟨go, x, none⟩ (.slice (some ⟨t + 1, 0, none⟩) pts.length pts.length)).cell? ⟨t, 1, none⟩ = some (.slice (some ⟨gp, 0, none⟩) P.length c5) := by rw [cell_of_row _ _ _ _ _ _ HRT7.out]; rfl
          have HLS := Lib.hid (l4Lose_n (some ⟨go, 0, none⟩) F.length c4 P.length _ gp c5 B w3.heap.size pts P' (x : Nat) (w6.setCell ⟨go, x, none⟩ (.slice (some ⟨t + 1, 0, none⟩) pts.length pts.length)) (HPSc.out.low HB7.out (by omega)) (by omega) (by omega) HOS7.out.pl HPLw.out HPL.out (by omega))
          clear hXV hxe hs0 e9
          go_wp2_with (at_builtin; fail)
          generalize w6.setCell ⟨go, x, none⟩ (.slice (some ⟨t + 1, 0, none⟩) pts.length pts.length) = w7 at *
          refine HLS.out.mono ?_
          rintro e w8 ⟨rfl, P2, hp2, hpl2, hpg2, hon⟩
          have HOS8 : Hid (OSta w8 w3.heap.size base (.slice (some ⟨go, 0, none⟩) F.length c4) (.slice (some ⟨gp, 0, none⟩) P.length c5) (vs.set x (.slice (some ⟨t + 1, 0, none⟩) pts.length pts.length)) (F'.set x VL) P2) := Lib.hid ⟨HOS7.out.le, HOS7.out.fr.onl hon (fun b e => by have e' : b = gp := e; omega), hp2, HOS7.out.ne, Nat.le_trans HOS7.out.sz hon.size⟩
          have HRT8 := Lib.hid ((hon.block t (by omega) (fun e => by have e' : t = gp := e; omega)).trans HRT7.out)
          have HB8 := Lib.hid (HB7.out.trans (hon.below HB7.out.size (fun k e => by have e' : k = gp := e; omega)))
          have HR18 := Lib.hid (row_below HR1.out HB8.out)
          have hX8 := HR2X.out.low HB8.out (by omega)
          have x08 : w8.cell? ⟨w.heap.size + 2, 0, none⟩ = some (.int .i64 p.op) := hX8.cell 0
          have HPK : Hid (∀ e, P2.getD e false = (P.getD e false && !killB ts pts p e)) := Lib.hid fun e => by
            rw [hpg2 e, HPE.out e, ← lonV_kill GD.out p e, HXE.out]
            cases P.getD e false <;> cases lostB ts pts p ts.length e <;> cases lonV pts (x : Nat) e <;> rfl
          have HPL2 := Lib.hid hpl2
          have HAF : Hid (AfR ts Gloan (Cloan ts) pts.length i p F (F'.set x VL)) := Lib.hid (afr_set (HFL.out.trans HL.out) HFE.out HXE.out hxl HVL.out HVE.out)
          clear hp2 hpl2 hpg2 hon hX8 d07 d17 HOS7 HRT7 HB7 HR17 HO6 HRT6 HB6 HRV6 x0' d0' d1'
          have q00 : w8.cell? ⟨t, 0, none⟩ = some (.slice (some ⟨go, 0, none⟩) F.length c4) := by rw [cell_of_row _ _ _ _ _ _ HRT8.out]; rfl
          have q11 : w8.cell? ⟨t, 1, none⟩ = some (.slice (some ⟨gp, 0, none⟩) P.length c5) := by rw [cell_of_row _ _ _ _ _ _ HRT8.out]; rfl
          cases hlo : lonB p
          · have n4 : (p.op == 4) = false := by
              cases h : (p.op == 4)
              · rfl
              · unfold lonB at hlo; rw [h] at hlo; simp at hlo
            have n5 : (p.op == 5) = false := by
              cases h : (p.op == 5)
              · rfl
              · unfold lonB at hlo; rw [h] at hlo; simp at hlo
            have HPF : Hid (∀ e, e < pts.length → P2.getD e false = aftP ts pts i p (fun e => P.getD e false) e) := Lib.hid fun e _ => by
              rw [HPK.out e]; unfold aftP; rw [hlo]; simp
            have HOF := HOS8
            have HRF := HR18
            have HBF := HB8
            have HPLF := HPL2
            clear hlo
            have r0 := frozen_of_row _ (w.heap.size + 1) 0 _ _ HRF.out
            have r1 := frozen_of_row _ (w.heap.size + 1) 1 _ _ HRF.out
            have q0 := cell_of_row _ (w.heap.size + 1) 0 _ _ _ HRF.out
            have q1 := cell_of_row _ (w.heap.size + 1) 1 _ _ _ HRF.out
            simp only [List.getElem?_toArray, List.getElem?_cons_zero, List.getElem?_cons_succ] at q0 q1
            go_wp2_with (at_builtin; fail)
            have HS2 := Lib.hid (box2 HRF.out (.slice (some ⟨go, 0, none⟩) F.length c4) (.slice (some ⟨gp, 0, none⟩) P.length c5))
            have hX := (HOF.out.fr.toX (fun u hu => by rw [HAF.out.inn u (by rw [HAF.out.len] at hu; exact hu)]; omega))
            have hY := HOF.out.pl.toX (by rw [HPLF.out, HPL.out]; omega)
            have hGB := HS2.out.2
            refine bodyPost_ret (results_cell_row rfl _ _ (w.heap.size + 1) 99 _ (0, 0) _ rfl HS2.out.1 Try.underlying99 rfl rfl) rfl ⟨.slice (some ⟨go, 0, none⟩) F.length c4, .slice (some ⟨gp, 0, none⟩) P.length c5, _, _, rfl, ?_, ?_, HAF.out, HPLF.out.trans HPL.out, HPF.out, ?_⟩
            · exact hX.frame hGB.size fun b hb hl => ⟨by have hb' : base ≤ b := hb; omega, hGB.block b hl (fun e => by injection e with e; have hb' : base ≤ b := hb; omega)⟩
            · exact hY.frame hGB.size fun b hb hl => ⟨by have hb' : w3.heap.size ≤ b := hb; omega, hGB.block b hl (fun e => by injection e with e; have hb' : w3.heap.size ≤ b := hb; omega)⟩
            · exact (HB0.out.trans (HBF.out.mono HB0.out.size)).trans ((grown_below hGB (by have := HBF.out.size; omega)).mono (by omega))
          · obtain ⟨g', eg, -, -, e9, hcp8, hfp8⟩ := HOS8.out.pl.at_ (k := i) (by rw [HPL2.out]; omega)
            injection eg with eg
            injection eg with eg
            subst eg
            have hiP : i < P.length := by omega
            have HPF : Hid (∀ e, e < pts.length → (P2.set i true).getD e false = aftP ts pts i p (fun e => P.getD e false) e) := Lib.hid fun e _ => by
              rw [getD_setT (by rw [HPL2.out]; omega)]
              unfold aftP; rw [hlo]
              by_cases h : e = i
              · rw [if_pos h, h]; simp
              · rw [if_neg h, HPK.out e, beq_false_of_ne h]; simp
            have HOF : Hid (OSta (w8.setCell ⟨gp, i, none⟩ (.bool true)) w3.heap.size base (.slice (some ⟨go, 0, none⟩) F.length c4) (.slice (some ⟨gp, 0, none⟩) P.length c5) (vs.set x (.slice (some ⟨t + 1, 0, none⟩) pts.length pts.length)) (F'.set x VL) (P2.set i true)) := Lib.hid ⟨HOS8.out.le, HOS8.out.fr.setLow hgp i _, HOS8.out.pl.set i true, HOS8.out.ne, by rw [size_set]; exact HOS8.out.sz⟩
            have HRF : Hid ((w8.setCell ⟨gp, i, none⟩ (.bool true)).heap[w.heap.size + 1]? = some (.cells #[.slice none 0 0, .slice none 0 0] 99)) := Lib.hid ((heap_setCell_other _ ⟨gp, i, none⟩ (w.heap.size + 1) _ (by show w.heap.size + 1 ≠ gp; omega)).trans HR18.out)
            have HRT9 : Hid ((w8.setCell ⟨gp, i, none⟩ (.bool true)).heap[t]? = some (.cells #[.slice (some ⟨go, 0, none⟩) F.length c4, .slice (some ⟨gp, 0, none⟩) P.length c5] 99 (0, 0))) := Lib.hid ((heap_setCell_other _ ⟨gp, i, none⟩ t _ (by show t ≠ gp; omega)).trans HRT8.out)
            have HBF := Lib.hid (HB8.out.setCell (p := ⟨gp, i, none⟩) (by show w3.heap.size ≤ gp; omega) (.bool true))
            have HPLF : Hid ((P2.set i true).length = P.length) := Lib.hid (by rw [List.length_set]; exact HPL2.out)
            have z00 : (w8.setCell ⟨gp, i, none⟩ (.bool true)).cell? ⟨t, 0, none⟩ = some (.slice (some ⟨go, 0, none⟩) F.length c4) := by rw [cell_of_row _ _ _ _ _ _ HRT9.out]; rfl
            have z11 : (w8.setCell ⟨gp, i, none⟩ (.bool true)).cell? ⟨t, 1, none⟩ = some (.slice (some ⟨gp, 0, none⟩) P.length c5) := by rw [cell_of_row _ _ _ _ _ _ HRT9.out]; rfl
            clear e9
            rcases lonB_iff.1 hlo with h | h
            · have n4 : (p.op == 4) = true := by rw [h]; rfl
              clear h hlo
              have r0 := frozen_of_row _ (w.heap.size + 1) 0 _ _ HRF.out
              have r1 := frozen_of_row _ (w.heap.size + 1) 1 _ _ HRF.out
              have q0 := cell_of_row _ (w.heap.size + 1) 0 _ _ _ HRF.out
              have q1 := cell_of_row _ (w.heap.size + 1) 1 _ _ _ HRF.out
              simp only [List.getElem?_toArray, List.getElem?_cons_zero, List.getElem?_cons_succ] at q0 q1
              go_wp2_with (at_builtin; fail)
              have HS2 := Lib.hid (box2 HRF.out (.slice (some ⟨go, 0, none⟩) F.length c4) (.slice (some ⟨gp, 0, none⟩) P.length c5))
              have hX := (HOF.out.fr.toX (fun u hu => by rw [HAF.out.inn u (by rw [HAF.out.len] at hu; exact hu)]; omega))
              have hY := HOF.out.pl.toX (by rw [HPLF.out, HPL.out]; omega)
              have hGB := HS2.out.2
              refine bodyPost_ret (results_cell_row rfl _ _ (w.heap.size + 1) 99 _ (0, 0) _ rfl HS2.out.1 Try.underlying99 rfl rfl) rfl ⟨.slice (some ⟨go, 0, none⟩) F.length c4, .slice (some ⟨gp, 0, none⟩) P.length c5, _, _, rfl, ?_, ?_, HAF.out, HPLF.out.trans HPL.out, HPF.out, ?_⟩
              · exact hX.frame hGB.size fun b hb hl => ⟨by have hb' : base ≤ b := hb; omega, hGB.block b hl (fun e => by injection e with e; have hb' : base ≤ b := hb; omega)⟩
              · exact hY.frame hGB.size fun b hb hl => ⟨by have hb' : w3.heap.size ≤ b := hb; omega, hGB.block b hl (fun e => by injection e with e; have hb' : w3.heap.size ≤ b := hb; omega)⟩
              · exact (HB0.out.trans (HBF.out.mono HB0.out.size)).trans ((grown_below hGB (by have := HBF.out.size; omega)).mono (by omega))
            · have n4 : (p.op == 4) = false := by rw [h]; rfl
              have n5 : (p.op == 5) = true := by rw [h]; rfl
              clear h hlo
              have r0 := frozen_of_row _ (w.heap.size + 1) 0 _ _ HRF.out
              have r1 := frozen_of_row _ (w.heap.size + 1) 1 _ _ HRF.out
              have q0 := cell_of_row _ (w.heap.size + 1) 0 _ _ _ HRF.out
              have q1 := cell_of_row _ (w.heap.size + 1) 1 _ _ _ HRF.out
              simp only [List.getElem?_toArray, List.getElem?_cons_zero, List.getElem?_cons_succ] at q0 q1
              go_wp2_with (at_builtin; fail)
              have HS2 := Lib.hid (box2 HRF.out (.slice (some ⟨go, 0, none⟩) F.length c4) (.slice (some ⟨gp, 0, none⟩) P.length c5))
              have hX := (HOF.out.fr.toX (fun u hu => by rw [HAF.out.inn u (by rw [HAF.out.len] at hu; exact hu)]; omega))
              have hY := HOF.out.pl.toX (by rw [HPLF.out, HPL.out]; omega)
              have hGB := HS2.out.2
              refine bodyPost_ret (results_cell_row rfl _ _ (w.heap.size + 1) 99 _ (0, 0) _ rfl HS2.out.1 Try.underlying99 rfl rfl) rfl ⟨.slice (some ⟨go, 0, none⟩) F.length c4, .slice (some ⟨gp, 0, none⟩) P.length c5, _, _, rfl, ?_, ?_, HAF.out, HPLF.out.trans HPL.out, HPF.out, ?_⟩
              · exact hX.frame hGB.size fun b hb hl => ⟨by have hb' : base ≤ b := hb; omega, hGB.block b hl (fun e => by injection e with e; have hb' : base ≤ b := hb; omega)⟩
              · exact hY.frame hGB.size fun b hb hl => ⟨by have hb' : w3.heap.size ≤ b := hb; omega, hGB.block b hl (fun e => by injection e with e; have hb' : w3.heap.size ≤ b := hb; omega)⟩
              · exact (HB0.out.trans (HBF.out.mono HB0.out.size)).trans ((grown_below hGB (by have := HBF.out.size; omega)).mono (by omega))
        · have hs1 : setsP p.op p.x < 0 := by omega
          have hlo : lonB p = false := by
            cases h : lonB p
            · rfl
            · have := lonB_iff.1 h
              have hpx : setsP p.op p.x = p.x := by unfold setsP; rw [if_pos (by omega)]
              have := HX0.out (lonB_iff.1 h)
              omega
          have n4 : (p.op == 4) = false := by
            cases h : (p.op == 4)
            · rfl
            · unfold lonB at hlo; rw [h] at hlo; simp at hlo
          have n5 : (p.op == 5) = false := by
            cases h : (p.op == 5)
            · rfl
            · unfold lonB at hlo; rw [h] at hlo; simp at hlo
          have HPF : Hid (∀ e, e < pts.length → P'.getD e false = aftP ts pts i p (fun e => P.getD e false) e) := Lib.hid fun e _ => by
            have h2 := lonV_kill GD.out p e
            rw [lonV_neg GD.out hs1, Bool.or_false] at h2
            rw [HPE.out e, h2]; unfold aftP; rw [hlo]; simp
          have HAF : Hid (AfR ts Gloan (Cloan ts) pts.length i p F F') := Lib.hid (afr_mk (HFL.out.trans HL.out) HFE.out hs1)
          have HOF := HO6
          have HRF := HR16
          have HBF := HB6
          have HPLF := HPLw
          obtain ⟨Pz, rfl⟩ : ∃ Pz, Pz = P' := ⟨_, rfl⟩
          obtain ⟨Fz, rfl⟩ : ∃ Fz, Fz = F' := ⟨_, rfl⟩
          clear hlo hs0
          have r0 := frozen_of_row _ (w.heap.size + 1) 0 _ _ HRF.out
          have r1 := frozen_of_row _ (w.heap.size + 1) 1 _ _ HRF.out
          have q0 := cell_of_row _ (w.heap.size + 1) 0 _ _ _ HRF.out
          have q1 := cell_of_row _ (w.heap.size + 1) 1 _ _ _ HRF.out
          simp only [List.getElem?_toArray, List.getElem?_cons_zero, List.getElem?_cons_succ] at q0 q1
          go_wp2_with (at_builtin; fail)
          have HS2 := Lib.hid (box2 HRF.out (.slice A4 F.length c4) (.slice (some ⟨gp, 0, none⟩) P.length c5))
          have hX := (HOF.out.fr.toX (fun u hu => by rw [HAF.out.inn u (by rw [HAF.out.len] at hu; exact hu)]; omega))
          have hY := HOF.out.pl.toX (by rw [HPLF.out, HPL.out]; omega)
          have hGB := HS2.out.2
          refine bodyPost_ret (results_cell_row rfl _ _ (w.heap.size + 1) 99 _ (0, 0) _ rfl HS2.out.1 Try.underlying99 rfl rfl) rfl ⟨.slice A4 F.length c4, .slice (some ⟨gp, 0, none⟩) P.length c5, _, _, rfl, ?_, ?_, HAF.out, HPLF.out.trans HPL.out, HPF.out, ?_⟩
          · exact hX.frame hGB.size fun b hb hl => ⟨by have hb' : base ≤ b := hb; omega, hGB.block b hl (fun e => by injection e with e; have hb' : base ≤ b := hb; omega)⟩
          · exact hY.frame hGB.size fun b hb hl => ⟨by have hb' : w3.heap.size ≤ b := hb; omega, hGB.block b hl (fun e => by injection e with e; have hb' : w3.heap.size ≤ b := hb; omega)⟩
          · exact (HB0.out.trans (HBF.out.mono HB0.out.size)).trans ((grown_below hGB (by have := HBF.out.size; omega)).mono (by omega))

end Go.Proofs.Ytfioaohadanjmaa

/- Plain: the search for loans whose sets are rows of bools: where values come from, and what is placed. No program in sight. -/
namespace Go.Proofs.Ytfioaohadanjmaa

def qget (Q : List (List Bool)) (i e : Nat) : Bool := (Q.getD i []).getD e false
structure R4I (ts : List Int) (pts : List Pt) (R : List (List (List Bool))) (Q : List (List Bool)) : Prop where
  len : R.length = pts.length
  lenQ : Q.length = pts.length
  row : ∀ i, i < pts.length → (R.getD i []).length = ts.length
  inn : ∀ i v, i < pts.length → v < ts.length → ((R.getD i []).getD v []).length = pts.length
  innQ : ∀ i, i < pts.length → (Q.getD i []).length = pts.length
  sndR : ∀ i v e, get3 R i v e = true → Fl ts pts Gloan (Cloan ts) i v e
  sndQ : ∀ i e, qget Q i e = true → Pld ts pts i e
theorem qget_rep (n s i e : Nat) : qget (List.replicate n (List.replicate s false)) i e = false := by
  unfold qget
  have h2 : ∀ s, (List.replicate s false).getD e false = false := fun s => by
    by_cases h : e < s
    · rw [getD_lt (by simpa using h)]; simp
    · rw [getD_ge (by simpa using h)]
  by_cases h : i < n
  · rw [getD_lt (l := List.replicate n _) (by simpa using h), List.getElem_replicate]; exact h2 s
  · rw [getD_ge (l := List.replicate n _) (by simpa using h)]; simp
theorem R4I.init (ts : List Int) (pts : List Pt) : R4I ts pts (List.replicate pts.length (List.replicate ts.length (List.replicate pts.length false))) (List.replicate pts.length (List.replicate pts.length false)) := by
  have h := RwI.init ts pts Gloan (Cloan ts) pts.length
  exact ⟨h.len, by simp, fun i hi => h.row i (by simpa using hi), fun i v hi hv => h.inn i v (by simpa using hi) hv, fun i hi => by rw [getD_lt (by simpa using hi)]; simp, h.snd, fun i e he => by rw [qget_rep] at he; cases he⟩
def st4 (m : Nat) (R : List (List (List Bool))) (Q : List (List Bool)) (i v e : Nat) : Bool := if v < m then get3 R i v e else qget Q i e
def mu4 (ts : List Int) (pts : List Pt) (R : List (List (List Bool))) (Q : List (List Bool)) : Nat := muB pts.length (ts.length + 1) pts.length (st4 ts.length R Q)
/-- a row q' is q and what aq has -/
structure MrQ (s : Nat) (q aq q' : List Bool) : Prop where
  len : q'.length = s
  get : ∀ e, e < s → q'.getD e false = (q.getD e false || aq.getD e false)
theorem getD_in {l : List Bool} {e : Nat} (h : l.getD e false = true) : e < l.length := by
  rcases Nat.lt_or_ge e l.length with h1 | h1
  · exact h1
  · rw [getD_ge h1] at h; cases h
theorem R4I.upd {ts : List Int} {pts : List Pt} {R : List (List (List Bool))} {Q : List (List Bool)} {af r' : List (List Bool)} {aq q' : List Bool} {n : Nat} (h : R4I ts pts R Q) (hn : n < pts.length) (hm : Mrg ts.length pts.length (R.getD n []) af r') (hq : MrQ pts.length (Q.getD n []) aq q')
    (ha : ∀ v e, v < ts.length → e < pts.length → rget af v e = true → Fl ts pts Gloan (Cloan ts) n v e) (hp : ∀ e, e < pts.length → aq.getD e false = true → Pld ts pts n e) : R4I ts pts (R.set n r') (Q.set n q') := by
  have hnR : n < R.length := by rw [h.len]; exact hn
  have hnQ : n < Q.length := by rw [h.lenQ]; exact hn
  refine ⟨by rw [List.length_set]; exact h.len, by rw [List.length_set]; exact h.lenQ, fun i hi => ?_, fun i v hi hv => ?_, fun i hi => ?_, fun i v e he => ?_, fun i e he => ?_⟩
  · rw [getD_setT hnR]; split
    · exact hm.len
    · exact h.row i hi
  · rw [getD_setT hnR]; split
    · exact hm.inn v hv
    · exact h.inn i v hi hv
  · rw [getD_setT hnQ]; split
    · exact hq.len
    · exact h.innQ i hi
  · unfold get3 at he
    rw [getD_setT hnR] at he
    split at he
    · rename_i e1; subst e1
      have ho := rget_out hm.len hm.inn he
      rw [hm.get v e ho.1 ho.2, Bool.or_eq_true] at he
      rcases he with he | he
      · exact h.sndR i v e he
      · exact ha v e ho.1 ho.2 he
    · exact h.sndR i v e he
  · unfold qget at he
    rw [getD_setT hnQ] at he
    split at he
    · rename_i e1; subst e1
      have ho := getD_in he
      rw [hq.len] at ho
      rw [hq.get e ho, Bool.or_eq_true] at he
      rcases he with he | he
      · exact h.sndQ i e he
      · exact hp e ho he
    · exact h.sndQ i e he
theorem R4I.up {ts : List Int} {pts : List Pt} {R : List (List (List Bool))} {Q : List (List Bool)} {af r' : List (List Bool)} {aq q' : List Bool} {n : Nat} (h : R4I ts pts R Q) (hn : n < pts.length) (hm : Mrg ts.length pts.length (R.getD n []) af r') (hq : MrQ pts.length (Q.getD n []) aq q') (i v e : Nat) (he : st4 ts.length R Q i v e = true) : st4 ts.length (R.set n r') (Q.set n q') i v e = true := by
  have hnR : n < R.length := by rw [h.len]; exact hn
  have hnQ : n < Q.length := by rw [h.lenQ]; exact hn
  unfold st4 at *
  split
  · rename_i hv
    rw [if_pos hv] at he
    unfold get3 at *
    rw [getD_setT hnR]
    split
    · rename_i e1; subst e1
      have ho := rget_out (h.row i hn) (fun v hv => h.inn i v hn hv) he
      rw [hm.get v e ho.1 ho.2, he]; rfl
    · exact he
  · rename_i hv
    rw [if_neg hv] at he
    unfold qget at *
    rw [getD_setT hnQ]
    split
    · rename_i e1; subst e1
      have ho := getD_in he
      rw [h.innQ i hn] at ho
      rw [hq.get e ho, he]; rfl
    · exact he
theorem R4I.mu {ts : List Int} {pts : List Pt} {R : List (List (List Bool))} {Q : List (List Bool)} {af r' : List (List Bool)} {aq q' : List Bool} {n : Nat} (h : R4I ts pts R Q) (hn : n < pts.length) (hm : Mrg ts.length pts.length (R.getD n []) af r') (hq : MrQ pts.length (Q.getD n []) aq q')
    (hnew : (∃ e, e < pts.length ∧ aq.getD e false = true ∧ qget Q n e = false) ∨ ∃ v e, v < ts.length ∧ e < pts.length ∧ rget af v e = true ∧ get3 R n v e = false) : mu4 ts pts (R.set n r') (Q.set n q') < mu4 ts pts R Q := by
  have hnR : n < R.length := by rw [h.len]; exact hn
  have hnQ : n < Q.length := by rw [h.lenQ]; exact hn
  unfold mu4
  rcases hnew with ⟨e, he, h1, h0⟩ | ⟨v, e, hv, he, h1, h0⟩
  · refine muB_lt (i := n) (v := ts.length) (e := e) (fun i v e hf => h.up hn hm hq i v e hf) hn (by omega) he ?_ ?_
    · unfold st4; rw [if_neg (by omega)]; exact h0
    · unfold st4 qget; rw [if_neg (by omega), getD_setT hnQ, if_pos rfl, hq.get e he, h1, Bool.or_true]
  · refine muB_lt (i := n) (v := v) (e := e) (fun i v e hf => h.up hn hm hq i v e hf) hn (by omega) he ?_ ?_
    · unfold st4; rw [if_pos hv]; exact h0
    · unfold st4 get3; rw [if_pos hv, getD_setT hnR, if_pos rfl, hm.get v e hv he, h1, Bool.or_true]
/-- along the edge from i (p) to k nothing is missing -/
def ClE4 (ts : List Int) (pts : List Pt) (R : List (List (List Bool))) (Q : List (List Bool)) (i : Nat) (p : Pt) (k : Nat) : Prop :=
  (∀ v e, v < ts.length → e < pts.length → aftB ts Gloan (Cloan ts) i p (rget (R.getD i [])) v e = true → get3 R k v e = true) ∧ (∀ e, e < pts.length → aftP ts pts i p (fun e => (Q.getD i []).getD e false) e = true → qget Q k e = true)
def ClR4 (ts : List Int) (pts : List Pt) (R : List (List (List Bool))) (Q : List (List Bool)) (i : Nat) : Prop := ∀ p, pts[i]? = some p → ∀ k ∈ p.next, ClE4 ts pts R Q i p k
theorem R4I.done {ts : List Int} {pts : List Pt} {R : List (List (List Bool))} {Q : List (List Bool)} (h : R4I ts pts R Q) (hc : ∀ i, i < pts.length → ClR4 ts pts R Q i) : (∀ i v e, get3 R i v e = true ↔ Fl ts pts Gloan (Cloan ts) i v e) ∧ ∀ i e, qget Q i e = true ↔ Pld ts pts i e := by
  refine ⟨fun i v e => ⟨h.sndR i v e, fun hf => ?_⟩, fun i e => ⟨h.sndQ i e, fun hf => ?_⟩⟩
  · refine Fl.done (s := pts.length) (st := get3 R) (fun i p e hp hg => ?_) (fun i p k v e hp hk hv he ha => ?_) hf
    · have := (Gloan_iff.1 hg).2
      have := (List.getElem?_eq_some_iff.1 hp).1
      omega
    · exact (hc i (List.getElem?_eq_some_iff.1 hp).1 p hp k hk).1 v e hv he ha
  · refine Pld.done (st := qget Q) (fun i p k e hp hk he ha => ?_) hf
    exact (hc i (List.getElem?_eq_some_iff.1 hp).1 p hp k hk).2 e he ha

end Go.Proofs.Ytfioaohadanjmaa
