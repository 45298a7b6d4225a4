import Derived.Test.YtfioaohadanjmaaGreatU19
set_option linter.unusedVariables false

/- impl.machine: words; endOf, free, put. -/
namespace Go.Proofs.YtfioaohadanjmaaGreat
open Go.RowKit Go.Lib

def endV : Option Int → Int
  | none => -1
  | some e => e
theorem slCells_put {l : List Sl} {i : Nat} (hi : i < l.length) (y : Sl) : ((((slCells l).set (i * 4) (.bool y.set)).set (i * 4 + 1) (.int .i64 y.num)).set (i * 4 + 2) (.int .i64 (y.pc : Nat))).set (i * 4 + 3) (.int .i64 (y.pt : Nat)) = slCells (l.set i y) := by
  induction l generalizing i with
  | nil => simp at hi
  | cons x r ih =>
    cases i with
    | zero => simp [slCells]
    | succ i =>
      have := ih (i := i) (by simpa using hi)
      simp only [slCells, show (i + 1) * 4 = i * 4 + 4 by omega, show i * 4 + 4 + 1 = i * 4 + 1 + 4 by omega, show i * 4 + 4 + 2 = i * 4 + 2 + 4 by omega, show i * 4 + 4 + 3 = i * 4 + 3 + 4 by omega, List.set_cons_succ]
      rw [this]
theorem slCells_puts {w : World} {g : Nat} {l : List Sl} {i : Nat} (h : RowB w g 79 (slCells l)) (hi : i < l.length) (y : Sl) :
    RowB (w.setCells g (i * 4) [.bool y.set, .int .i64 y.num, .int .i64 (y.pc : Nat), .int .i64 (y.pt : Nat)]) g 79 (slCells (l.set i y)) := by
  rw [← slCells_put hi]
  exact (((h.set_ (i * 4) (.bool y.set)).set_ (i * 4 + 1) (.int .i64 y.num)).set_ (i * 4 + 2) (.int .i64 (y.pc : Nat))).set_ (i * 4 + 3) (.int .i64 (y.pt : Nat))
theorem RowB.kptO {w : World} {g : Nat} {T : TypeId} {L : List Value} (h : RowB w g T L) (o : Nat) (vs : List Value) : KpT T w (w.setCells g o vs) := by
  refine ⟨by rw [size_putL]; exact Nat.le_refl _, fun b cs T' hb hT => ?_⟩
  rw [heap_putL]
  · exact hb
  · rintro rfl
    have h : w.heap[b]? = some (.cells L.toArray T (0, 0)) := h
    rw [hb] at h
    injection h with h
    injection h with _ hT'
    exact hT hT'
theorem RowB.keepT {w w' : World} {g : Nat} {T T' : TypeId} {L : List Value} (h : RowB w g T L) (hk : KpT T' w w') (hT : T ≠ T') : RowB w' g T L := hk.2 _ _ _ h hT
theorem slAt_get {l : List Sl} {i : Nat} (h : i < l.length) : slAt l i = l[i] := by unfold slAt; rw [getD_lt h]
/-- below base nothing but blocks gm and gs has turned -/
structure Mab (base gm gs : Nat) (w w' : World) : Prop where
  os : w'.os = w.os
  tape : w'.tape = w.tape
  output : w'.output = w.output
  size : w.heap.size ≤ w'.heap.size
  oth : ∀ b, b < base → b ≠ gm → b ≠ gs → w'.heap[b]? = w.heap[b]?
theorem Mab.trans {base gm gs : Nat} {a b c : World} (h : Mab base gm gs a b) (k : Mab base gm gs b c) : Mab base gm gs a c := ⟨k.os.trans h.os, k.tape.trans h.tape, k.output.trans h.output, Nat.le_trans h.size k.size, fun i h1 h2 h3 => (k.oth i h1 h2 h3).trans (h.oth i h1 h2 h3)⟩
theorem Mab.ofB {base gm gs : Nat} {w w' : World} (h : Below base w w') : Mab base gm gs w w' := ⟨h.os, h.tape, h.output, h.size, fun i h1 _ _ => h.block i h1⟩
theorem Mab.of {base gm gs : Nat} {w w' : World} (h : Below w.heap.size w w') (hb : base ≤ w.heap.size) : Mab base gm gs w w' := Mab.ofB (h.mono hb)
theorem Mab.refl (base gm gs : Nat) (w : World) : Mab base gm gs w w := Mab.ofB (Below.refl base w)
theorem Mab.drew {base gm gs : Nat} {w w' : World} (h : Mab base gm gs w w') : Mab base gm gs w w'.drew := h.trans (Mab.ofB (Below.refl base w').drew)
theorem Mab.below {base gm gs B : Nat} {w w' : World} (h : Mab base gm gs w w') (h1 : B ≤ base) (h2 : B ≤ gm) (h3 : B ≤ gs) : Below B w w' := ⟨h.os, h.tape, h.output, h.size, fun i hi => h.oth i (by omega) (by omega) (by omega)⟩
theorem Mab.setM {base gm gs : Nat} (w : World) (o : Nat) (v : Value) : Mab base gm gs w (w.setCell ⟨gm, o, none⟩ v) := by
  have h : Below gm w (w.setCell ⟨gm, o, none⟩ v) := (Below.refl gm w).setCell (p := ⟨gm, o, none⟩) (Nat.le_refl _) _
  exact ⟨h.os, h.tape, h.output, h.size, fun i _ h2 _ => heap_setCell_other w ⟨gm, o, none⟩ i v h2⟩
theorem Mab.setS {base gm gs : Nat} (w : World) (o : Nat) (vs : List Value) : Mab base gm gs w (w.setCells gs o vs) := by
  have h : Below gs w (w.setCells gs o vs) := below_putL (Nat.le_refl _) vs o w
  exact ⟨h.os, h.tape, h.output, h.size, fun i _ _ h3 => heap_putL h3 vs o w⟩
/-- the machine in its block gm, its slots in block gs -/
structure MaS (w : World) (B base gm gs : Nat) (vg vc vl : Value) (ts : List Int) (pts : List Pt) (s : Ms) : Prop where
  bb : B ≤ base ∧ base ≤ w.heap.size
  g : GrS w B vg ts pts
  mr : RowB w gm 66 [vg, .slice (some ⟨gs, 0, none⟩) ts.length ts.length, vc, vl]
  hgm : B ≤ gm
  sr : RowB w gs 79 (slCells s.sl)
  hgs : B ≤ gs
  ce : MeS w base vc s.ce
  rd : OInts w base vl s.rd
  ok : MsOk ts s
theorem MaS.lt {w : World} {B base gm gs : Nat} {vg vc vl : Value} {ts : List Int} {pts : List Pt} {s : Ms} (h : MaS w B base gm gs vg vc vl ts pts s) : base ≤ w.heap.size ∧ gm < w.heap.size ∧ gs < w.heap.size := by
  have h1 := h.mr.lt
  have h2 := h.sr.lt
  have := h.bb
  exact ⟨by omega, h1, h2⟩
theorem MaS.bel {w w' : World} {B base gm gs : Nat} {vg vc vl : Value} {ts : List Int} {pts : List Pt} {s : Ms} (h : MaS w B base gm gs vg vc vl ts pts s) (hb : Below w.heap.size w w') : MaS w' B base gm gs vg vc vl ts pts s :=
  ⟨⟨h.bb.1, Nat.le_trans h.bb.2 hb.size⟩, h.g.low hb (by have := h.bb; have := h.lt; omega), h.mr.low hb h.lt.2.1, h.hgm, h.sr.low hb h.lt.2.2, h.hgs, h.ce.bel hb, h.rd.bel hb, h.ok⟩
theorem MaS.c {w : World} {B base gm gs : Nat} {vg vc vl : Value} {ts : List Int} {pts : List Pt} {s : Ms} (h : MaS w B base gm gs vg vc vl ts pts s) :
    w.cell? ⟨gm, 0, none⟩ = some vg ∧ w.cell? ⟨gm, 1, none⟩ = some (.slice (some ⟨gs, 0, none⟩) ts.length ts.length) ∧ w.cell? ⟨gm, 2, none⟩ = some vc ∧ w.cell? ⟨gm, 3, none⟩ = some vl := ⟨h.mr.cell 0, h.mr.cell 1, h.mr.cell 2, h.mr.cell 3⟩
theorem MaS.sl {w : World} {B base gm gs : Nat} {vg vc vl : Value} {ts : List Int} {pts : List Pt} {s : Ms} (h : MaS w B base gm gs vg vc vl ts pts s) {v : Nat} (hv : v < ts.length) :
    w.cell? ⟨gs, v * 4, none⟩ = some (.bool (slAt s.sl v).set) ∧ w.cell? ⟨gs, v * 4 + 1, none⟩ = some (.int .i64 (slAt s.sl v).num) ∧ w.cell? ⟨gs, v * 4 + 2, none⟩ = some (.int .i64 ((slAt s.sl v).pc : Nat)) ∧ w.cell? ⟨gs, v * 4 + 3, none⟩ = some (.int .i64 ((slAt s.sl v).pt : Nat)) := by
  have hl : v < s.sl.length := by rw [h.ok.ln]; exact hv
  rw [slAt_get hl]
  obtain ⟨a0, a1, a2, a3⟩ := slCells_at hl
  exact ⟨(h.sr.cell _).trans a0, (h.sr.cell _).trans a1, (h.sr.cell _).trans a2, (h.sr.cell _).trans a3⟩
theorem MaS.sf {w : World} {B base gm gs : Nat} {vg vc vl : Value} {ts : List Int} {pts : List Pt} {s : Ms} (h : MaS w B base gm gs vg vc vl ts pts s) (o : Nat) : w.frozen? ⟨gs, o, none⟩ = false := h.sr.frozen o
theorem MaS.mf {w : World} {B base gm gs : Nat} {vg vc vl : Value} {ts : List Int} {pts : List Pt} {s : Ms} (h : MaS w B base gm gs vg vc vl ts pts s) (o : Nat) : w.frozen? ⟨gm, o, none⟩ = false := h.mr.frozen o
/-- a new memory -/
theorem MaS.setCe {w : World} {B base gm gs : Nat} {vg vc vl : Value} {ts : List Int} {pts : List Pt} {s : Ms} (h : MaS w B base gm gs vg vc vl ts pts s) {vc' : Value} {ce' : List Cl} (hc : MeS w base vc' ce') (hok : okM ce') :
    MaS (w.setCell ⟨gm, 2, none⟩ vc') B base gm gs vg vc' vl ts pts ⟨s.sl, ce', s.rd⟩ ∧ Mab base gm gs w (w.setCell ⟨gm, 2, none⟩ vc') := by
  have hk : KpT 66 w (w.setCell ⟨gm, 2, none⟩ vc') := KpT.set_ h.mr 2 vc'
  have hb : Mab base gm gs w (w.setCell ⟨gm, 2, none⟩ vc') := Mab.setM w 2 vc'
  exact ⟨⟨⟨h.bb.1, Nat.le_trans h.bb.2 hb.size⟩, h.g.low (hb.below h.bb.1 h.hgm h.hgs) (Nat.le_refl _), h.mr.set_ 2 vc', h.hgm, h.sr.keepT hk (by decide), h.hgs, hc.keepT hk (by decide) (by decide), h.rd.keepT hk (by decide), ⟨hok, h.ok.ln⟩⟩, hb⟩
/-- a new slot -/
theorem MaS.setSl {w : World} {B base gm gs : Nat} {vg vc vl : Value} {ts : List Int} {pts : List Pt} {s : Ms} (h : MaS w B base gm gs vg vc vl ts pts s) {v : Nat} (hv : v < ts.length) (y : Sl) :
    MaS (w.setCells gs (v * 4) [.bool y.set, .int .i64 y.num, .int .i64 (y.pc : Nat), .int .i64 (y.pt : Nat)]) B base gm gs vg vc vl ts pts ⟨s.sl.set v y, s.ce, s.rd⟩ ∧ Mab base gm gs w (w.setCells gs (v * 4) [.bool y.set, .int .i64 y.num, .int .i64 (y.pc : Nat), .int .i64 (y.pt : Nat)]) := by
  have hl : v < s.sl.length := by rw [h.ok.ln]; exact hv
  have hk := h.sr.kptO (v * 4) [.bool y.set, .int .i64 y.num, .int .i64 (y.pc : Nat), .int .i64 (y.pt : Nat)]
  have hb : Mab base gm gs w (w.setCells gs (v * 4) [.bool y.set, .int .i64 y.num, .int .i64 (y.pc : Nat), .int .i64 (y.pt : Nat)]) := Mab.setS w _ _
  exact ⟨⟨⟨h.bb.1, Nat.le_trans h.bb.2 hb.size⟩, h.g.low (hb.below h.bb.1 h.hgm h.hgs) (Nat.le_refl _), h.mr.keepT hk (by decide), h.hgm, slCells_puts h.sr hl y, h.hgs, h.ce.keepT hk (by decide) (by decide), h.rd.keepT hk (by decide), ⟨h.ok.ce, by simpa using h.ok.ln⟩⟩, hb⟩
/-- what a step of the machine answers -/
def StepRet (w : World) (B base gm gs : Nat) (vg : Value) (ts : List Int) (pts : List Pt) (r : Ms × Option Int) (e : Ending) (w' : World) : Prop :=
  ∃ vc vl, e = .returned (.int .i64 (endV r.2)) ∧ MaS w' B base gm gs vg vc vl ts pts r.1 ∧ Mab base gm gs w w'
/-- what free answers: but for the machine's own block nothing old has turned -/
def FreRet (w : World) (B base gm gs : Nat) (vg vl : Value) (ts : List Int) (pts : List Pt) (r : Ms × Option Int) (e : Ending) (w' : World) : Prop :=
  ∃ vc, e = .returned (.int .i64 (endV r.2)) ∧ MaS w' B base gm gs vg vc vl ts pts r.1 ∧ Mab base gm gs w w' ∧ ∀ b, b < w.heap.size → b ≠ gm → w'.heap[b]? = w.heap[b]?
set_option maxRecDepth 100000 in
theorem endOf_any (c : Int) (w : World) : Calls Tryz.prog 98 #[.int .i64 c] w fun e w' => e = .returned (.int .i64 (endP c)) ∧ w = w' := by
  by_cases h : c = 1
  · have hq : (c == 1) = true := by simp [h]
    have HR : Hid (endP c = 3) := Lib.hid (by unfold endP; exact if_pos h)
    clear h
    go_enter Tryz.func98, Tryz.ntmps98
    go_wp2_with (at_builtin; fail)
    go_ret
    exact ⟨by rw [HR.out]; rfl, rfl⟩
  · have hq : (c == 1) = false := by simpa using h
    have HR : Hid (endP c = 4) := Lib.hid (by unfold endP; exact if_neg h)
    clear h
    go_enter Tryz.func98, Tryz.ntmps98
    go_wp2_with (at_builtin; fail)
    go_ret
    exact ⟨by rw [HR.out]; rfl, rfl⟩
set_option maxHeartbeats 8000000 in
set_option maxRecDepth 100000 in
theorem free_any (B base gm gs v : Nat) (vg vc vl : Value) (ts : List Int) (pts : List Pt) (s : Ms) (w : World) (h : MaS w B base gm gs vg vc vl ts pts s) (hv : v < ts.length) (h6 : ts.length ≤ 6) :
    Calls Tryz.prog 101 #[.pointer (some ⟨gm, 0, none⟩), .int .i64 (v : Nat)] w (FreRet w B base gm gs vg vl ts pts (⟨s.sl, (freeP s.ce (slAt s.sl v).pc (slAt s.sl v).pt).1, s.rd⟩, endO (freeP s.ce (slAt s.sl v).pc (slAt s.sl v).pt).2)) := by
  have H := Lib.hid h
  obtain ⟨-, c1, c2, -⟩ := h.c
  obtain ⟨-, -, s2, s3⟩ := h.sl hv
  obtain ⟨hbl, hgl, hsl⟩ := h.lt
  have HFR := Lib.hid (fun (wz : World) (hz : Below w.heap.size w wz) => iFreeCell_any vc s.ce (slAt s.sl v).pc (slAt s.sl v).pt base wz (h.ce.bel hz) h.ok.ce)
  have HOK := Lib.hid (h.ok.ce.free (slAt s.sl v).pc (slAt s.sl v).pt)
  have HSL := Lib.hid h.ok.ln
  obtain ⟨Ac, cc, rfl, -⟩ := h.ce.slice
  obtain ⟨m', code, hfp⟩ : ∃ m' code, freeP s.ce (slAt s.sl v).pc (slAt s.sl v).pt = (m', code) := ⟨_, _, rfl⟩
  rw [hfp] at HFR HOK ⊢
  clear h hfp
  generalize (slAt s.sl v).pc = pc at *
  generalize (slAt s.sl v).pt = pt at *
  go_enter Tryz.func101, Tryz.ntmps101
  go_wp2_with (at_builtin; fail)
  have BEL : Hid (∀ w', w'.cell? ⟨gm, 1, none⟩ = some (.slice (some ⟨gs, 0, none⟩) ts.length ts.length) ∧ w'.cell? ⟨gm, 2, none⟩ = some (.slice Ac s.ce.length cc) ∧ w'.cell? ⟨gs, v * 4 + 2, none⟩ = some (.int .i64 (pc : Nat)) ∧ w'.cell? ⟨gs, v * 4 + 3, none⟩ = some (.int .i64 (pt : Nat)) ∧ Below w.heap.size w w' → Below w.heap.size w w') := Lib.hid fun _ h => h.2.2.2.2
  refine wp_region_held_drew (S := (fun w' => w'.cell? ⟨gm, 1, none⟩ = some (.slice (some ⟨gs, 0, none⟩) ts.length ts.length) ∧ w'.cell? ⟨gm, 2, none⟩ = some (.slice Ac s.ce.length cc) ∧ w'.cell? ⟨gs, v * 4 + 2, none⟩ = some (.int .i64 (pc : Nat)) ∧ w'.cell? ⟨gs, v * 4 + 3, none⟩ = some (.int .i64 (pt : Nat)) ∧ Below w.heap.size w w')) (by kernel_rfl) ?_ (fun hHeld => ?_)
  · exact ⟨c1, c2, s2, s3, (Below.refl _ _).drew⟩
  refine wpAnyH_take (i := 0) (oi := ⟨some 8, _, _, _, _, _⟩) (v := ?_) rfl (by kernel_rfl) (by kernel_rfl) (by kernel_rfl) (fun _ _ _ h => h) (Or.inl ⟨by rfl, fun w' hSw => ?_⟩) (by assumption) ?_
  rotate_left
  · (try dsimp only at hSw); go_simp; (try with_reducible rfl)
  (try simp only [Act.put, List.setIfInBounds_toArray, List.set_cons_zero, List.set_cons_succ])
  refine wpAnyH_take (i := 1) (oi := ⟨some 9, _, _, _, _, _⟩) (v := ?_) rfl (by kernel_rfl) (by kernel_rfl) (by kernel_rfl) (fun _ _ _ h => h) (Or.inl ⟨by rfl, fun w' hSw => ?_⟩) (by assumption) ?_
  rotate_left
  · (try dsimp only at hSw); go_simp; (try with_reducible rfl)
  (try simp only [Act.put, List.setIfInBounds_toArray, List.set_cons_zero, List.set_cons_succ])
  refine wpAnyH_take (i := 2) (oi := ⟨some 10, _, _, _, _, _⟩) (v := ?_) rfl (by kernel_rfl) (by kernel_rfl) (by kernel_rfl) (fun _ _ _ h => h) (Or.inl ⟨by rfl, fun w' hSw => ?_⟩) (by assumption) ?_
  rotate_left
  · (try dsimp only at hSw); go_simp; (try with_reducible rfl)
  (try simp only [Act.put, List.setIfInBounds_toArray, List.set_cons_zero, List.set_cons_succ])
  refine wpAnyH_take (i := 3) (oi := ⟨some 11, _, _, _, _, _⟩) (v := ?_) rfl (by kernel_rfl) (by kernel_rfl) (by kernel_rfl) (fun _ _ _ h => h) (Or.inl ⟨by rfl, fun w' hSw => ?_⟩) (by assumption) ?_
  rotate_left
  · (try dsimp only at hSw); go_simp; (try with_reducible rfl)
  (try simp only [Act.put, List.setIfInBounds_toArray, List.set_cons_zero, List.set_cons_succ])
  refine wpAnyH_take (i := 4) (oi := ⟨some 12, _, _, _, _, _⟩) (v := ?_) rfl (by kernel_rfl) (by kernel_rfl) (by kernel_rfl) (fun _ _ _ h => h) (Or.inl ⟨by rfl, fun w' hSw => ?_⟩) (by assumption) ?_
  rotate_left
  · (try dsimp only at hSw); go_simp; (try with_reducible rfl)
  (try simp only [Act.put, List.setIfInBounds_toArray, List.set_cons_zero, List.set_cons_succ])
  refine wpAnyH_take (i := 5) (oi := ⟨some 13, _, _, _, _, _⟩) (v := ?_) rfl (by kernel_rfl) (by kernel_rfl) (by kernel_rfl) (fun _ _ _ h => h) (Or.inl ⟨by rfl, fun w' hSw => ?_⟩) (by assumption) ?_
  rotate_left
  · (try dsimp only at hSw); go_simp; (try with_reducible rfl)
  (try simp only [Act.put, List.setIfInBounds_toArray, List.set_cons_zero, List.set_cons_succ])
  refine wpAnyH_take (i := 6) (oi := ⟨some 14, _, _, _, _, _⟩) (v := ?_) rfl (by kernel_rfl) (by kernel_rfl) (by kernel_rfl) (fun _ _ _ h => h) (Or.inl ⟨by rfl, fun w' hSw => ?_⟩) (by assumption) ?_
  rotate_left
  · (try dsimp only at hSw); go_simp; (try with_reducible rfl)
  (try simp only [Act.put, List.setIfInBounds_toArray, List.set_cons_zero, List.set_cons_succ])
  refine wpAnyH_take (i := 7) (oi := ⟨some 15, _, _, _, _, _⟩) (v := ?_) rfl (by kernel_rfl) (by kernel_rfl) (by kernel_rfl) (fun _ _ _ h => h) (Or.inl ⟨by rfl, fun w' hSw => ?_⟩) (by assumption) ?_
  rotate_left
  · (try dsimp only at hSw); go_simp; (try with_reducible rfl)
  (try simp only [Act.put, List.setIfInBounds_toArray, List.set_cons_zero, List.set_cons_succ])
  refine wpAnyH_take (i := 8) (oi := ⟨some 16, _, _, _, _, _⟩) (v := ?_) rfl (by kernel_rfl) (by kernel_rfl) (by kernel_rfl) (fun _ _ _ h => h) (Or.inl ⟨by rfl, fun w' hSw => ?_⟩) (by assumption) ?_
  rotate_left
  · (try dsimp only at hSw); go_simp; (try with_reducible rfl)
  (try simp only [Act.put, List.setIfInBounds_toArray, List.set_cons_zero, List.set_cons_succ])
  refine wpAnyH_take (i := 9) (oi := ⟨some 17, _, _, _, _, _⟩) (v := ?_) rfl (by kernel_rfl) (by kernel_rfl) (by kernel_rfl) (fun _ _ _ h => h) (Or.inl ⟨by rfl, fun w' hSw => ?_⟩) (by assumption) ?_
  rotate_left
  · (try dsimp only at hSw); go_simp; (try with_reducible rfl)
  (try simp only [Act.put, List.setIfInBounds_toArray, List.set_cons_zero, List.set_cons_succ])
  refine wpAnyH_take (i := 10) (oi := ⟨some 18, _, _, _, _, _⟩) (v := ?_) rfl (by kernel_rfl) (by kernel_rfl) (by kernel_rfl) (fun _ _ _ h => h) (Or.inl ⟨by rfl, fun w' hSw => ?_⟩) (by assumption) ?_
  rotate_left
  · (try dsimp only at hSw); go_simp; (try with_reducible rfl)
  (try simp only [Act.put, List.setIfInBounds_toArray, List.set_cons_zero, List.set_cons_succ])
  refine wpAnyH_take (i := 11) (oi := ⟨some 19, _, _, _, _, _⟩) (v := ?_) rfl (by kernel_rfl) (by kernel_rfl) (by kernel_rfl) (fun _ _ _ h => h) (Or.inl ⟨by rfl, fun w' hSw => ?_⟩) (by assumption) ?_
  rotate_left
  · (try dsimp only at hSw); go_simp; (try with_reducible rfl)
  (try simp only [Act.put, List.setIfInBounds_toArray, List.set_cons_zero, List.set_cons_succ])
  refine wpAnyH_ready (rs := [12]) (by kernel_rfl) (by simp) ?_
  refine AllReadyH.cons (o := ⟨some 20, _, _, _, _, _⟩) rfl (fun K hK => ?_) AllReadyH.nil
  go_simp
  (have BY := (BEL.out _ (by assumption)))
  (refine (HFR.out _ BY).mono ?_)
  (rintro e w9 ⟨v9, rfl, hv9, hb9⟩)
  (have BX9 := Lib.hid (BY.trans (hb9.mono BY.size)))
  (have HV9 := Lib.hid (hv9.base (show base ≤ _ from Nat.le_trans hbl BY.size)))
  (obtain ⟨A9, c9, rfl, -⟩ := hv9.slice)
  clear hv9 hb9
  go_simp
  refine hK.out _ _ ?_ (fun hHeld => ?_)
  · exact ⟨(BX9.out.cell (p := ⟨gm, 1, none⟩) hgl).trans c1, (BX9.out.cell (p := ⟨gm, 2, none⟩) hgl).trans c2, (BX9.out.cell (p := ⟨gs, v * 4 + 2, none⟩) hsl).trans s2, (BX9.out.cell (p := ⟨gs, v * 4 + 3, none⟩) hsl).trans s3, BX9.out⟩
  clear hK K
  (try simp only [Act.put, List.setIfInBounds_toArray, List.set_cons_zero, List.set_cons_succ])
  refine wpAnyH_take (i := 13) (oi := ⟨some 7, _, _, _, _, _⟩) (v := ?_) rfl (by kernel_rfl) (by kernel_rfl) (by kernel_rfl) (fun _ _ _ h => h) (Or.inl ⟨by rfl, fun w' hSw => ?_⟩) (by assumption) ?_
  rotate_left
  · (try dsimp only at hSw); go_simp; (try with_reducible rfl)
  (try simp only [Act.put, List.setIfInBounds_toArray, List.set_cons_zero, List.set_cons_succ])
  refine wpAnyH_take (i := 14) (oi := ⟨some 21, _, _, _, _, _⟩) (v := ?_) rfl (by kernel_rfl) (by kernel_rfl) (by kernel_rfl) (fun _ _ _ h => h) (Or.inl ⟨by rfl, fun w' hSw => ?_⟩) (by assumption) ?_
  rotate_left
  · (try dsimp only at hSw); go_simp; (try with_reducible rfl)
  (try simp only [Act.put, List.setIfInBounds_toArray, List.set_cons_zero, List.set_cons_succ])
  refine wpAnyH_take (i := 15) (oi := ⟨some 22, _, _, _, _, _⟩) (v := ?_) rfl (by kernel_rfl) (by kernel_rfl) (by kernel_rfl) (fun _ _ _ h => h) (Or.inl ⟨by rfl, fun w' hSw => ?_⟩) (by assumption) ?_
  rotate_left
  · (try dsimp only at hSw); go_simp; (try with_reducible rfl)
  (try simp only [Act.put, List.setIfInBounds_toArray, List.set_cons_zero, List.set_cons_succ])
  refine wpAnyH_take (i := 16) (oi := ⟨some 5, _, _, _, _, _⟩) (v := ?_) rfl (by kernel_rfl) (by kernel_rfl) (by kernel_rfl) (fun _ _ _ h => h) (Or.inl ⟨by rfl, fun w' hSw => ?_⟩) (by assumption) ?_
  rotate_left
  · (try dsimp only at hSw); go_simp; (try with_reducible rfl)
  (try simp only [Act.put, List.setIfInBounds_toArray, List.set_cons_zero, List.set_cons_succ])
  refine wpAnyH_take (i := 17) (oi := ⟨some 6, _, _, _, _, _⟩) (v := ?_) rfl (by kernel_rfl) (by kernel_rfl) (by kernel_rfl) (fun _ _ _ h => h) (Or.inl ⟨by rfl, fun w' hSw => ?_⟩) (by assumption) ?_
  rotate_left
  · (try dsimp only at hSw); go_simp; (try with_reducible rfl)
  (try simp only [Act.put, List.setIfInBounds_toArray, List.set_cons_zero, List.set_cons_succ])
  refine wpAnyH_done (by kernel_rfl) ?_ _
  have H9 := Lib.hid (H.out.bel BX9.out)
  have f2 := H9.out.mf 2
  obtain ⟨-, -, z2, -⟩ := H9.out.c
  have HNC := Lib.hid (H9.out.setCe HV9.out HOK.out)
  have HOT : Hid (∀ b : Nat, b < w.heap.size → b ≠ gm → ∀ u, (w9.setCell ⟨gm, 2, none⟩ u).heap[b]? = w.heap[b]?) := Lib.hid fun b hb hne u => (heap_setCell_other w9 ⟨gm, 2, none⟩ b u hne).trans (BX9.out.block b hb)
  clear c1 c2 s2 s3 BEL
  by_cases hcode : code = 0
  · subst hcode
    go_wp2_with (at_builtin; fail)
    go_ret
    exact ⟨_, rfl, HNC.out.1, (Mab.of (gm := gm) (gs := gs) BX9.out hbl).trans HNC.out.2, fun b h1 h2 => HOT.out b h1 h2 _⟩
  · have hq : (code != 0) = true := by simpa using hcode
    have HEO : Hid (endV (endO code) = endP code) := Lib.hid (by unfold endO; rw [if_neg hcode]; rfl)
    clear hcode
    go_wp2_with (at_builtin; fail)
    refine (endOf_any code _).mono ?_
    rintro e w' ⟨rfl, rfl⟩
    go_wp2_with (at_builtin; fail)
    go_ret
    exact ⟨_, by rw [HEO.out]; rfl, HNC.out.1, (Mab.of (gm := gm) (gs := gs) BX9.out hbl).trans HNC.out.2, fun b h1 h2 => HOT.out b h1 h2 _⟩

end Go.Proofs.YtfioaohadanjmaaGreat

/- impl.machine: put, finish. -/
namespace Go.Proofs.YtfioaohadanjmaaGreat
open Go.RowKit Go.Lib

/-- the types, read through the machine -/
theorem MaS.ty {w : World} {B base gm gs : Nat} {vg vc vl : Value} {ts : List Int} {pts : List Pt} {s : Ms} (h : MaS w B base gm gs vg vc vl ts pts s) :
    ∃ gg At ct, vg = .pointer (some ⟨gg, 0, none⟩) ∧ gg < base ∧ w.cell? ⟨gg, 0, none⟩ = some (.slice At ts.length ct) ∧ ts.length ≤ ct ∧ (0 < ts.length → ∃ b off, At = some ⟨b, off, none⟩ ∧ b < base ∧ ∀ v, v < ts.length → w.cell? ⟨b, off + v, none⟩ = some (.int .i64 (ts.getD v 0))) := by
  obtain ⟨gg, At, ct, vb, Al, cl, e, hgB, g0, g1, g2, ht, hp, -, -⟩ := h.g.open_
  obtain ⟨A', c', e', h1, h2, hr⟩ := ht
  injection e' with e1 _ e2
  subst e1 e2
  have := h.bb
  refine ⟨gg, At, ct, e, by omega, g0, h1, fun hn => ?_⟩
  obtain ⟨b, off, e2, hb, -⟩ := hr.int_at hn
  refine ⟨b, off, e2, by omega, fun v hv => ?_⟩
  obtain ⟨b', off', e3, -, hc⟩ := hr.int_at hv
  rw [e2] at e3
  injection e3 with e3
  injection e3 with e4 e5
  subst e4 e5
  exact hc v hv
theorem putP_no {ts : List Int} {s : Ms} {v : Nat} {x : Sl} (h : ¬ (ts.getD v 0 = 2 ∧ (slAt s.sl v).set = true)) : putP ts s v x = (⟨s.sl.set v x, s.ce, s.rd⟩, none) := by unfold putP; exact if_neg h
theorem putP_yes {ts : List Int} {s : Ms} {v : Nat} {x : Sl} (h : ts.getD v 0 = 2 ∧ (slAt s.sl v).set = true) : putP ts s v x = (⟨s.sl.set v x, (freeP s.ce (slAt s.sl v).pc (slAt s.sl v).pt).1, s.rd⟩, endO (freeP s.ce (slAt s.sl v).pc (slAt s.sl v).pt).2) := by unfold putP; exact if_pos h
set_option maxHeartbeats 8000000 in
set_option maxRecDepth 100000 in
theorem put_any (B base gm gs v : Nat) (x : Sl) (vg vc vl : Value) (ts : List Int) (pts : List Pt) (s : Ms) (w : World) (h : MaS w B base gm gs vg vc vl ts pts s) (hv : v < ts.length) (h6 : ts.length ≤ 6) :
    Calls Tryz.prog 94 #[.pointer (some ⟨gm, 0, none⟩), .int .i64 (v : Nat), .agg #[.bool x.set, .int .i64 x.num, .int .i64 (x.pc : Nat), .int .i64 (x.pt : Nat)]] w (StepRet w B base gm gs vg ts pts (putP ts s v x)) := by
  have H := Lib.hid h
  have HX := Lib.hid (RowB.new w [.bool x.set, .int .i64 x.num, .int .i64 (x.pc : Nat), .int .i64 (x.pt : Nat)] 79)
  have HB0 := Lib.hid (bel_a w (.cells #[.bool x.set, .int .i64 x.num, .int .i64 (x.pc : Nat), .int .i64 (x.pt : Nat)] 79))
  have hbl := h.lt.1
  obtain ⟨gg, At, ct, rfl, -, -, -, -⟩ := h.ty
  clear h
  go_enter Tryz.func94, Tryz.ntmps94
  go_upto_region 1 with (at_builtin; fail)
  generalize w.alloc (.cells #[.bool x.set, .int .i64 x.num, .int .i64 (x.pc : Nat), .int .i64 (x.pt : Nat)] 79) = W at *
  obtain ⟨bx, hbx⟩ : ∃ bx, bx = w.heap.size := ⟨_, rfl⟩
  rw [← hbx] at HX ⊢
  have HBX := Lib.hid hbx
  have hs0 := HB0.out.size
  clear hbx
  have H1 := Lib.hid (H.out.bel HB0.out)
  obtain ⟨c0, c1, -, -⟩ := H1.out.c
  obtain ⟨s0, -, -, -⟩ := H1.out.sl hv
  obtain ⟨gg', At', ct', e, hgg, g0, hct, htc⟩ := H1.out.ty
  injection e with e
  injection e with e
  injection e with e _ _
  subst e
  obtain ⟨b, off, rfl, hbb, htv⟩ := htc (by omega)
  have t0 := htv v hv
  have hxl := HX.out.lt
  obtain ⟨ty, hty⟩ : ∃ ty, ty = ts.getD v 0 := ⟨_, rfl⟩
  rw [← hty] at t0
  obtain ⟨st, hst⟩ : ∃ st, st = (slAt s.sl v).set := ⟨_, rfl⟩
  rw [← hst] at s0
  have HTY := Lib.hid hty
  have HST := Lib.hid hst
  clear htc htv hty hst
  by_cases hcond : ty = 2 ∧ st = true
  · have HR := Lib.hid (putP_yes (s := s) (x := x) (show ts.getD v 0 = 2 ∧ (slAt s.sl v).set = true by rw [← HTY.out, ← HST.out]; exact hcond))
    obtain ⟨rfl, rfl⟩ := hcond
    have HFR := Lib.hid (free_any B base gm gs v _ vc vl ts pts s W H1.out hv h6)
    go_wp2_with (at_builtin; fail)
    refine HFR.out.mono ?_
    rintro e w2 ⟨vc2, rfl, hm2, hb2, ho2⟩
    have HM2 := Lib.hid hm2
    have HB2 := Lib.hid ((Mab.of (gm := gm) (gs := gs) HB0.out hbl).trans hb2)
    have HX2 : Hid (RowB w2 bx 79 [.bool x.set, .int .i64 x.num, .int .i64 (x.pc : Nat), .int .i64 (x.pt : Nat)]) := Lib.hid ((ho2 bx hxl (by have := H.out.lt; have := HBX.out; omega)).trans HX.out)
    clear hm2 hb2 ho2 c0 c1 s0 g0 t0 HFR
    have HM9 := HM2
    have HX9 := HX2
    have HB9 := HB2
    generalize w2 = w9 at *
    have hxl9 := HX9.out.lt
    have x0 := HX9.out.cell 0
    have x1 := HX9.out.cell 1
    have x2 := HX9.out.cell 2
    have x3 := HX9.out.cell 3
    simp only [List.getElem?_cons_zero, List.getElem?_cons_succ] at x0 x1 x2 x3
    obtain ⟨-, c1, -, -⟩ := HM9.out.c
    obtain ⟨u0, u1, u2, u3⟩ := HM9.out.sl hv
    have f0 := HM9.out.sf (v * 4)
    have f1 := HM9.out.sf (v * 4 + 1)
    have f2 := HM9.out.sf (v * 4 + 2)
    have f3 := HM9.out.sf (v * 4 + 3)
    have HF9 := Lib.hid (MaS.setSl (show MaS w9.drew B base gm gs _ _ _ ts pts _ from HM9.out.bel (Below.refl w9.heap.size w9).drew) hv x)
    obtain ⟨xs, xn, xc, xt⟩ := x
    simp only at HF9 x0 x1 x2 x3 HX9
    go_wp2_with (at_builtin; fail)
    go_region_law (fail)
    all_goals
      go_wp2_with (at_builtin; fail)
      go_ret
      exact ⟨_, _, by rw [HR.out]; rfl, by rw [HR.out]; exact HF9.out.1, (HB9.out.drew).trans HF9.out.2⟩
  · have HR := Lib.hid (putP_no (s := s) (x := x) (show ¬ (ts.getD v 0 = 2 ∧ (slAt s.sl v).set = true) by rw [← HTY.out, ← HST.out]; exact hcond))
    have HM9 := H1
    have HX9 := HX
    have HB9 := Lib.hid (Mab.of (gm := gm) (gs := gs) HB0.out hbl)
    have hs9 := HB9.out.size
    by_cases hty2 : ty = 2
    · have hst2 : st = false := by cases st with | false => rfl | true => exact absurd ⟨hty2, rfl⟩ hcond
      subst hty2 hst2
      clear hcond c1
      generalize W = w9 at *
      have hxl9 := HX9.out.lt
      have x0 := HX9.out.cell 0
      have x1 := HX9.out.cell 1
      have x2 := HX9.out.cell 2
      have x3 := HX9.out.cell 3
      simp only [List.getElem?_cons_zero, List.getElem?_cons_succ] at x0 x1 x2 x3
      obtain ⟨-, c1, -, -⟩ := HM9.out.c
      obtain ⟨u0, u1, u2, u3⟩ := HM9.out.sl hv
      have f0 := HM9.out.sf (v * 4)
      have f1 := HM9.out.sf (v * 4 + 1)
      have f2 := HM9.out.sf (v * 4 + 2)
      have f3 := HM9.out.sf (v * 4 + 3)
      have HF9 := Lib.hid (MaS.setSl (show MaS w9.drew B base gm gs _ _ _ ts pts _ from HM9.out.bel (Below.refl w9.heap.size w9).drew) hv x)
      obtain ⟨xs, xn, xc, xt⟩ := x
      simp only at HF9 x0 x1 x2 x3 HX9
      go_wp2_with (at_builtin; fail)
      go_region_law (fail)
      all_goals
        go_wp2_with (at_builtin; fail)
        go_ret
        exact ⟨_, _, by rw [HR.out]; rfl, by rw [HR.out]; exact HF9.out.1, (HB9.out.drew).trans HF9.out.2⟩
    · have hq : (ty == 2) = false := by simpa using hty2
      clear hcond hty2 c1
      generalize W = w9 at *
      have hxl9 := HX9.out.lt
      have x0 := HX9.out.cell 0
      have x1 := HX9.out.cell 1
      have x2 := HX9.out.cell 2
      have x3 := HX9.out.cell 3
      simp only [List.getElem?_cons_zero, List.getElem?_cons_succ] at x0 x1 x2 x3
      obtain ⟨-, c1, -, -⟩ := HM9.out.c
      obtain ⟨u0, u1, u2, u3⟩ := HM9.out.sl hv
      have f0 := HM9.out.sf (v * 4)
      have f1 := HM9.out.sf (v * 4 + 1)
      have f2 := HM9.out.sf (v * 4 + 2)
      have f3 := HM9.out.sf (v * 4 + 3)
      have HF9 := Lib.hid (MaS.setSl (show MaS w9.drew B base gm gs _ _ _ ts pts _ from HM9.out.bel (Below.refl w9.heap.size w9).drew) hv x)
      obtain ⟨xs, xn, xc, xt⟩ := x
      simp only at HF9 x0 x1 x2 x3 HX9
      go_wp2_with (at_builtin; fail)
      go_region_law (fail)
      all_goals
        go_wp2_with (at_builtin; fail)
        go_ret
        exact ⟨_, _, by rw [HR.out]; rfl, by rw [HR.out]; exact HF9.out.1, (HB9.out.drew).trans HF9.out.2⟩

end Go.Proofs.YtfioaohadanjmaaGreat

/- impl.machine.finish. -/
namespace Go.Proofs.YtfioaohadanjmaaGreat
open Go.RowKit Go.Lib

/-- the types, read through the machine -/
theorem MaS.ty2 {w : World} {B base gm gs gg ct : Nat} {At : Option Addr} {vc vl : Value} {ts : List Int} {pts : List Pt} {s : Ms} (h : MaS w B base gm gs (.pointer (some ⟨gg, 0, none⟩)) vc vl ts pts s) (g0 : w.cell? ⟨gg, 0, none⟩ = some (.slice At ts.length ct)) :
    0 < ts.length → ∃ b off, At = some ⟨b, off, none⟩ ∧ b < base ∧ ∀ v, v < ts.length → w.cell? ⟨b, off + v, none⟩ = some (.int .i64 (ts.getD v 0)) := by
  obtain ⟨gg', At', ct', vb, Al, cl, e, hgB, g0', g1, g2, ht, hp, -, -⟩ := h.g.open_
  injection e with e
  injection e with e
  injection e with e _ _
  subst e
  rw [g0] at g0'
  injection g0' with g0'
  injection g0' with e1 _ e2
  subst e1 e2
  obtain ⟨A', c', e', h1, h2, hr⟩ := ht
  injection e' with e1 _ e2
  subst e1 e2
  have := h.bb
  intro hn
  obtain ⟨b, off, e2, hb, -⟩ := hr.int_at hn
  refine ⟨b, off, e2, by omega, fun v hv => ?_⟩
  obtain ⟨b', off', e3, -, hc⟩ := hr.int_at hv
  rw [e2] at e3
  injection e3 with e3
  injection e3 with e4 e5
  subst e4 e5
  exact hc v hv
theorem finP_no {ts : List Int} {n v : Nat} {s : Ms} (h : ¬ (ts.getD v 0 = 2 ∧ (slAt s.sl v).set = true)) : finP ts (n + 1) v s = finP ts n (v + 1) s := by
  rw [finP]; exact if_neg h
theorem finP_go {ts : List Int} {n v : Nat} {s : Ms} {m : List Cl} (h : ts.getD v 0 = 2 ∧ (slAt s.sl v).set = true) (hf : freeP s.ce (slAt s.sl v).pc (slAt s.sl v).pt = (m, 0)) : finP ts (n + 1) v s = finP ts n (v + 1) ⟨s.sl.set v slD, m, s.rd⟩ := by
  rw [finP, if_pos h, hf]; exact if_pos rfl
theorem finP_stop {ts : List Int} {n v : Nat} {s : Ms} {m : List Cl} {code : Int} (h : ts.getD v 0 = 2 ∧ (slAt s.sl v).set = true) (hf : freeP s.ce (slAt s.sl v).pc (slAt s.sl v).pt = (m, code)) (hc : code ≠ 0) : finP ts (n + 1) v s = (⟨s.sl, m, s.rd⟩, endP code) := by
  rw [finP, if_pos h, hf]; exact if_neg hc
set_option maxHeartbeats 8000000 in
set_option maxRecDepth 100000 in
theorem finish_any (B base gm gs : Nat) (vg vc vl : Value) (ts : List Int) (pts : List Pt) (s : Ms) (w : World) (h : MaS w B base gm gs vg vc vl ts pts s) (h6 : ts.length ≤ 6) :
    Calls Tryz.prog 102 #[.pointer (some ⟨gm, 0, none⟩)] w (StepRet w B base gm gs vg ts pts ((finP ts ts.length 0 s).1, some (finP ts ts.length 0 s).2)) := by
  have H := Lib.hid h
  have hbl := h.lt.1
  obtain ⟨gg, At, ct, vb, Al, cl, rfl, hgB, g0, -, -, ht, -, -, -⟩ := h.g.open_
  have hct : ts.length ≤ ct := by
    obtain ⟨A', c', e', h1, -⟩ := ht
    injection e' with _ _ e2
    omega
  obtain ⟨c0, -, -, -⟩ := h.c
  have HGM := Lib.hid (show B ≤ base ∧ B ≤ gm ∧ B ≤ gs from ⟨h.bb.1, h.hgm, h.hgs⟩)
  clear h ht
  go_enter Tryz.func102, Tryz.ntmps102
  go_wp2_with (at_builtin; fail)
  have HG0 := Lib.hid g0
  clear c0 g0
  go_loopw [15] (fun i wr => ∃ (k : Nat) (vc' : Value) (s' : Ms), k ≤ ts.length ∧ i = .int .i64 k ∧ MaS wr B base gm gs (.pointer (some ⟨gg, 0, none⟩)) vc' vl ts pts s' ∧ finP ts (ts.length - k) k s' = finP ts ts.length 0 s ∧ Mab base gm gs w wr) (fun i _ => ts.length - (intOf i).toNat)
  case atStart => exact ⟨0, vc, s, Nat.zero_le _, rfl, H.out, rfl, Mab.refl _ _ _ _⟩
  case round =>
    obtain ⟨k, vc', s', hk, rfl, hm, hf, hbw⟩ := hrel
    have HM := Lib.hid hm
    have HF := Lib.hid hf
    have HBW := Lib.hid hbw
    have hsw := hbw.size
    by_cases hlt : k < ts.length
    · have g0 := ((hbw.below HGM.out.1 HGM.out.2.1 HGM.out.2.2).cell (p := ⟨gg, 0, none⟩) hgB).trans HG0.out
      obtain ⟨b, off, rfl, hbb, htc⟩ := hm.ty2 g0 (by omega)
      have t0 := htc k hlt
      obtain ⟨c0, c1, -, -⟩ := hm.c
      obtain ⟨s0, -, -, -⟩ := hm.sl hlt
      obtain ⟨ty, hty⟩ : ∃ ty, ty = ts.getD k 0 := ⟨_, rfl⟩
      rw [← hty] at t0
      obtain ⟨st, hst⟩ : ∃ st, st = (slAt s'.sl k).set := ⟨_, rfl⟩
      rw [← hst] at s0
      have HTY := Lib.hid hty
      have HST := Lib.hid hst
      have HNK : Hid (ts.length - k = (ts.length - (k + 1)) + 1) := Lib.hid (by omega)
      clear hm hf hbw htc g0 hty hst
      by_cases hcond : ty = 2 ∧ st = true
      · have HCD : Hid (ts.getD k 0 = 2 ∧ (slAt s'.sl k).set = true) := Lib.hid (by rw [← HTY.out, ← HST.out]; exact hcond)
        obtain ⟨rfl, rfl⟩ := hcond
        have HFR := Lib.hid (free_any B base gm gs k _ vc' vl ts pts s' wr HM.out hlt h6)
        obtain ⟨m1, code, hfp⟩ : ∃ m1 code, freeP s'.ce (slAt s'.sl k).pc (slAt s'.sl k).pt = (m1, code) := ⟨_, _, rfl⟩
        rw [hfp] at HFR
        have HFP := Lib.hid hfp
        clear hfp
        by_cases hcode : code = 0
        · subst hcode
          have HFN : Hid (finP ts (ts.length - (k + 1)) (k + 1) ⟨s'.sl.set k slD, m1, s'.rd⟩ = finP ts ts.length 0 s) := Lib.hid (by rw [← HF.out, HNK.out, finP_go HCD.out HFP.out])
          go_wp2_with (at_builtin; fail)
          refine HFR.out.mono ?_
          rintro e w2 ⟨vc2, rfl, hm2, hb2, -⟩
          have HM2 := Lib.hid hm2
          have HB2 := Lib.hid (HBW.out.trans hb2)
          obtain ⟨-, c1', -, -⟩ := hm2.c
          obtain ⟨u0, u1, u2, u3⟩ := hm2.sl hlt
          have f0 := hm2.sf (k * 4)
          have f1 := hm2.sf (k * 4 + 1)
          have f2 := hm2.sf (k * 4 + 2)
          have f3 := hm2.sf (k * 4 + 3)
          have HS := Lib.hid (MaS.setSl hm2 hlt slD)
          have hev : endV (endO 0) = -1 := rfl
          clear hm2 hb2 c0 c1 s0 t0 HFR
          rw [show endV ((⟨s'.sl, (m1, (0 : Int)).1, s'.rd⟩, endO (m1, (0 : Int)).2) : Ms × Option Int).2 = -1 from rfl]
          clear hev
          go_wp2_with (at_builtin; fail)
          exact ⟨⟨k + 1, vc2, _, by omega, by go_num, HS.out.1, HFN.out, HB2.out.trans HS.out.2⟩, by simp [intOf] <;> omega⟩
        · have HFN : Hid (finP ts ts.length 0 s = (⟨s'.sl, m1, s'.rd⟩, endP code)) := Lib.hid (by rw [← HF.out, HNK.out, finP_stop HCD.out HFP.out hcode])
          have HEO : Hid (endV (endO code) = endP code) := Lib.hid (by unfold endO; rw [if_neg hcode]; rfl)
          have hep : (endP code != -1) = true := by unfold endP; split <;> decide
          clear hcode
          go_wp2_with (at_builtin; fail)
          refine HFR.out.mono ?_
          rintro e w2 ⟨vc2, rfl, hm2, hb2, -⟩
          rw [show endV ((⟨s'.sl, (m1, code).1, s'.rd⟩, endO (m1, code).2) : Ms × Option Int).2 = endP code from HEO.out]
          have HM2 := Lib.hid hm2
          have HB2 := Lib.hid (HBW.out.trans hb2)
          clear hm2 hb2 c0 c1 s0 t0 HFR
          go_wp2_with (at_builtin; fail)
          go_ret
          exact ⟨_, _, by rw [HFN.out]; rfl, by rw [HFN.out]; exact HM2.out, HB2.out⟩
      · have HCD : Hid (¬ (ts.getD k 0 = 2 ∧ (slAt s'.sl k).set = true)) := Lib.hid (by rw [← HTY.out, ← HST.out]; exact hcond)
        have HFN : Hid (finP ts (ts.length - (k + 1)) (k + 1) s' = finP ts ts.length 0 s) := Lib.hid (by rw [← HF.out, HNK.out, finP_no HCD.out])
        by_cases hty2 : ty = 2
        · have hst2 : st = false := by cases st with | false => rfl | true => exact absurd ⟨hty2, rfl⟩ hcond
          subst hty2 hst2
          clear hcond
          go_wp2_with (at_builtin; fail)
          exact ⟨⟨k + 1, vc', s', by omega, by go_num, HM.out, HFN.out, HBW.out⟩, by simp [intOf] <;> omega⟩
        · have hq : (ty != 2) = true := by simpa using hty2
          clear hcond hty2
          go_wp2_with (at_builtin; fail)
          exact ⟨⟨k + 1, vc', s', by omega, by go_num, HM.out, HFN.out, HBW.out⟩, by simp [intOf] <;> omega⟩
    · have hke : k = ts.length := by omega
      have HFN : Hid (finP ts ts.length 0 s = (s', 0)) := Lib.hid (by rw [← HF.out, hke, Nat.sub_self]; rfl)
      clear hm hf hbw hke
      go_wp2_with (at_builtin; fail)
      go_ret
      exact ⟨_, _, by rw [HFN.out]; rfl, by rw [HFN.out]; exact HM.out, HBW.out⟩

end Go.Proofs.YtfioaohadanjmaaGreat
