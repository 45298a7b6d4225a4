import Derived.Test.YteaddodjijlpjaaG26
import Derived.Test.YteaddodjijlpjaaG09
import Derived.RegionTactic
import Derived.Laws.OwnMore
set_option linter.unusedVariables false

/- Rows of sets of 64 bits; impl.graph.tracked. -/
namespace Go.Proofs.Yteaddodjijlpjaa
open Go.RowKit

theorem RowB.grown {w w' : World} {g g' : Nat} {t : TypeId} {l : List Value} (h : RowB w g t l) (k : w.grownBy w' (some g')) (hne : g ≠ g') : RowB w' g t l :=
  (k.block g h.lt (fun e => hne (by injection e))).trans h
theorem Try.infoFrom : (Try.prog.info? 68).map (fun i => (i.zero, i.size, i.bytes)) = some (some (.agg #[.int .u64 0, .int .u64 0, .int .u64 0, .int .u64 0, .int .u64 0, .int .u64 0]), 6, 48) := by kernel_rfl
theorem list6 {α : Type} {l : List α} (h : l.length = 6) : ∃ a b c d e f, l = [a, b, c, d, e, f] := by
  match l, h with
  | [a, b, c, d, e, f], _ => exact ⟨a, b, c, d, e, f, rfl⟩
/-- make([]from, n) -/
theorem make_from (n : Nat) (hn : n ≤ 100000) (W : World) : (Instr.makeSlice 69 (.int .i64 (n : Int)) (.int .i64 (n : Int))).run Try.prog W = .ok (.slice (some ⟨W.heap.size, 0, none⟩) n n) (W.alloc (.cells (uv (List.replicate (n * 6) 0)).toArray 68)) := by
  obtain ⟨i0, hi0, hz0, hz1, hz2⟩ := info_parts Try.infoFrom
  have h := run_make (P := Try.prog) W 69 68 i0 _ Try.underlying69 hi0 hz0 .i64 .i64 (n : Int) (n : Int) (by omega) (by omega) (by rw [hz2]; omega) (by omega)
  simp only [Int.toNat_natCast] at h
  rw [h, hz1]
  have e : madeCells (Value.cells (.agg #[.int .u64 0, .int .u64 0, .int .u64 0, .int .u64 0, .int .u64 0, .int .u64 0])) (n * 6) = (uv (List.replicate (n * 6) 0)).toArray := by
    apply Array.ext
    · rw [size_madeCells]; simp [uv]
    · intro i h1 h2
      rw [size_madeCells] at h1
      simp only [madeCells, Value.cells, uv, List.map_replicate, List.getElem_toArray, List.getElem_replicate]
      have h6 : i % 6 = 0 ∨ i % 6 = 1 ∨ i % 6 = 2 ∨ i % 6 = 3 ∨ i % 6 = 4 ∨ i % 6 = 5 := by omega
      rcases h6 with h | h | h | h | h | h <;> simp [h]
  rw [e]
/-- one element of an array of six -/
theorem index_from {a b c d e f : Nat} {u : Nat} (hu : u < 6) (w : World) : (Instr.index 68 (.agg #[.int .u64 (a : Nat), .int .u64 (b : Nat), .int .u64 (c : Nat), .int .u64 (d : Nat), .int .u64 (e : Nat), .int .u64 (f : Nat)]) (.int .i64 (u : Nat))).run Try.prog w = .ok (.int .u64 (([a, b, c, d, e, f].getD u 0 : Nat) : Int)) w := by
  have h : u = 0 ∨ u = 1 ∨ u = 2 ∨ u = 3 ∨ u = 4 ∨ u = 5 := by omega
  rcases h with rfl | rfl | rfl | rfl | rfl | rfl <;> simp [Instr.index, run_underlying Try.underlying68, asIntOf, go_sem]

theorem OInts.oth {w w' : World} {base g : Nat} {v : Value} {l : List Int} (h : OInts w base v l) (hg : g < base) (k : w.grownBy w' (some g)) : OInts w' base v l :=
  World.ownsRow.kept h k (.inr (by
    cases e : v.ownBlock with
    | none => simp
    | some k => intro e'; injection e' with e'; have := (World.ownsRow.lt h k e).1; omega))
theorem OInts.at_ {w : World} {base : Nat} {A : Option Addr} {n c : Nat} {l : List Int} (h : OInts w base (.slice A n c) l) {k : Nat} (hk : k < l.length) :
    ∃ g, A = some ⟨g, 0, none⟩ ∧ base ≤ g ∧ g < w.heap.size ∧ n = l.length ∧ w.cell? ⟨g, k, none⟩ = some (.int .i64 (l.getD k 0)) := by
  obtain ⟨A', c', e, _⟩ := h.slice
  injection e with _ e2 _
  subst e2
  obtain ⟨g, cap, e, hb, hlt⟩ := World.ownsRow.form h (by omega)
  injection e with e1 _ e3
  subst e1 e3
  refine ⟨g, rfl, hb, hlt, rfl, ?_⟩
  rw [World.ownsRow.cellAt h k (by omega), List.getElem?_map, List.getElem?_eq_getElem hk, getD_lt hk]; rfl
/-- bits, with a slice of its own -/
def OIntsRet (w : World) (l : List Int) (e : Ending) (w' : World) : Prop := ∃ v, e = .returned v ∧ OInts w' w.heap.size v l ∧ Below w.heap.size w w'
set_option maxHeartbeats 1000000 in
theorem bits_own (m : Nat) (hm : m < 64) (w : World) : Calls Try.prog 63 #[.int .i64 (m : Nat)] w (OIntsRet w (lst 6 m.testBit)) := by
  go_enter Try.func63, Try.ntmps63
  go_wp2_with fail
  go_loopw [3, 4] (fun v i wr => ∃ (k : Nat) (l : List Int), k ≤ 6 ∧ i = .int .i64 k ∧ l = lst k m.testBit ∧ OInts wr w.heap.size v l ∧ Below w.heap.size w wr) (fun _ i _ => 6 - (intOf i).toNat)
  case atStart => exact ⟨0, [], by omega, rfl, rfl, OInts.nil _ _, Below.refl _ _⟩
  case round =>
    obtain ⟨k, l, hk, rfl, hl, hP, hb⟩ := hrel
    have HL := Lib.hid hl
    clear hl
    obtain ⟨A, c, rfl, hc⟩ := hP.slice
    obtain ⟨q, hq⟩ : ∃ q : Nat, ((m : Int) / 2 ^ k) = q := ⟨m / 2 ^ k, by simp⟩
    have hq' : q = m / 2 ^ k := by
      have : ((m / 2 ^ k : Nat) : Int) = q := by rw [← hq]; simp
      omega
    have hq64 : q ≤ 63 := by rw [hq']; exact Nat.le_trans (Nat.div_le_self _ _) (by omega)
    have HQ := Lib.hid hq'
    clear hq'
    have hbt := bit_test HQ.out hq64
    by_cases hpos : 0 < q
    · have hk5 : k < 6 := by
        rcases Nat.lt_or_ge k 6 with h | h
        · exact h
        · have hp : 64 ≤ 2 ^ k := Nat.pow_le_pow_right (n := 2) (by omega) h
          have := HQ.out
          rw [Nat.div_eq_of_lt (by omega)] at this
          omega
      cases hbk : m.testBit k
      · rw [hbk] at hbt
        have HBK := Lib.hid hbk
        clear hbk
        go_wp2_with (at_builtin; fail)
        refine ⟨⟨k + 1, l, by omega, by go_num, by rw [lst_succ_false HBK.out]; exact HL.out, hP, hb⟩, by simp [intOf]; omega⟩
      · rw [hbk] at hbt
        have HBK := Lib.hid hbk
        clear hbk
        have hll : l.length ≤ 6 := by rw [HL.out]; have := lst_len k m.testBit; omega
        go_wp2_with (at_builtin; go_must (refine wpList_push_int rfl (.tmp 16) (.tmp 18) rfl hP hb.size (by omega) _ rfl rfl ?_); intro v' w' hP' hE')
        refine ⟨⟨k + 1, _, by omega, by go_num, by rw [lst_succ_true HBK.out, HL.out], hP', hb.trans ((((Evo.alloc w.heap.size 3 _ _).trans hE').below hb.size))⟩, by simp [intOf]; omega⟩
    · have hq0 : q = 0 := by omega
      subst hq0
      go_wp2_with (at_builtin; fail)
      go_ret
      have hfin : lst k m.testBit = lst 6 m.testBit := lst_more hk fun i h1 h2 => by
        rw [Nat.testBit_eq_decide_div_mod_eq]
        have h0 : m < 2 ^ k := by
          have := HQ.out
          rcases Nat.lt_or_ge m (2 ^ k) with h | h
          · exact h
          · have := Nat.div_pos h (Nat.two_pow_pos k); omega
        have hp : 2 ^ k ≤ 2 ^ i := Nat.pow_le_pow_right (n := 2) (by omega) h1
        rw [Nat.div_eq_of_lt (by omega)]
        rfl
      refine ⟨_, rfl, ?_, hb⟩
      rw [← hfin, ← HL.out]
      exact hP

/-- what the function F (with what it caught) answers at a point: what is made there, or taken over -/
def SetsC (w0 : World) (F : FuncId) (caps : Array Value) (pts : List Pt) (G : Nat → Pt → Nat → Bool) (C : Pt → Bool) : Prop :=
  ∀ (w : World) (k : Nat) (p : Pt) (fv : List Nat), Below w0.heap.size w0 w → pts[k]? = some p → 0 ≤ setsP p.op p.x → fv.length = 6 → (∀ m ∈ fv, m < top64) →
    Calls Try.prog F (#[.int .i64 (k : Nat), .agg (uv fv).toArray] ++ caps) w fun e w' => ∃ s : Nat, e = .returned (.int .u64 (s : Nat)) ∧ s < top64 ∧ (∀ e, s.testBit e = (G k p e || (C p && (fv.getD p.y.toNat 0).testBit e))) ∧ Below w.heap.size w w'
/-- what tracked answers: the slice, its block -/
def TrRet (w : World) (ts : List Int) (pts : List Pt) (G : Nat → Pt → Nat → Bool) (C : Pt → Bool) (e : Ending) (w' : World) : Prop :=
  ∃ g fs, e = .returned (.slice (some ⟨g, 0, none⟩) pts.length pts.length) ∧ w.heap.size ≤ g ∧ RowB w' g 68 (uv fs) ∧ fs.length = pts.length * 6 ∧ (∀ m ∈ fs, m < top64) ∧ (∀ i v e, stF fs i v e = true ↔ Fl ts pts G C i v e) ∧ Below w.heap.size w w'

set_option maxHeartbeats 8000000
set_option maxRecDepth 100000
theorem tracked_any (vg : Value) (ts : List Int) (pts : List Pt) (B : Nat) (w : World) (F : FuncId) (caps : Array Value) (G : Nat → Pt → Nat → Bool) (C : Pt → Bool) (hE : ∀ (args : Array Value) (w : World), (callFunc F args).run Try.prog w = .ok (.enter F args) w) (hF : SetsC w F caps pts G C) (hg : GrS w B vg ts pts) (hB : B ≤ w.heap.size) (gd : Good ts pts) (hG : ∀ i p e, pts[i]? = some p → G i p e = true → e < 64) :
    Calls Try.prog 65 #[vg, .func (.func F) #[] caps] w (TrRet w ts pts G C) := by
  have HG := Lib.hid hg
  have GD := Lib.hid gd
  have HF := Lib.hid hF
  have HE := Lib.hid hE
  clear hE
  have HGS := Lib.hid hG
  have h6 := gd.h6
  have hpl := gd.len
  have h0 := gd.pos
  clear hF gd hG
  obtain ⟨g, At, ct, vb, Al, cl, rfl, hgB, g0, g1, g2, ht, hp, htl, hpl'⟩ := hg.open_
  have hmk := make_from pts.length (by omega)
  go_enter Try.func65, Try.ntmps65
  go_wp2_with fail
  have hrow : RowB (w.alloc (.cells (uv (List.replicate (pts.length * 6) 0)).toArray 68)) w.heap.size 68 (uv (List.replicate (pts.length * 6) 0)) := RowB.new _ _ _
  have hinit := TrI.init ts pts G C
  have hbw := bel_a w (.cells (uv (List.replicate (pts.length * 6) 0)).toArray 68)
  generalize List.replicate (pts.length * 6) 0 = fs0 at *
  clear hmk
  go_loopg [6] (1 + muB pts.length 6 64 (stF fs0)) (fun gk c wr => ∃ (b : Bool) (ms : List Nat), c = .bool b ∧ RowB wr w.heap.size 68 (uv ms) ∧ TrI ts pts G C ms ∧ (b = true → muB pts.length 6 64 (stF ms) < gk) ∧ (b = false → ∀ i, i < pts.length → ClT ts pts G C ms i) ∧ Below w.heap.size w wr)
  case atStart => exact ⟨true, fs0, rfl, hrow, hinit, fun _ => by omega, fun h => (by cases h), hbw⟩
  case round =>
    obtain ⟨bc, ms, rfl, hrw, hfw, hmu, hcl, hbr⟩ := hrel
    have HFW := Lib.hid hfw
    have HMU := Lib.hid hmu
    have HCL := Lib.hid hcl
    have HRW := Lib.hid hrw
    have hsz := hbr.size
    have HML := Lib.hid hfw.len
    have g2' := (hbr.cell (p := ⟨g, 2, none⟩) (by show g < _; omega)).trans g2
    clear hfw hmu hcl hrw
    cases bc
    · go_wp2_with fail
      go_ret
      exact ⟨w.heap.size, ms, rfl, Nat.le_refl _, HRW.out, HML.out, HFW.out.small, HFW.out.done h6 HGS.out (HCL.out (by simp)), hbr⟩
    · go_wp2_with fail
      go_loopw [6, 29] (fun c i wx => ∃ (b : Bool) (k : Nat) (ns : List Nat), c = .bool b ∧ i = .int .i64 k ∧ k ≤ pts.length ∧ RowB wx w.heap.size 68 (uv ns) ∧ TrI ts pts G C ns ∧ (b = true → muB pts.length 6 64 (stF ns) < muB pts.length 6 64 (stF ms)) ∧ (b = false → ns = ms ∧ ∀ i, i < k → ClT ts pts G C ms i) ∧ Below w.heap.size w wx) (fun _ i _ => pts.length - (intOf i).toNat)
      case atStart => exact ⟨false, 0, ms, rfl, rfl, by omega, HRW.out, HFW.out, fun h => (by cases h), fun _ => ⟨rfl, fun i hi => by omega⟩, hbr⟩
      case round =>
        obtain ⟨bc, k, ns, rfl, rfl, hk, hrw, hfw, hmu, hcl, hbx⟩ := hrel
        have HFX := Lib.hid hfw
        have HMX := Lib.hid hmu
        have HCX := Lib.hid hcl
        have HRX := Lib.hid hrw
        have hszx := hbx.size
        have HLX := Lib.hid hfw.len
        clear hfw hmu hcl hrw g2'
        by_cases hlt : k < pts.length
        · obtain ⟨b, off, c, nv, e, hb, hc, hl, hnx, z0, z1, z2, z3, z4⟩ := hp.get hlt
          injection e with e1 e9 e2
          subst e1 e2
          clear e9
          have hbB : b < w.heap.size := by omega
          have HNX := Lib.hid hnx
          obtain ⟨An, cn, rfl, hcn, hln, -⟩ := hnx
          simp only [List.length_map] at hcn hln z4 HNX
          have p0 := (hbx.cell (p := ⟨b, off + k * 5, none⟩) hbB).trans z0
          have p1 := (hbx.cell (p := ⟨b, off + k * 5 + 1, none⟩) hbB).trans z1
          have p2 := (hbx.cell (p := ⟨b, off + k * 5 + 2, none⟩) hbB).trans z2
          have p3 := (hbx.cell (p := ⟨b, off + k * 5 + 3, none⟩) hbB).trans z3
          have p4 := (hbx.cell (p := ⟨b, off + k * 5 + 4, none⟩) hbB).trans z4
          clear z0 z1 z2 z3 z4
          have HPG := Lib.hid (List.getElem?_eq_getElem hlt)
          have HSK := Lib.hid ((GD.out.ok _ (List.getElem_mem hlt)).sets)
          have HNK := Lib.hid (GD.out.next _ (List.getElem_mem hlt))
          have HPE : Hid (∃ P, P = pts[k]) := Lib.hid ⟨_, rfl⟩
          generalize pts[k] = P at *
          have hkl : k * 6 + 5 < ns.length := by have := HLX.out; omega
          obtain ⟨a0, ha0⟩ : ∃ a, a = ns.getD (k * 6) 0 := ⟨_, rfl⟩
          obtain ⟨a1, ha1⟩ : ∃ a, a = ns.getD (k * 6 + 1) 0 := ⟨_, rfl⟩
          obtain ⟨a2, ha2⟩ : ∃ a, a = ns.getD (k * 6 + 2) 0 := ⟨_, rfl⟩
          obtain ⟨a3, ha3⟩ : ∃ a, a = ns.getD (k * 6 + 3) 0 := ⟨_, rfl⟩
          obtain ⟨a4, ha4⟩ : ∃ a, a = ns.getD (k * 6 + 4) 0 := ⟨_, rfl⟩
          obtain ⟨a5, ha5⟩ : ∃ a, a = ns.getD (k * 6 + 5) 0 := ⟨_, rfl⟩
          have q0 : ∀ o, (wr.alloc o).cell? ⟨w.heap.size, k * 6, none⟩ = some (.int .u64 (a0 : Nat)) := fun o => by rw [(HRX.out.alloc o).cell, uv_get (by omega), ha0]
          have q1 : ∀ o, (wr.alloc o).cell? ⟨w.heap.size, k * 6 + 1, none⟩ = some (.int .u64 (a1 : Nat)) := fun o => by rw [(HRX.out.alloc o).cell, uv_get (by omega), ha1]
          have q2 : ∀ o, (wr.alloc o).cell? ⟨w.heap.size, k * 6 + 2, none⟩ = some (.int .u64 (a2 : Nat)) := fun o => by rw [(HRX.out.alloc o).cell, uv_get (by omega), ha2]
          have q3 : ∀ o, (wr.alloc o).cell? ⟨w.heap.size, k * 6 + 3, none⟩ = some (.int .u64 (a3 : Nat)) := fun o => by rw [(HRX.out.alloc o).cell, uv_get (by omega), ha3]
          have q4 : ∀ o, (wr.alloc o).cell? ⟨w.heap.size, k * 6 + 4, none⟩ = some (.int .u64 (a4 : Nat)) := fun o => by rw [(HRX.out.alloc o).cell, uv_get (by omega), ha4]
          have q5 : ∀ o, (wr.alloc o).cell? ⟨w.heap.size, k * 6 + 5, none⟩ = some (.int .u64 (a5 : Nat)) := fun o => by rw [(HRX.out.alloc o).cell, uv_get (by omega), ha5]
          have HA : Hid (∀ u, u < 6 → ([a0, a1, a2, a3, a4, a5] : List Nat).getD u 0 = ns.getD (k * 6 + u) 0) := Lib.hid fun u hu => by
            have h : u = 0 ∨ u = 1 ∨ u = 2 ∨ u = 3 ∨ u = 4 ∨ u = 5 := by omega
            rcases h with rfl | rfl | rfl | rfl | rfl | rfl <;> simp [ha0, ha1, ha2, ha3, ha4, ha5]
          clear ha0 ha1 ha2 ha3 ha4 ha5 HPE
          have HX0 : Hid (RowB (wr.alloc (.cells #[.int .i64 P.op, .int .i64 P.x, .int .i64 P.y, .int .i64 P.n, .slice An P.next.length cn] 39)) wr.heap.size 39 [.int .i64 P.op, .int .i64 P.x, .int .i64 P.y, .int .i64 P.n, .slice An P.next.length cn]) := Lib.hid (RowB.new _ _ _)
          have HR0 := Lib.hid (HRX.out.alloc (.cells #[.int .i64 P.op, .int .i64 P.x, .int .i64 P.y, .int .i64 P.n, .slice An P.next.length cn] 39))
          have HB0 := Lib.hid (bel_a wr (.cells #[.int .i64 P.op, .int .i64 P.x, .int .i64 P.y, .int .i64 P.n, .slice An P.next.length cn] 39))
          have hs0 : (wr.alloc (.cells #[.int .i64 P.op, .int .i64 P.x, .int .i64 P.y, .int .i64 P.n, .slice An P.next.length cn] 39)).heap.size = wr.heap.size + 1 := by simp
          go_wp2_with fail
          generalize wr.alloc (.cells #[.int .i64 P.op, .int .i64 P.x, .int .i64 P.y, .int .i64 P.n, .slice An P.next.length cn] 39) = w1 at *
          have HXA := Lib.hid (RowB.new w1 (uv [a0, a1, a2, a3, a4, a5]) 68)
          have HX1 := Lib.hid (HX0.out.alloc (.cells (uv [a0, a1, a2, a3, a4, a5]).toArray 68))
          have HR1 := Lib.hid (HR0.out.alloc (.cells (uv [a0, a1, a2, a3, a4, a5]).toArray 68))
          have HB1 := Lib.hid (HB0.out.trans ((bel_a w1 (.cells (uv [a0, a1, a2, a3, a4, a5]).toArray 68)).mono HB0.out.size))
          have hs1 : (w1.alloc (.cells (uv [a0, a1, a2, a3, a4, a5]).toArray 68)).heap.size = wr.heap.size + 2 := by simp; omega
          rw [hs0] at HXA
          change Calls _ _ _ (w1.alloc (.cells (uv [a0, a1, a2, a3, a4, a5]).toArray 68)) _
          generalize w1.alloc (.cells (uv [a0, a1, a2, a3, a4, a5]).toArray 68) = w2 at *
          clear hs0 HX0 HR0 HB0 q0 q1 q2 q3 q4 q5
          have HGW := Lib.hid (HG.out.low (hbx.trans (HB1.out.mono hszx)) hB)
          refine (taken_any _ ts pts B _ _ _ _ _ _ HGW.out (by omega) h6).mono ?_
          rintro e w3 ⟨rfl, hb3⟩
          have HX3 := Lib.hid (HX1.out.low hb3 HX1.out.lt)
          have HR3 := Lib.hid (HR1.out.low hb3 HR1.out.lt)
          have HXA3 := Lib.hid (HXA.out.low hb3 HXA.out.lt)
          have HB3 := Lib.hid (HB1.out.trans (hb3.mono HB1.out.size))
          have hs3 := hb3.size
          have htk := takenP_lt h6 P.op P.x P.y
          have HTB : Hid (∀ u : Nat, u < 6 → (takenP ts P.op P.x P.y).testBit u = (decide (u < ts.length) && (useP ts P.op P.x P.y (u : Nat) == 2))) := Lib.hid fun u hu => by unfold takenP; rw [bm_bit]
          generalize takenP ts P.op P.x P.y = tk at *
          clear HX1 HR1 HXA HB1 hb3 HGW
          go_wp2_with fail
          refine (bits_own tk htk _).mono ?_
          rintro e w4 ⟨v4, rfl, ho4, hb4⟩
          have HX4 := Lib.hid (HX3.out.low hb4 HX3.out.lt)
          have HR4 := Lib.hid (HR3.out.low hb4 HR3.out.lt)
          have HXA4 := Lib.hid (HXA3.out.low hb4 HXA3.out.lt)
          have HB4 := Lib.hid (HB3.out.trans (hb4.mono HB3.out.size))
          have hs4 := hb4.size
          have HO4 := Lib.hid ho4
          obtain ⟨A4, c4, rfl, hc4⟩ := ho4.slice
          have HL4 : Hid (∀ j, j < (lst 6 tk.testBit).length → ∃ e : Nat, e < 6 ∧ (lst 6 tk.testBit).getD j 0 = (e : Nat)) := Lib.hid fun j hj => by
            have := List.getElem_mem hj
            obtain ⟨e, he, _, h2⟩ := lst_mem.1 this
            exact ⟨e, he, by rw [getD_lt hj]; exact h2⟩
          have HM4 : Hid (∀ u : Nat, u < 6 → (((u : Nat) : Int) ∈ lst 6 tk.testBit ↔ tk.testBit u = true)) := Lib.hid fun u hu => by
            rw [lst_mem]
            exact ⟨fun ⟨e, _, h2, h3⟩ => by have : e = u := by omega
                                            subst this; exact h2, fun h => ⟨u, hu, h, rfl⟩⟩
          have hll4 := lst_len 6 tk.testBit
          generalize lst 6 tk.testBit = bl at *
          clear HX3 HR3 HXA3 HB3 hb4 ho4
          obtain ⟨wo, rfl⟩ : ∃ wo : World, wo = wr := ⟨_, rfl⟩
          go_wp2_with fail
          go_loopw [43] (fun i wy => ∃ (j : Nat) (af : List Nat), j ≤ bl.length ∧ i = .int .i64 j ∧ af.length = 6 ∧ (∀ u, u < 6 → af.getD u 0 = if ((u : Nat) : Int) ∈ bl.take j then 0 else ([a0, a1, a2, a3, a4, a5] : List Nat).getD u 0) ∧ RowB wy (wo.heap.size + 1) 68 (uv af) ∧ w4.grownBy wy (some (wo.heap.size + 1))) (fun i _ => bl.length - (intOf i).toNat)
          case atStart => exact ⟨0, [a0, a1, a2, a3, a4, a5], by omega, rfl, rfl, fun u hu => by simp, HXA4.out, World.grownBy.refl _ _⟩
          case round =>
            obtain ⟨j, af, hj, rfl, hal, haf, hra, hgy⟩ := hrel
            have HAL := Lib.hid hal
            have HAF := Lib.hid haf
            have HRA := Lib.hid hra
            have HGY := Lib.hid hgy
            have hsy := hgy.size
            clear hal haf hra hgy
            by_cases hjl : j < bl.length
            · have HOY := HO4.out.oth (g := wo.heap.size + 1) (by omega) HGY.out
              obtain ⟨gb, rfl, hgb1, hgb2, e9, hcj⟩ := HOY.at_ hjl
              clear e9 HOY
              obtain ⟨e, he6, hee⟩ := HL4.out j hjl
              rw [hee] at hcj
              have hfr := HRA.out.frozen e
              have hcur : wr.cell? ⟨wo.heap.size + 1, e, none⟩ = some (.int .u64 (af.getD e 0 : Nat)) := by rw [HRA.out.cell, uv_get (by rw [HAL.out]; exact he6)]
              have HE := Lib.hid hee
              have HT := Lib.hid (take_succ_get bl j hjl)
              have HBJ : Hid (bl[j] = (e : Nat)) := Lib.hid (by rw [getD_lt hjl] at hee; exact hee)
              clear hee
              go_wp2_with fail
              refine ⟨⟨j + 1, af.set e 0, by omega, by go_num, by simp [HAL.out], fun u hu => ?_, by rw [← uv_set]; exact HRA.out.set_ e _, grown_tr HGY.out (grown_set _ _ _ _)⟩, by simp [intOf]; omega⟩
              rw [getD_setT (by rw [HAL.out]; exact he6), HT.out, HAF.out u hu, HBJ.out]
              by_cases hue : u = e
              · subst hue; simp
              · rw [if_neg hue]
                have : ¬ ((u : Nat) : Int) = (e : Nat) := by omega
                simp [this]
            · have hje : j = bl.length := by omega
              have HAF2 : Hid (∀ u, u < 6 → af.getD u 0 = if tk.testBit u = true then 0 else ns.getD (k * 6 + u) 0) := Lib.hid fun u hu => by
                have := HAF.out u hu
                rw [hje, List.take_length] at this
                rw [this, HA.out u hu]
                simp only [HM4.out u hu]
              clear HAF hje
              have HX5 := Lib.hid (HX4.out.grown HGY.out (by omega))
              have HR5 := Lib.hid (HR4.out.grown HGY.out (by omega))
              have p0 := HX5.out.cell 0
              have p1 := HX5.out.cell 1
              have p2 := HX5.out.cell 2
              have p3 := HX5.out.cell 3
              have p4 := HX5.out.cell 4
              simp only [List.getElem?_cons_zero, List.getElem?_cons_succ] at p0 p1 p2 p3 p4
              go_wp2_with fail
              refine (sets_any _ _ _ _ _ _).mono ?_
              rintro e w6 ⟨rfl, hb6⟩
              have HX6 := Lib.hid (HX5.out.low hb6 HX5.out.lt)
              have HR6 := Lib.hid (HR5.out.low hb6 HR5.out.lt)
              have HXA6 := Lib.hid (HRA.out.low hb6 HRA.out.lt)
              have HB6 : Hid (Below w.heap.size w w6) := Lib.hid (((hbx.trans (HB4.out.mono hszx)).trans ((grown_below HGY.out (by omega)).mono (by omega))).trans (hb6.mono (by omega)))
              have hs6 := hb6.size
              clear HX5 HR5 HRA HGY hb6 p0 p1 p2 p3 p4 HX4 HR4 HXA4 HB4 HO4
              have HSM : Hid (∀ m ∈ ([a0, a1, a2, a3, a4, a5] : List Nat), m < top64) := Lib.hid (by
                have hs := getD_small HFX.out.small
                intro m hm
                simp only [List.mem_cons, List.not_mem_nil, or_false] at hm
                rcases hm with rfl | rfl | rfl | rfl | rfl | rfl
                · rw [show m = ns.getD (k * 6 + 0) 0 from HA.out 0 (by omega)]; exact hs _
                · rw [show m = ns.getD (k * 6 + 1) 0 from HA.out 1 (by omega)]; exact hs _
                · rw [show m = ns.getD (k * 6 + 2) 0 from HA.out 2 (by omega)]; exact hs _
                · rw [show m = ns.getD (k * 6 + 3) 0 from HA.out 3 (by omega)]; exact hs _
                · rw [show m = ns.getD (k * 6 + 4) 0 from HA.out 4 (by omega)]; exact hs _
                · rw [show m = ns.getD (k * 6 + 5) 0 from HA.out 5 (by omega)]; exact hs _)
              have q0 : w6.cell? ⟨w.heap.size, k * 6, none⟩ = some (.int .u64 (a0 : Nat)) := by rw [HR6.out.cell, uv_get (by omega), show a0 = ns.getD (k * 6) 0 from HA.out 0 (by omega)]
              have q1 : w6.cell? ⟨w.heap.size, k * 6 + 1, none⟩ = some (.int .u64 (a1 : Nat)) := by rw [HR6.out.cell, uv_get (by omega), show a1 = ns.getD (k * 6 + 1) 0 from HA.out 1 (by omega)]
              have q2 : w6.cell? ⟨w.heap.size, k * 6 + 2, none⟩ = some (.int .u64 (a2 : Nat)) := by rw [HR6.out.cell, uv_get (by omega), show a2 = ns.getD (k * 6 + 2) 0 from HA.out 2 (by omega)]
              have q3 : w6.cell? ⟨w.heap.size, k * 6 + 3, none⟩ = some (.int .u64 (a3 : Nat)) := by rw [HR6.out.cell, uv_get (by omega), show a3 = ns.getD (k * 6 + 3) 0 from HA.out 3 (by omega)]
              have q4 : w6.cell? ⟨w.heap.size, k * 6 + 4, none⟩ = some (.int .u64 (a4 : Nat)) := by rw [HR6.out.cell, uv_get (by omega), show a4 = ns.getD (k * 6 + 4) 0 from HA.out 4 (by omega)]
              have q5 : w6.cell? ⟨w.heap.size, k * 6 + 5, none⟩ = some (.int .u64 (a5 : Nat)) := by rw [HR6.out.cell, uv_get (by omega), show a5 = ns.getD (k * 6 + 5) 0 from HA.out 5 (by omega)]
              by_cases hs0 : 0 ≤ setsP P.op P.x
              focus
                obtain ⟨x, hx⟩ : ∃ x : Nat, setsP P.op P.x = x := ⟨(setsP P.op P.x).toNat, by omega⟩
                have HFC := Lib.hid (HF.out w6 k P [a0, a1, a2, a3, a4, a5] HB6.out HPG.out hs0 rfl HSM.out)
                have hx6 : x < 6 := by have := HSK.out; omega
                have HXE := Lib.hid hx
                rw [hx]
                clear hs0 hx
                have hE := HE.out
                go_wp2_with fail
                clear hE
                refine HFC.out.mono ?_
                rintro e w7 ⟨s, rfl, hs64, hsb, hb7⟩
                have HX7 := Lib.hid (HX6.out.low hb7 HX6.out.lt)
                have HR7 := Lib.hid (HR6.out.low hb7 HR6.out.lt)
                have HXA7 := Lib.hid (HXA6.out.low hb7 HXA6.out.lt)
                have HB7 : Hid (Below w.heap.size w w7) := Lib.hid (HB6.out.trans (hb7.mono (by omega)))
                have hs7 := hb7.size
                have HAF8 : Hid (AfL ts G C k P (stF ns k) (af.set x s)) := Lib.hid (AfL.pos HFX.out HAL.out HAF2.out HTB.out HXE.out hx6 hs64 rfl HA.out hsb)
                have p4 : w7.cell? ⟨wo.heap.size, 4, none⟩ = some (.slice An P.next.length cn) := HX7.out.cell 4
                have hfr := HXA7.out.frozen x
                have hcur : w7.cell? ⟨wo.heap.size + 1, x, none⟩ = some (.int .u64 (af.getD x 0 : Nat)) := by rw [HXA7.out.cell, uv_get (by rw [HAL.out]; exact hx6)]
                clear hsb hb7 q0 q1 q2 q3 q4 q5 HX6 HR6 HXA6 HB6 HFC
                go_wp2_with fail
                have HX8 := Lib.hid (HX7.out.other (g' := wo.heap.size + 1) (by omega) x (.int .u64 (s : Nat)))
                have HR8 := Lib.hid (HR7.out.other (g' := wo.heap.size + 1) (by omega) x (.int .u64 (s : Nat)))
                have HXA8 := Lib.hid (HXA7.out.set_ x (.int .u64 (s : Nat)))
                rw [uv_set] at HXA8
                have HB8 := Lib.hid (HB7.out.setCell (p := ⟨wo.heap.size + 1, x, none⟩) (by show w.heap.size ≤ wo.heap.size + 1; omega) (.int .u64 (s : Nat)))
                generalize w7.setCell ⟨wo.heap.size + 1, x, none⟩ (.int .u64 (s : Nat)) = w8 at *
                generalize af.set x s = af8 at *
              rotate_left
              focus
                have hs1 : setsP P.op P.x < 0 := by omega
                have HAF8 : Hid (AfL ts G C k P (stF ns k) af) := Lib.hid (AfL.neg HFX.out HAL.out HAF2.out HTB.out hs1)
                have p4 : w6.cell? ⟨wo.heap.size, 4, none⟩ = some (.slice An P.next.length cn) := HX6.out.cell 4
                have HB8 := HB6
                have HX8 := HX6
                have HR8 := HR6
                have HXA8 := HXA6
                clear q0 q1 q2 q3 q4 q5 HX6 HR6 HXA6 HB6
                go_wp2_with fail
                clear hs0 hs1
                obtain ⟨w8, rfl⟩ : ∃ w8 : World, w8 = w6 := ⟨_, rfl⟩
                obtain ⟨af8, rfl⟩ : ∃ af8 : List Nat, af8 = af := ⟨_, rfl⟩
              all_goals
                clear HAF2 HTB HL4 HM4 HSM HA p4
                have HSND : Hid (∀ kk ∈ P.next, ∀ v, v < 6 → ∀ e, (af8.getD v 0).testBit e = true → Fl ts pts G C kk v e) := Lib.hid fun kk hkk v hv e he => AfL.snd HFX.out HAF8.out HPG.out hkk HSK.out hv he
                have HAFB : Hid (∀ v, v < 6 → af8.getD v 0 < top64) := Lib.hid fun v hv => (HAF8.out.2 v hv).1
                obtain ⟨b0, b1, b2, b3, b4, b5, rfl⟩ := list6 HAF8.out.1
                generalize hnx : P.next = nx at *
                have HNXE := Lib.hid hnx
                clear hnx
                go_loopw [6, 66] (fun c i wy => ∃ (d : Bool) (j : Nat) (ns2 : List Nat), c = .bool d ∧ i = .int .i64 j ∧ j ≤ nx.length ∧ RowB wy w.heap.size 68 (uv ns2) ∧ RowB wy (wo.heap.size + 1) 68 (uv [b0, b1, b2, b3, b4, b5]) ∧ TrI ts pts G C ns2 ∧ (d = true → muB pts.length 6 64 (stF ns2) < muB pts.length 6 64 (stF ms)) ∧ (d = false → (bc = false ∧ ns2 = ns) ∧ ∀ kk ∈ nx.take j, ∀ v, v < 6 → ns.getD (kk * 6 + v) 0 ||| ([b0, b1, b2, b3, b4, b5] : List Nat).getD v 0 = ns.getD (kk * 6 + v) 0) ∧ Below w.heap.size w wy) (fun _ i _ => nx.length - (intOf i).toNat)
                case atStart => exact ⟨bc, 0, ns, rfl, rfl, by omega, HR8.out, HXA8.out, HFX.out, HMX.out, fun h => ⟨⟨h, rfl⟩, fun kk hkk => by simp at hkk⟩, HB8.out⟩
                case round =>
                  obtain ⟨d, j, ns2, rfl, rfl, hj, hry, hra, hfy, hmy, hcy, hby⟩ := hrel
                  have HRY := Lib.hid hry
                  have HRA := Lib.hid hra
                  have HFY := Lib.hid hfy
                  have HMY := Lib.hid hmy
                  have HCY := Lib.hid hcy
                  have HBY := Lib.hid hby
                  have hszy := hby.size
                  clear hry hra hfy hmy hcy
                  by_cases hjl : j < nx.length
                  · obtain ⟨An', cn', en, -, -, hrd⟩ := HNX.out.low hby hB
                    simp only [List.length_map] at en
                    injection en with e1 e9 e2
                    subst e1 e2
                    clear e9 hby
                    obtain ⟨bn, on, rfl, hbn, hcn2⟩ := hrd.int_at (k := j) (by simpa using hjl)
                    have hcj := hcn2 j (by simpa using hjl)
                    rw [getD_lt (by simpa using hjl), List.getElem_map] at hcj
                    have HMEM := Lib.hid (List.getElem_mem hjl)
                    have HT := Lib.hid (take_succ_get nx j hjl)
                    generalize nx[j] = kk at *
                    have hkk : kk < pts.length := HNK.out kk HMEM.out
                    have r0 := HRA.out.cell 0
                    have r1 := HRA.out.cell 1
                    have r2 := HRA.out.cell 2
                    have r3 := HRA.out.cell 3
                    have r4 := HRA.out.cell 4
                    have r5 := HRA.out.cell 5
                    simp only [uv, List.map_cons, List.map_nil, List.getElem?_cons_zero, List.getElem?_cons_succ] at r0 r1 r2 r3 r4 r5
                    clear hcn2 hrd
                    obtain ⟨wo2, rfl⟩ : ∃ wo2 : World, wo2 = wr := ⟨_, rfl⟩
                    go_wp2_with fail
                    clear r0 r1 r2 r3 r4 r5
                    go_loopw [6, 71] (fun c i wz => ∃ (d2 : Bool) (u : Nat) (ns3 : List Nat), c = .bool d2 ∧ i = .int .i64 u ∧ u ≤ 6 ∧ RowB wz w.heap.size 68 (uv ns3) ∧ RowB wz (wo.heap.size + 1) 68 (uv [b0, b1, b2, b3, b4, b5]) ∧ TrI ts pts G C ns3 ∧ (d2 = true → muB pts.length 6 64 (stF ns3) < muB pts.length 6 64 (stF ms)) ∧ (d2 = false → ((bc = false ∧ ns3 = ns) ∧ ∀ kk ∈ nx.take j, ∀ v, v < 6 → ns.getD (kk * 6 + v) 0 ||| ([b0, b1, b2, b3, b4, b5] : List Nat).getD v 0 = ns.getD (kk * 6 + v) 0) ∧ ∀ v, v < u → ns.getD (kk * 6 + v) 0 ||| ([b0, b1, b2, b3, b4, b5] : List Nat).getD v 0 = ns.getD (kk * 6 + v) 0) ∧ Below w.heap.size w wz) (fun _ i _ => 6 - (intOf i).toNat)
                    case atStart => exact ⟨d, 0, ns2, rfl, rfl, by omega, HRY.out, HRA.out, HFY.out, HMY.out, fun h => ⟨HCY.out h, fun v hv => by omega⟩, HBY.out⟩
                    case round =>
                      obtain ⟨d2, u, ns3, rfl, rfl, hu, hrz, hraz, hfz, hmz, hcz, hbz⟩ := hrel
                      have HRZ := Lib.hid hrz
                      have HRAZ := Lib.hid hraz
                      have HFZ := Lib.hid hfz
                      have HMZ := Lib.hid hmz
                      have HCZ := Lib.hid hcz
                      have HBZ := Lib.hid hbz
                      have HLZ := Lib.hid hfz.len
                      have hszz := hbz.size
                      clear hrz hraz hfz hmz hcz hbz
                      by_cases hul : u < 6
                      · obtain ⟨m, hm⟩ : ∃ m, m = ([b0, b1, b2, b3, b4, b5] : List Nat).getD u 0 := ⟨_, rfl⟩
                        have hix : ∀ w, (Instr.index 68 (.agg #[.int .u64 (b0 : Nat), .int .u64 (b1 : Nat), .int .u64 (b2 : Nat), .int .u64 (b3 : Nat), .int .u64 (b4 : Nat), .int .u64 (b5 : Nat)]) (.int .i64 (u : Nat))).run Try.prog w = .ok (.int .u64 (m : Nat)) w := fun w => by rw [hm]; exact index_from hul w
                        have hm64 : m < top64 := by rw [hm]; exact HAFB.out u hul
                        have HSM : Hid (∀ e, m.testBit e = true → Fl ts pts G C kk u e) := Lib.hid (by rw [hm]; exact HSND.out kk HMEM.out u hul)
                        have HM := Lib.hid hm
                        have hku : kk * 6 + u < ns3.length := by rw [HLZ.out]; omega
                        obtain ⟨a, ha⟩ : ∃ a, a = ns3.getD (kk * 6 + u) 0 := ⟨_, rfl⟩
                        have ha64 : a < top64 := by rw [ha]; exact getD_small HFZ.out.small _
                        have hck : wr.cell? ⟨w.heap.size, kk * 6 + u, none⟩ = some (.int .u64 (a : Nat)) := by rw [HRZ.out.cell, uv_get hku, ha]
                        have hfr := HRZ.out.frozen (kk * 6 + u)
                        obtain ⟨r, hr⟩ : ∃ r, r = a ||| m := ⟨_, rfl⟩
                        have hor : bits .or .u64 (a : Int) (m : Int) = ((r : Nat) : Int) := by rw [hr]; exact or_u64 ha64 hm64
                        have HA := Lib.hid ha
                        have HR := Lib.hid hr
                        clear hm ha hr hm64 ha64
                        by_cases hra : r = a
                        · subst hra
                          go_wp2_with fail
                          go_quiet (fail)
                          go_wp2_with fail
                          refine ⟨⟨d2, u + 1, ns3, rfl, by go_num, by omega, HRZ.out, HRAZ.out, HFZ.out, HMZ.out, fun h => ⟨(HCZ.out h).1, fun v hv => ?_⟩, Below.drN HBZ.out _⟩, by simp [intOf] <;> omega⟩
                          by_cases hvu : v = u
                          · rw [hvu, ← HM.out, ← (HCZ.out h).1.1.2, ← HA.out, ← HR.out]
                          · exact (HCZ.out h).2 v (by omega)
                        · have hne : ((r : Int) != (a : Int)) = true := by simp; omega
                          have HRA9 := Lib.hid hra
                          clear hra
                          go_wp2_with fail
                          go_quiet (fail)
                          go_wp2_with fail
                          go_region
                          go_wp2_with fail
                          have hmu1 := TrI.mu (n := pts.length) HLZ.out HFZ.out.small hkk hul (s := m) (by rw [HM.out]; exact HAFB.out u hul) (by rw [← HA.out, ← HR.out]; exact HRA9.out)
                          have hup := HFZ.out.upd hkk hul (s := m) (by rw [HM.out]; exact HAFB.out u hul) HSM.out
                          rw [← HA.out, ← HR.out] at hmu1 hup
                          refine ⟨⟨true, u + 1, ns3.set (kk * 6 + u) r, rfl, by go_num, by omega, by rw [← uv_set]; exact HRZ.out.set_ _ _, HRAZ.out.other (by omega) _ _, hup, fun _ => ?_, fun h => (by cases h), ?_⟩, by simp [intOf] <;> omega⟩
                          · cases d2
                            · obtain ⟨⟨⟨e1, e2⟩, _⟩, _⟩ := HCZ.out rfl
                              have e4 := (HCX.out e1).1
                              rw [← e4, ← e2]
                              exact hmu1
                            · exact Nat.lt_trans hmu1 (HMZ.out rfl)
                          · exact (Below.drN HBZ.out _).setCell (p := ⟨w.heap.size, kk * 6 + u, none⟩) (Nat.le_refl _) _
                      · have hue : u = 6 := by omega
                        have HE6 : Hid (d2 = false → (bc = false ∧ ns3 = ns) ∧ ∀ kk ∈ nx.take (j + 1), ∀ v, v < 6 → ns.getD (kk * 6 + v) 0 ||| ([b0, b1, b2, b3, b4, b5] : List Nat).getD v 0 = ns.getD (kk * 6 + v) 0) := Lib.hid fun h => by
                          obtain ⟨⟨e1, e2⟩, e3⟩ := HCZ.out h
                          refine ⟨e1, fun k2 hk2 => ?_⟩
                          rw [HT.out, List.mem_append, List.mem_singleton] at hk2
                          rcases hk2 with hk2 | hk2
                          · exact e2 k2 hk2
                          · rw [hk2]; intro v hv; exact e3 v (by omega)
                        clear hue
                        go_wp2_with fail
                        exact ⟨⟨d2, j + 1, ns3, rfl, by go_num, by omega, HRZ.out, HRAZ.out, HFZ.out, HMZ.out, HE6.out, HBZ.out⟩, by simp [intOf] <;> omega⟩
                  · have hje : j = nx.length := by omega
                    have HEE : Hid (d = false → ns2 = ms ∧ ∀ i, i < k + 1 → ClT ts pts G C ms i) := Lib.hid fun h => by
                      obtain ⟨⟨e1, e2⟩, e3⟩ := HCY.out h
                      obtain ⟨e4, e5⟩ := HCX.out e1
                      refine ⟨e2.trans e4, fun i hi => ?_⟩
                      by_cases hik : i < k
                      · exact e5 i hik
                      · have hik2 : i = k := by omega
                        subst hik2
                        intro p hp kk hkk v hv e he
                        rw [HPG.out] at hp
                        injection hp with hp
                        subst hp
                        rw [HNXE.out] at hkk
                        rw [hje, List.take_length] at e3
                        rw [← e4] at he ⊢
                        rw [← (HAF8.out.2 v hv).2 e] at he
                        unfold stF
                        rw [decide_eq_true hv, Bool.true_and]
                        exact or_bits.1 (e3 kk hkk v hv) e he
                    clear hje
                    go_wp2_with fail
                    exact ⟨⟨d, k + 1, ns2, rfl, by go_num, by omega, HRY.out, HFY.out, HMY.out, HEE.out, HBY.out⟩, by simp [intOf] <;> omega⟩
        · have hkl : k = pts.length := by omega
          have HCE : Hid (bc = false → ns = ms ∧ ∀ i, i < pts.length → ClT ts pts G C ms i) := Lib.hid (by rw [← hkl]; exact HCX.out)
          clear hkl
          go_wp2_with fail
          cases bc
          · obtain ⟨e1, e2⟩ := HCE.out rfl
            go_roundg 0
            case measure => have := HMU.out (by simp); omega
            case rel => exact ⟨false, ns, rfl, HRX.out, HFX.out, fun h => (by cases h), fun _ i hi => (by rw [e1]; exact e2 i hi), hbx⟩
          · go_roundg (muB pts.length 6 64 (stF ns) + 1)
            case measure => have := HMU.out (by simp); have := HMX.out rfl; omega
            case rel => exact ⟨true, ns, rfl, HRX.out, HFX.out, fun _ => (by omega), fun h => (by cases h), hbx⟩

end Go.Proofs.Yteaddodjijlpjaa
