import Derived.Test.YteaddodjijlpjaaG40
import Derived.Test.YteaddodjijlpjaaG19
import Derived.Test.YteaddodjijlpjaaG36
import Derived.Conc.MuLone
set_option linter.unusedVariables false

/- What is made at points: the closures of impl's cells, numbers, setters; impl.CellsOf, SettersOf, NumbersOf. -/
namespace Go.Proofs.Yteaddodjijlpjaa
open Go.RowKit

theorem Good.y {ts : List Int} {pts : List Pt} (g : Good ts pts) {k : Nat} {p : Pt} (hp : pts[k]? = some p) (ho : 3 ≤ p.op ∧ p.op ≤ 7) : 0 ≤ p.y ∧ p.y < ts.length := by
  rcases g.ok p (List.mem_of_getElem? hp) with h | h | h | h
  · omega
  · omega
  · omega
  · exact typeOf_in (simple_y h ho)
theorem simple_n {ts : List Int} {op x y n : Int} (h : simpleP ts op x y n = true) : 0 ≤ n ∧ n ≤ 9 := by
  unfold simpleP at h
  repeat' split at h
  all_goals simp only [Bool.and_eq_true, Bool.or_eq_true, beq_iff_eq, bne_iff_ne, decide_eq_true_eq, Bool.false_eq_true] at h
  all_goals first | exact h.elim | omega
theorem Good.n {ts : List Int} {pts : List Pt} (g : Good ts pts) {k : Nat} {p : Pt} (hp : pts[k]? = some p) (ho : p.op ≤ 8) : 0 ≤ p.n ∧ p.n ≤ 9 := by
  rcases g.ok p (List.mem_of_getElem? hp) with h | h | h | h
  · omega
  · omega
  · omega
  · exact simple_n h
theorem idx_lt {pts : List Pt} {k : Nat} {p : Pt} (hp : pts[k]? = some p) : k < pts.length := (List.getElem?_eq_some_iff.1 hp).1
theorem row_get {w : World} {fv : List Nat} {y : Nat} (hy : y < fv.length) (t : TypeId) (o : Obj) : ((w.alloc (.cells (uv fv).toArray t)).alloc o).cell? ⟨w.heap.size, y, none⟩ = some (.int .u64 (fv.getD y 0 : Nat)) := by
  rw [((RowB.new w (uv fv) t).alloc o).cell, uv_get hy]
theorem one_shl {k : Nat} (hk : k ≤ 63) : 2 ^ k < top64 := Nat.pow_lt_pow_right (by omega) (by omega)

theorem setters_sets (w0 : World) (ts : List Int) (pts : List Pt) (gd : Good ts pts) : SetsC w0 102 #[] pts Gset Cset := by
  intro w k p fv hb hp hs hl hsm
  have hk : k ≤ 61 := by have := idx_lt hp; have := gd.len; omega
  have HP := Lib.hid (pow_u64 (k := k) (by omega))
  clear hp hs hl hsm
  change Calls Try.prog 102 #[.int .i64 (k : Nat), .agg (uv fv).toArray] w _
  go_enter Try.func102, Try.ntmps102
  go_wp2_with fail
  rw [HP.out]
  go_ret
  exact ⟨2 ^ k, rfl, one_shl (by omega), fun e => by rw [pow_bit]; simp [Gset, Cset], bel_a _ _⟩

set_option maxHeartbeats 1000000 in
theorem cells_sets (vg : Value) (w0 : World) (B cb : Nat) (ts : List Int) (pts : List Pt) (hg : GrS w0 B vg ts pts) (hB : B ≤ w0.heap.size) (hc : w0.cell? ⟨cb, 0, none⟩ = some vg) (hcb : cb < w0.heap.size) (gd : Good ts pts) : SetsC w0 91 #[.pointer (some ⟨cb, 0, none⟩)] pts Gcell Ccell := by
  intro w k p fv hb hp hs hl hsm
  have hkl := idx_lt hp
  have hk : k ≤ 61 := by have := gd.len; omega
  have HP := Lib.hid (pow_u64 (k := k) (by omega))
  have hpe : pts[k] = p := by rw [List.getElem?_eq_getElem hkl] at hp; injection hp
  have HY := Lib.hid (fun ho => gd.y hp ho)
  have h6 := gd.h6
  have hsz := hb.size
  have hb1 := hb.alloc hsz (.cells (uv fv).toArray 68)
  have hc1 := (hb1.cell (p := ⟨cb, 0, none⟩) hcb).trans hc
  have HG := Lib.hid (hg.low hb1 hB)
  obtain ⟨g, At, ct, vb, Al, cl, rfl, hgB, g0, g1, g2, ht, hps, htl, hpl⟩ := HG.out.open_
  obtain ⟨b, off, c, nv, e, hbb, hcc, hll, hnx, z0, z1, z2, z3, z4⟩ := hps.get hkl
  injection e with e1 e9 e2
  subst e1 e2
  rw [hpe] at z0 z1 z2 z3 hnx
  obtain ⟨An, cn, rfl, hcn, hln, -⟩ := hnx
  simp only [List.length_map] at z4
  have HSM := Lib.hid (getD_small hsm)
  have hcell : ∀ o, p.y.toNat < 6 → ((w.alloc (.cells (uv fv).toArray 68)).alloc o).cell? ⟨w.heap.size, p.y.toNat, none⟩ = some (.int .u64 (fv.getD p.y.toNat 0 : Nat)) := fun o hy => row_get (by omega) _ _
  have HC := Lib.hid hcell
  clear hp hs hl hsm hpe e9 hc hcell hb1
  change Calls Try.prog 91 #[.int .i64 (k : Nat), .agg (uv fv).toArray, .pointer (some ⟨cb, 0, none⟩)] w _
  by_cases h2 : p.op = 2
  · have HG2 : Hid (∀ e, (2 ^ k).testBit e = (Gcell k p e || (Ccell p && (fv.getD p.y.toNat 0).testBit e))) := Lib.hid fun e => by rw [pow_bit]; simp [Gcell, Ccell, h2]
    go_enter Try.func91, Try.ntmps91
    go_wp2_with fail
    rw [HP.out]
    go_ret
    exact ⟨2 ^ k, rfl, one_shl (by omega), HG2.out, (bel_a _ _).alloc (by simp) _⟩
  · by_cases h3 : 3 ≤ p.op ∧ p.op ≤ 5
    · have hy := HY.out ⟨h3.1, by omega⟩
      have hy0 := hy.1
      have hy6 : p.y < 6 := by omega
      have HG2 : Hid (∀ e, (fv.getD p.y.toNat 0).testBit e = (Gcell k p e || (Ccell p && (fv.getD p.y.toNat 0).testBit e))) := Lib.hid fun e => by
        have : p.op = 3 ∨ p.op = 4 ∨ p.op = 5 := by omega
        rcases this with h | h | h <;> simp [Gcell, Ccell, h]
      have hcell := fun o => HC.out o (by omega)
      have hsmy := HSM.out p.y.toNat
      generalize fv.getD p.y.toNat 0 = s at *
      have h345 : p.op = 3 ∨ p.op = 4 ∨ p.op = 5 := by omega
      clear h2 h3 hy
      rcases h345 with h | h | h
      all_goals
        go_enter Try.func91, Try.ntmps91
        go_wp2_with fail
        go_ret
        exact ⟨s, rfl, hsmy, HG2.out, (bel_a _ _).alloc (by simp) _⟩
    · have n3 : ¬ p.op = 3 := by omega
      have n4 : ¬ p.op = 4 := by omega
      have n5 : ¬ p.op = 5 := by omega
      have HG2 : Hid (∀ e, (0 : Nat).testBit e = (Gcell k p e || (Ccell p && (fv.getD p.y.toNat 0).testBit e))) := Lib.hid fun e => by simp [Gcell, Ccell, h2, n3, n4, n5]
      clear h3
      go_enter Try.func91, Try.ntmps91
      go_wp2_with fail
      go_ret
      exact ⟨0, rfl, Nat.two_pow_pos _, HG2.out, (bel_a _ _).alloc (by simp) _⟩

set_option maxHeartbeats 1000000 in
theorem numbers_sets (vg : Value) (w0 : World) (B cb : Nat) (ts : List Int) (pts : List Pt) (hg : GrS w0 B vg ts pts) (hB : B ≤ w0.heap.size) (hc : w0.cell? ⟨cb, 0, none⟩ = some vg) (hcb : cb < w0.heap.size) (gd : Good ts pts) : SetsC w0 66 #[.pointer (some ⟨cb, 0, none⟩)] pts Gnum Cnum := by
  intro w k p fv hb hp hs hl hsm
  have hkl := idx_lt hp
  have hk : k ≤ 61 := by have := gd.len; omega
  have hpe : pts[k] = p := by rw [List.getElem?_eq_getElem hkl] at hp; injection hp
  have HY := Lib.hid (fun ho => gd.y hp ho)
  have HN := Lib.hid (fun ho => gd.n hp ho)
  have h6 := gd.h6
  have hsz := hb.size
  have hb1 := hb.alloc hsz (.cells (uv fv).toArray 68)
  have hc1 := (hb1.cell (p := ⟨cb, 0, none⟩) hcb).trans hc
  have HG := Lib.hid (hg.low hb1 hB)
  obtain ⟨g, At, ct, vb, Al, cl, rfl, hgB, g0, g1, g2, ht, hps, htl, hpl⟩ := HG.out.open_
  obtain ⟨b, off, c, nv, e, hbb, hcc, hll, hnx, z0, z1, z2, z3, z4⟩ := hps.get hkl
  injection e with e1 e9 e2
  subst e1 e2
  rw [hpe] at z0 z1 z2 z3 hnx
  obtain ⟨An, cn, rfl, hcn, hln, -⟩ := hnx
  simp only [List.length_map] at z4
  have HSM := Lib.hid (getD_small hsm)
  have hcell : ∀ o, p.y.toNat < 6 → ((w.alloc (.cells (uv fv).toArray 68)).alloc o).cell? ⟨w.heap.size, p.y.toNat, none⟩ = some (.int .u64 (fv.getD p.y.toNat 0 : Nat)) := fun o hy => row_get (by omega) _ _
  have HC := Lib.hid hcell
  clear hp hs hl hsm hpe e9 hc hcell hb1
  change Calls Try.prog 66 #[.int .i64 (k : Nat), .agg (uv fv).toArray, .pointer (some ⟨cb, 0, none⟩)] w _
  by_cases h1 : p.op = 1
  · have hn := HN.out (by omega)
    obtain ⟨n, hpn⟩ : ∃ n : Nat, p.n = n := ⟨p.n.toNat, by omega⟩
    have hn9 : n ≤ 9 := by omega
    have HP := Lib.hid (pow_u64 (k := n) (by omega))
    have HG2 : Hid (∀ e, (2 ^ n).testBit e = (Gnum k p e || (Cnum p && (fv.getD p.y.toNat 0).testBit e))) := Lib.hid fun e => by
      rw [pow_bit, Bool.eq_iff_iff]; simp [Gnum, Cnum, h1, hpn]; omega
    rw [hpn] at z3
    clear hn
    generalize p.n = pn at *
    subst hpn
    go_enter Try.func66, Try.ntmps66
    go_wp2_with fail
    rw [HP.out]
    go_ret
    exact ⟨2 ^ n, rfl, one_shl (by omega), HG2.out, (bel_a _ _).alloc (by simp) _⟩
  · by_cases h3 : p.op = 3
    · have hy := HY.out ⟨by omega, by omega⟩
      have hy0 := hy.1
      have hy6 : p.y < 6 := by omega
      have HG2 : Hid (∀ e, (fv.getD p.y.toNat 0).testBit e = (Gnum k p e || (Cnum p && (fv.getD p.y.toNat 0).testBit e))) := Lib.hid fun e => by simp [Gnum, Cnum, h3]
      have hcell := fun o => HC.out o (by omega)
      have hsmy := HSM.out p.y.toNat
      generalize fv.getD p.y.toNat 0 = s at *
      clear h1 hy
      go_enter Try.func66, Try.ntmps66
      go_wp2_with fail
      go_ret
      exact ⟨s, rfl, hsmy, HG2.out, (bel_a _ _).alloc (by simp) _⟩
    · by_cases h6' : p.op = 6
      · have HG2 : Hid (∀ e, (1023 : Nat).testBit e = (Gnum k p e || (Cnum p && (fv.getD p.y.toNat 0).testBit e))) := Lib.hid fun e => by
          rw [show (1023 : Nat) = 2 ^ 10 - 1 by decide, Nat.testBit_two_pow_sub_one]; simp [Gnum, Cnum, h6']
        clear h1 h3
        go_enter Try.func66, Try.ntmps66
        go_wp2_with fail
        go_ret
        exact ⟨1023, rfl, by rw [top_eq]; decide, HG2.out, (bel_a _ _).alloc (by simp) _⟩
      · have HG2 : Hid (∀ e, (0 : Nat).testBit e = (Gnum k p e || (Cnum p && (fv.getD p.y.toNat 0).testBit e))) := Lib.hid fun e => by simp [Gnum, Cnum, h1, h3, h6']
        go_enter Try.func66, Try.ntmps66
        go_wp2_with fail
        go_ret
        exact ⟨0, rfl, Nat.two_pow_pos _, HG2.out, (bel_a _ _).alloc (by simp) _⟩
theorem numbers_enter : ∀ (args : Array Value) (w : World), (callFunc 66 args).run Try.prog w = .ok (.enter 66 args) w := fun args w => Go.MuLone.run_callFunc_enter Try.func66 (by kernel_rfl) rfl args w

theorem cells_enter : ∀ (args : Array Value) (w : World), (callFunc 91 args).run Try.prog w = .ok (.enter 91 args) w := fun args w => Go.MuLone.run_callFunc_enter Try.func91 (by kernel_rfl) rfl args w
theorem Gcell_lt {pts : List Pt} (h : pts.length ≤ 61) : ∀ i p e, pts[i]? = some p → Gcell i p e = true → e < pts.length := fun i p e hp h => by
  have := idx_lt hp
  simp [Gcell] at h; omega
theorem cells_any (vg : Value) (ts : List Int) (pts : List Pt) (B : Nat) (w : World) (hg : GrS w B vg ts pts) (hB : B ≤ w.heap.size) (gd : Good ts pts) :
    Calls Try.prog 55 #[vg] w (TrRet w ts pts Gcell Ccell) := by
  have hb1 := bel_a w (.cells #[vg] 62)
  have HT := Lib.hid (tracked_any vg ts pts B (w.alloc (.cells #[vg] 62)) 91 #[.pointer (some ⟨w.heap.size, 0, none⟩)] Gcell Ccell cells_enter
    (cells_sets vg _ B w.heap.size ts pts (hg.low hb1 hB) (by simp; omega) (cell_of_row _ _ _ _ _ _ (heap_alloc_new w _)) (by simp) gd) (hg.low hb1 hB) (by simp; omega) gd (fun i p e hp h => by have := Gcell_lt gd.len i p e hp h; have := gd.len; omega))
  have hmf : ∀ (fn : Fn) (first cap : Array Value) (w : World), (Instr.makeFunc fn first cap).run Try.prog w = .ok (.func fn first cap) w := fun _ _ _ _ => rfl
  obtain ⟨g, At, ct, vb, Al, cl, rfl, -⟩ := hg.open_
  go_enter Try.func55, Try.ntmps55
  go_wp2_with fail
  refine HT.out.mono ?_
  rintro e w1 ⟨g', fs, rfl, h1, h2, h3, h4, h5, h6⟩
  have hs1 : w.heap.size ≤ g' := by simp at h1; omega
  clear h1 hmf
  go_wp2_with fail
  go_ret
  exact ⟨g', fs, rfl, hs1, h2, h3, h4, h5, hb1.trans (h6.mono (by simp))⟩

theorem setters_enter : ∀ (args : Array Value) (w : World), (callFunc 102 args).run Try.prog w = .ok (.enter 102 args) w := fun args w => Go.MuLone.run_callFunc_enter Try.func102 (by kernel_rfl) rfl args w
theorem Gset_lt {pts : List Pt} (h : pts.length ≤ 61) : ∀ i p e, pts[i]? = some p → Gset i p e = true → e < pts.length := fun i p e hp h => by
  have := idx_lt hp
  simp [Gset] at h; omega
theorem setters_any (vg : Value) (ts : List Int) (pts : List Pt) (B : Nat) (w : World) (hg : GrS w B vg ts pts) (hB : B ≤ w.heap.size) (gd : Good ts pts) :
    Calls Try.prog 69 #[vg] w (TrRet w ts pts Gset Cset) := by
  have HT := Lib.hid (tracked_any vg ts pts B w 102 #[] Gset Cset setters_enter (setters_sets w ts pts gd) hg hB gd (fun i p e hp h => by have := Gset_lt gd.len i p e hp h; have := gd.len; omega))
  obtain ⟨g, At, ct, vb, Al, cl, rfl, -⟩ := hg.open_
  go_enter Try.func69, Try.ntmps69
  go_wp2_with fail
  refine HT.out.mono ?_
  rintro e w1 ⟨g', fs, rfl, h1, h2, h3, h4, h5, h6⟩
  go_wp2_with fail
  go_ret
  exact ⟨g', fs, rfl, h1, h2, h3, h4, h5, h6⟩

end Go.Proofs.Yteaddodjijlpjaa
