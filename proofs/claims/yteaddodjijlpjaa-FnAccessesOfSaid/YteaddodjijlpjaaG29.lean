import Derived.Test.YteaddodjijlpjaaG27
import Derived.Test.YteaddodjijlpjaaG10
import Derived.Test.YteaddodjijlpjaaG23
import Derived.Conc.MuLone
import Derived.Test.YteaddodjijlpjaaG28
set_option linter.unusedVariables false

/- What is made at points: the closures of impl's cells, numbers, setters; impl.CellsOf, SettersOf, NumbersOf. -/
namespace Go.Proofs.Yteaddodjijlpjaa
open Go.RowKit

theorem Good.y {ts : List Int} {pts : List Pt} (g : Good ts pts) {k : Nat} {p : Pt} (hp : pts[k]? = some p) (ho : 3 ≤ p.op ∧ p.op ≤ 7) : 0 ≤ p.y ∧ p.y < ts.length := by
  rcases g.ok p (List.mem_of_getElem? hp) with h | h | h | h
  · omega
  · omega
  · omega
  · exact typeOf_in (simple_y h ho)
theorem simple_n {ts : List Int} {op x y n : Int} (h : simpleP ts op x y n = true) : 0 ≤ n ∧ n ≤ 9 := by
  unfold simpleP at h
  repeat' split at h
  all_goals simp only [Bool.and_eq_true, Bool.or_eq_true, beq_iff_eq, bne_iff_ne, decide_eq_true_eq, Bool.false_eq_true] at h
  all_goals first | exact h.elim | omega
theorem Good.n {ts : List Int} {pts : List Pt} (g : Good ts pts) {k : Nat} {p : Pt} (hp : pts[k]? = some p) (ho : p.op ≤ 8) : 0 ≤ p.n ∧ p.n ≤ 9 := by
  rcases g.ok p (List.mem_of_getElem? hp) with h | h | h | h
  · omega
  · omega
  · omega
  · exact simple_n h
theorem idx_lt {pts : List Pt} {k : Nat} {p : Pt} (hp : pts[k]? = some p) : k < pts.length := (List.getElem?_eq_some_iff.1 hp).1
theorem row_get {w : World} {fv : List Nat} {y : Nat} (hy : y < fv.length) (t : TypeId) (o : Obj) : ((w.alloc (.cells (uv fv).toArray t)).alloc o).cell? ⟨w.heap.size, y, none⟩ = some (.int .u64 (fv.getD y 0 : Nat)) := by
  rw [((RowB.new w (uv fv) t).alloc o).cell, uv_get hy]
theorem one_shl {k : Nat} (hk : k ≤ 63) : 2 ^ k < top64 := Nat.pow_lt_pow_right (by omega) (by omega)

theorem setters_sets (w0 : World) (ts : List Int) (pts : List Pt) (gd : Good ts pts) : SetsC w0 102 #[] pts Gset Cset := by
  intro w k p fv hb hp hs hl hsm
  have hk : k ≤ 61 := by have := idx_lt hp; have := gd.len; omega
  have HP := Lib.hid (pow_u64 (k := k) (by omega))
  clear hp hs hl hsm
  change Calls Try.prog 102 #[.int .i64 (k : Nat), .agg (uv fv).toArray] w _
  go_enter Try.func102, Try.ntmps102
  go_wp2_with fail
  rw [HP.out]
  go_ret
  exact ⟨2 ^ k, rfl, one_shl (by omega), fun e => by rw [pow_bit]; simp [Gset, Cset], bel_a _ _⟩

set_option maxHeartbeats 1000000 in
theorem cells_sets (vg : Value) (w0 : World) (B cb : Nat) (ts : List Int) (pts : List Pt) (hg : GrS w0 B vg ts pts) (hB : B ≤ w0.heap.size) (hc : w0.cell? ⟨cb, 0, none⟩ = some vg) (hcb : cb < w0.heap.size) (gd : Good ts pts) : SetsC w0 91 #[.pointer (some ⟨cb, 0, none⟩)] pts Gcell Ccell := by
  intro w k p fv hb hp hs hl hsm
  have hkl := idx_lt hp
  have hk : k ≤ 61 := by have := gd.len; omega
  have HP := Lib.hid (pow_u64 (k := k) (by omega))
  have hpe : pts[k] = p := by rw [List.getElem?_eq_getElem hkl] at hp; injection hp
  have HY := Lib.hid (fun ho => gd.y hp ho)
  have h6 := gd.h6
  have hsz := hb.size
  have hb1 := hb.alloc hsz (.cells (uv fv).toArray 68)
  have hc1 := (hb1.cell (p := ⟨cb, 0, none⟩) hcb).trans hc
  have HG := Lib.hid (hg.low hb1 hB)
  obtain ⟨g, At, ct, vb, Al, cl, rfl, hgB, g0, g1, g2, ht, hps, htl, hpl⟩ := HG.out.open_
  obtain ⟨b, off, c, nv, e, hbb, hcc, hll, hnx, z0, z1, z2, z3, z4⟩ := hps.get hkl
  injection e with e1 e9 e2
  subst e1 e2
  rw [hpe] at z0 z1 z2 z3 hnx
  obtain ⟨An, cn, rfl, hcn, hln, -⟩ := hnx
  simp only [List.length_map] at z4
  have HSM := Lib.hid (getD_small hsm)
  have hcell : ∀ o, p.y.toNat < 6 → ((w.alloc (.cells (uv fv).toArray 68)).alloc o).cell? ⟨w.heap.size, p.y.toNat, none⟩ = some (.int .u64 (fv.getD p.y.toNat 0 : Nat)) := fun o hy => row_get (by omega) _ _
  have HC := Lib.hid hcell
  clear hp hs hl hsm hpe e9 hc hcell hb1
  change Calls Try.prog 91 #[.int .i64 (k : Nat), .agg (uv fv).toArray, .pointer (some ⟨cb, 0, none⟩)] w _
  by_cases h2 : p.op = 2
  · have HG2 : Hid (∀ e, (2 ^ k).testBit e = (Gcell k p e || (Ccell p && (fv.getD p.y.toNat 0).testBit e))) := Lib.hid fun e => by rw [pow_bit]; simp [Gcell, Ccell, h2]
    go_enter Try.func91, Try.ntmps91
    go_wp2_with fail
    rw [HP.out]
    go_ret
    exact ⟨2 ^ k, rfl, one_shl (by omega), HG2.out, (bel_a _ _).alloc (by simp) _⟩
  · by_cases h3 : 3 ≤ p.op ∧ p.op ≤ 5
    · have hy := HY.out ⟨h3.1, by omega⟩
      have hy0 := hy.1
      have hy6 : p.y < 6 := by omega
      have HG2 : Hid (∀ e, (fv.getD p.y.toNat 0).testBit e = (Gcell k p e || (Ccell p && (fv.getD p.y.toNat 0).testBit e))) := Lib.hid fun e => by
        have : p.op = 3 ∨ p.op = 4 ∨ p.op = 5 := by omega
        rcases this with h | h | h <;> simp [Gcell, Ccell, h]
      have hcell := fun o => HC.out o (by omega)
      have hsmy := HSM.out p.y.toNat
      generalize fv.getD p.y.toNat 0 = s at *
      have h345 : p.op = 3 ∨ p.op = 4 ∨ p.op = 5 := by omega
      clear h2 h3 hy
      rcases h345 with h | h | h
      all_goals
        go_enter Try.func91, Try.ntmps91
        go_wp2_with fail
        go_ret
        exact ⟨s, rfl, hsmy, HG2.out, (bel_a _ _).alloc (by simp) _⟩
    · have n3 : ¬ p.op = 3 := by omega
      have n4 : ¬ p.op = 4 := by omega
      have n5 : ¬ p.op = 5 := by omega
      have HG2 : Hid (∀ e, (0 : Nat).testBit e = (Gcell k p e || (Ccell p && (fv.getD p.y.toNat 0).testBit e))) := Lib.hid fun e => by simp [Gcell, Ccell, h2, n3, n4, n5]
      clear h3
      go_enter Try.func91, Try.ntmps91
      go_wp2_with fail
      go_ret
      exact ⟨0, rfl, Nat.two_pow_pos _, HG2.out, (bel_a _ _).alloc (by simp) _⟩

set_option maxHeartbeats 1000000 in
theorem numbers_sets (vg : Value) (w0 : World) (B cb : Nat) (ts : List Int) (pts : List Pt) (hg : GrS w0 B vg ts pts) (hB : B ≤ w0.heap.size) (hc : w0.cell? ⟨cb, 0, none⟩ = some vg) (hcb : cb < w0.heap.size) (gd : Good ts pts) : SetsC w0 66 #[.pointer (some ⟨cb, 0, none⟩)] pts Gnum Cnum := by
  intro w k p fv hb hp hs hl hsm
  have hkl := idx_lt hp
  have hk : k ≤ 61 := by have := gd.len; omega
  have hpe : pts[k] = p := by rw [List.getElem?_eq_getElem hkl] at hp; injection hp
  have HY := Lib.hid (fun ho => gd.y hp ho)
  have HN := Lib.hid (fun ho => gd.n hp ho)
  have h6 := gd.h6
  have hsz := hb.size
  have hb1 := hb.alloc hsz (.cells (uv fv).toArray 68)
  have hc1 := (hb1.cell (p := ⟨cb, 0, none⟩) hcb).trans hc
  have HG := Lib.hid (hg.low hb1 hB)
  obtain ⟨g, At, ct, vb, Al, cl, rfl, hgB, g0, g1, g2, ht, hps, htl, hpl⟩ := HG.out.open_
  obtain ⟨b, off, c, nv, e, hbb, hcc, hll, hnx, z0, z1, z2, z3, z4⟩ := hps.get hkl
  injection e with e1 e9 e2
  subst e1 e2
  rw [hpe] at z0 z1 z2 z3 hnx
  obtain ⟨An, cn, rfl, hcn, hln, -⟩ := hnx
  simp only [List.length_map] at z4
  have HSM := Lib.hid (getD_small hsm)
  have hcell : ∀ o, p.y.toNat < 6 → ((w.alloc (.cells (uv fv).toArray 68)).alloc o).cell? ⟨w.heap.size, p.y.toNat, none⟩ = some (.int .u64 (fv.getD p.y.toNat 0 : Nat)) := fun o hy => row_get (by omega) _ _
  have HC := Lib.hid hcell
  clear hp hs hl hsm hpe e9 hc hcell hb1
  change Calls Try.prog 66 #[.int .i64 (k : Nat), .agg (uv fv).toArray, .pointer (some ⟨cb, 0, none⟩)] w _
  by_cases h1 : p.op = 1
  · have hn := HN.out (by omega)
    obtain ⟨n, hpn⟩ : ∃ n : Nat, p.n = n := ⟨p.n.toNat, by omega⟩
    have hn9 : n ≤ 9 := by omega
    have HP := Lib.hid (pow_u64 (k := n) (by omega))
    have HG2 : Hid (∀ e, (2 ^ n).testBit e = (Gnum k p e || (Cnum p && (fv.getD p.y.toNat 0).testBit e))) := Lib.hid fun e => by
      rw [pow_bit, Bool.eq_iff_iff]; simp [Gnum, Cnum, h1, hpn]; omega
    rw [hpn] at z3
    clear hn
    generalize p.n = pn at *
    subst hpn
    go_enter Try.func66, Try.ntmps66
    go_wp2_with fail
    rw [HP.out]
    go_ret
    exact ⟨2 ^ n, rfl, one_shl (by omega), HG2.out, (bel_a _ _).alloc (by simp) _⟩
  · by_cases h3 : p.op = 3
    · have hy := HY.out ⟨by omega, by omega⟩
      have hy0 := hy.1
      have hy6 : p.y < 6 := by omega
      have HG2 : Hid (∀ e, (fv.getD p.y.toNat 0).testBit e = (Gnum k p e || (Cnum p && (fv.getD p.y.toNat 0).testBit e))) := Lib.hid fun e => by simp [Gnum, Cnum, h3]
      have hcell := fun o => HC.out o (by omega)
      have hsmy := HSM.out p.y.toNat
      generalize fv.getD p.y.toNat 0 = s at *
      clear h1 hy
      go_enter Try.func66, Try.ntmps66
      go_wp2_with fail
      go_ret
      exact ⟨s, rfl, hsmy, HG2.out, (bel_a _ _).alloc (by simp) _⟩
    · by_cases h6' : p.op = 6
      · have HG2 : Hid (∀ e, (1023 : Nat).testBit e = (Gnum k p e || (Cnum p && (fv.getD p.y.toNat 0).testBit e))) := Lib.hid fun e => by
          rw [show (1023 : Nat) = 2 ^ 10 - 1 by decide, Nat.testBit_two_pow_sub_one]; simp [Gnum, Cnum, h6']
        clear h1 h3
        go_enter Try.func66, Try.ntmps66
        go_wp2_with fail
        go_ret
        exact ⟨1023, rfl, by rw [top_eq]; decide, HG2.out, (bel_a _ _).alloc (by simp) _⟩
      · have HG2 : Hid (∀ e, (0 : Nat).testBit e = (Gnum k p e || (Cnum p && (fv.getD p.y.toNat 0).testBit e))) := Lib.hid fun e => by simp [Gnum, Cnum, h1, h3, h6']
        go_enter Try.func66, Try.ntmps66
        go_wp2_with fail
        go_ret
        exact ⟨0, rfl, Nat.two_pow_pos _, HG2.out, (bel_a _ _).alloc (by simp) _⟩
theorem numbers_enter : ∀ (args : Array Value) (w : World), (callFunc 66 args).run Try.prog w = .ok (.enter 66 args) w := fun args w => Go.MuLone.run_callFunc_enter Try.func66 (by kernel_rfl) rfl args w

theorem cells_enter : ∀ (args : Array Value) (w : World), (callFunc 91 args).run Try.prog w = .ok (.enter 91 args) w := fun args w => Go.MuLone.run_callFunc_enter Try.func91 (by kernel_rfl) rfl args w
theorem Gcell_lt {pts : List Pt} (h : pts.length ≤ 61) : ∀ i p e, pts[i]? = some p → Gcell i p e = true → e < pts.length := fun i p e hp h => by
  have := idx_lt hp
  simp [Gcell] at h; omega
theorem cells_any (vg : Value) (ts : List Int) (pts : List Pt) (B : Nat) (w : World) (hg : GrS w B vg ts pts) (hB : B ≤ w.heap.size) (gd : Good ts pts) :
    Calls Try.prog 55 #[vg] w (TrRet w ts pts Gcell Ccell) := by
  have hb1 := bel_a w (.cells #[vg] 62)
  have HT := Lib.hid (tracked_any vg ts pts B (w.alloc (.cells #[vg] 62)) 91 #[.pointer (some ⟨w.heap.size, 0, none⟩)] Gcell Ccell cells_enter
    (cells_sets vg _ B w.heap.size ts pts (hg.low hb1 hB) (by simp; omega) (cell_of_row _ _ _ _ _ _ (heap_alloc_new w _)) (by simp) gd) (hg.low hb1 hB) (by simp; omega) gd (fun i p e hp h => by have := Gcell_lt gd.len i p e hp h; have := gd.len; omega))
  have hmf : ∀ (fn : Fn) (first cap : Array Value) (w : World), (Instr.makeFunc fn first cap).run Try.prog w = .ok (.func fn first cap) w := fun _ _ _ _ => rfl
  obtain ⟨g, At, ct, vb, Al, cl, rfl, -⟩ := hg.open_
  go_enter Try.func55, Try.ntmps55
  go_wp2_with fail
  refine HT.out.mono ?_
  rintro e w1 ⟨g', fs, rfl, h1, h2, h3, h4, h5, h6⟩
  have hs1 : w.heap.size ≤ g' := by simp at h1; omega
  clear h1 hmf
  go_wp2_with fail
  go_ret
  exact ⟨g', fs, rfl, hs1, h2, h3, h4, h5, hb1.trans (h6.mono (by simp))⟩

theorem setters_enter : ∀ (args : Array Value) (w : World), (callFunc 102 args).run Try.prog w = .ok (.enter 102 args) w := fun args w => Go.MuLone.run_callFunc_enter Try.func102 (by kernel_rfl) rfl args w
theorem Gset_lt {pts : List Pt} (h : pts.length ≤ 61) : ∀ i p e, pts[i]? = some p → Gset i p e = true → e < pts.length := fun i p e hp h => by
  have := idx_lt hp
  simp [Gset] at h; omega
theorem setters_any (vg : Value) (ts : List Int) (pts : List Pt) (B : Nat) (w : World) (hg : GrS w B vg ts pts) (hB : B ≤ w.heap.size) (gd : Good ts pts) :
    Calls Try.prog 69 #[vg] w (TrRet w ts pts Gset Cset) := by
  have HT := Lib.hid (tracked_any vg ts pts B w 102 #[] Gset Cset setters_enter (setters_sets w ts pts gd) hg hB gd (fun i p e hp h => by have := Gset_lt gd.len i p e hp h; have := gd.len; omega))
  obtain ⟨g, At, ct, vb, Al, cl, rfl, -⟩ := hg.open_
  go_enter Try.func69, Try.ntmps69
  go_wp2_with fail
  refine HT.out.mono ?_
  rintro e w1 ⟨g', fs, rfl, h1, h2, h3, h4, h5, h6⟩
  go_wp2_with fail
  go_ret
  exact ⟨g', fs, rfl, h1, h2, h3, h4, h5, h6⟩

end Go.Proofs.Yteaddodjijlpjaa

/- impl.CellsOf, SettersOf, NumbersOf, MayAlias, UsersOf. -/
namespace Go.Proofs.Yteaddodjijlpjaa
open Go.RowKit

noncomputable def flS (s : Nat) (ts : List Int) (pts : List Pt) (G : Nat → Pt → Nat → Bool) (C : Pt → Bool) (i v : Nat) : List Int := lst s fun e => dec (Fl ts pts G C i v e)
theorem flS_bits {ts : List Int} {pts : List Pt} {G : Nat → Pt → Nat → Bool} {C : Pt → Bool} {fs : List Nat} {s i v : Nat} (h : ∀ i v e, stF fs i v e = true ↔ Fl ts pts G C i v e) (hv : v < 6) (hs : s ≤ 64) (hg : ∀ i p e, pts[i]? = some p → G i p e = true → e < s) :
    lst 64 (fs.getD (i * 6 + v) 0).testBit = flS s ts pts G C i v := by
  have e : ∀ e, (fs.getD (i * 6 + v) 0).testBit e = dec (Fl ts pts G C i v e) := fun e => by
    rw [Bool.eq_iff_iff, dec_iff, ← h i v e]; unfold stF; rw [decide_eq_true hv, Bool.true_and]
  unfold flS
  rw [← lst_congr fun i _ => e i, lst_more hs]
  intro e' h1 _
  rw [e, dec_false]
  intro hf
  have := hf.size hg
  omega
noncomputable def flRes (ts : List Int) (l : List St) (G : Nat → Pt → Nat → Bool) (C : Pt → Bool) (a v : Int) : List Int := if graphOk ts l [a] = true ∧ withinP v 0 ((ts.length : Int) - 1) = true then flS (ptsP l).length ts (ptsP l) G C a.toNat v.toNat else []

set_option maxHeartbeats 1000000 in
theorem iCellsOf_any (vt vb : Value) (ts : List Int) (l : List St) (a v : Int) (B : Nat) (w : World) (ht : IntS w B vt ts) (hl : StS w B vb l) (hB : B ≤ w.heap.size) (hsz : szL l ≤ 4194300) :
    Calls Try.prog 18 #[.agg #[vt, vb], .int .i64 a, .int .i64 v] w (IntsRet w (flRes ts l Gcell Ccell a v)) := by
  have hb2 : ∀ o o', Below w.heap.size w ((w.alloc o).alloc o') := fun o o' => (bel_a w o).alloc (by simp) o'
  go_enter Try.func18, Try.ntmps18
  go_wp2_with fail
  refine (graphOf_any vt vb _ ts l [a] (w.heap.size + 2) _ ((ht.low (hb2 _ _) hB).more (by omega)) ((hl.low (hb2 _ _) hB).more (by omega)) (by simpa using ints_lit (w.alloc _) [a] 3 (by simp)) (by simp) hsz).mono ?_
  rintro e w1 ⟨vg, rfl, hgr, hb1⟩
  have hb3 := (hb2 _ _).trans (hb1.mono (by simp; omega))
  cases hok : graphOk ts l [a]
  · have HRES : Hid (flRes ts l Gcell Ccell a v = []) := Lib.hid (by unfold flRes; rw [hok, if_neg (by simp)])
    clear hok hgr
    go_wp2_with fail
    go_ret
    exact ⟨_, rfl, by rw [HRES.out]; exact (OInts.nil w1 0).toS (by simp), hb3⟩
  · obtain ⟨hv, k, rfl, hk⟩ := graphOk_one hok
    have G := Good.of_valid hv
    have hgg := hgr hok
    have hs3 := hb3.size
    cases hwv : withinP v 0 ((ts.length : Int) - 1)
    · have HRES : Hid (flRes ts l Gcell Ccell k v = []) := Lib.hid (by unfold flRes; rw [hwv, if_neg (by simp)])
      have HWV := Lib.hid hwv
      clear hok hgr hv hwv
      go_wp2_with fail
      refine (isVar_any vg ts (ptsP l) _ v _ hgg).mono ?_
      rintro e w' ⟨rfl, rfl⟩
      rw [HWV.out]
      go_wp2_with fail
      go_ret
      exact ⟨_, rfl, by rw [HRES.out]; exact (OInts.nil w1 0).toS (by simp), hb3⟩
    · have hv0 : 0 ≤ v ∧ v < ts.length := by simp [withinP] at hwv; omega
      have HRES : Hid (flRes ts l Gcell Ccell k v = flS (ptsP l).length ts (ptsP l) Gcell Ccell k v.toNat) := Lib.hid (by unfold flRes; rw [if_pos ⟨hok, hwv⟩]; rfl)
      have HWV := Lib.hid hwv
      have HGT := Lib.hid (cells_any vg ts (ptsP l) _ _ hgg (Nat.le_refl _) G)
      obtain ⟨x, rfl⟩ : ∃ x : Nat, v = x := ⟨v.toNat, by omega⟩
      have hx : x < ts.length := by omega
      have h6 := G.h6
      have hplen := G.len
      clear hok hgr hv hwv hv0
      go_wp2_with fail
      refine (isVar_any vg ts (ptsP l) _ _ _ hgg).mono ?_
      rintro e w' ⟨rfl, rfl⟩
      rw [HWV.out]
      go_wp2_with fail
      refine HGT.out.mono ?_
      rintro e w2 ⟨g', fs, rfl, -, hrow, hfl, hsm, hst, hb4⟩
      have hck : w2.cell? ⟨g', k * 6 + x, none⟩ = some (.int .u64 (fs.getD (k * 6 + x) 0 : Nat)) := by rw [hrow.cell, uv_get (by omega)]
      have HBI := Lib.hid (flS_bits (i := k) (v := x) (s := (ptsP l).length) hst (by omega) (by omega) (Gcell_lt hplen))
      have hm64 := getD_small hsm (k * 6 + x)
      clear hst hrow hfl hsm
      generalize fs.getD (k * 6 + x) 0 = m at *
      have HLB := Lib.hid (loanBits_any m hm64 w2)
      clear hm64
      go_wp2_with fail
      refine HLB.out.mono ?_
      rintro e w3 ⟨v3, rfl, hi3, hb5⟩
      go_wp2_with fail
      go_ret
      rw [HBI.out] at hi3
      exact ⟨v3, rfl, by rw [HRES.out]; exact hi3, (hb3.trans (hb4.mono hs3)).trans (hb5.mono (by have := hb4.size; omega))⟩

set_option maxHeartbeats 1000000 in
theorem iSettersOf_any (vt vb : Value) (ts : List Int) (l : List St) (a v : Int) (B : Nat) (w : World) (ht : IntS w B vt ts) (hl : StS w B vb l) (hB : B ≤ w.heap.size) (hsz : szL l ≤ 4194300) :
    Calls Try.prog 32 #[.agg #[vt, vb], .int .i64 a, .int .i64 v] w (IntsRet w (flRes ts l Gset Cset a v)) := by
  have hb2 : ∀ o o', Below w.heap.size w ((w.alloc o).alloc o') := fun o o' => (bel_a w o).alloc (by simp) o'
  go_enter Try.func32, Try.ntmps32
  go_wp2_with fail
  refine (graphOf_any vt vb _ ts l [a] (w.heap.size + 2) _ ((ht.low (hb2 _ _) hB).more (by omega)) ((hl.low (hb2 _ _) hB).more (by omega)) (by simpa using ints_lit (w.alloc _) [a] 3 (by simp)) (by simp) hsz).mono ?_
  rintro e w1 ⟨vg, rfl, hgr, hb1⟩
  have hb3 := (hb2 _ _).trans (hb1.mono (by simp; omega))
  cases hok : graphOk ts l [a]
  · have HRES : Hid (flRes ts l Gset Cset a v = []) := Lib.hid (by unfold flRes; rw [hok, if_neg (by simp)])
    clear hok hgr
    go_wp2_with fail
    go_ret
    exact ⟨_, rfl, by rw [HRES.out]; exact (OInts.nil w1 0).toS (by simp), hb3⟩
  · obtain ⟨hv, k, rfl, hk⟩ := graphOk_one hok
    have G := Good.of_valid hv
    have hgg := hgr hok
    have hs3 := hb3.size
    cases hwv : withinP v 0 ((ts.length : Int) - 1)
    · have HRES : Hid (flRes ts l Gset Cset k v = []) := Lib.hid (by unfold flRes; rw [hwv, if_neg (by simp)])
      have HWV := Lib.hid hwv
      clear hok hgr hv hwv
      go_wp2_with fail
      refine (isVar_any vg ts (ptsP l) _ v _ hgg).mono ?_
      rintro e w' ⟨rfl, rfl⟩
      rw [HWV.out]
      go_wp2_with fail
      go_ret
      exact ⟨_, rfl, by rw [HRES.out]; exact (OInts.nil w1 0).toS (by simp), hb3⟩
    · have hv0 : 0 ≤ v ∧ v < ts.length := by simp [withinP] at hwv; omega
      have HRES : Hid (flRes ts l Gset Cset k v = flS (ptsP l).length ts (ptsP l) Gset Cset k v.toNat) := Lib.hid (by unfold flRes; rw [if_pos ⟨hok, hwv⟩]; rfl)
      have HWV := Lib.hid hwv
      have HGT := Lib.hid (setters_any vg ts (ptsP l) _ _ hgg (Nat.le_refl _) G)
      obtain ⟨x, rfl⟩ : ∃ x : Nat, v = x := ⟨v.toNat, by omega⟩
      have hx : x < ts.length := by omega
      have h6 := G.h6
      have hplen := G.len
      clear hok hgr hv hwv hv0
      go_wp2_with fail
      refine (isVar_any vg ts (ptsP l) _ _ _ hgg).mono ?_
      rintro e w' ⟨rfl, rfl⟩
      rw [HWV.out]
      go_wp2_with fail
      refine HGT.out.mono ?_
      rintro e w2 ⟨g', fs, rfl, -, hrow, hfl, hsm, hst, hb4⟩
      have hck : w2.cell? ⟨g', k * 6 + x, none⟩ = some (.int .u64 (fs.getD (k * 6 + x) 0 : Nat)) := by rw [hrow.cell, uv_get (by omega)]
      have HBI := Lib.hid (flS_bits (i := k) (v := x) (s := (ptsP l).length) hst (by omega) (by omega) (Gset_lt hplen))
      have hm64 := getD_small hsm (k * 6 + x)
      clear hst hrow hfl hsm
      generalize fs.getD (k * 6 + x) 0 = m at *
      have HLB := Lib.hid (loanBits_any m hm64 w2)
      clear hm64
      go_wp2_with fail
      refine HLB.out.mono ?_
      rintro e w3 ⟨v3, rfl, hi3, hb5⟩
      go_wp2_with fail
      go_ret
      rw [HBI.out] at hi3
      exact ⟨v3, rfl, by rw [HRES.out]; exact hi3, (hb3.trans (hb4.mono hs3)).trans (hb5.mono (by have := hb4.size; omega))⟩

theorem Gnum_lt {ts : List Int} {pts : List Pt} (gd : Good ts pts) : ∀ i p e, pts[i]? = some p → Gnum i p e = true → e < 10 := fun i p e hp h => by
  have hn := gd.n hp
  simp only [Gnum, Bool.or_eq_true, Bool.and_eq_true, beq_iff_eq, decide_eq_true_eq] at h
  rcases h with h | h
  · have := hn (by omega); omega
  · exact h.2
noncomputable def numRes (ts : List Int) (l : List St) (a v : Int) : List Int := if graphOk ts l [a] = true ∧ withinP v 0 ((ts.length : Int) - 1) = true ∧ typeOfP ts v = 1 then flS 10 ts (ptsP l) Gnum Cnum a.toNat v.toNat else []
set_option maxHeartbeats 1000000 in
theorem iNumbersOf_any (vt vb : Value) (ts : List Int) (l : List St) (a v : Int) (B : Nat) (w : World) (ht : IntS w B vt ts) (hl : StS w B vb l) (hB : B ≤ w.heap.size) (hsz : szL l ≤ 4194300) :
    Calls Try.prog 26 #[.agg #[vt, vb], .int .i64 a, .int .i64 v] w (IntsRet w (numRes ts l a v)) := by
  have hb2 : ∀ o o', Below w.heap.size w ((w.alloc o).alloc o') := fun o o' => (bel_a w o).alloc (by simp) o'
  have hmf : ∀ (fn : Fn) (first cap : Array Value) (w : World), (Instr.makeFunc fn first cap).run Try.prog w = .ok (.func fn first cap) w := fun _ _ _ _ => rfl
  have HMF := Lib.hid hmf
  clear hmf
  go_enter Try.func26, Try.ntmps26
  go_wp2_with fail
  refine (graphOf2_any vt vb _ ts l [a] (w.heap.size + 2) _ ((ht.low (hb2 _ _) hB).more (by omega)) ((hl.low (hb2 _ _) hB).more (by omega)) (by simpa using ints_lit (w.alloc _) [a] 3 (by simp)) (by simp) hsz).mono ?_
  rintro e w1 ⟨vg, rfl, hgr, hb1, hnil⟩
  have hb3 := (hb2 _ _).trans (hb1.mono (by simp; omega))
  have hs3 := hb3.size
  cases hok : graphOk ts l [a]
  · have HRES : Hid (numRes ts l a v = []) := Lib.hid (by unfold numRes; rw [hok, if_neg (by simp)])
    obtain rfl := hnil hok
    clear hok hgr hnil
    go_wp2_with fail
    go_ret
    exact ⟨_, rfl, by rw [HRES.out]; exact (OInts.nil _ 0).toS (by simp), hb3.alloc hs3 _⟩
  · obtain ⟨hv, k, rfl, hk⟩ := graphOk_one hok
    clear hnil
    have G := Good.of_valid hv
    have hgg := hgr hok
    have h6 := G.h6
    have hplen := G.len
    have hgg' := hgg
    obtain ⟨g, At, ct, vb', Al, cl, rfl, hgB, -⟩ := hgg'.open_
    have hba := bel_a w1 (.cells #[.pointer (some ⟨g, 0, none⟩)] 62)
    have hg2 := hgg.low hba (Nat.le_refl _)
    have hcap : (w1.alloc (.cells #[.pointer (some ⟨g, 0, none⟩)] 62)).cell? ⟨w1.heap.size, 0, none⟩ = some (.pointer (some ⟨g, 0, none⟩)) := cell_of_row _ _ _ _ _ _ (heap_alloc_new w1 _)
    have hcl : w1.heap.size < (w1.alloc (.cells #[.pointer (some ⟨g, 0, none⟩)] 62)).heap.size := by simp
    have HBA := Lib.hid (hb3.trans (hba.mono hs3))
    have HG2 := Lib.hid hg2
    cases hwv : withinP v 0 ((ts.length : Int) - 1)
    · have HRES : Hid (numRes ts l k v = []) := Lib.hid (by unfold numRes; rw [hwv, if_neg (by simp)])
      have HWV := Lib.hid hwv
      clear hok hgr hv hwv hcap
      go_wp2_with fail
      refine (isVar_any _ ts (ptsP l) _ v _ HG2.out).mono ?_
      rintro e w' ⟨rfl, rfl⟩
      rw [HWV.out]
      go_wp2_with fail
      go_ret
      exact ⟨_, rfl, by rw [HRES.out]; exact (OInts.nil _ 0).toS (by simp), HBA.out⟩
    · have hv0 : 0 ≤ v ∧ v < ts.length := by simp [withinP] at hwv; omega
      have hv1 := hv0.1
      have hv2 := hv0.2
      obtain ⟨g', At', ct', vb2, Al', cl', e, hgB', g0, g1, g2, ht', hps, -, -⟩ := hg2.open_
      injection e with e
      injection e with e
      injection e with e
      subst e
      obtain ⟨bt, ot, ct2, e, hbt, -, -, hct⟩ := ht'.get hv1 hv2
      injection e with e1 e9 e2
      subst e1 e2
      clear e9
      have HWV := Lib.hid hwv
      by_cases hty : typeOfP ts v = 1
      · have HRES : Hid (numRes ts l k v = flS 10 ts (ptsP l) Gnum Cnum k v.toNat) := Lib.hid (by unfold numRes; rw [if_pos ⟨hok, hwv, hty⟩]; rfl)
        have HGT := Lib.hid (tracked_any _ ts (ptsP l) _ (w1.alloc (.cells #[.pointer (some ⟨g, 0, none⟩)] 62)) 66 #[.pointer (some ⟨w1.heap.size, 0, none⟩)] Gnum Cnum numbers_enter
          (numbers_sets _ _ _ w1.heap.size ts (ptsP l) hg2 hba.size hcap hcl G) hg2 hba.size G (fun i p e hp h => by have := Gnum_lt G i p e hp h; omega))
        have HLT := Lib.hid (Gnum_lt G)
        clear hok hgr hv hwv hv0 hps
        obtain ⟨x, rfl⟩ : ∃ x : Nat, v = x := ⟨v.toNat, by omega⟩
        have hx : x < ts.length := by omega
        rw [hty] at hct
        simp only [Int.toNat_natCast] at hct
        clear hty G
        go_wp2_with fail
        refine (isVar_any _ ts (ptsP l) _ _ _ HG2.out).mono ?_
        rintro e w' ⟨rfl, rfl⟩
        rw [HWV.out]
        have hmf := HMF.out
        go_wp2_with fail
        refine HGT.out.mono ?_
        rintro e w2 ⟨g', fs, rfl, -, hrow, hfl, hsm, hst, hb4⟩
        have hck : w2.cell? ⟨g', k * 6 + x, none⟩ = some (.int .u64 (fs.getD (k * 6 + x) 0 : Nat)) := by rw [hrow.cell, uv_get (by omega)]
        have HBI := Lib.hid (flS_bits (i := k) (v := x) (s := 10) hst (by omega) (by omega) HLT.out)
        have hm64 := getD_small hsm (k * 6 + x)
        clear hst hrow hfl hsm hmf
        generalize fs.getD (k * 6 + x) 0 = m at *
        have HLB := Lib.hid (loanBits_any m hm64 w2)
        clear hm64
        go_wp2_with fail
        refine HLB.out.mono ?_
        rintro e w3 ⟨v3, rfl, hi3, hb5⟩
        go_wp2_with fail
        go_ret
        rw [HBI.out] at hi3
        exact ⟨v3, rfl, by rw [HRES.out]; exact hi3, (HBA.out.trans (hb4.mono HBA.out.size)).trans (hb5.mono (by have := hb4.size; have := HBA.out.size; omega))⟩
      · have HRES : Hid (numRes ts l k v = []) := Lib.hid (by unfold numRes; rw [if_neg (fun h => hty h.2.2)])
        have hty2 : ((typeOfP ts v) != 1) = true := by simpa using hty
        clear hok hgr hv hwv hcap hv0 hps
        go_wp2_with fail
        refine (isVar_any _ ts (ptsP l) _ v _ HG2.out).mono ?_
        rintro e w' ⟨rfl, rfl⟩
        rw [HWV.out]
        go_wp2_with fail
        go_ret
        exact ⟨_, rfl, by rw [HRES.out]; exact (OInts.nil _ 0).toS (by simp), HBA.out⟩

end Go.Proofs.Yteaddodjijlpjaa

/- impl.MayAlias, UsersOf. -/
namespace Go.Proofs.Yteaddodjijlpjaa
open Go.RowKit

noncomputable def aliasRes (ts : List Int) (l : List St) (a v u : Int) : Bool := graphOk ts l [a] && withinP v 0 ((ts.length : Int) - 1) && withinP u 0 ((ts.length : Int) - 1) && (List.range (ptsP l).length).any fun e => dec (Fl ts (ptsP l) Gcell Ccell a.toNat v.toNat e) && dec (Fl ts (ptsP l) Gcell Ccell a.toNat u.toNat e)
theorem and_any {a b n : Nat} {f g : Nat → Bool} (hf : ∀ e, a.testBit e = f e) (hg : ∀ e, b.testBit e = g e) (hn : ∀ e, f e = true → e < n) : (((a &&& b : Nat) : Int) != 0) = (List.range n).any fun e => f e && g e := by
  rw [Bool.eq_iff_iff, List.any_eq_true]
  constructor
  · intro h
    have h' : a &&& b ≠ 0 := by simpa using h
    obtain ⟨e, he⟩ := Nat.exists_testBit_of_ne_zero h'
    rw [Nat.testBit_and, hf, hg] at he
    exact ⟨e, List.mem_range.2 (hn e (by rw [Bool.and_eq_true] at he; exact he.1)), he⟩
  · rintro ⟨e, _, he⟩
    have h1 : (a &&& b).testBit e = true := by rw [Nat.testBit_and, hf, hg]; exact he
    have : a &&& b ≠ 0 := by intro h; rw [h] at h1; simp at h1
    simpa using this

set_option maxHeartbeats 1000000 in
theorem iMayAlias_any (vt vb : Value) (ts : List Int) (l : List St) (a v u : Int) (B : Nat) (w : World) (ht : IntS w B vt ts) (hl : StS w B vb l) (hB : B ≤ w.heap.size) (hsz : szL l ≤ 4194300) :
    Calls Try.prog 16 #[.agg #[vt, vb], .int .i64 a, .int .i64 v, .int .i64 u] w fun e w' => e = .returned (.bool (aliasRes ts l a v u)) ∧ Below w.heap.size w w' := by
  have hb2 : ∀ o o', Below w.heap.size w ((w.alloc o).alloc o') := fun o o' => (bel_a w o).alloc (by simp) o'
  go_enter Try.func16, Try.ntmps16
  go_wp2_with fail
  refine (graphOf_any vt vb _ ts l [a] (w.heap.size + 2) _ ((ht.low (hb2 _ _) hB).more (by omega)) ((hl.low (hb2 _ _) hB).more (by omega)) (by simpa using ints_lit (w.alloc _) [a] 3 (by simp)) (by simp) hsz).mono ?_
  rintro e w1 ⟨vg, rfl, hgr, hb1⟩
  have hb3 := (hb2 _ _).trans (hb1.mono (by simp; omega))
  cases hok : graphOk ts l [a]
  · have HRES : Hid (aliasRes ts l a v u = false) := Lib.hid (by unfold aliasRes; rw [hok]; rfl)
    clear hok hgr
    go_wp2_with fail
    go_ret
    exact ⟨ret_bool HRES.out.symm, hb3⟩
  · obtain ⟨hv, k, rfl, hk⟩ := graphOk_one hok
    have G := Good.of_valid hv
    have hgg := hgr hok
    have hs3 := hb3.size
    cases hwv : withinP v 0 ((ts.length : Int) - 1)
    · have HRES : Hid (aliasRes ts l k v u = false) := Lib.hid (by unfold aliasRes; rw [hwv, hok]; rfl)
      have HWV := Lib.hid hwv
      clear hok hgr hv hwv
      go_wp2_with fail
      refine (isVar_any vg ts (ptsP l) _ v _ hgg).mono ?_
      rintro e w' ⟨rfl, rfl⟩
      rw [HWV.out]
      go_wp2_with fail
      go_ret
      exact ⟨ret_bool HRES.out.symm, hb3⟩
    · cases hwu : withinP u 0 ((ts.length : Int) - 1)
      · have HRES : Hid (aliasRes ts l k v u = false) := Lib.hid (by unfold aliasRes; rw [hwv, hok, hwu]; rfl)
        have HWV := Lib.hid hwv
        have HWU := Lib.hid hwu
        clear hok hgr hv hwv hwu
        go_wp2_with fail
        refine (isVar_any vg ts (ptsP l) _ v _ hgg).mono ?_
        rintro e w' ⟨rfl, rfl⟩
        rw [HWV.out]
        go_wp2_with fail
        refine (isVar_any vg ts (ptsP l) _ u _ hgg).mono ?_
        rintro e w' ⟨rfl, rfl⟩
        rw [HWU.out]
        go_wp2_with fail
        go_ret
        exact ⟨ret_bool HRES.out.symm, hb3⟩
      · have hv0 : 0 ≤ v ∧ v < ts.length := by simp [withinP] at hwv; omega
        have hu0 : 0 ≤ u ∧ u < ts.length := by simp [withinP] at hwu; omega
        have HRES : Hid (aliasRes ts l k v u = (List.range (ptsP l).length).any fun e => dec (Fl ts (ptsP l) Gcell Ccell k v.toNat e) && dec (Fl ts (ptsP l) Gcell Ccell k u.toNat e)) := Lib.hid (by unfold aliasRes; rw [hwv, hok, hwu]; rfl)
        have HWV := Lib.hid hwv
        have HWU := Lib.hid hwu
        have HGT := Lib.hid (cells_any vg ts (ptsP l) _ _ hgg (Nat.le_refl _) G)
        obtain ⟨x, rfl⟩ : ∃ x : Nat, v = x := ⟨v.toNat, by omega⟩
        obtain ⟨y, rfl⟩ : ∃ y : Nat, u = y := ⟨u.toNat, by omega⟩
        have hx : x < ts.length := by omega
        have hy : y < ts.length := by omega
        have h6 := G.h6
        have hplen := G.len
        clear hok hgr hv hwv hv0 hu0 hwu
        go_wp2_with fail
        refine (isVar_any vg ts (ptsP l) _ _ _ hgg).mono ?_
        rintro e w' ⟨rfl, rfl⟩
        rw [HWV.out]
        go_wp2_with fail
        refine (isVar_any vg ts (ptsP l) _ _ _ hgg).mono ?_
        rintro e w' ⟨rfl, rfl⟩
        rw [HWU.out]
        go_wp2_with fail
        refine HGT.out.mono ?_
        rintro e w2 ⟨g', fs, rfl, -, hrow, hfl, hsm, hst, hb4⟩
        obtain ⟨a0, ha0⟩ : ∃ a, a = fs.getD (k * 6) 0 := ⟨_, rfl⟩
        obtain ⟨a1, ha1⟩ : ∃ a, a = fs.getD (k * 6 + 1) 0 := ⟨_, rfl⟩
        obtain ⟨a2, ha2⟩ : ∃ a, a = fs.getD (k * 6 + 2) 0 := ⟨_, rfl⟩
        obtain ⟨a3, ha3⟩ : ∃ a, a = fs.getD (k * 6 + 3) 0 := ⟨_, rfl⟩
        obtain ⟨a4, ha4⟩ : ∃ a, a = fs.getD (k * 6 + 4) 0 := ⟨_, rfl⟩
        obtain ⟨a5, ha5⟩ : ∃ a, a = fs.getD (k * 6 + 5) 0 := ⟨_, rfl⟩
        have q0 : w2.cell? ⟨g', k * 6, none⟩ = some (.int .u64 (a0 : Nat)) := by rw [hrow.cell, uv_get (by omega), ha0]
        have q1 : w2.cell? ⟨g', k * 6 + 1, none⟩ = some (.int .u64 (a1 : Nat)) := by rw [hrow.cell, uv_get (by omega), ha1]
        have q2 : w2.cell? ⟨g', k * 6 + 2, none⟩ = some (.int .u64 (a2 : Nat)) := by rw [hrow.cell, uv_get (by omega), ha2]
        have q3 : w2.cell? ⟨g', k * 6 + 3, none⟩ = some (.int .u64 (a3 : Nat)) := by rw [hrow.cell, uv_get (by omega), ha3]
        have q4 : w2.cell? ⟨g', k * 6 + 4, none⟩ = some (.int .u64 (a4 : Nat)) := by rw [hrow.cell, uv_get (by omega), ha4]
        have q5 : w2.cell? ⟨g', k * 6 + 5, none⟩ = some (.int .u64 (a5 : Nat)) := by rw [hrow.cell, uv_get (by omega), ha5]
        have hA : ∀ u, u < 6 → ([a0, a1, a2, a3, a4, a5] : List Nat).getD u 0 = fs.getD (k * 6 + u) 0 := fun u hu => by
          have h : u = 0 ∨ u = 1 ∨ u = 2 ∨ u = 3 ∨ u = 4 ∨ u = 5 := by omega
          rcases h with rfl | rfl | rfl | rfl | rfl | rfl <;> simp [ha0, ha1, ha2, ha3, ha4, ha5]
        have hbit : ∀ u e, u < 6 → (([a0, a1, a2, a3, a4, a5] : List Nat).getD u 0).testBit e = dec (Fl ts (ptsP l) Gcell Ccell k u e) := fun u e hu => by
          rw [hA u hu, Bool.eq_iff_iff, dec_iff, ← hst k u e]; unfold stF; rw [decide_eq_true hu, Bool.true_and]
        obtain ⟨mx, hmx⟩ : ∃ mx, mx = ([a0, a1, a2, a3, a4, a5] : List Nat).getD x 0 := ⟨_, rfl⟩
        obtain ⟨my, hmy⟩ : ∃ my, my = ([a0, a1, a2, a3, a4, a5] : List Nat).getD y 0 := ⟨_, rfl⟩
        have HAND : Hid ((((mx &&& my : Nat) : Int) != 0) = (List.range (ptsP l).length).any fun e => dec (Fl ts (ptsP l) Gcell Ccell k x e) && dec (Fl ts (ptsP l) Gcell Ccell k y e)) := Lib.hid
          (and_any (fun e => by rw [hmx]; exact hbit x e (by omega)) (fun e => by rw [hmy]; exact hbit y e (by omega)) (fun e he => (dec_iff.1 he).size (Gcell_lt hplen)))
        have hand : bits .and .u64 (mx : Int) (my : Int) = ((mx &&& my : Nat) : Int) := and_u64 (by rw [hmx, hA x (by omega)]; exact getD_small hsm _) (by rw [hmy, hA y (by omega)]; exact getD_small hsm _)
        have hr : RowB (w2.alloc (.cells (uv [a0, a1, a2, a3, a4, a5]).toArray 68)) w2.heap.size 68 (uv [a0, a1, a2, a3, a4, a5]) := RowB.new _ _ _
        have hcx : (w2.alloc (.cells (uv [a0, a1, a2, a3, a4, a5]).toArray 68)).cell? ⟨w2.heap.size, x, none⟩ = some (.int .u64 (mx : Nat)) := by rw [hr.cell, uv_get (by simp; omega), hmx]
        have hcy : (w2.alloc (.cells (uv [a0, a1, a2, a3, a4, a5]).toArray 68)).cell? ⟨w2.heap.size, y, none⟩ = some (.int .u64 (my : Nat)) := by rw [hr.cell, uv_get (by simp; omega), hmy]
        have hbl := (hb3.trans (hb4.mono hs3)).alloc (by have := hb4.size; omega) (.cells (uv [a0, a1, a2, a3, a4, a5]).toArray 68)
        have HBL := Lib.hid hbl
        generalize hrr : mx &&& my = r at *
        clear hst hrow hfl hsm ha0 ha1 ha2 ha3 ha4 ha5 hA hbit hmx hmy hrr hr hbl
        go_wp2_with fail
        change Code.wp _ _ _ _ (w2.alloc (.cells (uv [a0, a1, a2, a3, a4, a5]).toArray 68))
        generalize w2.alloc (.cells (uv [a0, a1, a2, a3, a4, a5]).toArray 68) = w3 at *
        go_quiet (fail)
        go_wp2_with fail
        go_ret
        exact ⟨ret_bool (by rw [HRES.out]; exact HAND.out), Below.drN HBL.out _⟩

def usesB (ts : List Int) (pts : List Pt) (x i : Nat) : Bool := match pts[i]? with
  | some p => useP ts p.op p.x p.y (x : Nat) != 0
  | none => false
noncomputable def userRes (ts : List Int) (l : List St) (a : Int) : List Int := if graphOk ts l [a] = true ∧ 0 ≤ setRes ts l a then lst (ptsP l).length (fun i => usesB ts (ptsP l) (setRes ts l a).toNat i && dec (Fl ts (ptsP l) Gset Cset i (setRes ts l a).toNat a.toNat)) else []
set_option maxHeartbeats 2000000 in
theorem iUsersOf_any (vt vb : Value) (ts : List Int) (l : List St) (a : Int) (B : Nat) (w : World) (ht : IntS w B vt ts) (hl : StS w B vb l) (hB : B ≤ w.heap.size) (hsz : szL l ≤ 4194300) :
    Calls Try.prog 29 #[.agg #[vt, vb], .int .i64 a] w (IntsRet w (userRes ts l a)) := by
  have hb2 : ∀ o o', Below w.heap.size w ((w.alloc o).alloc o') := fun o o' => (bel_a w o).alloc (by simp) o'
  go_enter Try.func29, Try.ntmps29
  go_wp2_with fail
  refine (graphOf_any vt vb _ ts l [a] (w.heap.size + 2) _ ((ht.low (hb2 _ _) hB).more (by omega)) ((hl.low (hb2 _ _) hB).more (by omega)) (by simpa using ints_lit (w.alloc _) [a] 3 (by simp)) (by simp) hsz).mono ?_
  rintro e w1 ⟨vg, rfl, hgr, hb1⟩
  have hb3 := (hb2 _ _).trans (hb1.mono (by simp; omega))
  cases hok : graphOk ts l [a]
  · have HRES : Hid (userRes ts l a = []) := Lib.hid (by unfold userRes; rw [hok, if_neg (by simp)])
    clear hok hgr
    go_wp2_with fail
    go_ret
    exact ⟨_, rfl, by rw [HRES.out]; exact (OInts.nil w1 0).toS (by simp), hb3⟩
  · obtain ⟨hv, k, rfl, hk⟩ := graphOk_one hok
    have G := Good.of_valid hv
    have hgg := hgr hok
    have hs3 := hb3.size
    have h6 := G.h6
    have hplen := G.len
    have hsr : setRes ts l (k : Nat) = setsP (ptsP l)[k].op (ptsP l)[k].x := by unfold setRes; rw [if_pos hok, ptAt_nat hk]
    have hlt := (G.ok _ (List.getElem_mem hk)).sets
    have HGG := Lib.hid hgg
    obtain ⟨g, At, ct, vb', Al, cl, rfl, hgB, g0, g1, g2, ht', hps, htl, hpl⟩ := hgg.open_
    obtain ⟨b, off, c, nv, e, hbb, hcc, hll, hnx, z0, z1, z2, z3, z4⟩ := hps.get hk
    injection e with e1 e9 e2
    subst e1 e2
    clear e9
    obtain ⟨An, cn, rfl, hcn, hln, -⟩ := hnx
    simp only [List.length_map] at z4 hcn hln
    by_cases hs0 : 0 ≤ setsP (ptsP l)[k].op (ptsP l)[k].x
    · obtain ⟨x, hx⟩ : ∃ x : Nat, setsP (ptsP l)[k].op (ptsP l)[k].x = x := ⟨(setsP (ptsP l)[k].op (ptsP l)[k].x).toNat, by omega⟩
      have HRES : Hid (userRes ts l (k : Nat) = lst (ptsP l).length (fun i => usesB ts (ptsP l) x i && dec (Fl ts (ptsP l) Gset Cset i x k))) := Lib.hid (by
        unfold userRes
        rw [hsr, hx, if_pos ⟨hok, by omega⟩]
        rfl)
      have HX := Lib.hid hx
      have hx6 : x < ts.length := by omega
      have HG := Lib.hid G
      clear hok hgr hv hsr hlt hs0 hx G
      go_wp2_with fail
      refine (sets_any _ _ _ _ _ _).mono ?_
      rintro e w2 ⟨rfl, hb4⟩
      rw [HX.out]
      have HG2 := Lib.hid (HGG.out.low hb4 (Nat.le_refl _))
      have y0 := (hb4.cell (p := ⟨g, 2, none⟩) hgB).trans g2
      have z0' := (hb4.cell (p := ⟨b, off + k * 5, none⟩) hbb).trans z0
      have z1' := (hb4.cell (p := ⟨b, off + k * 5 + 1, none⟩) hbb).trans z1
      have z2' := (hb4.cell (p := ⟨b, off + k * 5 + 2, none⟩) hbb).trans z2
      have z3' := (hb4.cell (p := ⟨b, off + k * 5 + 3, none⟩) hbb).trans z3
      have z4' := (hb4.cell (p := ⟨b, off + k * 5 + 4, none⟩) hbb).trans z4
      have HB2 := Lib.hid (hb3.trans (hb4.mono hs3))
      have hs4 := hb4.size
      clear z0 z1 z2 z3 z4 g0 g1 g2 hb4
      go_wp2_with fail
      refine (sets_any _ _ _ _ _ _).mono ?_
      rintro e w3 ⟨rfl, hb5⟩
      rw [HX.out]
      have HG3 := Lib.hid (HG2.out.low hb5 (by omega))
      have HB3 := Lib.hid (HB2.out.trans (hb5.mono HB2.out.size))
      have hs5 := hb5.size
      have HST := Lib.hid (setters_any _ ts (ptsP l) _ _ HG3.out (by omega) HG.out)
      clear z0' z1' z2' z3' z4' y0 hb5
      go_wp2_with fail
      refine HST.out.mono ?_
      rintro e w4 ⟨g', fs, rfl, -, hrow, hfl, hsm, hst, hb6⟩
      have HG4 := Lib.hid (HG3.out.low hb6 (by omega))
      have HB4 := Lib.hid (HB3.out.trans (hb6.mono HB3.out.size))
      have hs6 := hb6.size
      have HROW := Lib.hid hrow
      have HFL := Lib.hid hfl
      have HSM := Lib.hid (getD_small hsm)
      have HBIT : Hid (∀ i, (fs.getD (i * 6 + x) 0).testBit k = dec (Fl ts (ptsP l) Gset Cset i x k)) := Lib.hid fun i => by
        rw [Bool.eq_iff_iff, dec_iff, ← hst i x k]; unfold stF; rw [decide_eq_true (by omega), Bool.true_and]
      obtain ⟨g9, At2, ct2, vb2, Al2, cl2, e, hgB4, f0, f1, f2, -, hps4, -, -⟩ := HG4.out.open_
      injection e with e
      injection e with e
      injection e with e
      subst e
      clear hrow hfl hsm hst hb6 HST hps ht'
      have HPS4 := Lib.hid hps4
      clear hps4
      go_wp2_with (at_builtin; fail)
      go_loopw [9, 47] (fun v i wr => ∃ (j : Nat) (o : List Int), j ≤ (ptsP l).length ∧ i = .int .i64 j ∧ o = lst j (fun i => usesB ts (ptsP l) x i && dec (Fl ts (ptsP l) Gset Cset i x k)) ∧ OInts wr w4.heap.size v o ∧ Below w4.heap.size w4 wr) (fun _ i _ => (ptsP l).length - (intOf i).toNat)
      case atStart => exact ⟨0, [], by omega, rfl, rfl, OInts.nil _ _, Below.refl _ _⟩
      case round =>
        obtain ⟨j, o, hj, rfl, ho, hP, hbw⟩ := hrel
        have HO := Lib.hid ho
        have hol : o.length ≤ j := by rw [ho]; exact lst_len _ _
        have HP := Lib.hid hP
        have HBW := Lib.hid hbw
        have hsw := hbw.size
        obtain ⟨A', c', rfl, hc'⟩ := hP.slice
        clear ho hP
        by_cases hjl : j < (ptsP l).length
        · obtain ⟨b2, off2, c2, nv2, e, hbb2, hcc2, hll2, hnx2, z0, z1, z2, z3, z4⟩ := (HPS4.out.low hbw (by omega)).get hjl
          injection e with e1 e9 e2
          subst e1 e2
          clear e9 hbw
          obtain ⟨An2, cn2, rfl, hcn2, hln2, -⟩ := hnx2
          simp only [List.length_map] at z4 hcn2 hln2
          have hu64 := usedP_lt h6 (ptsP l)[j].op (ptsP l)[j].x (ptsP l)[j].y
          have HUB : Hid ((usedP ts (ptsP l)[j].op (ptsP l)[j].x (ptsP l)[j].y).testBit x = usesB ts (ptsP l) x j) := Lib.hid (by
            unfold usedP usesB
            rw [bm_bit, List.getElem?_eq_getElem hjl, decide_eq_true hx6]; rfl)
          have HGW := Lib.hid ((HG4.out.low HBW.out (by omega)))
          generalize (ptsP l)[j] = P at *
          go_wp2_with (at_builtin; fail)
          refine (used_any _ ts (ptsP l) _ _ _ _ _ _ _ (HGW.out.low (bel_a _ _) (by omega)) (by simp; omega) h6).mono ?_
          rintro e w5 ⟨rfl, hb7⟩
          have HBX := Lib.hid ((bel_a _ _).trans (hb7.mono (by simp)))
          have HP5 := Lib.hid (HP.out.bel HBX.out)
          have HR5 := Lib.hid (HROW.out.low (HBW.out.trans (HBX.out.mono hsw)) HROW.out.lt)
          have HB5 := Lib.hid (HBW.out.trans (HBX.out.mono hsw))
          have hs7 := HB5.out.size
          obtain ⟨q, hq⟩ : ∃ q : Nat, ((usedP ts P.op P.x P.y : Nat) : Int) / 2 ^ x = q := ⟨usedP ts P.op P.x P.y / 2 ^ x, by simp⟩
          have hq' : q = usedP ts P.op P.x P.y / 2 ^ x := by
            have : ((usedP ts P.op P.x P.y / 2 ^ x : Nat) : Int) = q := by rw [← hq]; simp
            omega
          have hq64 : q ≤ 63 := by rw [hq']; exact Nat.le_trans (Nat.div_le_self _ _) (by omega)
          have hbt := bit_test hq' hq64
          have hcm : w5.cell? ⟨g', j * 6 + x, none⟩ = some (.int .u64 (fs.getD (j * 6 + x) 0 : Nat)) := by rw [HR5.out.cell, uv_get (by rw [HFL.out]; omega)]
          have hbu := bit_u64 (k := k) (HSM.out (j * 6 + x))
          have HBJ := Lib.hid (HBIT.out j)
          generalize fs.getD (j * 6 + x) 0 = mm at *
          have HBT := Lib.hid (hbt.trans HUB.out)
          rw [HBT.out.symm.trans hbt] at HUB
          clear hb7 hq' z0 z1 z2 z3 z4
          cases hub : usesB ts (ptsP l) x j
          · have hbt2 : (bits .and .i64 (q : Int) 1 == 1) = false := HBT.out.trans hub
            have HNO : Hid ((usesB ts (ptsP l) x j && dec (Fl ts (ptsP l) Gset Cset j x k)) = false) := Lib.hid (by rw [hub]; rfl)
            clear hub hbt HBT
            go_wp2_with (at_builtin; fail)
            exact ⟨⟨j + 1, o, by omega, by go_num, by rw [lst_succ_false HNO.out]; exact HO.out, HP5.out, HB5.out⟩, by simp [intOf] <;> omega⟩
          · have hbt2 : (bits .and .i64 (q : Int) 1 == 1) = true := HBT.out.trans hub
            cases hde : dec (Fl ts (ptsP l) Gset Cset j x k)
            · rw [HBJ.out, hde] at hbu
              have HNO : Hid ((usesB ts (ptsP l) x j && dec (Fl ts (ptsP l) Gset Cset j x k)) = false) := Lib.hid (by rw [hub, hde]; rfl)
              clear hub hbt HBT hde
              go_wp2_with (at_builtin; fail)
              exact ⟨⟨j + 1, o, by omega, by go_num, by rw [lst_succ_false HNO.out]; exact HO.out, HP5.out, HB5.out⟩, by simp [intOf] <;> omega⟩
            · rw [HBJ.out, hde] at hbu
              have HNO : Hid ((usesB ts (ptsP l) x j && dec (Fl ts (ptsP l) Gset Cset j x k)) = true) := Lib.hid (by rw [hub, hde]; rfl)
              clear hub hbt HBT hde
              go_wp2_with (at_builtin; go_must (refine wpList_push_int rfl (.tmp 71) (.tmp 73) rfl HP5.out (by omega) (by omega) _ rfl rfl ?_); intro v' w' hP' hE')
              exact ⟨⟨j + 1, _, by omega, by go_num, by rw [lst_succ_true HNO.out, HO.out], hP', HB5.out.trans ((((Evo.alloc w4.heap.size 3 _ _).trans hE').below (by omega)))⟩, by simp [intOf] <;> omega⟩
        · have hje : j = (ptsP l).length := by omega
          have HFIN : Hid (o = userRes ts l (k : Nat)) := Lib.hid (by rw [HRES.out, ← hje]; exact HO.out)
          clear hje
          go_wp2_with (at_builtin; fail)
          go_ret
          exact ⟨_, rfl, by rw [← HFIN.out]; exact HP.out.toS (by omega), HB4.out.trans (HBW.out.mono HB4.out.size)⟩
    · have hs1 : setsP (ptsP l)[k].op (ptsP l)[k].x < 0 := by omega
      have HRES : Hid (userRes ts l (k : Nat) = []) := Lib.hid (by unfold userRes; rw [hsr, if_neg (fun h => hs0 h.2)])
      clear hok hgr hv hsr hlt
      go_wp2_with fail
      refine (sets_any _ _ _ _ _ _).mono ?_
      rintro e w2 ⟨rfl, hb4⟩
      go_wp2_with fail
      go_ret
      exact ⟨_, rfl, by rw [HRES.out]; exact (OInts.nil w2 0).toS (by simp), hb3.trans (hb4.mono hs3)⟩

end Go.Proofs.Yteaddodjijlpjaa
