import Derived.Test.YtidlifijgooceaaP18
import Derived.Test.YtidlifijgooceaaP25
import Derived.Deep.RegionLaw
import Derived.Deep.DeepCutAuto
import Derived.Deep.CutBlock
import Derived.Test.YtidlifijgooceaaP01
import Derived.Test.YtidlifijgooceaaP04
import Derived.Test.YtidlifijgooceaaP23
set_option linter.unusedVariables false

/- impl.ownStmts, impl.Program.own. -/
namespace Go.Proofs.Ytidlifijgooceaa
open Go.RowKit

theorem own_cpb {wr w5 w6 w7 : World} {op x y n : Int} {tv ev v6 v7 : Value} {th el : List St} (hr : w5.heap[wr.heap.size]? = some (.cells #[.int .i64 op, .int .i64 x, .int .i64 y, .int .i64 n, tv, ev] 87 (0, 0))) (hb5 : Below wr.heap.size wr w5) (hb6 : Below w5.heap.size w5 w6) (ho6 : OSt w6 w5.heap.size v6 th) (hb7 : Below w6.heap.size w6 w7) (ho7 : OSt w7 w6.heap.size v7 el) :
    CpB wr ((w7.setCell ⟨wr.heap.size, 4, none⟩ v6).setCell ⟨wr.heap.size, 5, none⟩ v7) op x y n v6 v7 th el := by
  have hlt := row_lt hr
  have hs6 := hb6.size
  have hr7 := row_below (row_below hr hb6) hb7
  have hg4 := grown_set w7 wr.heap.size 4 v6
  have hg5 := grown_set (w7.setCell ⟨wr.heap.size, 4, none⟩ v6) wr.heap.size 5 v7
  have h4 := heap_setCell_same w7 wr.heap.size 4 _ _ v6 hr7
  have h5 := heap_setCell_same _ wr.heap.size 5 _ _ v7 h4
  refine ⟨h5.trans (by simp), ?_, ?_, ?_⟩
  · exact (((ho6.toX.bel hb7).grown hg4 (by show ¬ (w5.heap.size ≤ wr.heap.size); omega)).grown hg5 (by show ¬ (w5.heap.size ≤ wr.heap.size); omega)).frame (Nat.le_refl _) fun b hb _ => ⟨by have : w5.heap.size ≤ b := hb; show wr.heap.size + 1 ≤ b; omega, rfl⟩
  · exact ((ho7.toX.grown hg4 (by show ¬ (w6.heap.size ≤ wr.heap.size); omega)).grown hg5 (by show ¬ (w6.heap.size ≤ wr.heap.size); omega)).frame (Nat.le_refl _) fun b hb _ => ⟨by have : w6.heap.size ≤ b := hb; show wr.heap.size + 1 ≤ b; omega, rfl⟩
  · exact (((hb5.trans (hb6.mono hb5.size)).trans (hb7.mono (by omega))).setCell (p := ⟨wr.heap.size, 4, none⟩) (Nat.le_refl _) _).setCell (p := ⟨wr.heap.size, 5, none⟩) (Nat.le_refl _) _
def OwnOk (m : Nat) : Prop := ∀ (v : Value) (l : List St) (B : Nat) (w : World), szL l ≤ m → StS w B v l → B ≤ w.heap.size → Calls Try.prog 60 #[v] w (CopyRet w l)
set_option maxHeartbeats 4000000 in
set_option maxRecDepth 100000 in
theorem own_of (m : Nat) (hM : m ≤ 4194000) (ih : ∀ j, j < m → OwnOk j) : OwnOk m := by
  intro v l B w hm hl hB
  have hll := len_le_szL l
  obtain ⟨A, c, rfl, hc⟩ := hl.slice
  have IH := Lib.hid ih
  clear ih
  have HO0 : Hid (OSt w w.heap.size (.slice none 0 0) []) := Lib.hid (OSt.nil w w.heap.size)
  go_enter Try.func60, Try.ntmps60
  go_wp2_with fail
  go_loopw [3, 8] (fun v i wr => ∃ (k : Nat), k ≤ l.length ∧ i = .int .i64 k ∧ (OSt wr w.heap.size v (l.take k) ∧ Below w.heap.size w wr)) (fun _ i _ => l.length - (intOf i).toNat)
  case atStart => exact ⟨0, Nat.zero_le _, rfl, HO0.out, Below.refl _ _⟩
  case round =>
    obtain ⟨k, hk, rfl, hos, hbw⟩ := hrel
    have hlk : (l.take k).length ≤ k := List.length_take_le _ _
    have HTA := Lib.hid (fun h : k = l.length => take_all h)
    have HTS := Lib.hid (fun h : k < l.length => take_succ_get l k h)
    generalize l.take k = lk at *
    obtain ⟨Ao, co, rfl, hco⟩ := hos.slice
    have HOS := Lib.hid hos
    have HBW := Lib.hid hbw
    have hsr := hbw.size
    clear hos
    by_cases hlt : k < l.length
    · have hl2 := hl.low hbw hB
      have hsz := szL_mem hlt
      rw [l[k].sz_eq] at hsz
      obtain ⟨b, off, tv, ev, rfl, hb, hth, hel, c0, c1, c2, c3, c4, c5⟩ := hl2.get hlt
      have hbr : b < wr.heap.size := by omega
      obtain ⟨A4, n4, rfl, -⟩ := hth.slice
      obtain ⟨A5, n5, rfl, -⟩ := hel.slice
      have HTH := Lib.hid hth
      have HEL := Lib.hid hel
      have HTS2 := Lib.hid (HTS.out hlt)
      have HETA : Hid (l[k] = .mk l[k].op l[k].x l[k].y l[k].n l[k].th l[k].el) := Lib.hid (St.eta _)
      have HLT := Lib.hid hlt
      generalize l[k]'hlt = s at *
      have HX5 := Lib.hid (RowB.new wr [.int .i64 s.op, .int .i64 s.x, .int .i64 s.y, .int .i64 s.n, .slice A4 s.th.length n4, .slice A5 s.el.length n5] 87)
      have HB5 := Lib.hid (bel_a wr (.cells #[.int .i64 s.op, .int .i64 s.x, .int .i64 s.y, .int .i64 s.n, .slice A4 s.th.length n4, .slice A5 s.el.length n5] 87))
      clear hbw hl2 hth hel
      go_wp2_with fail
      clear c0 c1 c2 c3 c4 c5
      generalize wr.alloc (.cells #[.int .i64 s.op, .int .i64 s.x, .int .i64 s.y, .int .i64 s.n, .slice A4 s.th.length n4, .slice A5 s.el.length n5] 87) = w5 at *
      have u4 : w5.cell? ⟨wr.heap.size, 4, none⟩ = some (.slice A4 s.th.length n4) := HX5.out.cell 4
      have u5 : w5.cell? ⟨wr.heap.size, 5, none⟩ = some (.slice A5 s.el.length n5) := HX5.out.cell 5
      have hlx := HX5.out.lt
      have IH4 := Lib.hid (IH.out (szL s.th) (by omega) (.slice A4 s.th.length n4) s.th B w5.drew (Nat.le_refl _) ((HTH.out.low HB5.out (by omega)).keep fun _ _ _ => rfl) (by have := HB5.out.size; show B ≤ w5.heap.size; omega))
      have IH5 := Lib.hid (fun (wz : World) (hz : Below w5.heap.size w5 wz) => IH.out (szL s.el) (by omega) (.slice A5 s.el.length n5) s.el B wz (Nat.le_refl _) ((HEL.out.low HB5.out (by omega)).low hz (by have := HB5.out.size; omega)) (by have := HB5.out.size; have := hz.size; omega))
      have tok1 : True := trivial
      go_region_law (first
        | (have _t := tok1; go_simp; go_at_call 60; refine IH4.out.mono ?_; rintro e w6 ⟨v6, rfl, ho6, hb6⟩; clear tok1 _t; (obtain ⟨A6, n6, rfl, hn6⟩ := ho6.slice); (have HO6 := Lib.hid ho6); (have HB6 := Lib.hid (show Below w5.heap.size w5 w6 from (Below.refl w5.heap.size w5).drew.trans hb6)); (have x4 := (HB6.out.cell (p := ⟨wr.heap.size, 4, none⟩) hlx).trans u4); (have x5 := (HB6.out.cell (p := ⟨wr.heap.size, 5, none⟩) hlx).trans u5); (have hs6 := HB6.out.size); clear ho6 hb6; (have tok2 : True := trivial))
        | (have _t := tok2; go_simp; go_at_call 60; refine (IH5.out _ HB6.out).mono ?_; rintro e w7 ⟨v7, rfl, ho7, hb7⟩; clear tok2 _t; (obtain ⟨A7, n7, rfl, hn7⟩ := ho7.slice); (have HO7 := Lib.hid ho7); (have HB7 := Lib.hid hb7); (have hr7 := row_below (row_below HX5.out HB6.out) hb7); (have y0 : w7.cell? ⟨wr.heap.size, 0, none⟩ = some (.int .i64 s.op) := by (rw [cell_of_row _ _ _ _ _ _ hr7]; rfl)); (have y1 : w7.cell? ⟨wr.heap.size, 1, none⟩ = some (.int .i64 s.x) := by (rw [cell_of_row _ _ _ _ _ _ hr7]; rfl)); (have y2 : w7.cell? ⟨wr.heap.size, 2, none⟩ = some (.int .i64 s.y) := by (rw [cell_of_row _ _ _ _ _ _ hr7]; rfl)); (have y3 : w7.cell? ⟨wr.heap.size, 3, none⟩ = some (.int .i64 s.n) := by (rw [cell_of_row _ _ _ _ _ _ hr7]; rfl)); (have y4 : w7.cell? ⟨wr.heap.size, 4, none⟩ = some (.slice A4 s.th.length n4) := by (rw [cell_of_row _ _ _ _ _ _ hr7]; rfl)); (have y5 : w7.cell? ⟨wr.heap.size, 5, none⟩ = some (.slice A5 s.el.length n5) := by (rw [cell_of_row _ _ _ _ _ _ hr7]; rfl)); (have yf4 := frozen_of_row w7 wr.heap.size 4 _ _ hr7); (have yf5 := frozen_of_row w7 wr.heap.size 5 _ _ hr7); clear ho7 hb7 hr7)
        | fail)
      all_goals
        have HC2 := Lib.hid (own_cpb HX5.out HB5.out HB6.out HO6.out HB7.out HO7.out)
        have HP := Lib.hid (HOS.out.below HC2.out.2.2.2)
        have HTX : Hid (StX ((w7.setCell ⟨wr.heap.size, 4, none⟩ (.slice A6 s.th.length n6)).setCell ⟨wr.heap.size, 5, none⟩ (.slice A7 s.el.length n7)) _ _ s.th) := Lib.hid (HOS.out.fresh hsr (StX.up HC2.out.2.1))
        have HEX : Hid (StX ((w7.setCell ⟨wr.heap.size, 4, none⟩ (.slice A6 s.th.length n6)).setCell ⟨wr.heap.size, 5, none⟩ (.slice A7 s.el.length n7)) _ _ s.el) := Lib.hid (HOS.out.fresh hsr (StX.up HC2.out.2.2.1))
        have hsX := HC2.out.2.2.2.size
        have HBX := Lib.hid (HBW.out.trans (HC2.out.2.2.2.mono hsr))
        go_wp2_with (at_builtin; go_must (refine wpList_push_st rfl (.tmp 20) (.tmp 22) rfl HP.out (by omega) (by omega) _ _ _ _ _ _ s.th s.el HTX.out HEX.out rfl (by simp; rfl) ?_); intro v' w' hP' hE')
        have hlt := HLT.out
        refine ⟨⟨k + 1, by omega, by go_num, ?_, HBX.out.trans (((bel_a _ _).mono (by omega)).trans hE')⟩, by simp [intOf] <;> omega⟩
        rw [HTS2.out, HETA.out]
        exact hP'
    · have hkl : k = l.length := by omega
      have HKL := Lib.hid hkl
      clear hkl
      go_wp2_with fail
      go_ret
      refine ⟨_, rfl, ?_, HBW.out⟩
      have := HOS.out
      rw [HTA.out HKL.out] at this
      rw [HTA.out HKL.out]
      exact this
theorem own_any (m : Nat) (hM : m ≤ 4194000) : OwnOk m := by
  induction m using Nat.strongRecOn with
  | _ m ih => exact own_of m hM fun j hj => ih j hj (by omega)
set_option maxHeartbeats 4000000 in
set_option maxRecDepth 100000 in
theorem pown_any (vt vb : Value) (ts : List Int) (l : List St) (B : Nat) (w : World) (ht : IntS w B vt ts) (hl : StS w B vb l) (hB : B ≤ w.heap.size) (hts : ts.length ≤ 4000000) (hsz : szL l ≤ 4194000) :
    Calls Try.prog 50 #[.agg #[vt, vb]] w (CpRet w ts l) := by
  have ht0 := ht
  have hl0 := hl
  obtain ⟨At, ct, rfl, -⟩ := ht0
  obtain ⟨Ab, cb, rfl, -⟩ := hl0.slice
  have hA := bel_a w (.cells #[.slice At ts.length ct, .slice Ab l.length cb] 26)
  have hB2 := bel_a (w.alloc (.cells #[.slice At ts.length ct, .slice Ab l.length cb] 26)) (.cells #[.slice none 0 0, .slice none 0 0] 26)
  have hAB := hA.trans (hB2.mono hA.size)
  have hr0 := row_below (heap_alloc_new w (.cells #[.slice At ts.length ct, .slice Ab l.length cb] 26)) hB2
  have hr1 := heap_alloc_new (w.alloc (.cells #[.slice At ts.length ct, .slice Ab l.length cb] 26)) (.cells #[.slice none 0 0, .slice none 0 0] 26)
  have hsz1 : (w.alloc (.cells #[.slice At ts.length ct, .slice Ab l.length cb] 26)).heap.size = w.heap.size + 1 := by simp
  rw [hsz1] at hr1
  have hsW : ((w.alloc (.cells #[.slice At ts.length ct, .slice Ab l.length cb] 26)).alloc (.cells #[.slice none 0 0, .slice none 0 0] 26)).heap.size = w.heap.size + 2 := by simp
  have HSW := Lib.hid hsW
  have HR0 := Lib.hid hr0
  have HR1 := Lib.hid hr1
  have HAB := Lib.hid hAB
  have HT := Lib.hid (ht.low hAB hB)
  have HL := Lib.hid (hl.low hAB hB)
  clear hA hB2 hAB hr0 hr1 hsz1 hsW ht hl
  go_enter Try.func50, Try.ntmps50
  go_wp2_with fail
  generalize (w.alloc (.cells #[.slice At ts.length ct, .slice Ab l.length cb] 26)).alloc (.cells #[.slice none 0 0, .slice none 0 0] 26) = W at *
  have q0 : W.cell? ⟨w.heap.size, 0, none⟩ = some (.slice At ts.length ct) := by rw [cell_of_row _ _ _ _ _ _ HR0.out]; rfl
  have q1 : W.cell? ⟨w.heap.size, 1, none⟩ = some (.slice Ab l.length cb) := by rw [cell_of_row _ _ _ _ _ _ HR0.out]; rfl
  have hws := HSW.out
  have hwl : w.heap.size < W.heap.size := by omega
  have hwl1 : w.heap.size + 1 < W.heap.size := by omega
  have hBW : B ≤ W.heap.size := by omega
  clear hws
  have C3 := Lib.hid (clone_any (.slice At ts.length ct) ts B W.drew HT.out hBW hts)
  have C4 := Lib.hid (fun (wz : World) (hz : Below W.heap.size W wz) => own_any (szL l) hsz (.slice Ab l.length cb) l B wz (Nat.le_refl _) (HL.out.low hz hBW) (by have := hz.size; omega))
  have tok1 : True := trivial
  go_region_law (first
    | (have _t := tok1; go_simp; go_at_call 104; refine C3.out.mono ?_; rintro e w3 ⟨v3, rfl, ho3, hb3⟩; clear tok1 _t; (obtain ⟨A3, n3, rfl, hn3⟩ := ho3.slice); (have HO3 := Lib.hid (show OInts w3 W.heap.size (.slice A3 ts.length n3) ts from ho3)); (have HB3 := Lib.hid (show Below W.heap.size W w3 from (Below.refl W.heap.size W).drew.trans hb3)); (have x1 := (HB3.out.cell (p := ⟨w.heap.size, 1, none⟩) hwl).trans q1); (have hs3 := HB3.out.size); clear ho3 hb3; (have tok2 : True := trivial))
    | (have _t := tok2; go_simp; go_at_call 60; refine (C4.out _ HB3.out).mono ?_; rintro e w4 ⟨v4, rfl, ho4, hb4⟩; clear tok2 _t; (obtain ⟨A4, n4, rfl, hn4⟩ := ho4.slice); (have HO4 := Lib.hid ho4); (have HB4 := Lib.hid hb4); (have hr4 := row_below (row_below HR1.out HB3.out) hb4); (have HR4 := Lib.hid hr4); (have z0 : w4.cell? ⟨w.heap.size + 1, 0, none⟩ = some (.slice none 0 0) := by (rw [cell_of_row _ _ _ _ _ _ hr4]; rfl)); (have z1 : w4.cell? ⟨w.heap.size + 1, 1, none⟩ = some (.slice none 0 0) := by (rw [cell_of_row _ _ _ _ _ _ hr4]; rfl)); (have zf0 := frozen_of_row w4 (w.heap.size + 1) 0 _ _ hr4); (have zf1 := frozen_of_row w4 (w.heap.size + 1) 1 _ _ hr4); clear ho4 hb4 hr4)
    | fail)
  all_goals
    go_wp2_with fail
    refine bodyPost_ret (results_cell_row rfl _ _ (w.heap.size + 1) 26 _ (0, 0) _ rfl (box2 HR4.out _ _).1 Try.underlying26 rfl rfl) rfl ?_
    have hs4 := HB4.out.size
    have hws := HSW.out
    exact cp_close (lo := w3.heap.size) (base := W.heap.size) (HAB.out.trans ((HB3.out.trans (HB4.out.mono hs3)).mono (by omega))) (by omega) hs4 HO4.out (by omega) (HO3.out.move (Nat.le_refl _) fun b h1 h2 => HB4.out.block b h2) (fun g e => (HO3.out.own_lt e).2) (box2 HR4.out _ _).2

end Go.Proofs.Ytidlifijgooceaa

/- Parts of slices of statements. -/
namespace Go.Proofs.Ytidlifijgooceaa
open Go.RowKit

theorem StS.take {w : World} {B n c k : Nat} {A : Option Addr} {l : List St} (h : StS w B (.slice A n c) l) (hk : k ≤ l.length) : StS w B (.slice A k c) (l.take k) := by
  cases h with
  | mk A c l tv ev hc hr ht he =>
    have hl : (l.take k).length = k := by rw [List.length_take]; omega
    have h := StS.mk (w := w) (B := B) A c (l.take k) tv ev (by omega) (fun hn => by
      obtain ⟨b, off, e, hb, hcell⟩ := hr (by omega)
      exact ⟨b, off, e, hb, fun i hi => by
        rw [List.getElem_take]
        exact hcell i (by omega)⟩) (fun i hi => by rw [List.getElem_take]; exact ht i (by omega)) (fun i hi => by rw [List.getElem_take]; exact he i (by omega))
    rwa [hl] at h
theorem StS.drop {w : World} {B n c k b off : Nat} {l : List St} (h : StS w B (.slice (some ⟨b, off, none⟩) n c) l) (hk : k ≤ l.length) : StS w B (.slice (some ⟨b, off + k * 6, none⟩) (n - k) (c - k)) (l.drop k) := by
  cases h with
  | mk A c l tv ev hc hr ht he =>
    have hl : (l.drop k).length = l.length - k := by rw [List.length_drop]
    have h := StS.mk (w := w) (B := B) (some ⟨b, off + k * 6, none⟩) (c - k) (l.drop k) (fun i => tv (k + i)) (fun i => ev (k + i)) (by omega) (fun hn => by
      obtain ⟨b', off', e, hb, hcell⟩ := hr (by omega)
      injection e with e
      injection e with e1 e2
      subst e1 e2
      refine ⟨b, off + k * 6, rfl, hb, fun i hi => ?_⟩
      have := hcell (k + i) (by omega)
      rw [List.getElem_drop]
      rw [show off + (k + i) * 6 = off + k * 6 + i * 6 by omega] at this
      exact this) (fun i hi => by rw [List.getElem_drop]; exact ht (k + i) (by omega)) (fun i hi => by rw [List.getElem_drop]; exact he (k + i) (by omega))
    rwa [hl] at h
theorem StS.zero {w : World} {B c : Nat} (A : Option Addr) : StS w B (.slice A 0 c) [] :=
  .mk A c [] (fun _ => .slice none 0 0) (fun _ => .slice none 0 0) (Nat.zero_le _) (fun h => absurd h (by simp)) (fun i h => absurd h (by simp)) (fun i h => absurd h (by simp))
theorem StS.some_of {w : World} {B n c : Nat} {A : Option Addr} {l : List St} (h : StS w B (.slice A n c) l) (hn : 0 < l.length) : ∃ b off, A = some ⟨b, off, none⟩ := by
  cases h with
  | mk A c l tv ev hc hr ht he =>
    obtain ⟨b, off, e, -⟩ := hr hn
    exact ⟨b, off, e⟩

end Go.Proofs.Ytidlifijgooceaa

/- impl.SplitProgram, spec.SplitProgram. -/
namespace Go.Proofs.Ytidlifijgooceaa
open Go.RowKit

theorem res_two {P : Program} {fn : Func} {p q u : Tmp} {ty : TypeId} (h : fn.results = #[.cell p ty, .cell q ty, .tmp u]) (tmps : Array Value) (w : World) (g g' : Nat) (t : TypeId) (cs cs' : Array Value) (fr fr' : Nat × Nat) (d : TypeDesc)
    (hp : tmps.getD p undef = .pointer (some ⟨g, 0, none⟩)) (hg : w.heap[g]? = some (.cells cs t fr))
    (hq : tmps.getD q undef = .pointer (some ⟨g', 0, none⟩)) (hg' : w.heap[g']? = some (.cells cs' t fr'))
    (hu : P.underlying ty = some d) (hd : (match d with | .struct _ | .array _ _ => true | _ => false) = true) (hi : (P.info? ty).map (·.size) = some cs.size) (hi' : (P.info? ty).map (·.size) = some cs'.size) :
    (results fn tmps).run P w = .ok (.tuple #[.agg cs, .agg cs', tmps.getD u undef]) w := by
  simp only [results, h]
  simp [Sem.run_bind, Result.andThen, asAddr]
  rw [← Array.getD_eq_getD_getElem?, ← Array.getD_eq_getD_getElem?, hp, hq]
  simp [run_loadVar_row w g t ty cs fr d hg hu hd hi, run_loadVar_row w g' t ty cs' fr' d hg' hu hd hi']
theorem box22 {w : World} {g g' : Nat} {t : TypeId} {v0 v1 v2 v3 : Value} (h : RowB w g t [v0, v1]) (h' : RowB w g' t [v2, v3]) (hne : g ≠ g') (u0 u1 u2 u3 : Value) :
    ((((w.setCell ⟨g, 0, none⟩ u0).setCell ⟨g, 1, none⟩ u1).setCell ⟨g', 0, none⟩ u2).setCell ⟨g', 1, none⟩ u3).heap[g]? = some (.cells #[u0, u1] t (0, 0)) ∧
    ((((w.setCell ⟨g, 0, none⟩ u0).setCell ⟨g, 1, none⟩ u1).setCell ⟨g', 0, none⟩ u2).setCell ⟨g', 1, none⟩ u3).heap[g']? = some (.cells #[u2, u3] t (0, 0)) := by
  have a := ((((h.set_ 0 u0).set_ 1 u1).other hne 0 u2).other hne 1 u3)
  have b := ((((h'.other (Ne.symm hne) 0 u0).other (Ne.symm hne) 1 u1).set_ 0 u2).set_ 1 u3)
  exact ⟨a, b⟩
theorem bel_set4 {B : Nat} {a w : World} {g g' : Nat} (h : Below B a w) (hg : B ≤ g) (hg' : B ≤ g') (u0 u1 u2 u3 : Value) : Below B a ((((w.setCell ⟨g, 0, none⟩ u0).setCell ⟨g, 1, none⟩ u1).setCell ⟨g', 0, none⟩ u2).setCell ⟨g', 1, none⟩ u3) :=
  (((h.setCell (p := ⟨g, 0, none⟩) hg _).setCell (p := ⟨g, 1, none⟩) hg _).setCell (p := ⟨g', 0, none⟩) hg' _).setCell (p := ⟨g', 1, none⟩) hg' _
theorem set4_blk (w : World) (g g' b : Nat) (h : b ≠ g) (h' : b ≠ g') (u0 u1 u2 u3 : Value) : ((((w.setCell ⟨g, 0, none⟩ u0).setCell ⟨g, 1, none⟩ u1).setCell ⟨g', 0, none⟩ u2).setCell ⟨g', 1, none⟩ u3).heap[b]? = w.heap[b]? := by
  rw [Below.heap_setCell _ _ _ _ h', Below.heap_setCell _ _ _ _ h', Below.heap_setCell _ _ _ _ h, Below.heap_setCell _ _ _ _ h]
theorem own_reads {w w' : World} {base lo : Nat} {vt vb : Value} {ts : List Int} {l : List St} (hoi : OInts w base vt ts) (hos : OSt w lo vb l) (hbl : base ≤ lo) (hs : w.heap.size ≤ w'.heap.size)
    (hk : ∀ b, base ≤ b → b < w.heap.size → w'.heap[b]? = w.heap[b]?) (hts : ts.length ≤ 4000000) : IntS w' w'.heap.size vt ts ∧ StS w' w'.heap.size vb l :=
  ⟨(hoi.move (Nat.le_refl _) hk).toS (by omega), (hos.move hs (Nat.le_refl _) fun b h1 h2 => hk b (by omega) h2).toX.toS⟩
def splOk (ts : List Int) (l : List St) (k : Int) : Bool := validP ts l && withinP k 0 l.length
def SplRet (w : World) (ts : List Int) (l : List St) (k : Int) (e : Ending) (w' : World) : Prop :=
  ∃ vt1 vb1 vt2 vb2, e = .returned (.tuple #[.agg #[vt1, vb1], .agg #[vt2, vb2], .bool (splOk ts l k)]) ∧
    IntS w' w'.heap.size vt1 (if splOk ts l k then ts else []) ∧ StS w' w'.heap.size vb1 (if splOk ts l k then l.take k.toNat else []) ∧
    IntS w' w'.heap.size vt2 (if splOk ts l k then ts else []) ∧ StS w' w'.heap.size vb2 (if splOk ts l k then l.drop k.toNat else []) ∧ Below w.heap.size w w'
set_option maxHeartbeats 4000000 in
set_option maxRecDepth 100000 in
theorem iSplit_any (vt vb : Value) (ts : List Int) (l : List St) (k : Int) (B : Nat) (w : World) (ht : IntS w B vt ts) (hl : StS w B vb l) (hB : B ≤ w.heap.size) (hts : ts.length ≤ 4000000) (hsz : szL l ≤ 4194000) :
    Calls Try.prog 12 #[.agg #[vt, vb], .int .i64 k] w (SplRet w ts l k) := by
  have hll := len_le_szL l
  have ht0 := ht
  obtain ⟨At, ct, rfl, hct, -, -⟩ := ht0
  obtain ⟨Ab, cb, rfl, hcb⟩ := hl.slice
  have HR0 := Lib.hid (((RowB.new w [.slice At ts.length ct, .slice Ab l.length cb] 26).alloc (.cells #[.slice none 0 0, .slice none 0 0] 26)).alloc (.cells #[.slice none 0 0, .slice none 0 0] 26))
  have HR1 := Lib.hid ((RowB.new (w.alloc (.cells #[.slice At ts.length ct, .slice Ab l.length cb] 26)) [.slice none 0 0, .slice none 0 0] 26).alloc (.cells #[.slice none 0 0, .slice none 0 0] 26))
  have HR2 := Lib.hid (RowB.new ((w.alloc (.cells #[.slice At ts.length ct, .slice Ab l.length cb] 26)).alloc (.cells #[.slice none 0 0, .slice none 0 0] 26)) [.slice none 0 0, .slice none 0 0] 26)
  have HB0 := Lib.hid (((bel_a w (.cells #[.slice At ts.length ct, .slice Ab l.length cb] 26)).alloc (by simp) (.cells #[.slice none 0 0, .slice none 0 0] 26)).alloc (by simp; omega) (.cells #[.slice none 0 0, .slice none 0 0] 26))
  have hz1 : (w.alloc (.cells #[.slice At ts.length ct, .slice Ab l.length cb] 26)).heap.size = w.heap.size + 1 := by simp
  have hz2 : ((w.alloc (.cells #[.slice At ts.length ct, .slice Ab l.length cb] 26)).alloc (.cells #[.slice none 0 0, .slice none 0 0] 26)).heap.size = w.heap.size + 2 := by simp
  rw [hz1] at HR1
  rw [hz2] at HR2
  have HT := Lib.hid ht
  have HL := Lib.hid hl
  clear hz1 hz2 ht hl
  go_enter Try.func12, Try.ntmps12
  go_upto_region 1 with (at_builtin; fail)
  generalize ((w.alloc (.cells #[.slice At ts.length ct, .slice Ab l.length cb] 26)).alloc (.cells #[.slice none 0 0, .slice none 0 0] 26)).alloc (.cells #[.slice none 0 0, .slice none 0 0] 26) = W at *
  have c0 := HR0.out.cell 0
  have c1 := HR0.out.cell 1
  simp only [List.getElem?_cons_zero, List.getElem?_cons_succ] at c0 c1
  have hsW := HB0.out.size
  go_wp2_with (at_builtin; fail)
  refine (iProgramValid_any _ _ ts l B W (HT.out.low HB0.out hB) (HL.out.low HB0.out hB) (by omega) (by omega)).mono ?_
  rintro e w1 ⟨rfl, hb1⟩
  have HB1 := Lib.hid (HB0.out.trans (hb1.mono hsW))
  have HR0 := Lib.hid (HR0.out.low hb1 HR0.out.lt)
  have HR1 := Lib.hid (HR1.out.low hb1 HR1.out.lt)
  have HR2 := Lib.hid (HR2.out.low hb1 HR2.out.lt)
  clear c0 c1 hb1
  have c0 := HR0.out.cell 0
  have c1 := HR0.out.cell 1
  have x0 := HR1.out.cell 0
  have x1 := HR1.out.cell 1
  have y0 := HR2.out.cell 0
  have y1 := HR2.out.cell 1
  have xf0 := HR1.out.frozen 0
  have xf1 := HR1.out.frozen 1
  have yf0 := HR2.out.frozen 0
  have yf1 := HR2.out.frozen 1
  simp only [List.getElem?_cons_zero, List.getElem?_cons_succ] at c0 c1 x0 x1 y0 y1
  have hs1 := HB1.out.size
  have FAIL : Hid (splOk ts l k = false → ∀ W', Below w.heap.size w W' → SplRet w ts l k (.returned (.tuple #[.agg #[.slice none 0 0, .slice none 0 0], .agg #[.slice none 0 0, .slice none 0 0], .bool false])) W') := Lib.hid fun h W' hW => by
    refine ⟨_, _, _, _, by rw [h], ?_, ?_, ?_, ?_, hW⟩ <;> rw [h] <;> first | exact IntS.nil' _ _ _ _ | exact StS.zero _
  cases hok : validP ts l
  · have HNO := Lib.hid (FAIL.out (by unfold splOk; rw [hok]; rfl))
    clear hok
    go_wp2_with (at_builtin; fail)
    have HX := Lib.hid (box22 HR1.out HR2.out (by omega) (.slice none 0 0) (.slice none 0 0) (.slice none 0 0) (.slice none 0 0))
    exact bodyPost_ret (res_two (u := 6) rfl _ _ (w.heap.size + 1) (w.heap.size + 1 + 1) 26 _ _ (0, 0) (0, 0) _ rfl HX.out.1 rfl HX.out.2 Try.underlying26 rfl rfl rfl) rfl (HNO.out _ (bel_set4 HB1.out (by omega) (by omega) _ _ _ _))
  · have HVAL := Lib.hid hok
    clear hok
    go_wp2_with (at_builtin; fail)
    refine (within_any k 0 (l.length : Nat) w1).mono ?_
    rintro e w2 ⟨rfl, rfl⟩
    cases hin : withinP k 0 (l.length : Nat)
    · have HNO := Lib.hid (FAIL.out (by unfold splOk; rw [hin]; simp))
      clear hin
      go_wp2_with (at_builtin; fail)
      have HX := Lib.hid (box22 HR1.out HR2.out (by omega) (.slice none 0 0) (.slice none 0 0) (.slice none 0 0) (.slice none 0 0))
      exact bodyPost_ret (res_two (u := 6) rfl _ _ (w.heap.size + 1) (w.heap.size + 1 + 1) 26 _ _ (0, 0) (0, 0) _ rfl HX.out.1 rfl HX.out.2 Try.underlying26 rfl rfl rfl) rfl (HNO.out _ (bel_set4 HB1.out (by omega) (by omega) _ _ _ _))
    · have hk0 : 0 ≤ k ∧ k ≤ l.length := by simpa [withinP] using hin
      have HOK : Hid (splOk ts l k = true) := Lib.hid (by unfold splOk; rw [HVAL.out, hin]; rfl)
      obtain ⟨m, rfl⟩ : ∃ m : Nat, k = m := ⟨k.toNat, by omega⟩
      have hml : m ≤ l.length := by omega
      clear hin hk0 FAIL
      have HT1 := Lib.hid (HT.out.low HB1.out hB)
      have HL1 := Lib.hid (HL.out.low HB1.out hB)
      have c0a := fun o => ((bel_a w1 o).cell (p := ⟨w.heap.size, 0, none⟩) HR0.out.lt).trans c0
      have c1a := fun o => ((bel_a w1 o).cell (p := ⟨w.heap.size, 1, none⟩) HR0.out.lt).trans c1
      have hmc : m ≤ cb := by omega
      go_wp2_with (at_builtin; fail)
      go_cut [7] from 7 to 28 (fun s7 wx => s7 = .pointer (some ⟨w1.heap.size, 0, none⟩) ∧ wx = (w1.alloc (.cells #[.slice At ts.length ct, .slice Ab m cb] 26)).drew)
      case first =>
        go_region_law (fail)
        all_goals
          go_wp2_with (at_builtin; fail)
          go_meet
          exact ⟨rfl, rfl⟩
      case rest =>
        obtain ⟨rfl, rfl⟩ := hcut
        have HX3 := Lib.hid (RowB.new w1 [.slice At ts.length ct, .slice Ab m cb] 26)
        have HB3 := Lib.hid ((bel_a w1 (.cells #[.slice At ts.length ct, .slice Ab m cb] 26)).drew)
        have HX3 : Hid (RowB (w1.alloc (.cells #[.slice At ts.length ct, .slice Ab m cb] 26)).drew w1.heap.size 26 [.slice At ts.length ct, .slice Ab m cb]) := Lib.hid HX3.out
        clear c0 c1 c0a c1a x0 x1 y0 y1 xf0 xf1 yf0 yf1
        have hs3 := HB3.out.size
        generalize (w1.alloc (.cells #[.slice At ts.length ct, .slice Ab m cb] 26)).drew = w3 at *
        have hlt0 := HR0.out.lt
        have c0 := (HB3.out.cell (p := ⟨w.heap.size, 0, none⟩) hlt0).trans (HR0.out.cell 0)
        have c1 := (HB3.out.cell (p := ⟨w.heap.size, 1, none⟩) hlt0).trans (HR0.out.cell 1)
        simp only [List.getElem?_cons_zero, List.getElem?_cons_succ] at c0 c1
        have c0a := fun o => ((bel_a w3 o).cell (p := ⟨w.heap.size, 0, none⟩) (Nat.lt_of_lt_of_le hlt0 hs3)).trans c0
        have c1a := fun o => ((bel_a w3 o).cell (p := ⟨w.heap.size, 1, none⟩) (Nat.lt_of_lt_of_le hlt0 hs3)).trans c1
        have HL3 := Lib.hid (HL1.out.low HB3.out (by omega))
        have HT3 := Lib.hid (HT1.out.low HB3.out (by omega))
        go_wp2_with (at_builtin; fail)
        go_cut [8] from 8 to 35 (fun s8 wx => ∃ A2 c2, StS w3 B (.slice A2 (l.length - m) c2) (l.drop m) ∧ s8 = .pointer (some ⟨w3.heap.size, 0, none⟩) ∧ wx = (w3.alloc (.cells #[.slice At ts.length ct, .slice A2 (l.length - m) c2] 26)).drew)
        case first =>
          by_cases hl0 : 0 < l.length
          · obtain ⟨b, off, rfl⟩ := HL1.out.some_of hl0
            have HA2 : Hid (StS w3 B (.slice (if cb = m then some ⟨b, off, none⟩ else some ⟨b, off + m * 6, none⟩) (l.length - m) (cb - m)) (l.drop m)) := Lib.hid (by
              by_cases hcm : cb = m
              · have hlm : l.length - m = 0 := by omega
                rw [hlm, List.drop_eq_nil_of_le (by omega)]
                exact StS.zero _
              · rw [if_neg hcm]
                exact HL3.out.drop hml)
            go_region_law (fail)
            all_goals
              generalize (if cb = m then some (⟨b, off, none⟩ : Addr) else some ⟨b, off + m * 6, none⟩) = A2 at *
              go_wp2_with (at_builtin; fail)
              go_meet
              exact ⟨_, _, HA2.out, rfl, rfl⟩
          · have HA2 : Hid (∀ A c, StS w3 B (.slice A (l.length - m) c) (l.drop m)) := Lib.hid (fun A c => by
              have : l = [] := List.length_eq_zero_iff.1 (by omega)
              subst this
              simpa using StS.zero (w := w3) (B := B) (c := c) A)
            rcases Ab with _ | ⟨b, off, nm⟩
            · go_region_law (fail)
              all_goals
                go_wp2_with (at_builtin; fail)
                go_meet
                exact ⟨_, _, HA2.out _ _, rfl, rfl⟩
            · go_region_law (fail)
              all_goals
                generalize (if cb = m then some (⟨b, off, nm⟩ : Addr) else some ((⟨b, off, nm⟩ : Addr).add (m * 6))) = A2 at *
                go_wp2_with (at_builtin; fail)
                go_meet
                exact ⟨_, _, HA2.out _ _, rfl, rfl⟩
        case rest =>
          obtain ⟨A2, c2, hA2, rfl, rfl⟩ := hcut
          have HX4 : Hid (RowB (w3.alloc (.cells #[.slice At ts.length ct, .slice A2 (l.length - m) c2] 26)).drew w3.heap.size 26 [.slice At ts.length ct, .slice A2 (l.length - m) c2]) := Lib.hid (RowB.new w3 [.slice At ts.length ct, .slice A2 (l.length - m) c2] 26)
          have HB4 := Lib.hid ((bel_a w3 (.cells #[.slice At ts.length ct, .slice A2 (l.length - m) c2] 26)).drew)
          have HA2 := Lib.hid hA2
          clear hA2 c0 c1 c0a c1a
          have hs4 := HB4.out.size
          generalize (w3.alloc (.cells #[.slice At ts.length ct, .slice A2 (l.length - m) c2] 26)).drew = w4 at *
          have hx3 := HX3.out.lt
          have hx4 := HX4.out.lt
          have u0 := (HB4.out.cell (p := ⟨w1.heap.size, 0, none⟩) hx3).trans (HX3.out.cell 0)
          have u1 := (HB4.out.cell (p := ⟨w1.heap.size, 1, none⟩) hx3).trans (HX3.out.cell 1)
          have v0 := HX4.out.cell 0
          have v1 := HX4.out.cell 1
          simp only [List.getElem?_cons_zero, List.getElem?_cons_succ] at u0 u1 v0 v1
          have htl : (l.take m).length = m := by simp; omega
          have hdl : (l.drop m).length = l.length - m := by simp
          have C3 := Lib.hid (pown_any (.slice At ts.length ct) (.slice Ab m cb) ts (l.take m) B w4.drew ((HT3.out.low HB4.out (by omega)).keep fun _ _ _ => rfl) (((HL3.out.take hml).low HB4.out (by omega)).keep fun _ _ _ => rfl) (by show B ≤ w4.heap.size; omega) hts (by have := szL_take_le l m; omega))
          have C4 := Lib.hid (fun (wz : World) (hz : Below w4.heap.size w4 wz) => pown_any (.slice At ts.length ct) (.slice A2 (l.length - m) c2) ts (l.drop m) B wz ((HT3.out.low HB4.out (by omega)).low hz (by omega)) ((HA2.out.low HB4.out (by omega)).low hz (by omega)) (by have := hz.size; omega) hts (by have := szL_append (l.take m) (l.drop m); rw [List.take_append_drop] at this; omega))
          have HR1 := Lib.hid ((HR1.out.low HB3.out (Nat.lt_of_lt_of_le HR1.out.lt (Nat.le_refl _))).low HB4.out (by have := HR1.out.lt; omega))
          have HR2 := Lib.hid ((HR2.out.low HB3.out (Nat.lt_of_lt_of_le HR2.out.lt (Nat.le_refl _))).low HB4.out (by have := HR2.out.lt; omega))
          go_wp2_with (at_builtin; fail)
          have tok1 : True := trivial
          go_region_law (first
            | (have _t := tok1; go_simp; go_at_call 50; refine C3.out.mono ?_; rintro e w5 ⟨vt1, vb1, lo1, rfl, hoi1, -, hos1, hlo1, -, hb5⟩; clear tok1 _t; (obtain ⟨P1, p1, rfl, -⟩ := hoi1.slice); (obtain ⟨Q1, q1, hq1, -⟩ := hos1.slice); (rw [htl] at hq1); (subst hq1); (have HI1 := Lib.hid (And.intro hoi1 (And.intro hos1 hlo1))); (have HB5 := Lib.hid (show Below w4.heap.size w4 w5 from (Below.refl w4.heap.size w4).drew.trans hb5)); (have v0' := (HB5.out.cell (p := ⟨w3.heap.size, 0, none⟩) hx4).trans v0); (have v1' := (HB5.out.cell (p := ⟨w3.heap.size, 1, none⟩) hx4).trans v1); (have hs5 := HB5.out.size); clear hoi1 hos1 hlo1 hb5; (have tok2 : True := trivial))
            | (have _t := tok2; go_simp; go_at_call 50; refine (C4.out _ HB5.out).mono ?_; rintro e w6 ⟨vt2, vb2, lo2, rfl, hoi2, -, hos2, hlo2, -, hb6⟩; clear tok2 _t; (obtain ⟨P2, p2, rfl, -⟩ := hoi2.slice); (obtain ⟨Q2, q2, hq2, -⟩ := hos2.slice); (rw [hdl] at hq2); (subst hq2); (have HI2 := Lib.hid (And.intro hoi2 (And.intro hos2 hlo2))); (have HB6 := Lib.hid hb6); (have HR1 := Lib.hid ((HR1.out.low HB5.out HR1.out.lt).low hb6 (by have := HR1.out.lt; omega))); (have HR2 := Lib.hid ((HR2.out.low HB5.out HR2.out.lt).low hb6 (by have := HR2.out.lt; omega))); (have x0 := HR1.out.cell 0); (have x1 := HR1.out.cell 1); (have y0 := HR2.out.cell 0); (have y1 := HR2.out.cell 1); (have xf0 := HR1.out.frozen 0); (have xf1 := HR1.out.frozen 1); (have yf0 := HR2.out.frozen 0); (have yf1 := HR2.out.frozen 1); (simp only [List.getElem?_cons_zero, List.getElem?_cons_succ] at x0 x1 y0 y1); (have hs6 := HB6.out.size); clear hoi2 hos2 hlo2 hb6)
            | fail)
          all_goals
            go_wp2_with (at_builtin; fail)
            have hs1' := HB1.out.size
            have HX := Lib.hid (box22 HR1.out HR2.out (by omega) (.slice P1 ts.length p1) (.slice Q1 m q1) (.slice P2 ts.length p2) (.slice Q2 (l.length - m) q2))
            refine bodyPost_ret (res_two (u := 6) rfl _ _ (w.heap.size + 1) (w.heap.size + 1 + 1) 26 _ _ (0, 0) (0, 0) _ rfl HX.out.1 rfl HX.out.2 Try.underlying26 rfl rfl rfl) rfl ?_
            have F1 := own_reads (w' := (((w6.setCell ⟨w.heap.size + 1, 0, none⟩ (.slice P1 ts.length p1)).setCell ⟨w.heap.size + 1, 1, none⟩ (.slice Q1 m q1)).setCell ⟨w.heap.size + 1 + 1, 0, none⟩ (.slice P2 ts.length p2)).setCell ⟨w.heap.size + 1 + 1, 1, none⟩ (.slice Q2 (l.length - m) q2)) HI1.out.1 HI1.out.2.1 HI1.out.2.2 (by simp only [World.size_setCell]; exact hs6) (fun b h1 h2 => by
              have : w4.heap.size ≤ b := h1
              exact (set4_blk _ _ _ _ (by omega) (by omega) _ _ _ _).trans (HB6.out.block b h2)) hts
            have F2 := own_reads (w' := (((w6.setCell ⟨w.heap.size + 1, 0, none⟩ (.slice P1 ts.length p1)).setCell ⟨w.heap.size + 1, 1, none⟩ (.slice Q1 m q1)).setCell ⟨w.heap.size + 1 + 1, 0, none⟩ (.slice P2 ts.length p2)).setCell ⟨w.heap.size + 1 + 1, 1, none⟩ (.slice Q2 (l.length - m) q2)) HI2.out.1 HI2.out.2.1 HI2.out.2.2 (by simp only [World.size_setCell]; omega) (fun b h1 h2 => set4_blk _ _ _ _ (by omega) (by omega) _ _ _ _) hts
            refine ⟨_, _, _, _, by rw [HOK.out]; rfl, ?_, ?_, ?_, ?_, bel_set4 (((HB1.out.trans (HB3.out.mono (by omega))).trans (HB4.out.mono (by omega))).trans ((HB5.out.mono (by omega)).trans (HB6.out.mono (by omega)))) (by omega) (by omega) _ _ _ _⟩
            · rw [HOK.out]; exact F1.1
            · rw [HOK.out, if_pos rfl, Int.toNat_natCast]; exact F1.2
            · rw [HOK.out]; exact F2.1
            · rw [HOK.out, if_pos rfl, Int.toNat_natCast]; exact F2.2

end Go.Proofs.Ytidlifijgooceaa
