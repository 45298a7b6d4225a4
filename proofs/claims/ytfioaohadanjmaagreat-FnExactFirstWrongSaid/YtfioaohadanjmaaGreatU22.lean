import Derived.Test.YtfioaohadanjmaaGreatU17
import Derived.Test.YtfioaohadanjmaaGreatU13
import Derived.Test.YtfioaohadanjmaaGreatU21
import Derived.Test.YtfioaohadanjmaaGreatU06
import Derived.Lib.AppendZeros
import Derived.Deep.LoopGhost
set_option linter.unusedVariables false

/- Plain: steps of a run of the machine. No program in sight. -/
namespace Go.Proofs.YtfioaohadanjmaaGreat

theorem endP_ne (c : Int) : endP c ≠ -1 := by unfold endP; split <;> decide
theorem endO_ne {c e : Int} (h : endO c = some e) : e ≠ -1 := by
  unfold endO at h
  split at h
  · cases h
  · injection h with h; rw [← h]; exact endP_ne c
theorem putP_ne {ts : List Int} {s : Ms} {v : Nat} {x : Sl} {e : Int} (h : (putP ts s v x).2 = some e) : e ≠ -1 := by
  unfold putP at h
  split at h
  · exact endO_ne h
  · cases h
theorem finP_ne (ts : List Int) : ∀ (n v : Nat) (s : Ms), (finP ts n v s).2 ≠ -1
  | 0, _, _ => by unfold finP; show (0 : Int) ≠ -1; decide
  | n + 1, v, s => by
    unfold finP
    split
    · split
      · exact finP_ne ts n _ _
      · exact endP_ne _
    · exact finP_ne ts n _ _
theorem doP_ne {ts : List Int} {s : Ms} {x : Pt} {e : Int} (h : (doP ts s x).2 = some e) : e ≠ -1 := by
  unfold doP at h
  split at h
  · injection h with h; rw [← h]; decide
  split at h
  · exact putP_ne h
  split at h
  · split at h
    · exact putP_ne h
    · injection h with h; rw [← h]; decide
  split at h
  · exact putP_ne h
  split at h
  · split at h
    · injection h with h; rw [← h]; exact endP_ne _
    · exact putP_ne h
  split at h
  · split at h
    · injection h with h; rw [← h]; exact endP_ne _
    · exact putP_ne h
  split at h
  · exact endO_ne h
  split at h
  · exact endO_ne h
  split at h
  · injection h with h; rw [← h]; exact finP_ne _ _ _ _
  · cases h
theorem runM_go {ts : List Int} {pts : List Pt} {a : Nat} {r : List Nat} {s s' : Ms} (h : doP ts s (ptD pts a) = (s', none)) : runM ts pts (a :: r) s = runM ts pts r s' := by
  rw [runM, h]
theorem runM_stop {ts : List Int} {pts : List Pt} {a : Nat} {r : List Nat} {s s' : Ms} {e : Int} (h : doP ts s (ptD pts a) = (s', some e)) : runM ts pts (a :: r) s = (s', some (e, a)) := by
  rw [runM, h]
theorem take_last {l : List Nat} {k : Nat} (h : k < l.length) : (l.take (k + 1)).getLastD 0 = l[k] := by
  have e : l.take (k + 1) = l.take k ++ [l[k]] := by rw [List.take_add_one, List.getElem?_eq_getElem h]; rfl
  rw [e, List.getLastD_eq_getLast?, List.getLast?_append]
  rfl
end Go.Proofs.YtfioaohadanjmaaGreat

/- graph.run with its row's place. -/
namespace Go.Proofs.YtfioaohadanjmaaGreat
open Go.RowKit Go.Lib

def RunNew (w : World) (r : List Nat × Bool) (e : Ending) (w' : World) : Prop := ∃ v, e = .returned (.tuple #[v, .bool r.2]) ∧ IntX w' (fun b => w.heap.size ≤ b) v (msk r.1) ∧ Below w.heap.size w w'
theorem IntX.takeS {w : World} {P : Nat → Prop} {n c m : Nat} {A : Option Addr} {l : List Int} (h : IntX w P (.slice A n c) l) (hm : m ≤ l.length) : IntX w P (.slice A m c) (l.take m) := by
  obtain ⟨A', c', e, h1, h2, h3⟩ := h
  injection e with e1 e2 e3
  subst e1 e3
  have hl : (l.take m).length = m := by simp; omega
  refine ⟨A, c, by rw [hl], by omega, by omega, fun hn => ?_⟩
  obtain ⟨b, off, e, hP, hb, hc⟩ := h3 (by omega)
  refine ⟨b, off, e, hP, hb, fun j hj => ?_⟩
  have hj' : j < m := by omega
  have := hc j (by omega)
  simpa [List.getElem_take, List.getD_eq_getElem?_getD, List.getElem?_take, hj'] using this
set_option maxHeartbeats 4000000 in
set_option maxRecDepth 100000 in
theorem run_new (vg vc : Value) (ts : List Int) (pts : List Pt) (cs : List Int) (B B' most : Nat) (w : World) (hg : GrS w B vg ts pts) (hB : B ≤ w.heap.size) (gd : Good ts pts) (h1 : ∀ p ∈ pts, p.op ≠ 11 → 1 ≤ p.next.length) (hc : IntS w B' vc cs) (hB' : B' ≤ w.heap.size) (hm : most ≤ 1000) :
    Calls Tryz.prog 66 #[vg, vc, .int .i64 (most : Nat)] w (RunNew w (runF pts most 0 cs)) := by
  have HG := Lib.hid hg
  have GD := Lib.hid gd
  have H1 := Lib.hid h1
  have hpl := gd.len
  have hpos := gd.pos
  have HC0 : Hid (IntX w (fun b => b < w.heap.size) vc cs) := Lib.hid (hc.toX hB' fun b hb => by omega)
  clear gd h1 hc
  obtain ⟨g, At, ct, vb, Al, cl, rfl, hgB, g0, g1, g2, ht, hp, htl, hpl'⟩ := hg.open_
  obtain ⟨Ac, cc, rfl, hcc⟩ := HC0.out.slice
  go_enter Tryz.func66, Tryz.ntmps66
  go_wp2_with (at_builtin; fail)
  go_loopg [8, 9, 1] (most + 2) (fun gk v a' c' wr => ∃ (o : List Nat) (a : Nat) (cs' : List Int), OInts wr w.heap.size v (msk o) ∧ a' = .int .i64 (a : Nat) ∧ a < pts.length ∧ IntX w (fun b => b < w.heap.size) c' cs' ∧ RunRel pts most cs o a cs' ∧ most + 1 - o.length < gk ∧ o.length ≤ most + 1 ∧ Below w.heap.size w wr)
  case atStart => exact ⟨[], 0, cs, OInts.nil _ _, rfl, hpos, HC0.out, RunRel.start _ _ _, by simp, by simp, Below.refl _ _⟩
  case round =>
    obtain ⟨o, a, cs', hO, rfl, ha, hX, hR, hgk, hol, hbw⟩ := hrel
    have HO := Lib.hid hO
    have HX := Lib.hid hX
    have HR := Lib.hid hR
    have HBW := Lib.hid hbw
    have hsw := hbw.size
    obtain ⟨A1, c1, rfl, hc1⟩ := hO.slice
    obtain ⟨A2, c2, rfl, hc2⟩ := hX.slice
    simp only [msk_len] at hc1 HO ⊢
    clear hO hX hR
    by_cases hle : o.length ≤ most
    · obtain ⟨b, off, c, nv, e, hb, hcc2, hl, hnx, z0, z1, z2, z3, z4⟩ := hp.get ha
      injection e with e1 e9 e2
      subst e1 e2
      have hbB : b < w.heap.size := by omega
      have HNX := Lib.hid hnx
      obtain ⟨An, cn, rfl, hcn, hln, -⟩ := hnx
      simp only [List.length_map] at z4 hcn hln HNX
      have hn2 := GD.out.next2 _ (List.getElem_mem ha)
      have HN := Lib.hid (GD.out.next _ (List.getElem_mem ha))
      have HP1 := Lib.hid (H1.out _ (List.getElem_mem ha))
      have HPD : Hid (ptD pts a = pts[a]) := Lib.hid (ptD_get ha)
      generalize pts[a] = P at *
      clear e9 hbw
      have HME : Hid (msk o ++ [((a : Nat) : Int)] = msk (o ++ [a])) := Lib.hid (by simp [msk])
      by_cases hop : P.op = 11
      · have HST := Lib.hid (HR.out.stop hle (by rw [HPD.out]; exact hop))
        rw [hop] at z0
        clear hop
        go_wp2_with (at_builtin; go_must (refine wpList_push_int rfl (.tmp 15) (.tmp 17) rfl HO.out hsw (by rw [msk_len]; omega) _ rfl rfl ?_); intro v' w' hP' hE'; (have HB2 := Lib.hid (HBW.out.trans (((Evo.alloc w.heap.size 3 _ _).trans hE').below hsw))); (have HO2 := Lib.hid hP'); (have y2 := (HB2.out.cell (p := ⟨g, 2, none⟩) (by show g < _; omega)).trans g2); (have q0 := (HB2.out.cell (p := ⟨b, off + a * 5, none⟩) hbB).trans z0); (have q1 := (HB2.out.cell (p := ⟨b, off + a * 5 + 1, none⟩) hbB).trans z1); (have q2 := (HB2.out.cell (p := ⟨b, off + a * 5 + 2, none⟩) hbB).trans z2); (have q3 := (HB2.out.cell (p := ⟨b, off + a * 5 + 3, none⟩) hbB).trans z3); (have q4 := (HB2.out.cell (p := ⟨b, off + a * 5 + 4, none⟩) hbB).trans z4); clear hP' hE' z0 z1 z2 z3 z4)
        go_ret2
        rw [HST.out]
        have hO3 := HO2.out.bel (bel_a _ (.cells #[.int .i64 11, .int .i64 P.x, .int .i64 P.y, .int .i64 P.n, .slice An P.next.length cn] 94))
        rw [HME.out] at hO3
        exact ⟨_, rfl, hO3.toX (by rw [msk_len]; simp; omega), HB2.out.alloc HB2.out.size _⟩
      · have hp1 := HP1.out hop
        have HGO := Lib.hid (HR.out.go hle (by rw [HPD.out]; exact hop))
        rw [HPD.out] at HGO
        go_wp2_with (at_builtin; go_must (refine wpList_push_int rfl (.tmp 15) (.tmp 17) rfl HO.out hsw (by rw [msk_len]; omega) _ rfl rfl ?_); intro v' w' hP' hE'; (have HB2 := Lib.hid (HBW.out.trans (((Evo.alloc w.heap.size 3 _ _).trans hE').below hsw))); (have HO2 := Lib.hid hP'); (have y2 := (HB2.out.cell (p := ⟨g, 2, none⟩) (by show g < _; omega)).trans g2); (have q0 := (HB2.out.cell (p := ⟨b, off + a * 5, none⟩) hbB).trans z0); (have q1 := (HB2.out.cell (p := ⟨b, off + a * 5 + 1, none⟩) hbB).trans z1); (have q2 := (HB2.out.cell (p := ⟨b, off + a * 5 + 2, none⟩) hbB).trans z2); (have q3 := (HB2.out.cell (p := ⟨b, off + a * 5 + 3, none⟩) hbB).trans z3); (have q4 := (HB2.out.cell (p := ⟨b, off + a * 5 + 4, none⟩) hbB).trans z4); clear hP' hE' z0 z1 z2 z3 z4)
        have HB3 := Lib.hid (HB2.out.alloc HB2.out.size (.cells #[.int .i64 P.op, .int .i64 P.x, .int .i64 P.y, .int .i64 P.n, .slice An P.next.length cn] 94))
        have HO3 := Lib.hid (HO2.out.bel (bel_a _ (.cells #[.int .i64 P.op, .int .i64 P.x, .int .i64 P.y, .int .i64 P.n, .slice An P.next.length cn] 94)))
        have HR3 := Lib.hid (heap_alloc_new w' (.cells #[.int .i64 P.op, .int .i64 P.x, .int .i64 P.y, .int .i64 P.n, .slice An P.next.length cn] 94))
        have hs3 : (w'.alloc (.cells #[.int .i64 P.op, .int .i64 P.x, .int .i64 P.y, .int .i64 P.n, .slice An P.next.length cn] 94)).heap.size = w'.heap.size + 1 := by simp
        generalize w'.alloc (.cells #[.int .i64 P.op, .int .i64 P.x, .int .i64 P.y, .int .i64 P.n, .slice An P.next.length cn] 94) = w3 at *
        refine (isChoice_any _ _ _ _ _ _ _ _).mono ?_
        rintro e w4 ⟨rfl, hb4⟩
        have HB4 := Lib.hid (HB3.out.trans (hb4.mono HB3.out.size))
        have HO4 := Lib.hid (HO3.out.bel hb4)
        have x4 : w4.cell? ⟨w'.heap.size, 4, none⟩ = some (.slice An P.next.length cn) := (cell_of_row _ _ _ _ _ _ (row_below HR3.out hb4)).trans rfl
        have hs4 := HB4.out.size
        obtain ⟨An', cn', en, -, -, hrd⟩ := HNX.out.low HB4.out hB
        simp only [List.length_map] at en
        injection en with e1 e9 e2
        subst e1 e2
        clear e9 hb4 q0 q1 q2 q3 q4 y2
        obtain ⟨bn, on, rfl, hbn, hcn2⟩ := hrd.int_at (k := 0) (by simp; omega)
        have hn0 := hcn2 0 (by simp; omega)
        rw [getD_lt (by simp; omega), List.getElem_map, Nat.add_zero] at hn0
        have H00 : Hid (P.next[0] = P.next.getD 0 0) := Lib.hid (by rw [getD_lt hp1])
        have HN0 := Lib.hid (HN.out _ (List.getElem_mem hp1))
        have HNI : Hid (OInts w4 w.heap.size v' (msk (o ++ [a]))) := Lib.hid (by rw [← HME.out]; exact HO4.out)
        rw [H00.out] at hn0 HN0
        clear hrd
        by_cases hch : P.next.length = 2
        · have h1l : 1 < P.next.length := by omega
          have hn1 := hcn2 1 (by simp; omega)
          rw [getD_lt (by simp; omega), List.getElem_map] at hn1
          have H01 : Hid (P.next[1]'h1l = P.next.getD 1 0) := Lib.hid (by rw [getD_lt])
          have HN1 := Lib.hid (HN.out _ (List.getElem_mem h1l))
          rw [H01.out] at hn1 HN1
          have hd2 : decide (P.next.length = 2) = true := by simpa using hch
          have HCH := Lib.hid hch
          clear hcn2
          rw [hd2]
          rw [hch] at x4
          clear hch hd2
          cases cs' with
          | nil =>
            have HGO2 : Hid (RunRel pts most cs (o ++ [a]) (P.next.getD 1 0) []) := Lib.hid (by
              have := HGO.out
              unfold stepP restP at this
              rw [if_pos HCH.out, if_pos HCH.out] at this
              simpa using this)
            simp only [List.length_nil]
            go_wp2_with (at_builtin; fail)
            go_roundg (most + 1 - o.length)
            case measure => omega
            case rel => exact ⟨o ++ [a], P.next.getD 1 0, [], HNI.out, (by rw [← H01.out]), HN1.out, HX.out, HGO2.out, by simp; omega, by simp; omega, HB4.out⟩
          | cons c r =>
            obtain ⟨b5, off5, c5, e, hqc, -, hbl5, hhd, hpop⟩ := HX.out.head
            injection e with e1 e9 e2
            subst e1 e2
            clear e9
            have hh := (HB4.out.cell (p := ⟨b5, off5, none⟩) hbl5).trans hhd
            have HPOP := Lib.hid hpop
            have HST : Hid (stepP P (c :: r) = if c % 2 = 0 then P.next.getD 0 0 else P.next.getD 1 0) := Lib.hid (by unfold stepP; rw [if_pos HCH.out]; rfl)
            have HRE : Hid (restP P (c :: r) = r) := Lib.hid (by unfold restP; rw [if_pos HCH.out]; rfl)
            have HAO := Lib.hid (and_one c)
            have hc01 : c % 2 = 0 ∨ c % 2 = 1 := by omega
            simp only [List.length_cons]
            clear hpop
            rcases hc01 with h0 | h0
            · have hbit : bits .and .i64 c 1 = 0 := by rw [HAO.out]; exact h0
              have HGO2 : Hid (RunRel pts most cs (o ++ [a]) (P.next.getD 0 0) r) := Lib.hid (by
                have := HGO.out
                rwa [HST.out, HRE.out, if_pos h0] at this)
              clear h0
              rcases Nat.eq_zero_or_pos c5 with hc0 | hc0
              · subst hc0
                have HT : Hid (IntX w (fun b => b < w.heap.size) (.slice (some ⟨b5, off5, none⟩) 0 0) r) := Lib.hid (by
                  have := HPOP.out off5 (by simp)
                  rwa [show r.length = 0 by omega] at this)
                go_wp2_with (at_builtin; fail)
                go_quiet (fail)
                go_wp2_with (at_builtin; fail)
                go_roundg (most + 1 - o.length)
                case measure => omega
                case rel => exact ⟨o ++ [a], P.next.getD 0 0, r, HNI.out, rfl, HN0.out, HT.out, HGO2.out, by simp; omega, by simp; omega, Below.drN HB4.out _⟩
              · have HT := Lib.hid (HPOP.out (off5 + 1) (by simp))
                go_wp2_with (at_builtin; fail)
                go_quiet (fail)
                go_wp2_with (at_builtin; fail)
                go_roundg (most + 1 - o.length)
                case measure => omega
                case rel => exact ⟨o ++ [a], P.next.getD 0 0, r, HNI.out, rfl, HN0.out, HT.out, HGO2.out, by simp; omega, by simp; omega, Below.drN HB4.out _⟩
            · have hbit : bits .and .i64 c 1 = 1 := by rw [HAO.out]; exact h0
              have HGO2 : Hid (RunRel pts most cs (o ++ [a]) (P.next.getD 1 0) r) := Lib.hid (by
                have := HGO.out
                rwa [HST.out, HRE.out, if_neg (by omega)] at this)
              clear h0
              rcases Nat.eq_zero_or_pos c5 with hc0 | hc0
              · subst hc0
                have HT : Hid (IntX w (fun b => b < w.heap.size) (.slice (some ⟨b5, off5, none⟩) 0 0) r) := Lib.hid (by
                  have := HPOP.out off5 (by simp)
                  rwa [show r.length = 0 by omega] at this)
                go_wp2_with (at_builtin; fail)
                go_quiet (fail)
                go_wp2_with (at_builtin; fail)
                go_roundg (most + 1 - o.length)
                case measure => omega
                case rel => exact ⟨o ++ [a], P.next.getD 1 0, r, HNI.out, (by rw [← H01.out]), HN1.out, HT.out, HGO2.out, by simp; omega, by simp; omega, Below.drN HB4.out _⟩
              · have HT := Lib.hid (HPOP.out (off5 + 1) (by simp))
                go_wp2_with (at_builtin; fail)
                go_quiet (fail)
                go_wp2_with (at_builtin; fail)
                go_roundg (most + 1 - o.length)
                case measure => omega
                case rel => exact ⟨o ++ [a], P.next.getD 1 0, r, HNI.out, (by rw [← H01.out]), HN1.out, HT.out, HGO2.out, by simp; omega, by simp; omega, Below.drN HB4.out _⟩
        · have hd2 : decide (P.next.length = 2) = false := by simpa using hch
          have HGO2 : Hid (RunRel pts most cs (o ++ [a]) (P.next.getD 0 0) cs') := Lib.hid (by
            have := HGO.out
            unfold stepP restP at this
            rwa [if_neg hch, if_neg hch] at this)
          clear hcn2
          rw [hd2]
          clear hch hd2
          go_wp2_with (at_builtin; fail)
          go_roundg (most + 1 - o.length)
          case measure => omega
          case rel => exact ⟨o ++ [a], P.next.getD 0 0, cs', HNI.out, rfl, HN0.out, HX.out, HGO2.out, by simp; omega, by simp; omega, HB4.out⟩
    · obtain ⟨hcl, hcr⟩ := HR.out.cut hle
      have HCR := Lib.hid hcr
      clear hcr
      go_wp2_with (at_builtin; fail)
      go_ret2
      rw [HCR.out]
      have hS := IntX.takeS (HO.out.toX (by rw [msk_len]; omega)) (m := most) (by rw [msk_len]; omega)
      rw [show (msk o).take most = msk (o.take most) by simp [msk]] at hS
      exact ⟨_, rfl, hS, HBW.out⟩

end Go.Proofs.YtfioaohadanjmaaGreat

/- impl.runOf. -/
namespace Go.Proofs.YtfioaohadanjmaaGreat
open Go.RowKit Go.Lib

theorem Tryz.infoSl : (Tryz.prog.info? 79).map (fun i => (i.zero, i.size, i.bytes)) = some (some (.agg #[.bool false, .int .i64 0, .int .i64 0, .int .i64 0]), 4, 32) := by kernel_rfl
/-- make([]Slot, n) -/
theorem make_sl (n : Nat) (hn : n ≤ 6) (W : World) : (Instr.makeSlice 43 (.int .i64 (n : Int)) (.int .i64 (n : Int))).run Tryz.prog W = .ok (.slice (some ⟨W.heap.size, 0, none⟩) n n) (W.alloc (.cells (slCells (List.replicate n slD)).toArray 79)) := by
  obtain ⟨i0, hi0, hz0, hz1, hz2⟩ := info_parts Tryz.infoSl
  have h := run_make (P := Tryz.prog) W 43 79 i0 _ Tryz.underlying43 hi0 hz0 .i64 .i64 (n : Int) (n : Int) (by omega) (by omega) (by rw [hz2]; omega) (by omega)
  simp only [Int.toNat_natCast] at h
  rw [h, hz1]
  have e : madeCells (Value.cells (.agg #[.bool false, .int .i64 0, .int .i64 0, .int .i64 0])) (n * 4) = (slCells (List.replicate n slD)).toArray := by
    have : n = 0 ∨ n = 1 ∨ n = 2 ∨ n = 3 ∨ n = 4 ∨ n = 5 ∨ n = 6 := by omega
    rcases this with rfl | rfl | rfl | rfl | rfl | rfl | rfl <;> (apply Array.ext'; simp only [madeCells, Array.toList_map, Array.toList_range]; rfl)
  rw [e]
/-- the run: its state, how it ends and where -/
def runX (ts : List Int) (l : List St) (cs : List Int) (m : Nat) : Ms × Int × Nat :=
  ((runM ts (ptsP l) (runF (ptsP l) m 0 cs).1 (ms0 ts)).1, endM (runF (ptsP l) m 0 cs).1 (runM ts (ptsP l) (runF (ptsP l) m 0 cs).1 (ms0 ts)).2)
def runOk (ts : List Int) (l : List St) (most : Int) : Bool := validP ts l && withinP most 0 150
def RofRet (w : World) (ts : List Int) (l : List St) (cs : List Int) (most : Int) (e : Ending) (w' : World) : Prop :=
  Below w.heap.size w w' ∧ (runOk ts l most = true → ∃ gm gs B base vg vc vl, e = .returned (.tuple #[.pointer (some ⟨gm, 0, none⟩), .int .i64 (runX ts l cs most.toNat).2.1, .int .i64 ((runX ts l cs most.toNat).2.2 : Nat)]) ∧ w.heap.size ≤ B ∧ MaS w' B base gm gs vg vc vl ts (ptsP l) (runX ts l cs most.toNat).1) ∧
    (runOk ts l most = false → ∃ gm, e = .returned (.tuple #[.pointer (some ⟨gm, 0, none⟩), .int .i64 5, .int .i64 0]) ∧ RowB w' gm 66 [.pointer none, .slice none 0 0, .slice none 0 0, .slice none 0 0])
set_option maxHeartbeats 8000000 in
set_option maxRecDepth 100000 in
theorem runOf_any (vt vb vc : Value) (ts : List Int) (l : List St) (cs : List Int) (most : Int) (B : Nat) (w : World) (ht : IntS w B vt ts) (hl : StS w B vb l) (hc : IntS w B vc cs) (hB : B ≤ w.heap.size) (hsz : szL l ≤ 4194300) :
    Calls Tryz.prog 40 #[.agg #[vt, vb], vc, .int .i64 most] w (RofRet w ts l cs most) := by
  go_enter Tryz.func40, Tryz.ntmps40
  go_wp2_with (at_builtin; fail)
  refine (graphOf_any vt vb _ ts l [] w.heap.size _ ((ht.low (bel_a _ _) hB).more hB) ((hl.low (bel_a _ _) hB).more hB) ((OInts.nil w 0).toS (by simp) |>.low (bel_a _ _) (Nat.le_refl _)) (by simp) hsz).mono ?_
  rintro e w1 ⟨vg, rfl, hgr, hb1⟩
  have HB1 := Lib.hid ((bel_a w _).trans (hb1.mono (by simp)))
  rw [graphOk_nil] at hgr ⊢
  cases hok : validP ts l
  · have HOK : Hid (runOk ts l most = false) := Lib.hid (by unfold runOk; rw [hok]; rfl)
    clear hok hgr hb1
    go_wp2_with (at_builtin; fail)
    go_ret3
    exact ⟨HB1.out.alloc HB1.out.size _, fun h => absurd (HOK.out.symm.trans h) (by decide), fun _ => ⟨_, rfl, RowB.new w1 _ _⟩⟩
  · cases hwm : withinP most 0 150
    · have HOK : Hid (runOk ts l most = false) := Lib.hid (by unfold runOk; rw [hok, hwm]; rfl)
      have HWM := Lib.hid hwm
      clear hok hgr hb1 hwm
      go_wp2_with (at_builtin; fail)
      refine (within_any _ _ _ _).mono ?_
      rintro e w' ⟨rfl, rfl⟩
      rw [HWM.out]
      go_wp2_with (at_builtin; fail)
      go_ret3
      exact ⟨HB1.out.alloc HB1.out.size _, fun h => absurd (HOK.out.symm.trans h) (by decide), fun _ => ⟨_, rfl, RowB.new w1 _ _⟩⟩
    · have HOK : Hid (runOk ts l most = true) := Lib.hid (by unfold runOk; rw [hok, hwm]; rfl)
      have HWM := Lib.hid hwm
      have GD := Lib.hid (Good.of_valid hok)
      have HGG := Lib.hid (hgr hok)
      have hs1 := HB1.out.size
      have HC := Lib.hid (hc.low HB1.out hB)
      have hm0 : 0 ≤ most ∧ most ≤ 150 := by simpa [withinP] using hwm
      obtain ⟨m, rfl⟩ : ∃ m : Nat, most = m := ⟨most.toNat, by omega⟩
      have hm1 : m ≤ 150 := by omega
      clear hok hgr hb1 hwm hm0 hc
      have hg := HGG.out
      obtain ⟨g, At, ct, vb2, Al, cl, rfl, hgB, g0, -, -, -, -, -, -⟩ := hg.open_
      clear hg
      have h6 := GD.out.h6
      have hmk := make_sl ts.length h6
      go_wp2_with (at_builtin; fail)
      refine (within_any _ _ _ _).mono ?_
      rintro e w' ⟨rfl, rfl⟩
      rw [HWM.out]
      go_wp2_with (at_builtin; fail)
      have hn1 := ptsP_next1 l
      have HBW2 := Lib.hid (show Below w1.heap.size w1 ((w1.alloc (.cells (slCells (List.replicate ts.length slD)).toArray 79)).alloc (.cells #[.pointer (some ⟨g, 0, none⟩), .slice (some ⟨w1.heap.size, 0, none⟩) ts.length ts.length, .slice none 0 0, .slice none 0 0] 66)) from (bel_a w1 _).alloc (by simp) _)
      have HMR := Lib.hid (show RowB ((w1.alloc (.cells (slCells (List.replicate ts.length slD)).toArray 79)).alloc (.cells #[.pointer (some ⟨g, 0, none⟩), .slice (some ⟨w1.heap.size, 0, none⟩) ts.length ts.length, .slice none 0 0, .slice none 0 0] 66)) (w1.heap.size + 1) 66 [.pointer (some ⟨g, 0, none⟩), .slice (some ⟨w1.heap.size, 0, none⟩) ts.length ts.length, .slice none 0 0, .slice none 0 0] from by have := RowB.new (w1.alloc (.cells (slCells (List.replicate ts.length slD)).toArray 79)) [.pointer (some ⟨g, 0, none⟩), .slice (some ⟨w1.heap.size, 0, none⟩) ts.length ts.length, .slice none 0 0, .slice none 0 0] 66; simpa using this)
      have HSR := Lib.hid (show RowB ((w1.alloc (.cells (slCells (List.replicate ts.length slD)).toArray 79)).alloc (.cells #[.pointer (some ⟨g, 0, none⟩), .slice (some ⟨w1.heap.size, 0, none⟩) ts.length ts.length, .slice none 0 0, .slice none 0 0] 66)) w1.heap.size 79 (slCells (ms0 ts).sl) from (RowB.new w1 (slCells (List.replicate ts.length slD)) 79).alloc _)
      generalize ((w1.alloc (.cells (slCells (List.replicate ts.length slD)).toArray 79)).alloc (.cells #[.pointer (some ⟨g, 0, none⟩), .slice (some ⟨w1.heap.size, 0, none⟩) ts.length ts.length, .slice none 0 0, .slice none 0 0] 66)) = w2 at HBW2 HMR HSR ⊢
      have hs2 := HBW2.out.size
      have HG2 := Lib.hid (HGG.out.low HBW2.out (Nat.le_refl _))
      have HRN := Lib.hid (run_new _ vc ts (ptsP l) cs _ B m w2 HG2.out hs2 GD.out hn1 (HC.out.low HBW2.out (by omega)) (by omega) (by omega))
      have HIR := Lib.hid (runF_run (fun p hp k hk => GD.out.next p hp k hk) hn1 m 0 cs GD.out.pos)
      have HLEN := Lib.hid (runF_len (ptsP l) m 0 cs)
      obtain ⟨path, fin, hpf⟩ : ∃ path fin, runF (ptsP l) m 0 cs = (path, fin) := ⟨_, _, rfl⟩
      rw [hpf] at HRN HIR HLEN
      have HX : Hid (runX ts l cs m = ((runM ts (ptsP l) path (ms0 ts)).1, endM path (runM ts (ptsP l) path (ms0 ts)).2)) := Lib.hid (by unfold runX; rw [hpf])
      have hpl : path.length ≤ 151 := by have := HLEN.out; simp only at this; omega
      clear hpf hn1 HLEN
      refine HRN.out.mono ?_
      rintro e w3 ⟨v3, rfl, hv3, hb3⟩
      have hs3 := hb3.size
      have HMA := Lib.hid (show MaS w3 w1.heap.size w3.heap.size (w1.heap.size + 1) w1.heap.size _ _ _ ts (ptsP l) (ms0 ts) from ⟨⟨by omega, Nat.le_refl _⟩, HG2.out.low hb3 hs2, HMR.out.low hb3 HMR.out.lt, by omega, HSR.out.low hb3 HSR.out.lt, Nat.le_refl _, MeS.nil w3 _, OInts.nil w3 _, ms0_ok ts⟩)
      have HWY := Lib.hid (show IntX w3 (fun b => w2.heap.size ≤ b ∧ b < w3.heap.size) v3 (msk path) from hv3.frame (Nat.le_refl _) fun b h1 h2 => ⟨⟨h1, h2⟩, rfl⟩)
      have HB3 := Lib.hid (HB1.out.trans ((HBW2.out.mono hs1).trans (hb3.mono (by omega))))
      have hml := HMR.out.lt
      have hgl := HSR.out.lt
      obtain ⟨A3, c3, rfl, hc3⟩ := hv3.slice
      simp only [msk_len] at hc3
      have HVL := Lib.hid (msk_len path)
      rw [msk_len] at HWY
      rw [msk_len]
      clear hv3 hb3 HRN HC HGG g0
      go_wp2_with (at_builtin; fail)
      go_loopg [14, 51] (path.length + 1) (fun gk la i wr => ∃ (k : Nat) (vc' vl' : Value) (s' : Ms), k ≤ path.length ∧ i = .int .i64 k ∧ la = .int .i64 (((path.take k).getLastD 0 : Nat) : Int) ∧ MaS wr w1.heap.size w3.heap.size (w1.heap.size + 1) w1.heap.size (.pointer (some ⟨g, 0, none⟩)) vc' vl' ts (ptsP l) s' ∧ s'.rd.length ≤ k ∧ runM ts (ptsP l) path (ms0 ts) = runM ts (ptsP l) (path.drop k) s' ∧ Mab w3.heap.size (w1.heap.size + 1) w1.heap.size w3 wr ∧ path.length - k < gk)
      case atStart => exact ⟨0, _, _, _, Nat.zero_le _, rfl, rfl, HMA.out, Nat.zero_le _, rfl, Mab.refl _ _ _ _, by omega⟩
      case round =>
        obtain ⟨k, vc', vl', s', hk, rfl, rfl, hm, hrd, hrm, hbw, hgk⟩ := hrel
        have HM := Lib.hid hm
        have HRM := Lib.hid hrm
        have HBW := Lib.hid hbw
        clear hm hrm hbw
        by_cases hlt : k < path.length
        · have ha := HIR.out.inn k hlt
          obtain ⟨a, hae⟩ : ∃ a, a = path.getD k 0 := ⟨_, rfl⟩
          rw [← hae] at ha
          obtain ⟨A', c', e', -, -, h3⟩ := HWY.out.frame (P' := fun _ => True) HBW.out.size fun b h1 h2 => ⟨trivial, HBW.out.oth b h1.2 (by omega) (by omega)⟩
          injection e' with e1 e2 e3
          clear e2
          subst e1 e3
          obtain ⟨bw, ow, rfl, -, -, hcw⟩ := h3 (by rw [msk_len]; omega)
          have d := hcw k (by rw [msk_len]; exact hlt)
          rw [msk_get hlt, ← hae] at d
          obtain ⟨g', At', ct', vb', Al', cl', e5, hgB', -, -, g2, -, hp, -, hpl'⟩ := HM.out.g.open_
          injection e5 with e5
          injection e5 with e5
          injection e5 with e5 _ _
          subst e5
          obtain ⟨b, off, c, nv, e, hb, hcc2, hl9, hnx, z0, z1, z2, z3, z4⟩ := hp.get ha
          injection e with e1 e9 e2
          subst e1 e2
          obtain ⟨An, cn, rfl, hcn, hln, -⟩ := hnx
          simp only [List.length_map] at z4 hcn hln
          have HPD : Hid (ptD (ptsP l) a = (ptsP l)[a]) := Lib.hid (ptD_get ha)
          have HPO := Lib.hid (GD.out.ok _ (List.getElem_mem ha))
          have HTK : Hid ((path.take (k + 1)).getLastD 0 = a) := Lib.hid (by rw [take_last hlt, hae, getD_lt hlt])
          have HDR : Hid (path.drop k = a :: path.drop (k + 1)) := Lib.hid (by rw [List.drop_eq_getElem_cons hlt, hae, getD_lt hlt])
          generalize (ptsP l)[a] = P at *
          have HDO := Lib.hid (do_any w1.heap.size w3.heap.size (w1.heap.size + 1) w1.heap.size P An cn _ vc' vl' ts (ptsP l) s' wr HM.out h6 HPO.out (by omega))
          obtain ⟨s2, en, hdo⟩ : ∃ s2 en, doP ts s' P = (s2, en) := ⟨_, _, rfl⟩
          have hrd2 : s2.rd.length ≤ k + 1 := by have := (HM.out.ok.do_ P).2; rw [hdo] at this; simp only at this; omega
          rw [hdo] at HDO
          have m0 := HMR.out
          obtain ⟨q0, -, -, -⟩ := HM.out.c
          clear m0 q0 hcw h3 hae hp e9
          cases en with
          | none =>
            have HRM2 : Hid (runM ts (ptsP l) path (ms0 ts) = runM ts (ptsP l) (path.drop (k + 1)) s2) := Lib.hid (by rw [HRM.out, HDR.out, runM_go (by rw [HPD.out]; exact hdo)])
            clear hdo
            go_wp2_with (at_builtin; fail)
            refine HDO.out.mono ?_
            rintro e w4 ⟨vc2, vl2, rfl, hm4, hb4⟩
            have HM4 := Lib.hid hm4
            have HB4 := Lib.hid hb4
            rw [show endV ((s2, none) : Ms × Option Int).2 = -1 from rfl]
            clear hm4 hb4
            go_wp2_with (at_builtin; fail)
            go_roundg (path.length - k)
            case measure => omega
            case rel => exact ⟨k + 1, vc2, vl2, s2, by omega, by go_num, by rw [HTK.out], HM4.out, hrd2, HRM2.out, HBW.out.trans HB4.out, by omega⟩
          | some en =>
            have hen := doP_ne (ts := ts) (s := s') (x := P) (e := en) (by rw [hdo])
            have hq : (en != -1) = true := by simpa using hen
            have HX2 : Hid (runX ts l cs m = (s2, (en, a))) := Lib.hid (by rw [HX.out, HRM.out, HDR.out, runM_stop (by rw [HPD.out]; exact hdo)]; rfl)
            clear hdo hen
            go_wp2_with (at_builtin; fail)
            refine HDO.out.mono ?_
            rintro e w4 ⟨vc2, vl2, rfl, hm4, hb4⟩
            have HM4 := Lib.hid hm4
            have HB4 := Lib.hid hb4
            rw [show endV ((s2, some en) : Ms × Option Int).2 = en from rfl]
            clear hm4 hb4
            go_wp2_with (at_builtin; fail)
            go_ret3
            exact ⟨HB3.out.trans ((HBW.out.trans HB4.out).below (by omega) (by omega) hs1), fun _ => ⟨_, _, _, _, _, _, _, by rw [Int.toNat_natCast, HX2.out]; rfl, hs1, by rw [Int.toNat_natCast, HX2.out]; exact HM4.out⟩, fun h => absurd (HOK.out.symm.trans h) (by decide)⟩
        · obtain rfl : k = path.length := by omega
          have HX2 : Hid (runX ts l cs m = (s', (1, path.getLastD 0))) := Lib.hid (by rw [HX.out, HRM.out, List.drop_length]; rfl)
          have HTK : Hid ((path.take path.length).getLastD 0 = path.getLastD 0) := Lib.hid (by rw [List.take_length])
          go_wp2_with (at_builtin; fail)
          go_ret3
          exact ⟨HB3.out.trans (HBW.out.below (by omega) (by omega) hs1), fun _ => ⟨_, _, _, _, _, _, _, by rw [Int.toNat_natCast, HX2.out, HTK.out]; rfl, hs1, by rw [Int.toNat_natCast, HX2.out]; exact HM.out⟩, fun h => absurd (HOK.out.symm.trans h) (by decide)⟩

end Go.Proofs.YtfioaohadanjmaaGreat

/- impl.RunProgram. -/
namespace Go.Proofs.YtfioaohadanjmaaGreat
open Go.RowKit Go.Lib

/-- how a program's run ends, and where -/
def progX (ts : List Int) (l : List St) (cs : List Int) (most : Int) : Int × Nat := if runOk ts l most = true then (runX ts l cs most.toNat).2 else (5, 0)
def EndRet (w : World) (r : Int × Nat) (e : Ending) (w' : World) : Prop := e = .returned (.tuple #[.int .i64 r.1, .int .i64 (r.2 : Nat)]) ∧ Below w.heap.size w w'
set_option maxHeartbeats 4000000 in
set_option maxRecDepth 100000 in
theorem iRunProgram_any (vt vb vc : Value) (ts : List Int) (l : List St) (cs : List Int) (most : Int) (B : Nat) (w : World) (ht : IntS w B vt ts) (hl : StS w B vb l) (hc : IntS w B vc cs) (hB : B ≤ w.heap.size) (hsz : szL l ≤ 4194300) :
    Calls Tryz.prog 73 #[.agg #[vt, vb], vc, .int .i64 most] w (EndRet w (progX ts l cs most)) := by
  have HRO := Lib.hid (runOf_any vt vb vc ts l cs most B (w.alloc (.cells #[vt, vb] 31)) (ht.low (bel_a w _) hB) (hl.low (bel_a w _) hB) (hc.low (bel_a w _) hB) (by simp; omega) hsz)
  go_enter Tryz.func73, Tryz.ntmps73
  go_wp2_with (at_builtin; fail)
  refine HRO.out.mono ?_
  rintro e w1 ⟨hb, h1, h2⟩
  have HB := Lib.hid ((bel_a w (.cells #[vt, vb] 31)).trans (hb.mono (by simp)))
  cases hok : runOk ts l most
  · obtain ⟨gm, rfl, -⟩ := h2 hok
    have HP : Hid (progX ts l cs most = (5, 0)) := Lib.hid (by unfold progX; rw [hok]; rfl)
    clear h1 h2 hok hb
    go_wp2_with (at_builtin; fail)
    go_ret2
    exact ⟨by rw [HP.out]; rfl, HB.out⟩
  · obtain ⟨gm, gs, B', base, vg, vc', vl, rfl, -, -⟩ := h1 hok
    have HP : Hid (progX ts l cs most = (runX ts l cs most.toNat).2) := Lib.hid (by unfold progX; rw [hok]; rfl)
    clear h1 h2 hok hb
    go_wp2_with (at_builtin; fail)
    go_ret2
    exact ⟨by rw [HP.out]; rfl, HB.out⟩

end Go.Proofs.YtfioaohadanjmaaGreat

/- spec's machine: words of its state; append of slots; l7Code. -/
namespace Go.Proofs.YtfioaohadanjmaaGreat
open Go.RowKit Go.Lib

def codeV : Option Int → Int
  | none => 0
  | some e => e
theorem sl_one (l : List Sl) : ∀ u ∈ slCells l, u.oneCell' = true := by
  induction l with
  | nil => intro u h; cases h
  | cons x r ih =>
    intro u h
    simp only [slCells, List.mem_cons] at h
    rcases h with rfl | rfl | rfl | rfl | h
    · rfl
    · rfl
    · rfl
    · rfl
    · exact ih u h
theorem OSl.rd {w : World} {base : Nat} {v : Value} {l : List Sl} (h : OSl w base v l) : RdN w 4 v l.length (slCells l) := by
  obtain ⟨A, c, rfl, hc⟩ := h.slice
  refine ⟨A, c, rfl, slCells_len l, fun hn => ?_⟩
  obtain ⟨g, cap, e, hb, hlt⟩ := World.ownsRow.form h hn
  injection e with e1 _ e2
  subst e1 e2
  refine ⟨g, 0, rfl, fun j u hu => ?_⟩
  rw [Nat.zero_add]
  exact (World.ownsRow.cellAt h j (by rw [← slCells_len]; exact (List.getElem?_eq_some_iff.1 hu).1)).trans hu
/-- the state of spec's machine: an agg of three slices -/
structure SpS (w : World) (base : Nat) (vs vc vl : Value) (s : Ms) : Prop where
  sl : OSl w base vs s.sl
  ce : MeS w base vc s.ce
  rd : OInts w base vl s.rd
theorem SpS.bel {w w' : World} {base : Nat} {vs vc vl : Value} {s : Ms} (h : SpS w base vs vc vl s) (hb : Below w.heap.size w w') : SpS w' base vs vc vl s := ⟨h.sl.bel hb, h.ce.bel hb, h.rd.bel hb⟩
theorem OInts.baseLe {w : World} {base base' : Nat} {v : Value} {l : List Int} (h : OInts w base v l) (hb : base' ≤ base) : OInts w base' v l := by
  refine ⟨h.1, ?_⟩
  rcases h.2 with h' | ⟨g, cap, cur, rfl, hbg, rest⟩
  · exact .inl h'
  · exact .inr ⟨g, cap, cur, rfl, by omega, rest⟩
theorem SpS.base {w : World} {base base' : Nat} {vs vc vl : Value} {s : Ms} (h : SpS w base vs vc vl s) (hb : base' ≤ base) : SpS w base' vs vc vl s := ⟨h.sl.base hb, h.ce.base hb, h.rd.baseLe hb⟩
/-- what a function of spec's machine answers: a state (owned from base on), a code -/
def SpRet (w : World) (base : Nat) (r : Ms × Int) (e : Ending) (w' : World) : Prop :=
  ∃ vs vc vl, e = .returned (.tuple #[.agg #[vs, vc, vl], .int .i64 r.2]) ∧ SpS w' base vs vc vl r.1 ∧ Below w.heap.size w w'
theorem wpList_app_sls {ops : Array Oper} {rest : List Oper} {o : Oper} {a : Act} {Q : Exit → Act → World → Prop} {w : World} (hgd : o.guard = none) (s x : Operand) (ho : o.op = .call { callee := .builtin .append, args := #[s, x], argTypes := #[43, 43] })
    (base : Nat) (v : Value) (l : List Sl) (hs : a.eval s = v) (hP : OSl w base v l) (b2 : Nat) (vs : Value) (l2 : List Sl) (hx : a.eval x = vs) (hr : OSl w b2 vs l2) (hb : base ≤ w.heap.size) (hn : l.length + l2.length ≤ 4194304)
    (h : ∀ v' w', OSl w' base v' (l ++ l2) → w.grownBy w' v.ownBlock → (v'.ownBlock = v.ownBlock ∨ v'.ownBlock = some w.heap.size) → wpList Tryz.prog ops Q rest (a.put o.dst v') w') : wpList Tryz.prog ops Q (o :: rest) a w :=
  wpList_app_any Tryz.underlying43 Tryz.infoslCells rfl (by decide) (by decide) hgd s x ho base v l.length _ hs hP vs l2.length (slCells l2) hx hr.rd (sl_one l2) hb hn fun v' w' h1 h2 h3 => h v' w' (by unfold OSl; rw [List.length_append, slCells_append]; exact h1) h2 h3
set_option maxRecDepth 100000 in
theorem l7Code_any (c : Int) (w : World) : Calls Tryz.prog 82 #[.int .i64 c] w fun e w' => e = .returned (.int .i64 (codeV (endO c))) ∧ w = w' := by
  by_cases h : c = 1
  · have hq : (c == 1) = true := by simp [h]
    have HR : Hid (codeV (endO c) = 3) := Lib.hid (by subst h; rfl)
    clear h
    go_enter Tryz.func82, Tryz.ntmps82
    go_wp2_with (at_builtin; fail)
    go_ret
    exact ⟨by rw [HR.out]; rfl, rfl⟩
  · have hq : (c == 1) = false := by simpa using h
    by_cases h0 : c = 0
    · have hq0 : (c == 0) = true := by simp [h0]
      have HR : Hid (codeV (endO c) = 0) := Lib.hid (by subst h0; rfl)
      clear h h0
      go_enter Tryz.func82, Tryz.ntmps82
      go_wp2_with (at_builtin; fail)
      go_ret
      exact ⟨by rw [HR.out]; rfl, rfl⟩
    · have hq0 : (c == 0) = false := by simpa using h0
      have HR : Hid (codeV (endO c) = 4) := Lib.hid (by unfold endO endP; rw [if_neg h0]; show (if c = 1 then (3 : Int) else 4) = 4; exact if_neg h)
      clear h h0
      go_enter Tryz.func82, Tryz.ntmps82
      go_wp2_with (at_builtin; fail)
      go_ret
      exact ⟨by rw [HR.out]; rfl, rfl⟩

end Go.Proofs.YtfioaohadanjmaaGreat

/- spec.l7Clear. -/
namespace Go.Proofs.YtfioaohadanjmaaGreat
open Go.RowKit Go.Lib

theorem OSl.put {w : World} {base g n c : Nat} {l : List Sl} (h : OSl w base (.slice (some ⟨g, 0, none⟩) n c) l) (hn : n = l.length) {i : Nat} (hi : i < l.length) (y : Sl) :
    OSl (w.setCells g (i * 4) [.bool y.set, .int .i64 y.num, .int .i64 (y.pc : Nat), .int .i64 (y.pt : Nat)]) base (.slice (some ⟨g, 0, none⟩) n c) (l.set i y) := by
  subst hn
  unfold OSl at *
  rw [List.length_set, ← slCells_put hi]
  exact (World.ownsRow.stored (World.ownsRow.stored (World.ownsRow.stored (World.ownsRow.stored h (i * 4) (.bool y.set)).1 (i * 4 + 1) (.int .i64 y.num)).1 (i * 4 + 2) (.int .i64 (y.pc : Nat))).1 (i * 4 + 3) (.int .i64 (y.pt : Nat))).1
theorem OSl.at_ {w : World} {base n c : Nat} {A : Option Addr} {l : List Sl} (h : OSl w base (.slice A n c) l) {i : Nat} (hi : i < l.length) :
    ∃ g, A = some ⟨g, 0, none⟩ ∧ base ≤ g ∧ g < w.heap.size ∧ w.cell? ⟨g, i * 4, none⟩ = some (.bool l[i].set) ∧ w.cell? ⟨g, i * 4 + 1, none⟩ = some (.int .i64 l[i].num) ∧ w.cell? ⟨g, i * 4 + 2, none⟩ = some (.int .i64 (l[i].pc : Nat)) ∧ w.cell? ⟨g, i * 4 + 3, none⟩ = some (.int .i64 (l[i].pt : Nat)) ∧ ∀ j, w.frozen? ⟨g, j, none⟩ = false := by
  obtain ⟨g, cap, e, hb, hlt⟩ := World.ownsRow.form h (by omega)
  injection e with e1 e0 e2
  subst e1 e2 e0
  obtain ⟨a0, a1, a2, a3⟩ := slCells_at hi
  have hc := fun j (hj : j < l.length * 4) => World.ownsRow.cellAt h j hj
  exact ⟨g, rfl, hb, hlt, (hc _ (by omega)).trans a0, (hc _ (by omega)).trans a1, (hc _ (by omega)).trans a2, (hc _ (by omega)).trans a3, World.ownsRow.frozenAt h⟩
theorem set4 (w : World) (g o : Nat) (a b c d : Value) : (((w.setCell ⟨g, o, none⟩ a).setCell ⟨g, o + 1, none⟩ b).setCell ⟨g, o + 2, none⟩ c).setCell ⟨g, o + 3, none⟩ d = w.setCells g o [a, b, c, d] := rfl
theorem own_ge {w : World} {base : Nat} {e : TypeId} {size : Nat} {v : Value} {n : Nat} {xs : List Value} (h : w.ownsRow base e size v n xs) {b : Nat} (hb : v.ownBlock = some b) : base ≤ b := by
  rcases h.2 with ⟨rfl, _⟩ | ⟨g, cap, cur, rfl, hbg, _⟩
  · cases hb
  · simp only [Value.ownBlock, Option.some.injEq] at hb
    omega
def SpR1 (w : World) (base : Nat) (s : Ms) (e : Ending) (w' : World) : Prop :=
  ∃ vs vc vl, e = .returned (.agg #[vs, vc, vl]) ∧ SpS w' base vs vc vl s ∧ Below w.heap.size w w'
set_option maxHeartbeats 4000000 in
set_option maxRecDepth 100000 in
theorem l7Clear_any (vs vc vl : Value) (s : Ms) (base v : Nat) (w : World) (h : SpS w base vs vc vl s) (hb : base ≤ w.heap.size) (hv : v < s.sl.length) (hl : s.sl.length ≤ 1000) :
    Calls Tryz.prog 83 #[.agg #[vs, vc, vl], .int .i64 (v : Nat)] w (SpR1 w base ⟨s.sl.set v slD, s.ce, s.rd⟩) := by
  have H := Lib.hid h
  have HX := Lib.hid ((RowB.new w [vs, vc, vl] 57).alloc (.cells #[.slice none 0 0, .slice none 0 0, .slice none 0 0] 57))
  have HR := Lib.hid (RowB.new (w.alloc (.cells #[vs, vc, vl] 57)) [.slice none 0 0, .slice none 0 0, .slice none 0 0] 57)
  have hz1 : (w.alloc (.cells #[vs, vc, vl] 57)).heap.size = w.heap.size + 1 := by simp
  rw [hz1] at HR
  have HB0 := Lib.hid ((bel_a w (.cells #[vs, vc, vl] 57)).alloc (by simp) (.cells #[.slice none 0 0, .slice none 0 0, .slice none 0 0] 57))
  obtain ⟨As, cs, rfl, hcs⟩ := h.sl.slice
  obtain ⟨Ac, cc, rfl, hcc⟩ := h.ce.slice
  obtain ⟨Al, cl, rfl, hcl⟩ := h.rd.slice
  clear h hz1
  go_enter Tryz.func83, Tryz.ntmps83
  go_upto_region 1 with (at_builtin; fail)
  generalize (w.alloc (.cells #[.slice As s.sl.length cs, .slice Ac s.ce.length cc, .slice Al s.rd.length cl] 57)).alloc (.cells #[.slice none 0 0, .slice none 0 0, .slice none 0 0] 57) = W at *
  obtain ⟨bx, hbx⟩ : ∃ bx, bx = w.heap.size := ⟨_, rfl⟩
  rw [← hbx] at HX HR ⊢
  have hs0 := HB0.out.size
  have HBX := Lib.hid hbx
  clear hbx
  have hxl := HX.out.lt
  have x0 := HX.out.cell 0
  simp only [List.getElem?_cons_zero] at x0
  have H1 := Lib.hid (H.out.bel HB0.out)
  have HE := Lib.hid (OSl.empty W W.heap.size (Nat.le_refl _))
  have HSA := Lib.hid (H1.out.sl.bel (bel_a W (.cells #[] 79)))
  have hzz : W.heap.size ≤ (W.alloc (.cells #[] 79)).heap.size := by simp
  go_upto_region 2 with (at_builtin; go_must (refine wpList_app_sls rfl (.tmp 5) (.tmp 7) rfl W.heap.size _ [] rfl HE.out base _ s.sl rfl HSA.out hzz (by simp; omega) ?_); (intro v' w1 hP' hg' _); (have HB1 := Lib.hid ((bel_a W (.cells #[] 79)).trans ((Evo.grown (T := 79) (size := 4) HE.out hg').below hzz))); (rw [List.nil_append] at hP'); (have HP := Lib.hid hP'); (obtain ⟨A1, c1, rfl, hc1⟩ := hP'.slice); clear hP' hg'; (have HX1 := Lib.hid (HX.out.low HB1.out hxl)); (have f0 := HX1.out.frozen 0); (have y0 := HX1.out.cell 0); (simp only [List.getElem?_cons_zero] at y0))
  have HW2 : Hid (OSl (w1.setCell ⟨bx, 0, none⟩ (.slice A1 s.sl.length c1)) W.heap.size (.slice A1 s.sl.length c1) s.sl) := Lib.hid (own_same HP.out fun b hb => heap_setCell_other w1 ⟨bx, 0, none⟩ b _ (show b ≠ bx by have := own_ge (show w1.ownsRow W.heap.size 79 4 _ _ _ from HP.out) hb; omega))
  have HK := Lib.hid (KpT.set_ HX1.out 0 (.slice A1 s.sl.length c1))
  have HX2 := Lib.hid (HX1.out.set_ 0 (.slice A1 s.sl.length c1))
  have HCE := Lib.hid ((H1.out.ce.bel HB1.out).keepT HK.out (by decide) (by decide))
  have HRD := Lib.hid ((H1.out.rd.bel HB1.out).keepT HK.out (by decide))
  have HR2 : Hid (RowB (w1.setCell ⟨bx, 0, none⟩ (.slice A1 s.sl.length c1)) (bx + 1) 57 [.slice none 0 0, .slice none 0 0, .slice none 0 0]) := Lib.hid ((heap_setCell_other w1 ⟨bx, 0, none⟩ (bx + 1) _ (by show bx + 1 ≠ bx; omega)).trans (HR.out.low HB1.out HR.out.lt))
  have HB2 := Lib.hid ((HB0.out.trans (HB1.out.mono hs0)).setCell (p := ⟨bx, 0, none⟩) (by show w.heap.size ≤ bx; have := HBX.out; omega) (.slice A1 s.sl.length c1))
  have hWs := HB1.out.size
  have hWb : bx + 1 < W.heap.size := HR.out.lt
  generalize (w1.setCell ⟨bx, 0, none⟩ (.slice A1 s.sl.length c1)) = w2 at *
  obtain ⟨g1, rfl, hg1, hgl1, u0, u1, u2, u3, fz⟩ := HW2.out.at_ hv
  have e0 := fz (v * 4)
  have e1 := fz (v * 4 + 1)
  have e2 := fz (v * 4 + 2)
  have e3 := fz (v * 4 + 3)
  have y0 := HX2.out.cell 0
  have y1 := HX2.out.cell 1
  have y2 := HX2.out.cell 2
  simp only [List.set_cons_zero, List.getElem?_cons_zero, List.getElem?_cons_succ] at y0 y1 y2
  clear fz f0
  go_upto_region 3 with (at_builtin; fail)
  rw [set4]
  have HW3 : Hid (OSl (w2.setCells g1 (v * 4) [.bool false, .int .i64 0, .int .i64 0, .int .i64 0]) W.heap.size (.slice (some ⟨g1, 0, none⟩) s.sl.length c1) (s.sl.set v slD)) := Lib.hid (HW2.out.put rfl hv slD)
  have HNE : ∀ b, b ≠ g1 → (w2.setCells g1 (v * 4) [.bool false, .int .i64 0, .int .i64 0, .int .i64 0]).heap[b]? = w2.heap[b]? := fun b hb => heap_putL hb _ _ _
  have HX3 : Hid (RowB (w2.setCells g1 (v * 4) [.bool false, .int .i64 0, .int .i64 0, .int .i64 0]) bx 57 _) := Lib.hid ((HNE bx (by omega)).trans HX2.out)
  have HR3 : Hid (RowB (w2.setCells g1 (v * 4) [.bool false, .int .i64 0, .int .i64 0, .int .i64 0]) (bx + 1) 57 _) := Lib.hid ((HNE (bx + 1) (by omega)).trans HR2.out)
  have HB3 := Lib.hid (HB2.out.trans (below_putL (B := w.heap.size) (g := g1) (by have := HBX.out; omega) [.bool false, .int .i64 0, .int .i64 0, .int .i64 0] (v * 4) w2))
  obtain ⟨cur, hcur⟩ := own_heap HW2.out (b := g1) rfl
  have hrb : RowB w2 g1 79 cur.toList := by simpa [RowB] using hcur
  have hk3 := hrb.kptO (v * 4) [.bool false, .int .i64 0, .int .i64 0, .int .i64 0]
  have HCE3 := Lib.hid (HCE.out.keepT hk3 (by decide) (by decide))
  have HRD3 := Lib.hid (HRD.out.keepT hk3 (by decide))
  clear hrb hk3 hcur HNE
  generalize (w2.setCells g1 (v * 4) [.bool false, .int .i64 0, .int .i64 0, .int .i64 0]) = w3 at *
  have y0 := HX3.out.cell 0
  have y1 := HX3.out.cell 1
  have y2 := HX3.out.cell 2
  have r0 := HR3.out.cell 0
  have r1 := HR3.out.cell 1
  have r2 := HR3.out.cell 2
  have rf0 := HR3.out.frozen 0
  have rf1 := HR3.out.frozen 1
  have rf2 := HR3.out.frozen 2
  simp only [List.set_cons_zero, List.getElem?_cons_zero, List.getElem?_cons_succ] at y0 y1 y2 r0 r1 r2
  go_wp2_with (at_builtin; fail)
  have HR4 : Hid (RowB ((((w3.setCell ⟨bx + 1, 0, none⟩ (.slice (some ⟨g1, 0, none⟩) s.sl.length c1)).setCell ⟨bx + 1, 1, none⟩ (.slice Ac s.ce.length cc)).setCell ⟨bx + 1, 2, none⟩ (.slice Al s.rd.length cl))) (bx + 1) 57 [.slice (some ⟨g1, 0, none⟩) s.sl.length c1, .slice Ac s.ce.length cc, .slice Al s.rd.length cl]) := Lib.hid (HR3.out.putAll [.slice (some ⟨g1, 0, none⟩) s.sl.length c1, .slice Ac s.ce.length cc, .slice Al s.rd.length cl] rfl)
  refine bodyPost_ret (results_cell_row rfl _ _ (bx + 1) 57 _ (0, 0) _ rfl HR4.out Tryz.underlying57 rfl rfl) rfl ?_
  have HK4 := Lib.hid (HR3.out.kpt 0 [.slice (some ⟨g1, 0, none⟩) s.sl.length c1, .slice Ac s.ce.length cc, .slice Al s.rd.length cl])
  have HSL4 : Hid (OSl (w3.setCells (bx + 1) 0 [.slice (some ⟨g1, 0, none⟩) s.sl.length c1, .slice Ac s.ce.length cc, .slice Al s.rd.length cl]) W.heap.size (.slice (some ⟨g1, 0, none⟩) s.sl.length c1) (s.sl.set v slD)) := Lib.hid (own_same HW3.out fun b hb => heap_putL (show b ≠ bx + 1 by have := own_ge HW3.out hb; omega) _ _ _)
  have hbw : base ≤ W.heap.size := by have := HBX.out; omega
  exact ⟨_, _, _, rfl, ⟨HSL4.out.base hbw, HCE3.out.keepT HK4.out (by decide) (by decide), HRD3.out.keepT HK4.out (by decide)⟩, HB3.out.trans (below_putL (B := w.heap.size) (g := bx + 1) (by have := HBX.out; omega) [.slice (some ⟨g1, 0, none⟩) s.sl.length c1, .slice Ac s.ce.length cc, .slice Al s.rd.length cl] 0 w3)⟩

end Go.Proofs.YtfioaohadanjmaaGreat

/- Plain: points of the machine, kind by kind. No program in sight. -/
namespace Go.Proofs.YtfioaohadanjmaaGreat

theorem unsetP_no {ts : List Int} {s : Ms} {x : Pt} (h : ∀ v : Nat, v < ts.length → useP ts x.op x.x x.y (v : Nat) ≠ 0 → (slAt s.sl v).set = true) : unsetP ts s x = false := by
  unfold unsetP
  rw [List.any_eq_false]
  intro v hv
  rw [List.mem_range] at hv
  by_cases hu : useP ts x.op x.x x.y (v : Nat) = 0
  · simp [hu]
  · simp [h v hv hu]
theorem unsetP_yes {ts : List Int} {s : Ms} {x : Pt} {v : Nat} (hv : v < ts.length) (hu : useP ts x.op x.x x.y (v : Nat) ≠ 0) (hs : (slAt s.sl v).set = false) : unsetP ts s x = true := by
  unfold unsetP
  rw [List.any_eq_true]
  exact ⟨v, List.mem_range.2 hv, by simp [hu, hs]⟩
/-- a used variable has no value, by the kind of the point -/
def unP (s : Ms) (x : Pt) : Bool :=
  if 3 ≤ x.op ∧ x.op ≤ 6 then !(slAt s.sl x.y.toNat).set else
  if x.op = 7 then (!(slAt s.sl x.x.toNat).set || !(slAt s.sl x.y.toNat).set) else
  if x.op = 8 then !(slAt s.sl x.x.toNat).set else false
theorem useP_y {ts : List Int} {op x y v : Int} (ho : 3 ≤ op ∧ op ≤ 6) : useP ts op x y v ≠ 0 ↔ v = y := by
  have : op = 3 ∨ op = 4 ∨ op = 5 ∨ op = 6 := by omega
  unfold useP
  rcases this with rfl | rfl | rfl | rfl
  · simp only [if_true]
    by_cases h : v = y
    · simp only [if_pos h]; constructor
      · intro _; exact h
      · intro _; split <;> decide
    · simp [h]
  · by_cases h : v = y <;> simp [h]
  · by_cases h : v = y <;> simp [h]
  · by_cases h : v = y <;> simp [h]
theorem useP_7 {ts : List Int} {x y v : Int} : useP ts 7 x y v ≠ 0 ↔ v = x ∨ v = y := by
  unfold useP
  rw [if_neg (by decide), if_neg (by decide), if_pos rfl]
  by_cases h : v = x
  · rw [if_pos h]
    exact ⟨fun _ => .inl h, fun _ => by decide⟩
  · rw [if_neg h]
    by_cases h2 : v = y
    · rw [if_pos h2]
      exact ⟨fun _ => .inr h2, fun _ => by decide⟩
    · rw [if_neg h2]
      exact ⟨fun h3 => absurd rfl h3, fun h3 => (h3.elim h h2).elim⟩
theorem useP_8 {ts : List Int} {x y v : Int} : useP ts 8 x y v ≠ 0 ↔ v = x := by
  unfold useP
  by_cases h : v = x <;> simp [h]
theorem useP_0 {ts : List Int} {op x y v : Int} (h : ¬ (3 ≤ op ∧ op ≤ 8)) : useP ts op x y v = 0 := by
  unfold useP
  rw [if_neg (by omega), if_neg (by omega), if_neg (by omega), if_neg (by omega)]
theorem unsetP_eq {ts : List Int} {s : Ms} {x : Pt} (hx : 1 ≤ x.op ∧ x.op ≤ 8 → ∃ v : Nat, x.x = v ∧ v < ts.length) (hy : 3 ≤ x.op ∧ x.op ≤ 7 → ∃ v : Nat, x.y = v ∧ v < ts.length) : unsetP ts s x = unP s x := by
  unfold unP
  by_cases h1 : 3 ≤ x.op ∧ x.op ≤ 6
  · obtain ⟨v, hv, hl⟩ := hy (by omega)
    rw [if_pos h1, hv, Int.toNat_natCast]
    cases hs : (slAt s.sl v).set
    · exact unsetP_yes hl ((useP_y h1).2 hv.symm) hs
    · refine unsetP_no fun u _ hu => ?_
      have := (useP_y h1).1 hu
      rw [hv] at this
      rwa [show u = v by omega]
  rw [if_neg h1]
  by_cases h7 : x.op = 7
  · obtain ⟨v, hv, hl⟩ := hy (by omega)
    obtain ⟨u, hu, hlu⟩ := hx (by omega)
    rw [if_pos h7, hv, hu, Int.toNat_natCast, Int.toNat_natCast]
    cases hs : (slAt s.sl u).set
    · exact unsetP_yes hlu (by rw [h7]; exact useP_7.2 (.inl hu.symm)) hs
    · cases hs2 : (slAt s.sl v).set
      · exact unsetP_yes hl (by rw [h7]; exact useP_7.2 (.inr hv.symm)) hs2
      · refine unsetP_no fun k _ hk => ?_
        rw [h7] at hk
        rcases useP_7.1 hk with e | e
        · rw [hu] at e; rwa [show k = u by omega]
        · rw [hv] at e; rwa [show k = v by omega]
  rw [if_neg h7]
  by_cases h8 : x.op = 8
  · obtain ⟨u, hu, hlu⟩ := hx (by omega)
    rw [if_pos h8, hu, Int.toNat_natCast]
    cases hs : (slAt s.sl u).set
    · exact unsetP_yes hlu (by rw [h8]; exact useP_8.2 hu.symm) hs
    · refine unsetP_no fun k _ hk => ?_
      rw [h8] at hk
      have e := useP_8.1 hk
      rw [hu] at e; rwa [show k = u by omega]
  rw [if_neg h8]
  exact unsetP_no fun v _ hv => absurd (useP_0 (by omega)) hv
theorem doP_un {ts : List Int} {s : Ms} {x : Pt} (h : unsetP ts s x = true) : doP ts s x = (s, some 2) := by unfold doP; rw [if_pos h]
theorem doP_1 {ts : List Int} {s : Ms} {x : Pt} (hu : unsetP ts s x = false) (h : x.op = 1) : doP ts s x = putP ts s x.x.toNat ⟨true, x.n, 0, 0⟩ := by
  unfold doP; rw [if_neg (by rw [hu]; decide), if_pos h]
theorem doP_2 {ts : List Int} {s : Ms} {x : Pt} (hu : unsetP ts s x = false) (h : x.op = 2) (hn : newOk s.ce x.n = true) : doP ts s x = putP ts ⟨s.sl, s.ce ++ [newC x.n], s.rd⟩ x.x.toNat ⟨true, 0, s.ce.length, 0⟩ := by
  unfold doP; rw [if_neg (by rw [hu]; decide), if_neg (by omega), if_pos h, if_pos hn]
theorem doP_2n {ts : List Int} {s : Ms} {x : Pt} (hu : unsetP ts s x = false) (h : x.op = 2) (hn : newOk s.ce x.n = false) : doP ts s x = (s, some 1) := by
  unfold doP; rw [if_neg (by rw [hu]; decide), if_neg (by omega), if_pos h, if_neg (by rw [hn]; decide)]
theorem doP_3 {ts : List Int} {s : Ms} {x : Pt} (hu : unsetP ts s x = false) (h : x.op = 3) : doP ts s x = putP ts ⟨if takesP ts x.y = true then s.sl.set x.y.toNat slD else s.sl, s.ce, s.rd⟩ x.x.toNat (slAt s.sl x.y.toNat) := by
  unfold doP; rw [if_neg (by rw [hu]; decide), if_neg (by omega), if_neg (by omega), if_pos h]
theorem doP_45 {ts : List Int} {s : Ms} {x : Pt} {m : List Cl} {p : Nat × Nat} (hu : unsetP ts s x = false) (h : x.op = 4 ∨ x.op = 5) (hl : lendP s.ce (slAt s.sl x.y.toNat).pc (slAt s.sl x.y.toNat).pt (x.op == 5) = (m, p, 0)) :
    doP ts s x = putP ts ⟨s.sl, m, s.rd⟩ x.x.toNat ⟨true, 0, p.1, p.2⟩ := by
  unfold doP
  rw [if_neg (by rw [hu]; decide), if_neg (by omega), if_neg (by omega), if_neg (by omega), if_pos h, hl]
  exact if_neg (by simp)
theorem doP_45n {ts : List Int} {s : Ms} {x : Pt} {m : List Cl} {p : Nat × Nat} {code : Int} (hu : unsetP ts s x = false) (h : x.op = 4 ∨ x.op = 5) (hl : lendP s.ce (slAt s.sl x.y.toNat).pc (slAt s.sl x.y.toNat).pt (x.op == 5) = (m, p, code)) (hc : code ≠ 0) :
    doP ts s x = (⟨s.sl, m, s.rd⟩, some (endP code)) := by
  have hm := lendP_no (m := s.ce) (pc := (slAt s.sl x.y.toNat).pc) (pt := (slAt s.sl x.y.toNat).pt) (un := x.op == 5) (by rw [hl]; exact hc)
  rw [hl] at hm
  have hm : m = s.ce := hm
  unfold doP
  rw [if_neg (by rw [hu]; decide), if_neg (by omega), if_neg (by omega), if_neg (by omega), if_pos h, hl, hm]
  exact if_pos hc
theorem doP_6 {ts : List Int} {s : Ms} {x : Pt} {m : List Cl} {n : Int} (hu : unsetP ts s x = false) (h : x.op = 6) (hl : readP s.ce (slAt s.sl x.y.toNat).pc (slAt s.sl x.y.toNat).pt = (m, n, 0)) :
    doP ts s x = putP ts ⟨s.sl, m, s.rd ++ [n]⟩ x.x.toNat ⟨true, n, 0, 0⟩ := by
  unfold doP
  rw [if_neg (by rw [hu]; decide), if_neg (by omega), if_neg (by omega), if_neg (by omega), if_neg (by omega), if_pos h, hl]
  exact if_neg (by simp)
theorem doP_6n {ts : List Int} {s : Ms} {x : Pt} {m : List Cl} {n code : Int} (hu : unsetP ts s x = false) (h : x.op = 6) (hl : readP s.ce (slAt s.sl x.y.toNat).pc (slAt s.sl x.y.toNat).pt = (m, n, code)) (hc : code ≠ 0) :
    doP ts s x = (⟨s.sl, m, s.rd⟩, some (endP code)) := by
  have hm := readP_fail (m := s.ce) (pc := (slAt s.sl x.y.toNat).pc) (pt := (slAt s.sl x.y.toNat).pt) (by rw [hl]; exact hc)
  rw [hl] at hm
  have hm : m = s.ce := hm
  unfold doP
  rw [if_neg (by rw [hu]; decide), if_neg (by omega), if_neg (by omega), if_neg (by omega), if_neg (by omega), if_pos h, hl, hm]
  exact if_pos hc
theorem doP_7 {ts : List Int} {s : Ms} {x : Pt} {m : List Cl} {code : Int} (hu : unsetP ts s x = false) (h : x.op = 7) (hl : writeP s.ce (slAt s.sl x.x.toNat).pc (slAt s.sl x.x.toNat).pt (slAt s.sl x.y.toNat).num = (m, code)) :
    doP ts s x = (⟨s.sl, m, s.rd⟩, endO code) := by
  unfold doP
  rw [if_neg (by rw [hu]; decide), if_neg (by omega), if_neg (by omega), if_neg (by omega), if_neg (by omega), if_neg (by omega), if_pos h, hl]
theorem doP_8 {ts : List Int} {s : Ms} {x : Pt} {m : List Cl} {code : Int} (hu : unsetP ts s x = false) (h : x.op = 8) (hl : freeP s.ce (slAt s.sl x.x.toNat).pc (slAt s.sl x.x.toNat).pt = (m, code)) :
    doP ts s x = (⟨s.sl.set x.x.toNat slD, m, s.rd⟩, endO code) := by
  unfold doP
  rw [if_neg (by rw [hu]; decide), if_neg (by omega), if_neg (by omega), if_neg (by omega), if_neg (by omega), if_neg (by omega), if_neg (by omega), if_pos h, hl]
theorem doP_0 {ts : List Int} {s : Ms} {x : Pt} (hu : unsetP ts s x = false) (h : ¬ (1 ≤ x.op ∧ x.op ≤ 8)) (he : x.op ≠ 11) : doP ts s x = (s, none) := by
  unfold doP
  rw [if_neg (by rw [hu]; decide), if_neg (by omega), if_neg (by omega), if_neg (by omega), if_neg (by omega), if_neg (by omega), if_neg (by omega), if_neg (by omega), if_neg he]
end Go.Proofs.YtfioaohadanjmaaGreat
