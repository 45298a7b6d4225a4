import Derived.Test.YtfioaohadanjmaaC32
import Derived.Test.YtfioaohadanjmaaC26
import Derived.StillTailTactics
set_option linter.unusedVariables false

/- spec.LiveLoans. -/
namespace Go.Proofs.Ytfioaohadanjmaa
open Go.RowKit

theorem belC2 {B : Nat} {w w' : World} {b o : Nat} {x : Option Value} (h : Below B w w') (e : w.cell? ⟨b, o, none⟩ = x) (hb : b < B) : w'.cell? ⟨b, o, none⟩ = x := (h.cell (p := ⟨b, o, none⟩) hb).trans e
end Go.Proofs.Ytfioaohadanjmaa

/- spec.l3Forward. -/
namespace Go.Proofs.Ytfioaohadanjmaa
open Go.RowKit

/-- make([][]bool, n) -/
theorem make_rows (n : Nat) (hn : n ≤ 100000) (W : World) : (Instr.makeSlice 57 (.int .i64 (n : Int)) (.int .i64 (n : Int))).run Try.prog W = .ok (.slice (some ⟨W.heap.size, 0, none⟩) n n) (W.alloc (.cells (List.replicate n (Value.slice none 0 0)).toArray 59)) := by
  obtain ⟨i0, hi0, hz0, hz1, hz2⟩ := info_parts Try.infoBs
  have h := run_make (P := Try.prog) W 57 59 i0 _ Try.underlying57 hi0 hz0 .i64 .i64 (n : Int) (n : Int) (by omega) (by omega) (by rw [hz2]; omega) (by omega)
  simp only [Int.toNat_natCast] at h
  rw [h]
  have e : madeCells (Value.cells (.slice none 0 0)) (n * i0.size) = (List.replicate n (Value.slice none 0 0)).toArray := by
    have := toList_madeCells_one (.slice none 0 0) (n * i0.size)
    rw [hz1, Nat.mul_one] at this ⊢
    apply Array.toList_inj.1
    show (madeCells #[.slice none 0 0] n).toList = _
    rw [this]
  rw [e]

/-- what spec.l3Forward answers -/
def FdRet (w : World) (ts : List Int) (pts : List Pt) (ev : Bool) (e : Ending) (w' : World) : Prop :=
  ∃ G S vs rows seen vq, e = .returned (.slice (some ⟨G, 0, none⟩) pts.length pts.length) ∧ w.heap.size ≤ G ∧ FQ w' G S rows seen vs vq [] ∧ rows.length = pts.length ∧
    (∀ i, i < pts.length → (rows.getD i []).length = ts.length ∧ ∀ v, v < ts.length → rget rows i v = (dec (Ac ev ts pts 0 i v) != ev)) ∧ Below w.heap.size w w'

set_option maxHeartbeats 8000000
set_option maxRecDepth 100000
theorem l3Forward_any (vt vb : Value) (ev : Bool) (ts : List Int) (l : List St) (B : Nat) (w : World) (ht : IntS w B vt ts) (hl : StS w B vb l) (hB : B ≤ w.heap.size) (hv : validP ts l = true) :
    Calls Try.prog 41 #[.agg #[vt, vb], .bool ev] w (FdRet w ts (ptsP l) ev) := by
  have G := Good.of_valid hv
  have hsz : szL l ≤ 4194300 := by have := (valid_parts hv).2.2; omega
  have h6 := G.h6
  have hlen := G.len
  have HG := Lib.hid G
  have HRC : Hid (∀ k, k < (ptsP l).length → Rch (ptsP l) k) := Lib.hid fun k hk => ptsP_rch l hk
  clear G hv
  have ht0 := ht
  obtain ⟨At, ct, rfl, hct, -, -⟩ := ht0
  go_enter Try.func41, Try.ntmps41
  go_wp2_with fail
  refine (l2Points_any _ vb l B _ (hl.low (bel_a _ _) hB) (by simp; omega) hsz).mono ?_
  rintro e w1 ⟨vp, rfl, hps, hb1⟩
  have hs1 : w.heap.size < w1.heap.size := by have := hb1.size; simp at this; omega
  have c0 : w1.cell? ⟨w.heap.size, 0, none⟩ = some (.slice At ts.length ct) := box_kept hb1 (by simp) 0
  have HT1 := Lib.hid ((ht.low (bel_a w _) hB).low hb1 (by simp; omega))
  have HB1 := Lib.hid ((bel_a w _).trans (hb1.mono (by simp)))
  have HPS := Lib.hid hps
  obtain ⟨Ap, cp, rfl, hcp, -⟩ := hps.slice
  have hpos := HG.out.pos
  generalize hpts : ptsP l = pts at *
  clear hpts hps hb1 ht hl
  have hmk := make_bools ts.length (by omega)
  have hmk2 := make_bools pts.length (by omega)
  have hmk3 := make_rows pts.length (by omega)
  have hpi : (0 : Int) < (pts.length : Int) := by omega
  obtain ⟨m, hm⟩ : ∃ m, pts.length = m + 1 := ⟨pts.length - 1, by omega⟩
  have er : ∀ {α : Type} (x : α), List.replicate pts.length x = x :: List.replicate m x := fun x => by rw [hm]; rfl
  obtain ⟨vs0, hvs0⟩ : ∃ vs0, vs0 = List.replicate m (Value.slice none 0 0) := ⟨_, rfl⟩
  obtain ⟨sn0, hsn0⟩ : ∃ sn0, sn0 = bv (List.replicate m false) := ⟨_, rfl⟩
  obtain ⟨rw0, hrw0⟩ : ∃ rw0, rw0 = List.replicate ts.length false := ⟨_, rfl⟩
  rw [er, ← hvs0] at hmk3
  rw [er, show bv (false :: List.replicate m false) = .bool false :: bv (List.replicate m false) from rfl, ← hsn0] at hmk2
  rw [← hrw0] at hmk
  have HV := Lib.hid hvs0
  have HS := Lib.hid hsn0
  have HR := Lib.hid hrw0
  have HM := Lib.hid hm
  clear hvs0 hsn0 hrw0 er hm
  go_wp2_with fail
  have HF0 := Lib.hid (FQ.first w1 m ts.length rw0 (by rw [HR.out]; simp) (by omega))
  rw [← HV.out, ← HS.out] at HF0
  have HW0 := Lib.hid (WkO.first ev ts pts m HM.out)
  rw [← HR.out] at HW0
  have HMU := Lib.hid (muW_le ev ts.length pts.length (rw0 :: List.replicate m []) (true :: List.replicate m false))
  have hmm : pts.length * (ts.length + 1) ≤ 427 := Nat.le_trans (Nat.mul_le_mul hlen (show ts.length + 1 ≤ 7 by omega)) (by omega)
  have HBI : Hid (∀ o1 o2 o3 o4 : Obj, Below w1.heap.size w1 ((((w1.alloc o1).alloc o2).alloc o3).alloc o4)) := Lib.hid fun o1 o2 o3 o4 => (((bel_a w1 o1).trans ((bel_a _ o2).mono (by simp))).trans ((bel_a _ o3).mono (by simp; omega))).trans ((bel_a _ o4).mono (by simp; omega))
  clear HV HS HR HM hmk hmk2 hmk3
  go_loopg [8] 1000 (fun gk v wr => ∃ rows seen vs q, FQ wr w1.heap.size (w1.heap.size + 1) rows seen vs v q ∧ WkO ev ts pts rows seen q ∧ 2 * muW ev ts.length pts.length rows seen + q.length < gk ∧ muW ev ts.length pts.length rows seen + q.length ≤ 1000 ∧ Below w1.heap.size w1 wr)
  case atStart => exact ⟨_, _, _, _, HF0.out, HW0.out, by have := HMU.out; simp only [List.length_cons, List.length_nil]; omega, by have := HMU.out; simp only [List.length_cons, List.length_nil]; omega, HBI.out _ _ _ _⟩
  case round =>
    obtain ⟨rows, seen, vs, q, hfq, hwk, hmu, hmu2, hbw⟩ := hrel
    have HFQ := Lib.hid hfq
    have HWK := Lib.hid hwk
    have HMU1 := Lib.hid hmu
    have HMU2 := Lib.hid hmu2
    have HBW := Lib.hid hbw
    have hsr := hbw.size
    clear hwk hmu hmu2 hbw
    cases q with
    | nil =>
      obtain ⟨g, off, cap, cur, rfl, -⟩ := hfq.que
      clear hfq
      simp only [List.length_nil]
      go_wp2_with (at_builtin; fail)
      go_ret
      exact ⟨_, _, _, _, _, _, rfl, by omega, HFQ.out, HWK.out.i.len, fun i hi => HWK.out.done hpos HG.out.next HRC.out hi, HB1.out.trans (HBW.out.mono (by omega))⟩
    | cons k q =>
      obtain ⟨g, off, c, rfl, hqc, hgl, hhd, hpop⟩ := hfq.que.head
      have HPOP := Lib.hid hpop
      have hk := (HWK.out.i.qs k (by simp)).1
      have HWN := Lib.hid HWK.out.pop
      clear hfq hpop
      obtain ⟨bp, op, cp', nv, e, hbp, hcp', hlp, hnx, p0, p1, p2, p3, p4⟩ := HPS.out.get hk
      injection e with e1 _ e2
      subst e1 e2
      obtain ⟨An, cn, rfl, hcn, hln, hrn⟩ := hnx
      have HNI : Hid (IntS w1 w1.heap.size (.slice An pts[k].next.length cn) (pts[k].next.map fun j => ((j : Nat) : Int))) := Lib.hid ⟨An, cn, by simp, by simpa using hcn, by simpa using hln, hrn⟩
      simp only [List.length_map] at hcn hln p4
      have HPG : Hid (pts[k]? = some pts[k]) := Lib.hid (List.getElem?_eq_getElem hk)
      have HNX := Lib.hid (HG.out.next _ (List.getElem_mem hk))
      have hn2 := HG.out.next2 _ (List.getElem_mem hk)
      have hsk := (HG.out.ok _ (List.getElem_mem hk)).sets
      generalize hP : pts[k] = P at *
      have HP := Lib.hid hP
      have HP4 := Lib.hid p4
      have hrl : rows.length = pts.length := HWK.out.i.len
      have hlk : (rows.getD k []).length = ts.length := HWK.out.i.row k hk (HWK.out.i.qs k (by simp)).2
      obtain ⟨Ak, ck, evk, hck⟩ := (HFQ.out.row k (by omega)).slice
      have g0 : wr.cell? ⟨w1.heap.size, k, none⟩ = some (.slice Ak ts.length ck) := by
        rw [HFQ.out.out.cell k, ← hlk, ← evk, getD_lt (by rw [HFQ.out.vl]; omega)]
        exact List.getElem?_eq_getElem _
      have HRK : Hid (BoolS wr wr.heap.size (.slice Ak ts.length ck) (rows.getD k [])) := Lib.hid (by
        have := (HFQ.out.row k (by omega)).toS (by omega)
        rw [evk, hlk] at this
        exact this)
      have q0 := (HBW.out.cell (p := ⟨bp, op + k * 5, none⟩) hbp).trans p0
      have q1 := (HBW.out.cell (p := ⟨bp, op + k * 5 + 1, none⟩) hbp).trans p1
      have q2 := (HBW.out.cell (p := ⟨bp, op + k * 5 + 2, none⟩) hbp).trans p2
      have q3 := (HBW.out.cell (p := ⟨bp, op + k * 5 + 3, none⟩) hbp).trans p3
      have q4 := (HBW.out.cell (p := ⟨bp, op + k * 5 + 4, none⟩) hbp).trans p4
      have d0 := (HBW.out.cell (p := ⟨w.heap.size, 0, none⟩) hs1).trans c0
      have HLK := Lib.hid hlk
      have HRL := Lib.hid hrl
      clear evk hlk hrl p0 p1 p2 p3 p4 hrn hP
      rcases Nat.eq_zero_or_pos c with hc0 | hc0
      · subst hc0
        go_wp2_with (at_builtin; fail)
        have HQ : Hid (Qu wr (w1.heap.size + 1 + 1) (Value.slice (some ⟨g, off, none⟩) 0 0) q) := Lib.hid (by
          have := HPOP.out off (by simp)
          rwa [show q.length = 0 by omega] at this)
        generalize Value.slice (some ⟨g, off, none⟩) 0 0 = vq at *
        clear HPOP hqc
        have HF2 := Lib.hid (FQ.mk HFQ.out.lt HFQ.out.out HFQ.out.vl HFQ.out.row HFQ.out.sn HQ.out)
        go_still_tail 10, (by kernel_rfl)
        change wpList _ _ _ _ _ wr.drew
        have hbd := (Below.refl wr.heap.size wr).drew
        have hsd := hbd.size
        generalize wr.drew = w2 at *
        go_wp2_with (at_builtin; fail)
        refine (l3After_any _ _ _ ts (rows.getD k []) P B wr.heap.size w2 (HT1.out.low (HBW.out.trans (hbd.mono hsr)) (by omega)) (HRK.out.low hbd (Nat.le_refl _)) (by omega) hsd HLK.out (by omega) hsk).mono ?_
        rintro e w3 ⟨vaf, af, rfl, hoa, hal, hag, hb3⟩
        have hsS := HFQ.out.sn.lt
        have HBD := Lib.hid (hbd.trans (hb3.mono hsd))
        have HAF := Lib.hid (OBools.base (base' := w1.heap.size + 1 + 1) hoa (by omega))
        have HALL : Hid (af.length = ts.length) := Lib.hid (by rw [hal]; exact HLK.out)
        have HAG : Hid (∀ u, u < ts.length → af.getD u false = vlB ts P ((rows.getD k []).getD u false) u) := Lib.hid fun u hu => hag u (by rw [HLK.out]; exact hu)
        have hs3 := HBD.out.size
        have HB3 := Lib.hid (HBW.out.trans (HBD.out.mono hsr))
        have HF3 := Lib.hid (HF2.out.bel HBD.out)
        obtain ⟨Aa, ca, rfl, hca⟩ := hoa.slice
        have hal1 : af.length ≤ ts.length := by have := HALL.out; omega
        have hal2 : ts.length ≤ af.length := by have := HALL.out; omega
        clear hoa hal hag hb3 hbd q0 q1 q2 q3 q4 g0 d0 hsd
        generalize hnxt : P.next = nx at *
        have HNXT := Lib.hid hnxt
        clear hnxt
        obtain ⟨wo2, rfl⟩ : ∃ wo2 : World, wo2 = wr := ⟨_, rfl⟩
        go_wp2_with (at_builtin; fail)
        go_loopw [8, 11] (fun v i wy => ∃ (j : Nat) (rs : List (List Bool)) (sn : List Bool) (vs2 : List Value) (q2 : List Nat), i = .int .i64 j ∧ j ≤ nx.length ∧ FQ wy w1.heap.size (w1.heap.size + 1) rs sn vs2 v q2 ∧ WkN ev ts pts k (rows.getD k []) j rs sn q2 ∧ 2 * muW ev ts.length pts.length rs sn + q2.length ≤ 2 * muW ev ts.length pts.length rows seen + q.length ∧ muW ev ts.length pts.length rs sn + q2.length ≤ 1000 ∧ OBools wy (w1.heap.size + 1 + 1) (.slice Aa af.length ca) af ∧ Below w1.heap.size w1 wy) (fun _ i _ => nx.length - (intOf i).toNat)
        case atStart => exact ⟨0, rows, seen, vs, q, rfl, Nat.zero_le _, HF3.out, HWN.out, Nat.le_refl _, by have := HMU2.out; simp only [List.length_cons] at this; omega, HAF.out, HB3.out⟩
        case round =>
          obtain ⟨j, rs, sn, vs2, q2, rfl, hj, hfq, hwn, hm1, hm2, hoa, hby⟩ := hrel
          have HFY := Lib.hid hfq
          have HWY := Lib.hid hwn
          have HM1 := Lib.hid hm1
          have HM2 := Lib.hid hm2
          have HOY := Lib.hid hoa
          have HBY := Lib.hid hby
          have hsy := hby.size
          have q4 := (hby.cell (p := ⟨bp, op + k * 5 + 4, none⟩) hbp).trans HP4.out
          clear hwn hm1 hm2 hoa hby
          by_cases hjl : j < nx.length
          · obtain ⟨An', cn', en, _, _, hrd⟩ := HNI.out.low HBY.out (Nat.le_refl _)
            simp only [List.length_map] at en
            injection en with e1 e9 e2
            subst e1 e2
            clear e9
            obtain ⟨bn, on, rfl, hbn, hcn2⟩ := hrd.int_at (k := j) (by simpa using hjl)
            have hcj := hcn2 j (by simpa using hjl)
            rw [getD_lt (by simpa using hjl), List.getElem_map] at hcj
            have hnl : nx[j] < pts.length := HNX.out _ (List.getElem_mem hjl)
            have HNJ : Hid (P.next[j]? = some nx[j]) := Lib.hid (by rw [HNXT.out]; exact List.getElem?_eq_getElem hjl)
            generalize nx[j] = n at *
            clear hcn2 hrd
            have hnr : n < rs.length := by rw [HWY.out.i.len]; exact hnl
            have hns : n < sn.length := by rw [HWY.out.i.slen]; exact hnl
            obtain ⟨Ao, co, evo, hco⟩ := (hfq.row n hnr).slice
            have HOLD : Hid (sn.getD n false = true → (rs.getD n []).length = ts.length) := Lib.hid fun h => HWY.out.i.row n hnl h
            have hol : (rs.getD n []).length ≤ ts.length := by
              by_cases h : seenAt sn n
              · rw [HWY.out.i.row n hnl h]; exact Nat.le_refl _
              · rw [HWY.out.i.nrow n hnl h]; simp
            have HEVO := Lib.hid evo
            have g1 := hfq.cellG hnr evo
            have HOB := Lib.hid (hfq.old hnr (by omega) evo)
            have HAB := Lib.hid (HOY.out.toS (by omega))
            have HGO := Lib.hid (HWY.out.go (aft := af) HPG.out HNJ.out hnl HALL.out HAG.out)
            have HSTAY := Lib.hid (fun h1 h2 => HWY.out.stay (aft := af) HPG.out HNJ.out hnl HALL.out HAG.out h1 h2)
            have HLESS := Lib.hid (fun h => HWY.out.i.less (aft := af) hnl HALL.out h)
            have HJL := Lib.hid (join_len ev (rs.getD n []) af)
            have HRS : Hid (rs.getD n [] = rs.getD n []) := Lib.hid rfl
            clear evo hfq
            have hnr1 : ((n : Nat) : Int) < (pts.length : Int) := by omega
            generalize hold : rs.getD n [] = old at *
            have HOLE := Lib.hid hold
            clear hold HRS
            obtain ⟨wo3, rfl⟩ : ∃ wo3 : World, wo3 = wr := ⟨_, rfl⟩
            go_wp2_with (at_builtin; fail)
            refine (l3Join_any _ _ ev old af _ _ HOB.out HAB.out (Nat.le_refl _) (by omega) (by omega)).mono ?_
            rintro e w4 ⟨vj, rfl, hoj, hb4⟩
            have HB4 := Lib.hid (HBY.out.trans (hb4.mono hsy))
            have HF4 := Lib.hid (HFY.out.bel hb4)
            have hsY := HFY.out.sn.lt
            have HJ4 := Lib.hid (OBools.base (base' := w1.heap.size + 1 + 1) hoj (by omega))
            have HO4 := Lib.hid (HOY.out.bel hb4)
            have HOB4 := Lib.hid (HOB.out.low hb4 (Nat.le_refl _))
            obtain ⟨Aj, cj, rfl, hcj2⟩ := hoj.slice
            have hs4 := HF4.out.cellS hns
            have fs4 := HF4.out.sn.frozen n
            have g4 := HF4.out.cellG hnr HEVO.out
            have fg4 := HF4.out.out.frozen n
            have hnss : ((n : Nat) : Int) < (pts.length : Int) := hnr1
            have h4sz := hb4.size
            clear hoj hb4 g1 hcj
            generalize hjn : joinP ev old af = jn at *
            have HJN := Lib.hid hjn
            clear hjn
            have hjl2 : jn.length ≤ ts.length := by rw [HJL.out]; omega
            have HEND : Hid (∀ (W : World) (vW : Value), FQ W w1.heap.size (w1.heap.size + 1) (rs.set n jn) (sn.set n true) (vs2.set n (.slice Aj jn.length cj)) vW (q2 ++ [n]) → OBools W (w1.heap.size + 1 + 1) (.slice Aa af.length ca) af → Below w1.heap.size w1 W → muW ev ts.length pts.length (rs.set n jn) (sn.set n true) < muW ev ts.length pts.length rs sn →
                (∃ (j_1 : Nat) (rs : List (List Bool)) (sn : List Bool) (vs2 : List Value) (q2 : List Nat), Value.int IntKind.i64 ((j : Int) + 1) = .int .i64 j_1 ∧ j_1 ≤ nx.length ∧ FQ W w1.heap.size (w1.heap.size + 1) rs sn vs2 vW q2 ∧ WkN ev ts pts k (rows.getD k []) j_1 rs sn q2 ∧ 2 * muW ev ts.length pts.length rs sn + q2.length ≤ 2 * muW ev ts.length pts.length rows seen + q.length ∧ muW ev ts.length pts.length rs sn + q2.length ≤ 1000 ∧ OBools W (w1.heap.size + 1 + 1) (.slice Aa af.length ca) af ∧ Below w1.heap.size w1 W)) := Lib.hid fun W vW h1 h2 h3 h4 => ⟨j + 1, rs.set n jn, sn.set n true, _, q2 ++ [n], by go_num, by omega, h1, HGO.out, by have := HM1.out; simp only [List.length_append, List.length_cons, List.length_nil]; omega, by have := HM2.out; simp only [List.length_append, List.length_cons, List.length_nil]; omega, h2, h3⟩
            have hm2 := HM2.out
            cases hsb : sn.getD n false
            · rw [hsb] at hs4
              have HLT := Lib.hid (HLESS.out (.inl (by unfold seenAt; rw [hsb]; simp)))
              clear hsb
              have HFU := Lib.hid ((HF4.out.see n).put (v := .slice Aj jn.length cj) hnr (HJ4.out.other (by omega) _ _))
              have HOU := Lib.hid ((HO4.out.other (g := w1.heap.size + 1) (by omega) n (.bool true)).other (g := w1.heap.size) (by omega) n (.slice Aj jn.length cj))
              have HBU := Lib.hid ((HB4.out.setCell (p := ⟨w1.heap.size + 1, n, none⟩) (by show w1.heap.size ≤ w1.heap.size + 1; omega) (.bool true)).setCell (p := ⟨w1.heap.size, n, none⟩) (Nat.le_refl _) (.slice Aj jn.length cj))
              have HSZ : Hid (((w4.setCell ⟨w1.heap.size + 1, n, none⟩ (.bool true)).setCell ⟨w1.heap.size, n, none⟩ (.slice Aj jn.length cj)).heap.size = w4.heap.size) := Lib.hid (by simp)
              go_wp2_with (at_builtin; go_must (refine wpList_push_q rfl (.tmp 96) (.tmp 98) rfl HFU.out (by omega) n rfl (congrArg (fun m => Value.slice (some ⟨m, 0, none⟩) 1 1) HSZ.out.symm) (B := w1.heap.size) (by omega) ?_); intro v' w' hP' hE' hC')
              exact ⟨HEND.out _ _ hP' (hE' _ _ HOU.out) (HBU.out.trans hC') HLT.out, by simp [intOf] <;> omega⟩
            · rw [hsb] at hs4
              have HSB := Lib.hid hsb
              have hlo := HOLD.out hsb
              have HLO : Hid (old.length = jn.length) := Lib.hid (by rw [hlo, HJL.out, HALL.out])
              clear hsb hlo
              go_wp2_with (at_builtin; fail)
              refine (l3Equal_any _ _ old jn _ _ (HOB4.out.more h4sz) (HJ4.out.toS (by omega)) HLO.out).mono ?_
              rintro e w5 ⟨rfl, n5, hw5⟩
              have HB45 := Lib.hid (below_of_drewN ⟨n5, hw5⟩ w4.heap.size)
              clear hw5 hs4 fs4 g4 fg4
              have HF5 := Lib.hid (HF4.out.bel HB45.out)
              have hs5 := HF5.out.cellS hns
              rw [HSB.out] at hs5
              have fs5 := HF5.out.sn.frozen n
              have g5 := HF5.out.cellG hnr HEVO.out
              have fg5 := HF5.out.out.frozen n
              have HO5 := Lib.hid (HO4.out.bel HB45.out)
              have HJ5 := Lib.hid (HJ4.out.bel HB45.out)
              have HB5 := Lib.hid (HB4.out.trans (HB45.out.mono (by omega)))
              cases hdj : decide (old = jn)
              · have HLT := Lib.hid (HLESS.out (.inr (of_decide_eq_false hdj)))
                clear hdj
                have HFU := Lib.hid ((HF5.out.see n).put (v := .slice Aj jn.length cj) hnr (HJ5.out.other (by omega) _ _))
                have HOU := Lib.hid ((HO5.out.other (g := w1.heap.size + 1) (by omega) n (.bool true)).other (g := w1.heap.size) (by omega) n (.slice Aj jn.length cj))
                have HBU := Lib.hid ((HB5.out.setCell (p := ⟨w1.heap.size + 1, n, none⟩) (by show w1.heap.size ≤ w1.heap.size + 1; omega) (.bool true)).setCell (p := ⟨w1.heap.size, n, none⟩) (Nat.le_refl _) (.slice Aj jn.length cj))
                have HSZ : Hid (((w5.setCell ⟨w1.heap.size + 1, n, none⟩ (.bool true)).setCell ⟨w1.heap.size, n, none⟩ (.slice Aj jn.length cj)).heap.size = w5.heap.size) := Lib.hid (by simp)
                go_wp2_with (at_builtin; go_must (refine wpList_push_q rfl (.tmp 96) (.tmp 98) rfl HFU.out (by omega) n rfl (congrArg (fun m => Value.slice (some ⟨m, 0, none⟩) 1 1) HSZ.out.symm) (B := w1.heap.size) (by omega) ?_); intro v' w' hP' hE' hC')
                exact ⟨HEND.out _ _ hP' (hE' _ _ HOU.out) (HBU.out.trans hC') HLT.out, by simp [intOf] <;> omega⟩
              · have HST := Lib.hid (HSTAY.out HSB.out (of_decide_eq_true hdj))
                clear hdj
                go_wp2_with (at_builtin; fail)
                exact ⟨⟨j + 1, rs, sn, vs2, q2, by go_num, by omega, HF5.out, HST.out, HM1.out, HM2.out, HO5.out, HB5.out⟩, by simp [intOf] <;> omega⟩
          · have hje : j = nx.length := by omega
            have HOUT : Hid (WkO ev ts pts rs sn q2) := Lib.hid (HWY.out.out fun p hp => by
              rw [HPG.out] at hp
              injection hp with hp
              subst hp
              rw [HNXT.out]; omega)
            clear hje hfq
            go_wp2_with (at_builtin; fail)
            go_roundg (2 * muW ev ts.length pts.length rs sn + q2.length + 1)
            case measure => have := HM1.out; have := HMU1.out; simp only [List.length_cons] at *; omega
            case rel => exact ⟨rs, sn, vs2, q2, HFY.out, HOUT.out, by omega, HM2.out, HBY.out⟩
      · have hc1 : ¬ c = 0 := by omega
        go_wp2_with (at_builtin; fail)
        have HQ := Lib.hid (HPOP.out (off + 1) (.inr rfl))
        generalize Value.slice (some ⟨g, off + 1, none⟩) q.length c = vq at *
        clear HPOP hqc hc0 hc1
        have HF2 := Lib.hid (FQ.mk HFQ.out.lt HFQ.out.out HFQ.out.vl HFQ.out.row HFQ.out.sn HQ.out)
        go_still_tail 10, (by kernel_rfl)
        change wpList _ _ _ _ _ wr.drew
        have hbd := (Below.refl wr.heap.size wr).drew
        have hsd := hbd.size
        generalize wr.drew = w2 at *
        go_wp2_with (at_builtin; fail)
        refine (l3After_any _ _ _ ts (rows.getD k []) P B wr.heap.size w2 (HT1.out.low (HBW.out.trans (hbd.mono hsr)) (by omega)) (HRK.out.low hbd (Nat.le_refl _)) (by omega) hsd HLK.out (by omega) hsk).mono ?_
        rintro e w3 ⟨vaf, af, rfl, hoa, hal, hag, hb3⟩
        have hsS := HFQ.out.sn.lt
        have HBD := Lib.hid (hbd.trans (hb3.mono hsd))
        have HAF := Lib.hid (OBools.base (base' := w1.heap.size + 1 + 1) hoa (by omega))
        have HALL : Hid (af.length = ts.length) := Lib.hid (by rw [hal]; exact HLK.out)
        have HAG : Hid (∀ u, u < ts.length → af.getD u false = vlB ts P ((rows.getD k []).getD u false) u) := Lib.hid fun u hu => hag u (by rw [HLK.out]; exact hu)
        have hs3 := HBD.out.size
        have HB3 := Lib.hid (HBW.out.trans (HBD.out.mono hsr))
        have HF3 := Lib.hid (HF2.out.bel HBD.out)
        obtain ⟨Aa, ca, rfl, hca⟩ := hoa.slice
        have hal1 : af.length ≤ ts.length := by have := HALL.out; omega
        have hal2 : ts.length ≤ af.length := by have := HALL.out; omega
        clear hoa hal hag hb3 hbd q0 q1 q2 q3 q4 g0 d0 hsd
        generalize hnxt : P.next = nx at *
        have HNXT := Lib.hid hnxt
        clear hnxt
        obtain ⟨wo2, rfl⟩ : ∃ wo2 : World, wo2 = wr := ⟨_, rfl⟩
        go_wp2_with (at_builtin; fail)
        go_loopw [8, 11] (fun v i wy => ∃ (j : Nat) (rs : List (List Bool)) (sn : List Bool) (vs2 : List Value) (q2 : List Nat), i = .int .i64 j ∧ j ≤ nx.length ∧ FQ wy w1.heap.size (w1.heap.size + 1) rs sn vs2 v q2 ∧ WkN ev ts pts k (rows.getD k []) j rs sn q2 ∧ 2 * muW ev ts.length pts.length rs sn + q2.length ≤ 2 * muW ev ts.length pts.length rows seen + q.length ∧ muW ev ts.length pts.length rs sn + q2.length ≤ 1000 ∧ OBools wy (w1.heap.size + 1 + 1) (.slice Aa af.length ca) af ∧ Below w1.heap.size w1 wy) (fun _ i _ => nx.length - (intOf i).toNat)
        case atStart => exact ⟨0, rows, seen, vs, q, rfl, Nat.zero_le _, HF3.out, HWN.out, Nat.le_refl _, by have := HMU2.out; simp only [List.length_cons] at this; omega, HAF.out, HB3.out⟩
        case round =>
          obtain ⟨j, rs, sn, vs2, q2, rfl, hj, hfq, hwn, hm1, hm2, hoa, hby⟩ := hrel
          have HFY := Lib.hid hfq
          have HWY := Lib.hid hwn
          have HM1 := Lib.hid hm1
          have HM2 := Lib.hid hm2
          have HOY := Lib.hid hoa
          have HBY := Lib.hid hby
          have hsy := hby.size
          have q4 := (hby.cell (p := ⟨bp, op + k * 5 + 4, none⟩) hbp).trans HP4.out
          clear hwn hm1 hm2 hoa hby
          by_cases hjl : j < nx.length
          · obtain ⟨An', cn', en, _, _, hrd⟩ := HNI.out.low HBY.out (Nat.le_refl _)
            simp only [List.length_map] at en
            injection en with e1 e9 e2
            subst e1 e2
            clear e9
            obtain ⟨bn, on, rfl, hbn, hcn2⟩ := hrd.int_at (k := j) (by simpa using hjl)
            have hcj := hcn2 j (by simpa using hjl)
            rw [getD_lt (by simpa using hjl), List.getElem_map] at hcj
            have hnl : nx[j] < pts.length := HNX.out _ (List.getElem_mem hjl)
            have HNJ : Hid (P.next[j]? = some nx[j]) := Lib.hid (by rw [HNXT.out]; exact List.getElem?_eq_getElem hjl)
            generalize nx[j] = n at *
            clear hcn2 hrd
            have hnr : n < rs.length := by rw [HWY.out.i.len]; exact hnl
            have hns : n < sn.length := by rw [HWY.out.i.slen]; exact hnl
            obtain ⟨Ao, co, evo, hco⟩ := (hfq.row n hnr).slice
            have HOLD : Hid (sn.getD n false = true → (rs.getD n []).length = ts.length) := Lib.hid fun h => HWY.out.i.row n hnl h
            have hol : (rs.getD n []).length ≤ ts.length := by
              by_cases h : seenAt sn n
              · rw [HWY.out.i.row n hnl h]; exact Nat.le_refl _
              · rw [HWY.out.i.nrow n hnl h]; simp
            have HEVO := Lib.hid evo
            have g1 := hfq.cellG hnr evo
            have HOB := Lib.hid (hfq.old hnr (by omega) evo)
            have HAB := Lib.hid (HOY.out.toS (by omega))
            have HGO := Lib.hid (HWY.out.go (aft := af) HPG.out HNJ.out hnl HALL.out HAG.out)
            have HSTAY := Lib.hid (fun h1 h2 => HWY.out.stay (aft := af) HPG.out HNJ.out hnl HALL.out HAG.out h1 h2)
            have HLESS := Lib.hid (fun h => HWY.out.i.less (aft := af) hnl HALL.out h)
            have HJL := Lib.hid (join_len ev (rs.getD n []) af)
            have HRS : Hid (rs.getD n [] = rs.getD n []) := Lib.hid rfl
            clear evo hfq
            have hnr1 : ((n : Nat) : Int) < (pts.length : Int) := by omega
            generalize hold : rs.getD n [] = old at *
            have HOLE := Lib.hid hold
            clear hold HRS
            obtain ⟨wo3, rfl⟩ : ∃ wo3 : World, wo3 = wr := ⟨_, rfl⟩
            go_wp2_with (at_builtin; fail)
            refine (l3Join_any _ _ ev old af _ _ HOB.out HAB.out (Nat.le_refl _) (by omega) (by omega)).mono ?_
            rintro e w4 ⟨vj, rfl, hoj, hb4⟩
            have HB4 := Lib.hid (HBY.out.trans (hb4.mono hsy))
            have HF4 := Lib.hid (HFY.out.bel hb4)
            have hsY := HFY.out.sn.lt
            have HJ4 := Lib.hid (OBools.base (base' := w1.heap.size + 1 + 1) hoj (by omega))
            have HO4 := Lib.hid (HOY.out.bel hb4)
            have HOB4 := Lib.hid (HOB.out.low hb4 (Nat.le_refl _))
            obtain ⟨Aj, cj, rfl, hcj2⟩ := hoj.slice
            have hs4 := HF4.out.cellS hns
            have fs4 := HF4.out.sn.frozen n
            have g4 := HF4.out.cellG hnr HEVO.out
            have fg4 := HF4.out.out.frozen n
            have hnss : ((n : Nat) : Int) < (pts.length : Int) := hnr1
            have h4sz := hb4.size
            clear hoj hb4 g1 hcj
            generalize hjn : joinP ev old af = jn at *
            have HJN := Lib.hid hjn
            clear hjn
            have hjl2 : jn.length ≤ ts.length := by rw [HJL.out]; omega
            have HEND : Hid (∀ (W : World) (vW : Value), FQ W w1.heap.size (w1.heap.size + 1) (rs.set n jn) (sn.set n true) (vs2.set n (.slice Aj jn.length cj)) vW (q2 ++ [n]) → OBools W (w1.heap.size + 1 + 1) (.slice Aa af.length ca) af → Below w1.heap.size w1 W → muW ev ts.length pts.length (rs.set n jn) (sn.set n true) < muW ev ts.length pts.length rs sn →
                (∃ (j_1 : Nat) (rs : List (List Bool)) (sn : List Bool) (vs2 : List Value) (q2 : List Nat), Value.int IntKind.i64 ((j : Int) + 1) = .int .i64 j_1 ∧ j_1 ≤ nx.length ∧ FQ W w1.heap.size (w1.heap.size + 1) rs sn vs2 vW q2 ∧ WkN ev ts pts k (rows.getD k []) j_1 rs sn q2 ∧ 2 * muW ev ts.length pts.length rs sn + q2.length ≤ 2 * muW ev ts.length pts.length rows seen + q.length ∧ muW ev ts.length pts.length rs sn + q2.length ≤ 1000 ∧ OBools W (w1.heap.size + 1 + 1) (.slice Aa af.length ca) af ∧ Below w1.heap.size w1 W)) := Lib.hid fun W vW h1 h2 h3 h4 => ⟨j + 1, rs.set n jn, sn.set n true, _, q2 ++ [n], by go_num, by omega, h1, HGO.out, by have := HM1.out; simp only [List.length_append, List.length_cons, List.length_nil]; omega, by have := HM2.out; simp only [List.length_append, List.length_cons, List.length_nil]; omega, h2, h3⟩
            have hm2 := HM2.out
            cases hsb : sn.getD n false
            · rw [hsb] at hs4
              have HLT := Lib.hid (HLESS.out (.inl (by unfold seenAt; rw [hsb]; simp)))
              clear hsb
              have HFU := Lib.hid ((HF4.out.see n).put (v := .slice Aj jn.length cj) hnr (HJ4.out.other (by omega) _ _))
              have HOU := Lib.hid ((HO4.out.other (g := w1.heap.size + 1) (by omega) n (.bool true)).other (g := w1.heap.size) (by omega) n (.slice Aj jn.length cj))
              have HBU := Lib.hid ((HB4.out.setCell (p := ⟨w1.heap.size + 1, n, none⟩) (by show w1.heap.size ≤ w1.heap.size + 1; omega) (.bool true)).setCell (p := ⟨w1.heap.size, n, none⟩) (Nat.le_refl _) (.slice Aj jn.length cj))
              have HSZ : Hid (((w4.setCell ⟨w1.heap.size + 1, n, none⟩ (.bool true)).setCell ⟨w1.heap.size, n, none⟩ (.slice Aj jn.length cj)).heap.size = w4.heap.size) := Lib.hid (by simp)
              go_wp2_with (at_builtin; go_must (refine wpList_push_q rfl (.tmp 96) (.tmp 98) rfl HFU.out (by omega) n rfl (congrArg (fun m => Value.slice (some ⟨m, 0, none⟩) 1 1) HSZ.out.symm) (B := w1.heap.size) (by omega) ?_); intro v' w' hP' hE' hC')
              exact ⟨HEND.out _ _ hP' (hE' _ _ HOU.out) (HBU.out.trans hC') HLT.out, by simp [intOf] <;> omega⟩
            · rw [hsb] at hs4
              have HSB := Lib.hid hsb
              have hlo := HOLD.out hsb
              have HLO : Hid (old.length = jn.length) := Lib.hid (by rw [hlo, HJL.out, HALL.out])
              clear hsb hlo
              go_wp2_with (at_builtin; fail)
              refine (l3Equal_any _ _ old jn _ _ (HOB4.out.more h4sz) (HJ4.out.toS (by omega)) HLO.out).mono ?_
              rintro e w5 ⟨rfl, n5, hw5⟩
              have HB45 := Lib.hid (below_of_drewN ⟨n5, hw5⟩ w4.heap.size)
              clear hw5 hs4 fs4 g4 fg4
              have HF5 := Lib.hid (HF4.out.bel HB45.out)
              have hs5 := HF5.out.cellS hns
              rw [HSB.out] at hs5
              have fs5 := HF5.out.sn.frozen n
              have g5 := HF5.out.cellG hnr HEVO.out
              have fg5 := HF5.out.out.frozen n
              have HO5 := Lib.hid (HO4.out.bel HB45.out)
              have HJ5 := Lib.hid (HJ4.out.bel HB45.out)
              have HB5 := Lib.hid (HB4.out.trans (HB45.out.mono (by omega)))
              cases hdj : decide (old = jn)
              · have HLT := Lib.hid (HLESS.out (.inr (of_decide_eq_false hdj)))
                clear hdj
                have HFU := Lib.hid ((HF5.out.see n).put (v := .slice Aj jn.length cj) hnr (HJ5.out.other (by omega) _ _))
                have HOU := Lib.hid ((HO5.out.other (g := w1.heap.size + 1) (by omega) n (.bool true)).other (g := w1.heap.size) (by omega) n (.slice Aj jn.length cj))
                have HBU := Lib.hid ((HB5.out.setCell (p := ⟨w1.heap.size + 1, n, none⟩) (by show w1.heap.size ≤ w1.heap.size + 1; omega) (.bool true)).setCell (p := ⟨w1.heap.size, n, none⟩) (Nat.le_refl _) (.slice Aj jn.length cj))
                have HSZ : Hid (((w5.setCell ⟨w1.heap.size + 1, n, none⟩ (.bool true)).setCell ⟨w1.heap.size, n, none⟩ (.slice Aj jn.length cj)).heap.size = w5.heap.size) := Lib.hid (by simp)
                go_wp2_with (at_builtin; go_must (refine wpList_push_q rfl (.tmp 96) (.tmp 98) rfl HFU.out (by omega) n rfl (congrArg (fun m => Value.slice (some ⟨m, 0, none⟩) 1 1) HSZ.out.symm) (B := w1.heap.size) (by omega) ?_); intro v' w' hP' hE' hC')
                exact ⟨HEND.out _ _ hP' (hE' _ _ HOU.out) (HBU.out.trans hC') HLT.out, by simp [intOf] <;> omega⟩
              · have HST := Lib.hid (HSTAY.out HSB.out (of_decide_eq_true hdj))
                clear hdj
                go_wp2_with (at_builtin; fail)
                exact ⟨⟨j + 1, rs, sn, vs2, q2, by go_num, by omega, HF5.out, HST.out, HM1.out, HM2.out, HO5.out, HB5.out⟩, by simp [intOf] <;> omega⟩
          · have hje : j = nx.length := by omega
            have HOUT : Hid (WkO ev ts pts rs sn q2) := Lib.hid (HWY.out.out fun p hp => by
              rw [HPG.out] at hp
              injection hp with hp
              subst hp
              rw [HNXT.out]; omega)
            clear hje hfq
            go_wp2_with (at_builtin; fail)
            go_roundg (2 * muW ev ts.length pts.length rs sn + q2.length + 1)
            case measure => have := HM1.out; have := HMU1.out; simp only [List.length_cons] at *; omega
            case rel => exact ⟨rs, sn, vs2, q2, HFY.out, HOUT.out, by omega, HM2.out, HBY.out⟩

end Go.Proofs.Ytfioaohadanjmaa

/- spec.MaybeSet, spec.AlwaysSet. -/
namespace Go.Proofs.Ytfioaohadanjmaa
open Go.RowKit

set_option maxHeartbeats 4000000

end Go.Proofs.Ytfioaohadanjmaa
