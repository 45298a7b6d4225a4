import Derived.Test.YtidlifijgooceaaJ28
import Derived.Test.YtidlifijgooceaaJ33
import Derived.Deep.DeepCutAuto
set_option linter.unusedVariables false

/- spec.l2From. -/
namespace Go.Proofs.Ytidlifijgooceaa
open Go.RowKit

theorem OInts.pop {w : World} {base n c : Nat} {A : Option Addr} {l : List Int} {x : Int} (h : OInts w base (.slice A n c) (l ++ [x])) :
    ∃ g, A = some ⟨g, 0, none⟩ ∧ base ≤ g ∧ g < w.heap.size ∧ n = l.length + 1 ∧ n ≤ c ∧ w.cell? ⟨g, l.length, none⟩ = some (.int .i64 x) ∧ OInts w base (.slice (some ⟨g, 0, none⟩) l.length c) l := by
  have hlen : (l ++ [x]).length = l.length + 1 := by simp
  unfold OInts at h
  rw [hlen] at h
  rcases h.2 with ⟨e, h0⟩ | ⟨g, cap, cur, e, hb, hh, hc, hm, hs, ht⟩
  · omega
  · injection e with e1 e2 e3
    subst e1 e2 e3
    refine ⟨g, rfl, hb, row_lt hh, rfl, hc, ?_, by simp, .inr ⟨g, c, cur, rfl, hb, hh, by omega, hm, hs, ?_⟩⟩
    · rw [World.ownsRow.cellAt h l.length (by omega)]
      simp
    · have : cur.toList.take (l.length * 1) = (cur.toList.take ((l.length + 1) * 1)).take (l.length * 1) := by rw [List.take_take]; congr 1; omega
      rw [this, ht]
      simp
theorem FrI.perm {pts : List Pt} {a : Nat} {fl : List Bool} {q q' : List Nat} (h : FrI pts a fl q) (e : ∀ k, k ∈ q ↔ k ∈ q') : FrI pts a fl q' :=
  ⟨h.len, h.snd, fun k hk => h.qok k ((e k).2 hk), fun p hp k hk => (h.st p hp k hk).imp id (e k).1, fun k p h1 h2 j hj => (h.cl k p h1 h2 j hj).imp id (e j).1⟩
theorem muQ_perm {fl : List Bool} {r : List Nat} {k : Nat} : muQ fl (r ++ [k]) = muQ fl (k :: r) := by simp [muQ]

set_option maxHeartbeats 4000000 in
set_option maxRecDepth 100000 in
theorem l2From_any (vp : Value) (pts : List Pt) (B a : Nat) (w : World) (hp : PtS w B vp pts) (hB : B ≤ w.heap.size) (hpl : pts.length ≤ 61) (hn : ∀ p ∈ pts, ∀ k ∈ p.next, k < pts.length) (hn2 : ∀ p ∈ pts, p.next.length ≤ 2) (ha : a < pts.length) :
    Calls Try.prog 87 #[vp, .int .i64 (a : Nat)] w (FromRet w pts a) := by
  have GN := Lib.hid hn
  have GN2 := Lib.hid hn2
  have HPS := Lib.hid hp
  have hmk := make_bools pts.length (by omega)
  obtain ⟨b, off, c, nv, rfl, hb, hc, hl, hnx, z0, z1, z2, z3, z4⟩ := hp.get ha
  have hbw := bel_a w (.cells (bv (List.replicate pts.length false)).toArray 4)
  have hrow : RowB (w.alloc (.cells (bv (List.replicate pts.length false)).toArray 4)) w.heap.size 4 (bv (List.replicate pts.length false)) := RowB.new _ _ _
  have hinit := FrI.init (List.getElem?_eq_getElem ha) hn
  have hnl : (msk pts[a].next).length ≤ 2 := by rw [msk_len]; exact hn2 _ (List.getElem_mem ha)
  obtain ⟨An, cn, rfl, hcn, hln, -⟩ := id hnx
  simp only [List.length_map] at z4 hcn hln
  have HMS : Hid (pts[a].next.map (fun k => ((k : Nat) : Int)) = msk pts[a].next) := Lib.hid rfl
  simp only [List.length_map] at hnx
  rw [HMS.out] at hnx
  have HI := Lib.hid hinit
  have HR := Lib.hid hrow
  have HBW := Lib.hid hbw
  have HM0 : Hid (muQ (List.replicate pts.length false) pts[a].next ≤ 200) := Lib.hid (by
    unfold muQ
    rw [List.count_replicate_self]
    rw [msk_len] at hnl
    omega)
  have HNX := Lib.hid (hnx.low hbw hB)
  have y4 := (HBW.out.cell (p := ⟨b, off + a * 5 + 4, none⟩) (by show b < _; omega)).trans z4
  clear HMS hinit hrow hbw hnx hn hn2 hp z0 z1 z2 z3 z4
  generalize List.replicate pts.length false = fl0 at *
  generalize pts[a].next = q0 at *
  go_enter Try.func87, Try.ntmps87
  go_upto_region 2 with (at_builtin; fail)
  have hsW : (w.alloc (.cells (bv fl0).toArray 4)).heap.size = w.heap.size + 1 := by simp
  have HE := Lib.hid (OInts.empty (w.alloc (.cells (bv fl0).toArray 4)) (w.heap.size + 1) (by simp))
  have HBE := Lib.hid (bel_a (w.alloc (.cells (bv fl0).toArray 4)) (.cells #[] 3))
  rw [hsW] at HE HBE
  have HR2 := Lib.hid ((HR.out.alloc (.cells #[] 3)))
  have HB2 := Lib.hid (HBW.out.trans (HBE.out.mono (by omega)))
  have HNX2 := Lib.hid (HNX.out.low HBE.out (by omega))
  have y5 := (HBE.out.cell (p := ⟨b, off + a * 5 + 4, none⟩) (by show b < _; omega)).trans y4
  have hs2 : ((w.alloc (.cells (bv fl0).toArray 4)).alloc (.cells #[] 3)).heap.size = w.heap.size + 2 := by simp
  clear hmk HR HBW HBE HNX
  go_upto_region 3 with (at_builtin; go_must (refine wpList_app_ints rfl (.tmp 11) (.tmp 16) rfl (w.heap.size + 1) _ [] rfl HE.out B _ (msk q0) rfl HNX2.out (by omega) (by simp; omega) ?_); intro v' w' hP' hE')
  have HP : Hid (OInts w' (w.heap.size + 1) v' (msk q0)) := Lib.hid (by simpa using hP')
  have HR3 := Lib.hid (HR2.out.low hE' (by omega))
  have HB3 := Lib.hid (HB2.out.trans (hE'.mono (by omega)))
  have hs0 : w.heap.size + 1 ≤ w'.heap.size := by have := hE'.size; omega
  clear hP' hE' HR2 HB2 HE hs2 hsW y4 y5
  go_loopg [6, 7] (muQ fl0 q0 + 1) (fun gk v _ wr => ∃ (fl : List Bool) (q : List Nat), OInts wr (w.heap.size + 1) v (msk q) ∧ RowB wr w.heap.size 4 (bv fl) ∧ FrI pts a fl q ∧ (muQ fl q < gk ∧ muQ fl q ≤ 200) ∧ Below w.heap.size w wr)
  case atStart => exact ⟨fl0, q0, HP.out, HR3.out, HI.out, ⟨by omega, HM0.out⟩, HB3.out⟩
  case round =>
    obtain ⟨fl, q, hq, hr, hfi, hmu, hbr⟩ := hrel
    have HR1 := Lib.hid hr
    have HFI := Lib.hid hfi
    have HMU := Lib.hid hmu.1
    have HM2 := Lib.hid hmu.2
    have HB1 := Lib.hid hbr
    have hsr := hbr.size
    have HFL := Lib.hid hfi.len
    clear hr hmu hfi hbr HI HR3 HP HB3 HM0
    have hqc : q = [] ∨ ∃ r k, q = r ++ [k] := by
      rcases List.eq_nil_or_concat q with h | ⟨r, k, h⟩
      · exact .inl h
      · exact .inr ⟨r, k, by rw [h, List.concat_eq_append]⟩
    rcases hqc with rfl | ⟨r, k, rfl⟩
    · obtain ⟨A1, c1, rfl, hc1⟩ := hq.slice
      have HFIN := Lib.hid HFI.out.ldsL
      clear hq
      simp only [msk, List.map_nil, List.length_nil]
      go_wp2_with (at_builtin; fail)
      go_ret
      exact ⟨w.heap.size, rfl, by rw [← HFIN.out]; exact HR1.out, HB1.out⟩
    · rw [msk_app] at hq
      obtain ⟨A1, c1, rfl, hc1⟩ := hq.slice
      obtain ⟨g1, rfl, hg1, hgl1, hn1, hcap, hck, hpop⟩ := OInts.pop (l := msk r) (x := ((k : Nat) : Int)) hq
      rw [hn1, msk_len] at hcap ⊢
      rw [msk_len] at hck hpop
      have HPOP := Lib.hid hpop
      have hk := (HFI.out.qok k (by simp)).2
      have hrl : r.length ≤ 200 := by have := HM2.out; rw [muQ_perm] at this; simp only [muQ, List.length_cons] at this; omega
      have HFK := Lib.hid (HFI.out.perm (q' := k :: r) fun x => by simp [or_comm])
      have hcf : wr.cell? ⟨w.heap.size, k, none⟩ = some (.bool (fl.getD k false)) := by rw [HR1.out.cell, bv_get (by rw [HFL.out]; exact hk)]
      have hfr := HR1.out.frozen k
      rw [muQ_perm] at HMU HM2
      clear hq hn1 hpop hc1 HFI
      generalize hm : r.length = m at *
      have HM := Lib.hid hm
      clear hm
      cases hfk : fl.getD k false
      · rw [hfk] at hcf
        have HFKE := Lib.hid hfk
        obtain ⟨b3, off3, c3, nv, e, hb3, hc3, hl3, hnx, z0, z1, z2, z3, z4⟩ := HPS.out.get hk
        injection e with e1 e9 e2
        injection e1 with e1
        injection e1 with e1 e3
        subst e1 e3 e2
        have hn2 : pts[k].next.length ≤ 2 := GN2.out _ (List.getElem_mem hk)
        have HMK := Lib.hid (HFK.out.mark (List.getElem?_eq_getElem hk) GN.out)
        have HMM := Lib.hid (muQ_mark (r := r) (nx := pts[k].next) (show k < fl.length by rw [HFL.out]; exact hk) HFKE.out hn2)
        have HMS : Hid (pts[k].next.map (fun k => ((k : Nat) : Int)) = msk pts[k].next) := Lib.hid rfl
        rw [HMS.out] at hnx
        have hnl2 : (msk pts[k].next).length ≤ 2 := by rw [msk_len]; exact hn2
        have y4 := (HB1.out.cell (p := ⟨b, off + k * 5 + 4, none⟩) (by show b < _; omega)).trans z4
        have HNX3 := Lib.hid ((hnx.low HB1.out hB).low ((Below.refl w.heap.size wr).setCell (p := ⟨w.heap.size, k, none⟩) (Nat.le_refl _) (.bool true)) hB)
        have HPO3 := Lib.hid (HPOP.out.other (g := w.heap.size) (by omega) k (.bool true))
        have HRW : Hid (RowB (wr.setCell ⟨w.heap.size, k, none⟩ (.bool true)) w.heap.size 4 (bv (fl.set k true))) := Lib.hid (by rw [← bv_set]; exact HR1.out.set_ k _)
        have HBW1 : Hid (Below w.heap.size w (wr.setCell ⟨w.heap.size, k, none⟩ (.bool true))) := Lib.hid (HB1.out.setCell (p := ⟨w.heap.size, k, none⟩) (Nat.le_refl _) _)
        have hsW : (wr.setCell ⟨w.heap.size, k, none⟩ (.bool true)).heap.size = wr.heap.size := by simp [World.setCell]
        have HML : Hid ((msk r).length = m) := Lib.hid (by rw [msk_len, HM.out])
        obtain ⟨An2, cn2, rfl, hcn2, hln2, -⟩ := hnx
        generalize pts[k].next = nx at *
        clear HMS hfk z0 z1 z2 z3 z4 hn2
        go_wp2_with (at_builtin; go_must (refine wpList_app_ints rfl (.tmp 40) (.tmp 45) rfl (w.heap.size + 1) _ (msk r) rfl HPO3.out B _ (msk nx) rfl HNX3.out (by omega) (by rw [HML.out]; omega) ?_); intro v' w' hP' hE')
        go_roundg (muQ fl (k :: r))
        case measure => exact HMU.out
        case rel => exact ⟨fl.set k true, r ++ nx, by rw [msk_app]; exact hP', HRW.out.low hE' (by omega), HMK.out, ⟨HMM.out, Nat.le_of_lt (Nat.lt_of_lt_of_le HMM.out HM2.out)⟩, HBW1.out.trans (hE'.mono (by omega))⟩
      · rw [hfk] at hcf
        have HSK := Lib.hid (HFK.out.skip hfk)
        clear hfk
        go_wp2_with (at_builtin; fail)
        go_roundg (muQ fl (k :: r))
        case measure => exact HMU.out
        case rel => exact ⟨fl, r, HPOP.out, HR1.out, HSK.out, ⟨muQ_skip, Nat.le_of_lt (Nat.lt_of_lt_of_le muQ_skip HM2.out)⟩, HB1.out⟩

end Go.Proofs.Ytidlifijgooceaa
