import Derived.Test.YtgmipapdcihdpaaG19
set_option linter.unusedVariables false

namespace Go.Proofs.Ytgmipapdcihdpaa
open Go.RowKit

def takeB (ts : List Int) (pts : List Pt) (v : Nat) : Bool := pts.any fun p => useP ts p.op p.x p.y (v : Nat) == 2
theorem takeB_succ (ts : List Int) (pts : List Pt) (k v : Nat) (hk : k < pts.length) : takeB ts (pts.take (k + 1)) v = (takeB ts (pts.take k) v || (useP ts pts[k].op pts[k].x pts[k].y (v : Nat) == 2)) := by
  unfold takeB; rw [take_succ_get pts k hk, List.any_append]; simp

set_option maxHeartbeats 2000000 in
theorem sTakesOf_any (vt vb : Value) (ts : List Int) (l : List St) (B : Nat) (w : World) (ht : IntS w B vt ts) (hl : StS w B vb l) (hB : B ≤ w.heap.size) (hsz : szL l ≤ 4194300) :
    Calls Try.prog 18 #[.agg #[vt, vb]] w (IntsRet w (takeRes ts l)) := by
  have ht0 := ht
  obtain ⟨At, ct, rfl, hct, htl, htr⟩ := ht
  go_enter Try.func18, Try.ntmps18
  go_wp2_with fail
  refine (sPointsOf_any _ vb ts l B _ (ht0.low (bel_a _ _) hB) (hl.low (bel_a _ _) hB) (by simp; omega) hsz).mono ?_
  rintro e w1 ⟨vp, rfl, hps, hb1⟩
  have hb2 := (bel_a _ _).trans (hb1.mono (by simp))
  have hc0 := box_kept hb1 (by simp) 0
  simp at hc0
  have hmk := make_bools ts.length (by omega)
  have hs2 : w.heap.size < w1.heap.size := by have := hb1.size; simp at this; omega
  obtain ⟨Ap, cp, rfl, hcp, hpl⟩ := hps.slice
  go_wp2_with fail
  have hgood : validP ts l = false → pointsP ts l = [] := fun h => by unfold pointsP; rw [h]; rfl
  have hgood2 : validP ts l = true → pointsP ts l = ptsP l := fun h => by unfold pointsP; rw [h]; rfl
  have HRES : Hid (takeRes ts l = lst ts.length (takeB ts (pointsP ts l))) := by
    have : takeRes ts l = lst ts.length (takeB ts (pointsP ts l)) := by
      unfold takeRes
      cases hv : validP ts l
      · rw [hgood hv]
        have : lst ts.length (takeB ts []) = lst 0 (takeB ts []) := (lst_more (Nat.zero_le _) fun i _ _ => rfl).symm
        rw [this]; rfl
      · rw [hgood2 hv]; rfl
    exact this
  generalize hpts : pointsP ts l = pts at *
  clear hgood hgood2 hpts hmk
  have hrow0 : RowB (w1.alloc (.cells (bv (List.replicate ts.length false)).toArray 4)) w1.heap.size 4 (bv (List.replicate ts.length false)) := RowB.new _ _ _
  have hb3 := bel_a w1 (.cells (bv (List.replicate ts.length false)).toArray 4)
  generalize hfl0 : List.replicate ts.length false = fl0 at *
  have hf0 : fl0.length = ts.length ∧ ∀ v, v < ts.length → fl0.getD v false = takeB ts (pts.take 0) v := by
    subst hfl0
    exact ⟨by simp, fun v hv => by rw [getD_lt (by simpa using hv)]; simp [takeB]⟩
  have HF0 := Lib.hid hf0
  clear hf0 hfl0
  go_loopw [5] (fun i wr => ∃ (k : Nat) (fl : List Bool), k ≤ pts.length ∧ i = .int .i64 k ∧ RowB wr w1.heap.size 4 (bv fl) ∧ (fl.length = ts.length ∧ ∀ v, v < ts.length → fl.getD v false = takeB ts (pts.take k) v) ∧ Below w1.heap.size w1 wr) (fun i _ => pts.length - (intOf i).toNat)
  case atStart => exact ⟨0, fl0, by omega, rfl, hrow0, HF0.out, hb3⟩
  case round =>
    obtain ⟨k, fl, hk, rfl, hrw, hfl, hbr⟩ := hrel
    have HRW := Lib.hid hrw
    have HFL := Lib.hid hfl
    clear hrw hfl
    by_cases hlt : k < pts.length
    · obtain ⟨b, off, c, nv, e, hb, hc, hl', hnx, p0, p1, p2, p3, p4⟩ := hps.get hlt
      injection e with e1 _ e2
      subst e1 e2
      obtain ⟨An, cn, rfl, hcn, hln, hrn⟩ := hnx
      simp only [List.length_map] at hcn hln p4
      have hfll : fl.length ≤ ts.length ∧ ts.length ≤ fl.length := by have := HFL.out.1; omega
      have hfl1 := hfll.1
      have hfl2 := hfll.2
      clear hfll
      have HFLL := Lib.hid HFL.out.1
      go_wp2_with fail
      go_loopw [6] (fun i wy => ∃ (v : Nat) (gl : List Bool), v ≤ ts.length ∧ i = .int .i64 v ∧ RowB wy w1.heap.size 4 (bv gl) ∧ (gl.length = ts.length ∧ ∀ u, u < ts.length → gl.getD u false = if u < v then takeB ts (pts.take (k + 1)) u else takeB ts (pts.take k) u) ∧ Below w1.heap.size w1 wy) (fun i _ => ts.length - (intOf i).toNat)
      case atStart => exact ⟨0, fl, by omega, rfl, HRW.out, ⟨HFL.out.1, fun u hu => by rw [if_neg (by omega)]; exact HFL.out.2 u hu⟩, hbr⟩
      case round =>
        obtain ⟨v, gl, hv, rfl, hrw, hgl, hby⟩ := hrel
        have HRY := Lib.hid hrw
        have HGL := Lib.hid hgl
        have hgl1 : gl.length ≤ ts.length := by have := hgl.1; omega
        have hgl2 : ts.length ≤ gl.length := by have := hgl.1; omega
        have HGLL := Lib.hid hgl.1
        clear hrw hgl
        by_cases hvl : v < ts.length
        · have hcb := (hby.cell (p := ⟨w.heap.size, 0, none⟩) hs2).trans hc0
          have q0 := (hby.cell (p := ⟨b, off + k * 5, none⟩) hb).trans p0
          have q1 := (hby.cell (p := ⟨b, off + k * 5 + 1, none⟩) hb).trans p1
          have q2 := (hby.cell (p := ⟨b, off + k * 5 + 2, none⟩) hb).trans p2
          have q3 := (hby.cell (p := ⟨b, off + k * 5 + 3, none⟩) hb).trans p3
          have q4 := (hby.cell (p := ⟨b, off + k * 5 + 4, none⟩) hb).trans p4
          have hszy := hby.size
          have BEL' : ∀ W' : World, Hc6 wr w.heap.size 0 (.slice At ts.length ct) b (off + k * 5) (.int .i64 pts[k].op) b (off + k * 5 + 1) (.int .i64 pts[k].x) b (off + k * 5 + 2) (.int .i64 pts[k].y) b (off + k * 5 + 3) (.int .i64 pts[k].n) b (off + k * 5 + 4) (.slice An pts[k].next.length cn) W' → Below wr.heap.size wr W' := fun _ hh => hh.bel
          have BEL := Lib.hid BEL'
          clear BEL'
          go_wp2_with fail
          go_region_held3 (fun w' => w'.cell? ⟨w.heap.size, 0, none⟩ = some (.slice At ts.length ct) ∧ w'.cell? ⟨b, off + k * 5, none⟩ = some (.int .i64 pts[k].op) ∧ w'.cell? ⟨b, off + k * 5 + 1, none⟩ = some (.int .i64 pts[k].x) ∧ w'.cell? ⟨b, off + k * 5 + 2, none⟩ = some (.int .i64 pts[k].y) ∧ w'.cell? ⟨b, off + k * 5 + 3, none⟩ = some (.int .i64 pts[k].n) ∧ w'.cell? ⟨b, off + k * 5 + 4, none⟩ = some (.slice An pts[k].next.length cn) ∧ Below wr.heap.size wr w' ∧ w.heap.size < wr.heap.size ∧ b < wr.heap.size ∧ b < wr.heap.size ∧ b < wr.heap.size ∧ b < wr.heap.size ∧ b < wr.heap.size)
            (first | exact ⟨hcb, q0, q1, q2, q3, q4, (Below.refl _ _).drew, by omega, by omega, by omega, by omega, by omega, by omega⟩ | exact Hc6.step (by assumption) (by assumption) | go_keep)
            (first | (go_at_call 49; go_must (refine (l3Use_any _ ts B _ _ _ _ _ _ _ (by exact ht0.low (hb2.trans ((hby.trans ((BEL.out _ (by assumption)).mono hszy)).mono hb2.size)) hB) (by have := hb2.size; have := (BEL.out _ (by assumption)).size; omega) (by omega) (by omega)).mono ?_); (rintro e w2 ⟨rfl, hb4⟩)))
          have hbel := BEL.out w2 (by assumption)
          have hrow2 := HRY.out.low hbel (by have := HRY.out.lt; omega)
          have hb5 := hby.trans (hbel.mono hszy)
          have hvg : v < gl.length := by omega
          have hck : w2.cell? ⟨w1.heap.size, v, none⟩ = some (.bool (gl.getD v false)) := by rw [hrow2.cell, bv_get hvg]
          have hfr := hrow2.frozen v
          have HROW := Lib.hid hrow2
          have HT := Lib.hid (takeB_succ ts pts k v hlt)
          clear hrow2 hbel hcb
          cases hu : (useP ts pts[k].op pts[k].x pts[k].y (v : Nat) == 2)
          · have HU := Lib.hid hu
            clear hu
            go_wp2_with fail
            case roundEnd =>
              refine ⟨⟨v + 1, gl, by omega, rfl, HROW.out, ⟨HGLL.out, fun u hu => ?_⟩, hb5⟩, by simp [intOf] <;> omega⟩
              rw [HGL.out.2 u hu]
              by_cases huv : u = v
              · subst huv
                rw [if_neg (by omega), if_pos (by omega), HT.out, HU.out, Bool.or_false]
              · by_cases h1 : u < v
                · rw [if_pos h1, if_pos (by omega)]
                · rw [if_neg h1, if_neg (by omega)]
          · have HU := Lib.hid hu
            clear hu
            go_wp2_with fail
            case roundEnd =>
              refine ⟨⟨v + 1, gl.set v true, by omega, rfl, by rw [← bv_set]; exact HROW.out.set_ v _, ⟨by rw [List.length_set]; exact HGLL.out, fun u hu => ?_⟩, hb5.setCell (p := ⟨w1.heap.size, v, none⟩) (Nat.le_refl _) _⟩, by simp [intOf] <;> omega⟩
              rw [getD_setB (by omega)]
              by_cases huv : u = v
              · subst huv
                rw [if_pos rfl, if_pos (by omega), HT.out, HU.out, Bool.or_true]
              · rw [if_neg huv, HGL.out.2 u hu]
                by_cases h1 : u < v
                · rw [if_pos h1, if_pos (by omega)]
                · rw [if_neg h1, if_neg (by omega)]
        · have hve : v = ts.length := by omega
          go_wp2_with fail
          case roundEnd =>
            refine ⟨⟨k + 1, gl, by omega, rfl, HRY.out, ⟨HGLL.out, fun u hu => ?_⟩, hby⟩, by simp [intOf] <;> omega⟩
            rw [HGL.out.2 u hu, if_pos (by omega)]
    · have hke : k = pts.length := by omega
      have hfll : fl.length ≤ ts.length ∧ ts.length ≤ fl.length := by have := HFL.out.1; omega
      have hfl1 := hfll.1
      have hfl2 := hfll.2
      clear hfll
      have HFIN : Hid (lst fl.length (fun i => fl.getD i false) = takeRes ts l) := by
        have : lst fl.length (fun i => fl.getD i false) = takeRes ts l := by
          rw [HRES.out, HFL.out.1]
          refine lst_congr fun v hv => ?_
          rw [HFL.out.2 v hv, hke, List.take_length]
        exact this
      have HOW : Hid (BoolS wr wr.heap.size (.slice (some ⟨w1.heap.size, 0, none⟩) ts.length ts.length) fl) := by
        have := HRW.out.bools (by omega) (c := ts.length) (by omega)
        rw [HFL.out.1] at this
        exact this
      go_wp2_with fail
      refine (l3Numbers_any _ fl _ _ HOW.out (Nat.le_refl _)).mono ?_
      rintro e w2 ⟨vr, rfl, hvr, hb6⟩
      go_wp2_with fail
      go_ret
      rw [HFIN.out] at hvr
      exact ⟨_, rfl, hvr, hb2.trans ((hbr.trans (hb6.mono hbr.size)).mono (by have := hb2.size; omega))⟩

end Go.Proofs.Ytgmipapdcihdpaa
