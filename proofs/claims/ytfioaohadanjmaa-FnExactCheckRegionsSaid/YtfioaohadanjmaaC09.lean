import Derived.Test.YtfioaohadanjmaaC06
import Derived.Test.YtfioaohadanjmaaC07
import Derived.Test.YtfioaohadanjmaaC08
set_option linter.unusedVariables false

namespace Go.Proofs.Ytfioaohadanjmaa
open Go.RowKit

set_option maxHeartbeats 1000000 in
theorem needed_any (vg : Value) (ts : List Int) (pts : List Pt) (B : Nat) (w : World) (hg : GrS w B vg ts pts) (hB : B ≤ w.heap.size) (h6 : ts.length ≤ 6) (hpl : pts.length ≤ 4194304) (hn : ∀ p ∈ pts, ∀ k ∈ p.next, k < pts.length) (hx : ∀ p ∈ pts, setsP p.op p.x < ts.length) :
    Calls Try.prog 106 #[vg] w (IntsRet w (msk (ndL ts pts))) := by
  have HG := Lib.hid hg
  have HX := Lib.hid hx
  have HN := Lib.hid hn
  clear hn hx
  obtain ⟨g, At, ct, vb, Al, cl, rfl, hgB, g0, g1, g2, ht, hp, htl, hpl'⟩ := hg.open_
  have hmk := make_ints pts.length (by omega)
  go_enter Try.func106, Try.ntmps106
  go_wp2_with fail
  have hinit := NdI.init ts pts
  generalize List.replicate pts.length 0 = ms0 at *
  have hrow : RowB (w.alloc (.cells (iv ms0).toArray 3)) w.heap.size 3 (iv ms0) := RowB.new _ _ _
  have hbw := bel_a w (.cells (iv ms0).toArray 3)
  clear hmk
  go_loopg [4] (1 + muN ms0) (fun gk c wr => ∃ (b : Bool) (ms : List Nat), c = .bool b ∧ RowB wr w.heap.size 3 (iv ms) ∧ NdI ts pts ms ∧ (b = true → muN ms < gk) ∧ (b = false → ∀ i p, pts[i]? = some p → backP ts p ms = ms.getD i 0) ∧ Below w.heap.size w wr)
  case atStart => exact ⟨true, ms0, rfl, hrow, hinit, fun _ => by omega, fun h => (by cases h), hbw⟩
  case round =>
    obtain ⟨bc, ms, rfl, hrw, hfw, hmu, hcl, hbr⟩ := hrel
    have HFW := Lib.hid hfw
    have HMU := Lib.hid hmu
    have HCL := Lib.hid hcl
    have HRW := Lib.hid hrw
    have hsz := hbr.size
    have HML := Lib.hid hfw.len
    have g0' := (hbr.cell (p := ⟨g, 0, none⟩) (by show g < _; omega)).trans g0
    have g2' := (hbr.cell (p := ⟨g, 2, none⟩) (by show g < _; omega)).trans g2
    clear hfw hmu hcl hrw
    cases bc
    · go_wp2_with fail
      go_ret
      have e := HFW.out.done h6 HN.out (HCL.out (by simp))
      refine ⟨_, rfl, ?_, hbr⟩
      rw [← e]
      have := HRW.out.ints (c := pts.length) (by rw [HML.out]; omega) (by rw [HML.out]; omega)
      rw [HML.out] at this
      exact this
    · go_wp2_with fail
      go_loopw [4, 5] (fun c i wx => ∃ (b : Bool) (k : Nat) (z : Int) (ns : List Nat), c = .bool b ∧ i = .int .i64 z ∧ z ≤ (k : Int) - 1 ∧ (k : Int) - 1 ≤ z ∧ k ≤ pts.length ∧ RowB wx w.heap.size 3 (iv ns) ∧ NdI ts pts ns ∧ (b = true → muN ns < muN ms) ∧ (b = false → ns = ms ∧ ∀ i p, k ≤ i → pts[i]? = some p → backP ts p ms = ms.getD i 0) ∧ Below w.heap.size w wx) (fun _ i _ => (intOf i + 1).toNat)
      case atStart => exact ⟨false, pts.length, _, ms, rfl, rfl, by omega, by omega, by omega, HRW.out, HFW.out, fun h => (by cases h), fun _ => ⟨rfl, fun i p hi hp => by rw [List.getElem?_eq_none hi] at hp; cases hp⟩, hbr⟩
      case round =>
        obtain ⟨bc, k, z, ns, rfl, rfl, hz1, hz2, hk, hrw, hfw, hmu, hcl, hbx⟩ := hrel
        have HFX := Lib.hid hfw
        have HMX := Lib.hid hmu
        have HCX := Lib.hid hcl
        have HRX := Lib.hid hrw
        have hszx := hbx.size
        have HMLX := Lib.hid hfw.len
        clear hfw hmu hcl hrw
        cases k with
        | zero =>
          have hzn : z < 0 := by omega
          go_wp2_with fail
          cases bc
          · obtain ⟨e1, e2⟩ := HCX.out (by simp)
            go_roundg 0
            case measure => have := HMU.out (by simp); omega
            case rel => exact ⟨false, ns, rfl, HRX.out, HFX.out, fun h => (by cases h), fun _ i p hp => (by rw [e1]; exact e2 i p (by omega) hp), hbx⟩
          · go_roundg (muN ns + 1)
            case measure => have := HMU.out (by simp); have := HMX.out (by simp); omega
            case rel => exact ⟨true, ns, rfl, HRX.out, HFX.out, fun _ => (by omega), fun h => (by cases h), hbx⟩
        | succ k =>
          obtain rfl : z = (k : Int) := by omega
          have hlt : k < pts.length := by omega
          obtain ⟨b, off, c, nv, e, hb, hc, hl, hnx, p0, p1, p2, p3, p4⟩ := hp.get hlt
          have hbB : b < w.heap.size := by omega
          have q0 := (hbx.cell (p := ⟨b, off + k * 5, none⟩) hbB).trans p0
          have q1 := (hbx.cell (p := ⟨b, off + k * 5 + 1, none⟩) hbB).trans p1
          have q2 := (hbx.cell (p := ⟨b, off + k * 5 + 2, none⟩) hbB).trans p2
          have q3 := (hbx.cell (p := ⟨b, off + k * 5 + 3, none⟩) hbB).trans p3
          have q4 := (hbx.cell (p := ⟨b, off + k * 5 + 4, none⟩) hbB).trans p4
          clear p0 p1 p2 p3 p4
          injection e with e1 _ e2
          subst e1 e2
          obtain ⟨An, cn, rfl, hcn, hln, hrn⟩ := hnx
          simp only [List.length_map] at hcn hln q4
          have g0'' := (hbx.cell (p := ⟨g, 0, none⟩) (by show g < _; omega)).trans g0
          have g2'' := (hbx.cell (p := ⟨g, 2, none⟩) (by show g < _; omega)).trans g2
          have hkn : k < ns.length := by rw [HMLX.out]; exact hlt
          obtain ⟨m, hm⟩ : ∃ m, m = ns.getD k 0 := ⟨_, rfl⟩
          have hpk : pts[k] ∈ pts := List.getElem_mem hlt
          have hsk := HX.out _ hpk
          have hs6 : setsP pts[k].op pts[k].x < 6 := by omega
          have h64 : 2 ^ ts.length ≤ 64 := Nat.pow_le_pow_right (n := 2) (by omega) h6
          have HSM := Lib.hid (fun m hm => Nat.lt_of_lt_of_le (HFX.out.small m hm) h64)
          have hu64 := usedP_lt h6 pts[k].op pts[k].x pts[k].y
          have hb64 := setBitP_lt hs6
          have ho64 := orL_lt HSM.out pts[k].next
          have HNK := Lib.hid (fun j hj => (by rw [HMLX.out]; exact HN.out _ hpk j hj : j < ns.length))
          have HGX := Lib.hid hg
          go_wp2_with fail
          have hnew := Box5.new wr pts[k].op pts[k].x pts[k].y pts[k].n (.slice An pts[k].next.length cn) 62
          have hba := hbx.alloc (by omega) (.cells #[.int .i64 pts[k].op, .int .i64 pts[k].x, .int .i64 pts[k].y, .int .i64 pts[k].n, .slice An pts[k].next.length cn] 62)
          have hRW := HRX.out.alloc (.cells #[.int .i64 pts[k].op, .int .i64 pts[k].x, .int .i64 pts[k].y, .int .i64 pts[k].n, .slice An pts[k].next.length cn] 62)
          have hWlt : wr.heap.size < (wr.alloc (.cells #[.int .i64 pts[k].op, .int .i64 pts[k].x, .int .i64 pts[k].y, .int .i64 pts[k].n, .slice An pts[k].next.length cn] 62)).heap.size := by simp
          generalize hW : wr.alloc (.cells #[.int .i64 pts[k].op, .int .i64 pts[k].x, .int .i64 pts[k].y, .int .i64 pts[k].n, .slice An pts[k].next.length cn] 62) = W at *
          clear hW
          have HRWW := Lib.hid hRW
          clear hRW
          go_region_held3 (fun w' => w'.cell? ⟨wr.heap.size, 0, none⟩ = some (.int .i64 pts[k].op) ∧ w'.cell? ⟨wr.heap.size, 1, none⟩ = some (.int .i64 pts[k].x) ∧ w'.cell? ⟨wr.heap.size, 2, none⟩ = some (.int .i64 pts[k].y) ∧ w'.cell? ⟨wr.heap.size, 3, none⟩ = some (.int .i64 pts[k].n) ∧ w'.cell? ⟨wr.heap.size, 4, none⟩ = some (.slice An pts[k].next.length cn) ∧ Below W.heap.size W w' ∧ wr.heap.size < W.heap.size) (first | exact hnew | exact Box5.step (by assumption) (by assumption) | assumption | go_keep)
            (first
              | (go_at_call 88; go_must (refine (used_any _ ts pts B _ _ _ _ _ _ (by exact HGX.out.low (hba.trans ((Box5.bel (g := wr.heap.size) (op := pts[k].op) (x := pts[k].x) (y := pts[k].y) (n := pts[k].n) (nv := .slice An pts[k].next.length cn) (by assumption)).mono hba.size)) hB) (by have := (Box5.bel (w1 := W) (g := wr.heap.size) (op := pts[k].op) (x := pts[k].x) (y := pts[k].y) (n := pts[k].n) (nv := .slice An pts[k].next.length cn) (by assumption)).size; omega) h6).mono ?_); (rintro e w2 ⟨rfl, hb3⟩))
              | (go_at_call 107; go_must (refine (after_any _ _ ts pts ns W.heap.size k _ (by exact (HGX.out.low (hba.trans ((Box5.bel (g := wr.heap.size) (op := pts[k].op) (x := pts[k].x) (y := pts[k].y) (n := pts[k].n) (nv := .slice An pts[k].next.length cn) (by assumption)).mono hba.size)) hB).more (by have := hba.size; omega)) (by
                  have h1 := HRWW.out.ints (c := pts.length) (by rw [HMLX.out]; omega) (by rw [HMLX.out]; omega)
                  rw [HMLX.out] at h1
                  exact h1.low (Box5.bel (g := wr.heap.size) (op := pts[k].op) (x := pts[k].x) (y := pts[k].y) (n := pts[k].n) (nv := .slice An pts[k].next.length cn) (by assumption)) (Nat.le_refl _)) HSM.out hlt HNK.out).mono ?_); (rintro e w2 ⟨rfl, rfl⟩))
              | (go_at_call 83; go_must (refine (setBit_any _ _ _ _ _ _ hs6).mono ?_); (rintro e w2 ⟨rfl, hb4⟩)))
          have hbel : Below W.heap.size W w2 := Box5.bel (g := wr.heap.size) (op := pts[k].op) (x := pts[k].x) (y := pts[k].y) (n := pts[k].n) (nv := .slice An pts[k].next.length cn) (by assumption)
          have hrow2 := HRWW.out.low hbel HRWW.out.lt
          have hb2 := hba.trans (hbel.mono hba.size)
          have hck : w2.cell? ⟨w.heap.size, k, none⟩ = some (.int .i64 (m : Nat)) := by rw [hrow2.cell, iv_get hkn, hm]
          have hfr := hrow2.frozen k
          obtain ⟨r, hr⟩ : ∃ r, r = backP ts pts[k] ns := ⟨_, rfl⟩
          have hor : bits .or .i64 (usedP ts pts[k].op pts[k].x pts[k].y : Nat) (bits .andNot .i64 (orL ns pts[k].next : Nat) (setBitP pts[k].op pts[k].x : Nat)) = ((r : Nat) : Int) := by
            rw [andn_small ho64 hb64, or_small hu64 (andn_lt _ _), hr]; rfl
          rw [hor]
          have hupd := HFX.out.upd h6 (List.getElem?_eq_getElem hlt) hkn
          rw [← hr, ← hm] at hupd
          have HUPD := Lib.hid hupd
          have HR := Lib.hid hr
          have HM := Lib.hid hm
          have HROW := Lib.hid hrow2
          have HPG := Lib.hid (List.getElem?_eq_getElem hlt)
          clear hupd hr hm hrow2 hor hu64 ho64 hb64 hbel hba hnew hWlt
          have hs2 := hb2.size
          by_cases hrm : r = m
          · subst hrm
            go_wp2_with fail
            refine ⟨⟨bc, k, _, ns, rfl, rfl, by omega, by omega, by omega, HROW.out, HFX.out, HMX.out, fun h => ?_, hb2⟩, by simp [intOf] <;> omega⟩
            obtain ⟨e1, e2⟩ := HCX.out h
            refine ⟨e1, fun i p hi hp => ?_⟩
            by_cases hik : i = k
            · subst hik
              rw [HPG.out] at hp
              injection hp with hp
              subst hp
              rw [← e1, ← HM.out, ← HR.out]
            · exact e2 i p (by omega) hp
          · have hne : ((r : Int) != (m : Int)) = true := by simp; omega
            have HRM := Lib.hid hrm
            clear hrm
            go_wp2_with fail
            have hlt1 := HUPD.out.2 HRM.out
            refine ⟨⟨true, k, _, ns.set k r, rfl, rfl, by omega, by omega, by omega, by rw [← iv_set]; exact HROW.out.set_ k _, HUPD.out.1, fun _ => ?_, fun h => (by cases h), hb2.setCell (p := ⟨w.heap.size, k, none⟩) (Nat.le_refl _) _⟩, by simp [intOf] <;> omega⟩
            cases bc
            · have e1 := (HCX.out (by simp)).1
              rw [e1] at hlt1 ⊢
              exact hlt1
            · exact Nat.lt_trans hlt1 (HMX.out (by simp))

end Go.Proofs.Ytfioaohadanjmaa

namespace Go.Proofs.Ytfioaohadanjmaa
open Go.RowKit

theorem graphOk_nil {ts : List Int} {l : List St} : graphOk ts l [] = validP ts l := by simp [graphOk]

set_option maxHeartbeats 400000 in
theorem maybeSet_any (vg : Value) (ts : List Int) (pts : List Pt) (B : Nat) (w : World) (hg : GrS w B vg ts pts) (hB : B ≤ w.heap.size) (g : Good ts pts) :
    Calls Try.prog 45 #[vg] w (IntsRet w (msk (fwdL false ts pts 0))) := by
  have F := forward_may vg ts pts B 0 w hg hB g.h6 (by have := g.len; omega) (Nat.two_pow_pos _) g.next (fun p hp => (g.ok p hp).sets) g.pos
  have HF := Lib.hid F
  clear F
  have hmf : ∀ (fn : Fn) (first cap : Array Value) (w : World), (Instr.makeFunc fn first cap).run Try.prog w = .ok (.func fn first cap) w := fun _ _ _ _ => rfl
  go_enter Try.func45, Try.ntmps45
  go_wp2_with fail
  refine HF.out.mono ?_
  rintro e w1 ⟨v, rfl, h1, h2⟩
  go_wp2_with fail
  go_ret
  exact ⟨v, rfl, h1, h2⟩

set_option maxHeartbeats 400000 in
theorem alwaysSet_any (vg : Value) (ts : List Int) (pts : List Pt) (B given : Nat) (w : World) (hg : GrS w B vg ts pts) (hB : B ≤ w.heap.size) (g : Good ts pts) (hgv : given < 2 ^ ts.length) :
    Calls Try.prog 85 #[vg, .int .i64 (given : Nat)] w (IntsRet w (msk (fwdL true ts pts given))) := by
  have F := forward_always vg ts pts B given w hg hB g.h6 (by have := g.len; omega) hgv g.next (fun p hp => (g.ok p hp).sets) g.pos
  have HF := Lib.hid F
  clear F
  have hmf : ∀ (fn : Fn) (first cap : Array Value) (w : World), (Instr.makeFunc fn first cap).run Try.prog w = .ok (.func fn first cap) w := fun _ _ _ _ => rfl
  go_enter Try.func85, Try.ntmps85
  go_wp2_with fail
  refine HF.out.mono ?_
  rintro e w1 ⟨v, rfl, h1, h2⟩
  go_wp2_with fail
  go_ret
  exact ⟨v, rfl, h1, h2⟩

end Go.Proofs.Ytfioaohadanjmaa
