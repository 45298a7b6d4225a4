import Derived.Test.YtfioaohadanjmaaC25
import Derived.Test.YtfioaohadanjmaaC37
import Derived.Test.YtfioaohadanjmaaC38
set_option linter.unusedVariables false

/- Issues by regions: impl.graph.check, where the loans are regions. -/
namespace Go.Proofs.Ytfioaohadanjmaa
open Go.RowKit

/-- what the loans' function answers: six sets -/
def FrrRet (w : World) (ts : List Int) (pts : List Pt) (k : Nat) (e : Ending) (w' : World) : Prop :=
  ∃ a0 a1 a2 a3 a4 a5 : Nat, e = .returned (.agg #[.int .u64 (a0 : Nat), .int .u64 (a1 : Nat), .int .u64 (a2 : Nat), .int .u64 (a3 : Nat), .int .u64 (a4 : Nat), .int .u64 (a5 : Nat)]) ∧ (∀ u, u < 6 → ([a0, a1, a2, a3, a4, a5] : List Nat).getD u 0 < top64) ∧
    (∀ v e, v < 6 → ((([a0, a1, a2, a3, a4, a5] : List Nat).getD v 0).testBit e = true ↔ Rg (bds ts pts) v e)) ∧ Below w.heap.size w w'
theorem kpr_bits {ts : List Int} {pts : List Pt} {LV : Nat → Nat → Prop} {k lv s : Nat} {A : List Nat} (g : Good ts pts) (hk : k < pts.length) (hlv : ∀ v, v < ts.length → (lv.testBit v = true ↔ LV k v))
    (hA : ∀ v e, v < 6 → ((A.getD v 0).testBit e = true ↔ Rg (bds ts pts) v e))
    (hs : ∀ e, s.testBit e = true ↔ ∃ v, v < 6 ∧ (andn lv (takenP ts pts[k].op pts[k].x pts[k].y ||| setBitP pts[k].op pts[k].x)).testBit v = true ∧ (A.getD v 0).testBit e = true) (e : Nat) : s.testBit e = dec (KpR ts pts LV k e) := by
  rw [Bool.eq_iff_iff, dec_iff, hs e]
  constructor
  · rintro ⟨v, h1, h2, h3⟩
    have hfl := (hA v e h1).1 h3
    have hv := hfl.lt (bds_ok g)
    rw [andn_bit _ _ _ h1, Bool.and_eq_true, Bool.not_eq_true', Nat.testBit_or, Bool.or_eq_false_iff, taken_bit hv, setBit_bit] at h2
    exact ⟨pts[k], v, List.getElem?_eq_getElem hk, hv, (hlv v hv).1 h2.1, by simpa using h2.2.2, by simpa using h2.2.1, hfl⟩
  · rintro ⟨p, v, hp, hv, hn, h1, h2, hfl⟩
    rw [List.getElem?_eq_getElem hk] at hp
    injection hp with hp
    subst hp
    have hv6 : v < 6 := by have := g.h6; omega
    refine ⟨v, hv6, ?_, (hA v e hv6).2 hfl⟩
    rw [andn_bit _ _ _ hv6, Bool.and_eq_true, Bool.not_eq_true', Nat.testBit_or, Bool.or_eq_false_iff, taken_bit hv, setBit_bit]
    exact ⟨(hlv v hv).2 hn, by simpa using h2, by simpa using h1⟩
theorem cnr_bits {ts : List Int} {pts : List Pt} {LV : Nat → Nat → Prop} (g : Good ts pts) {k s q t pk : Nat} (hk : k < pts.length) (hp : ∀ e, pk.testBit e = dec (Pld ts pts k e)) (hs : ∀ e, s.testBit e = dec (KpR ts pts LV k e)) (hq : ∀ e, q.testBit e = (s.testBit e && pk.testBit e))
    (ht : ∀ e, t.testBit e = (q.testBit e && acB pts (accL ts pts[k].op pts[k].x pts[k].y (fwdM false ts pts 0 k).testBit) e)) : lst 64 t.testBit = cnfR ts pts LV k := by
  unfold cnfR
  have hn : pts.length ≤ 64 := by have := g.len; omega
  have he : accL ts pts[k].op pts[k].x pts[k].y (fwdM false ts pts 0 k).testBit = accL ts pts[k].op pts[k].x pts[k].y fun v => dec (Ac false ts pts 0 k v) := accL_congr (fun _ => (g.ok _ (List.getElem_mem hk)).sets) fun v hv => by
    unfold fwdM
    rw [bm_bit, decide_eq_true hv, Bool.true_and]
    cases dec (Ac false ts pts 0 k v) <;> rfl
  have e : ∀ e, t.testBit e = cfR ts pts LV k e := fun e => by
    unfold cfR
    rw [ht e, hq e, hs e, hp e, he, ptD_get hk]
  rw [← lst_congr fun i _ => e i, lst_more hn]
  intro e' h1 _
  rw [e]
  unfold cfR
  cases hp : dec (Pld ts pts k e')
  · simp
  · obtain ⟨⟨p, hp1, -⟩, -⟩ := (dec_iff.1 hp).loan
    have := (List.getElem?_eq_some_iff.1 hp1).1
    omega
set_option maxHeartbeats 8000000 in
set_option maxRecDepth 100000 in
theorem checkR_any (vg vl vc : Value) (fn : FuncId) (ts : List Int) (pts : List Pt) (B : Nat) (lvs : List Nat) (LV : Nat → Nat → Prop) (w : World) (hg : GrS w B vg ts pts) (hB : B ≤ w.heap.size) (gd : Good ts pts)
    (hl : IntS w B vl (msk lvs)) (hll : lvs.length = pts.length) (hl64 : ∀ m ∈ lvs, m < 64) (hLV : ∀ k, k < pts.length → ∀ v, v < ts.length → ((lvs.getD k 0).testBit v = true ↔ LV k v))
    (heg : ∀ args w, (callFunc fn args).run Try.prog w = .ok (.enter fn args) w)
    (hLF : ∀ k w', k < pts.length → Below w.heap.size w w' → Calls Try.prog fn #[.int .i64 (k : Nat), vc] w' (FrrRet w' ts pts k)) :
    Calls Try.prog 48 #[vg, vl, .func (.func fn) #[] #[vc]] w (CkRet w (chrL ts pts LV pts.length)) := by
  have HG := Lib.hid hg
  have GD := Lib.hid gd
  have HL := Lib.hid hl
  have HLV0 := Lib.hid hLV
  have HLF := Lib.hid hLF
  have HL64 := Lib.hid hl64
  have HLL := Lib.hid hll
  have h6 := gd.h6
  have hlen := gd.len
  obtain ⟨g, At, ct, vb, Al, cl, rfl, hgB, g0, g1, g2, ht, hp, htl, hpl'⟩ := hg.open_
  obtain ⟨Av, cv, rfl, hcv, -, -⟩ := hl
  rw [msk_len, hll] at hcv ⊢
  rw [msk_len, hll] at HL
  have HMS := Lib.hid ht
  clear gd hll hl64 hLV hLF ht
  go_enter Try.func48, Try.ntmps48
  go_wp2_with (at_builtin; fail)
  refine (alwaysSet_any _ ts pts B 0 w HG.out hB GD.out (Nat.two_pow_pos _)).mono ?_
  rintro e w1 ⟨v1, rfl, hi1, hb1⟩
  have HI1 := Lib.hid hi1
  have HB1 := Lib.hid hb1
  have hs1 := hb1.size
  clear hi1 hb1
  go_wp2_with (at_builtin; fail)
  refine (maybeSet_any _ ts pts B w1 (HG.out.low HB1.out hB) (by omega) GD.out).mono ?_
  rintro e w2 ⟨v2, rfl, hi2, hb2⟩
  have HI2 := Lib.hid hi2
  have HB2 := Lib.hid (HB1.out.trans (hb2.mono hs1))
  have HB12 := Lib.hid hb2
  have hs2 := hb2.size
  clear hi2 hb2
  go_wp2_with (at_builtin; fail)
  refine (placed_any _ ts pts B w2 (HG.out.low HB2.out hB) (by omega) GD.out).mono ?_
  rintro e w3 ⟨gp, os, rfl, hgp, hrp, hol, hosm, hopl, hb3⟩
  have HI1 := Lib.hid ((HI1.out.bel HB12.out).bel hb3)
  have HI2 := Lib.hid (HI2.out.bel hb3)
  have HB3 := Lib.hid (HB2.out.trans (hb3.mono HB2.out.size))
  have HRP := Lib.hid hrp
  have HOP := Lib.hid hopl
  have HOS := Lib.hid hosm
  have hs3 := hb3.size
  have hgpl := hrp.lt
  obtain ⟨Aa, ca, rfl, hca, -, -⟩ := HI1.out
  obtain ⟨Am, cm, rfl, hcm, -, -⟩ := HI2.out
  rw [msk_len, fwdL_len] at hca hcm HI1 HI2
  rw [show (msk (fwdL true ts pts 0)).length = pts.length by rw [msk_len, fwdL_len], show (msk (fwdL false ts pts 0)).length = pts.length by rw [msk_len, fwdL_len]]
  have g2' := (HB3.out.cell (p := ⟨g, 2, none⟩) (by show g < _; omega)).trans g2
  clear hrp hopl hosm hb3
  have HN := Lib.hid (OIs.nil w3 w3.heap.size)
  go_wp2_with (at_builtin; fail)
  go_loopw [10, 29] (fun v i wr => ∃ (k : Nat), k ≤ pts.length ∧ i = .int .i64 k ∧ OIs wr w3.heap.size v (chrL ts pts LV k) ∧ Below w3.heap.size w3 wr) (fun _ i _ => pts.length - (intOf i).toNat)
  case atStart => exact ⟨0, Nat.zero_le _, rfl, HN.out, Below.refl _ _⟩
  case round =>
    obtain ⟨k, hk, rfl, hO, hbw⟩ := hrel
    have HO := Lib.hid hO
    have HBW := Lib.hid hbw
    have hsw := hbw.size
    obtain ⟨Ao, co, rfl, hco⟩ := hO.slice
    clear hO hbw
    by_cases hlt : k < pts.length
    · obtain ⟨b, off, c, nv, e, hb, hc, hl, hnx, z0, z1, z2, z3, z4⟩ := hp.get hlt
      injection e with e1 e9 e2
      subst e1 e2
      clear e9
      have hbB : b < w.heap.size := by omega
      obtain ⟨An, cn, rfl, hcn, hln, -⟩ := hnx
      simp only [List.length_map] at hcn hln z4
      have HBA := Lib.hid (HB3.out.trans (HBW.out.mono (by omega)))
      have y0 := (HBA.out.cell (p := ⟨b, off + k * 5, none⟩) hbB).trans z0
      have y1 := (HBA.out.cell (p := ⟨b, off + k * 5 + 1, none⟩) hbB).trans z1
      have y2 := (HBA.out.cell (p := ⟨b, off + k * 5 + 2, none⟩) hbB).trans z2
      have y3 := (HBA.out.cell (p := ⟨b, off + k * 5 + 3, none⟩) hbB).trans z3
      have y4 := (HBA.out.cell (p := ⟨b, off + k * 5 + 4, none⟩) hbB).trans z4
      have g2' := (HBA.out.cell (p := ⟨g, 2, none⟩) (by show g < _; omega)).trans g2
      have HUL := Lib.hid (uns_bits GD.out hlt)
      have HCL := Lib.hid (fun s q t h1 h2 h3 => cnr_bits (LV := LV) (s := s) (q := q) (t := t) (pk := os.getD k 0) GD.out hlt (fun e => by rw [Bool.eq_iff_iff, dec_iff, ← HOP.out k e]; rfl) h1 h2 h3)
      have hu64 := usedP_lt h6 pts[k].op pts[k].x pts[k].y
      obtain ⟨al, hal'⟩ : ∃ al, al = fwdM true ts pts 0 k := ⟨_, rfl⟩
      have hal64 : al < 64 := by rw [hal']; exact Nat.lt_of_lt_of_le (bm_lt _ _) (Nat.pow_le_pow_right (n := 2) (by omega) h6)
      obtain ⟨mm, hmm'⟩ : ∃ mm, mm = fwdM false ts pts 0 k := ⟨_, rfl⟩
      have hmm64 : mm < 64 := by rw [hmm']; exact Nat.lt_of_lt_of_le (bm_lt _ _) (Nat.pow_le_pow_right (n := 2) (by omega) h6)
      obtain ⟨pk, hpk'⟩ : ∃ pk, pk = os.getD k 0 := ⟨_, rfl⟩
      have hpk64 : pk < top64 := by rw [hpk']; exact getD_small HOS.out _
      obtain ⟨lv, hlv'⟩ : ∃ lv, lv = lvs.getD k 0 := ⟨_, rfl⟩
      have hlv64 : lv < 64 := by
        rw [hlv', getD_lt (by have := HLL.out; omega)]; exact HL64.out _ (List.getElem_mem _)
      have HLV := Lib.hid (HLV0.out k hlt)
      rw [← hlv'] at HLV
      rw [← hmm', ← hpk'] at HCL
      rw [← hal'] at HUL
      obtain ⟨ba, oa, rfl, hba, da0⟩ := HI1.out.cellN (k := k) (by rw [fwdL_len]; exact hlt)
      obtain ⟨bm, om, rfl, hbm, dm0⟩ := HI2.out.cellN (k := k) (by rw [fwdL_len]; exact hlt)
      obtain ⟨bv, ov, rfl, hbv, dv0⟩ := HL.out.cellN (k := k) (by have := HLL.out; omega)
      rw [fwdL_get hlt, ← hal'] at da0
      rw [fwdL_get hlt, ← hmm'] at dm0
      rw [← hlv'] at dv0
      have dp0 := HRP.out.cell k
      rw [uv_get (by omega), ← hpk'] at dp0
      have HPKN : Hid (ptD pts k = pts[k]) := Lib.hid (ptD_get hlt)
      have HXSZ := Lib.hid (isR_le ts pts LV k)
      have HCSZ := Lib.hid (chrL_le ts pts LV k)
      obtain ⟨L0, hL0⟩ : ∃ L, L = chrL ts pts LV k := ⟨_, rfl⟩
      obtain ⟨U, hU⟩ : ∃ U, U = unsL ts pts k := ⟨_, rfl⟩
      obtain ⟨C, hC⟩ : ∃ C, C = cnfR ts pts LV k := ⟨_, rfl⟩
      have HSUC : Hid (chrL ts pts LV (k + 1) = L0 ++ isU k U ++ isC pts k C) := Lib.hid (by rw [chrL_succ, hL0, hU, hC, List.append_assoc]; rfl)
      have HL0L : Hid (L0.length ≤ 5000) := Lib.hid (by
        rw [hL0]
        have h1 := chrL_le ts pts LV k
        have h2 : k * (ts.length + pts.length) ≤ 61 * 67 := Nat.mul_le_mul (by omega) (by omega)
        omega)
      have HUL6 : Hid (U.length ≤ 6) := Lib.hid (by rw [hU]; have := lst_len ts.length (unB ts pts k); unfold unsL; omega)
      have HCLL : Hid (C.length ≤ 61) := Lib.hid (by rw [hC]; have := lst_len pts.length (cfR ts pts LV k); unfold cnfR; omega)
      have HCIN : Hid (∀ j (h : j < C.length), ∃ e : Nat, e < pts.length ∧ C.getD j 0 = ((e : Nat) : Int)) := Lib.hid fun j hj => by
        have h1 : C.getD j 0 ∈ C := by rw [getD_lt hj]; exact List.getElem_mem hj
        generalize C.getD j 0 = x at *
        rw [hC] at h1
        unfold cnfR at h1
        obtain ⟨e, he, -, h2⟩ := lst_mem.1 h1
        exact ⟨e, he, h2⟩
      rw [← hL0] at HO ⊢
      rw [← hU] at HUL
      rw [← hC] at HCL
      obtain ⟨ub, hub'⟩ : ∃ ub, ub = andn (usedP ts pts[k].op pts[k].x pts[k].y) al := ⟨_, rfl⟩
      have hub64 : ub < 64 := by rw [hub']; exact andn_lt _ _
      have HUB : Hid (lst 6 ub.testBit = U) := Lib.hid (by rw [hub']; exact HUL.out)
      have hst : bits .andNot .i64 (usedP ts pts[k].op pts[k].x pts[k].y : Nat) (al : Nat) = ((ub : Nat) : Int) := by rw [hub']; exact andn_small hu64 hal64
      generalize hPk : pts[k] = P at *
      have HPK := Lib.hid hPk
      clear hPk
      have HO5 := Lib.hid (HO.out.bel (bel_a wr (.cells #[.int .i64 P.op, .int .i64 P.x, .int .i64 P.y, .int .i64 P.n, .slice An P.next.length cn] 62)))
      have HB5 := Lib.hid (HBW.out.alloc hsw (.cells #[.int .i64 P.op, .int .i64 P.x, .int .i64 P.y, .int .i64 P.n, .slice An P.next.length cn] 62))
      have HX5 := Lib.hid (RowB.new wr [.int .i64 P.op, .int .i64 P.x, .int .i64 P.y, .int .i64 P.n, .slice An P.next.length cn] 62)
      clear hub' hL0 hU hC hal' hmm' hpk' hlv' z0 z1 z2 z3 z4
      go_wp2_with (at_builtin; fail)
      generalize wr.alloc (.cells #[.int .i64 P.op, .int .i64 P.x, .int .i64 P.y, .int .i64 P.n, .slice An P.next.length cn] 62) = w5 at *
      obtain ⟨bx, hbx⟩ : ∃ bx, bx = wr.heap.size := ⟨_, rfl⟩
      rw [← hbx] at HX5 ⊢
      clear hbx y0 y1 y2 y3 y4
      have p0 := HX5.out.cell 0
      have p1 := HX5.out.cell 1
      have p2 := HX5.out.cell 2
      have p3 := HX5.out.cell 3
      have p4 := HX5.out.cell 4
      simp only [List.getElem?_cons_zero, List.getElem?_cons_succ] at p0 p1 p2 p3 p4
      have hxl := HX5.out.lt
      have hs5 := HB5.out.size
      have HG5 := Lib.hid (HG.out.low (HB3.out.trans (HB5.out.mono (by omega))) hB)
      have da := (HB5.out.cell (p := ⟨ba, oa + k, none⟩) hba).trans da0
      have hal : ba < w5.heap.size := by omega
      have BEL : Hid (∀ w', w'.cell? ⟨bx, 0, none⟩ = some (.int .i64 P.op) ∧ w'.cell? ⟨bx, 1, none⟩ = some (.int .i64 P.x) ∧ w'.cell? ⟨bx, 2, none⟩ = some (.int .i64 P.y) ∧ w'.cell? ⟨bx, 3, none⟩ = some (.int .i64 P.n) ∧ w'.cell? ⟨bx, 4, none⟩ = some (.slice An P.next.length cn) ∧ w'.cell? ⟨ba, oa + k, none⟩ = some (.int .i64 (al : Nat)) ∧ Below w5.heap.size w5 w' → Below w5.heap.size w5 w') := Lib.hid fun _ h => h.2.2.2.2.2.2
      refine wp_region_held_drew (S := (fun w' => w'.cell? ⟨bx, 0, none⟩ = some (.int .i64 P.op) ∧ w'.cell? ⟨bx, 1, none⟩ = some (.int .i64 P.x) ∧ w'.cell? ⟨bx, 2, none⟩ = some (.int .i64 P.y) ∧ w'.cell? ⟨bx, 3, none⟩ = some (.int .i64 P.n) ∧ w'.cell? ⟨bx, 4, none⟩ = some (.slice An P.next.length cn) ∧ w'.cell? ⟨ba, oa + k, none⟩ = some (.int .i64 (al : Nat)) ∧ Below w5.heap.size w5 w')) (by kernel_rfl) ?_ (fun hHeld => ?_)
      · exact ⟨p0, p1, p2, p3, p4, da, (Below.refl _ _).drew⟩
      refine wpAnyH_take (i := 0) (oi := ⟨some 34, _, _, _, _, _⟩) (v := ?_) rfl (by kernel_rfl) (by kernel_rfl) (by kernel_rfl) (fun _ _ _ h => h) (Or.inl ⟨by rfl, fun w' hSw => ?_⟩) (by assumption) ?_
      rotate_left
      · (try dsimp only at hSw); go_simp; (try with_reducible rfl)
      (try simp only [Act.put, List.setIfInBounds_toArray, List.set_cons_zero, List.set_cons_succ])
      refine wpAnyH_take (i := 1) (oi := ⟨some 35, _, _, _, _, _⟩) (v := ?_) rfl (by kernel_rfl) (by kernel_rfl) (by kernel_rfl) (fun _ _ _ h => h) (Or.inl ⟨by rfl, fun w' hSw => ?_⟩) (by assumption) ?_
      rotate_left
      · (try dsimp only at hSw); go_simp; (try with_reducible rfl)
      (try simp only [Act.put, List.setIfInBounds_toArray, List.set_cons_zero, List.set_cons_succ])
      refine wpAnyH_take (i := 3) (oi := ⟨some 37, _, _, _, _, _⟩) (v := ?_) rfl (by kernel_rfl) (by kernel_rfl) (by kernel_rfl) (fun _ _ _ h => h) (Or.inl ⟨by rfl, fun w' hSw => ?_⟩) (by assumption) ?_
      rotate_left
      · (try dsimp only at hSw); go_simp; (try with_reducible rfl)
      (try simp only [Act.put, List.setIfInBounds_toArray, List.set_cons_zero, List.set_cons_succ])
      refine wpAnyH_take (i := 4) (oi := ⟨some 38, _, _, _, _, _⟩) (v := ?_) rfl (by kernel_rfl) (by kernel_rfl) (by kernel_rfl) (fun _ _ _ h => h) (Or.inl ⟨by rfl, fun w' hSw => ?_⟩) (by assumption) ?_
      rotate_left
      · (try dsimp only at hSw); go_simp; (try with_reducible rfl)
      (try simp only [Act.put, List.setIfInBounds_toArray, List.set_cons_zero, List.set_cons_succ])
      refine wpAnyH_take (i := 5) (oi := ⟨some 39, _, _, _, _, _⟩) (v := ?_) rfl (by kernel_rfl) (by kernel_rfl) (by kernel_rfl) (fun _ _ _ h => h) (Or.inl ⟨by rfl, fun w' hSw => ?_⟩) (by assumption) ?_
      rotate_left
      · (try dsimp only at hSw); go_simp; (try with_reducible rfl)
      (try simp only [Act.put, List.setIfInBounds_toArray, List.set_cons_zero, List.set_cons_succ])
      refine wpAnyH_take (i := 6) (oi := ⟨some 40, _, _, _, _, _⟩) (v := ?_) rfl (by kernel_rfl) (by kernel_rfl) (by kernel_rfl) (fun _ _ _ h => h) (Or.inl ⟨by rfl, fun w' hSw => ?_⟩) (by assumption) ?_
      rotate_left
      · (try dsimp only at hSw); go_simp; (try with_reducible rfl)
      (try simp only [Act.put, List.setIfInBounds_toArray, List.set_cons_zero, List.set_cons_succ])
      refine wpAnyH_take (i := 10) (oi := ⟨some 44, _, _, _, _, _⟩) (v := ?_) rfl (by kernel_rfl) (by kernel_rfl) (by kernel_rfl) (fun _ _ _ h => h) (Or.inl ⟨by rfl, fun w' hSw => ?_⟩) (by assumption) ?_
      rotate_left
      · (try dsimp only at hSw); go_simp; (try with_reducible rfl)
      (try simp only [Act.put, List.setIfInBounds_toArray, List.set_cons_zero, List.set_cons_succ])
      refine wpAnyH_ready (rs := [2]) (by kernel_rfl) (by simp) ?_
      refine (AllReadyH.cons (o := ⟨some 36, _, _, _, _, _⟩) rfl (fun K hK => ?_) AllReadyH.nil)
      go_simp
      (refine (used_any _ ts pts B _ _ _ _ _ _ (HG5.out.low (BEL.out _ (by assumption)) (by omega)) (by have := (BEL.out _ (by assumption)).size; omega) h6).mono ?_)
      (rintro e w6 ⟨rfl, hb6⟩)
      (have BX6 := Lib.hid ((BEL.out _ (by assumption)).trans (hb6.mono (BEL.out _ (by assumption)).size)))
      clear hb6
      go_simp
      refine hK.out _ _ ?_ (fun hHeld => ?_)
      · exact ⟨belC BX6.out p0 hxl, belC BX6.out p1 hxl, belC BX6.out p2 hxl, belC BX6.out p3 hxl, belC BX6.out p4 hxl, belC BX6.out da hal, BX6.out⟩
      clear hK K
      (try simp only [Act.put, List.setIfInBounds_toArray, List.set_cons_zero, List.set_cons_succ])
      refine wpAnyH_take (i := 7) (oi := ⟨some 41, _, _, _, _, _⟩) (v := ?_) rfl (by kernel_rfl) (by kernel_rfl) (by kernel_rfl) (fun _ _ _ h => h) (Or.inl ⟨by rfl, fun w' hSw => ?_⟩) (by assumption) ?_
      rotate_left
      · (try dsimp only at hSw); go_simp; (try with_reducible rfl)
      (try simp only [Act.put, List.setIfInBounds_toArray, List.set_cons_zero, List.set_cons_succ])
      refine wpAnyH_ready (rs := [8]) (by kernel_rfl) (by simp) ?_
      refine (AllReadyH.cons (o := ⟨some 42, _, _, _, _, _⟩) rfl (fun K hK => ?_) AllReadyH.nil)
      go_simp
      (refine (bits_own ub hub64 _).mono ?_)
      (rintro e w7 ⟨v7, rfl, hi7, hb7⟩)
      (have BX7 := Lib.hid (BX6.out.trans (hb7.mono BX6.out.size)))
      (rw [HUB.out] at hi7)
      (have hi7 := hi7.base BX6.out.size)
      (have HI7 := Lib.hid hi7)
      (obtain ⟨A7, c7, rfl, hc7⟩ := hi7.slice)
      clear hb7
      go_simp
      refine hK.out _ _ ?_ (fun hHeld => ?_)
      · exact ⟨belC BX7.out p0 hxl, belC BX7.out p1 hxl, belC BX7.out p2 hxl, belC BX7.out p3 hxl, belC BX7.out p4 hxl, belC BX7.out da hal, BX7.out⟩
      clear hK K
      (try simp only [Act.put, List.setIfInBounds_toArray, List.set_cons_zero, List.set_cons_succ])
      refine wpAnyH_take (i := 9) (oi := ⟨some 43, _, _, _, _, _⟩) (v := ?_) rfl (by kernel_rfl) (by kernel_rfl) (by kernel_rfl) (fun _ _ _ h => h) (Or.inl ⟨by rfl, fun w' hSw => ?_⟩) (by assumption) ?_
      rotate_left
      · (try dsimp only at hSw); go_simp; (try with_reducible rfl)
      (try simp only [Act.put, List.setIfInBounds_toArray, List.set_cons_zero, List.set_cons_succ])
      refine wpAnyH_done (by kernel_rfl) ?_ _
      have HO7 := Lib.hid (HO5.out.bel BX7.out)
      have HB7 := Lib.hid (HB5.out.trans (BX7.out.mono hs5))
      have hs7 := HB7.out.size
      clear p0 p1 p2 p3 p4 da da0 BEL
      go_wp2_with (at_builtin; fail)
      go_loopw [10, 44] (fun v i wx => ∃ (j : Nat), j ≤ U.length ∧ i = .int .i64 j ∧ OIs wx w3.heap.size v (L0 ++ isU k (U.take j)) ∧ OInts wx w5.heap.size (.slice A7 U.length c7) U ∧ Below w3.heap.size w3 wx) (fun _ i _ => U.length - (intOf i).toNat)
      case atStart => exact ⟨0, Nat.zero_le _, rfl, by simpa [isU] using HO7.out, HI7.out, HB7.out⟩
      case round =>
        obtain ⟨j, hj, rfl, hOj, hI, hbj⟩ := hrel
        have HOJ := Lib.hid hOj
        have HIJ := Lib.hid hI
        have HBJ := Lib.hid hbj
        have hsj := hbj.size
        obtain ⟨Aj, cj, rfl, hcj⟩ := hOj.slice
        clear hOj hbj
        by_cases hjl : j < U.length
        · obtain ⟨g7, rfl, hg7, hg7l, -, d7⟩ := hI.at_ hjl
          have HTK : Hid (L0 ++ isU k (U.take (j + 1)) = L0 ++ isU k (U.take j) ++ [⟨((k : Nat) : Int), 1, U.getD j 0⟩]) := Lib.hid (by rw [take_succ_get U j hjl, isU_snoc, List.append_assoc, getD_lt hjl])
          have HLN : Hid ((L0 ++ isU k (U.take j)).length ≤ 5010) := Lib.hid (by rw [List.length_append, isU_len, List.length_take]; have := HL0L.out; have := HUL6.out; omega)
          have HJL := Lib.hid hjl
          generalize U.getD j 0 = uj at *
          generalize hLJ : L0 ++ isU k (U.take j) = LJ at *
          clear hLJ hI
          have hul6 := HUL6.out
          go_wp2_with (at_builtin; go_must (refine wpList_push_isCells rfl (.tmp 48) (.tmp 52) rfl HOJ.out (by omega) (by have := HLN.out; omega) _ _ _ rfl rfl ?_); intro v' w' hP' hE' hK')
          have hjl := HJL.out
          exact ⟨⟨j + 1, by omega, by go_num, by rw [HTK.out]; exact hP', HIJ.out.keepT hK' (by decide), HBJ.out.trans hE'⟩, by simp [intOf] <;> omega⟩
        · have hje : j = U.length := by omega
          have htk : U.take j = U := by rw [hje]; exact List.take_length
          rw [htk] at HOJ ⊢
          clear hI htk hje hcj
          obtain ⟨L1, hL1⟩ : ∃ L1, L1 = L0 ++ isU k U := ⟨_, rfl⟩
          have HL1L : Hid (L1.length ≤ 5010) := Lib.hid (by rw [hL1, List.length_append, isU_len]; have := HL0L.out; have := HUL6.out; omega)
          have HSUC2 : Hid (chrL ts pts LV (k + 1) = L1 ++ isC pts k C) := Lib.hid (by rw [HSUC.out, hL1])
          rw [← hL1] at HOJ ⊢
          clear hL1
          have HB9 := Lib.hid (HB3.out.trans (HBJ.out.mono (by omega)))
          have HG9 := Lib.hid (HG.out.low HB9.out hB)
          have hs9 := HB9.out.size
          have dm := (HBJ.out.cell (p := ⟨bm, om + k, none⟩) hbm).trans dm0
          have dv := (HB9.out.cell (p := ⟨bv, ov + k, none⟩) (by show bv < _; omega)).trans dv0
          have dp := (HBJ.out.cell (p := ⟨gp, k, none⟩) hgpl).trans dp0
          have hml : bm < wr.heap.size := by omega
          have hvl : bv < wr.heap.size := by omega
          have hpl9 : gp < wr.heap.size := by omega
          have BEL : Hid (∀ w', w'.cell? ⟨bm, om + k, none⟩ = some (.int .i64 (mm : Nat)) ∧ w'.cell? ⟨bv, ov + k, none⟩ = some (.int .i64 (lv : Nat)) ∧ w'.cell? ⟨gp, k, none⟩ = some (.int .u64 (pk : Nat)) ∧ Below wr.heap.size wr w' → Below wr.heap.size wr w') := Lib.hid fun _ h => h.2.2.2
          clear dm0 dv0 dp0
          go_wp2_with (at_builtin; fail)
          refine wp_region_held_drew (S := (fun w' => w'.cell? ⟨bm, om + k, none⟩ = some (.int .i64 (mm : Nat)) ∧ w'.cell? ⟨bv, ov + k, none⟩ = some (.int .i64 (lv : Nat)) ∧ w'.cell? ⟨gp, k, none⟩ = some (.int .u64 (pk : Nat)) ∧ Below wr.heap.size wr w')) (by kernel_rfl) ?_ (fun hHeld => ?_)
          · exact ⟨dm, dv, dp, (Below.refl _ _).drew⟩
          refine wpAnyH_take (i := 0) (oi := ⟨some 55, _, _, _, _, _⟩) (v := ?_) rfl (by kernel_rfl) (by kernel_rfl) (by kernel_rfl) (fun _ _ _ h => h) (Or.inl ⟨by rfl, fun w' hSw => ?_⟩) (by assumption) ?_
          rotate_left
          · (try dsimp only at hSw); go_simp; (try with_reducible rfl)
          (try simp only [Act.put, List.setIfInBounds_toArray, List.set_cons_zero, List.set_cons_succ])
          refine wpAnyH_take (i := 1) (oi := ⟨some 56, _, _, _, _, _⟩) (v := ?_) rfl (by kernel_rfl) (by kernel_rfl) (by kernel_rfl) (fun _ _ _ h => h) (Or.inl ⟨by rfl, fun w' hSw => ?_⟩) (by assumption) ?_
          rotate_left
          · (try dsimp only at hSw); go_simp; (try with_reducible rfl)
          (try simp only [Act.put, List.setIfInBounds_toArray, List.set_cons_zero, List.set_cons_succ])
          refine wpAnyH_take (i := 2) (oi := ⟨some 57, _, _, _, _, _⟩) (v := ?_) rfl (by kernel_rfl) (by kernel_rfl) (by kernel_rfl) (fun _ _ _ h => h) (Or.inl ⟨by rfl, fun w' hSw => ?_⟩) (by assumption) ?_
          rotate_left
          · (try dsimp only at hSw); go_simp; (try with_reducible rfl)
          (try simp only [Act.put, List.setIfInBounds_toArray, List.set_cons_zero, List.set_cons_succ])
          refine wpAnyH_take (i := 3) (oi := ⟨some 58, _, _, _, _, _⟩) (v := ?_) rfl (by kernel_rfl) (by kernel_rfl) (by kernel_rfl) (fun _ _ _ h => h) (Or.inl ⟨by rfl, fun w' hSw => ?_⟩) (by assumption) ?_
          rotate_left
          · (try dsimp only at hSw); go_simp; (try with_reducible rfl)
          (try simp only [Act.put, List.setIfInBounds_toArray, List.set_cons_zero, List.set_cons_succ])
          refine wpAnyH_take (i := 4) (oi := ⟨some 59, _, _, _, _, _⟩) (v := ?_) rfl (by kernel_rfl) (by kernel_rfl) (by kernel_rfl) (fun _ _ _ h => h) (Or.inl ⟨by rfl, fun w' hSw => ?_⟩) (by assumption) ?_
          rotate_left
          · (try dsimp only at hSw); go_simp; (try with_reducible rfl)
          (try simp only [Act.put, List.setIfInBounds_toArray, List.set_cons_zero, List.set_cons_succ])
          refine wpAnyH_take (i := 5) (oi := ⟨some 60, _, _, _, _, _⟩) (v := ?_) rfl (by kernel_rfl) (by kernel_rfl) (by kernel_rfl) (fun _ _ _ h => h) (Or.inl ⟨by rfl, fun w' hSw => ?_⟩) (by assumption) ?_
          rotate_left
          · (try dsimp only at hSw); go_simp; (try with_reducible rfl)
          (try simp only [Act.put, List.setIfInBounds_toArray, List.set_cons_zero, List.set_cons_succ])
          refine wpAnyH_take (i := 6) (oi := ⟨some 61, _, _, _, _, _⟩) (v := ?_) rfl (by kernel_rfl) (by kernel_rfl) (by kernel_rfl) (fun _ _ _ h => h) (Or.inl ⟨by rfl, fun w' hSw => ?_⟩) (by assumption) ?_
          rotate_left
          · (try dsimp only at hSw); go_simp; (try with_reducible rfl)
          (try simp only [Act.put, List.setIfInBounds_toArray, List.set_cons_zero, List.set_cons_succ])
          refine wpAnyH_take (i := 7) (oi := ⟨some 62, _, _, _, _, _⟩) (v := ?_) rfl (by kernel_rfl) (by kernel_rfl) (by kernel_rfl) (fun _ _ _ h => h) (Or.inl ⟨by rfl, fun w' hSw => ?_⟩) (by assumption) ?_
          rotate_left
          · (try dsimp only at hSw); go_simp; (try with_reducible rfl)
          (try simp only [Act.put, List.setIfInBounds_toArray, List.set_cons_zero, List.set_cons_succ])
          refine wpAnyH_take (i := 8) (oi := ⟨some 63, _, _, _, _, _⟩) (v := ?_) rfl (by kernel_rfl) (by kernel_rfl) (by kernel_rfl) (fun _ _ _ h => h) (Or.inl ⟨by rfl, fun w' hSw => ?_⟩) (by assumption) ?_
          rotate_left
          · (try dsimp only at hSw); go_simp; (try with_reducible rfl)
          (try simp only [Act.put, List.setIfInBounds_toArray, List.set_cons_zero, List.set_cons_succ])
          refine wpAnyH_take (i := 9) (oi := ⟨some 64, _, _, _, _, _⟩) (v := ?_) rfl (by kernel_rfl) (by kernel_rfl) (by kernel_rfl) (fun _ _ _ h => h) (Or.inl ⟨by rfl, fun w' hSw => ?_⟩) (by assumption) ?_
          rotate_left
          · (try dsimp only at hSw); go_simp; (try with_reducible rfl)
          (try simp only [Act.put, List.setIfInBounds_toArray, List.set_cons_zero, List.set_cons_succ])
          refine wpAnyH_take (i := 10) (oi := ⟨some 65, _, _, _, _, _⟩) (v := ?_) rfl (by kernel_rfl) (by kernel_rfl) (by kernel_rfl) (fun _ _ _ h => h) (Or.inl ⟨by rfl, fun w' hSw => ?_⟩) (by assumption) ?_
          rotate_left
          · (try dsimp only at hSw); go_simp; (try with_reducible rfl)
          (try simp only [Act.put, List.setIfInBounds_toArray, List.set_cons_zero, List.set_cons_succ])
          refine wpAnyH_take (i := 11) (oi := ⟨some 66, _, _, _, _, _⟩) (v := ?_) rfl (by kernel_rfl) (by kernel_rfl) (by kernel_rfl) (fun _ _ _ h => h) (Or.inl ⟨by rfl, fun w' hSw => ?_⟩) (by assumption) ?_
          rotate_left
          · (try dsimp only at hSw); go_simp; (try with_reducible rfl)
          (try simp only [Act.put, List.setIfInBounds_toArray, List.set_cons_zero, List.set_cons_succ])
          refine wpAnyH_take (i := 12) (oi := ⟨some 67, _, _, _, _, _⟩) (v := ?_) rfl (by kernel_rfl) (by kernel_rfl) (by kernel_rfl) (fun _ _ _ h => h) (Or.inl ⟨by rfl, fun w' hSw => ?_⟩) (by assumption) ?_
          rotate_left
          · (try dsimp only at hSw); go_simp; (try with_reducible rfl)
          (try simp only [Act.put, List.setIfInBounds_toArray, List.set_cons_zero, List.set_cons_succ])
          refine wpAnyH_take (i := 13) (oi := ⟨some 68, _, _, _, _, _⟩) (v := ?_) rfl (by kernel_rfl) (by kernel_rfl) (by kernel_rfl) (fun _ _ _ h => h) (Or.inl ⟨by rfl, fun w' hSw => ?_⟩) (by assumption) ?_
          rotate_left
          · (try dsimp only at hSw); go_simp; (try with_reducible rfl)
          (try simp only [Act.put, List.setIfInBounds_toArray, List.set_cons_zero, List.set_cons_succ])
          refine wpAnyH_take (i := 16) (oi := ⟨some 71, _, _, _, _, _⟩) (v := ?_) rfl (by kernel_rfl) (by kernel_rfl) (by kernel_rfl) (fun _ _ _ h => h) (Or.inl ⟨by rfl, fun w' hSw => ?_⟩) (by assumption) ?_
          rotate_left
          · (try dsimp only at hSw); go_simp; (try with_reducible rfl)
          (try simp only [Act.put, List.setIfInBounds_toArray, List.set_cons_zero, List.set_cons_succ])
          refine wpAnyH_take (i := 17) (oi := ⟨some 72, _, _, _, _, _⟩) (v := ?_) rfl (by kernel_rfl) (by kernel_rfl) (by kernel_rfl) (fun _ _ _ h => h) (Or.inl ⟨by rfl, fun w' hSw => ?_⟩) (by assumption) ?_
          rotate_left
          · (try dsimp only at hSw); go_simp; (try with_reducible rfl)
          (try simp only [Act.put, List.setIfInBounds_toArray, List.set_cons_zero, List.set_cons_succ])
          refine wpAnyH_take (i := 18) (oi := ⟨some 73, _, _, _, _, _⟩) (v := ?_) rfl (by kernel_rfl) (by kernel_rfl) (by kernel_rfl) (fun _ _ _ h => h) (Or.inl ⟨by rfl, fun w' hSw => ?_⟩) (by assumption) ?_
          rotate_left
          · (try dsimp only at hSw); go_simp; (try with_reducible rfl)
          (try simp only [Act.put, List.setIfInBounds_toArray, List.set_cons_zero, List.set_cons_succ])
          refine wpAnyH_take (i := 19) (oi := ⟨some 74, _, _, _, _, _⟩) (v := ?_) rfl (by kernel_rfl) (by kernel_rfl) (by kernel_rfl) (fun _ _ _ h => h) (Or.inl ⟨by rfl, fun w' hSw => ?_⟩) (by assumption) ?_
          rotate_left
          · (try dsimp only at hSw); go_simp; (try with_reducible rfl)
          (try simp only [Act.put, List.setIfInBounds_toArray, List.set_cons_zero, List.set_cons_succ])
          refine wpAnyH_take (i := 24) (oi := ⟨some 79, _, _, _, _, _⟩) (v := ?_) rfl (by kernel_rfl) (by kernel_rfl) (by kernel_rfl) (fun _ _ _ h => h) (Or.inl ⟨by rfl, fun w' hSw => ?_⟩) (by assumption) ?_
          rotate_left
          · (try dsimp only at hSw); go_simp; (try with_reducible rfl)
          (try simp only [Act.put, List.setIfInBounds_toArray, List.set_cons_zero, List.set_cons_succ])
          refine wpAnyH_ready (rs := [14]) (by kernel_rfl) (by simp) ?_
          refine (AllReadyH.cons (o := ⟨some 69, _, _, _, _, _⟩) rfl (fun K hK => ?_) AllReadyH.nil)
          go_simp
          (refine (HLF.out k _ (by assumption) (HB9.out.trans ((BEL.out _ (by assumption)).mono HB9.out.size))).mono ?_)
          (rintro e w10 ⟨a0, a1, a2, a3, a4, a5, rfl, ha64, hab, hb10⟩)
          (have BX10 := Lib.hid ((BEL.out _ (by assumption)).trans (hb10.mono (BEL.out _ (by assumption)).size)))
          (have HAB := Lib.hid hab)
          clear hab hb10
          go_simp
          refine hK.out _ _ ?_ (fun hHeld => ?_)
          · exact ⟨belC BX10.out dm hml, belC BX10.out dv hvl, belC BX10.out dp hpl9, BX10.out⟩
          clear hK K
          (try simp only [Act.put, List.setIfInBounds_toArray, List.set_cons_zero, List.set_cons_succ])
          refine wpAnyH_ready (rs := [15]) (by kernel_rfl) (by simp) ?_
          refine (AllReadyH.cons (o := ⟨some 70, _, _, _, _, _⟩) rfl (fun K hK => ?_) AllReadyH.nil)
          go_simp
          (refine (kept_any _ ts pts B _ (HG9.out.low BX10.out (by omega)) (by have := BX10.out.size; omega) GD.out k (by assumption) lv hlv64 a0 a1 a2 a3 a4 a5 ha64).mono ?_)
          (rintro e w11 ⟨s, rfl, hs64, hsb, hb11⟩)
          (have BX11 := Lib.hid (BX10.out.trans (hb11.mono BX10.out.size)))
          (have HSB : Hid (∀ e, s.testBit e = dec (KpR ts pts LV k e)) := Lib.hid (kpr_bits GD.out (by assumption) HLV.out HAB.out hsb))
          (obtain ⟨q, hq⟩ : ∃ q, q = s &&& pk := ⟨_, rfl⟩)
          (have hand : bits .and .u64 (s : Int) (pk : Int) = ((q : Nat) : Int) := by (rw [hq]; exact and_u64 hs64 hpk64))
          (have hq64 : q < top64 := by (rw [hq]; exact Nat.lt_of_le_of_lt Nat.and_le_left hs64))
          (have HQ : Hid (∀ e, q.testBit e = (s.testBit e && pk.testBit e)) := Lib.hid fun e => by (rw [hq, Nat.testBit_and]))
          clear hsb hb11 hq ha64 HAB
          go_simp
          refine hK.out _ _ ?_ (fun hHeld => ?_)
          · exact ⟨belC BX11.out dm hml, belC BX11.out dv hvl, belC BX11.out dp hpl9, BX11.out⟩
          clear hK K
          (try simp only [Act.put, List.setIfInBounds_toArray, List.set_cons_zero, List.set_cons_succ])
          refine wpAnyH_take (i := 20) (oi := ⟨some 75, _, _, _, _, _⟩) (v := ?_) rfl (by kernel_rfl) (by kernel_rfl) (by kernel_rfl) (fun _ _ _ h => h) (Or.inl ⟨by rfl, fun w' hSw => ?_⟩) (by assumption) ?_
          rotate_left
          · (try dsimp only at hSw); go_simp; (try with_reducible rfl)
          (try simp only [Act.put, List.setIfInBounds_toArray, List.set_cons_zero, List.set_cons_succ])
          refine wpAnyH_ready (rs := [21]) (by kernel_rfl) (by simp) ?_
          refine (AllReadyH.cons (o := ⟨some 76, _, _, _, _, _⟩) rfl (fun K hK => ?_) AllReadyH.nil)
          go_simp
          (refine (against_any _ ts pts B k mm q _ (HG9.out.low BX11.out (by omega)) (by have := BX11.out.size; omega) GD.out (by assumption) hmm64 hq64).mono ?_)
          (rintro e w12 ⟨t, rfl, ht64, htb, hb12⟩)
          (have BX12 := Lib.hid (BX11.out.trans (hb12.mono BX11.out.size)))
          (rw [HPK.out] at htb)
          (have HTL : Hid (lst 64 t.testBit = C) := Lib.hid (HCL.out s q t HSB.out HQ.out htb))
          clear htb hb12
          go_simp
          refine hK.out _ _ ?_ (fun hHeld => ?_)
          · exact ⟨belC BX12.out dm hml, belC BX12.out dv hvl, belC BX12.out dp hpl9, BX12.out⟩
          clear hK K
          (try simp only [Act.put, List.setIfInBounds_toArray, List.set_cons_zero, List.set_cons_succ])
          refine wpAnyH_ready (rs := [22]) (by kernel_rfl) (by simp) ?_
          refine (AllReadyH.cons (o := ⟨some 77, _, _, _, _, _⟩) rfl (fun K hK => ?_) AllReadyH.nil)
          go_simp
          (refine (loanBits_own t ht64 _).mono ?_)
          (rintro e w13 ⟨v13, rfl, hi13, hb13⟩)
          (have BX13 := Lib.hid (BX12.out.trans (hb13.mono BX12.out.size)))
          (rw [HTL.out] at hi13)
          (have hi13 := hi13.base BX12.out.size)
          (have HI13 := Lib.hid hi13)
          (obtain ⟨A13, c13, rfl, hc13⟩ := hi13.slice)
          clear hb13
          go_simp
          refine hK.out _ _ ?_ (fun hHeld => ?_)
          · exact ⟨belC BX13.out dm hml, belC BX13.out dv hvl, belC BX13.out dp hpl9, BX13.out⟩
          clear hK K
          (try simp only [Act.put, List.setIfInBounds_toArray, List.set_cons_zero, List.set_cons_succ])
          refine wpAnyH_take (i := 23) (oi := ⟨some 78, _, _, _, _, _⟩) (v := ?_) rfl (by kernel_rfl) (by kernel_rfl) (by kernel_rfl) (fun _ _ _ h => h) (Or.inl ⟨by rfl, fun w' hSw => ?_⟩) (by assumption) ?_
          rotate_left
          · (try dsimp only at hSw); go_simp; (try with_reducible rfl)
          (try simp only [Act.put, List.setIfInBounds_toArray, List.set_cons_zero, List.set_cons_succ])
          refine wpAnyH_done (by kernel_rfl) ?_ _
          have HO13 := Lib.hid (HOJ.out.bel BX13.out)
          have HB13 := Lib.hid (HBJ.out.trans (BX13.out.mono (by omega)))
          have hs13 := HB13.out.size
          obtain ⟨Ao, co, e, hco⟩ := HO13.out.slice
          injection e with e1 _ e2
          clear e1 e2 hco Ao co dm dv dp BEL
          go_wp2_with (at_builtin; fail)
          go_loopw [10, 79] (fun v i wx => ∃ (j : Nat), j ≤ C.length ∧ i = .int .i64 j ∧ OIs wx w3.heap.size v (L1 ++ isC pts k (C.take j)) ∧ OInts wx wr.heap.size (.slice A13 C.length c13) C ∧ Below w3.heap.size w3 wx) (fun _ i _ => C.length - (intOf i).toNat)
          case atStart => exact ⟨0, Nat.zero_le _, rfl, by simpa [isC] using HO13.out, HI13.out, HB13.out⟩
          case round =>
            obtain ⟨j, hj, rfl, hOj, hI, hbj⟩ := hrel
            have HOK := Lib.hid hOj
            have HIK := Lib.hid hI
            have HBK := Lib.hid hbj
            have hsk := hbj.size
            obtain ⟨Aj2, cj2, rfl, hcj2⟩ := hOj.slice
            clear hOj hbj
            have hcl61 := HCLL.out
            by_cases hjl : j < C.length
            · obtain ⟨g7, rfl, hg7, hg7l, -, d7⟩ := hI.at_ hjl
              obtain ⟨e0, he0, hee⟩ := HCIN.out j hjl
              have HTK : Hid (L1 ++ isC pts k (C.take (j + 1)) = L1 ++ isC pts k (C.take j) ++ [⟨((k : Nat) : Int), kindP pts ((e0 : Nat) : Int), ((e0 : Nat) : Int)⟩]) := Lib.hid (by rw [take_succ_get C j hjl, isC_snoc, List.append_assoc, ← getD_lt (d := 0) hjl, hee])
              have HLN : Hid ((L1 ++ isC pts k (C.take j)).length ≤ 5100) := Lib.hid (by rw [List.length_append, isC_len, List.length_take]; have := HL1L.out; omega)
              have HJL := Lib.hid hjl
              rw [hee] at d7
              have HBZ := Lib.hid (HB3.out.trans (HBK.out.mono (by omega)))
              obtain ⟨b', off', c', nv', e', hb', hc', hl', -, q0, q1, q2, q3, q4⟩ := hp.get he0
              injection e' with e1 e9 e2
              injection e1 with e1
              injection e1 with e1 e3
              subst e1 e2 e3
              clear e9
              have r0 := (HBZ.out.cell (p := ⟨b, off + e0 * 5, none⟩) (by show b < _; omega)).trans q0
              have g2'' := (HBZ.out.cell (p := ⟨g, 2, none⟩) (by show g < _; omega)).trans g2
              have HKD : Hid (kindP pts ((e0 : Nat) : Int) = if pts[e0].op = 5 then 3 else 2) := Lib.hid (by unfold kindP; rw [Int.toNat_natCast, ptD_get he0])
              generalize pts[e0] = P2 at *
              generalize hLJ : L1 ++ isC pts k (C.take j) = LJ at *
              clear hLJ hI hee q0 q1 q2 q3 q4
              by_cases h5 : P2.op = 5
              · have hq : (P2.op == 5) = true := by simpa using h5
                have HK3 : Hid (kindP pts ((e0 : Nat) : Int) = 3) := Lib.hid (by rw [HKD.out, if_pos h5])
                clear h5
                go_wp2_with (at_builtin; go_must (refine wpList_push_isCells rfl (.tmp 92) (.tmp 97) rfl HOK.out (by omega) (by have := HLN.out; omega) _ _ _ rfl rfl ?_); intro v' w' hP' hE' hK')
                have hjl := HJL.out
                exact ⟨⟨j + 1, by omega, by go_num, by rw [HTK.out, HK3.out]; exact hP', HIK.out.keepT hK' (by decide), HBK.out.trans hE'⟩, by simp [intOf] <;> omega⟩
              · have hq : (P2.op == 5) = false := by simpa using h5
                have HK3 : Hid (kindP pts ((e0 : Nat) : Int) = 2) := Lib.hid (by rw [HKD.out, if_neg h5])
                clear h5
                go_wp2_with (at_builtin; go_must (refine wpList_push_isCells rfl (.tmp 92) (.tmp 97) rfl HOK.out (by omega) (by have := HLN.out; omega) _ _ _ rfl rfl ?_); intro v' w' hP' hE' hK')
                have hjl := HJL.out
                exact ⟨⟨j + 1, by omega, by go_num, by rw [HTK.out, HK3.out]; exact hP', HIK.out.keepT hK' (by decide), HBK.out.trans hE'⟩, by simp [intOf] <;> omega⟩
            · have hje : j = C.length := by omega
              have htk : C.take j = C := by rw [hje]; exact List.take_length
              rw [htk] at HOK ⊢
              clear hI htk hje hcj2
              rw [← HSUC2.out] at HOK ⊢
              go_wp2_with (at_builtin; fail)
              exact ⟨⟨k + 1, by omega, by go_num, HOK.out, HBK.out⟩, by simp [intOf] <;> omega⟩
    · have hke : k = pts.length := by omega
      subst hke
      go_wp2_with (at_builtin; fail)
      go_ret
      exact ⟨_, rfl, HO.out.base HB3.out.size, HB3.out.trans (HBW.out.mono (by omega))⟩

end Go.Proofs.Ytfioaohadanjmaa

/- Issues by regions: impl.CheckRegions. -/
namespace Go.Proofs.Ytfioaohadanjmaa
open Go.RowKit

theorem regIss_len (ts : List Int) (l : List St) : (regIss ts l).length ≤ 5000 := by
  unfold regIss
  split
  · rename_i hv
    have G := Good.of_valid hv
    have h6 := G.h6
    have hl := G.len
    have h1 := chrL_le ts (ptsP l) (LvN ts (ptsP l)) (ptsP l).length
    have h2 : (ptsP l).length * (ts.length + (ptsP l).length) ≤ 61 * 67 := Nat.mul_le_mul (by omega) (by omega)
    omega
  · simp
set_option maxHeartbeats 1000000 in
set_option maxRecDepth 100000 in
theorem regF_any (ts : List Int) (pts : List Pt) (bc k a0 a1 a2 a3 a4 a5 : Nat) (w : World) (hr : RowB w bc 74 [.int .u64 (a0 : Nat), .int .u64 (a1 : Nat), .int .u64 (a2 : Nat), .int .u64 (a3 : Nat), .int .u64 (a4 : Nat), .int .u64 (a5 : Nat)]) (hre : ReI (bds ts pts) [a0, a1, a2, a3, a4, a5]) (hst : ∀ v e, stP [a0, a1, a2, a3, a4, a5] v e = true ↔ Rg (bds ts pts) v e) :
    Calls Try.prog 66 #[.int .i64 (k : Nat), .pointer (some ⟨bc, 0, none⟩)] w (FrrRet w ts pts k) := by
  have HST := Lib.hid hst
  have HRE := Lib.hid hre
  have q0 := hr.cell 0
  have q1 := hr.cell 1
  have q2 := hr.cell 2
  have q3 := hr.cell 3
  have q4 := hr.cell 4
  have q5 := hr.cell 5
  simp only [List.getElem?_cons_zero, List.getElem?_cons_succ] at q0 q1 q2 q3 q4 q5
  have hgl := hr.lt
  clear hst hre hr
  have HRZ := Lib.hid (RowB.new w [.int .u64 0, .int .u64 0, .int .u64 0, .int .u64 0, .int .u64 0, .int .u64 0] 74)
  have HBZ := Lib.hid (bel_a w (.cells #[.int .u64 0, .int .u64 0, .int .u64 0, .int .u64 0, .int .u64 0, .int .u64 0] 74))
  go_enter Try.func66, Try.ntmps66
  go_upto_region 1 with (at_builtin; fail)
  have q0 := (HBZ.out.cell (p := ⟨bc, 0, none⟩) hgl).trans q0
  have q1 := (HBZ.out.cell (p := ⟨bc, 1, none⟩) hgl).trans q1
  have q2 := (HBZ.out.cell (p := ⟨bc, 2, none⟩) hgl).trans q2
  have q3 := (HBZ.out.cell (p := ⟨bc, 3, none⟩) hgl).trans q3
  have q4 := (HBZ.out.cell (p := ⟨bc, 4, none⟩) hgl).trans q4
  have q5 := (HBZ.out.cell (p := ⟨bc, 5, none⟩) hgl).trans q5
  generalize w.alloc (.cells #[.int .u64 0, .int .u64 0, .int .u64 0, .int .u64 0, .int .u64 0, .int .u64 0] 74) = W1 at *
  obtain ⟨rb, hrb⟩ : ∃ rb, rb = w.heap.size := ⟨_, rfl⟩
  have HRB := Lib.hid hrb
  rw [← hrb] at HRZ ⊢
  have z0 := HRZ.out.cell 0
  have z1 := HRZ.out.cell 1
  have z2 := HRZ.out.cell 2
  have z3 := HRZ.out.cell 3
  have z4 := HRZ.out.cell 4
  have z5 := HRZ.out.cell 5
  simp only [List.getElem?_cons_zero, List.getElem?_cons_succ] at z0 z1 z2 z3 z4 z5
  have f0 := HRZ.out.frozen 0
  have f1 := HRZ.out.frozen 1
  have f2 := HRZ.out.frozen 2
  have f3 := HRZ.out.frozen 3
  have f4 := HRZ.out.frozen 4
  have f5 := HRZ.out.frozen 5
  clear hrb
  go_wp2_with (at_builtin; fail)
  have HS := Lib.hid (box6 HRZ.out (.int .u64 a0) (.int .u64 a1) (.int .u64 a2) (.int .u64 a3) (.int .u64 a4) (.int .u64 a5))
  refine bodyPost_ret (results_cell_row rfl _ _ rb 74 _ (0, 0) _ rfl HS.out.1 Try.underlying74 rfl rfl) rfl ⟨a0, a1, a2, a3, a4, a5, rfl, fun u hu => getD_small HRE.out.small u, fun v e hv => ?_, ?_⟩
  · rw [← HST.out]; rfl
  · exact grown_new HBZ.out (by have := HRB.out; show w.heap.size ≤ rb; omega) HS.out.2
theorem Try.enterRegF (args : Array Value) (w : World) : (callFunc 66 args).run Try.prog w = .ok (.enter 66 args) w := by kernel_rfl
set_option maxHeartbeats 4000000 in
set_option maxRecDepth 100000 in
theorem iCheckRegions_any (vt vb : Value) (ts : List Int) (l : List St) (B : Nat) (w : World) (ht : IntS w B vt ts) (hl : StS w B vb l) (hB : B ≤ w.heap.size) (hsz : szL l ≤ 4194300) :
    Calls Try.prog 33 #[.agg #[vt, vb]] w (CkRet w (regIss ts l)) := by
  have hmf : ∀ (fn : Fn) (first cap : Array Value) (w : World), (Instr.makeFunc fn first cap).run Try.prog w = .ok (.func fn first cap) w := fun _ _ _ _ => rfl
  go_enter Try.func33, Try.ntmps33
  go_wp2_with fail
  refine (graphOf_any vt vb _ ts l [] w.heap.size _ ((ht.low (bel_a _ _) hB).more hB) ((hl.low (bel_a _ _) hB).more hB) ((OInts.nil w 0).toS (by simp) |>.low (bel_a _ _) (Nat.le_refl _)) (by simp) hsz).mono ?_
  rintro e w1 ⟨vg, rfl, hgr, hb1⟩
  have HB1 := Lib.hid ((bel_a _ _).trans (hb1.mono (by simp)))
  rw [graphOk_nil] at hgr ⊢
  clear hb1
  cases hok : validP ts l
  · have HRES : Hid (regIss ts l = []) := Lib.hid (by unfold regIss; rw [hok]; rfl)
    clear hok hgr
    go_wp2_with fail
    go_ret
    exact ⟨_, rfl, by rw [HRES.out]; exact OIs.nil _ _, HB1.out⟩
  · have GD := Lib.hid (Good.of_valid hok)
    have HG := Lib.hid (hgr hok)
    have h6 := GD.out.h6
    have HRES : Hid (regIss ts l = chrL ts (ptsP l) (LvN ts (ptsP l)) (ptsP l).length) := Lib.hid (by unfold regIss; rw [if_pos hok])
    clear hok hgr ht hl
    generalize ptsP l = pts at *
    go_wp2_with fail
    refine (regions_any _ ts pts w1.heap.size w1 HG.out (Nat.le_refl _) GD.out).mono ?_
    rintro e w2 ⟨a0, a1, a2, a3, a4, a5, rfl, hre, hkb, hb2⟩
    have HST := Lib.hid (hre.done (bds_ok GD.out) hkb)
    have HRE := Lib.hid hre
    have HB2 := Lib.hid hb2
    have HRB := Lib.hid (RowB.new w2 [.int .u64 (a0 : Nat), .int .u64 (a1 : Nat), .int .u64 (a2 : Nat), .int .u64 (a3 : Nat), .int .u64 (a4 : Nat), .int .u64 (a5 : Nat)] 74)
    have HB3 := Lib.hid (HB2.out.alloc HB2.out.size (.cells #[.int .u64 (a0 : Nat), .int .u64 (a1 : Nat), .int .u64 (a2 : Nat), .int .u64 (a3 : Nat), .int .u64 (a4 : Nat), .int .u64 (a5 : Nat)] 74))
    clear hre hkb hb2
    go_upto_region 5 with (at_builtin; fail)
    generalize w2.alloc (.cells #[.int .u64 (a0 : Nat), .int .u64 (a1 : Nat), .int .u64 (a2 : Nat), .int .u64 (a3 : Nat), .int .u64 (a4 : Nat), .int .u64 (a5 : Nat)] 74) = w3 at *
    obtain ⟨bc, hbc⟩ : ∃ bc, bc = w2.heap.size := ⟨_, rfl⟩
    rw [← hbc] at HRB ⊢
    clear hbc
    go_wp2_with fail
    refine (liveAfter_any _ ts pts w1.heap.size w3 (HG.out.low HB3.out (Nat.le_refl _)) HB3.out.size GD.out).mono ?_
    rintro e w4 ⟨vl, rfl, hil, hb4⟩
    have HB4 := Lib.hid (HB3.out.trans (hb4.mono HB3.out.size))
    have HRB4 := Lib.hid (HRB.out.low hb4 HRB.out.lt)
    have HCK := Lib.hid (checkR_any vg vl (.pointer (some ⟨bc, 0, none⟩)) 66 ts pts w4.heap.size (liveL ts pts pts.length) (LvN ts pts) w4 ((HG.out.low HB4.out (Nat.le_refl _)).more HB4.out.size) (Nat.le_refl _) GD.out hil (by simp [liveL]) (liveL_small h6 _) (fun k hk v hv => liveL_LV GD.out hk hv) Try.enterRegF
      (fun k w' _ hb => regF_any ts pts bc k a0 a1 a2 a3 a4 a5 w' (HRB4.out.low hb HRB4.out.lt) HRE.out HST.out))
    clear hil hb4
    go_wp2_with fail
    refine HCK.out.mono ?_
    rintro e w5 ⟨v5, rfl, ho5, hb5⟩
    go_wp2_with fail
    go_ret
    exact ⟨v5, rfl, by rw [HRES.out]; exact ho5.base (Nat.le_trans HB1.out.size HB4.out.size), HB1.out.trans ((HB4.out.trans (hb5.mono HB4.out.size)).mono HB1.out.size)⟩

end Go.Proofs.Ytfioaohadanjmaa
