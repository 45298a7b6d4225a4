import Derived.Test.YtidlifijgooceaaJ47
import Derived.Test.YtidlifijgooceaaJ49
import Derived.Test.YtidlifijgooceaaJ37
set_option linter.unusedVariables false

/- impl.graph.useAfter, impl.UseAfter. -/
namespace Go.Proofs.Ytidlifijgooceaa
open Go.RowKit

set_option maxHeartbeats 4000000 in
set_option maxRecDepth 100000 in
/-- the closure: is the loan n among those of the variable x before the point i? -/
theorem useAfter1_any (x i n np c1 c2 c3 g : Nat) (fs : List Nat) (w : World) (h1 : w.cell? ⟨c1, 0, none⟩ = some (.slice (some ⟨g, 0, none⟩) np np)) (h2 : w.cell? ⟨c2, 0, none⟩ = some (.int .i64 (i : Nat))) (h3 : w.cell? ⟨c3, 0, none⟩ = some (.int .i64 (n : Nat)))
    (hr : RowB w g 113 (uv fs)) (hlen : fs.length = np * 6) (hsm : ∀ m ∈ fs, m < top64) (hi : i < np) (hx : x < 6) (hn : n ≤ 61) :
    Calls Try.prog 139 #[.int .i64 (x : Nat), .pointer (some ⟨c1, 0, none⟩), .pointer (some ⟨c2, 0, none⟩), .pointer (some ⟨c3, 0, none⟩)] w
      fun e w' => e = .returned (.bool ((fs.getD (i * 6 + x) 0).testBit n)) ∧ ∃ m, w' = w.drewN m := by
  have hc : w.cell? ⟨g, i * 6 + x, none⟩ = some (.int .u64 (fs.getD (i * 6 + x) 0 : Nat)) := by rw [hr.cell, uv_get (by rw [hlen]; omega)]
  have hbu := bit_u64 (k := n) (getD_small hsm (i * 6 + x))
  generalize fs.getD (i * 6 + x) 0 = m at *
  have HBU := Lib.hid hbu
  clear hr hlen hsm hbu
  go_enter Try.func139, Try.ntmps139
  go_wp2_with (at_builtin; fail)
  go_quiet (fail)
  go_wp2_with (at_builtin; fail)
  go_ret
  exact ⟨by rw [HBU.out] <;> rfl, _, rfl⟩

set_option maxHeartbeats 4000000 in
set_option maxRecDepth 100000 in
theorem indexFuncU_any (va : Value) (l : List Int) (f : Int → Bool) (c1 c2 c3 : Nat) (B : Nat) (w : World) (ha : IntS w B va l)
    (hF : ∀ y ∈ l, ∀ m, Calls Try.prog 139 #[.int .i64 y, .pointer (some ⟨c1, 0, none⟩), .pointer (some ⟨c2, 0, none⟩), .pointer (some ⟨c3, 0, none⟩)] (w.drewN m) fun e w' => e = .returned (.bool (f y)) ∧ ∃ k, w' = (w.drewN m).drewN k) :
    Calls Try.prog 156 #[va, .func (.func 139) #[] #[.pointer (some ⟨c1, 0, none⟩), .pointer (some ⟨c2, 0, none⟩), .pointer (some ⟨c3, 0, none⟩)]] w fun e w' => e = .returned (.int .i64 (idxP f l)) ∧ ∃ m, w' = w.drewN m := by
  obtain ⟨A, c, rfl, hc, hm, hr⟩ := ha
  have HF := Lib.hid hF
  clear hF
  go_enter Try.func156, Try.ntmps156
  go_wp2
  go_loopw [8] (fun i wr => ∃ k : Nat, k ≤ l.length ∧ i = .int .i64 k ∧ (∀ x ∈ l.take k, f x = false) ∧ ∃ m, wr = w.drewN m) (fun i _ => l.length - (intOf i).toNat)
  case atStart => exact ⟨0, Nat.zero_le _, rfl, by simp, 0, rfl⟩
  case round =>
    obtain ⟨k, hk, rfl, hn, m0, rfl⟩ := hrel
    have H := Lib.hid hn
    clear hn
    by_cases hlt : k < l.length
    · obtain ⟨b, off, rfl, hb, hcell⟩ := hr.int_at hlt
      have hck := hcell k hlt
      have HM := Lib.hid (HF.out l[k] (List.getElem_mem hlt) m0)
      have HX0 := Lib.hid (getD_lt (l := l) (d := (0 : Int)) hlt)
      rw [HX0.out] at hck
      clear hcell
      generalize hy : l[k] = y at *
      have HY := Lib.hid hy
      clear hy
      go_wp2_with fail
      refine HM.out.mono ?_
      rintro e w' ⟨rfl, m1, rfl⟩
      cases hx : f y
      · have HX := Lib.hid hx
        clear hx
        go_wp2_with fail
        refine ⟨⟨k + 1, by omega, by go_num, ?_, ⟨_, rfl⟩⟩, by simp [intOf]; omega⟩
        rw [take_succ_get l k hlt]
        intro x hxm
        rcases List.mem_append.1 hxm with h | h
        · exact H.out x h
        · rw [List.mem_singleton.1 h, HY.out]; exact HX.out
      · have HX := Lib.hid hx
        clear hx
        go_wp2_with fail
        go_ret
        exact ⟨ret_int (idxP_hit hlt H.out (by rw [HY.out]; exact HX.out)).symm, ⟨_, rfl⟩⟩
    · obtain rfl : k = l.length := by omega
      have h := H.out
      rw [List.take_length] at h
      have H' := Lib.hid h
      clear h
      go_wp2
      go_ret
      exact ⟨ret_int (idxP_none H'.out).symm, m0, rfl⟩

set_option maxHeartbeats 400000 in
theorem containsFuncU_any (va : Value) (l : List Int) (f : Int → Bool) (c1 c2 c3 : Nat) (B : Nat) (w : World) (ha : IntS w B va l)
    (hF : ∀ y ∈ l, ∀ m, Calls Try.prog 139 #[.int .i64 y, .pointer (some ⟨c1, 0, none⟩), .pointer (some ⟨c2, 0, none⟩), .pointer (some ⟨c3, 0, none⟩)] (w.drewN m) fun e w' => e = .returned (.bool (f y)) ∧ ∃ k, w' = (w.drewN m).drewN k) :
    Calls Try.prog 118 #[va, .func (.func 139) #[] #[.pointer (some ⟨c1, 0, none⟩), .pointer (some ⟨c2, 0, none⟩), .pointer (some ⟨c3, 0, none⟩)]] w fun e w' => e = .returned (.bool (l.any f)) ∧ ∃ m, w' = w.drewN m := by
  have HF := Lib.hid (indexFuncU_any va l f c1 c2 c3 B w ha hF)
  clear hF
  go_enter Try.func118, Try.ntmps118
  go_wp2_with fail
  refine HF.out.mono ?_
  rintro e w' ⟨rfl, m, rfl⟩
  go_wp2_with fail
  go_ret
  exact ⟨ret_bool (idxP_ge _ _), m, rfl⟩

def uaW : Option Nat → Int
  | none => -1
  | some b => (b : Nat)
/-- the closure's answers over the used variables -/
theorem uses_bits {ts : List Int} {pts : List Pt} {fs : List Nat} {n j : Nat} (h6 : ts.length ≤ 6) (hj : j < pts.length) (hst : ∀ i v e, stF fs i v e = true ↔ Fl ts pts Gloan (Cloan ts) i v e) :
    ((lst 6 (usedP ts pts[j].op pts[j].x pts[j].y).testBit).any fun y => (fs.getD (j * 6 + y.toNat) 0).testBit n) = usF ts pts n j := by
  rw [usF_at hj, Bool.eq_iff_iff, List.any_eq_true]
  unfold usesP
  rw [List.any_eq_true]
  have key : ∀ v, v < ts.length → ((fs.getD (j * 6 + v) 0).testBit n = dec (Fl ts pts Gloan (Cloan ts) j v n)) := fun v hv => by
    rw [Bool.eq_iff_iff, dec_iff, ← hst j v n]
    unfold stF
    rw [decide_eq_true (by omega : v < 6), Bool.true_and]
  constructor
  · rintro ⟨y, hy, hb⟩
    obtain ⟨v, hv, h1, rfl⟩ := lst_mem.1 hy
    unfold usedP at h1
    rw [bm_bit, Bool.and_eq_true, decide_eq_true_eq] at h1
    refine ⟨v, List.mem_range.2 h1.1, ?_⟩
    rw [Int.toNat_natCast, key v h1.1] at hb
    show (dec (Fl ts pts Gloan (Cloan ts) j v n) && _) = true
    rw [hb, h1.2]; rfl
  · rintro ⟨v, hv, hb⟩
    have hv' := List.mem_range.1 hv
    rw [Bool.and_eq_true] at hb
    refine ⟨(v : Nat), lst_mem.2 ⟨v, by omega, ?_, rfl⟩, ?_⟩
    · unfold usedP
      rw [bm_bit, decide_eq_true hv', hb.2]; rfl
    · rw [Int.toNat_natCast, key v hv']; exact hb.1

set_option maxHeartbeats 8000000 in
set_option maxRecDepth 100000 in
theorem useAfterG_any (vg : Value) (ts : List Int) (pts : List Pt) (B k n : Nat) (w : World) (hg : GrS w B vg ts pts) (hB : B ≤ w.heap.size) (gd : Good ts pts) (hk : k < pts.length) (hn : n < pts.length) :
    Calls Try.prog 90 #[vg, .int .i64 (k : Nat), .int .i64 (n : Nat)] w fun e w' => e = .returned (.tuple #[.int .i64 (uaW (nearF pts k (usF ts pts n) pts.length)), .bool (nearF pts k (usF ts pts n) pts.length).isSome]) ∧ Below w.heap.size w w' := by
  have HG := Lib.hid hg
  have GD := Lib.hid gd
  have h6 := gd.h6
  have hpl := gd.len
  clear gd
  have HC3 := Lib.hid (RowB.new w [.int .i64 (n : Nat)] 3)
  have HB0 := Lib.hid (bel_a w (.cells #[.int .i64 (n : Nat)] 3))
  obtain ⟨g, At, ct, vb, Al, cl, rfl, hgB, g0, g1, g2, ht, hp, htl, hpl'⟩ := hg.open_
  have hmf : ∀ (fn : Fn) (first cap : Array Value) (w : World), (Instr.makeFunc fn first cap).run Try.prog w = .ok (.func fn first cap) w := fun _ _ _ _ => rfl
  have HMF := Lib.hid hmf
  clear hmf hg g0 g1 g2 ht hp
  go_enter Try.func90, Try.ntmps90
  go_upto_region 1 with (at_builtin; fail)
  generalize w.alloc (.cells #[.int .i64 (n : Nat)] 3) = W0 at *
  obtain ⟨c3, hc3⟩ : ∃ c3, c3 = w.heap.size := ⟨_, rfl⟩
  rw [← hc3] at HC3 ⊢
  have hs0 := HB0.out.size
  clear hc3
  go_wp2_with (at_builtin; fail)
  refine (loansIn_any _ ts pts B W0 (HG.out.low HB0.out hB) (by omega) GD.out).mono ?_
  rintro e W1 ⟨gl, fs, rfl, hgl, hrl, hfl, hsm, hst, hb1⟩
  have HRL := Lib.hid (hrl.alloc (.cells #[.slice (some ⟨gl, 0, none⟩) pts.length pts.length] 114))
  have HC1 := Lib.hid (RowB.new W1 [.slice (some ⟨gl, 0, none⟩) pts.length pts.length] 114)
  have hb12 := hb1.trans ((bel_a W1 (.cells #[.slice (some ⟨gl, 0, none⟩) pts.length pts.length] 114)).mono hb1.size)
  have HB2 := Lib.hid (HB0.out.trans (hb12.mono hs0))
  have HC32 := Lib.hid (HC3.out.low hb12 HC3.out.lt)
  have HG2 := Lib.hid ((HG.out.low HB0.out hB).low hb12 (by omega))
  have HSM := Lib.hid hsm
  have HFL := Lib.hid hfl
  have HUB := Lib.hid (fun (j : Nat) (hj : j < pts.length) => uses_bits (n := n) h6 hj hst)
  clear hrl hb1 hb12 hsm hst hfl hgl HC3 HB0 HG hs0
  go_upto_region 2 with (at_builtin; fail)
  generalize hW2 : W1.alloc (.cells #[.slice (some ⟨gl, 0, none⟩) pts.length pts.length] 114) = W2 at *
  clear hW2
  obtain ⟨c1, hc1⟩ : ∃ c1, c1 = W1.heap.size := ⟨_, rfl⟩
  rw [← hc1] at HC1 ⊢
  clear hc1
  have hs2 := HB2.out.size
  have hB2 : B ≤ W2.heap.size := by omega
  obtain ⟨g', At', ct', vb', Al', cl', e, -, g0, g1, g2, ht, hp, -, -⟩ := HG2.out.open_
  injection e with e
  injection e with e
  injection e with e
  subst e
  have HPS := Lib.hid hp
  go_wp2_with (at_builtin; fail)
  clear g0 g1 g2 ht hp
  go_loopw [9, 10, 11, 12, 13, 14, 15, 23] (fun bv lv _ _ _ _ _ i wr => ∃ (j : Nat) (lx : Int), j ≤ pts.length ∧ i = .int .i64 j ∧ bv = .int .i64 (uaW (nearF pts k (usF ts pts n) j)) ∧ lv = .int .i64 lx ∧ (∀ b0, nearF pts k (usF ts pts n) j = some b0 → lx = (wayN pts k b0).length) ∧ Below W2.heap.size W2 wr) (fun _ _ _ _ _ _ _ i _ => pts.length - (intOf i).toNat)
  case atStart => exact ⟨0, 0, Nat.zero_le _, rfl, rfl, rfl, fun b0 h => by simp [nearF] at h, Below.refl _ _⟩
  case round =>
    obtain ⟨j, lx, hj, rfl, rfl, rfl, hlx, hbw⟩ := hrel
    have HBW := Lib.hid hbw
    have hsw := hbw.size
    obtain ⟨o, ho⟩ : ∃ o, o = nearF pts k (usF ts pts n) j := ⟨_, rfl⟩
    rw [← ho] at hlx ⊢
    have HOE := Lib.hid ho
    have HLX := Lib.hid hlx
    clear ho hlx hbw
    by_cases hlt : j < pts.length
    · have hmf := HMF.out
      have HGW := Lib.hid (HG2.out.low HBW.out hB2)
      obtain ⟨bp, op, cp9, nv, e, hbp, -, -, hnx, p0, p1, p2, p3, p4⟩ := (HPS.out.low HBW.out hB2).get hlt
      injection e with e1 e9 e2
      subst e1 e2
      obtain ⟨An, cn, rfl, hcn, hln, -⟩ := hnx
      simp only [List.length_map] at p4 hcn hln
      have hu64 := usedP_lt h6 pts[j].op pts[j].x pts[j].y
      have HUBJ := Lib.hid (HUB.out j hlt)
      generalize pts[j].op = P0 at *
      generalize pts[j].x = P1 at *
      generalize pts[j].y = P2 at *
      generalize pts[j].n = P3 at *
      generalize pts[j].next.length = nl at *
      have hA1 := bel_a wr (.cells #[.int .i64 (j : Nat)] 3)
      have hA2 := hA1.alloc (by simp) (.cells #[.int .i64 P0, .int .i64 P1, .int .i64 P2, .int .i64 P3, .slice An nl cn] 100)
      have HI2 := Lib.hid ((RowB.new wr [.int .i64 (j : Nat)] 3).alloc (.cells #[.int .i64 P0, .int .i64 P1, .int .i64 P2, .int .i64 P3, .slice An nl cn] 100))
      have HX2 := Lib.hid (RowB.new (wr.alloc (.cells #[.int .i64 (j : Nat)] 3)) [.int .i64 P0, .int .i64 P1, .int .i64 P2, .int .i64 P3, .slice An nl cn] 100)
      have hsz1 : (wr.alloc (.cells #[.int .i64 (j : Nat)] 3)).heap.size = wr.heap.size + 1 := by simp
      rw [hsz1] at HX2
      have HA2 := Lib.hid hA2
      clear hA1 hA2 hsz1 e9
      go_upto_region 6 with (at_builtin; fail)
      generalize hW3 : (wr.alloc (.cells #[.int .i64 (j : Nat)] 3)).alloc (.cells #[.int .i64 P0, .int .i64 P1, .int .i64 P2, .int .i64 P3, .slice An nl cn] 100) = W3 at *
      clear hW3
      obtain ⟨c2, hc2⟩ : ∃ c2, c2 = wr.heap.size := ⟨_, rfl⟩
      obtain ⟨cx, hcx⟩ : ∃ cx, cx = wr.heap.size + 1 := ⟨_, rfl⟩
      rw [← hcx] at HX2 ⊢
      rw [← hc2] at HI2 ⊢
      clear hc2 hcx
      have HA3 := Lib.hid HA2.out
      have hs3 := HA3.out.size
      have x0 := HX2.out.cell 0
      have x1 := HX2.out.cell 1
      have x2 := HX2.out.cell 2
      have x3 := HX2.out.cell 3
      have x4 := HX2.out.cell 4
      simp only [List.getElem?_cons_zero, List.getElem?_cons_succ] at x0 x1 x2 x3 x4
      clear HA2 p0 p1 p2 p3 p4
      go_wp2_with (at_builtin; fail)
      refine (used_any _ ts pts B P0 P1 P2 P3 (.slice An nl cn) W3 (HGW.out.low HA3.out (by omega)) (by omega) h6).mono ?_
      rintro e w4 ⟨rfl, hb4⟩
      have HB4 := Lib.hid (HA3.out.trans (hb4.mono hs3))
      have HI4 := Lib.hid (HI2.out.low hb4 HI2.out.lt)
      obtain ⟨um, hum⟩ : ∃ um, um = usedP ts P0 P1 P2 := ⟨_, rfl⟩
      rw [← hum] at HUBJ hu64 ⊢
      clear hb4 x0 x1 x2 x3 x4 hum HX2 HA3
      go_wp2_with (at_builtin; fail)
      refine (bits_any um hu64 w4).mono ?_
      rintro e w5 ⟨v5, rfl, hi5, hb5⟩
      have HB5 := Lib.hid (HB4.out.trans (hb5.mono HB4.out.size))
      have HI5 := Lib.hid (HI4.out.low hb5 HI4.out.lt)
      have HI := Lib.hid hi5
      have hb25 := HBW.out.trans (HB5.out.mono hsw)
      have d1 := (HC1.out.low hb25 HC1.out.lt).cell 0
      have d3 := (HC32.out.low hb25 HC32.out.lt).cell 0
      have d2 := HI5.out.cell 0
      simp only [List.getElem?_cons_zero] at d1 d2 d3
      have HRL5 := Lib.hid (HRL.out.low hb25 HRL.out.lt)
      have HB25 := Lib.hid hb25
      have HCF := Lib.hid (containsFuncU_any v5 _ (fun y => (fs.getD (j * 6 + y.toNat) 0).testBit n) c1 c2 c3 _ w5 HI.out fun y hy m => by
        obtain ⟨v, hv, -, rfl⟩ := lst_mem.1 hy
        have e : ((v : Nat) : Int).toNat = v := Int.toNat_natCast v
        rw [e]
        exact useAfter1_any v j n pts.length c1 c2 c3 gl fs (w5.drewN m) d1 d2 d3 HRL5.out HFL.out HSM.out hlt hv (by omega))
      rw [HUBJ.out] at HCF
      obtain ⟨A5, n5, rfl, -⟩ := hi5
      generalize (lst 6 um.testBit).length = L5 at *
      have HCF := Lib.hid HCF.out
      clear hb5 hb25 d1 d2 d3 HB4 HI4
      obtain ⟨u, hu⟩ : ∃ u, u = usF ts pts n j := ⟨_, rfl⟩
      rw [← hu] at HCF
      have HUE := Lib.hid hu
      clear hu
      go_wp2_with (at_builtin; fail)
      refine HCF.out.mono ?_
      rintro e w6 ⟨rfl, m6, rfl⟩
      have hb6 : Below W2.heap.size W2 (w5.drewN m6) := HB25.out.trans (below_of_drewN ⟨m6, rfl⟩ _)
      have HB6 := Lib.hid hb6
      have HI6 : Hid (RowB (w5.drewN m6) c2 3 [.int .i64 (j : Nat)]) := Lib.hid HI5.out
      have HNN : Hid ((u = false ∨ (wayC pts k j).isSome = false) → nearF pts k (usF ts pts n) (j + 1) = o) := Lib.hid fun h => by
        rw [nearF_no, ← HOE.out]
        rcases h with h | h
        · rw [← HUE.out, h]; rfl
        · rw [h, Bool.and_false]
      have hs6 := hb6.size
      clear hb6 HCF
      generalize w5.drewN m6 = w6 at *
      cases u
      · have HNN2 := Lib.hid (HNN.out (.inl rfl))
        clear HNN
        go_wp2_with (at_builtin; fail)
        refine ⟨⟨j + 1, lx, by omega, by go_num, by rw [HNN2.out], rfl, by rw [HNN2.out]; exact HLX.out, HB6.out⟩, by simp [intOf] <;> omega⟩
      · have HWAY := Lib.hid (shortWay_any _ ts pts B k j w6 (HG2.out.low HB6.out hB2) (by omega) GD.out hk hlt)
        have hcj := HI6.out.cell 0
        simp only [List.getElem?_cons_zero] at hcj
        go_wp2_with (at_builtin; fail)
        refine HWAY.out.mono ?_
        rintro e w7 ⟨v7, rfl, hi7, hb7⟩
        have HB7 := Lib.hid (HB6.out.trans (hb7.mono hs6))
        have hcj := (HI6.out.low hb7 HI6.out.lt).cell 0
        simp only [List.getElem?_cons_zero] at hcj
        have HLEN : Hid ((msk (wayN pts k j)).length = (wayN pts k j).length) := Lib.hid (msk_len _)
        obtain ⟨A7, n7, rfl, -, h7l, -⟩ := hi7
        rw [HLEN.out] at h7l ⊢
        obtain ⟨ws, hws⟩ : ∃ ws, ws = (wayC pts k j).isSome := ⟨_, rfl⟩
        rw [← hws] at HNN ⊢
        obtain ⟨lw, hlw⟩ : ∃ lw, lw = (wayN pts k j).length := ⟨_, rfl⟩
        rw [← hlw] at h7l ⊢
        have HWS := Lib.hid hws
        have HLW := Lib.hid hlw
        clear hb7 hws hlw HWAY
        cases ws
        · have HNN2 := Lib.hid (HNN.out (.inr rfl))
          clear HNN
          go_wp2_with (at_builtin; fail)
          refine ⟨⟨j + 1, lx, by omega, by go_num, by rw [HNN2.out], rfl, by rw [HNN2.out]; exact HLX.out, HB7.out⟩, by simp [intOf] <;> omega⟩
        · have HUT : Hid ((usF ts pts n j && (wayC pts k j).isSome) = true) := Lib.hid (by rw [← HUE.out, ← HWS.out]; rfl)
          clear HNN
          rcases o with _ | b0
          · have HF := Lib.hid (nearF_first HUT.out HOE.out.symm)
            simp only [uaW]
            go_wp2_with (at_builtin; fail)
            refine ⟨⟨j + 1, _, by omega, by go_num, by rw [HF.out]; rfl, rfl, fun b1 h => ?_, HB7.out⟩, by simp [intOf] <;> omega⟩
            rw [HF.out] at h
            injection h with h
            subst h
            rw [HLW.out]
          · have hlx := HLX.out b0 rfl
            have hb0 : decide (((b0 : Nat) : Int) < 0) = false := decide_eq_false (by omega)
            have HLX2 := Lib.hid hlx
            simp only [uaW]
            by_cases hc : ((lw : Nat) : Int) < lx
            · have hc1 : decide (((lw : Nat) : Int) < lx) = true := decide_eq_true hc
              have HF := Lib.hid (nearF_less HUT.out HOE.out.symm (by rw [← HLW.out]; rw [hlx] at hc; omega))
              clear hlx
              go_wp2_with (at_builtin; fail)
              refine ⟨⟨j + 1, _, by omega, by go_num, by rw [HF.out]; rfl, rfl, fun b1 h => ?_, HB7.out⟩, by simp [intOf] <;> omega⟩
              rw [HF.out] at h
              injection h with h
              subst h
              rw [HLW.out]
            · have hc1 : decide (((lw : Nat) : Int) < lx) = false := decide_eq_false hc
              have HF := Lib.hid (nearF_keep (U := usF ts pts n) HOE.out.symm (by rw [← HLW.out]; rw [hlx] at hc; omega))
              clear hlx
              go_wp2_with (at_builtin; fail)
              refine ⟨⟨j + 1, lx, by omega, by go_num, by rw [HF.out]; rfl, rfl, fun b1 h => ?_, HB7.out⟩, by simp [intOf] <;> omega⟩
              rw [HF.out] at h
              exact HLX.out b1 h
    · have hje : j = pts.length := by omega
      have HOF : Hid (nearF pts k (usF ts pts n) pts.length = o) := Lib.hid (by rw [← hje, HOE.out])
      clear hje
      rcases o with _ | b0
      · simp only [uaW]
        go_wp2_with (at_builtin; fail)
        go_ret2
        exact ⟨by rw [HOF.out]; rfl, HB2.out.trans (HBW.out.mono hs2)⟩
      · have hb0 : decide (((b0 : Nat) : Int) ≥ 0) = true := decide_eq_true (by omega)
        simp only [uaW]
        go_wp2_with (at_builtin; fail)
        go_ret2
        exact ⟨by rw [HOF.out]; rfl, HB2.out.trans (HBW.out.mono hs2)⟩

set_option maxHeartbeats 4000000 in
set_option maxRecDepth 100000 in
theorem iUseAfter_any (vt vb : Value) (ts : List Int) (l : List St) (a b : Int) (B : Nat) (w : World) (ht : IntS w B vt ts) (hl : StS w B vb l) (hB : B ≤ w.heap.size) (hsz : szL l ≤ 4194300) :
    Calls Try.prog 38 #[.agg #[vt, vb], .int .i64 a, .int .i64 b] w (UaRet w (uaB ts l a b)) := by
  have hb2 : ∀ o o', Below w.heap.size w ((w.alloc o).alloc o') := fun o o' => (bel_a w o).alloc (by simp) o'
  go_enter Try.func38, Try.ntmps38
  go_wp2_with fail
  refine (graphOf_any vt vb _ ts l [a, b] (w.heap.size + 2) _ ((ht.low (hb2 _ _) hB).more (by omega)) ((hl.low (hb2 _ _) hB).more (by omega)) (by simpa using ints_lit (w.alloc _) [a, b] 3 (by simp)) (by simp) hsz).mono ?_
  rintro e w1 ⟨vg, rfl, hgr, hb1⟩
  have hb3 := (hb2 _ _).trans (hb1.mono (by simp; omega))
  cases hok : graphOk ts l [a, b]
  · have HRES : Hid (uaB ts l a b = none) := Lib.hid (by unfold uaB; rw [hok]; rfl)
    have HB3 := Lib.hid hb3
    clear hok hgr hb1 hb2 hb3
    go_wp2_with fail
    go_ret2
    exact ⟨by rw [HRES.out]; rfl, HB3.out⟩
  · obtain ⟨hv, k, j, rfl, rfl, hk, hj⟩ := graphOk_two hok
    have HRES : Hid (uaB ts l (k : Nat) (j : Nat) = nearF (ptsP l) k (usF ts (ptsP l) j) (ptsP l).length) := Lib.hid (by unfold uaB; rw [hok]; rfl)
    have HC := Lib.hid (useAfterG_any vg ts (ptsP l) w1.heap.size k j w1 (hgr hok) (Nat.le_refl _) (Good.of_valid hv) hk hj)
    have HB3 := Lib.hid hb3
    have hs3 := hb3.size
    clear hok hgr hv hb1 hb2 hb3
    rw [← HRES.out] at HC
    go_wp2_with fail
    refine HC.out.mono ?_
    rintro e w2 ⟨rfl, hb4⟩
    have HB4 := Lib.hid (HB3.out.trans (hb4.mono hs3))
    clear hb4
    generalize uaB ts l (k : Nat) (j : Nat) = o at *
    rcases o with _ | b0
    · go_wp2_with fail
      go_ret2
      exact ⟨rfl, HB4.out⟩
    · simp only [uaW]
      go_wp2_with fail
      go_ret2
      exact ⟨rfl, HB4.out⟩

end Go.Proofs.Ytidlifijgooceaa
