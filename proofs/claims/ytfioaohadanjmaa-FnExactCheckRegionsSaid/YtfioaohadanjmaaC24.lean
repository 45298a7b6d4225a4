import Derived.Test.YtfioaohadanjmaaC21
import Derived.Test.YtfioaohadanjmaaC09
set_option linter.unusedVariables false

/- Conflicts: impl.graph.against, impl.ConflictsAt. -/
namespace Go.Proofs.Ytfioaohadanjmaa
open Go.RowKit

theorem acc_range {ts : List Int} {pts : List Pt} (g : Good ts pts) {k : Nat} (hk : k < pts.length) {m : Nat → Bool} {a : Acc} (ha : a ∈ accL ts pts[k].op pts[k].x pts[k].y m) : 0 ≤ a.vr ∧ a.vr < ts.length := by
  have hp := List.getElem?_eq_getElem hk
  have hs := (g.ok _ (List.getElem_mem hk)).sets
  have hy := fun ho => g.y hp ho
  have hx : pts[k].op = 7 ∨ pts[k].op = 8 → 0 ≤ pts[k].x ∧ pts[k].x < ts.length := fun ho => by
    rcases g.ok _ (List.getElem_mem hk) with hh | hh | hh | hh
    · omega
    · omega
    · omega
    · exact typeOf_in (simple_x hh).2.2
  generalize pts[k] = P at *
  unfold accL at ha
  rw [List.mem_append] at ha
  rcases ha with ha | ha
  · unfold acc1 at ha
    repeat' split at ha
    all_goals simp only [List.mem_singleton, List.not_mem_nil] at ha
    all_goals subst ha
    all_goals first | exact hy (by omega) | exact hx (by omega)
  · unfold acc2 at ha
    split at ha
    · simp only [List.mem_singleton] at ha
      subst ha
      rename_i hc
      exact ⟨hc.1, hs⟩
    · cases ha

/-- what against answers -/
def AgRet (w : World) (pts : List Pt) (ac : List Acc) (s : Nat) (e : Ending) (w' : World) : Prop := ∃ t : Nat, e = .returned (.int .u64 (t : Nat)) ∧ t < top64 ∧ (∀ e, t.testBit e = (s.testBit e && acB pts ac e)) ∧ Below w.heap.size w w'
set_option maxHeartbeats 4000000 in
set_option maxRecDepth 100000 in
theorem against_any (vg : Value) (ts : List Int) (pts : List Pt) (B k mm s : Nat) (w : World) (hg : GrS w B vg ts pts) (hB : B ≤ w.heap.size) (gd : Good ts pts) (hk : k < pts.length) (hm : mm < 64) (hs : s < top64) :
    Calls Try.prog 90 #[vg, .int .i64 (k : Nat), .int .i64 (mm : Nat), .int .u64 (s : Nat)] w (AgRet w pts (accL ts pts[k].op pts[k].x pts[k].y mm.testBit) s) := by
  have HG := Lib.hid hg
  have GD := Lib.hid gd
  have HAR := Lib.hid (fun (a : Acc) (ha : a ∈ accL ts pts[k].op pts[k].x pts[k].y mm.testBit) => acc_range gd hk ha)
  have h6 := gd.h6
  have hlen := gd.len
  have HSL := Lib.hid (fun (_ : 0 ≤ setsP pts[k].op pts[k].x) => (gd.ok _ (List.getElem_mem hk)).sets)
  have HYL := Lib.hid (fun (ho : pts[k].op = 3) => gd.y (List.getElem?_eq_getElem hk) (by omega))
  clear gd
  obtain ⟨g, At, ct, vb, Al, cl, rfl, hgB, g0, g1, g2, ht, hp, htl, hpl'⟩ := hg.open_
  obtain ⟨b, off, c, nv, e, hb, hc, hl, hnx, z0, z1, z2, z3, z4⟩ := hp.get hk
  injection e with e1 e9 e2
  subst e1 e2
  clear e9
  obtain ⟨An, cn, rfl, hcn, hln, -⟩ := hnx
  simp only [List.length_map] at hcn hln z4
  have g2' := g2
  generalize hACC : accL ts pts[k].op pts[k].x pts[k].y mm.testBit = ac at *
  have HACC := Lib.hid hACC
  clear hACC
  go_enter Try.func90, Try.ntmps90
  go_wp2_with fail
  refine (accesses_any _ ts pts B _ _ _ _ _ _ _ mm w HG.out hB hm h6 HSL.out HYL.out).mono ?_
  rintro e w1 ⟨va, rfl, hax, hb1⟩
  rw [HACC.out] at hax
  have HB1 := Lib.hid hb1
  have hs1 := hb1.size
  have HAX := Lib.hid hax
  have hacl : ac.length ≤ 100000 := by obtain ⟨_, _, _, _, h, _⟩ := hax; exact h
  obtain ⟨Aa, ca, rfl, hca⟩ := hax.slice
  clear z0 z1 z2 z3 z4 hax hb1
  go_wp2_with fail
  go_loopw [9, 25] (fun c i wr => ∃ (j t : Nat), j ≤ ac.length ∧ c = .int .u64 (t : Nat) ∧ i = .int .i64 j ∧ t < top64 ∧ CfO pts ac s j t ∧ Below w1.heap.size w1 wr) (fun _ i _ => ac.length - (intOf i).toNat)
  case atStart => exact ⟨0, 0, Nat.zero_le _, rfl, rfl, Nat.two_pow_pos _, CfO.start, Below.refl _ _⟩
  case round =>
    obtain ⟨j, t, hj, rfl, rfl, ht64, hcf, hbw⟩ := hrel
    have HCF := Lib.hid hcf
    have HBW := Lib.hid hbw
    have hsw := hbw.size
    clear hcf hbw
    by_cases hjl : j < ac.length
    · obtain ⟨ba, oa, rfl, hba, a0, a1⟩ := (HAX.out.low HBW.out (Nat.le_refl _)).get hjl
      have HJL := Lib.hid hjl
      obtain ⟨aj, haj⟩ : ∃ aj, aj = ac[j]'hjl := ⟨_, rfl⟩
      have HAJ : Hid (0 ≤ aj.vr ∧ aj.vr < ts.length) := Lib.hid (by rw [haj]; exact HAR.out _ (List.getElem_mem hjl))
      rw [← haj] at a0 a1
      have HJ := Lib.hid haj
      clear haj
      obtain ⟨v, hv⟩ : ∃ v : Nat, aj.vr = v := ⟨aj.vr.toNat, by have := HAJ.out; omega⟩
      have hv6 : v < 6 := by have := HAJ.out; omega
      have HV := Lib.hid hv
      rw [hv] at a0
      obtain ⟨wt, hwt⟩ : ∃ b, aj.wr = b := ⟨_, rfl⟩
      rw [hwt] at a1
      have HWT := Lib.hid hwt
      clear hv hwt
      have hpw := pow_small (k := v) (by omega)
      obtain ⟨m, hm'⟩ : ∃ m : Nat, m = 2 ^ v := ⟨_, rfl⟩
      rw [← hm'] at hpw
      have hm64 : m < 64 := by rw [hm']; exact two_pow_lt (by omega)
      have HM := Lib.hid hm'
      clear hm'
      have HR0 := Lib.hid (RowB.new wr [.int .i64 (v : Nat), .bool wt] 150)
      have HB0 := Lib.hid (HBW.out.alloc hsw (.cells #[.int .i64 (v : Nat), .bool wt] 150))
      have hs0 : (wr.alloc (.cells #[.int .i64 (v : Nat), .bool wt] 150)).heap.size = wr.heap.size + 1 := by simp
      have HS0 := Lib.hid hs0
      clear hs0
      go_wp2_with fail
      generalize wr.alloc (.cells #[.int .i64 (v : Nat), .bool wt] 150) = w2 at *
      obtain ⟨bx, hbx⟩ : ∃ bx, bx = wr.heap.size := ⟨_, rfl⟩
      rw [← hbx] at HR0 HS0 hsw ⊢
      have hbxl : bx < w2.heap.size := by have := HS0.out; omega
      clear hbx
      have HG2 := Lib.hid ((HG.out.low HB1.out hB).low HB0.out (by omega))
      refine (ofVars_any _ ts pts B m w2 HG2.out (by have := HB0.out.size; omega) GD.out hm64).mono ?_
      rintro e w3 ⟨o, rfl, ho64, hob, hb3⟩
      have HOB := Lib.hid hob
      have HB3 := Lib.hid (HB0.out.trans (hb3.mono HB0.out.size))
      have HR3 := Lib.hid (HR0.out.low hb3 hbxl)
      have hs3 := hb3.size
      obtain ⟨q, hq⟩ : ∃ q, q = s &&& o := ⟨_, rfl⟩
      have hand : bits .and .u64 (s : Int) (o : Int) = ((q : Nat) : Int) := by rw [hq]; exact and_u64 hs ho64
      have hq64 : q < top64 := by rw [hq]; exact Nat.lt_of_le_of_lt Nat.and_le_left hs
      have HQ : Hid (∀ e, q.testBit e = (s.testBit e && o.testBit e)) := Lib.hid fun e => by rw [hq, Nat.testBit_and]
      clear hq hob hb3
      have HLB := Lib.hid (loanBits_any q hq64 w3)
      go_wp2_with fail
      refine HLB.out.mono ?_
      rintro e w4 ⟨vl, rfl, hil, hb4⟩
      have HB4 := Lib.hid (HB3.out.trans (hb4.mono HB3.out.size))
      have HR4 := Lib.hid (HR3.out.low hb4 (by omega))
      have hs4 := hb4.size
      have HIL := Lib.hid hil
      have HLM : Hid (∀ i, i < (lst 64 q.testBit).length → ∃ e : Nat, e < pts.length ∧ (lst 64 q.testBit).getD i 0 = ((e : Nat) : Int)) := Lib.hid fun i hi => by
        have := List.getElem_mem hi
        obtain ⟨e, he, h1, h2⟩ := lst_mem.1 this
        refine ⟨e, ?_, by rw [getD_lt hi]; exact h2⟩
        rw [HQ.out, Bool.and_eq_true, HOB.out] at h1
        exact ofB_lt h1.2
      obtain ⟨L, hL⟩ : ∃ L, L = lst 64 q.testBit := ⟨_, rfl⟩
      rw [← hL] at HIL HLM
      have HLE := Lib.hid hL
      have HFIN : Hid (∀ t', CfI pts aj t L L.length t' → CfO pts ac s (j + 1) t') := Lib.hid fun t' h => CfI.done HCF.out hjl HJ.out.symm hs (fun e => by rw [HOB.out e, HM.out, HV.out, Int.toNat_natCast]) HQ.out HLE.out h
      have hil' := HIL.out
      obtain ⟨Ai, ci, rfl, hci, hil2, hri⟩ := hil'
      clear hL hil hb4 hri
      have y1 := HR4.out.cell 1
      simp only [List.getElem?_cons_zero, List.getElem?_cons_succ] at y1
      have hgB4 : g < w4.heap.size := by have := HB4.out.size; omega
      have HG4 := Lib.hid ((HG.out.low HB1.out hB).low HB4.out (by omega))
      have g2'' := ((HB1.out.trans (HB4.out.mono (by omega))).cell (p := ⟨g, 2, none⟩) (by show g < _; omega)).trans g2'
      go_wp2_with fail
      go_loopw [9, 38] (fun c i wx => ∃ (n u : Nat), n ≤ L.length ∧ c = .int .u64 (u : Nat) ∧ i = .int .i64 n ∧ u < top64 ∧ CfI pts aj t L n u ∧ w4 = wx) (fun _ i _ => L.length - (intOf i).toNat)
      case atStart => exact ⟨0, t, Nat.zero_le _, rfl, rfl, ht64, CfI.start, rfl⟩
      case round =>
        obtain ⟨n, u, hn, rfl, rfl, hu64, hci', rfl⟩ := hrel
        have HCI := Lib.hid hci'
        clear hci'
        by_cases hnl : n < L.length
        · obtain ⟨e0, he0, hee⟩ := HLM.out n hnl
          obtain ⟨bl, ol, cl2, ev, hbl, -, -, hcl⟩ := HIL.out.get (i := (n : Nat)) (by omega) (by omega)
          injection ev with ev1 ev9 ev2
          subst ev1 ev2
          clear ev9
          have hti : typeOfP L ((n : Nat) : Int) = ((e0 : Nat) : Int) := by unfold typeOfP; rw [if_pos (by omega), Int.toNat_natCast]; exact hee
          rw [hti, Int.toNat_natCast] at hcl
          have HEE := Lib.hid hee
          clear hti hee
          have hpq := hp
          obtain ⟨b', off', c', nv', e', hb', hc', hl', -, p0, p1, p2, p3, p4⟩ := hpq.get he0
          injection e' with e1 e9 e2
          injection e1 with e1
          injection e1 with e1 e3
          subst e1 e2 e3
          clear e9
          have hbB' : b < w4.heap.size := by have := HB4.out.size; omega
          have d0 := ((HB1.out.trans (HB4.out.mono (by omega))).cell (p := ⟨b, off + e0 * 5, none⟩) (by show b < _; omega)).trans p0
          have HPD : Hid (ptD pts e0 = pts[e0]) := Lib.hid (ptD_get he0)
          have HC0 : Hid (cndB pts aj e0 = (wt || (pts[e0].op == 5))) := Lib.hid (by unfold cndB; rw [HPD.out, HWT.out])
          generalize pts[e0] = P at *
          clear p0 p1 p2 p3 p4
          obtain ⟨pk, hpk⟩ : ∃ m : Nat, m = 2 ^ e0 := ⟨_, rfl⟩
          have hpk64 : pk < top64 := by rw [hpk]; exact one_shl (by omega)
          have hpw2 : IntKind.u64.wrap (2 ^ e0) = (pk : Int) := by rw [hpk]; exact pow_u64 (k := e0) (by omega)
          obtain ⟨r, hr⟩ : ∃ r, r = u ||| pk := ⟨_, rfl⟩
          have hor : bits .or .u64 (u : Int) (pk : Int) = ((r : Nat) : Int) := by rw [hr]; exact or_u64 hu64 hpk64
          have hr64 : r < top64 := by rw [hr]; exact or_top hu64 hpk64
          have HR : Hid (r = u ||| 2 ^ e0) := Lib.hid (by rw [hr, hpk])
          clear hpk hr
          have HNO : Hid (cndB pts aj e0 = false → CfI pts aj t L (n + 1) u) := Lib.hid fun h => HCI.out.no hnl HEE.out h
          have HYES : Hid (cndB pts aj e0 = true → CfI pts aj t L (n + 1) r) := Lib.hid fun h => by rw [HR.out]; exact HCI.out.yes hnl HEE.out h
          cases wt
          · cases h5 : (P.op == 5)
            · have HN2 := Lib.hid (HNO.out (by rw [HC0.out, h5]; rfl))
              go_wp2_with fail
              exact ⟨⟨n + 1, u, by omega, rfl, by go_num, hu64, HN2.out, trivial⟩, by simp [intOf] <;> omega⟩
            · have HY2 := Lib.hid (HYES.out (by rw [HC0.out, h5]; rfl))
              go_wp2_with fail
              exact ⟨⟨n + 1, r, by omega, rfl, by go_num, hr64, HY2.out, trivial⟩, by simp [intOf] <;> omega⟩
          · have HY2 := Lib.hid (HYES.out (by rw [HC0.out]; rfl))
            go_wp2_with fail
            exact ⟨⟨n + 1, r, by omega, rfl, by go_num, hr64, HY2.out, trivial⟩, by simp [intOf] <;> omega⟩
        · have hne : n = L.length := by omega
          have HD : Hid (CfO pts ac s (j + 1) u) := Lib.hid (HFIN.out u (by rw [← hne]; exact HCI.out))
          clear hne
          go_wp2_with fail
          have hjl := HJL.out
          exact ⟨⟨j + 1, u, by omega, rfl, by go_num, hu64, HD.out, HB4.out⟩, by simp [intOf] <;> omega⟩
    · have hje : j = ac.length := by omega
      have HD : Hid (∀ e, t.testBit e = (s.testBit e && acB pts ac e)) := Lib.hid fun e => by
        have := HCF.out e
        rw [hje, List.take_length] at this
        exact this
      clear hje
      go_wp2_with fail
      go_ret
      exact ⟨t, rfl, ht64, HD.out, HB1.out.trans (HBW.out.mono hs1)⟩

end Go.Proofs.Ytfioaohadanjmaa
