import Derived.Test.YtidlifijgooceaaH39
import Derived.Test.YtidlifijgooceaaH26
import Derived.Test.YtidlifijgooceaaH04
import Derived.Test.YtidlifijgooceaaH23
set_option linter.unusedVariables false

/- impl.Accepts. -/
namespace Go.Proofs.Ytidlifijgooceaa
open Go.RowKit

set_option maxHeartbeats 8000000
set_option maxRecDepth 100000
theorem iAccepts_any (vt vb : Value) (ts : List Int) (l : List St) (B : Nat) (w : World) (ht : IntS w B vt ts) (hl : StS w B vb l) (hB : B ≤ w.heap.size) (hsz : szL l ≤ 4194300) :
    Calls Try.prog 28 #[.agg #[vt, vb]] w fun e w' => e = .returned (.bool (validP ts l && decide ((chkRes ts l).length = 0))) ∧ Below w.heap.size w w' := by
  go_enter Try.func28, Try.ntmps28
  go_wp2_with fail
  refine (iProgramValid_any vt vb ts l w.heap.size _ ((ht.low (bel_a _ _) hB).more hB) ((hl.low (bel_a _ _) hB).more hB) (by simp) (by omega)).mono ?_
  rintro e w1 ⟨rfl, hb1⟩
  have HB1 := Lib.hid ((bel_a _ _).trans (hb1.mono (by simp)))
  have hc := box_kept hb1 (by simp)
  have hc0 := hc 0
  have hc1 := hc 1
  simp at hc0 hc1
  clear hb1 hc
  cases hv : validP ts l
  · have HV := Lib.hid hv
    clear hv
    go_wp2_with (at_builtin; fail)
    go_ret
    exact ⟨by rw [HV.out]; rfl, HB1.out⟩
  · have HV := Lib.hid hv
    clear hv
    go_wp2_with (at_builtin; fail)
    refine (iCheckProgram_any vt vb ts l w.heap.size w1 ((ht.low HB1.out hB).more hB) ((hl.low HB1.out hB).more hB) HB1.out.size hsz).mono ?_
    rintro e w2 ⟨v, rfl, hv2, hb2⟩
    have HB2 := Lib.hid (HB1.out.trans (hb2.mono HB1.out.size))
    have HV2 := Lib.hid (hv2.toS (by have := chkRes_len ts l; omega))
    clear hv2 hb2
    obtain ⟨L, HL⟩ : ∃ L, Hid (chkRes ts l = L) := ⟨_, Lib.hid rfl⟩
    rw [HL.out] at HV2
    obtain ⟨A2, c2, rfl, hc2⟩ := HV2.out.slice
    by_cases hz : L.length = 0
    · have HZ := Lib.hid hz
      have hz1 : ((L.length : Int) == 0) = true := by simp [hz]
      clear hz
      go_wp2_with (at_builtin; fail)
      go_ret
      exact ⟨ret_bool (by rw [HV.out, HL.out, decide_eq_true HZ.out]; rfl), HB2.out⟩
    · have HZ := Lib.hid hz
      have hz1 : ((L.length : Int) == 0) = false := by simpa using hz
      clear hz
      go_wp2_with (at_builtin; fail)
      go_ret
      exact ⟨ret_bool (by rw [HV.out, HL.out, decide_eq_false HZ.out]; rfl), HB2.out⟩

end Go.Proofs.Ytidlifijgooceaa

/- impl.countStmts, impl.CountStmts. -/
namespace Go.Proofs.Ytidlifijgooceaa
open Go.RowKit

def CntOk (m : Nat) : Prop := ∀ (v : Value) (l : List St) (B : Nat) (w : World), szL l ≤ m → StS w B v l → B ≤ w.heap.size → Calls Try.prog 72 #[v] w fun e w' => e = .returned (.int .i64 (szL l : Nat)) ∧ Below w.heap.size w w'
set_option maxHeartbeats 4000000 in
set_option maxRecDepth 100000 in
theorem cnt_of (m : Nat) (hM : m ≤ 4194300) (ih : ∀ j, j < m → CntOk j) : CntOk m := by
  intro v l B w hm hl hB
  have hll := len_le_szL l
  obtain ⟨A, c, rfl, hc⟩ := hl.slice
  have IH := Lib.hid ih
  clear ih
  go_enter Try.func72, Try.ntmps72
  go_wp2_with (at_builtin; fail)
  go_loopw [3, 8] (fun a i wr => ∃ (k q : Nat), k ≤ l.length ∧ i = .int .i64 k ∧ a = .int .i64 q ∧ q = szL (l.take k) ∧ Below w.heap.size w wr) (fun _ i _ => l.length - (intOf i).toNat)
  case atStart => exact ⟨0, 0, Nat.zero_le _, rfl, rfl, by simp [szL], Below.refl _ _⟩
  case round =>
    obtain ⟨k, q, hk, rfl, rfl, hq, hbw⟩ := hrel
    have HQ := Lib.hid hq
    have HBW := Lib.hid hbw
    have hsr := hbw.size
    have hql : q ≤ 4194300 := by have := szL_take_le l k; omega
    clear hq
    by_cases hlt : k < l.length
    · have hl2 := hl.low hbw hB
      have hsz := szL_mem hlt
      have HTS := Lib.hid (szL_take_succ l k hlt)
      have htk := szL_take_le l (k + 1)
      rw [l[k].sz_eq] at hsz
      obtain ⟨b, off, tv, ev, rfl, hb, hth, hel, c0, c1, c2, c3, c4, c5⟩ := hl2.get hlt
      obtain ⟨A4, n4, rfl, -⟩ := hth.slice
      obtain ⟨A5, n5, rfl, -⟩ := hel.slice
      have HTH := Lib.hid hth
      have HEL := Lib.hid hel
      have htb : szL l[k].th + szL l[k].el + 1 + q ≤ 4194300 := by have := HTS.out; rw [← HQ.out] at this; omega
      generalize l[k]'hlt = s at *
      have HX5 := Lib.hid (RowB.new wr [.int .i64 s.op, .int .i64 s.x, .int .i64 s.y, .int .i64 s.n, .slice A4 s.th.length n4, .slice A5 s.el.length n5] 87)
      have HB5 := Lib.hid (bel_a wr (.cells #[.int .i64 s.op, .int .i64 s.x, .int .i64 s.y, .int .i64 s.n, .slice A4 s.th.length n4, .slice A5 s.el.length n5] 87))
      clear hbw hl2 hth hel
      go_upto_region 5 with (at_builtin; fail)
      clear c0 c1 c2 c3 c4 c5
      generalize wr.alloc (.cells #[.int .i64 s.op, .int .i64 s.x, .int .i64 s.y, .int .i64 s.n, .slice A4 s.th.length n4, .slice A5 s.el.length n5] 87) = w5 at *
      have hlx := HX5.out.lt
      have u4 := HX5.out.cell 4
      have u5 := HX5.out.cell 5
      simp only [List.getElem?_cons_zero, List.getElem?_cons_succ] at u4 u5
      have hs5 := HB5.out.size
      have IH4 : Hid (∀ wz, Below w5.heap.size w5 wz → Calls Try.prog 72 #[.slice A4 s.th.length n4] wz fun e w'' => e = .returned (.int .i64 (szL s.th : Nat)) ∧ Below w5.heap.size w5 w'') := Lib.hid fun wz hz =>
        (IH.out (szL s.th) (by omega) (.slice A4 s.th.length n4) s.th B wz (Nat.le_refl _) ((HTH.out.low HB5.out (by omega)).low hz (by omega)) (by have := hz.size; omega)).mono fun e w'' h => ⟨h.1, hz.trans (h.2.mono hz.size)⟩
      have IH5 : Hid (∀ wz, Below w5.heap.size w5 wz → Calls Try.prog 72 #[.slice A5 s.el.length n5] wz fun e w'' => e = .returned (.int .i64 (szL s.el : Nat)) ∧ Below w5.heap.size w5 w'') := Lib.hid fun wz hz =>
        (IH.out (szL s.el) (by omega) (.slice A5 s.el.length n5) s.el B wz (Nat.le_refl _) ((HEL.out.low HB5.out (by omega)).low hz (by omega)) (by have := hz.size; omega)).mono fun e w'' h => ⟨h.1, hz.trans (h.2.mono hz.size)⟩
      generalize hn1 : szL s.th = n1 at *
      generalize hn2 : szL s.el = n2 at *
      have HN := Lib.hid (And.intro hn1 hn2)
      clear hn1 hn2
      have BEL : Hid (∀ w', w'.cell? ⟨wr.heap.size, 4, none⟩ = some (.slice A4 s.th.length n4) ∧ w'.cell? ⟨wr.heap.size, 5, none⟩ = some (.slice A5 s.el.length n5) ∧ Below w5.heap.size w5 w' → Below w5.heap.size w5 w') := Lib.hid fun _ h => h.2.2
      refine wp_region_held_drew (S := (fun w' => w'.cell? ⟨wr.heap.size, 4, none⟩ = some (.slice A4 s.th.length n4) ∧ w'.cell? ⟨wr.heap.size, 5, none⟩ = some (.slice A5 s.el.length n5) ∧ Below w5.heap.size w5 w')) (by kernel_rfl) ?_ (fun hHeld => ?_)
      · exact ⟨u4, u5, (Below.refl _ _).drew⟩
      refine wpAnyH_take (i := 0) (oi := ⟨some 12, _, _, _, _, _⟩) (v := ?_) rfl (by kernel_rfl) (by kernel_rfl) (by kernel_rfl) (fun _ _ _ h => h) (Or.inl ⟨by rfl, fun w' hSw => ?_⟩) (by assumption) ?_
      rotate_left
      · (try dsimp only at hSw); go_simp; (try with_reducible rfl)
      (try simp only [Act.put, List.setIfInBounds_toArray, List.set_cons_zero, List.set_cons_succ])
      refine wpAnyH_take (i := 1) (oi := ⟨some 13, _, _, _, _, _⟩) (v := ?_) rfl (by kernel_rfl) (by kernel_rfl) (by kernel_rfl) (fun _ _ _ h => h) (Or.inl ⟨by rfl, fun w' hSw => ?_⟩) (by assumption) ?_
      rotate_left
      · (try dsimp only at hSw); go_simp; (try with_reducible rfl)
      (try simp only [Act.put, List.setIfInBounds_toArray, List.set_cons_zero, List.set_cons_succ])
      refine wpAnyH_take (i := 2) (oi := ⟨some 14, _, _, _, _, _⟩) (v := ?_) rfl (by kernel_rfl) (by kernel_rfl) (by kernel_rfl) (fun _ _ _ h => h) (Or.inl ⟨by rfl, fun w' hSw => ?_⟩) (by assumption) ?_
      rotate_left
      · (try dsimp only at hSw); go_simp; (try with_reducible rfl)
      (try simp only [Act.put, List.setIfInBounds_toArray, List.set_cons_zero, List.set_cons_succ])
      refine wpAnyH_take (i := 5) (oi := ⟨some 17, _, _, _, _, _⟩) (v := ?_) rfl (by kernel_rfl) (by kernel_rfl) (by kernel_rfl) (fun _ _ _ h => h) (Or.inl ⟨by rfl, fun w' hSw => ?_⟩) (by assumption) ?_
      rotate_left
      · (try dsimp only at hSw); go_simp; (try with_reducible rfl)
      (try simp only [Act.put, List.setIfInBounds_toArray, List.set_cons_zero, List.set_cons_succ])
      refine wpAnyH_take (i := 6) (oi := ⟨some 18, _, _, _, _, _⟩) (v := ?_) rfl (by kernel_rfl) (by kernel_rfl) (by kernel_rfl) (fun _ _ _ h => h) (Or.inl ⟨by rfl, fun w' hSw => ?_⟩) (by assumption) ?_
      rotate_left
      · (try dsimp only at hSw); go_simp; (try with_reducible rfl)
      (try simp only [Act.put, List.setIfInBounds_toArray, List.set_cons_zero, List.set_cons_succ])
      refine wpAnyH_ready (rs := [3]) (by kernel_rfl) (by simp) ?_
      refine AllReadyH.cons (o := ⟨some 15, _, _, _, _, _⟩) rfl (fun K hK => ?_) AllReadyH.nil
      go_simp
      (have BZ := (BEL.out _ (by assumption)))
      (refine (IH4.out _ BZ).mono ?_)
      (rintro e w7 ⟨rfl, hb7⟩)
      (have BX7 := Lib.hid hb7)
      clear hb7 BZ
      go_simp
      refine hK.out _ _ ?_ (fun hHeld => ?_)
      · exact ⟨(BX7.out.cell (p := ⟨wr.heap.size, 4, none⟩) hlx).trans u4, (BX7.out.cell (p := ⟨wr.heap.size, 5, none⟩) hlx).trans u5, BX7.out⟩
      clear hK K
      (try simp only [Act.put, List.setIfInBounds_toArray, List.set_cons_zero, List.set_cons_succ])
      refine wpAnyH_take (i := 4) (oi := ⟨some 16, _, _, _, _, _⟩) (v := ?_) rfl (by kernel_rfl) (by kernel_rfl) (by kernel_rfl) (fun _ _ _ h => h) (Or.inl ⟨by rfl, fun w' hSw => ?_⟩) (by assumption) ?_
      rotate_left
      · (try dsimp only at hSw); go_simp; (try with_reducible rfl)
      (try simp only [Act.put, List.setIfInBounds_toArray, List.set_cons_zero, List.set_cons_succ])
      refine wpAnyH_ready (rs := [7]) (by kernel_rfl) (by simp) ?_
      refine AllReadyH.cons (o := ⟨some 19, _, _, _, _, _⟩) rfl (fun K hK => ?_) AllReadyH.nil
      go_simp
      (have BZ := (BEL.out _ (by assumption)))
      (refine (IH5.out _ BZ).mono ?_)
      (rintro e w8 ⟨rfl, hb8⟩)
      (have BX8 := Lib.hid hb8)
      clear hb8 BZ
      go_simp
      refine hK.out _ _ ?_ (fun hHeld => ?_)
      · exact ⟨(BX8.out.cell (p := ⟨wr.heap.size, 4, none⟩) hlx).trans u4, (BX8.out.cell (p := ⟨wr.heap.size, 5, none⟩) hlx).trans u5, BX8.out⟩
      clear hK K
      (try simp only [Act.put, List.setIfInBounds_toArray, List.set_cons_zero, List.set_cons_succ])
      refine wpAnyH_take (i := 8) (oi := ⟨some 20, _, _, _, _, _⟩) (v := ?_) rfl (by kernel_rfl) (by kernel_rfl) (by kernel_rfl) (fun _ _ _ h => h) (Or.inl ⟨by rfl, fun w' hSw => ?_⟩) (by assumption) ?_
      rotate_left
      · (try dsimp only at hSw); go_simp; (try with_reducible rfl)
      (try simp only [Act.put, List.setIfInBounds_toArray, List.set_cons_zero, List.set_cons_succ])
      refine wpAnyH_take (i := 9) (oi := ⟨some 21, _, _, _, _, _⟩) (v := ?_) rfl (by kernel_rfl) (by kernel_rfl) (by kernel_rfl) (fun _ _ _ h => h) (Or.inl ⟨by rfl, fun w' hSw => ?_⟩) (by assumption) ?_
      rotate_left
      · (try dsimp only at hSw); go_simp; (try with_reducible rfl)
      (try simp only [Act.put, List.setIfInBounds_toArray, List.set_cons_zero, List.set_cons_succ])
      refine wpAnyH_take (i := 10) (oi := ⟨some 3, _, _, _, _, _⟩) (v := ?_) rfl (by kernel_rfl) (by kernel_rfl) (by kernel_rfl) (fun _ _ _ h => h) (Or.inl ⟨by rfl, fun w' hSw => ?_⟩) (by assumption) ?_
      rotate_left
      · (try dsimp only at hSw); go_simp; (try with_reducible rfl)
      (try simp only [Act.put, List.setIfInBounds_toArray, List.set_cons_zero, List.set_cons_succ])
      refine wpAnyH_done (by kernel_rfl) ?_ _
      have HB6 := Lib.hid (HBW.out.trans ((HB5.out.trans (BX8.out.mono hs5)).mono hsr))
      clear BX7 BX8 BEL hHeld u4 u5
      go_wp2_with (at_builtin; fail)
      exact ⟨⟨k + 1, q + (1 + n1 + n2), by omega, by go_num, by rw [IntWalk.i64_in (1 + (n1 : Int)) (by omega), IntWalk.i64_in (1 + (n1 : Int) + n2) (by omega), IntWalk.i64_in _ (by omega)]; push_cast; rfl, by have h5 := HTS.out; have h6 := HQ.out; omega, HB6.out⟩, by simp [intOf] <;> omega⟩
    · have hkl : k = l.length := by omega
      have HE : Hid (q = szL l) := Lib.hid (by rw [HQ.out, hkl, List.take_length])
      clear hkl
      go_wp2_with (at_builtin; fail)
      go_ret
      exact ⟨by rw [← HE.out]; rfl, HBW.out⟩
theorem cnt_any (m : Nat) (hM : m ≤ 4194300) : CntOk m := by
  induction m using Nat.strongRecOn with
  | _ m ih => exact cnt_of m hM fun j hj => ih j hj (by omega)
def cntRes (ts : List Int) (l : List St) : Nat := if validP ts l = true then szL l else 0
set_option maxHeartbeats 1000000 in
set_option maxRecDepth 100000 in
theorem iCountStmts_any (vt vb : Value) (ts : List Int) (l : List St) (B : Nat) (w : World) (ht : IntS w B vt ts) (hl : StS w B vb l) (hB : B ≤ w.heap.size) (hsz : szL l ≤ 4194300) :
    Calls Try.prog 29 #[.agg #[vt, vb]] w fun e w' => e = .returned (.int .i64 (cntRes ts l : Nat)) ∧ Below w.heap.size w w' := by
  have HBX := Lib.hid (Boxed.new ht hl hB 26)
  obtain ⟨At, ct, rfl, hct, -, -⟩ := ht
  obtain ⟨Ab, cb, rfl, hcb⟩ := hl.slice
  clear hl
  go_enter Try.func29, Try.ntmps29
  go_wp2_with (at_builtin; fail)
  refine (iProgramValid_any _ _ ts l B _ HBX.out.ht HBX.out.hl (by have := HBX.out.lt; omega) (by omega)).mono ?_
  rintro e w1 ⟨rfl, hb1⟩
  have HB1 := Lib.hid (HBX.out.bels hb1 hB)
  have c0 := HB1.out.c0
  have c1 := HB1.out.c1
  clear hb1
  cases hv : validP ts l
  · have HR : Hid (cntRes ts l = 0) := Lib.hid (if_neg (by rw [hv]; simp))
    clear hv
    go_wp2_with (at_builtin; fail)
    go_ret
    exact ⟨by rw [HR.out]; rfl, HB1.out.bel⟩
  · have HR : Hid (cntRes ts l = szL l) := Lib.hid (if_pos hv)
    clear hv
    go_wp2_with (at_builtin; fail)
    refine (cnt_any (szL l) hsz _ l B w1 (Nat.le_refl _) HB1.out.hl (by have := HB1.out.lt; omega)).mono ?_
    rintro e w2 ⟨rfl, hb2⟩
    go_wp2_with (at_builtin; fail)
    go_ret
    exact ⟨by rw [HR.out]; rfl, HB1.out.bel.trans (hb2.mono HB1.out.bel.size)⟩

end Go.Proofs.Ytidlifijgooceaa
