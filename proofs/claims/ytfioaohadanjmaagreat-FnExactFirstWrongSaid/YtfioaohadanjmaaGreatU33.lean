import Derived.Test.YtfioaohadanjmaaGreatU32
import Derived.Test.YtfioaohadanjmaaGreatU22
import Derived.Deep.LoopGhost
import Derived.Test.YtfioaohadanjmaaGreatU13
set_option linter.unusedVariables false

/- impl: choicesOf, wrong, CountWrong, FirstWrong, SafeUpTo. -/
namespace Go.Proofs.YtfioaohadanjmaaGreat
open Go.RowKit Go.Lib

theorem bit_at (n k : Nat) : bits .and .i64 (((n : Nat) : Int) / 2 ^ k) 1 = ((n / 2 ^ k % 2 : Nat) : Int) := by
  rw [and_one]
  norm_cast
/-- but for block bc nothing old has turned -/
structure Bex (bc : Nat) (w w' : World) : Prop where
  os : w'.os = w.os
  tape : w'.tape = w.tape
  output : w'.output = w.output
  size : w.heap.size ≤ w'.heap.size
  oth : ∀ b, b < w.heap.size → b ≠ bc → w'.heap[b]? = w.heap[b]?
theorem Bex.refl (bc : Nat) (w : World) : Bex bc w w := ⟨rfl, rfl, rfl, Nat.le_refl _, fun _ _ _ => rfl⟩
theorem Bex.trans {bc : Nat} {a b c : World} (h : Bex bc a b) (k : Bex bc b c) : Bex bc a c := ⟨k.os.trans h.os, k.tape.trans h.tape, k.output.trans h.output, Nat.le_trans h.size k.size, fun i h1 h2 => (k.oth i (Nat.lt_of_lt_of_le h1 h.size) h2).trans (h.oth i h1 h2)⟩
theorem Bex.ofB {bc : Nat} {w w' : World} (h : Below w.heap.size w w') : Bex bc w w' := ⟨h.os, h.tape, h.output, h.size, fun b hb _ => h.block b hb⟩
theorem Bex.below {bc B : Nat} {w w' : World} (h : Bex bc w w') (h1 : B ≤ w.heap.size) (h2 : B ≤ bc) : Below B w w' := ⟨h.os, h.tape, h.output, h.size, fun b hb => h.oth b (by omega) (by omega)⟩
theorem Bex.set (bc : Nat) (w : World) (v : Value) : Bex bc w (w.setCell ⟨bc, 0, none⟩ v) := by
  have h : Below bc w (w.setCell ⟨bc, 0, none⟩ v) := (Below.refl bc w).setCell (p := ⟨bc, 0, none⟩) (Nat.le_refl _) _
  exact ⟨h.os, h.tape, h.output, h.size, fun b _ hb => heap_setCell_other w ⟨bc, 0, none⟩ b v hb⟩
theorem Bex.row {bc g : Nat} {w w' : World} {T : TypeId} {L : List Value} (h : Bex bc w w') (hr : RowB w g T L) (hg : g ≠ bc) : RowB w' g T L := (h.oth g hr.lt hg).trans hr
theorem Bex.rowB {bc : Nat} {w w' : World} {T : TypeId} {L : List Value} (h : Below w.heap.size w w') (hr : RowB w bc T L) : RowB w' bc T L := hr.low h hr.lt
set_option maxHeartbeats 2000000 in
set_option maxRecDepth 100000 in
theorem choicesOf_any (n m : Nat) (hn : n ≤ 64) (hm : m ≤ 6) (w : World) : Calls Tryz.prog 51 #[.int .i64 (n : Nat), .int .i64 (m : Nat)] w (IntsOwn w (chcP n m)) := by
  have HE := Lib.hid (OInts.nil w w.heap.size)
  go_enter Tryz.func51, Tryz.ntmps51
  go_wp2_with (at_builtin; fail)
  go_loopg [5, 6, 8] (m + 1) (fun gk v a6 i wr => ∃ k : Nat, k ≤ m ∧ i = .int .i64 k ∧ OInts wr w.heap.size v (chcP n k) ∧ Below w.heap.size w wr ∧ m - k < gk)
  case atStart => exact ⟨0, Nat.zero_le _, rfl, HE.out, Below.refl _ _, by omega⟩
  case round =>
    obtain ⟨k, hk, rfl, ho, hbw, hgk⟩ := hrel
    have HO := Lib.hid ho
    have HBW := Lib.hid hbw
    have hsw := hbw.size
    obtain ⟨A, c, rfl, hc⟩ := ho.slice
    have HCL : Hid ((chcP n k).length = k) := Lib.hid (chcP_len n k)
    rw [chcP_len] at hc HO ⊢
    clear ho hbw
    by_cases hlt : k < m
    · have hbt := bit_at n k
      have HSU : Hid (chcP n k ++ [((n / 2 ^ k % 2 : Nat) : Int)] = chcP n (k + 1)) := Lib.hid (chcP_succ n k).symm
      generalize n / 2 ^ k % 2 = q at *
      go_wp2_with (at_builtin; go_must (refine wpList_push_int rfl (.tmp 11) (.tmp 16) rfl HO.out hsw (by rw [HCL.out]; omega) _ rfl rfl ?_); intro v' w' hP' hE'; (have HB2 := Lib.hid (HBW.out.trans (((Evo.alloc w.heap.size 3 _ _).trans hE').below hsw))); (have HP2 := Lib.hid hP'); clear hP' hE')
      go_roundg (m - k)
      case measure => omega
      case rel => exact ⟨k + 1, by omega, by go_num, by rw [← HSU.out]; exact HP2.out, HB2.out, by omega⟩
    · obtain rfl : k = m := by omega
      go_wp2_with (at_builtin; fail)
      go_ret
      exact ⟨_, rfl, HO.out, HBW.out⟩
set_option maxHeartbeats 2000000 in
set_option maxRecDepth 100000 in
theorem isLength_any (a : Int) (w : World) : Calls Tryz.prog 72 #[.int .i64 a] w fun e w' => e = .returned (.bool (withinP a 0 6)) ∧ w = w' := by
  go_enter Tryz.func72, Tryz.ntmps72
  go_wp2_with (at_builtin; fail)
  refine (within_any _ _ _ _).mono ?_
  rintro e w' ⟨rfl, rfl⟩
  go_wp2_with (at_builtin; fail)
  go_ret
  exact ⟨rfl, rfl⟩
set_option maxHeartbeats 8000000 in
set_option maxRecDepth 100000 in
theorem wrong_any (vt vb : Value) (fn : FuncId) (ts : List Int) (l : List St) (a : Int) (bc B : Nat) (f : Nat → Int) (w : World) (ht : IntS w B vt ts) (hl : StS w B vb l) (hB : B ≤ bc) (hsz : szL l ≤ 4194300)
    (hrow : RowB w bc 3 [.int .i64 (f 0)])
    (heg : ∀ args w, (callFunc fn args).run Tryz.prog w = .ok (.enter fn args) w)
    (hno : ∀ k, badP ts l a.toNat k = false → f (k + 1) = f k)
    (hF : ∀ (k a6 : Nat) w', k < 64 → RowB w' bc 3 [.int .i64 (f k)] → badP ts l a.toNat k = true → Calls Tryz.prog fn #[.int .i64 (k : Nat), .int .i64 (a6 : Nat), .pointer (some ⟨bc, 0, none⟩)] w' fun e w'' => e = .returned (.tuple #[]) ∧ Bex bc w' w'' ∧ RowB w'' bc 3 [.int .i64 (f (k + 1))]) :
    Calls Tryz.prog 47 #[.agg #[vt, vb], .int .i64 a, .func (.func fn) #[] #[.pointer (some ⟨bc, 0, none⟩)]] w fun e w' => e = .returned (.bool (lenOk ts l a)) ∧ Bex bc w w' ∧ RowB w' bc 3 [.int .i64 (f (if lenOk ts l a = true then 2 ^ a.toNat else 0))] := by
  have HF := Lib.hid hF
  have HNO := Lib.hid hno
  have hbl := hrow.lt
  have hBw : B ≤ w.heap.size := by omega
  have HX := Lib.hid (RowB.new w [vt, vb] 31)
  have HB0 := Lib.hid (bel_a w (.cells #[vt, vb] 31))
  have HRW := Lib.hid hrow
  have HT := Lib.hid ht
  have HL := Lib.hid hl
  have HPV := Lib.hid (iProgramValid_any vt vb ts l B _ (ht.low HB0.out hBw) (hl.low HB0.out hBw) (Nat.le_trans hBw HB0.out.size) (by omega))
  have HLO : Hid (lenOk ts l a = (validP ts l && withinP a 0 6)) := Lib.hid rfl
  obtain ⟨At, ct, rfl, hct, -, -⟩ := ht
  obtain ⟨Ab, cb, rfl, hcb⟩ := hl.slice
  obtain ⟨LO, hLO⟩ : ∃ LO, LO = lenOk ts l a := ⟨_, rfl⟩
  rw [← hLO] at HLO ⊢
  have HLOE := Lib.hid hLO
  clear hl hF hno hrow hLO
  go_enter Tryz.func47, Tryz.ntmps47
  go_upto_region 1 with (at_builtin; fail)
  generalize w.alloc (.cells #[.slice At ts.length ct, .slice Ab l.length cb] 31) = W at *
  obtain ⟨bx, hbx⟩ : ∃ bx, bx = w.heap.size := ⟨_, rfl⟩
  rw [← hbx] at HX ⊢
  have hbcx : bc < bx := by omega
  clear hbx
  have g0 := HX.out.cell 0
  have g1 := HX.out.cell 1
  simp only [List.getElem?_cons_zero, List.getElem?_cons_succ] at g0 g1
  go_wp2_with (at_builtin; fail)
  refine HPV.out.mono ?_
  rintro e w1 ⟨rfl, hb1⟩
  have HB1 := Lib.hid (HB0.out.trans (hb1.mono HB0.out.size))
  have HX1 := Lib.hid (HX.out.low hb1 HX.out.lt)
  have HR1 := Lib.hid (HRW.out.low HB1.out hbl)
  clear hb1 g0 g1
  cases hv : validP ts l
  · rw [hv] at HLO
    obtain rfl : LO = false := HLO.out
    clear hv
    go_wp2_with (at_builtin; fail)
    go_ret
    exact ⟨rfl, .ofB HB1.out, HR1.out⟩
  · rw [hv] at HLO
    have HV := Lib.hid hv
    clear hv
    cases hwi : withinP a 0 6
    · rw [hwi] at HLO
      obtain rfl : LO = false := HLO.out
      have HWI := Lib.hid hwi
      clear hwi
      go_wp2_with (at_builtin; fail)
      refine (isLength_any a _).mono ?_
      rintro e w' ⟨rfl, rfl⟩
      rw [HWI.out]
      go_wp2_with (at_builtin; fail)
      go_ret
      exact ⟨rfl, .ofB HB1.out, HR1.out⟩
    · rw [hwi] at HLO
      obtain rfl : LO = true := HLO.out
      have HWI := Lib.hid hwi
      have hwi2 : 0 ≤ a ∧ a ≤ 6 := by simpa [withinP] using hwi
      obtain ⟨m, rfl⟩ : ∃ m : Nat, a = m := ⟨a.toNat, by omega⟩
      have hm : m ≤ 6 := by omega
      have hp64 : 2 ^ m ≤ 64 := pow6 hm
      obtain ⟨pk, hpk⟩ : ∃ pk : Nat, pk = 2 ^ m := ⟨_, rfl⟩
      rw [← hpk] at hp64
      have HPK := Lib.hid hpk
      have HSH : IntKind.i64.wrap (2 ^ m) = ((pk : Nat) : Int) := by
        have e : ((2 : Int) ^ m) = ((pk : Nat) : Int) := by rw [hpk]; norm_cast
        rw [e]
        exact IntWalk.i64_in _ (by omega)
      obtain ⟨bad, hbad⟩ : ∃ bad, bad = badP ts l m := ⟨_, rfl⟩
      have HBAD := Lib.hid hbad
      simp only [Int.toNat_natCast] at HF HNO ⊢
      rw [← hbad] at HF HNO
      have hb1s := HB1.out.size
      clear hwi hwi2 hpk hbad
      go_wp2_with (at_builtin; fail)
      refine (isLength_any _ _).mono ?_
      rintro e w' ⟨rfl, rfl⟩
      rw [HWI.out]
      go_wp2_with (at_builtin; fail)
      go_loopg [7, 8, 9, 20] (pk + 1) (fun gk a7 a8 a9 i wr => ∃ (k : Nat), k ≤ pk ∧ i = .int .i64 k ∧ RowB wr bc 3 [.int .i64 (f k)] ∧ Bex bc w1 wr ∧ pk - k < gk)
      case atStart => exact ⟨0, Nat.zero_le _, rfl, HR1.out, Bex.refl _ _, by omega⟩
      case round =>
        obtain ⟨k, hk, rfl, hrw, hbr, hgk⟩ := hrel
        have HRR := Lib.hid hrw
        have HBR := Lib.hid hbr
        have hbrs := hbr.size
        clear hrw hbr
        by_cases hlt : k < pk
        · have HXR := Lib.hid (HBR.out.row HX1.out (by omega))
          have hxl := HXR.out.lt
          have g0 := HXR.out.cell 0
          have g1 := HXR.out.cell 1
          simp only [List.getElem?_cons_zero, List.getElem?_cons_succ] at g0 g1
          have HBW : Hid (Below B w wr) := Lib.hid ((HB1.out.mono hBw).trans (HBR.out.below (by omega) hB))
          have HTR := Lib.hid ((HT.out.low HBW.out (Nat.le_refl _)).more (B' := wr.heap.size) (by omega))
          have HLR := Lib.hid ((HL.out.low HBW.out (Nat.le_refl _)).more (B' := wr.heap.size) (by omega))
          obtain ⟨z, a6, hz⟩ : ∃ z a6, progX ts l (chcP k m) 80 = (z, a6) := ⟨_, _, rfl⟩
          have HZ := Lib.hid hz
          have HBK : Hid (bad k = (z != 0 && z != 1)) := Lib.hid (by rw [HBAD.out]; unfold badP; rw [hz])
          clear hz
          go_wp2_with (at_builtin; fail)
          have BEL : Hid (∀ w', w'.cell? ⟨bx, 0, none⟩ = some (.slice At ts.length ct) ∧ w'.cell? ⟨bx, 1, none⟩ = some (.slice Ab l.length cb) ∧ Below wr.heap.size wr w' → Below wr.heap.size wr w') := Lib.hid fun _ h => h.2.2
          refine wp_region_held_drew (S := (fun w' => w'.cell? ⟨bx, 0, none⟩ = some (.slice At ts.length ct) ∧ w'.cell? ⟨bx, 1, none⟩ = some (.slice Ab l.length cb) ∧ Below wr.heap.size wr w')) (by kernel_rfl) ?_ (fun hHeld => ?_)
          · exact ⟨g0, g1, BelD wr⟩
          refine wpAnyH_take (i := 0) (oi := ⟨some 24, _, _, _, _, _⟩) (v := ?_) rfl (by kernel_rfl) (by kernel_rfl) (by kernel_rfl) (fun _ _ _ h => h) (Or.inl ⟨by rfl, fun w' hSw => ?_⟩) (by assumption) ?_
          rotate_left
          · (try dsimp only at hSw); go_simp; (try with_reducible rfl)
          (try simp only [Act.put, List.setIfInBounds_toArray, List.set_cons_zero, List.set_cons_succ])
          refine wpAnyH_take (i := 1) (oi := ⟨some 25, _, _, _, _, _⟩) (v := ?_) rfl (by kernel_rfl) (by kernel_rfl) (by kernel_rfl) (fun _ _ _ h => h) (Or.inl ⟨by rfl, fun w' hSw => ?_⟩) (by assumption) ?_
          rotate_left
          · (try dsimp only at hSw); go_simp; (try with_reducible rfl)
          (try simp only [Act.put, List.setIfInBounds_toArray, List.set_cons_zero, List.set_cons_succ])
          refine wpAnyH_take (i := 2) (oi := ⟨some 26, _, _, _, _, _⟩) (v := ?_) rfl (by kernel_rfl) (by kernel_rfl) (by kernel_rfl) (fun _ _ _ h => h) (Or.inl ⟨by rfl, fun w' hSw => ?_⟩) (by assumption) ?_
          rotate_left
          · (try dsimp only at hSw); go_simp; (try with_reducible rfl)
          (try simp only [Act.put, List.setIfInBounds_toArray, List.set_cons_zero, List.set_cons_succ])
          refine wpAnyH_ready (rs := [3]) (by kernel_rfl) (by simp) ?_
          refine (AllReadyH.cons (o := ⟨some 27, _, _, _, _, _⟩) rfl (fun K hK => ?_) AllReadyH.nil)
          go_simp
          (have BY := (BEL.out _ (by assumption)))
          (refine (choicesOf_any k m (by omega) hm _).mono ?_)
          (rintro e w5 ⟨v5, rfl, hv5, hb5⟩)
          (have HB5 := Lib.hid (BY.trans (hb5.mono BY.size)))
          (have HV5 := Lib.hid (hv5.toS (by rw [chcP_len]; omega)))
          (obtain ⟨A5, c5, rfl, -⟩ := hv5.slice)
          clear hv5 hb5 BY
          go_simp
          refine hK.out _ _ ?_ (fun hHeld => ?_)
          · exact ⟨(HB5.out.cell (p := ⟨bx, 0, none⟩) hxl).trans g0, (HB5.out.cell (p := ⟨bx, 1, none⟩) hxl).trans g1, HB5.out⟩
          clear hK K
          (try simp only [Act.put, List.setIfInBounds_toArray, List.set_cons_zero, List.set_cons_succ])
          refine wpAnyH_ready (rs := [4]) (by kernel_rfl) (by simp) ?_
          refine (AllReadyH.cons (o := ⟨some 28, _, _, _, _, _⟩) rfl (fun K hK => ?_) AllReadyH.nil)
          go_simp
          (refine (iRunProgram_any _ _ _ ts l (chcP k m) 80 w5.heap.size w5 ((HTR.out.low HB5.out (Nat.le_refl _)).more HB5.out.size) ((HLR.out.low HB5.out (Nat.le_refl _)).more HB5.out.size) HV5.out (Nat.le_refl _) hsz).mono ?_)
          (rw [HZ.out])
          (rintro e w6 ⟨rfl, hb6⟩)
          (have HB6 := Lib.hid (HB5.out.trans (hb6.mono HB5.out.size)))
          clear hb6
          go_simp
          refine hK.out _ _ ?_ (fun hHeld => ?_)
          · exact ⟨(HB6.out.cell (p := ⟨bx, 0, none⟩) hxl).trans g0, (HB6.out.cell (p := ⟨bx, 1, none⟩) hxl).trans g1, HB6.out⟩
          clear hK K
          (try simp only [Act.put, List.setIfInBounds_toArray, List.set_cons_zero, List.set_cons_succ])
          refine wpAnyH_take (i := 5) (oi := ⟨some 23, _, _, _, _, _⟩) (v := ?_) rfl (by kernel_rfl) (by kernel_rfl) (by kernel_rfl) (fun _ _ _ h => h) (Or.inl ⟨by rfl, fun w' hSw => ?_⟩) (by assumption) ?_
          rotate_left
          · (try dsimp only at hSw); go_simp; (try with_reducible rfl)
          (try simp only [Act.put, List.setIfInBounds_toArray, List.set_cons_zero, List.set_cons_succ])
          refine wpAnyH_take (i := 6) (oi := ⟨some 29, _, _, _, _, _⟩) (v := ?_) rfl (by kernel_rfl) (by kernel_rfl) (by kernel_rfl) (fun _ _ _ h => h) (Or.inl ⟨by rfl, fun w' hSw => ?_⟩) (by assumption) ?_
          rotate_left
          · (try dsimp only at hSw); go_simp; (try with_reducible rfl)
          (try simp only [Act.put, List.setIfInBounds_toArray, List.set_cons_zero, List.set_cons_succ])
          refine wpAnyH_take (i := 7) (oi := ⟨some 30, _, _, _, _, _⟩) (v := ?_) rfl (by kernel_rfl) (by kernel_rfl) (by kernel_rfl) (fun _ _ _ h => h) (Or.inl ⟨by rfl, fun w' hSw => ?_⟩) (by assumption) ?_
          rotate_left
          · (try dsimp only at hSw); go_simp; (try with_reducible rfl)
          (try simp only [Act.put, List.setIfInBounds_toArray, List.set_cons_zero, List.set_cons_succ])
          refine wpAnyH_take (i := 8) (oi := ⟨some 8, _, _, _, _, _⟩) (v := ?_) rfl (by kernel_rfl) (by kernel_rfl) (by kernel_rfl) (fun _ _ _ h => h) (Or.inl ⟨by rfl, fun w' hSw => ?_⟩) (by assumption) ?_
          rotate_left
          · (try dsimp only at hSw); go_simp; (try with_reducible rfl)
          (try simp only [Act.put, List.setIfInBounds_toArray, List.set_cons_zero, List.set_cons_succ])
          refine wpAnyH_take (i := 9) (oi := ⟨some 9, _, _, _, _, _⟩) (v := ?_) rfl (by kernel_rfl) (by kernel_rfl) (by kernel_rfl) (fun _ _ _ h => h) (Or.inl ⟨by rfl, fun w' hSw => ?_⟩) (by assumption) ?_
          rotate_left
          · (try dsimp only at hSw); go_simp; (try with_reducible rfl)
          (try simp only [Act.put, List.setIfInBounds_toArray, List.set_cons_zero, List.set_cons_succ])
          refine wpAnyH_done (by kernel_rfl) ?_ _
          have HR6 := Lib.hid (HRR.out.low HB6.out HRR.out.lt)
          have HE6 : Hid (Bex bc w1 w6) := Lib.hid (HBR.out.trans (.ofB HB6.out))
          clear g0 g1 BEL hHeld
          cases q0 : (z != 0)
          · have HN : Hid (f (k + 1) = f k) := Lib.hid (HNO.out k (by rw [HBK.out, q0]; rfl))
            go_wp2_with (at_builtin; fail)
            go_roundg (pk - k)
            case measure => omega
            case rel => exact ⟨k + 1, by omega, by go_num, by rw [HN.out]; exact HR6.out, HE6.out, by omega⟩
          · cases q1 : (z != 1)
            · have HN : Hid (f (k + 1) = f k) := Lib.hid (HNO.out k (by rw [HBK.out, q0, q1]; rfl))
              go_wp2_with (at_builtin; fail)
              go_roundg (pk - k)
              case measure => omega
              case rel => exact ⟨k + 1, by omega, by go_num, by rw [HN.out]; exact HR6.out, HE6.out, by omega⟩
            · have HCL := Lib.hid (HF.out k a6 w6 (by omega) HR6.out (by rw [HBK.out, q0, q1]; rfl))
              go_wp2_with (at_builtin; fail)
              refine HCL.out.mono ?_
              rintro e w7 ⟨rfl, hb7, hr7⟩
              have HR7 := Lib.hid hr7
              have HE7 := Lib.hid (HE6.out.trans hb7)
              clear hb7 hr7
              go_wp2_with (at_builtin; fail)
              go_roundg (pk - k)
              case measure => omega
              case rel => exact ⟨k + 1, by omega, by go_num, HR7.out, HE7.out, by omega⟩
        · obtain rfl : k = pk := by omega
          go_wp2_with (at_builtin; fail)
          go_ret
          exact ⟨rfl, (Bex.ofB HB1.out).trans HBR.out, by rw [← HPK.out]; exact HRR.out⟩
set_option maxHeartbeats 2000000 in
set_option maxRecDepth 100000 in
theorem countF_any (k a6 bc : Nat) (c : Nat) (hc : c ≤ 64) (w : World) (hr : RowB w bc 3 [.int .i64 (c : Nat)]) :
    Calls Tryz.prog 48 #[.int .i64 (k : Nat), .int .i64 (a6 : Nat), .pointer (some ⟨bc, 0, none⟩)] w fun e w' => e = .returned (.tuple #[]) ∧ Bex bc w w' ∧ RowB w' bc 3 [.int .i64 ((c + 1 : Nat) : Nat)] := by
  have HR := Lib.hid hr
  have c0 := hr.cell 0
  have f0 := hr.frozen 0
  simp only [List.getElem?_cons_zero] at c0
  have HN : Hid (RowB (w.setCell ⟨bc, 0, none⟩ (.int .i64 ((c : Nat) + 1))) bc 3 [.int .i64 ((c : Nat) + 1)]) := Lib.hid (hr.set_ 0 _)
  clear hr
  go_enter Tryz.func48, Tryz.ntmps48
  go_wp2_with (at_builtin; fail)
  go_end0
  exact ⟨rfl, Bex.set _ _ _, by have := HN.out; simpa using this⟩
theorem Tryz.enterCountF (args : Array Value) (w : World) : (callFunc 48 args).run Tryz.prog w = .ok (.enter 48 args) w := by kernel_rfl
set_option maxHeartbeats 4000000 in
set_option maxRecDepth 100000 in
theorem iCountWrong_any (vt vb : Value) (ts : List Int) (l : List St) (a : Int) (B : Nat) (w : World) (ht : IntS w B vt ts) (hl : StS w B vb l) (hB : B ≤ w.heap.size) (hsz : szL l ≤ 4194300) :
    Calls Tryz.prog 20 #[.agg #[vt, vb], .int .i64 a] w (CwRet w (cntX ts l a)) := by
  have hmf : ∀ (fn : Fn) (first cap : Array Value) (w : World), (Instr.makeFunc fn first cap).run Tryz.prog w = .ok (.func fn first cap) w := fun _ _ _ _ => rfl
  obtain ⟨k1, k2, k3⟩ := two_boxes w [vt, vb] [.int .i64 0] 31 3
  have HX := Lib.hid k1
  have HC := Lib.hid k2
  have HB0 := Lib.hid k3
  have HT := Lib.hid (ht.low HB0.out hB)
  have HL := Lib.hid (hl.low HB0.out hB)
  clear ht hl k1 k2 k3
  go_enter Tryz.func20, Tryz.ntmps20
  go_upto_region 2 with (at_builtin; fail)
  generalize (w.alloc (.cells #[vt, vb] 31)).alloc (.cells #[.int .i64 0] 3) = W at *
  obtain ⟨bx, hbx⟩ : ∃ bx, bx = w.heap.size := ⟨_, rfl⟩
  rw [← hbx] at HX HC ⊢
  have hBx : B ≤ bx + 1 := by omega
  have hwx : w.heap.size ≤ bx + 1 := by omega
  clear hbx
  have g0 := HX.out.cell 0
  have g1 := HX.out.cell 1
  simp only [List.getElem?_cons_zero, List.getElem?_cons_succ] at g0 g1
  have HWR := Lib.hid (wrong_any vt vb 48 ts l a (bx + 1) B (fun k => ((cntP (badP ts l a.toNat) k : Nat) : Int)) W HT.out HL.out hBx hsz HC.out Tryz.enterCountF
    (fun k hk => by simp only [cntP_succ, hk]; rfl)
    (fun k a6 w' hk hr hb => by
      have h1 := countF_any k a6 (bx + 1) (cntP (badP ts l a.toNat) k) (Nat.le_trans (cntP_le _ _) (by omega)) w' hr
      rwa [show cntP (badP ts l a.toNat) k + 1 = cntP (badP ts l a.toNat) (k + 1) by rw [cntP_succ, hb]; rfl] at h1))
  go_wp2_with (at_builtin; fail)
  refine HWR.out.mono ?_
  rintro e w1 ⟨rfl, hb1, hr1⟩
  have HB1 := Lib.hid (HB0.out.trans (hb1.below HB0.out.size hwx))
  have HR1 := Lib.hid hr1
  clear hb1 hr1 g0 g1
  cases hok : lenOk ts l a
  · have HP : Hid (cntX ts l a = (0, 0)) := Lib.hid (by unfold cntX; rw [hok]; rfl)
    clear hok
    go_wp2_with (at_builtin; fail)
    go_ret2
    exact ⟨by rw [HP.out]; rfl, HB1.out⟩
  · obtain ⟨hv, m, rfl, hm⟩ := lenOk_parts hok
    have HP : Hid (cntX ts l (m : Nat) = (cntP (badP ts l m) (2 ^ m), 2 ^ m)) := Lib.hid (by unfold cntX; rw [hok]; rfl)
    rw [hok, if_pos rfl] at HR1
    simp only [Int.toNat_natCast] at HR1
    have hp64 : 2 ^ m ≤ 64 := pow6 hm
    obtain ⟨pk, hpk⟩ : ∃ pk : Nat, pk = 2 ^ m := ⟨_, rfl⟩
    have HSH : IntKind.i64.wrap (2 ^ m) = ((pk : Nat) : Int) := by
      have e : ((2 : Int) ^ m) = ((pk : Nat) : Int) := by rw [hpk]; norm_cast
      rw [e]
      exact IntWalk.i64_in _ (by omega)
    rw [← hpk] at HP HR1
    generalize cntP (badP ts l m) pk = C at *
    have c0 := HR1.out.cell 0
    simp only [List.getElem?_cons_zero] at c0
    clear hok hv hpk
    go_wp2_with (at_builtin; fail)
    refine wp_region_held_drew (S := (fun w' => w'.cell? ⟨bx + 1, 0, none⟩ = some (.int .i64 ((C : Nat) : Int)))) (by kernel_rfl) ?_ (fun hHeld => ?_)
    · exact c0
    refine wpAnyH_take (i := 0) (oi := ⟨some 12, _, _, _, _, _⟩) (v := ?_) rfl (by kernel_rfl) (by kernel_rfl) (by kernel_rfl) (fun _ _ _ h => h) (Or.inl ⟨by rfl, fun w' hSw => ?_⟩) (by assumption) ?_
    rotate_left
    · (try dsimp only at hSw); go_simp; (try with_reducible rfl)
    (try simp only [Act.put, List.setIfInBounds_toArray, List.set_cons_zero, List.set_cons_succ])
    refine wpAnyH_take (i := 1) (oi := ⟨some 13, _, _, _, _, _⟩) (v := ?_) rfl (by kernel_rfl) (by kernel_rfl) (by kernel_rfl) (fun _ _ _ h => h) (Or.inl ⟨by rfl, fun w' hSw => ?_⟩) (by assumption) ?_
    rotate_left
    · (try dsimp only at hSw); go_simp; (try with_reducible rfl)
    (try simp only [Act.put, List.setIfInBounds_toArray, List.set_cons_zero, List.set_cons_succ])
    refine wpAnyH_take (i := 2) (oi := ⟨some 14, _, _, _, _, _⟩) (v := ?_) rfl (by kernel_rfl) (by kernel_rfl) (by kernel_rfl) (fun _ _ _ h => h) (Or.inl ⟨by rfl, fun w' hSw => ?_⟩) (by assumption) ?_
    rotate_left
    · (try dsimp only at hSw); go_simp; (try with_reducible rfl)
    (try simp only [Act.put, List.setIfInBounds_toArray, List.set_cons_zero, List.set_cons_succ])
    refine wpAnyH_take (i := 3) (oi := ⟨some 4, _, _, _, _, _⟩) (v := ?_) rfl (by kernel_rfl) (by kernel_rfl) (by kernel_rfl) (fun _ _ _ h => h) (Or.inl ⟨by rfl, fun w' hSw => ?_⟩) (by assumption) ?_
    rotate_left
    · (try dsimp only at hSw); go_simp; (try with_reducible rfl)
    (try simp only [Act.put, List.setIfInBounds_toArray, List.set_cons_zero, List.set_cons_succ])
    refine wpAnyH_take (i := 4) (oi := ⟨some 5, _, _, _, _, _⟩) (v := ?_) rfl (by kernel_rfl) (by kernel_rfl) (by kernel_rfl) (fun _ _ _ h => h) (Or.inl ⟨by rfl, fun w' hSw => ?_⟩) (by assumption) ?_
    rotate_left
    · (try dsimp only at hSw); go_simp; (try with_reducible rfl)
    (try simp only [Act.put, List.setIfInBounds_toArray, List.set_cons_zero, List.set_cons_succ])
    refine wpAnyH_done (by kernel_rfl) ?_ _
    go_wp2_with (at_builtin; fail)
    go_ret2
    exact ⟨by rw [HP.out]; rfl, HB1.out.drew⟩
set_option maxHeartbeats 2000000 in
set_option maxRecDepth 100000 in
theorem firstF_any (k a6 bc : Nat) (z : Int) (hk : k < 64) (w : World) (hr : RowB w bc 3 [.int .i64 z]) :
    Calls Tryz.prog 50 #[.int .i64 (k : Nat), .int .i64 (a6 : Nat), .pointer (some ⟨bc, 0, none⟩)] w fun e w' => e = .returned (.tuple #[]) ∧ Bex bc w w' ∧ RowB w' bc 3 [.int .i64 (if z < 0 then ((k : Nat) : Int) else z)] := by
  have HR := Lib.hid hr
  have c0 := hr.cell 0
  have f0 := hr.frozen 0
  simp only [List.getElem?_cons_zero] at c0
  have HN : Hid (RowB (w.setCell ⟨bc, 0, none⟩ (.int .i64 ((k : Nat) : Int))) bc 3 [.int .i64 ((k : Nat) : Int)]) := Lib.hid (hr.set_ 0 _)
  clear hr
  by_cases hz : z < 0
  · rw [if_pos hz]
    have qz : decide (z < 0) = true := decide_eq_true hz
    go_enter Tryz.func50, Tryz.ntmps50
    go_wp2_with (at_builtin; fail)
    go_end0
    exact ⟨rfl, Bex.set _ _ _, HN.out⟩
  · rw [if_neg hz]
    have qz : decide (z < 0) = false := decide_eq_false hz
    go_enter Tryz.func50, Tryz.ntmps50
    go_wp2_with (at_builtin; fail)
    go_end0
    exact ⟨rfl, Bex.refl _ _, HR.out⟩
theorem Tryz.enterFirstF (args : Array Value) (w : World) : (callFunc 50 args).run Tryz.prog w = .ok (.enter 50 args) w := by kernel_rfl
def fstR (m : Nat) (o : Option Nat) : List Int × Bool := match o with | some n => (chcP n m, true) | none => ([], false)
def fstZ (o : Option Nat) : Int := match o with | some n => (n : Nat) | none => -1
set_option maxHeartbeats 4000000 in
set_option maxRecDepth 100000 in
theorem iFirstWrong_any (vt vb : Value) (ts : List Int) (l : List St) (a : Int) (B : Nat) (w : World) (ht : IntS w B vt ts) (hl : StS w B vb l) (hB : B ≤ w.heap.size) (hsz : szL l ≤ 4194300) :
    Calls Tryz.prog 29 #[.agg #[vt, vb], .int .i64 a] w (FwRet w (fstX ts l a)) := by
  have hmf : ∀ (fn : Fn) (first cap : Array Value) (w : World), (Instr.makeFunc fn first cap).run Tryz.prog w = .ok (.func fn first cap) w := fun _ _ _ _ => rfl
  obtain ⟨k1, k2, k3⟩ := two_boxes w [vt, vb] [.int .i64 (-1)] 31 3
  have HX := Lib.hid k1
  have HC := Lib.hid k2
  have HB0 := Lib.hid k3
  have HT := Lib.hid (ht.low HB0.out hB)
  have HL := Lib.hid (hl.low HB0.out hB)
  clear ht hl k1 k2 k3
  go_enter Tryz.func29, Tryz.ntmps29
  go_upto_region 2 with (at_builtin; fail)
  generalize (w.alloc (.cells #[vt, vb] 31)).alloc (.cells #[.int .i64 (-1)] 3) = W at *
  obtain ⟨bx, hbx⟩ : ∃ bx, bx = w.heap.size := ⟨_, rfl⟩
  rw [← hbx] at HX HC ⊢
  have hBx : B ≤ bx + 1 := by omega
  have hwx : w.heap.size ≤ bx + 1 := by omega
  clear hbx
  have g0 := HX.out.cell 0
  have g1 := HX.out.cell 1
  simp only [List.getElem?_cons_zero, List.getElem?_cons_succ] at g0 g1
  have HWR := Lib.hid (wrong_any vt vb 50 ts l a (bx + 1) B (fun k => fstZ (fstP (badP ts l a.toNat) k)) W HT.out HL.out hBx hsz HC.out Tryz.enterFirstF
    (fun k hk => by simp only [fstP_succ, hk]; cases fstP (badP ts l a.toNat) k <;> rfl)
    (fun k a6 w' hk hr hb => by
      have h1 := firstF_any k a6 (bx + 1) _ hk w' hr
      have e : (if fstZ (fstP (badP ts l a.toNat) k) < 0 then ((k : Nat) : Int) else fstZ (fstP (badP ts l a.toNat) k)) = fstZ (fstP (badP ts l a.toNat) (k + 1)) := by
        rw [fstP_succ, hb]
        cases fstP (badP ts l a.toNat) k with
        | none => rfl
        | some n => simp [fstZ]; omega
      rwa [e] at h1))
  go_wp2_with (at_builtin; fail)
  refine HWR.out.mono ?_
  rintro e w1 ⟨rfl, hb1, hr1⟩
  have HB1 := Lib.hid (HB0.out.trans (hb1.below HB0.out.size hwx))
  have HR1 := Lib.hid hr1
  clear hb1 hr1 g0 g1
  obtain ⟨o, ho⟩ : ∃ o, o = fstP (badP ts l a.toNat) (if lenOk ts l a = true then 2 ^ a.toNat else 0) := ⟨_, rfl⟩
  simp only [← ho] at HR1
  have c0 := HR1.out.cell 0
  simp only [List.getElem?_cons_zero] at c0
  have HFX : Hid (fstX ts l a = fstR a.toNat o) := Lib.hid (by
    rw [ho]
    unfold fstX
    cases lenOk ts l a <;> rfl)
  cases o with
  | none =>
    clear ho
    have c9 : w1.cell? ⟨bx + 1, 0, none⟩ = some (.int .i64 (-1)) := c0
    clear c0
    go_wp2_with (at_builtin; fail)
    go_ret2
    rw [HFX.out]
    exact ⟨_, rfl, OInts.nil _ _, HB1.out⟩
  | some n =>
    have hok : lenOk ts l a = true := by
      cases h : lenOk ts l a
      · rw [h] at ho; cases ho
      · rfl
    rw [if_pos hok] at ho
    have hn := fstP_lt ho.symm
    obtain ⟨hv, m, rfl, hm⟩ := lenOk_parts hok
    have hp64 : 2 ^ m ≤ 64 := pow6 hm
    rw [Int.toNat_natCast] at hn
    have hn64 : n ≤ 64 := by omega
    clear ho hn hok hp64
    have c9 : w1.cell? ⟨bx + 1, 0, none⟩ = some (.int .i64 ((n : Nat) : Int)) := c0
    have q9 : decide (((n : Nat) : Int) < 0) = false := decide_eq_false (by omega)
    clear c0
    go_wp2_with (at_builtin; fail)
    refine (choicesOf_any n m hn64 hm _).mono ?_
    rintro e w2 ⟨v2, rfl, hv2, hb2⟩
    go_wp2_with (at_builtin; fail)
    go_ret2
    rw [HFX.out]
    exact ⟨_, rfl, hv2.baseLe HB1.out.size, HB1.out.trans (hb2.mono HB1.out.size)⟩
theorem saf_cnt (ts : List Int) (l : List St) (a : Int) : safX ts l a = (decide ((((cntX ts l a).2 : Nat) : Int) > 0) && (((cntX ts l a).1 : Nat) : Int) == 0) := by
  unfold safX cntX fstX
  cases lenOk ts l a
  · rfl
  · rw [if_pos rfl, if_pos rfl, Bool.true_and]
    have h := cntP_zero (bad := badP ts l a.toNat) (k := 2 ^ a.toNat)
    have hp : decide (((2 ^ a.toNat : Nat) : Int) > 0) = true := decide_eq_true (by have := Nat.two_pow_pos a.toNat; omega)
    simp only [hp, Bool.true_and]
    cases hf : fstP (badP ts l a.toNat) (2 ^ a.toNat) with
    | none =>
      have := h.2 hf
      rw [this]
      rfl
    | some n =>
      have hne : cntP (badP ts l a.toNat) (2 ^ a.toNat) ≠ 0 := fun e => by rw [h.1 e] at hf; cases hf
      have : ((((cntP (badP ts l a.toNat) (2 ^ a.toNat)) : Nat) : Int) == 0) = false := beq_eq_false_iff_ne.2 (by omega)
      simp only [this]
      rfl
set_option maxHeartbeats 4000000 in
set_option maxRecDepth 100000 in
theorem iSafeUpTo_any (vt vb : Value) (ts : List Int) (l : List St) (a : Int) (B : Nat) (w : World) (ht : IntS w B vt ts) (hl : StS w B vb l) (hB : B ≤ w.heap.size) (hsz : szL l ≤ 4194300) :
    Calls Tryz.prog 22 #[.agg #[vt, vb], .int .i64 a] w fun e w' => e = .returned (.bool (safX ts l a)) ∧ Below w.heap.size w w' := by
  have HB0 := Lib.hid (bel_a w (.cells #[vt, vb] 31))
  have HCW := Lib.hid (iCountWrong_any vt vb ts l a B _ (ht.low HB0.out hB) (hl.low HB0.out hB) (Nat.le_trans hB HB0.out.size) hsz)
  have HSX := Lib.hid (saf_cnt ts l a)
  obtain ⟨c, p, hcx⟩ : ∃ c p, cntX ts l a = (c, p) := ⟨_, _, rfl⟩
  rw [hcx] at HCW HSX
  rw [HSX.out]
  clear ht hl hcx
  go_enter Tryz.func22, Tryz.ntmps22
  go_wp2_with (at_builtin; fail)
  refine HCW.out.mono ?_
  rintro e w1 ⟨rfl, hb1⟩
  have HB1 := Lib.hid (HB0.out.trans (hb1.mono HB0.out.size))
  clear hb1
  by_cases hp : 0 < p
  · have q1 : decide (((p : Nat) : Int) > 0) = true := decide_eq_true (by omega)
    have q2 : decide ((0 : Int) < ((p : Nat) : Int)) = true := decide_eq_true (by omega)
    have Q1 := Lib.hid q1
    have q3 : decide (0 < p) = true := decide_eq_true hp
    go_wp2_with (at_builtin; fail)
    go_ret
    exact ⟨by rw [Q1.out]; rfl, HB1.out⟩
  · have q1 : decide (((p : Nat) : Int) > 0) = false := decide_eq_false (by omega)
    have q2 : decide ((0 : Int) < ((p : Nat) : Int)) = false := decide_eq_false (by omega)
    have Q1 := Lib.hid q1
    have q3 : decide (0 < p) = false := decide_eq_false hp
    go_wp2_with (at_builtin; fail)
    go_ret
    exact ⟨by rw [Q1.out]; rfl, HB1.out⟩

end Go.Proofs.YtfioaohadanjmaaGreat

/- FnExactCountWrong: the walk. -/
namespace Go.Proofs.YtfioaohadanjmaaGreat
open Go.RowKit

set_option maxHeartbeats 8000000
set_option maxRecDepth 100000
theorem fnExactCountWrong_any (vt vb : Value) (ts : List Int) (l : List St) (a : Int) (w : World) (ht : AnI w w.heap.size vt ts) (hl : StS w w.heap.size vb l) (hL : Lens l) :
    Calls Tryz.prog 4 #[.agg #[vt, vb], .int .i64 a] w (LwRet w) := by
  have HA0 := Lib.hid (ArA.new ht hl)
  have HLE := Lib.hid hL
  have ht0 := ht
  obtain ⟨At, ct, rfl, -⟩ := ht0
  obtain ⟨Ab, cb, rfl, hcb⟩ := hl.slice
  clear ht hl hL
  go_enter Tryz.func4, Tryz.ntmps4
  go_upto_region 1 with (at_builtin; fail)
  generalize w.alloc (.cells #[.slice At ts.length ct, .slice Ab l.length cb] 25) = W0 at *
  obtain ⟨g, hg⟩ : ∃ g, g = w.heap.size := ⟨_, rfl⟩
  rw [← hg] at HA0 ⊢
  have HG := Lib.hid hg
  clear hg
  have c0 := HA0.out.row.cell 0
  have c1 := HA0.out.row.cell 1
  simp only [List.getElem?_cons_zero, List.getElem?_cons_succ] at c0 c1
  go_wp2_with (at_builtin; fail)
  refine (szProgram_any _ _ ts l 1048576 w.heap.size W0 HA0.out.ht HA0.out.hl HLE.out HA0.out.bel.size (by omega) (by omega)).mono ?_
  rintro e W1 ⟨rfl, hb1⟩
  have HA1 := Lib.hid (HA0.out.bels hb1)
  clear hb1 c0 c1 HA0
  by_cases hn : leftP 1048576 (ts.length + szL l) < 0
  · rw [(leftP_neg hn).1]
    clear hn
    go_wp2_with (at_builtin; fail)
    go_ret
    exact ⟨rfl, HA1.out.bel⟩
  · have hsz := (leftP_nn (by omega : 0 ≤ leftP 1048576 (ts.length + szL l))).1
    have htl : ts.length ≤ 1048576 := by omega
    have hll : szL l ≤ 1048576 := by omega
    have HB1 := Lib.hid (HA1.out.toB (by omega))
    generalize leftP 1048576 (ts.length + szL l) = L1 at *
    clear HA1 hsz HLE
    have c0 := HB1.out.c0
    have c1 := HB1.out.c1
    go_wp2_with (at_builtin; fail)
    refine (toProgram_any _ _ ts l w.heap.size W1 HB1.out.ht HB1.out.hl HB1.out.bel.size hll).mono ?_
    rintro e W2 ⟨vt2, vb2, rfl, ht2, hl2, hb2⟩
    have HB2 := Lib.hid (HB1.out.bels hb2)
    have HT2 := Lib.hid (ht2.toS (by omega))
    have HL2 := Lib.hid hl2.toS
    clear ht2 hl2 hb2 c0 c1 HB1
    go_wp2_with (at_builtin; fail)
    refine (sCountWrong_any _ _ ts l a W2.heap.size W2 HT2.out HL2.out (Nat.le_refl _) (by omega)).mono ?_
    rintro e W3 ⟨rfl, hb3⟩
    have HB3 := Lib.hid (HB2.out.bels hb3)
    clear hb3 HT2 HL2 HB2
    obtain ⟨R, hR⟩ : ∃ R, R = cntX ts l a := ⟨_, rfl⟩
    rw [← hR]
    have HRE := Lib.hid hR
    clear hR
    obtain ⟨z1, z2⟩ := R
    have c0 := HB3.out.c0
    have c1 := HB3.out.c1
    go_wp2_with (at_builtin; fail)
    refine (toProgram_any _ _ ts l w.heap.size W3 HB3.out.ht HB3.out.hl HB3.out.bel.size hll).mono ?_
    rintro e W4 ⟨vt4, vb4, rfl, ht4, hl4, hb4⟩
    have HX5 := Lib.hid (XB.new ht4 hl4 hb4)
    have HB5 := Lib.hid ((HB3.out.bels hb4).bels (bel_a W4 (.cells #[vt4, vb4] 31)))
    obtain ⟨A4, n4, rfl, -⟩ := ht4.slice
    obtain ⟨b4, m4, rfl, -, -, -⟩ := hl4.slice
    clear ht4 hl4 hb4 c0 c1
    go_upto_region 7 with (at_builtin; fail)
    generalize hW5 : W4.alloc (.cells #[.slice A4 ts.length n4, .slice (some ⟨b4, 0, none⟩) l.length m4] 31) = W5 at *
    clear hW5
    obtain ⟨hi, hhi⟩ : ∃ hi, hi = W4.heap.size := ⟨_, rfl⟩
    obtain ⟨lo, hlo⟩ : ∃ lo, lo = W3.heap.size := ⟨_, rfl⟩
    rw [← hhi] at HX5 ⊢
    rw [← hlo] at HX5
    clear hhi hlo HB3
    have x0 := HX5.out.c0
    have x1 := HX5.out.c1
    go_wp2_with (at_builtin; fail)
    refine (iCountWrong_any _ _ ts l a W5.heap.size W5 (HX5.out.rt (by omega)) HX5.out.rl (Nat.le_refl _) (by omega)).mono ?_
    rw [← HRE.out]
    rintro e W9 ⟨rfl, hb7⟩
    have HB9 := Lib.hid (HB5.out.bels hb7)
    have HX9 := Lib.hid (HX5.out.bels hb7)
    clear hb7 x0 x1 HB5 HX5
    have c0 := HB9.out.c0
    have c1 := HB9.out.c1
    have x0 := HX9.out.c0
    have x1 := HX9.out.c1
    have e1 : (((z1 : Nat) : Int) != ((z1 : Nat) : Int)) = false := by simp
    have e2 : (((z2 : Nat) : Int) != ((z2 : Nat) : Int)) = false := by simp
    have hlt7 := HB9.out.lt
    have hlx7 := HX9.out.lt
    go_wp2_with (at_builtin; fail)
    have BEL : Hid (∀ w', w'.cell? ⟨g, 0, none⟩ = some (.slice At ts.length ct) ∧ w'.cell? ⟨g, 1, none⟩ = some (.slice Ab l.length cb) ∧ w'.cell? ⟨hi, 0, none⟩ = some (.slice A4 ts.length n4) ∧ w'.cell? ⟨hi, 1, none⟩ = some (.slice (some ⟨b4, 0, none⟩) l.length m4) ∧ Below W9.heap.size W9 w' → Below W9.heap.size W9 w') := Lib.hid fun _ h => h.2.2.2.2
    refine wp_region_held_drew (S := (fun w' => w'.cell? ⟨g, 0, none⟩ = some (.slice At ts.length ct) ∧ w'.cell? ⟨g, 1, none⟩ = some (.slice Ab l.length cb) ∧ w'.cell? ⟨hi, 0, none⟩ = some (.slice A4 ts.length n4) ∧ w'.cell? ⟨hi, 1, none⟩ = some (.slice (some ⟨b4, 0, none⟩) l.length m4) ∧ Below W9.heap.size W9 w')) (by kernel_rfl) ?_ (fun hHeld => ?_)
    · exact ⟨c0, c1, x0, x1, (Below.refl _ _).drew⟩
    refine wpAnyH_take (i := 0) (oi := ⟨some 39, _, _, _, _, _⟩) (v := ?_) rfl (by kernel_rfl) (by kernel_rfl) (by kernel_rfl) (fun _ _ _ h => h) (Or.inl ⟨by rfl, fun w' hSw => ?_⟩) (by assumption) ?_
    rotate_left
    · (try dsimp only at hSw); go_simp; (try with_reducible rfl)
    (try simp only [Act.put, List.setIfInBounds_toArray, List.set_cons_zero, List.set_cons_succ])
    refine wpAnyH_take (i := 1) (oi := ⟨some 40, _, _, _, _, _⟩) (v := ?_) rfl (by kernel_rfl) (by kernel_rfl) (by kernel_rfl) (fun _ _ _ h => h) (Or.inl ⟨by rfl, fun w' hSw => ?_⟩) (by assumption) ?_
    rotate_left
    · (try dsimp only at hSw); go_simp; (try with_reducible rfl)
    (try simp only [Act.put, List.setIfInBounds_toArray, List.set_cons_zero, List.set_cons_succ])
    refine wpAnyH_ready (rs := [2]) (by kernel_rfl) (by simp) ?_
    refine AllReadyH.cons (o := ⟨some 41, _, _, _, _, _⟩) rfl (fun K hK => ?_) AllReadyH.nil
    go_simp
    (refine (toProgram_any _ _ ts l w.heap.size _ ((HB9.out.bels (show Below W9.heap.size W9 _ from (BEL.out _ (by assumption)))).ht) ((HB9.out.bels (show Below W9.heap.size W9 _ from (BEL.out _ (by assumption)))).hl) ((HB9.out.bels (show Below W9.heap.size W9 _ from (BEL.out _ (by assumption)))).bel.size) hll).mono ?_)
    (rintro e w8 ⟨vt8, vb8, rfl, ht8, hl8, hb8⟩)
    (have BX8 := Lib.hid ((BEL.out _ (by assumption)).trans (hb8.mono (BEL.out _ (by assumption)).size)))
    (have HT8 := Lib.hid (ht8.toS (by omega)))
    (have HL8 := Lib.hid hl8.toS)
    clear ht8 hl8 hb8
    go_simp
    refine hK.out _ _ ?_ (fun hHeld => ?_)
    · exact ⟨(BX8.out.cell (p := ⟨g, 0, none⟩) hlt7).trans c0, (BX8.out.cell (p := ⟨g, 1, none⟩) hlt7).trans c1, (BX8.out.cell (p := ⟨hi, 0, none⟩) hlx7).trans x0, (BX8.out.cell (p := ⟨hi, 1, none⟩) hlx7).trans x1, BX8.out⟩
    clear hK K
    (try simp only [Act.put, List.setIfInBounds_toArray, List.set_cons_zero, List.set_cons_succ])
    refine wpAnyH_ready (rs := [3]) (by kernel_rfl) (by simp) ?_
    refine AllReadyH.cons (o := ⟨some 42, _, _, _, _, _⟩) rfl (fun K hK => ?_) AllReadyH.nil
    go_simp
    (have BY := (BEL.out _ (by assumption)))
    (refine (eqProgram_any _ _ _ _ ts l _ _ (((HX9.out.bels BX8.out).rt (by omega))) ((HX9.out.bels BX8.out).rl) HT8.out HL8.out (Nat.le_refl _) (by omega)).mono ?_)
    (rintro e w9 ⟨rfl, hb9⟩)
    (have BX9 := Lib.hid (BX8.out.trans (hb9.mono BX8.out.size)))
    clear hb9
    go_simp
    refine hK.out _ _ ?_ (fun hHeld => ?_)
    · exact ⟨(BX9.out.cell (p := ⟨g, 0, none⟩) hlt7).trans c0, (BX9.out.cell (p := ⟨g, 1, none⟩) hlt7).trans c1, (BX9.out.cell (p := ⟨hi, 0, none⟩) hlx7).trans x0, (BX9.out.cell (p := ⟨hi, 1, none⟩) hlx7).trans x1, BX9.out⟩
    clear hK K
    (try simp only [Act.put, List.setIfInBounds_toArray, List.set_cons_zero, List.set_cons_succ])
    refine wpAnyH_take (i := 4) (oi := ⟨some 43, _, _, _, _, _⟩) (v := ?_) rfl (by kernel_rfl) (by kernel_rfl) (by kernel_rfl) (fun _ _ _ h => h) (Or.inl ⟨by rfl, fun w' hSw => ?_⟩) (by assumption) ?_
    rotate_left
    · (try dsimp only at hSw); go_simp; (try with_reducible rfl)
    (try simp only [Act.put, List.setIfInBounds_toArray, List.set_cons_zero, List.set_cons_succ])
    refine wpAnyH_done (by kernel_rfl) ?_ _
    have HBa := Lib.hid (HB9.out.bels BX9.out)
    go_wp2_with (at_builtin; fail)
    go_ret
    exact ⟨rfl, HBa.out.bel⟩

end Go.Proofs.YtfioaohadanjmaaGreat

/- FnExactSafeUpTo: the walk. -/
namespace Go.Proofs.YtfioaohadanjmaaGreat
open Go.RowKit

set_option maxHeartbeats 8000000
set_option maxRecDepth 100000
theorem fnExactSafeUpTo_any (vt vb : Value) (ts : List Int) (l : List St) (a : Int) (w : World) (ht : AnI w w.heap.size vt ts) (hl : StS w w.heap.size vb l) (hL : Lens l) :
    Calls Tryz.prog 5 #[.agg #[vt, vb], .int .i64 a] w (LwRet w) := by
  have HA0 := Lib.hid (ArA.new ht hl)
  have HLE := Lib.hid hL
  have ht0 := ht
  obtain ⟨At, ct, rfl, -⟩ := ht0
  obtain ⟨Ab, cb, rfl, hcb⟩ := hl.slice
  clear ht hl hL
  go_enter Tryz.func5, Tryz.ntmps5
  go_upto_region 1 with (at_builtin; fail)
  generalize w.alloc (.cells #[.slice At ts.length ct, .slice Ab l.length cb] 25) = W0 at *
  obtain ⟨g, hg⟩ : ∃ g, g = w.heap.size := ⟨_, rfl⟩
  rw [← hg] at HA0 ⊢
  have HG := Lib.hid hg
  clear hg
  have c0 := HA0.out.row.cell 0
  have c1 := HA0.out.row.cell 1
  simp only [List.getElem?_cons_zero, List.getElem?_cons_succ] at c0 c1
  go_wp2_with (at_builtin; fail)
  refine (szProgram_any _ _ ts l 1048576 w.heap.size W0 HA0.out.ht HA0.out.hl HLE.out HA0.out.bel.size (by omega) (by omega)).mono ?_
  rintro e W1 ⟨rfl, hb1⟩
  have HA1 := Lib.hid (HA0.out.bels hb1)
  clear hb1 c0 c1 HA0
  by_cases hn : leftP 1048576 (ts.length + szL l) < 0
  · rw [(leftP_neg hn).1]
    clear hn
    go_wp2_with (at_builtin; fail)
    go_ret
    exact ⟨rfl, HA1.out.bel⟩
  · have hsz := (leftP_nn (by omega : 0 ≤ leftP 1048576 (ts.length + szL l))).1
    have htl : ts.length ≤ 1048576 := by omega
    have hll : szL l ≤ 1048576 := by omega
    have HB1 := Lib.hid (HA1.out.toB (by omega))
    generalize leftP 1048576 (ts.length + szL l) = L1 at *
    clear HA1 hsz HLE
    have c0 := HB1.out.c0
    have c1 := HB1.out.c1
    go_wp2_with (at_builtin; fail)
    refine (toProgram_any _ _ ts l w.heap.size W1 HB1.out.ht HB1.out.hl HB1.out.bel.size hll).mono ?_
    rintro e W2 ⟨vt2, vb2, rfl, ht2, hl2, hb2⟩
    have HB2 := Lib.hid (HB1.out.bels hb2)
    have HT2 := Lib.hid (ht2.toS (by omega))
    have HL2 := Lib.hid hl2.toS
    clear ht2 hl2 hb2 c0 c1 HB1
    go_wp2_with (at_builtin; fail)
    refine (sSafeUpTo_any _ _ ts l a W2.heap.size W2 HT2.out HL2.out (Nat.le_refl _) (by omega)).mono ?_
    rintro e W3 ⟨rfl, hb3⟩
    have HB3 := Lib.hid (HB2.out.bels hb3)
    clear hb3 HT2 HL2 HB2
    obtain ⟨R, hR⟩ : ∃ R, R = safX ts l a := ⟨_, rfl⟩
    rw [← hR]
    have HRE := Lib.hid hR
    clear hR
    have c0 := HB3.out.c0
    have c1 := HB3.out.c1
    go_wp2_with (at_builtin; fail)
    refine (toProgram_any _ _ ts l w.heap.size W3 HB3.out.ht HB3.out.hl HB3.out.bel.size hll).mono ?_
    rintro e W4 ⟨vt4, vb4, rfl, ht4, hl4, hb4⟩
    have HX5 := Lib.hid (XB.new ht4 hl4 hb4)
    have HB5 := Lib.hid ((HB3.out.bels hb4).bels (bel_a W4 (.cells #[vt4, vb4] 31)))
    obtain ⟨A4, n4, rfl, -⟩ := ht4.slice
    obtain ⟨b4, m4, rfl, -, -, -⟩ := hl4.slice
    clear ht4 hl4 hb4 c0 c1
    go_upto_region 7 with (at_builtin; fail)
    generalize hW5 : W4.alloc (.cells #[.slice A4 ts.length n4, .slice (some ⟨b4, 0, none⟩) l.length m4] 31) = W5 at *
    clear hW5
    obtain ⟨hi, hhi⟩ : ∃ hi, hi = W4.heap.size := ⟨_, rfl⟩
    obtain ⟨lo, hlo⟩ : ∃ lo, lo = W3.heap.size := ⟨_, rfl⟩
    rw [← hhi] at HX5 ⊢
    rw [← hlo] at HX5
    clear hhi hlo HB3
    have x0 := HX5.out.c0
    have x1 := HX5.out.c1
    go_wp2_with (at_builtin; fail)
    refine (iSafeUpTo_any _ _ ts l a W5.heap.size W5 (HX5.out.rt (by omega)) HX5.out.rl (Nat.le_refl _) (by omega)).mono ?_
    rw [← HRE.out]
    rintro e W9 ⟨rfl, hb7⟩
    have HB9 := Lib.hid (HB5.out.bels hb7)
    have HX9 := Lib.hid (HX5.out.bels hb7)
    clear hb7 x0 x1 HB5 HX5
    have c0 := HB9.out.c0
    have c1 := HB9.out.c1
    have x0 := HX9.out.c0
    have x1 := HX9.out.c1
    have e1 : (R != R) = false := by cases R <;> rfl
    have hlt7 := HB9.out.lt
    have hlx7 := HX9.out.lt
    go_wp2_with (at_builtin; fail)
    have BEL : Hid (∀ w', w'.cell? ⟨g, 0, none⟩ = some (.slice At ts.length ct) ∧ w'.cell? ⟨g, 1, none⟩ = some (.slice Ab l.length cb) ∧ w'.cell? ⟨hi, 0, none⟩ = some (.slice A4 ts.length n4) ∧ w'.cell? ⟨hi, 1, none⟩ = some (.slice (some ⟨b4, 0, none⟩) l.length m4) ∧ Below W9.heap.size W9 w' → Below W9.heap.size W9 w') := Lib.hid fun _ h => h.2.2.2.2
    refine wp_region_held_drew (S := (fun w' => w'.cell? ⟨g, 0, none⟩ = some (.slice At ts.length ct) ∧ w'.cell? ⟨g, 1, none⟩ = some (.slice Ab l.length cb) ∧ w'.cell? ⟨hi, 0, none⟩ = some (.slice A4 ts.length n4) ∧ w'.cell? ⟨hi, 1, none⟩ = some (.slice (some ⟨b4, 0, none⟩) l.length m4) ∧ Below W9.heap.size W9 w')) (by kernel_rfl) ?_ (fun hHeld => ?_)
    · exact ⟨c0, c1, x0, x1, (Below.refl _ _).drew⟩
    refine wpAnyH_take (i := 0) (oi := ⟨some 26, _, _, _, _, _⟩) (v := ?_) rfl (by kernel_rfl) (by kernel_rfl) (by kernel_rfl) (fun _ _ _ h => h) (Or.inl ⟨by rfl, fun w' hSw => ?_⟩) (by assumption) ?_
    rotate_left
    · (try dsimp only at hSw); go_simp; (try with_reducible rfl)
    (try simp only [Act.put, List.setIfInBounds_toArray, List.set_cons_zero, List.set_cons_succ])
    refine wpAnyH_take (i := 1) (oi := ⟨some 27, _, _, _, _, _⟩) (v := ?_) rfl (by kernel_rfl) (by kernel_rfl) (by kernel_rfl) (fun _ _ _ h => h) (Or.inl ⟨by rfl, fun w' hSw => ?_⟩) (by assumption) ?_
    rotate_left
    · (try dsimp only at hSw); go_simp; (try with_reducible rfl)
    (try simp only [Act.put, List.setIfInBounds_toArray, List.set_cons_zero, List.set_cons_succ])
    refine wpAnyH_ready (rs := [2]) (by kernel_rfl) (by simp) ?_
    refine AllReadyH.cons (o := ⟨some 28, _, _, _, _, _⟩) rfl (fun K hK => ?_) AllReadyH.nil
    go_simp
    (refine (toProgram_any _ _ ts l w.heap.size _ ((HB9.out.bels (show Below W9.heap.size W9 _ from (BEL.out _ (by assumption)))).ht) ((HB9.out.bels (show Below W9.heap.size W9 _ from (BEL.out _ (by assumption)))).hl) ((HB9.out.bels (show Below W9.heap.size W9 _ from (BEL.out _ (by assumption)))).bel.size) hll).mono ?_)
    (rintro e w8 ⟨vt8, vb8, rfl, ht8, hl8, hb8⟩)
    (have BX8 := Lib.hid ((BEL.out _ (by assumption)).trans (hb8.mono (BEL.out _ (by assumption)).size)))
    (have HT8 := Lib.hid (ht8.toS (by omega)))
    (have HL8 := Lib.hid hl8.toS)
    clear ht8 hl8 hb8
    go_simp
    refine hK.out _ _ ?_ (fun hHeld => ?_)
    · exact ⟨(BX8.out.cell (p := ⟨g, 0, none⟩) hlt7).trans c0, (BX8.out.cell (p := ⟨g, 1, none⟩) hlt7).trans c1, (BX8.out.cell (p := ⟨hi, 0, none⟩) hlx7).trans x0, (BX8.out.cell (p := ⟨hi, 1, none⟩) hlx7).trans x1, BX8.out⟩
    clear hK K
    (try simp only [Act.put, List.setIfInBounds_toArray, List.set_cons_zero, List.set_cons_succ])
    refine wpAnyH_ready (rs := [3]) (by kernel_rfl) (by simp) ?_
    refine AllReadyH.cons (o := ⟨some 29, _, _, _, _, _⟩) rfl (fun K hK => ?_) AllReadyH.nil
    go_simp
    (have BY := (BEL.out _ (by assumption)))
    (refine (eqProgram_any _ _ _ _ ts l _ _ (((HX9.out.bels BX8.out).rt (by omega))) ((HX9.out.bels BX8.out).rl) HT8.out HL8.out (Nat.le_refl _) (by omega)).mono ?_)
    (rintro e w9 ⟨rfl, hb9⟩)
    (have BX9 := Lib.hid (BX8.out.trans (hb9.mono BX8.out.size)))
    clear hb9
    go_simp
    refine hK.out _ _ ?_ (fun hHeld => ?_)
    · exact ⟨(BX9.out.cell (p := ⟨g, 0, none⟩) hlt7).trans c0, (BX9.out.cell (p := ⟨g, 1, none⟩) hlt7).trans c1, (BX9.out.cell (p := ⟨hi, 0, none⟩) hlx7).trans x0, (BX9.out.cell (p := ⟨hi, 1, none⟩) hlx7).trans x1, BX9.out⟩
    clear hK K
    (try simp only [Act.put, List.setIfInBounds_toArray, List.set_cons_zero, List.set_cons_succ])
    refine wpAnyH_take (i := 4) (oi := ⟨some 30, _, _, _, _, _⟩) (v := ?_) rfl (by kernel_rfl) (by kernel_rfl) (by kernel_rfl) (fun _ _ _ h => h) (Or.inl ⟨by rfl, fun w' hSw => ?_⟩) (by assumption) ?_
    rotate_left
    · (try dsimp only at hSw); go_simp; (try with_reducible rfl)
    (try simp only [Act.put, List.setIfInBounds_toArray, List.set_cons_zero, List.set_cons_succ])
    refine wpAnyH_done (by kernel_rfl) ?_ _
    have HBa := Lib.hid (HB9.out.bels BX9.out)
    go_wp2_with (at_builtin; fail)
    go_ret
    exact ⟨rfl, HBa.out.bel⟩

end Go.Proofs.YtfioaohadanjmaaGreat
