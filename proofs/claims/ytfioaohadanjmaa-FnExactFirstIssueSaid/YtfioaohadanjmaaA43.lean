import Derived.Test.YtfioaohadanjmaaA41
import Derived.Test.YtfioaohadanjmaaA11
set_option linter.unusedVariables false

/- Issues: impl.graph.liveAfter, issues, CheckProgram; impl.CheckPlain. -/
namespace Go.Proofs.Ytfioaohadanjmaa
open Go.RowKit

set_option maxHeartbeats 1000000 in
set_option maxRecDepth 100000 in
theorem issuesF_any (ts : List Int) (pts : List Pt) (bc g k : Nat) (fs : List Nat) (w : World) (hb : w.cell? ⟨bc, 0, none⟩ = some (.slice (some ⟨g, 0, none⟩) pts.length pts.length)) (hr : RowB w g 74 (uv fs)) (hfl : fs.length = pts.length * 6) (hk : k < pts.length) (hsm : ∀ m ∈ fs, m < top64) (hst : ∀ i v e, stF fs i v e = true ↔ Fl ts pts Gloan (Cloan ts) i v e) :
    Calls Try.prog 99 #[.int .i64 (k : Nat), .pointer (some ⟨bc, 0, none⟩)] w (FrRet w ts pts k) := by
  have HST := Lib.hid hst
  have HSM := Lib.hid (getD_small hsm)
  have hbc : bc < w.heap.size := World.block_lt_of_cell? w ⟨bc, 0, none⟩ hb
  have hgl := hr.lt
  obtain ⟨a0, ha0⟩ : ∃ a, a = fs.getD (k * 6) 0 := ⟨_, rfl⟩
  obtain ⟨a1, ha1⟩ : ∃ a, a = fs.getD (k * 6 + 1) 0 := ⟨_, rfl⟩
  obtain ⟨a2, ha2⟩ : ∃ a, a = fs.getD (k * 6 + 2) 0 := ⟨_, rfl⟩
  obtain ⟨a3, ha3⟩ : ∃ a, a = fs.getD (k * 6 + 3) 0 := ⟨_, rfl⟩
  obtain ⟨a4, ha4⟩ : ∃ a, a = fs.getD (k * 6 + 4) 0 := ⟨_, rfl⟩
  obtain ⟨a5, ha5⟩ : ∃ a, a = fs.getD (k * 6 + 5) 0 := ⟨_, rfl⟩
  have q0 := hr.cell (k * 6)
  have q1 := hr.cell (k * 6 + 1)
  have q2 := hr.cell (k * 6 + 2)
  have q3 := hr.cell (k * 6 + 3)
  have q4 := hr.cell (k * 6 + 4)
  have q5 := hr.cell (k * 6 + 5)
  rw [uv_get (by omega), ← ha0] at q0
  rw [uv_get (by omega), ← ha1] at q1
  rw [uv_get (by omega), ← ha2] at q2
  rw [uv_get (by omega), ← ha3] at q3
  rw [uv_get (by omega), ← ha4] at q4
  rw [uv_get (by omega), ← ha5] at q5
  have HAE : Hid (∀ u, u < 6 → ([a0, a1, a2, a3, a4, a5] : List Nat).getD u 0 = fs.getD (k * 6 + u) 0) := Lib.hid fun u hu => by
    have h : u = 0 ∨ u = 1 ∨ u = 2 ∨ u = 3 ∨ u = 4 ∨ u = 5 := by omega
    rcases h with rfl | rfl | rfl | rfl | rfl | rfl <;> simp [ha0, ha1, ha2, ha3, ha4, ha5]
  clear ha0 ha1 ha2 ha3 ha4 ha5 hr hst hsm
  have HRZ := Lib.hid (RowB.new w [.int .u64 0, .int .u64 0, .int .u64 0, .int .u64 0, .int .u64 0, .int .u64 0] 74)
  have HBZ := Lib.hid (bel_a w (.cells #[.int .u64 0, .int .u64 0, .int .u64 0, .int .u64 0, .int .u64 0, .int .u64 0] 74))
  go_enter Try.func99, Try.ntmps99
  go_upto_region 1 with (at_builtin; fail)
  have hb := (HBZ.out.cell (p := ⟨bc, 0, none⟩) hbc).trans hb
  have q0 := (HBZ.out.cell (p := ⟨g, k * 6, none⟩) hgl).trans q0
  have q1 := (HBZ.out.cell (p := ⟨g, k * 6 + 1, none⟩) hgl).trans q1
  have q2 := (HBZ.out.cell (p := ⟨g, k * 6 + 2, none⟩) hgl).trans q2
  have q3 := (HBZ.out.cell (p := ⟨g, k * 6 + 3, none⟩) hgl).trans q3
  have q4 := (HBZ.out.cell (p := ⟨g, k * 6 + 4, none⟩) hgl).trans q4
  have q5 := (HBZ.out.cell (p := ⟨g, k * 6 + 5, none⟩) hgl).trans q5
  generalize w.alloc (.cells #[.int .u64 0, .int .u64 0, .int .u64 0, .int .u64 0, .int .u64 0, .int .u64 0] 74) = W1 at *
  obtain ⟨rb, hrb⟩ : ∃ rb, rb = w.heap.size := ⟨_, rfl⟩
  have HRB := Lib.hid hrb
  rw [← hrb] at HRZ ⊢
  have z0 := HRZ.out.cell 0
  have z1 := HRZ.out.cell 1
  have z2 := HRZ.out.cell 2
  have z3 := HRZ.out.cell 3
  have z4 := HRZ.out.cell 4
  have z5 := HRZ.out.cell 5
  simp only [List.getElem?_cons_zero, List.getElem?_cons_succ] at z0 z1 z2 z3 z4 z5
  have f0 := HRZ.out.frozen 0
  have f1 := HRZ.out.frozen 1
  have f2 := HRZ.out.frozen 2
  have f3 := HRZ.out.frozen 3
  have f4 := HRZ.out.frozen 4
  have f5 := HRZ.out.frozen 5
  clear hrb
  go_wp2_with (at_builtin; fail)
  have HS := Lib.hid (box6 HRZ.out (.int .u64 a0) (.int .u64 a1) (.int .u64 a2) (.int .u64 a3) (.int .u64 a4) (.int .u64 a5))
  refine bodyPost_ret (results_cell_row rfl _ _ rb 74 _ (0, 0) _ rfl HS.out.1 Try.underlying74 rfl rfl) rfl ⟨a0, a1, a2, a3, a4, a5, rfl, fun u hu => by rw [HAE.out u hu]; exact HSM.out _, fun v e hv => ?_, ?_⟩
  · rw [HAE.out v hv, ← HST.out]
    unfold stF
    rw [decide_eq_true hv, Bool.true_and]
  · exact grown_new HBZ.out (by have := HRB.out; show w.heap.size ≤ rb; omega) HS.out.2
set_option maxHeartbeats 1000000 in
set_option maxRecDepth 100000 in
theorem plainF_any (ts : List Int) (pts : List Pt) (bc g k : Nat) (fs : List Nat) (w : World) (hb : w.cell? ⟨bc, 0, none⟩ = some (.slice (some ⟨g, 0, none⟩) pts.length pts.length)) (hr : RowB w g 74 (uv fs)) (hfl : fs.length = pts.length * 6) (hk : k < pts.length) (hsm : ∀ m ∈ fs, m < top64) (hst : ∀ i v e, stF fs i v e = true ↔ Fl ts pts Gloan (Cloan ts) i v e) :
    Calls Try.prog 49 #[.int .i64 (k : Nat), .pointer (some ⟨bc, 0, none⟩)] w (FrRet w ts pts k) := by
  have HST := Lib.hid hst
  have HSM := Lib.hid (getD_small hsm)
  have hbc : bc < w.heap.size := World.block_lt_of_cell? w ⟨bc, 0, none⟩ hb
  have hgl := hr.lt
  obtain ⟨a0, ha0⟩ : ∃ a, a = fs.getD (k * 6) 0 := ⟨_, rfl⟩
  obtain ⟨a1, ha1⟩ : ∃ a, a = fs.getD (k * 6 + 1) 0 := ⟨_, rfl⟩
  obtain ⟨a2, ha2⟩ : ∃ a, a = fs.getD (k * 6 + 2) 0 := ⟨_, rfl⟩
  obtain ⟨a3, ha3⟩ : ∃ a, a = fs.getD (k * 6 + 3) 0 := ⟨_, rfl⟩
  obtain ⟨a4, ha4⟩ : ∃ a, a = fs.getD (k * 6 + 4) 0 := ⟨_, rfl⟩
  obtain ⟨a5, ha5⟩ : ∃ a, a = fs.getD (k * 6 + 5) 0 := ⟨_, rfl⟩
  have q0 := hr.cell (k * 6)
  have q1 := hr.cell (k * 6 + 1)
  have q2 := hr.cell (k * 6 + 2)
  have q3 := hr.cell (k * 6 + 3)
  have q4 := hr.cell (k * 6 + 4)
  have q5 := hr.cell (k * 6 + 5)
  rw [uv_get (by omega), ← ha0] at q0
  rw [uv_get (by omega), ← ha1] at q1
  rw [uv_get (by omega), ← ha2] at q2
  rw [uv_get (by omega), ← ha3] at q3
  rw [uv_get (by omega), ← ha4] at q4
  rw [uv_get (by omega), ← ha5] at q5
  have HAE : Hid (∀ u, u < 6 → ([a0, a1, a2, a3, a4, a5] : List Nat).getD u 0 = fs.getD (k * 6 + u) 0) := Lib.hid fun u hu => by
    have h : u = 0 ∨ u = 1 ∨ u = 2 ∨ u = 3 ∨ u = 4 ∨ u = 5 := by omega
    rcases h with rfl | rfl | rfl | rfl | rfl | rfl <;> simp [ha0, ha1, ha2, ha3, ha4, ha5]
  clear ha0 ha1 ha2 ha3 ha4 ha5 hr hst hsm
  have HRZ := Lib.hid (RowB.new w [.int .u64 0, .int .u64 0, .int .u64 0, .int .u64 0, .int .u64 0, .int .u64 0] 74)
  have HBZ := Lib.hid (bel_a w (.cells #[.int .u64 0, .int .u64 0, .int .u64 0, .int .u64 0, .int .u64 0, .int .u64 0] 74))
  go_enter Try.func49, Try.ntmps49
  go_upto_region 1 with (at_builtin; fail)
  have hb := (HBZ.out.cell (p := ⟨bc, 0, none⟩) hbc).trans hb
  have q0 := (HBZ.out.cell (p := ⟨g, k * 6, none⟩) hgl).trans q0
  have q1 := (HBZ.out.cell (p := ⟨g, k * 6 + 1, none⟩) hgl).trans q1
  have q2 := (HBZ.out.cell (p := ⟨g, k * 6 + 2, none⟩) hgl).trans q2
  have q3 := (HBZ.out.cell (p := ⟨g, k * 6 + 3, none⟩) hgl).trans q3
  have q4 := (HBZ.out.cell (p := ⟨g, k * 6 + 4, none⟩) hgl).trans q4
  have q5 := (HBZ.out.cell (p := ⟨g, k * 6 + 5, none⟩) hgl).trans q5
  generalize w.alloc (.cells #[.int .u64 0, .int .u64 0, .int .u64 0, .int .u64 0, .int .u64 0, .int .u64 0] 74) = W1 at *
  obtain ⟨rb, hrb⟩ : ∃ rb, rb = w.heap.size := ⟨_, rfl⟩
  have HRB := Lib.hid hrb
  rw [← hrb] at HRZ ⊢
  have z0 := HRZ.out.cell 0
  have z1 := HRZ.out.cell 1
  have z2 := HRZ.out.cell 2
  have z3 := HRZ.out.cell 3
  have z4 := HRZ.out.cell 4
  have z5 := HRZ.out.cell 5
  simp only [List.getElem?_cons_zero, List.getElem?_cons_succ] at z0 z1 z2 z3 z4 z5
  have f0 := HRZ.out.frozen 0
  have f1 := HRZ.out.frozen 1
  have f2 := HRZ.out.frozen 2
  have f3 := HRZ.out.frozen 3
  have f4 := HRZ.out.frozen 4
  have f5 := HRZ.out.frozen 5
  clear hrb
  go_wp2_with (at_builtin; fail)
  have HS := Lib.hid (box6 HRZ.out (.int .u64 a0) (.int .u64 a1) (.int .u64 a2) (.int .u64 a3) (.int .u64 a4) (.int .u64 a5))
  refine bodyPost_ret (results_cell_row rfl _ _ rb 74 _ (0, 0) _ rfl HS.out.1 Try.underlying74 rfl rfl) rfl ⟨a0, a1, a2, a3, a4, a5, rfl, fun u hu => by rw [HAE.out u hu]; exact HSM.out _, fun v e hv => ?_, ?_⟩
  · rw [HAE.out v hv, ← HST.out]
    unfold stF
    rw [decide_eq_true hv, Bool.true_and]
  · exact grown_new HBZ.out (by have := HRB.out; show w.heap.size ≤ rb; omega) HS.out.2
noncomputable def liveL (ts : List Int) (pts : List Pt) (n : Nat) : List Nat := (List.range n).map fun k => orL (ndL ts pts) (ptD pts k).next
theorem liveL_succ (ts : List Int) (pts : List Pt) (n : Nat) : liveL ts pts (n + 1) = liveL ts pts n ++ [orL (ndL ts pts) (ptD pts n).next] := by simp [liveL, List.range_succ]
noncomputable def valL (ts : List Int) (pts : List Pt) (n : Nat) : List Nat := (List.range n).map fun k => valP ts (ptD pts k) (fwdM false ts pts 0 k)
theorem valL_succ (ts : List Int) (pts : List Pt) (n : Nat) : valL ts pts (n + 1) = valL ts pts n ++ [valP ts (ptD pts n) (fwdM false ts pts 0 n)] := by simp [valL, List.range_succ]
theorem msk_snoc (l : List Nat) (m : Nat) : msk (l ++ [m]) = msk l ++ [((m : Nat) : Int)] := by simp [msk]
theorem nd_small {ts : List Int} {pts : List Pt} (h6 : ts.length ≤ 6) : ∀ m ∈ ndL ts pts, m < 64 := by
  intro m hm
  simp only [ndL, List.mem_map] at hm
  obtain ⟨i, _, rfl⟩ := hm
  exact bm_lt64 h6 _
theorem liveL_LV {ts : List Int} {pts : List Pt} (g : Good ts pts) {k : Nat} (hk : k < pts.length) {v : Nat} (hv : v < ts.length) : ((liveL ts pts pts.length).getD k 0).testBit v = true ↔ LvN ts pts k v := by
  have e0 : (liveL ts pts pts.length).getD k 0 = orL (ndL ts pts) pts[k].next := by
    rw [getD_lt (by simpa [liveL] using hk)]
    simp [liveL, ptD_get hk]
  rw [e0, orL_bit, List.any_eq_true]
  have e : ∀ j ∈ pts[k].next, ((ndL ts pts).getD j 0).testBit v = dec (Nd ts pts j v) := fun j hj => by
    rw [ndL_get (g.next _ (List.getElem_mem hk) j hj), ndM, bm_bit]; simp [hv]
  constructor
  · rintro ⟨j, hj, h⟩
    exact ⟨pts[k], List.getElem?_eq_getElem hk, j, hj, by rw [e j hj] at h; exact dec_iff.1 h⟩
  · rintro ⟨p, hp, j, hj, h⟩
    rw [List.getElem?_eq_getElem hk] at hp
    injection hp with hp
    subst hp
    exact ⟨j, hj, by rw [e j hj]; exact dec_true h⟩
theorem valL_LV {ts : List Int} {pts : List Pt} (g : Good ts pts) {k : Nat} (hk : k < pts.length) {v : Nat} (hv : v < ts.length) : ((valL ts pts pts.length).getD k 0).testBit v = true ↔ LvVal ts pts k v := by
  have h6 := g.h6
  have e0 : (valL ts pts pts.length).getD k 0 = valP ts pts[k] (fwdM false ts pts 0 k) := by
    rw [getD_lt (by simpa [valL] using hk)]
    simp [valL, ptD_get hk]
  rw [e0]
  unfold valP
  rw [Nat.testBit_or, andn_bit _ _ _ (by omega), setBit_bit, taken_bit hv]
  unfold fwdM
  rw [bm_bit, decide_eq_true hv, Bool.true_and]
  constructor
  · intro h
    refine ⟨pts[k], List.getElem?_eq_getElem hk, ?_⟩
    rw [Bool.or_eq_true, Bool.and_eq_true] at h
    rcases h with ⟨h1, h2⟩ | h
    · exact .inl ⟨dec_iff.1 (by revert h1; cases dec (Ac false ts pts 0 k v) <;> simp), by simpa using h2⟩
    · exact .inr (of_decide_eq_true h)
  · rintro ⟨p, hp, h⟩
    rw [List.getElem?_eq_getElem hk] at hp
    injection hp with hp
    subst hp
    rw [Bool.or_eq_true, Bool.and_eq_true]
    rcases h with ⟨h1, h2⟩ | h
    · exact .inl ⟨by rw [dec_true h1]; rfl, by simpa using h2⟩
    · exact .inr (decide_eq_true h)
theorem liveL_small {ts : List Int} {pts : List Pt} (h6 : ts.length ≤ 6) (n : Nat) : ∀ m ∈ liveL ts pts n, m < 64 := by
  intro m hm
  simp only [liveL, List.mem_map] at hm
  obtain ⟨i, _, rfl⟩ := hm
  exact orL_lt (nd_small h6) _
set_option maxHeartbeats 2000000 in
set_option maxRecDepth 100000 in
theorem liveAfter_any (vg : Value) (ts : List Int) (pts : List Pt) (B : Nat) (w : World) (hg : GrS w B vg ts pts) (hB : B ≤ w.heap.size) (gd : Good ts pts) :
    Calls Try.prog 65 #[vg] w (IntsRet w (msk (liveL ts pts pts.length))) := by
  have HG := Lib.hid hg
  have GD := Lib.hid gd
  have h6 := gd.h6
  have hlen := gd.len
  obtain ⟨g, At, ct, vb, Al, cl, rfl, hgB, g0, g1, g2, ht, hp, htl, hpl'⟩ := hg.open_
  clear gd
  have HNX := Lib.hid (fun k hk => GD.out.next pts[k] (List.getElem_mem (h := hk)))
  go_enter Try.func65, Try.ntmps65
  go_wp2_with (at_builtin; fail)
  refine (needed_any _ ts pts B w HG.out hB h6 (by omega) GD.out.next (fun p hp => (GD.out.ok p hp).sets)).mono ?_
  rintro e w1 ⟨vm, rfl, him, hb1⟩
  have HIM := Lib.hid him
  have HB1 := Lib.hid hb1
  have hs1 := hb1.size
  obtain ⟨Am, cm, rfl, hcm, -, -⟩ := him
  have g2' := (hb1.cell (p := ⟨g, 2, none⟩) (by show g < _; omega)).trans g2
  clear hb1
  have HN := Lib.hid (OInts.nil w1 w1.heap.size)
  go_wp2_with (at_builtin; fail)
  go_loopw [4, 13] (fun v i wr => ∃ (k : Nat) (o : List Int), k ≤ pts.length ∧ i = .int .i64 k ∧ o = msk (liveL ts pts k) ∧ OInts wr w1.heap.size v o ∧ Below w1.heap.size w1 wr) (fun _ i _ => pts.length - (intOf i).toNat)
  case atStart => exact ⟨0, [], Nat.zero_le _, rfl, rfl, HN.out, Below.refl _ _⟩
  case round =>
    obtain ⟨k, o, hk, rfl, ho, hP, hb⟩ := hrel
    have hol : o.length = k := by rw [ho]; simp [msk, liveL]
    have HO := Lib.hid ho
    have HOL := Lib.hid hol
    have HP := Lib.hid hP
    have HB := Lib.hid hb
    have hsw := hb.size
    clear ho hol hb
    obtain ⟨A', c', rfl, hc'⟩ := hP.slice
    clear hP
    by_cases hlt : k < pts.length
    · have HAF := Lib.hid (after_any _ _ ts pts (ndL ts pts) w1.heap.size k wr (((HG.out.low HB1.out hB).more (B' := w1.heap.size) (by omega)).low HB.out (Nat.le_refl _)) (HIM.out.low HB.out (Nat.le_refl _)) (nd_small h6) hlt (fun j hj => by simp [ndL]; exact HNX.out k hlt j hj))
      have HSU : Hid (msk (liveL ts pts (k + 1)) = msk (liveL ts pts k) ++ [((orL (ndL ts pts) pts[k].next : Nat) : Int)]) := Lib.hid (by rw [liveL_succ, msk_snoc, ptD_get hlt])
      generalize orL (ndL ts pts) pts[k].next = m at *
      have HLT := Lib.hid hlt
      go_wp2_with (at_builtin; fail)
      refine HAF.out.mono ?_
      rintro e w2 ⟨rfl, rfl⟩
      go_wp2_with (at_builtin; go_must (refine wpList_push_int rfl (.tmp 16) (.tmp 21) rfl HP.out hsw (by have := HOL.out; omega) _ rfl rfl ?_); intro v' w' hP' hE')
      have hlt := HLT.out
      exact ⟨⟨k + 1, _, by omega, by go_num, by rw [HSU.out, HO.out], hP', HB.out.trans ((((Evo.alloc w1.heap.size 3 _ _).trans hE').below hsw))⟩, by simp [intOf] <;> omega⟩
    · have hke : k = pts.length := by omega
      go_wp2_with (at_builtin; fail)
      go_ret
      refine ⟨_, rfl, ?_, HB1.out.trans (HB.out.mono hs1)⟩
      rw [← hke, ← HO.out]
      exact HP.out.toS (by have := HOL.out; omega)
theorem Try.enterIssuesF (args : Array Value) (w : World) : (callFunc 99 args).run Try.prog w = .ok (.enter 99 args) w := by kernel_rfl
set_option maxHeartbeats 2000000 in
set_option maxRecDepth 100000 in
theorem issues_any (vg : Value) (ts : List Int) (pts : List Pt) (B : Nat) (w : World) (hg : GrS w B vg ts pts) (hB : B ≤ w.heap.size) (gd : Good ts pts) :
    Calls Try.prog 57 #[vg] w (CkRet w (chkL ts pts (LvN ts pts) pts.length)) := by
  have HG := Lib.hid hg
  have GD := Lib.hid gd
  have h6 := gd.h6
  have hlen := gd.len
  clear gd
  have hmf : ∀ (fn : Fn) (first cap : Array Value) (w : World), (Instr.makeFunc fn first cap).run Try.prog w = .ok (.func fn first cap) w := fun _ _ _ _ => rfl
  go_enter Try.func57, Try.ntmps57
  go_wp2_with (at_builtin; fail)
  refine (loansIn_any _ ts pts B w HG.out hB GD.out).mono ?_
  rintro e w1 ⟨g', fs, rfl, hgl', hrow, hfl, hsm, hst, hb1⟩
  have HST := Lib.hid hst
  have HSM := Lib.hid hsm
  have HFL := Lib.hid hfl
  have HB1 := Lib.hid hb1
  have hs1 := hb1.size
  have HRW := Lib.hid (hrow.alloc (.cells #[.slice (some ⟨g', 0, none⟩) pts.length pts.length] 69))
  have HRB := Lib.hid (RowB.new w1 [.slice (some ⟨g', 0, none⟩) pts.length pts.length] 69)
  have HBB := Lib.hid (bel_a w1 (.cells #[.slice (some ⟨g', 0, none⟩) pts.length pts.length] 69))
  clear hst hsm hfl hb1 hrow
  go_wp2_with (at_builtin; fail)
  generalize w1.alloc (.cells #[.slice (some ⟨g', 0, none⟩) pts.length pts.length] 69) = w2 at *
  obtain ⟨bc, hbc⟩ : ∃ bc, bc = w1.heap.size := ⟨_, rfl⟩
  rw [← hbc] at HRB ⊢
  clear hbc
  have HB2 := Lib.hid (HB1.out.trans (HBB.out.mono hs1))
  have hs2 := HB2.out.size
  refine (liveAfter_any _ ts pts B w2 (HG.out.low HB2.out hB) (by omega) GD.out).mono ?_
  rintro e w3 ⟨vl, rfl, hil, hb3⟩
  have HIL := Lib.hid hil
  have HB3 := Lib.hid (HB2.out.trans (hb3.mono hs2))
  have HRW3 := Lib.hid (HRW.out.low hb3 HRW.out.lt)
  have HRB3 := Lib.hid (HRB.out.low hb3 HRB.out.lt)
  have hs3 := hb3.size
  clear hb3
  have HCK := Lib.hid (check_any vg vl (.pointer (some ⟨bc, 0, none⟩)) 99 ts pts w3.heap.size (liveL ts pts pts.length) (LvN ts pts) w3 ((HG.out.low HB3.out hB).more (by omega)) (Nat.le_refl _) GD.out hil (by simp [liveL]) (liveL_small h6 _) (fun k hk v hv => liveL_LV GD.out hk hv) Try.enterIssuesF
    (fun k w' hk hb => issuesF_any ts pts bc g' k fs w' ((hb.cell (p := ⟨bc, 0, none⟩) HRB3.out.lt).trans (HRB3.out.cell 0)) (HRW3.out.low hb HRW3.out.lt) HFL.out hk HSM.out HST.out))
  clear hil
  go_wp2_with (at_builtin; fail)
  refine HCK.out.mono ?_
  rintro e w4 ⟨v4, rfl, ho4, hb4⟩
  go_wp2_with (at_builtin; fail)
  go_ret
  exact ⟨v4, rfl, ho4.base (by omega), HB3.out.trans (hb4.mono (by omega))⟩

end Go.Proofs.Ytfioaohadanjmaa
