import Derived.Test.YtfioaohadanjmaaC19
set_option linter.unusedVariables false

/- Loans: impl.graph.ofVars, placed, kept; impl.PlacedLoans, LiveLoans. -/
namespace Go.Proofs.Ytfioaohadanjmaa
open Go.RowKit

theorem andn_u64 {a b : Nat} (ha : a < top64) (hb : b < top64) : ∃ r : Nat, bits .andNot .u64 (a : Int) (b : Int) = ((r : Nat) : Int) ∧ r < top64 ∧ ∀ e, r.testBit e = (a.testBit e && !b.testBit e) := by
  refine ⟨a &&& (18446744073709551615 - b), u64_andNot_nat a b (by rw [top_eq] at ha; exact ha) (by rw [top_eq] at hb; exact hb), Nat.lt_of_le_of_lt Nat.and_le_left ha, fun e => ?_⟩
  rw [Nat.testBit_and]
  have h := Nat.testBit_two_pow_sub_succ (n := 64) (x := b) hb e
  rw [show (2 : Nat) ^ 64 - (b + 1) = 18446744073709551615 - b by omega] at h
  rw [h]
  cases h1 : a.testBit e
  · simp
  · rw [decide_eq_true (bit_lt64 ha h1)]; simp
/-- the loans of variables in a set -/
def ofB (pts : List Pt) (m e : Nat) : Bool := match pts[e]? with
  | some q => lonB q && m.testBit q.y.toNat
  | none => false
theorem ofB_lt {pts : List Pt} {m e : Nat} (h : ofB pts m e = true) : e < pts.length := by
  rcases Nat.lt_or_ge e pts.length with h1 | h1
  · exact h1
  · unfold ofB at h; rw [List.getElem?_eq_none h1] at h; cases h
theorem ofB_kill {ts : List Int} {pts : List Pt} (g : Good ts pts) (p : Pt) (e : Nat) : ofB pts (takenP ts p.op p.x p.y ||| setBitP p.op p.x) e = killB ts pts p e := by
  unfold ofB killB
  cases h : pts[e]? with
  | none => rfl
  | some q =>
    simp only
    by_cases hq : lonB q = true
    · have hy := g.y h (by rcases lonB_iff.1 hq with h | h <;> omega)
      have hyn : ((q.y.toNat : Nat) : Int) = q.y := by omega
      rw [hq, Nat.testBit_or, taken_bit (by omega), setBit_bit, hyn]
      have hd : (setsP p.op p.x == q.y) = decide (setsP p.op p.x = q.y) := by rw [Bool.eq_iff_iff]; simp
      rw [hd]
    · rw [Bool.not_eq_true] at hq; rw [hq]; rfl
theorem Try.infoU : (Try.prog.info? 72).map (fun i => (i.zero, i.size, i.bytes)) = some (some (.int .u64 0), 1, 8) := by kernel_rfl
/-- make([]uint64, n) -/
theorem make_u64 (n : Nat) (hn : n ≤ 100000) (W : World) : (Instr.makeSlice 128 (.int .i64 (n : Int)) (.int .i64 (n : Int))).run Try.prog W = .ok (.slice (some ⟨W.heap.size, 0, none⟩) n n) (W.alloc (.cells (uv (List.replicate n 0)).toArray 72)) := by
  obtain ⟨i0, hi0, hz0, hz1, hz2⟩ := info_parts Try.infoU
  have h := run_make (P := Try.prog) W 128 72 i0 _ Try.underlying128 hi0 hz0 .i64 .i64 (n : Int) (n : Int) (by omega) (by omega) (by rw [hz2]; omega) (by omega)
  simp only [Int.toNat_natCast] at h
  rw [h, hz1]
  have e : madeCells (Value.cells (.int .u64 0)) (n * 1) = (uv (List.replicate n 0)).toArray := by
    apply Array.ext
    · rw [size_madeCells]; simp [uv]
    · intro i h1 h2
      rw [size_madeCells] at h1
      simp [madeCells, Value.cells, uv, Nat.mod_one]
  rw [e]

set_option maxHeartbeats 2000000 in
set_option maxRecDepth 100000 in
theorem ofVars_any (vg : Value) (ts : List Int) (pts : List Pt) (B m : Nat) (w : World) (hg : GrS w B vg ts pts) (hB : B ≤ w.heap.size) (gd : Good ts pts) (hm : m < 64) :
    Calls Try.prog 118 #[vg, .int .i64 (m : Nat)] w fun e w' => ∃ s : Nat, e = .returned (.int .u64 (s : Nat)) ∧ s < top64 ∧ (∀ e, s.testBit e = ofB pts m e) ∧ Below w.heap.size w w' := by
  have GD := Lib.hid gd
  have HM := Lib.hid hm
  have hpl := gd.len
  have h6 := gd.h6
  clear gd hm
  obtain ⟨g, At, ct, vb, Al, cl, rfl, hgB, g0, g1, g2, ht, hp, htl, hpl'⟩ := hg.open_
  have hgw : g < w.heap.size := by omega
  go_enter Try.func118, Try.ntmps118
  go_wp2_with fail
  go_loopw [5, 13] (fun c i wr => ∃ (k s : Nat), k ≤ pts.length ∧ c = .int .u64 (s : Nat) ∧ i = .int .i64 k ∧ s < top64 ∧ (∀ e, s.testBit e = (decide (e < k) && ofB pts m e)) ∧ Below w.heap.size w wr) (fun _ i _ => pts.length - (intOf i).toNat)
  case atStart => exact ⟨0, 0, Nat.zero_le _, rfl, rfl, Nat.two_pow_pos _, fun e => by simp, Below.refl _ _⟩
  case round =>
    obtain ⟨k, s, hk, rfl, rfl, hs64, hsb, hbw⟩ := hrel
    have HSB := Lib.hid hsb
    have HBW := Lib.hid hbw
    have hsw := hbw.size
    clear hsb
    by_cases hlt : k < pts.length
    · obtain ⟨b, off, c, nv, e, hb, hc, hl, hnx, z0, z1, z2, z3, z4⟩ := hp.get hlt
      injection e with e1 e9 e2
      subst e1 e2
      clear e9
      have hbB : b < w.heap.size := by omega
      obtain ⟨An, cn, rfl, hcn, hln, -⟩ := hnx
      simp only [List.length_map] at hcn hln z4
      have p0 := (hbw.cell (p := ⟨b, off + k * 5, none⟩) hbB).trans z0
      have p1 := (hbw.cell (p := ⟨b, off + k * 5 + 1, none⟩) hbB).trans z1
      have p2 := (hbw.cell (p := ⟨b, off + k * 5 + 2, none⟩) hbB).trans z2
      have p3 := (hbw.cell (p := ⟨b, off + k * 5 + 3, none⟩) hbB).trans z3
      have p4 := (hbw.cell (p := ⟨b, off + k * 5 + 4, none⟩) hbB).trans z4
      have HPG : Hid (ofB pts m k = (lonB pts[k] && m.testBit (pts[k]).y.toNat)) := Lib.hid (by unfold ofB; rw [List.getElem?_eq_getElem hlt])
      have HY := Lib.hid (fun ho => GD.out.y (List.getElem?_eq_getElem hlt) ho)
      generalize pts[k] = P at *
      have HX0 : Hid (RowB (wr.alloc (.cells #[.int .i64 P.op, .int .i64 P.x, .int .i64 P.y, .int .i64 P.n, .slice An P.next.length cn] 62)) wr.heap.size 62 [.int .i64 P.op, .int .i64 P.x, .int .i64 P.y, .int .i64 P.n, .slice An P.next.length cn]) := Lib.hid (RowB.new _ _ _)
      have HB0 := Lib.hid (HBW.out.alloc hsw (.cells #[.int .i64 P.op, .int .i64 P.x, .int .i64 P.y, .int .i64 P.n, .slice An P.next.length cn] 62))
      have HB1 := Lib.hid (bel_a wr (.cells #[.int .i64 P.op, .int .i64 P.x, .int .i64 P.y, .int .i64 P.n, .slice An P.next.length cn] 62))
      have HNO : Hid (ofB pts m k = false → ∀ e, s.testBit e = (decide (e < k + 1) && ofB pts m e)) := Lib.hid fun h e => by
        rw [HSB.out e]
        by_cases h1 : e < k
        · rw [decide_eq_true h1, decide_eq_true (by omega)]
        · rw [decide_eq_false h1]
          by_cases h2 : e = k
          · rw [h2, h]; simp
          · rw [decide_eq_false (by omega)]
      clear z0 z1 z2 z3 z4 hbw
      go_wp2_with fail
      generalize wr.alloc (.cells #[.int .i64 P.op, .int .i64 P.x, .int .i64 P.y, .int .i64 P.n, .slice An P.next.length cn] 62) = w1 at *
      refine (isLoan_any _ _ _ _ _ _).mono ?_
      rintro e w2 ⟨rfl, hb2⟩
      have HB2 := Lib.hid (HB0.out.trans (hb2.mono HB0.out.size))
      have HX2 := Lib.hid (HX0.out.low hb2 HX0.out.lt)
      have hlo : loanB P.op = lonB P := rfl
      rw [hlo]
      clear hlo hb2 p0 p1 p2 p3 p4
      cases hlb : lonB P
      · have HN2 := Lib.hid (HNO.out (by rw [HPG.out, hlb]; rfl))
        go_wp2_with fail
        exact ⟨⟨k + 1, s, by omega, rfl, by go_num, hs64, HN2.out, HB2.out⟩, by simp [intOf] <;> omega⟩
      · have hy := HY.out (by rcases lonB_iff.1 hlb with h | h <;> omega)
        obtain ⟨y, hyn⟩ : ∃ y : Nat, P.y = y := ⟨P.y.toNat, by omega⟩
        have hy6 : y < 6 := by omega
        have p2 := HX2.out.cell 2
        simp only [List.getElem?_cons_zero, List.getElem?_cons_succ] at p2
        rw [hyn] at p2
        obtain ⟨q, hq⟩ : ∃ q : Nat, ((m : Int) / 2 ^ y) = q := ⟨m / 2 ^ y, by simp⟩
        have hq' : q = m / 2 ^ y := by
          have : ((m / 2 ^ y : Nat) : Int) = q := by rw [← hq]; simp
          omega
        have hbt := bit_test hq' (by rw [hq']; exact Nat.le_trans (Nat.div_le_self _ _) (by have := HM.out; omega))
        have HOF : Hid (ofB pts m k = m.testBit y) := Lib.hid (by rw [HPG.out, hlb, hyn]; rfl)
        clear hlb hy hyn hq'
        cases hbit : m.testBit y
        · rw [hbit] at hbt
          have HN2 := Lib.hid (HNO.out (by rw [HOF.out]; exact hbit))
          clear hbit
          go_wp2_with fail
          exact ⟨⟨k + 1, s, by omega, rfl, by go_num, hs64, HN2.out, HB2.out⟩, by simp [intOf] <;> omega⟩
        · rw [hbit] at hbt
          have HBT := Lib.hid hbit
          obtain ⟨pk, hpk⟩ : ∃ m : Nat, m = 2 ^ k := ⟨_, rfl⟩
          have hpk64 : pk < top64 := by rw [hpk]; exact one_shl (by omega)
          have HPB : Hid (∀ e, pk.testBit e = (e == k)) := Lib.hid (by rw [hpk]; exact pow_bit k)
          have hpw : IntKind.u64.wrap (2 ^ k) = (pk : Int) := by rw [hpk]; exact pow_u64 (k := k) (by omega)
          obtain ⟨r, hr⟩ : ∃ r, r = s ||| pk := ⟨_, rfl⟩
          have hor : bits .or .u64 (s : Int) (pk : Int) = ((r : Nat) : Int) := by rw [hr]; exact or_u64 hs64 hpk64
          have hr64 : r < top64 := by rw [hr]; exact or_top hs64 hpk64
          have HR := Lib.hid hr
          clear hbit hpk hr
          go_wp2_with fail
          refine ⟨⟨k + 1, r, by omega, rfl, by go_num, hr64, fun e => ?_, HB2.out⟩, by simp [intOf] <;> omega⟩
          rw [HR.out, Nat.testBit_or, HSB.out, HPB.out]
          by_cases h1 : e < k
          · rw [decide_eq_true h1, decide_eq_true (by omega), beq_false_of_ne (by omega), Bool.or_false]
          · rw [decide_eq_false h1]
            by_cases h2 : e = k
            · rw [h2, HOF.out, HBT.out]; simp
            · rw [decide_eq_false (by omega), beq_false_of_ne h2]; rfl
    · have hke : k = pts.length := by omega
      have HFIN : Hid (∀ e, s.testBit e = ofB pts m e) := Lib.hid fun e => by
        rw [HSB.out e, hke]
        cases h : ofB pts m e
        · simp
        · rw [decide_eq_true (ofB_lt h)]; rfl
      clear hke
      go_wp2_with fail
      go_ret
      exact ⟨s, rfl, hs64, HFIN.out, HBW.out⟩

/-- what placed answers: the slice, its block -/
def PldRet (w : World) (ts : List Int) (pts : List Pt) (e : Ending) (w' : World) : Prop :=
  ∃ g os, e = .returned (.slice (some ⟨g, 0, none⟩) pts.length pts.length) ∧ w.heap.size ≤ g ∧ RowB w' g 72 (uv os) ∧ os.length = pts.length ∧ (∀ m ∈ os, m < top64) ∧ (∀ i e, stP os i e = true ↔ Pld ts pts i e) ∧ Below w.heap.size w w'
set_option maxHeartbeats 8000000 in
set_option maxRecDepth 100000 in
theorem placed_any (vg : Value) (ts : List Int) (pts : List Pt) (B : Nat) (w : World) (hg : GrS w B vg ts pts) (hB : B ≤ w.heap.size) (gd : Good ts pts) :
    Calls Try.prog 86 #[vg] w (PldRet w ts pts) := by
  have HG := Lib.hid hg
  have GD := Lib.hid gd
  have h6 := gd.h6
  have hpl := gd.len
  have h0 := gd.pos
  clear gd
  obtain ⟨g, At, ct, vb, Al, cl, rfl, hgB, g0, g1, g2, ht, hp, htl, hpl'⟩ := hg.open_
  have hmk := make_u64 pts.length (by omega)
  go_enter Try.func86, Try.ntmps86
  go_wp2_with fail
  have hrow : RowB (w.alloc (.cells (uv (List.replicate pts.length 0)).toArray 72)) w.heap.size 72 (uv (List.replicate pts.length 0)) := RowB.new _ _ _
  have hinit := PlI.init ts pts
  have hbw := bel_a w (.cells (uv (List.replicate pts.length 0)).toArray 72)
  generalize List.replicate pts.length 0 = fs0 at *
  clear hmk
  go_loopg [4] (1 + muP pts.length fs0) (fun gk c wr => ∃ (b : Bool) (ms : List Nat), c = .bool b ∧ RowB wr w.heap.size 72 (uv ms) ∧ PlI ts pts ms ∧ (b = true → muP pts.length ms < gk) ∧ (b = false → ∀ i, i < pts.length → ClP ts pts ms i) ∧ Below w.heap.size w wr)
  case atStart => exact ⟨true, fs0, rfl, hrow, hinit, fun _ => by omega, fun h => (by cases h), hbw⟩
  case round =>
    obtain ⟨bc, ms, rfl, hrw, hfw, hmu, hcl, hbr⟩ := hrel
    have HFW := Lib.hid hfw
    have HMU := Lib.hid hmu
    have HCL := Lib.hid hcl
    have HRW := Lib.hid hrw
    have hsz := hbr.size
    have HML := Lib.hid hfw.len
    have g2' := (hbr.cell (p := ⟨g, 2, none⟩) (by show g < _; omega)).trans g2
    clear hfw hmu hcl hrw
    cases bc
    · go_wp2_with fail
      go_ret
      exact ⟨w.heap.size, ms, rfl, Nat.le_refl _, HRW.out, HML.out, HFW.out.small, HFW.out.done (HCL.out (by simp)), hbr⟩
    · go_wp2_with fail
      go_loopw [4, 22] (fun c i wx => ∃ (b : Bool) (k : Nat) (ns : List Nat), c = .bool b ∧ i = .int .i64 k ∧ k ≤ pts.length ∧ RowB wx w.heap.size 72 (uv ns) ∧ PlI ts pts ns ∧ (b = true → muP pts.length ns < muP pts.length ms) ∧ (b = false → ns = ms ∧ ∀ i, i < k → ClP ts pts ms i) ∧ Below w.heap.size w wx) (fun _ i _ => pts.length - (intOf i).toNat)
      case atStart => exact ⟨false, 0, ms, rfl, rfl, by omega, HRW.out, HFW.out, fun h => (by cases h), fun _ => ⟨rfl, fun i hi => by omega⟩, hbr⟩
      case round =>
        obtain ⟨bc, k, ns, rfl, rfl, hk, hrw, hfw, hmu, hcl, hbx⟩ := hrel
        have HFX := Lib.hid hfw
        have HMX := Lib.hid hmu
        have HCX := Lib.hid hcl
        have HRX := Lib.hid hrw
        have hszx := hbx.size
        have HLX := Lib.hid hfw.len
        clear hfw hmu hcl hrw g2'
        by_cases hlt : k < pts.length
        · obtain ⟨b, off, c, nv, e, hb, hc, hl, hnx, z0, z1, z2, z3, z4⟩ := hp.get hlt
          injection e with e1 e9 e2
          subst e1 e2
          clear e9
          have hbB : b < w.heap.size := by omega
          have HNX := Lib.hid hnx
          obtain ⟨An, cn, rfl, hcn, hln, -⟩ := hnx
          simp only [List.length_map] at hcn hln z4 HNX
          have p0 := (hbx.cell (p := ⟨b, off + k * 5, none⟩) hbB).trans z0
          have p1 := (hbx.cell (p := ⟨b, off + k * 5 + 1, none⟩) hbB).trans z1
          have p2 := (hbx.cell (p := ⟨b, off + k * 5 + 2, none⟩) hbB).trans z2
          have p3 := (hbx.cell (p := ⟨b, off + k * 5 + 3, none⟩) hbB).trans z3
          have p4 := (hbx.cell (p := ⟨b, off + k * 5 + 4, none⟩) hbB).trans z4
          clear z0 z1 z2 z3 z4
          have HPG := Lib.hid (List.getElem?_eq_getElem hlt)
          have HSK := Lib.hid ((GD.out.ok _ (List.getElem_mem hlt)).sets)
          have HNK := Lib.hid (GD.out.next _ (List.getElem_mem hlt))
          generalize pts[k] = P at *
          have hkl : k < ns.length := by have := HLX.out; omega
          obtain ⟨a, ha⟩ : ∃ a, a = ns.getD k 0 := ⟨_, rfl⟩
          have ha64 : a < top64 := by rw [ha]; exact getD_small HFX.out.small _
          have q0 := (HRX.out.alloc (.cells #[.int .i64 P.op, .int .i64 P.x, .int .i64 P.y, .int .i64 P.n, .slice An P.next.length cn] 62)).cell k
          rw [uv_get hkl, ← ha] at q0
          have HX0 : Hid (RowB (wr.alloc (.cells #[.int .i64 P.op, .int .i64 P.x, .int .i64 P.y, .int .i64 P.n, .slice An P.next.length cn] 62)) wr.heap.size 62 [.int .i64 P.op, .int .i64 P.x, .int .i64 P.y, .int .i64 P.n, .slice An P.next.length cn]) := Lib.hid (RowB.new _ _ _)
          have HR0 := Lib.hid (HRX.out.alloc (.cells #[.int .i64 P.op, .int .i64 P.x, .int .i64 P.y, .int .i64 P.n, .slice An P.next.length cn] 62))
          have HB0 := Lib.hid (hbx.alloc hszx (.cells #[.int .i64 P.op, .int .i64 P.x, .int .i64 P.y, .int .i64 P.n, .slice An P.next.length cn] 62))
          have hs0 : (wr.alloc (.cells #[.int .i64 P.op, .int .i64 P.x, .int .i64 P.y, .int .i64 P.n, .slice An P.next.length cn] 62)).heap.size = wr.heap.size + 1 := by simp
          have htk := takenP_lt h6 P.op P.x P.y
          have hsb64 : setBitP P.op P.x < 64 := setBitP_lt (by have := HSK.out; omega)
          obtain ⟨u, hu⟩ : ∃ u, u = takenP ts P.op P.x P.y ||| setBitP P.op P.x := ⟨_, rfl⟩
          have hu64 : u < 64 := by rw [hu]; exact Nat.or_lt_two_pow (n := 6) htk hsb64
          have hor : bits .or .i64 (takenP ts P.op P.x P.y : Nat) (setBitP P.op P.x : Nat) = ((u : Nat) : Int) := by rw [hu]; exact or_small htk hsb64
          have HKB : Hid (∀ e, ofB pts u e = killB ts pts P e) := Lib.hid fun e => by rw [hu]; exact ofB_kill GD.out P e
          have HHA := Lib.hid ha
          clear hu ha
          go_wp2_with fail
          generalize wr.alloc (.cells #[.int .i64 P.op, .int .i64 P.x, .int .i64 P.y, .int .i64 P.n, .slice An P.next.length cn] 62) = w1 at *
          have p0 := HX0.out.cell 0
          have p1 := HX0.out.cell 1
          have p2 := HX0.out.cell 2
          have p3 := HX0.out.cell 3
          have p4 := HX0.out.cell 4
          simp only [List.getElem?_cons_zero, List.getElem?_cons_succ] at p0 p1 p2 p3 p4
          have hxl : wr.heap.size < w1.heap.size := by omega
          have hwl : w.heap.size < w1.heap.size := by omega
          have BEL : Hid (∀ w', w'.cell? ⟨w.heap.size, k, none⟩ = some (.int .u64 (a : Nat)) ∧ w'.cell? ⟨wr.heap.size, 0, none⟩ = some (.int .i64 P.op) ∧ w'.cell? ⟨wr.heap.size, 1, none⟩ = some (.int .i64 P.x) ∧ w'.cell? ⟨wr.heap.size, 2, none⟩ = some (.int .i64 P.y) ∧ w'.cell? ⟨wr.heap.size, 3, none⟩ = some (.int .i64 P.n) ∧ w'.cell? ⟨wr.heap.size, 4, none⟩ = some (.slice An P.next.length cn) ∧ Below w1.heap.size w1 w' → Below w1.heap.size w1 w') := Lib.hid fun _ h => h.2.2.2.2.2.2
          clear hs0
          refine wp_region_held_drew (S := (fun w' => w'.cell? ⟨w.heap.size, k, none⟩ = some (.int .u64 (a : Nat)) ∧ w'.cell? ⟨wr.heap.size, 0, none⟩ = some (.int .i64 P.op) ∧ w'.cell? ⟨wr.heap.size, 1, none⟩ = some (.int .i64 P.x) ∧ w'.cell? ⟨wr.heap.size, 2, none⟩ = some (.int .i64 P.y) ∧ w'.cell? ⟨wr.heap.size, 3, none⟩ = some (.int .i64 P.n) ∧ w'.cell? ⟨wr.heap.size, 4, none⟩ = some (.slice An P.next.length cn) ∧ Below w1.heap.size w1 w')) (by kernel_rfl) ?_ (fun hHeld => ?_)
          · exact ⟨q0, p0, p1, p2, p3, p4, (Below.refl _ _).drew⟩
          refine wpAnyH_take (i := 0) (oi := ⟨some 27, _, _, _, _, _⟩) (v := ?_) rfl (by kernel_rfl) (by kernel_rfl) (by kernel_rfl) (fun _ _ _ h => h) (Or.inl ⟨by rfl, fun w' hSw => ?_⟩) (by assumption) ?_
          rotate_left
          · (try dsimp only at hSw); go_simp; (try with_reducible rfl)
          (try simp only [Act.put, List.setIfInBounds_toArray, List.set_cons_zero, List.set_cons_succ])
          refine wpAnyH_take (i := 1) (oi := ⟨some 28, _, _, _, _, _⟩) (v := ?_) rfl (by kernel_rfl) (by kernel_rfl) (by kernel_rfl) (fun _ _ _ h => h) (Or.inl ⟨by rfl, fun w' hSw => ?_⟩) (by assumption) ?_
          rotate_left
          · (try dsimp only at hSw); go_simp; (try with_reducible rfl)
          (try simp only [Act.put, List.setIfInBounds_toArray, List.set_cons_zero, List.set_cons_succ])
          refine wpAnyH_take (i := 2) (oi := ⟨some 29, _, _, _, _, _⟩) (v := ?_) rfl (by kernel_rfl) (by kernel_rfl) (by kernel_rfl) (fun _ _ _ h => h) (Or.inl ⟨by rfl, fun w' hSw => ?_⟩) (by assumption) ?_
          rotate_left
          · (try dsimp only at hSw); go_simp; (try with_reducible rfl)
          (try simp only [Act.put, List.setIfInBounds_toArray, List.set_cons_zero, List.set_cons_succ])
          refine wpAnyH_take (i := 3) (oi := ⟨some 30, _, _, _, _, _⟩) (v := ?_) rfl (by kernel_rfl) (by kernel_rfl) (by kernel_rfl) (fun _ _ _ h => h) (Or.inl ⟨by rfl, fun w' hSw => ?_⟩) (by assumption) ?_
          rotate_left
          · (try dsimp only at hSw); go_simp; (try with_reducible rfl)
          (try simp only [Act.put, List.setIfInBounds_toArray, List.set_cons_zero, List.set_cons_succ])
          refine wpAnyH_take (i := 4) (oi := ⟨some 31, _, _, _, _, _⟩) (v := ?_) rfl (by kernel_rfl) (by kernel_rfl) (by kernel_rfl) (fun _ _ _ h => h) (Or.inl ⟨by rfl, fun w' hSw => ?_⟩) (by assumption) ?_
          rotate_left
          · (try dsimp only at hSw); go_simp; (try with_reducible rfl)
          (try simp only [Act.put, List.setIfInBounds_toArray, List.set_cons_zero, List.set_cons_succ])
          refine wpAnyH_take (i := 5) (oi := ⟨some 32, _, _, _, _, _⟩) (v := ?_) rfl (by kernel_rfl) (by kernel_rfl) (by kernel_rfl) (fun _ _ _ h => h) (Or.inl ⟨by rfl, fun w' hSw => ?_⟩) (by assumption) ?_
          rotate_left
          · (try dsimp only at hSw); go_simp; (try with_reducible rfl)
          (try simp only [Act.put, List.setIfInBounds_toArray, List.set_cons_zero, List.set_cons_succ])
          refine wpAnyH_take (i := 6) (oi := ⟨some 33, _, _, _, _, _⟩) (v := ?_) rfl (by kernel_rfl) (by kernel_rfl) (by kernel_rfl) (fun _ _ _ h => h) (Or.inl ⟨by rfl, fun w' hSw => ?_⟩) (by assumption) ?_
          rotate_left
          · (try dsimp only at hSw); go_simp; (try with_reducible rfl)
          (try simp only [Act.put, List.setIfInBounds_toArray, List.set_cons_zero, List.set_cons_succ])
          refine wpAnyH_take (i := 8) (oi := ⟨some 35, _, _, _, _, _⟩) (v := ?_) rfl (by kernel_rfl) (by kernel_rfl) (by kernel_rfl) (fun _ _ _ h => h) (Or.inl ⟨by rfl, fun w' hSw => ?_⟩) (by assumption) ?_
          rotate_left
          · (try dsimp only at hSw); go_simp; (try with_reducible rfl)
          (try simp only [Act.put, List.setIfInBounds_toArray, List.set_cons_zero, List.set_cons_succ])
          refine wpAnyH_ready (rs := [7]) (by kernel_rfl) (by simp) ?_
          refine AllReadyH.cons (o := ⟨some 34, _, _, _, _, _⟩) rfl (fun K hK => ?_) AllReadyH.nil
          go_simp
          (refine (taken_any _ ts pts B _ _ _ _ _ _ (HG.out.low (HB0.out.trans ((BEL.out _ (by assumption)).mono HB0.out.size)) hB) (by have := (BEL.out _ (by assumption)).size; omega) h6).mono ?_)
          (rintro e w2 ⟨rfl, hb2⟩)
          (have BX5 := Lib.hid ((BEL.out _ (by assumption)).trans (hb2.mono (BEL.out _ (by assumption)).size)))
          clear hb2
          go_simp
          refine hK.out _ _ ?_ (fun hHeld => ?_)
          · exact ⟨belC BX5.out q0 hwl, belC BX5.out p0 hxl, belC BX5.out p1 hxl, belC BX5.out p2 hxl, belC BX5.out p3 hxl, belC BX5.out p4 hxl, BX5.out⟩
          clear hK K
          (try simp only [Act.put, List.setIfInBounds_toArray, List.set_cons_zero, List.set_cons_succ])
          refine wpAnyH_ready (rs := [9]) (by kernel_rfl) (by simp) ?_
          refine AllReadyH.cons (o := ⟨some 36, _, _, _, _, _⟩) rfl (fun K hK => ?_) AllReadyH.nil
          go_simp
          (refine (setBit_any _ _ _ _ _ _ (by have := HSK.out; omega)).mono ?_)
          (rintro e w3 ⟨rfl, hb3⟩)
          (have BX6 := Lib.hid ((BEL.out _ (by assumption)).trans (hb3.mono (BEL.out _ (by assumption)).size)))
          clear hb3
          go_simp
          refine hK.out _ _ ?_ (fun hHeld => ?_)
          · exact ⟨belC BX6.out q0 hwl, belC BX6.out p0 hxl, belC BX6.out p1 hxl, belC BX6.out p2 hxl, belC BX6.out p3 hxl, belC BX6.out p4 hxl, BX6.out⟩
          clear hK K
          (try simp only [Act.put, List.setIfInBounds_toArray, List.set_cons_zero, List.set_cons_succ])
          refine wpAnyH_take (i := 10) (oi := ⟨some 37, _, _, _, _, _⟩) (v := ?_) rfl (by kernel_rfl) (by kernel_rfl) (by kernel_rfl) (fun _ _ _ h => h) (Or.inl ⟨by rfl, fun w' hSw => ?_⟩) (by assumption) ?_
          rotate_left
          · (try dsimp only at hSw); go_simp; (try with_reducible rfl)
          (try simp only [Act.put, List.setIfInBounds_toArray, List.set_cons_zero, List.set_cons_succ])
          refine wpAnyH_ready (rs := [11]) (by kernel_rfl) (by simp) ?_
          refine AllReadyH.cons (o := ⟨some 38, _, _, _, _, _⟩) rfl (fun K hK => ?_) AllReadyH.nil
          go_simp
          (refine (ofVars_any _ ts pts B u _ (HG.out.low (HB0.out.trans ((BEL.out _ (by assumption)).mono HB0.out.size)) hB) (by have := (BEL.out _ (by assumption)).size; omega) GD.out hu64).mono ?_)
          (rintro e w4 ⟨o, rfl, ho64, hob, hb4⟩)
          (have BX7 := Lib.hid ((BEL.out _ (by assumption)).trans (hb4.mono (BEL.out _ (by assumption)).size)))
          (have HOB := Lib.hid hob)
          (obtain ⟨r, hr, hr64, hrb⟩ := andn_u64 ha64 ho64)
          (have HRB := Lib.hid hrb)
          clear hb4 hob hrb BX5 BX6
          go_simp
          refine hK.out _ _ ?_ (fun hHeld => ?_)
          · exact ⟨belC BX7.out q0 hwl, belC BX7.out p0 hxl, belC BX7.out p1 hxl, belC BX7.out p2 hxl, belC BX7.out p3 hxl, belC BX7.out p4 hxl, BX7.out⟩
          clear hK K
          (try simp only [Act.put, List.setIfInBounds_toArray, List.set_cons_zero, List.set_cons_succ])
          refine wpAnyH_take (i := 12) (oi := ⟨some 39, _, _, _, _, _⟩) (v := ?_) rfl (by kernel_rfl) (by kernel_rfl) (by kernel_rfl) (fun _ _ _ h => h) (Or.inl ⟨by rfl, fun w' hSw => ?_⟩) (by assumption) ?_
          rotate_left
          · (try dsimp only at hSw); go_simp; (try with_reducible rfl)
          (try simp only [Act.put, List.setIfInBounds_toArray, List.set_cons_zero, List.set_cons_succ])
          refine wpAnyH_take (i := 13) (oi := ⟨some 7, _, _, _, _, _⟩) (v := ?_) rfl (by kernel_rfl) (by kernel_rfl) (by kernel_rfl) (fun _ _ _ h => h) (Or.inl ⟨by rfl, fun w' hSw => ?_⟩) (by assumption) ?_
          rotate_left
          · (try dsimp only at hSw); go_simp; (try with_reducible rfl)
          (try simp only [Act.put, List.setIfInBounds_toArray, List.set_cons_zero, List.set_cons_succ])
          refine wpAnyH_done (by kernel_rfl) ?_ _
          have HX2 := Lib.hid (HX0.out.low BX7.out HX0.out.lt)
          have HR2 := Lib.hid (HR0.out.low BX7.out HR0.out.lt)
          have HB2 := Lib.hid (HB0.out.trans (BX7.out.mono HB0.out.size))
          have hs2 := BX7.out.size
          have c0 := HX2.out.cell 0
          have c1 := HX2.out.cell 1
          have c2 := HX2.out.cell 2
          have c3 := HX2.out.cell 3
          have c4 := HX2.out.cell 4
          simp only [List.getElem?_cons_zero, List.getElem?_cons_succ] at c0 c1 c2 c3 c4
          clear p0 p1 p2 p3 p4 q0 hor hr BEL
          go_wp2_with fail
          refine (isLoan_any _ _ _ _ _ _).mono ?_
          rintro e w5 ⟨rfl, hb5⟩
          have HX5 := Lib.hid (HX2.out.low hb5 HX2.out.lt)
          have HR5 := Lib.hid (HR2.out.low hb5 HR2.out.lt)
          have HB5 := Lib.hid (HB2.out.trans (hb5.mono HB2.out.size))
          have p4 := HX5.out.cell 4
          simp only [List.getElem?_cons_zero, List.getElem?_cons_succ] at p4
          have hlo : loanB P.op = lonB P := rfl
          rw [hlo]
          clear hlo hb5 c0 c1 c2 c3 c4
          cases hlb : lonB P
          · have HSV : Hid (∀ e, r.testBit e = aftP ts pts k P (stP ns k) e) := Lib.hid fun e => by
              rw [HRB.out, HOB.out, HKB.out, HHA.out]
              unfold aftP stP
              rw [hlb]; simp
            obtain ⟨sv, rfl⟩ : ∃ sv, sv = r := ⟨_, rfl⟩
            clear hlb
            go_wp2_with fail
            have HSND : Hid (∀ kk ∈ P.next, ∀ e, sv.testBit e = true → Pld ts pts kk e) := Lib.hid fun kk hkk e he => Pld.aft (b := stP ns k) (HFX.out.snd k) HPG.out hkk (by rw [← HSV.out]; exact he)
            generalize hnx : P.next = nx at *
            have HNXE := Lib.hid hnx
            clear hnx p4
            obtain ⟨wo, rfl⟩ : ∃ wo : World, wo = wr := ⟨_, rfl⟩
            go_loopw [4, 49] (fun c i wy => ∃ (d : Bool) (j : Nat) (ns2 : List Nat), c = .bool d ∧ i = .int .i64 j ∧ j ≤ nx.length ∧ RowB wy w.heap.size 72 (uv ns2) ∧ PlI ts pts ns2 ∧ (d = true → muP pts.length ns2 < muP pts.length ms) ∧ (d = false → (bc = false ∧ ns2 = ns) ∧ ∀ kk ∈ nx.take j, ns.getD kk 0 ||| sv = ns.getD kk 0) ∧ Below w.heap.size w wy) (fun _ i _ => nx.length - (intOf i).toNat)
            case atStart => exact ⟨bc, 0, ns, rfl, rfl, by omega, HR5.out, HFX.out, HMX.out, fun h => ⟨⟨h, rfl⟩, fun kk hkk => by simp at hkk⟩, HB5.out⟩
            case round =>
              obtain ⟨d, j, ns2, rfl, rfl, hj, hry, hfy, hmy, hcy, hby⟩ := hrel
              have HRY := Lib.hid hry
              have HFY := Lib.hid hfy
              have HMY := Lib.hid hmy
              have HCY := Lib.hid hcy
              have HBY := Lib.hid hby
              have HLY := Lib.hid hfy.len
              have hszy := hby.size
              clear hry hfy hmy hcy
              by_cases hjl : j < nx.length
              · obtain ⟨An', cn', en, -, -, hrd⟩ := HNX.out.low hby hB
                simp only [List.length_map] at en
                injection en with e1 e9 e2
                subst e1 e2
                clear e9 hby
                obtain ⟨bn, on, rfl, hbn, hcn2⟩ := hrd.int_at (k := j) (by simpa using hjl)
                have hcj := hcn2 j (by simpa using hjl)
                rw [getD_lt (by simpa using hjl), List.getElem_map] at hcj
                have HMEM := Lib.hid (List.getElem_mem hjl)
                have HT := Lib.hid (take_succ_get nx j hjl)
                generalize nx[j] = kk at *
                have hkk : kk < pts.length := HNK.out kk HMEM.out
                have hku : kk < ns2.length := by rw [HLY.out]; exact hkk
                obtain ⟨a2, ha2⟩ : ∃ a, a = ns2.getD kk 0 := ⟨_, rfl⟩
                have ha264 : a2 < top64 := by rw [ha2]; exact getD_small HFY.out.small _
                have hck := HRY.out.cell kk
                rw [uv_get hku, ← ha2] at hck
                have hfr := HRY.out.frozen kk
                obtain ⟨r2, hr2⟩ : ∃ r2, r2 = a2 ||| sv := ⟨_, rfl⟩
                have hor : bits .or .u64 (a2 : Int) (sv : Int) = ((r2 : Nat) : Int) := by rw [hr2]; exact or_u64 ha264 hr64
                have HA2 := Lib.hid ha2
                have HR2 := Lib.hid hr2
                clear ha2 hr2 ha264 hcn2 hrd
                by_cases hra : r2 = a2
                · subst hra
                  go_wp2_with fail
                  go_quiet (fail)
                  go_wp2_with fail
                  refine ⟨⟨d, j + 1, ns2, rfl, by go_num, by omega, HRY.out, HFY.out, HMY.out, fun h => ⟨(HCY.out h).1, fun k2 hk2 => ?_⟩, Below.drN HBY.out _⟩, by simp [intOf] <;> omega⟩
                  rw [HT.out, List.mem_append, List.mem_singleton] at hk2
                  rcases hk2 with hk2 | hk2
                  · exact (HCY.out h).2 k2 hk2
                  · rw [hk2, ← (HCY.out h).1.2, ← HA2.out, ← HR2.out]
                · have hne : ((r2 : Int) != (a2 : Int)) = true := by simp; omega
                  have HRA9 := Lib.hid hra
                  clear hra
                  go_wp2_with fail
                  go_quiet (fail)
                  go_wp2_with fail
                  have hmu1 := PlI.mu (n := pts.length) HLY.out HFY.out.small hkk hr64 (by rw [← HA2.out, ← HR2.out]; exact HRA9.out)
                  have hup := HFY.out.upd hkk hr64 (HSND.out kk HMEM.out)
                  rw [← HA2.out, ← HR2.out] at hmu1 hup
                  refine ⟨⟨true, j + 1, ns2.set kk r2, rfl, by go_num, by omega, by rw [← uv_set]; exact HRY.out.set_ _ _, hup, fun _ => ?_, fun h => (by cases h), ?_⟩, by simp [intOf] <;> omega⟩
                  · cases d
                    · obtain ⟨⟨e1, e2⟩, _⟩ := HCY.out rfl
                      have e4 := (HCX.out e1).1
                      rw [← e4, ← e2]
                      exact hmu1
                    · exact Nat.lt_trans hmu1 (HMY.out rfl)
                  · exact (Below.drN HBY.out _).setCell (p := ⟨w.heap.size, kk, none⟩) (Nat.le_refl _) _
              · have hje : j = nx.length := by omega
                have HEE : Hid (d = false → ns2 = ms ∧ ∀ i, i < k + 1 → ClP ts pts ms i) := Lib.hid fun h => by
                  obtain ⟨⟨e1, e2⟩, e3⟩ := HCY.out h
                  obtain ⟨e4, e5⟩ := HCX.out e1
                  refine ⟨e2.trans e4, fun i hi => ?_⟩
                  by_cases hik : i < k
                  · exact e5 i hik
                  · have hik2 : i = k := by omega
                    subst hik2
                    intro p hp kk hkk e he
                    rw [HPG.out] at hp
                    injection hp with hp
                    subst hp
                    rw [HNXE.out] at hkk
                    rw [hje, List.take_length] at e3
                    rw [← e4] at he ⊢
                    rw [← HSV.out] at he
                    exact or_bits.1 (e3 kk hkk) e he
                clear hje
                go_wp2_with fail
                exact ⟨⟨d, k + 1, ns2, rfl, by go_num, by omega, HRY.out, HFY.out, HMY.out, HEE.out, HBY.out⟩, by simp [intOf] <;> omega⟩
          · obtain ⟨pk, hpk⟩ : ∃ m : Nat, m = 2 ^ k := ⟨_, rfl⟩
            have hpk64 : pk < top64 := by rw [hpk]; exact one_shl (by omega)
            have hpw : IntKind.u64.wrap (2 ^ k) = (pk : Int) := by rw [hpk]; exact pow_u64 (k := k) (by omega)
            obtain ⟨sv, hsv⟩ : ∃ sv, sv = r ||| pk := ⟨_, rfl⟩
            have hor : bits .or .u64 (r : Int) (pk : Int) = ((sv : Nat) : Int) := by rw [hsv]; exact or_u64 hr64 hpk64
            have HSV : Hid (∀ e, sv.testBit e = aftP ts pts k P (stP ns k) e) := Lib.hid fun e => by
              rw [hsv, Nat.testBit_or, hpk, pow_bit, HRB.out, HOB.out, HKB.out, HHA.out]
              unfold aftP stP
              rw [hlb]; simp
            have hr64o := hr64
            clear hr64
            have hr64 : sv < top64 := by rw [hsv]; exact or_top hr64o hpk64
            clear hlb hpk hsv
            go_wp2_with fail
            clear hor hpw
            have HSND : Hid (∀ kk ∈ P.next, ∀ e, sv.testBit e = true → Pld ts pts kk e) := Lib.hid fun kk hkk e he => Pld.aft (b := stP ns k) (HFX.out.snd k) HPG.out hkk (by rw [← HSV.out]; exact he)
            generalize hnx : P.next = nx at *
            have HNXE := Lib.hid hnx
            clear hnx p4
            obtain ⟨wo, rfl⟩ : ∃ wo : World, wo = wr := ⟨_, rfl⟩
            go_loopw [4, 49] (fun c i wy => ∃ (d : Bool) (j : Nat) (ns2 : List Nat), c = .bool d ∧ i = .int .i64 j ∧ j ≤ nx.length ∧ RowB wy w.heap.size 72 (uv ns2) ∧ PlI ts pts ns2 ∧ (d = true → muP pts.length ns2 < muP pts.length ms) ∧ (d = false → (bc = false ∧ ns2 = ns) ∧ ∀ kk ∈ nx.take j, ns.getD kk 0 ||| sv = ns.getD kk 0) ∧ Below w.heap.size w wy) (fun _ i _ => nx.length - (intOf i).toNat)
            case atStart => exact ⟨bc, 0, ns, rfl, rfl, by omega, HR5.out, HFX.out, HMX.out, fun h => ⟨⟨h, rfl⟩, fun kk hkk => by simp at hkk⟩, HB5.out⟩
            case round =>
              obtain ⟨d, j, ns2, rfl, rfl, hj, hry, hfy, hmy, hcy, hby⟩ := hrel
              have HRY := Lib.hid hry
              have HFY := Lib.hid hfy
              have HMY := Lib.hid hmy
              have HCY := Lib.hid hcy
              have HBY := Lib.hid hby
              have HLY := Lib.hid hfy.len
              have hszy := hby.size
              clear hry hfy hmy hcy
              by_cases hjl : j < nx.length
              · obtain ⟨An', cn', en, -, -, hrd⟩ := HNX.out.low hby hB
                simp only [List.length_map] at en
                injection en with e1 e9 e2
                subst e1 e2
                clear e9 hby
                obtain ⟨bn, on, rfl, hbn, hcn2⟩ := hrd.int_at (k := j) (by simpa using hjl)
                have hcj := hcn2 j (by simpa using hjl)
                rw [getD_lt (by simpa using hjl), List.getElem_map] at hcj
                have HMEM := Lib.hid (List.getElem_mem hjl)
                have HT := Lib.hid (take_succ_get nx j hjl)
                generalize nx[j] = kk at *
                have hkk : kk < pts.length := HNK.out kk HMEM.out
                have hku : kk < ns2.length := by rw [HLY.out]; exact hkk
                obtain ⟨a2, ha2⟩ : ∃ a, a = ns2.getD kk 0 := ⟨_, rfl⟩
                have ha264 : a2 < top64 := by rw [ha2]; exact getD_small HFY.out.small _
                have hck := HRY.out.cell kk
                rw [uv_get hku, ← ha2] at hck
                have hfr := HRY.out.frozen kk
                obtain ⟨r2, hr2⟩ : ∃ r2, r2 = a2 ||| sv := ⟨_, rfl⟩
                have hor : bits .or .u64 (a2 : Int) (sv : Int) = ((r2 : Nat) : Int) := by rw [hr2]; exact or_u64 ha264 hr64
                have HA2 := Lib.hid ha2
                have HR2 := Lib.hid hr2
                clear ha2 hr2 ha264 hcn2 hrd
                by_cases hra : r2 = a2
                · subst hra
                  go_wp2_with fail
                  go_quiet (fail)
                  go_wp2_with fail
                  refine ⟨⟨d, j + 1, ns2, rfl, by go_num, by omega, HRY.out, HFY.out, HMY.out, fun h => ⟨(HCY.out h).1, fun k2 hk2 => ?_⟩, Below.drN HBY.out _⟩, by simp [intOf] <;> omega⟩
                  rw [HT.out, List.mem_append, List.mem_singleton] at hk2
                  rcases hk2 with hk2 | hk2
                  · exact (HCY.out h).2 k2 hk2
                  · rw [hk2, ← (HCY.out h).1.2, ← HA2.out, ← HR2.out]
                · have hne : ((r2 : Int) != (a2 : Int)) = true := by simp; omega
                  have HRA9 := Lib.hid hra
                  clear hra
                  go_wp2_with fail
                  go_quiet (fail)
                  go_wp2_with fail
                  have hmu1 := PlI.mu (n := pts.length) HLY.out HFY.out.small hkk hr64 (by rw [← HA2.out, ← HR2.out]; exact HRA9.out)
                  have hup := HFY.out.upd hkk hr64 (HSND.out kk HMEM.out)
                  rw [← HA2.out, ← HR2.out] at hmu1 hup
                  refine ⟨⟨true, j + 1, ns2.set kk r2, rfl, by go_num, by omega, by rw [← uv_set]; exact HRY.out.set_ _ _, hup, fun _ => ?_, fun h => (by cases h), ?_⟩, by simp [intOf] <;> omega⟩
                  · cases d
                    · obtain ⟨⟨e1, e2⟩, _⟩ := HCY.out rfl
                      have e4 := (HCX.out e1).1
                      rw [← e4, ← e2]
                      exact hmu1
                    · exact Nat.lt_trans hmu1 (HMY.out rfl)
                  · exact (Below.drN HBY.out _).setCell (p := ⟨w.heap.size, kk, none⟩) (Nat.le_refl _) _
              · have hje : j = nx.length := by omega
                have HEE : Hid (d = false → ns2 = ms ∧ ∀ i, i < k + 1 → ClP ts pts ms i) := Lib.hid fun h => by
                  obtain ⟨⟨e1, e2⟩, e3⟩ := HCY.out h
                  obtain ⟨e4, e5⟩ := HCX.out e1
                  refine ⟨e2.trans e4, fun i hi => ?_⟩
                  by_cases hik : i < k
                  · exact e5 i hik
                  · have hik2 : i = k := by omega
                    subst hik2
                    intro p hp kk hkk e he
                    rw [HPG.out] at hp
                    injection hp with hp
                    subst hp
                    rw [HNXE.out] at hkk
                    rw [hje, List.take_length] at e3
                    rw [← e4] at he ⊢
                    rw [← HSV.out] at he
                    exact or_bits.1 (e3 kk hkk) e he
                clear hje
                go_wp2_with fail
                exact ⟨⟨d, k + 1, ns2, rfl, by go_num, by omega, HRY.out, HFY.out, HMY.out, HEE.out, HBY.out⟩, by simp [intOf] <;> omega⟩
        · have hkl : k = pts.length := by omega
          have HCE : Hid (bc = false → ns = ms ∧ ∀ i, i < pts.length → ClP ts pts ms i) := Lib.hid (by rw [← hkl]; exact HCX.out)
          clear hkl
          go_wp2_with fail
          cases bc
          · obtain ⟨e1, e2⟩ := HCE.out rfl
            go_roundg 0
            case measure => have := HMU.out (by simp); omega
            case rel => exact ⟨false, ns, rfl, HRX.out, HFX.out, fun h => (by cases h), fun _ i hi => (by rw [e1]; exact e2 i hi), hbx⟩
          · go_roundg (muP pts.length ns + 1)
            case measure => have := HMU.out (by simp); have := HMX.out rfl; omega
            case rel => exact ⟨true, ns, rfl, HRX.out, HFX.out, fun _ => (by omega), fun h => (by cases h), hbx⟩

set_option maxHeartbeats 4000000 in
set_option maxRecDepth 100000 in
theorem kept_any (vg : Value) (ts : List Int) (pts : List Pt) (B : Nat) (w : World) (hg : GrS w B vg ts pts) (hB : B ≤ w.heap.size) (gd : Good ts pts) (k : Nat) (hk : k < pts.length) (live : Nat) (hlv : live < 64) (a0 a1 a2 a3 a4 a5 : Nat) (hA : ∀ u, u < 6 → ([a0, a1, a2, a3, a4, a5] : List Nat).getD u 0 < top64) :
    Calls Try.prog 91 #[vg, .int .i64 (k : Nat), .int .i64 (live : Nat), .agg #[.int .u64 (a0 : Nat), .int .u64 (a1 : Nat), .int .u64 (a2 : Nat), .int .u64 (a3 : Nat), .int .u64 (a4 : Nat), .int .u64 (a5 : Nat)]] w fun e w' => ∃ s : Nat, e = .returned (.int .u64 (s : Nat)) ∧ s < top64 ∧
      (∀ e, s.testBit e = true ↔ ∃ v, v < 6 ∧ (andn live (takenP ts pts[k].op pts[k].x pts[k].y ||| setBitP pts[k].op pts[k].x)).testBit v = true ∧ (([a0, a1, a2, a3, a4, a5] : List Nat).getD v 0).testBit e = true) ∧ Below w.heap.size w w' := by
  have HG := Lib.hid hg
  have HA := Lib.hid hA
  have h6 := gd.h6
  have hpl := gd.len
  have HSK := Lib.hid ((gd.ok _ (List.getElem_mem hk)).sets)
  clear hA gd
  obtain ⟨g, At, ct, vb, Al, cl, rfl, hgB, g0, g1, g2, ht, hp, htl, hpl'⟩ := hg.open_
  obtain ⟨b, off, c, nv, e, hb, hc, hl, hnx, z0, z1, z2, z3, z4⟩ := hp.get hk
  injection e with e1 e9 e2
  subst e1 e2
  clear e9
  have hbB : b < w.heap.size := by omega
  have hgw : g < w.heap.size := by omega
  obtain ⟨An, cn, rfl, hcn, hln, -⟩ := hnx
  simp only [List.length_map] at hcn hln z4
  generalize pts[k] = P at *
  have hsw : ((w.alloc (.cells #[.int .u64 (a0 : Nat), .int .u64 (a1 : Nat), .int .u64 (a2 : Nat), .int .u64 (a3 : Nat), .int .u64 (a4 : Nat), .int .u64 (a5 : Nat)] 74)).alloc (.cells #[.int .i64 P.op, .int .i64 P.x, .int .i64 P.y, .int .i64 P.n, .slice An P.next.length cn] 62)).heap.size = w.heap.size + 2 := by simp
  have HRF : Hid (RowB ((w.alloc (.cells #[.int .u64 (a0 : Nat), .int .u64 (a1 : Nat), .int .u64 (a2 : Nat), .int .u64 (a3 : Nat), .int .u64 (a4 : Nat), .int .u64 (a5 : Nat)] 74)).alloc (.cells #[.int .i64 P.op, .int .i64 P.x, .int .i64 P.y, .int .i64 P.n, .slice An P.next.length cn] 62)) w.heap.size 74 (uv [a0, a1, a2, a3, a4, a5])) := Lib.hid ((RowB.new w (uv [a0, a1, a2, a3, a4, a5]) 74).alloc (.cells #[.int .i64 P.op, .int .i64 P.x, .int .i64 P.y, .int .i64 P.n, .slice An P.next.length cn] 62))
  have HX0 : Hid (RowB ((w.alloc (.cells #[.int .u64 (a0 : Nat), .int .u64 (a1 : Nat), .int .u64 (a2 : Nat), .int .u64 (a3 : Nat), .int .u64 (a4 : Nat), .int .u64 (a5 : Nat)] 74)).alloc (.cells #[.int .i64 P.op, .int .i64 P.x, .int .i64 P.y, .int .i64 P.n, .slice An P.next.length cn] 62)) (w.heap.size + 1) 62 [.int .i64 P.op, .int .i64 P.x, .int .i64 P.y, .int .i64 P.n, .slice An P.next.length cn]) := Lib.hid (by
    have h := RowB.new (w.alloc (.cells #[.int .u64 (a0 : Nat), .int .u64 (a1 : Nat), .int .u64 (a2 : Nat), .int .u64 (a3 : Nat), .int .u64 (a4 : Nat), .int .u64 (a5 : Nat)] 74)) [.int .i64 P.op, .int .i64 P.x, .int .i64 P.y, .int .i64 P.n, .slice An P.next.length cn] 62
    rw [show (w.alloc (.cells #[.int .u64 (a0 : Nat), .int .u64 (a1 : Nat), .int .u64 (a2 : Nat), .int .u64 (a3 : Nat), .int .u64 (a4 : Nat), .int .u64 (a5 : Nat)] 74)).heap.size = w.heap.size + 1 by simp] at h
    exact h)
  have HB0 : Hid (Below w.heap.size w ((w.alloc (.cells #[.int .u64 (a0 : Nat), .int .u64 (a1 : Nat), .int .u64 (a2 : Nat), .int .u64 (a3 : Nat), .int .u64 (a4 : Nat), .int .u64 (a5 : Nat)] 74)).alloc (.cells #[.int .i64 P.op, .int .i64 P.x, .int .i64 P.y, .int .i64 P.n, .slice An P.next.length cn] 62))) := Lib.hid ((bel_a w _).alloc (by simp) _)
  have htk := takenP_lt h6 P.op P.x P.y
  have hsb64 : setBitP P.op P.x < 64 := setBitP_lt (by have := HSK.out; omega)
  obtain ⟨u, hu⟩ : ∃ u, u = takenP ts P.op P.x P.y ||| setBitP P.op P.x := ⟨_, rfl⟩
  have hu64 : u < 64 := by rw [hu]; exact Nat.or_lt_two_pow (n := 6) htk hsb64
  have hor : bits .or .i64 (takenP ts P.op P.x P.y : Nat) (setBitP P.op P.x : Nat) = ((u : Nat) : Int) := by rw [hu]; exact or_small htk hsb64
  obtain ⟨mk, hmk⟩ : ∃ mk, mk = andn live u := ⟨_, rfl⟩
  have hmk64 : mk < 64 := by rw [hmk]; exact andn_lt _ _
  have han : bits .andNot .i64 (live : Int) (u : Int) = ((mk : Nat) : Int) := by rw [hmk]; exact andn_small hlv hu64
  rw [← hu, ← hmk]
  clear hu hmk
  go_enter Try.func91, Try.ntmps91
  go_wp2_with fail
  generalize (w.alloc (.cells #[.int .u64 (a0 : Nat), .int .u64 (a1 : Nat), .int .u64 (a2 : Nat), .int .u64 (a3 : Nat), .int .u64 (a4 : Nat), .int .u64 (a5 : Nat)] 74)).alloc (.cells #[.int .i64 P.op, .int .i64 P.x, .int .i64 P.y, .int .i64 P.n, .slice An P.next.length cn] 62) = w1 at *
  have p0 := HX0.out.cell 0
  have p1 := HX0.out.cell 1
  have p2 := HX0.out.cell 2
  have p3 := HX0.out.cell 3
  have p4 := HX0.out.cell 4
  simp only [List.getElem?_cons_zero, List.getElem?_cons_succ] at p0 p1 p2 p3 p4
  have hxl : w.heap.size + 1 < w1.heap.size := by omega
  have BEL : Hid (∀ w', w'.cell? ⟨w.heap.size + 1, 0, none⟩ = some (.int .i64 P.op) ∧ w'.cell? ⟨w.heap.size + 1, 1, none⟩ = some (.int .i64 P.x) ∧ w'.cell? ⟨w.heap.size + 1, 2, none⟩ = some (.int .i64 P.y) ∧ w'.cell? ⟨w.heap.size + 1, 3, none⟩ = some (.int .i64 P.n) ∧ w'.cell? ⟨w.heap.size + 1, 4, none⟩ = some (.slice An P.next.length cn) ∧ Below w1.heap.size w1 w' → Below w1.heap.size w1 w') := Lib.hid fun _ h => h.2.2.2.2.2
  clear z0 z1 z2 z3 z4 g0 g1 g2 ht hp
  refine wp_region_held_drew (S := (fun w' => w'.cell? ⟨w.heap.size + 1, 0, none⟩ = some (.int .i64 P.op) ∧ w'.cell? ⟨w.heap.size + 1, 1, none⟩ = some (.int .i64 P.x) ∧ w'.cell? ⟨w.heap.size + 1, 2, none⟩ = some (.int .i64 P.y) ∧ w'.cell? ⟨w.heap.size + 1, 3, none⟩ = some (.int .i64 P.n) ∧ w'.cell? ⟨w.heap.size + 1, 4, none⟩ = some (.slice An P.next.length cn) ∧ Below w1.heap.size w1 w')) (by kernel_rfl) ?_ (fun hHeld => ?_)
  · exact ⟨p0, p1, p2, p3, p4, (Below.refl _ _).drew⟩
  refine wpAnyH_take (i := 0) (oi := ⟨some 20, _, _, _, _, _⟩) (v := ?_) rfl (by kernel_rfl) (by kernel_rfl) (by kernel_rfl) (fun _ _ _ h => h) (Or.inl ⟨by rfl, fun w' hSw => ?_⟩) (by assumption) ?_
  rotate_left
  · (try dsimp only at hSw); go_simp; (try with_reducible rfl)
  (try simp only [Act.put, List.setIfInBounds_toArray, List.set_cons_zero, List.set_cons_succ])
  refine wpAnyH_take (i := 1) (oi := ⟨some 21, _, _, _, _, _⟩) (v := ?_) rfl (by kernel_rfl) (by kernel_rfl) (by kernel_rfl) (fun _ _ _ h => h) (Or.inl ⟨by rfl, fun w' hSw => ?_⟩) (by assumption) ?_
  rotate_left
  · (try dsimp only at hSw); go_simp; (try with_reducible rfl)
  (try simp only [Act.put, List.setIfInBounds_toArray, List.set_cons_zero, List.set_cons_succ])
  refine wpAnyH_take (i := 2) (oi := ⟨some 22, _, _, _, _, _⟩) (v := ?_) rfl (by kernel_rfl) (by kernel_rfl) (by kernel_rfl) (fun _ _ _ h => h) (Or.inl ⟨by rfl, fun w' hSw => ?_⟩) (by assumption) ?_
  rotate_left
  · (try dsimp only at hSw); go_simp; (try with_reducible rfl)
  (try simp only [Act.put, List.setIfInBounds_toArray, List.set_cons_zero, List.set_cons_succ])
  refine wpAnyH_take (i := 4) (oi := ⟨some 24, _, _, _, _, _⟩) (v := ?_) rfl (by kernel_rfl) (by kernel_rfl) (by kernel_rfl) (fun _ _ _ h => h) (Or.inl ⟨by rfl, fun w' hSw => ?_⟩) (by assumption) ?_
  rotate_left
  · (try dsimp only at hSw); go_simp; (try with_reducible rfl)
  (try simp only [Act.put, List.setIfInBounds_toArray, List.set_cons_zero, List.set_cons_succ])
  refine wpAnyH_take (i := 10) (oi := ⟨some 30, _, _, _, _, _⟩) (v := ?_) rfl (by kernel_rfl) (by kernel_rfl) (by kernel_rfl) (fun _ _ _ h => h) (Or.inl ⟨by rfl, fun w' hSw => ?_⟩) (by assumption) ?_
  rotate_left
  · (try dsimp only at hSw); go_simp; (try with_reducible rfl)
  (try simp only [Act.put, List.setIfInBounds_toArray, List.set_cons_zero, List.set_cons_succ])
  refine wpAnyH_ready (rs := [3]) (by kernel_rfl) (by simp) ?_
  refine AllReadyH.cons (o := ⟨some 23, _, _, _, _, _⟩) rfl (fun K hK => ?_) AllReadyH.nil
  go_simp
  (refine (taken_any _ ts pts B _ _ _ _ _ _ (HG.out.low (HB0.out.trans ((BEL.out _ (by assumption)).mono HB0.out.size)) hB) (by have := (BEL.out _ (by assumption)).size; omega) h6).mono ?_)
  (rintro e w2 ⟨rfl, hb2⟩)
  (have BX5 := Lib.hid ((BEL.out _ (by assumption)).trans (hb2.mono (BEL.out _ (by assumption)).size)))
  clear hb2
  go_simp
  refine hK.out _ _ ?_ (fun hHeld => ?_)
  · exact ⟨belC BX5.out p0 hxl, belC BX5.out p1 hxl, belC BX5.out p2 hxl, belC BX5.out p3 hxl, belC BX5.out p4 hxl, BX5.out⟩
  clear hK K
  (try simp only [Act.put, List.setIfInBounds_toArray, List.set_cons_zero, List.set_cons_succ])
  refine wpAnyH_ready (rs := [5]) (by kernel_rfl) (by simp) ?_
  refine AllReadyH.cons (o := ⟨some 25, _, _, _, _, _⟩) rfl (fun K hK => ?_) AllReadyH.nil
  go_simp
  (refine (setBit_any _ _ _ _ _ _ (by have := HSK.out; omega)).mono ?_)
  (rintro e w3 ⟨rfl, hb3⟩)
  (have BX6 := Lib.hid ((BEL.out _ (by assumption)).trans (hb3.mono (BEL.out _ (by assumption)).size)))
  clear hb3
  go_simp
  refine hK.out _ _ ?_ (fun hHeld => ?_)
  · exact ⟨belC BX6.out p0 hxl, belC BX6.out p1 hxl, belC BX6.out p2 hxl, belC BX6.out p3 hxl, belC BX6.out p4 hxl, BX6.out⟩
  clear hK K
  (try simp only [Act.put, List.setIfInBounds_toArray, List.set_cons_zero, List.set_cons_succ])
  refine wpAnyH_take (i := 6) (oi := ⟨some 26, _, _, _, _, _⟩) (v := ?_) rfl (by kernel_rfl) (by kernel_rfl) (by kernel_rfl) (fun _ _ _ h => h) (Or.inl ⟨by rfl, fun w' hSw => ?_⟩) (by assumption) ?_
  rotate_left
  · (try dsimp only at hSw); go_simp; (try with_reducible rfl)
  (try simp only [Act.put, List.setIfInBounds_toArray, List.set_cons_zero, List.set_cons_succ])
  refine wpAnyH_take (i := 7) (oi := ⟨some 27, _, _, _, _, _⟩) (v := ?_) rfl (by kernel_rfl) (by kernel_rfl) (by kernel_rfl) (fun _ _ _ h => h) (Or.inl ⟨by rfl, fun w' hSw => ?_⟩) (by assumption) ?_
  rotate_left
  · (try dsimp only at hSw); go_simp; (try with_reducible rfl)
  (try simp only [Act.put, List.setIfInBounds_toArray, List.set_cons_zero, List.set_cons_succ])
  refine wpAnyH_ready (rs := [8]) (by kernel_rfl) (by simp) ?_
  refine AllReadyH.cons (o := ⟨some 28, _, _, _, _, _⟩) rfl (fun K hK => ?_) AllReadyH.nil
  go_simp
  (refine (bits_own mk hmk64 _).mono ?_)
  (rintro e w4 ⟨v4, rfl, ho4, hb4⟩)
  (have BX7 := Lib.hid ((BEL.out _ (by assumption)).trans (hb4.mono (BEL.out _ (by assumption)).size)))
  (have HO4 := Lib.hid (ho4.base (base' := w1.heap.size) (BEL.out _ (by assumption)).size))
  (obtain ⟨A4, c4, rfl, hc4⟩ := ho4.slice)
  clear hb4 ho4 BX5 BX6
  go_simp
  refine hK.out _ _ ?_ (fun hHeld => ?_)
  · exact ⟨belC BX7.out p0 hxl, belC BX7.out p1 hxl, belC BX7.out p2 hxl, belC BX7.out p3 hxl, belC BX7.out p4 hxl, BX7.out⟩
  clear hK K
  (try simp only [Act.put, List.setIfInBounds_toArray, List.set_cons_zero, List.set_cons_succ])
  refine wpAnyH_take (i := 9) (oi := ⟨some 29, _, _, _, _, _⟩) (v := ?_) rfl (by kernel_rfl) (by kernel_rfl) (by kernel_rfl) (fun _ _ _ h => h) (Or.inl ⟨by rfl, fun w' hSw => ?_⟩) (by assumption) ?_
  rotate_left
  · (try dsimp only at hSw); go_simp; (try with_reducible rfl)
  (try simp only [Act.put, List.setIfInBounds_toArray, List.set_cons_zero, List.set_cons_succ])
  refine wpAnyH_done (by kernel_rfl) ?_ _
  have HL6 : Hid (∀ j, j < (lst 6 mk.testBit).length → ∃ e : Nat, e < 6 ∧ (lst 6 mk.testBit).getD j 0 = (e : Nat)) := Lib.hid fun j hj => by
    have := List.getElem_mem hj
    obtain ⟨e, he, _, h2⟩ := lst_mem.1 this
    exact ⟨e, he, by rw [getD_lt hj]; exact h2⟩
  have HM6 : Hid (∀ u : Nat, u < 6 → (((u : Nat) : Int) ∈ lst 6 mk.testBit ↔ mk.testBit u = true)) := Lib.hid fun u hu => by
    rw [lst_mem]
    exact ⟨fun ⟨e, _, h2, h3⟩ => by have : e = u := by omega
                                    subst this; exact h2, fun h => ⟨u, hu, h, rfl⟩⟩
  have hll6 := lst_len 6 mk.testBit
  generalize lst 6 mk.testBit = bl at *
  have HRF4 := Lib.hid (HRF.out.low BX7.out HRF.out.lt)
  have HB4 := Lib.hid (HB0.out.trans (BX7.out.mono HB0.out.size))
  clear p0 p1 p2 p3 p4 HX0 HRF BEL hor han
  go_wp2_with fail
  go_loopw [10, 30] (fun c i wr => ∃ (j s : Nat), j ≤ bl.length ∧ c = .int .u64 (s : Nat) ∧ i = .int .i64 j ∧ s < top64 ∧ (∀ e, s.testBit e = true ↔ ∃ v : Nat, v < 6 ∧ ((v : Nat) : Int) ∈ bl.take j ∧ (([a0, a1, a2, a3, a4, a5] : List Nat).getD v 0).testBit e = true) ∧ w4 = wr) (fun _ i _ => bl.length - (intOf i).toNat)
  case atStart => exact ⟨0, 0, Nat.zero_le _, rfl, rfl, Nat.two_pow_pos _, fun e => by simp, rfl⟩
  case round =>
    obtain ⟨j, s, hj, rfl, rfl, hs64, hsb, rfl⟩ := hrel
    have HSB := Lib.hid hsb
    clear hsb
    by_cases hjl : j < bl.length
    · obtain ⟨gb, rfl, hgb1, hgb2, e9, hcj⟩ := HO4.out.at_ hjl
      clear e9
      obtain ⟨e, he6, hee⟩ := HL6.out j hjl
      rw [hee] at hcj
      have HT := Lib.hid (take_succ_get bl j hjl)
      have HBJ : Hid (bl[j] = (e : Nat)) := Lib.hid (by rw [getD_lt hjl] at hee; exact hee)
      obtain ⟨fy, hfy⟩ : ∃ fy, fy = ([a0, a1, a2, a3, a4, a5] : List Nat).getD e 0 := ⟨_, rfl⟩
      have hfy64 : fy < top64 := by rw [hfy]; exact HA.out _ he6
      have hcf := HRF4.out.cell e
      rw [uv_get (by simpa using he6), ← hfy] at hcf
      obtain ⟨r, hr⟩ : ∃ r, r = s ||| fy := ⟨_, rfl⟩
      have hor : bits .or .u64 (s : Int) (fy : Int) = ((r : Nat) : Int) := by rw [hr]; exact or_u64 hs64 hfy64
      have hr64 : r < top64 := by rw [hr]; exact or_top hs64 hfy64
      have HR := Lib.hid hr
      have HFY := Lib.hid hfy
      clear hee hr hfy
      go_wp2_with fail
      refine ⟨⟨j + 1, r, by omega, rfl, by go_num, hr64, fun i => ?_, trivial⟩, by simp [intOf] <;> omega⟩
      rw [HR.out, Nat.testBit_or, Bool.or_eq_true, HSB.out, HT.out]
      constructor
      · rintro (⟨v, h1, h2, h3⟩ | h)
        · exact ⟨v, h1, List.mem_append_left _ h2, h3⟩
        · exact ⟨e, he6, by rw [HBJ.out]; simp, by rw [← HFY.out]; exact h⟩
      · rintro ⟨v, h1, h2, h3⟩
        rw [List.mem_append, List.mem_singleton, HBJ.out] at h2
        rcases h2 with h2 | h2
        · exact .inl ⟨v, h1, h2, h3⟩
        · have : v = e := by omega
          subst this
          right; rw [HFY.out]; exact h3
    · have hje : j = bl.length := by omega
      have HFIN : Hid (∀ e, s.testBit e = true ↔ ∃ v, v < 6 ∧ mk.testBit v = true ∧ (([a0, a1, a2, a3, a4, a5] : List Nat).getD v 0).testBit e = true) := Lib.hid fun e => by
        rw [HSB.out e, hje, List.take_length]
        exact ⟨fun ⟨v, h1, h2, h3⟩ => ⟨v, h1, (HM6.out v h1).1 h2, h3⟩, fun ⟨v, h1, h2, h3⟩ => ⟨v, h1, (HM6.out v h1).2 h2, h3⟩⟩
      clear hje
      go_wp2_with fail
      go_ret
      exact ⟨s, rfl, hs64, HFIN.out, HB4.out⟩
end Go.Proofs.Ytfioaohadanjmaa
