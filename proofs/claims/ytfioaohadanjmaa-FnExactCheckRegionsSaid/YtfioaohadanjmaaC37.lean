import Derived.Test.YtfioaohadanjmaaC36
import Derived.Test.YtfioaohadanjmaaC19
import Derived.Test.YtfioaohadanjmaaC27
import Derived.Test.YtfioaohadanjmaaC13
import Derived.StillTailTactics
import Derived.Test.YtfioaohadanjmaaC21
set_option linter.unusedVariables false

/- Regions: impl.graph.regions, impl.RegionOf. -/
namespace Go.Proofs.Ytfioaohadanjmaa
open Go.RowKit

/-- what regions answers: six numbers, the least regions -/
def RegRet (w : World) (ts : List Int) (pts : List Pt) (e : Ending) (w' : World) : Prop :=
  ∃ b0 b1 b2 b3 b4 b5 : Nat, e = .returned (.agg #[.int .u64 (b0 : Nat), .int .u64 (b1 : Nat), .int .u64 (b2 : Nat), .int .u64 (b3 : Nat), .int .u64 (b4 : Nat), .int .u64 (b5 : Nat)]) ∧ ReI (bds ts pts) [b0, b1, b2, b3, b4, b5] ∧ (∀ b ∈ bds ts pts, keepB (stP [b0, b1, b2, b3, b4, b5]) b) ∧ Below w.heap.size w w'
set_option maxHeartbeats 8000000 in
set_option maxRecDepth 100000 in
theorem regions_any (vg : Value) (ts : List Int) (pts : List Pt) (B : Nat) (w : World) (hg : GrS w B vg ts pts) (hB : B ≤ w.heap.size) (gd : Good ts pts) :
    Calls Try.prog 64 #[vg] w (RegRet w ts pts) := by
  have hpl := gd.len
  have h6 := gd.h6
  have HC : Hid (∀ w' : World, Below w.heap.size w w' → Calls Try.prog 105 #[vg] w' (BdRet w' (bds ts pts))) := Lib.hid fun w' h => bounds_any vg ts pts B w' (hg.low h hB) (Nat.le_trans hB h.size) gd
  have HOK := Lib.hid (bds_ok gd)
  have hbl : (bds ts pts).length ≤ 2 * pts.length := bdsL_len ts 0 pts
  clear hg gd
  unfold RegRet
  generalize bds ts pts = bs at *
  have HI := Lib.hid (ReI.init bs)
  have HRZ : Hid (RowB ((w.alloc (.cells #[.int .u64 0, .int .u64 0, .int .u64 0, .int .u64 0, .int .u64 0, .int .u64 0] 74)).alloc (.cells #[.int .u64 0, .int .u64 0, .int .u64 0, .int .u64 0, .int .u64 0, .int .u64 0] 74)) w.heap.size 74 (uv [0, 0, 0, 0, 0, 0])) := Lib.hid ((RowB.new w (uv [0, 0, 0, 0, 0, 0]) 74).alloc _)
  have HRO : Hid (RowB ((w.alloc (.cells #[.int .u64 0, .int .u64 0, .int .u64 0, .int .u64 0, .int .u64 0, .int .u64 0] 74)).alloc (.cells #[.int .u64 0, .int .u64 0, .int .u64 0, .int .u64 0, .int .u64 0, .int .u64 0] 74)) (w.heap.size + 1) 74 (uv [0, 0, 0, 0, 0, 0])) := Lib.hid (by
    have h := RowB.new (w.alloc (.cells #[.int .u64 0, .int .u64 0, .int .u64 0, .int .u64 0, .int .u64 0, .int .u64 0] 74)) (uv [0, 0, 0, 0, 0, 0]) 74
    rw [show (w.alloc (.cells #[.int .u64 0, .int .u64 0, .int .u64 0, .int .u64 0, .int .u64 0, .int .u64 0] 74)).heap.size = w.heap.size + 1 by simp] at h
    exact h)
  have HB2 : Hid (Below w.heap.size w ((w.alloc (.cells #[.int .u64 0, .int .u64 0, .int .u64 0, .int .u64 0, .int .u64 0, .int .u64 0] 74)).alloc (.cells #[.int .u64 0, .int .u64 0, .int .u64 0, .int .u64 0, .int .u64 0, .int .u64 0] 74))) := Lib.hid ((bel_a w _).alloc (by simp) _)
  go_enter Try.func64, Try.ntmps64
  go_wp2_with (at_builtin; fail)
  generalize (w.alloc (.cells #[.int .u64 0, .int .u64 0, .int .u64 0, .int .u64 0, .int .u64 0, .int .u64 0] 74)).alloc (.cells #[.int .u64 0, .int .u64 0, .int .u64 0, .int .u64 0, .int .u64 0, .int .u64 0] 74) = w2 at *
  go_loopg [4] (1 + muP 6 [0, 0, 0, 0, 0, 0]) (fun gk c wr => ∃ (b : Bool) (os : List Nat), c = .bool b ∧ RowB wr (w.heap.size + 1) 74 (uv os) ∧ RowB wr w.heap.size 74 (uv [0, 0, 0, 0, 0, 0]) ∧ ReI bs os ∧ (b = true → muP 6 os < gk) ∧ (b = false → ∀ x ∈ bs, keepB (stP os) x) ∧ Below w.heap.size w wr)
  case atStart => exact ⟨true, _, rfl, HRO.out, HRZ.out, HI.out, fun _ => by omega, fun h => (by cases h), HB2.out⟩
  case round =>
    obtain ⟨bc, os, rfl, hrw, hrz, hfw, hmu, hcl, hbr⟩ := hrel
    have HFW := Lib.hid hfw
    have HMU := Lib.hid hmu
    have HCL := Lib.hid hcl
    have HRW := Lib.hid hrw
    have HRY := Lib.hid hrz
    have HBR := Lib.hid hbr
    have hsz := hbr.size
    have hol := hfw.len
    have hrl := hrw.lt
    clear hfw hmu hcl hrw hrz hbr HRZ HRO HB2
    cases bc
    · obtain ⟨b0, b1, b2, b3, b4, b5, rfl⟩ := list6 hol
      have HCL2 := Lib.hid (HCL.out rfl)
      clear HCL HMU
      have c0 := HRW.out.cell 0
      have c1 := HRW.out.cell 1
      have c2 := HRW.out.cell 2
      have c3 := HRW.out.cell 3
      have c4 := HRW.out.cell 4
      have c5 := HRW.out.cell 5
      have d0 := HRY.out.cell 0
      have fr0 := HRY.out.frozen 0
      have d1 := HRY.out.cell 1
      have fr1 := HRY.out.frozen 1
      have d2 := HRY.out.cell 2
      have fr2 := HRY.out.frozen 2
      have d3 := HRY.out.cell 3
      have fr3 := HRY.out.frozen 3
      have d4 := HRY.out.cell 4
      have fr4 := HRY.out.frozen 4
      have d5 := HRY.out.cell 5
      have fr5 := HRY.out.frozen 5
      simp only [uv, List.map_cons, List.map_nil, List.getElem?_cons_zero, List.getElem?_cons_succ] at c0 c1 c2 c3 c4 c5 d0 d1 d2 d3 d4 d5
      go_wp2_with (at_builtin; fail)
      have HS6 := Lib.hid (set6 (a0 := b0) (a1 := b1) (a2 := b2) (a3 := b3) (a4 := b4) (a5 := b5) HRY.out rfl)
      refine bodyPost_ret (results_cell_row rfl _ _ w.heap.size 74 _ (0, 0) _ rfl HS6.out.1 Try.underlying74 rfl rfl) rfl ⟨b0, b1, b2, b3, b4, b5, rfl, HFW.out, HCL2.out, HBR.out.trans ((grown_below HS6.out.2 (show w.heap.size < _ by omega)).mono (by omega))⟩
    · go_wp2_with (at_builtin; fail)
      refine (HC.out _ HBR.out).mono ?_
      rintro e w3 ⟨v3, rfl, hbs, hb3⟩
      have HBS := Lib.hid hbs
      obtain ⟨A3, c3, rfl, hc3⟩ := hbs.slice
      have HR3 := Lib.hid (HRW.out.low hb3 HRW.out.lt)
      have HY3 := Lib.hid (HRY.out.low hb3 HRY.out.lt)
      have HB3 := Lib.hid (HBR.out.trans (hb3.mono HBR.out.size))
      have hs3 := hb3.size
      have HPB : Hid (∀ b, wr.heap.size ≤ b → ¬ b = w.heap.size + 1) := Lib.hid fun b h => by omega
      clear hbs hb3 HRW HRY
      go_wp2_with (at_builtin; fail)
      go_loopw [4, 12] (fun c i wx => ∃ (b : Bool) (k : Nat) (ns : List Nat), c = .bool b ∧ i = .int .i64 k ∧ k ≤ bs.length ∧ RowB wx (w.heap.size + 1) 74 (uv ns) ∧ ReI bs ns ∧ (b = true → muP 6 ns < muP 6 os) ∧ (b = false → ns = os ∧ ∀ x ∈ bs.take k, keepB (stP os) x) ∧ Onl (fun b => b = w.heap.size + 1) w3 wx) (fun _ i _ => bs.length - (intOf i).toNat)
      case atStart => exact ⟨false, 0, os, rfl, rfl, by omega, HR3.out, HFW.out, fun h => (by cases h), fun _ => ⟨rfl, fun x hx => by simp at hx⟩, Onl.refl _ _⟩
      case round =>
        obtain ⟨bc, k, ns, rfl, rfl, hk, hrx, hfx, hmx, hcx, hon⟩ := hrel
        have HFX := Lib.hid hfx
        have HMX := Lib.hid hmx
        have HCX := Lib.hid hcx
        have HRX := Lib.hid hrx
        have HON := Lib.hid hon
        have hszx := hon.size
        have hnl := hfx.len
        have HBX : Hid (Below w.heap.size w wr) := Lib.hid (HB3.out.trans (hon.below HB3.out.size fun k hk => by omega))
        clear hfx hmx hcx hrx
        by_cases hlt : k < bs.length
        · obtain ⟨bb, ob, rfl, hP, hbb, z0, z1, z2⟩ := (HBS.out.onl hon HPB.out).get hlt
          have HTK : Hid (bs.take (k + 1) = bs.take k ++ [bs[k]]) := Lib.hid (take_succ_get bs k hlt)
          have hmem : bs[k] ∈ bs := List.getElem_mem hlt
          have HXO := Lib.hid (HOK.out _ hmem)
          have HKEEP := Lib.hid (addB_keep (os := ns) (b := bs[k]))
          have HLT := Lib.hid (addB_lt HFX.out HXO.out (by omega))
          have HUPD := Lib.hid (HFX.out.upd (v := bs[k].v.toNat) (by have := HXO.out.v0; have := HXO.out.v1; omega) HLT.out (addB_rg HFX.out HOK.out hmem))
          have HMUL := Lib.hid (PlI.mu (n := 6) HFX.out.len HFX.out.small (show bs[k].v.toNat < 6 by have := HXO.out.v0; have := HXO.out.v1; omega) HLT.out)
          have HADD : Hid (addB ns bs[k] = if bs[k].src < 0 then 2 ^ bs[k].loan.toNat else ns.getD bs[k].src.toNat 0) := Lib.hid rfl
          have HVN : Hid (((bs[k].v.toNat : Nat) : Int) = bs[k].v ∧ bs[k].v.toNat < 6) := Lib.hid ⟨by have := HXO.out.v0; omega, by have := HXO.out.v0; have := HXO.out.v1; omega⟩
          clear hmem hon hP
          generalize bs[k] = X at *
          obtain ⟨v, hv⟩ : ∃ v, v = X.v.toNat := ⟨_, rfl⟩
          rw [← hv] at HKEEP HUPD HMUL HVN
          obtain ⟨hv1, hv6⟩ := HVN.out
          rw [← hv1] at z0
          clear HVN hv hv1
          obtain ⟨a, ha⟩ : ∃ a, a = ns.getD v 0 := ⟨_, rfl⟩
          obtain ⟨s, hs⟩ : ∃ s, s = addB ns X := ⟨_, rfl⟩
          obtain ⟨r, hr⟩ : ∃ r, r = a ||| s := ⟨_, rfl⟩
          have ha64 : a < top64 := by rw [ha]; exact getD_small HFX.out.small _
          have hs64 : s < top64 := by rw [hs]; exact HLT.out
          have hor : bits .or .u64 (a : Int) (s : Int) = ((r : Nat) : Int) := by rw [hr]; exact or_u64 ha64 hs64
          have q0 := (HRX.out.alloc (.cells #[.int .i64 (v : Nat), .int .i64 X.loan, .int .i64 X.src] 148)).cell v
          rw [uv_get (by omega), ← ha] at q0
          rw [← hs, ← ha, ← hr] at HKEEP HUPD HMUL
          rw [← hs] at HADD
          have HNF := Lib.hid ((HRX.out.alloc (.cells #[.int .i64 (v : Nat), .int .i64 X.loan, .int .i64 X.src] 148)).frozen v)
          have HRB := Lib.hid (HRX.out.alloc (.cells #[.int .i64 (v : Nat), .int .i64 X.loan, .int .i64 X.src] 148))
          have HRA := Lib.hid (heap_alloc_new wr (.cells #[.int .i64 (v : Nat), .int .i64 X.loan, .int .i64 X.src] 148))
          have HOB : Hid (Onl (fun b => b = w.heap.size + 1) w3 (wr.alloc (.cells #[.int .i64 (v : Nat), .int .i64 X.loan, .int .i64 X.src] 148))) := Lib.hid (HON.out.trans (Onl.bel (bel_a _ _)))
          clear ha hs hr HLT HRX
          rcases HXO.out.alt with ⟨hsr, hl0, hl1⟩ | ⟨hlo, hs0, hs1⟩
          · obtain ⟨l, hl⟩ : ∃ l : Nat, X.loan = l := ⟨X.loan.toNat, by omega⟩
            have hpk : s = 2 ^ l := by rw [HADD.out, if_pos (by omega), hl, Int.toNat_natCast]
            have hpw : IntKind.u64.wrap (2 ^ l) = (s : Int) := by rw [hpk]; exact pow_u64 (k := l) (by omega)
            have hll : l < 64 := by omega
            rw [hl] at z1 HNF HRB HRA HOB q0 hl1
            rw [hsr] at z2 HNF HRB HRA HOB q0
            clear hpk hl0 hsr hl HADD HXO
            go_upto_region 8 with (at_builtin; fail)
            generalize wr.alloc (.cells #[.int .i64 (v : Nat), .int .i64 (l : Nat), .int .i64 (-1)] 148) = wb at *
            have x0 : wb.cell? ⟨wr.heap.size, 0, none⟩ = some (.int .i64 (v : Nat)) := (cell_of_row _ _ _ _ _ _ HRA.out).trans rfl
            have x1 : wb.cell? ⟨wr.heap.size, 1, none⟩ = some (.int .i64 (l : Nat)) := (cell_of_row _ _ _ _ _ _ HRA.out).trans rfl
            have x2 : wb.cell? ⟨wr.heap.size, 2, none⟩ = some (.int .i64 (-1)) := (cell_of_row _ _ _ _ _ _ HRA.out).trans rfl
            have hfr := HNF.out
            clear z0 z1 z2
            by_cases hra : r = a
            · have hne : ((r : Int) != (a : Int)) = false := by simp; omega
              have HKP := Lib.hid (HKEEP.out hra)
              have HC2 : Hid (bc = false → ns = os ∧ ∀ x ∈ bs.take (k + 1), keepB (stP os) x) := Lib.hid fun hb => by
                obtain ⟨h1, h2⟩ := HCX.out hb
                refine ⟨h1, fun x hx => ?_⟩
                rw [HTK.out, List.mem_append, List.mem_singleton] at hx
                rcases hx with hx | rfl
                · exact h2 x hx
                · rw [← h1]; exact HKP.out
              clear hra
              go_wp2_with (at_builtin; fail)
              exact ⟨⟨bc, k + 1, ns, rfl, by go_num, by omega, HRB.out, HFX.out, HMX.out, HC2.out, HOB.out⟩, by simp [intOf] <;> omega⟩
            · have hne : ((r : Int) != (a : Int)) = true := by
                rw [bne_iff_ne]
                omega
              have HM2 : Hid (muP 6 (ns.set v r) < muP 6 os) := Lib.hid (by
                have h := HMUL.out hra
                cases bc with
                | false => rw [(HCX.out rfl).1] at h ⊢; exact h
                | true => exact Nat.lt_trans h (HMX.out rfl))
              have HR2 : Hid (RowB (wb.setCell ⟨w.heap.size + 1, v, none⟩ (.int .u64 (r : Nat))) (w.heap.size + 1) 74 (uv (ns.set v r))) := Lib.hid (by rw [← uv_set]; exact HRB.out.set_ v _)
              have HO2 := Lib.hid (HOB.out.trans (Onl.set wb (S := fun b => b = w.heap.size + 1) (g := w.heap.size + 1) rfl v (.int .u64 (r : Nat))))
              clear hra
              go_wp2_with (at_builtin; fail)
              exact ⟨⟨true, k + 1, ns.set v r, rfl, by go_num, by omega, HR2.out, HUPD.out, fun _ => HM2.out, fun h => (by cases h), HO2.out⟩, by simp [intOf] <;> omega⟩
          · obtain ⟨u, hu⟩ : ∃ u : Nat, X.src = u := ⟨X.src.toNat, by omega⟩
            have hu6 : u < 6 := by omega
            have hsu : s = ns.getD u 0 := by rw [HADD.out, if_neg (by omega), hu, Int.toNat_natCast]
            have q1 := HRB.out.cell u
            rw [uv_get (by omega), ← hsu] at q1
            rw [hu] at z2 HNF HRB HRA HOB q0 q1
            rw [hlo] at z1 HNF HRB HRA HOB q0 q1
            clear hsu hlo hs0 hs1 hu HADD HXO
            go_upto_region 8 with (at_builtin; fail)
            generalize wr.alloc (.cells #[.int .i64 (v : Nat), .int .i64 (-1), .int .i64 (u : Nat)] 148) = wb at *
            have x0 : wb.cell? ⟨wr.heap.size, 0, none⟩ = some (.int .i64 (v : Nat)) := (cell_of_row _ _ _ _ _ _ HRA.out).trans rfl
            have x1 : wb.cell? ⟨wr.heap.size, 1, none⟩ = some (.int .i64 (-1)) := (cell_of_row _ _ _ _ _ _ HRA.out).trans rfl
            have x2 : wb.cell? ⟨wr.heap.size, 2, none⟩ = some (.int .i64 (u : Nat)) := (cell_of_row _ _ _ _ _ _ HRA.out).trans rfl
            have hfr := HNF.out
            clear z0 z1 z2
            by_cases hra : r = a
            · have hne : ((r : Int) != (a : Int)) = false := by simp; omega
              have HKP := Lib.hid (HKEEP.out hra)
              have HC2 : Hid (bc = false → ns = os ∧ ∀ x ∈ bs.take (k + 1), keepB (stP os) x) := Lib.hid fun hb => by
                obtain ⟨h1, h2⟩ := HCX.out hb
                refine ⟨h1, fun x hx => ?_⟩
                rw [HTK.out, List.mem_append, List.mem_singleton] at hx
                rcases hx with hx | rfl
                · exact h2 x hx
                · rw [← h1]; exact HKP.out
              clear hra
              go_wp2_with (at_builtin; fail)
              exact ⟨⟨bc, k + 1, ns, rfl, by go_num, by omega, HRB.out, HFX.out, HMX.out, HC2.out, HOB.out⟩, by simp [intOf] <;> omega⟩
            · have hne : ((r : Int) != (a : Int)) = true := by
                rw [bne_iff_ne]
                omega
              have HM2 : Hid (muP 6 (ns.set v r) < muP 6 os) := Lib.hid (by
                have h := HMUL.out hra
                cases bc with
                | false => rw [(HCX.out rfl).1] at h ⊢; exact h
                | true => exact Nat.lt_trans h (HMX.out rfl))
              have HR2 : Hid (RowB (wb.setCell ⟨w.heap.size + 1, v, none⟩ (.int .u64 (r : Nat))) (w.heap.size + 1) 74 (uv (ns.set v r))) := Lib.hid (by rw [← uv_set]; exact HRB.out.set_ v _)
              have HO2 := Lib.hid (HOB.out.trans (Onl.set wb (S := fun b => b = w.heap.size + 1) (g := w.heap.size + 1) rfl v (.int .u64 (r : Nat))))
              clear hra
              go_wp2_with (at_builtin; fail)
              exact ⟨⟨true, k + 1, ns.set v r, rfl, by go_num, by omega, HR2.out, HUPD.out, fun _ => HM2.out, fun h => (by cases h), HO2.out⟩, by simp [intOf] <;> omega⟩
        · have hke : k = bs.length := by omega
          have HCF : Hid (bc = false → ∀ x ∈ bs, keepB (stP ns) x) := Lib.hid fun hb => by
            obtain ⟨h1, h2⟩ := HCX.out hb
            rw [hke, List.take_length] at h2
            rw [h1]; exact h2
          have HMF : Hid (bc = true → muP 6 ns < muP 6 os) := Lib.hid HMX.out
          have HYX := Lib.hid (HY3.out.onl hon (by omega))
          clear hke hon
          go_wp2_with (at_builtin; fail)
          go_roundg (muP 6 os)
          case measure => exact HMU.out trivial
          case rel => exact ⟨bc, ns, rfl, HRX.out, HYX.out, HFX.out, HMF.out, HCF.out, HBX.out⟩
end Go.Proofs.Ytfioaohadanjmaa

/- Regions: spec.l9Regions, spec.RegionOf. -/
namespace Go.Proofs.Ytfioaohadanjmaa
open Go.RowKit

theorem BRow.ne {w : World} {base : Nat} {v : Value} {rb : List Nat} {m : Nat} {rows : List (List Bool)} (h : BRow w base v rb m rows) {i : Nat} (hi : i < rows.length) : v.ownBlock ≠ some (rb.getD i 0) := by
  rcases h.own.2 with ⟨rfl, _⟩ | ⟨g, cap, cur, rfl, _, hh, _⟩
  · simp [Value.ownBlock]
  · intro e
    injection e with e
    have e' : g = rb.getD i 0 := e
    have hr := (h.row i hi).1
    unfold RowB at hr
    rw [← e', hh] at hr
    injection hr with hr
    injection hr with _ hT
    exact absurd hT (by decide)
theorem BRow.put {w w' : World} {base : Nat} {v : Value} {rb : List Nat} {m : Nat} {rows : List (List Bool)} (h : BRow w base v rb m rows) {i : Nat} (hi : i < rows.length) {r : List Bool} (hon : Onl (fun b => b = rb.getD i 0) w w') (hr : RowB w' (rb.getD i 0) 4 (bv r)) : BRow w' base v rb m (rows.set i r) := by
  have hne := h.ne hi
  refine ⟨by rw [List.length_set]; exact own_onl h.own hon (fun g hg e => hne (by rw [hg]; exact congrArg some e)), by rw [List.length_set]; exact h.len, fun j hj => ?_, by rw [List.length_set]; exact h.inj⟩
  rw [List.length_set] at hj
  refine ⟨?_, (h.row j hj).2⟩
  rw [getD_setL hi]
  by_cases e : j = i
  · subst e; rw [if_pos rfl]; exact hr
  · rw [if_neg e]; exact (h.row j hj).1.onl hon (fun hh => e (h.inj j i hj hi hh))
/-- rows of m for n variables -/
def Rws (rows : List (List Bool)) (n m : Nat) : Prop := rows.length = n ∧ ∀ i, i < n → (rows.getD i []).length = m
theorem Rws.rset {rows : List (List Bool)} {n m v e : Nat} {b : Bool} (h : Rws rows n m) (hv : v < n) : Rws (rset rows v e b) n m :=
  ⟨by rw [rset_len]; exact h.1, fun i hi => by rw [rset_row (by rw [h.1]; exact hv)]; exact h.2 i hi⟩
theorem Rws.set {rows : List (List Bool)} {n m v : Nat} {r : List Bool} (h : Rws rows n m) (hv : v < n) (hr : r.length = m) : Rws (rows.set v r) n m :=
  ⟨by rw [List.length_set]; exact h.1, fun i hi => by
    rw [getD_setL (by rw [h.1]; exact hv)]
    split
    · exact hr
    · exact h.2 i hi⟩
theorem regs_loan {bs : List Bd} {rows : List (List Bool)} {k j n m v l : Nat} (hok : ∀ b ∈ bs, BdOk n m b) (h : RdI bs k j (rget rows)) (hj : j < bs.length) (hr : Rws rows n m) (hs : bs[j].src < 0) (hv : v = bs[j].v.toNat) (hl : l = bs[j].loan.toNat) (hvn : v < n) (hlm : l < m) : RdI bs k (j + 1) (rget (rset rows v l true)) :=
  RdI.go hok h hj fun u e => by
    rw [rget_rset (by rw [hr.1]; exact hvn) (by rw [hr.2 v hvn]; exact hlm), if_pos hs, ← hv, ← hl]
    by_cases hc : u = v ∧ e = l
    · rw [if_pos hc]; simp [hc]
    · rw [if_neg hc]
      constructor
      · exact .inl
      · rintro (h | h)
        · exact h
        · exact absurd h hc
theorem regs_from {bs : List Bd} {rows : List (List Bool)} {k j n m v u : Nat} {r : List Bool} (hok : ∀ b ∈ bs, BdOk n m b) (h : RdI bs k j (rget rows)) (hj : j < bs.length) (hr : Rws rows n m) (hs : ¬ bs[j].src < 0) (hv : v = bs[j].v.toNat) (hu : u = bs[j].src.toNat) (hvn : v < n) (hun : u < n) (hrl : r.length = m) (hre : ∀ e, e < m → r.getD e false = (rget rows v e || rget rows u e)) : RdI bs k (j + 1) (rget (rows.set v r)) :=
  RdI.go hok h hj fun w e => by
    rw [if_neg hs, ← hv, ← hu]
    have hg : rget (rows.set v r) w e = if w = v then r.getD e false else rget rows w e := by
      unfold rget
      rw [getD_setL (by rw [hr.1]; exact hvn)]
      split <;> rfl
    rw [hg]
    by_cases hc : w = v
    · subst hc
      rw [if_pos rfl]
      by_cases he : e < m
      · rw [hre e he, Bool.or_eq_true]; simp
      · have h0 : ∀ i, i < n → rget rows i e = false := fun i hi => by unfold rget; rw [getD_ge (by rw [hr.2 i hi]; omega)]
        rw [getD_ge (by omega), h0 w hvn, h0 u hun]; simp
    · rw [if_neg hc]
      constructor
      · exact .inl
      · rintro (h | h)
        · exact h
        · exact absurd h.1 hc
theorem RdI.zero (bs : List Bd) (n m : Nat) : RdI bs 0 0 (rget (List.replicate n (List.replicate m false))) := by
  have h0 : ∀ v e, rget (List.replicate n (List.replicate m false)) v e = false := fun v e => by
    unfold rget
    by_cases hv : v < n
    · rw [getD_rep _ _ _ _ hv]
      by_cases he : e < m
      · rw [getD_rep _ _ _ _ he]
      · rw [getD_ge (by simpa using he)]
    · rw [getD_ge (l := List.replicate n (List.replicate m false)) (by simpa using hv)]; rfl
  refine ⟨fun v e h => ?_, fun v e h => h.elim, fun b hb => by simp at hb⟩
  rw [h0] at h; cases h
theorem Rws.zero (n m : Nat) : Rws (List.replicate n (List.replicate m false)) n m := ⟨by simp, fun i hi => by rw [getD_rep _ _ _ _ hi]; simp⟩
/-- while l4Add adds the row U to the row at rv -/
def AddS (wb : World) (rv : Nat) (R U : List Bool) (w' : World) : Prop := ∃ r, RowB w' rv 4 (bv r) ∧ r.length = R.length ∧ (∀ e, r.getD e false = true → (R.getD e false || U.getD e false) = true) ∧ (∀ e, R.getD e false = true → r.getD e false = true) ∧ Onl (fun b => b = rv) wb w'
theorem AddS.drew {wb : World} {rv : Nat} {R U : List Bool} {w' : World} (h : AddS wb rv R U w') : AddS wb rv R U w'.drew := by
  obtain ⟨r, h1, h2, h3, h4, h5⟩ := h
  exact ⟨r, h1, h2, h3, h4, h5.trans (Onl.bel (Below.refl _ _).drew)⟩
/-- what l9Regions answers -/
def RgsRet (w : World) (ts : List Int) (pts : List Pt) (e : Ending) (w' : World) : Prop :=
  ∃ v rb rows, e = .returned v ∧ BRow w' w.heap.size v rb pts.length rows ∧ Rws rows ts.length pts.length ∧ (∀ v e, rget rows v e = true ↔ Rg (bds ts pts) v e) ∧ Below w.heap.size w w'
set_option maxHeartbeats 8000000 in
set_option maxRecDepth 100000 in
theorem sRegions_any (vt vb : Value) (ts : List Int) (l : List St) (B : Nat) (w : World) (ht : IntS w B vt ts) (hl : StS w B vb l) (hB : B ≤ w.heap.size) (hsz : szL l ≤ 4194300) (gd : Good ts (ptsP l)) :
    Calls Try.prog 59 #[.agg #[vt, vb]] w (RgsRet w ts (ptsP l)) := by
  have hpl := gd.len
  have h6 := gd.h6
  have HBX := Lib.hid (Boxed.new ht hl hB 30)
  have HCP : Hid (∀ w', Below w.heap.size w w' → Calls Try.prog 40 #[.agg #[vt, vb]] w' (PtsRet w' (ptsP l))) := Lib.hid fun w' h => l2Points_any vt vb l B w' (hl.low h hB) (Nat.le_trans hB h.size) hsz
  have HCB : Hid (∀ w', Below w.heap.size w w' → Calls Try.prog 104 #[.agg #[vt, vb]] w' (BdRet w' (bds ts (ptsP l)))) := Lib.hid fun w' h => sBounds_any vt vb ts l B w' (ht.low h hB) (hl.low h hB) (Nat.le_trans hB h.size) hsz gd
  have HOK := Lib.hid (bds_ok gd)
  have HNE := Lib.hid (bds_ne gd)
  have hbl : (bds ts (ptsP l)).length ≤ 2 * (ptsP l).length := bdsL_len ts 0 (ptsP l)
  have ht0 := ht
  obtain ⟨At, ct, rfl, hct, -, -⟩ := ht0
  obtain ⟨Ab, cb, rfl, hcb⟩ := hl.slice
  unfold RgsRet
  generalize bds ts (ptsP l) = bs at *
  generalize hm : (ptsP l).length = m at *
  have HMM := Lib.hid hm
  clear ht hl gd hm
  go_enter Try.func59, Try.ntmps59
  go_wp2_with (at_builtin; fail)
  refine (HCP.out _ HBX.out.bel).mono ?_
  rintro e w1 ⟨vp, rfl, hps, hb1⟩
  have HB1 := Lib.hid (HBX.out.bels hb1 hB)
  have c0 := HB1.out.c0
  have c1 := HB1.out.c1
  obtain ⟨Ap, cp, rfl, hcp, -⟩ := hps.slice
  rw [HMM.out] at hcp ⊢
  clear hps hb1
  go_wp2_with (at_builtin; fail)
  refine (HCB.out _ HB1.out.bel).mono ?_
  rintro e w2 ⟨v2, rfl, hbx, hb2⟩
  have HBS := Lib.hid hbx
  have HB2 := Lib.hid (HB1.out.bels hb2 hB)
  obtain ⟨A2, c2, rfl, hc2⟩ := hbx.slice
  clear c0 c1 hbx hb2
  have c0 := HB2.out.c0
  have hgw := HB2.out.lt
  have hmk := make_bools m (by omega)
  go_wp2_with (at_builtin; fail)
  go_loopw [5, 6] (fun v i wr => ∃ (k : Nat) (rb : List Nat), k ≤ ts.length ∧ i = .int .i64 k ∧ BRow wr w2.heap.size v rb m (List.replicate k (List.replicate m false)) ∧ Below w2.heap.size w2 wr) (fun _ i _ => ts.length - (intOf i).toNat)
  case atStart => exact ⟨0, [], Nat.zero_le _, rfl, BRow.empty w2 w2.heap.size m (Nat.le_refl _), bel_a _ _⟩
  case round =>
    obtain ⟨k, rb, hk, rfl, hbr, hbw⟩ := hrel
    have HBR := Lib.hid hbr
    have HBW := Lib.hid hbw
    have hsr := hbw.size
    obtain ⟨A4, c4, rfl, hc4⟩ := hbr.slice
    have d0 := (hbw.cell (p := ⟨w.heap.size, 0, none⟩) hgw).trans c0
    clear hbr hbw
    by_cases hlt : k < ts.length
    · have HRS : Hid (List.replicate (k + 1) (List.replicate m false) = List.replicate k (List.replicate m false) ++ [List.replicate m false]) := Lib.hid (by rw [List.replicate_succ'])
      have HRL : Hid ((List.replicate k (List.replicate m false)).length ≤ 60) := Lib.hid (by simp; omega)
      generalize List.replicate k (List.replicate m false) = rws at *
      generalize List.replicate m false = rz at *
      have hrl := HRL.out
      go_wp2_with (at_builtin; go_must (refine wpList_push_row rfl (.tmp 23) (.tmp 26) rfl HBR.out (by omega) (by omega) rz rfl rfl ?_); intro v' w' hP' hE')
      exact ⟨⟨k + 1, _, by omega, by go_num, by rw [HRS.out]; exact hP', HBW.out.trans hE'⟩, by simp [intOf] <;> omega⟩
    · have hkt : k = ts.length := by omega
      have HRZ : Hid (RdI bs 0 0 (rget (List.replicate ts.length (List.replicate m false)))) := Lib.hid (RdI.zero bs _ _)
      have HRW : Hid (Rws (List.replicate ts.length (List.replicate m false)) ts.length m) := Lib.hid (Rws.zero _ _)
      rw [hkt] at HBR
      have hA4 : A4 = A4 := rfl
      have hrl : (List.replicate k (List.replicate m false)).length = ts.length := by simp [hkt]
      rw [hrl]
      rw [show (List.replicate ts.length (List.replicate m false)).length = ts.length by simp] at HBR
      clear hrl hkt hA4
      generalize List.replicate ts.length (List.replicate m false) = rz at *
      have HBZ := HBW
      have HBRZ := HBR
      obtain ⟨wo, hwo⟩ : ∃ wo : World, wo = wr := ⟨_, rfl⟩
      clear hwo
      have hltf : decide ((k : Int) < (ts.length : Int)) = false := by simp; omega
      go_wp2_with (at_builtin; fail)
      clear d0
      go_loopw [7] (fun i wr => ∃ (k : Nat) (rows : List (List Bool)), k ≤ ts.length + 1 ∧ i = .int .i64 k ∧ BRow wr w2.heap.size (.slice A4 ts.length c4) rb m rows ∧ Rws rows ts.length m ∧ RdI bs k 0 (rget rows) ∧ Below w2.heap.size w2 wr) (fun i _ => ts.length + 1 - (intOf i).toNat)
      case atStart => exact ⟨0, rz, Nat.zero_le _, rfl, HBRZ.out, HRW.out, HRZ.out, HBZ.out⟩
      case round =>
        obtain ⟨k, rows, hk, rfl, hbr, hrw, hri, hbw⟩ := hrel
        have HBR := Lib.hid hbr
        have HRW := Lib.hid hrw
        have HRI := Lib.hid hri
        have HBW := Lib.hid hbw
        have d0 := (hbw.cell (p := ⟨w.heap.size, 0, none⟩) hgw).trans c0
        clear hbr hrw hri hbw HRZ HBZ HBRZ
        by_cases hlt : k ≤ ts.length
        · have hlt2 : (k : Int) ≤ (ts.length : Int) := by omega
          go_wp2_with (at_builtin; fail)
          clear d0
          go_loopw [8] (fun i wr => ∃ (j : Nat) (rows : List (List Bool)), j ≤ bs.length ∧ i = .int .i64 j ∧ BRow wr w2.heap.size (.slice A4 ts.length c4) rb m rows ∧ Rws rows ts.length m ∧ RdI bs k j (rget rows) ∧ Below w2.heap.size w2 wr) (fun i _ => bs.length - (intOf i).toNat)
          case atStart => exact ⟨0, rows, Nat.zero_le _, rfl, HBR.out, HRW.out, HRI.out, HBW.out⟩
          case round =>
            obtain ⟨j, rows, hj, rfl, hbr, hrw, hri, hbw⟩ := hrel
            have HBR := Lib.hid hbr
            have HRW := Lib.hid hrw
            have HRI := Lib.hid hri
            have HBW := Lib.hid hbw
            have hsr := hbw.size
            have hrl := hrw.1
            clear HBR HRW HRI HBW
            have HBR := Lib.hid hbr
            have HRW := Lib.hid hrw
            have HRI := Lib.hid hri
            have HBW := Lib.hid hbw
            by_cases hlt : j < bs.length
            · obtain ⟨bb, ob, rfl, hP, hbb, z0, z1, z2⟩ := (HBS.out.bel hbw).get hlt
              have HXO := Lib.hid (HOK.out _ (List.getElem_mem hlt))
              have HXN := Lib.hid (HNE.out _ (List.getElem_mem hlt))
              have HLO := Lib.hid (fun v l => regs_loan (v := v) (l := l) HOK.out HRI.out hlt HRW.out)
              have HFR := Lib.hid (fun v u r => regs_from (v := v) (u := u) (r := r) HOK.out HRI.out hlt HRW.out)
              clear hbr hrw hri hbw hP
              generalize bs[j] = X at *
              have HRA := Lib.hid (heap_alloc_new wr (.cells #[.int .i64 X.v, .int .i64 X.loan, .int .i64 X.src] 148))
              have HBA := Lib.hid (HBW.out.trans ((bel_a wr (.cells #[.int .i64 X.v, .int .i64 X.loan, .int .i64 X.src] 148)).mono hsr))
              have HRR := Lib.hid (HBR.out.low (bel_a wr (.cells #[.int .i64 X.v, .int .i64 X.loan, .int .i64 X.src] 148)))
              obtain ⟨v, hv⟩ : ∃ v : Nat, X.v = v := ⟨X.v.toNat, by have := HXO.out.v0; omega⟩
              have hvn : v < ts.length := by have := HXO.out.v1; omega
              obtain ⟨gg, gc, eg, hgb, hgl, hgc, hgcell, hgh⟩ := HRR.out.form (by omega)
              injection eg with eg1 eg9 eg2
              subst eg1 eg2
              clear eg9 hgh
              have dv := hgcell v (by omega)
              have HGC := Lib.hid hgcell
              clear hgcell
              obtain ⟨rv, hrv⟩ : ∃ rv, rv = rb.getD v 0 := ⟨_, rfl⟩
              have hrow := (HRR.out.row v (by omega)).1
              have HRVB := Lib.hid (HRR.out.row v (by omega)).2
              rw [← hrv] at hrow dv HRVB
              have HRV := Lib.hid hrv
              clear hrv HBR
              rcases HXO.out.alt with ⟨hsr', hl0, hl1⟩ | ⟨hlo, hs0, hs1⟩
              · obtain ⟨l, hl⟩ : ∃ l : Nat, X.loan = l := ⟨X.loan.toNat, by omega⟩
                have hlm : l < m := by omega
                have HNX := Lib.hid (HLO.out v l (by omega) (by omega) (by omega) hvn hlm)
                rw [hv] at z0 HRA HBA HRR HGC dv hrow hgl
                rw [hl] at z1 HRA HBA HRR HGC dv hrow hgl
                rw [hsr'] at z2 HRA HBA HRR HGC dv hrow hgl
                have hge : ((l : Int) ≥ 0) := by omega
                clear hv hl hsr' hl0 hl1 HLO HFR HXO
                go_upto_region 15 with (at_builtin; fail)
                generalize wr.alloc (.cells #[.int .i64 (v : Nat), .int .i64 (l : Nat), .int .i64 (-1)] 148) = wb at *
                have x0 : wb.cell? ⟨wr.heap.size, 0, none⟩ = some (.int .i64 (v : Nat)) := (cell_of_row _ _ _ _ _ _ HRA.out).trans rfl
                have x1 : wb.cell? ⟨wr.heap.size, 1, none⟩ = some (.int .i64 (l : Nat)) := (cell_of_row _ _ _ _ _ _ HRA.out).trans rfl
                have hll : l < (rows.getD v []).length := by rw [HRW.out.2 v hvn]; exact hlm
                have y0 := hrow.cell l
                rw [bv_get hll] at y0
                have yf := hrow.frozen l
                have HSET := Lib.hid (HRR.out.set (i := v) (u := l) (by omega) true)
                rw [← HRV.out] at HSET
                have HRVG := Lib.hid (show w2.heap.size ≤ rv from HRVB.out)
                clear z0 z1 z2 hrow hll
                go_wp2_with (at_builtin; fail)
                go_region
                go_wp2_with (at_builtin; fail)
                exact ⟨⟨j + 1, rset rows v l true, by omega, by go_num, HSET.out.low (Below.refl _ _).drew, HRW.out.rset hvn, HNX.out, HBA.out.trans ((Below.refl _ _).setCell (p := ⟨rv, l, none⟩) HRVG.out _).drew⟩, by simp [intOf] <;> omega⟩
              · obtain ⟨u, hu⟩ : ∃ u : Nat, X.src = u := ⟨X.src.toNat, by omega⟩
                have hun : u < ts.length := by omega
                have HNX := Lib.hid (fun r => HFR.out v u r (by omega) (by omega) (by omega) hvn hun)
                rw [hv] at z0 HRA HBA HRR HGC dv hrow hgl
                rw [hu] at z2 HRA HBA HRR HGC dv hrow hgl
                rw [hlo] at z1 HRA HBA HRR HGC dv hrow hgl
                have du := HGC.out u (by omega)
                obtain ⟨ru, hru⟩ : ∃ ru, ru = rb.getD u 0 := ⟨_, rfl⟩
                have hrou := (HRR.out.row u (by omega)).1
                rw [← hru] at hrou du
                have HRU := Lib.hid hru
                have HUV : Hid (u ≠ v) := Lib.hid (by have := HXN.out (by omega); omega)
                clear hru
                clear hv hu hlo hs0 hs1 HLO HFR
                go_upto_region 17 with (at_builtin; fail)
                generalize wr.alloc (.cells #[.int .i64 (v : Nat), .int .i64 (-1), .int .i64 (u : Nat)] 148) = wb at *
                have x0 : wb.cell? ⟨wr.heap.size, 0, none⟩ = some (.int .i64 (v : Nat)) := (cell_of_row _ _ _ _ _ _ HRA.out).trans rfl
                have x2 : wb.cell? ⟨wr.heap.size, 2, none⟩ = some (.int .i64 (u : Nat)) := (cell_of_row _ _ _ _ _ _ HRA.out).trans rfl
                have hbxl : wr.heap.size < wb.heap.size := row_lt HRA.out
                have HGL := Lib.hid hgl
                have HRVL := Lib.hid hrow.lt
                have HGNE : Hid (gg ≠ rv) := Lib.hid (HRR.out.own_ne rfl hrow)
                have HBXN : Hid (wr.heap.size ≠ rv) := Lib.hid fun e => by
                  have h1 := HRA.out
                  have h2 := hrow
                  rw [e] at h1
                  unfold RowB at h2
                  rw [h1] at h2
                  injection h2 with h2
                  injection h2 with _ hT
                  exact absurd hT (by decide)
                have HRUN : Hid (ru ≠ rv) := Lib.hid fun e => HUV.out (HRR.out.inj u v (by omega) (by omega) (by rw [← HRU.out, ← HRV.out, e]))
                have HUR := Lib.hid hrou
                have HLV := Lib.hid (HRW.out.2 v hvn)
                have HLU := Lib.hid (HRW.out.2 u hun)
                have HS0 : Hid ((wb.cell? ⟨wr.heap.size, 0, none⟩ = some (.int .i64 (v : Nat)) ∧ wb.cell? ⟨wr.heap.size, 2, none⟩ = some (.int .i64 (u : Nat)) ∧ wb.cell? ⟨gg, v, none⟩ = some (.slice (some ⟨rv, 0, none⟩) m m) ∧ wb.cell? ⟨gg, u, none⟩ = some (.slice (some ⟨ru, 0, none⟩) m m) ∧ AddS wb rv (rows.getD v []) (rows.getD u []) wb)) := Lib.hid ⟨x0, x2, dv, du, _, hrow, rfl, fun e h => by rw [h]; rfl, fun e h => h, Onl.refl _ _⟩
                have HADD : Hid (∀ w', (w'.cell? ⟨wr.heap.size, 0, none⟩ = some (.int .i64 (v : Nat)) ∧ w'.cell? ⟨wr.heap.size, 2, none⟩ = some (.int .i64 (u : Nat)) ∧ w'.cell? ⟨gg, v, none⟩ = some (.slice (some ⟨rv, 0, none⟩) m m) ∧ w'.cell? ⟨gg, u, none⟩ = some (.slice (some ⟨ru, 0, none⟩) m m) ∧ AddS wb rv (rows.getD v []) (rows.getD u []) w') → Calls Try.prog 103 #[.slice (some ⟨rv, 0, none⟩) m m, .slice (some ⟨ru, 0, none⟩) m m] w' fun e w'' => e = .returned (.tuple #[]) ∧ (∃ r, RowB w'' rv 4 (bv r) ∧ r.length = m ∧ ∀ e, e < m → r.getD e false = (rget rows v e || rget rows u e)) ∧ Onl (fun b => b = rv) wb w'' ∧ (w''.cell? ⟨wr.heap.size, 0, none⟩ = some (.int .i64 (v : Nat)) ∧ w''.cell? ⟨wr.heap.size, 2, none⟩ = some (.int .i64 (u : Nat)) ∧ w''.cell? ⟨gg, v, none⟩ = some (.slice (some ⟨rv, 0, none⟩) m m) ∧ w''.cell? ⟨gg, u, none⟩ = some (.slice (some ⟨ru, 0, none⟩) m m) ∧ AddS wb rv (rows.getD v []) (rows.getD u []) w'')) := Lib.hid fun w' hS => by
                  obtain ⟨h0, h2, hv', hu', r, hr, hrl', hr1, hr2, hon⟩ := hS
                  have hun' : RowB w' ru 4 (bv (rows.getD u [])) := HUR.out.onl hon HRUN.out
                  have hX := RowB.toX (P := fun b => b ≠ rv) (c := m) hun' HRUN.out (by rw [HLU.out]; omega) (by rw [HLU.out]; exact Nat.le_refl _)
                  rw [HLU.out] at hX
                  have hrm : r.length = m := by rw [hrl', HLV.out]
                  refine (l4Add_any rv m m _ r _ w' hr hX hrm.symm (by rw [HLU.out, hrm]; exact Nat.le_refl _) (by omega)).mono ?_
                  rintro e w9 ⟨rfl, r', hr', hrl2, hre, hre2, hon'⟩
                  have hon2 := hon.trans hon'
                  have hor : ∀ e, e < m → r'.getD e false = (rget rows v e || rget rows u e) := fun e he => by
                    rw [hre e (by rw [HLU.out]; exact he)]
                    have k1 := hr1 e
                    have k2 := hr2 e
                    unfold rget
                    cases a : r.getD e false <;> cases b : (rows.getD v []).getD e false <;> cases c : (rows.getD u []).getD e false <;> simp_all
                  refine ⟨rfl, ⟨r', hr', by rw [hrl2, hrm], hor⟩, hon2, ?_, ?_, ?_, ?_, r', hr', by rw [hrl2, hrl'], fun e h => ?_, fun e h => ?_, hon2⟩
                  · exact (World.cell?_of_block (w := wb) (a := ⟨wr.heap.size, 0, none⟩) (hon2.block _ hbxl HBXN.out)).trans x0
                  · exact (World.cell?_of_block (w := wb) (a := ⟨wr.heap.size, 2, none⟩) (hon2.block _ hbxl HBXN.out)).trans x2
                  · exact (World.cell?_of_block (w := wb) (a := ⟨gg, v, none⟩) (hon2.block _ HGL.out HGNE.out)).trans dv
                  · exact (World.cell?_of_block (w := wb) (a := ⟨gg, u, none⟩) (hon2.block _ HGL.out HGNE.out)).trans du
                  · by_cases he : e < m
                    · rw [hor e he] at h; exact h
                    · rw [getD_ge (by rw [hrl2, hrm]; omega)] at h; cases h
                  · by_cases he : e < m
                    · rw [hor e he]; unfold rget; rw [h]; rfl
                    · rw [getD_ge (by rw [HLV.out]; omega)] at h; cases h
                clear hrow hrou z0 z1 z2 hgl x0 x2 dv du
                refine wp_region_held_drew (S := (fun w' => (w'.cell? ⟨wr.heap.size, 0, none⟩ = some (.int .i64 (v : Nat)) ∧ w'.cell? ⟨wr.heap.size, 2, none⟩ = some (.int .i64 (u : Nat)) ∧ w'.cell? ⟨gg, v, none⟩ = some (.slice (some ⟨rv, 0, none⟩) m m) ∧ w'.cell? ⟨gg, u, none⟩ = some (.slice (some ⟨ru, 0, none⟩) m m) ∧ AddS wb rv (rows.getD v []) (rows.getD u []) w'))) (by kernel_rfl) ?_ (fun hHeld => ?_)
                · exact ⟨HS0.out.1, HS0.out.2.1, HS0.out.2.2.1, HS0.out.2.2.2.1, HS0.out.2.2.2.2.drew⟩
                refine wpAnyH_take (i := 0) (oi := ⟨some 56, _, _, _, _, _⟩) (v := ?_) rfl (by kernel_rfl) (by kernel_rfl) (by kernel_rfl) (fun _ _ _ h => h) (Or.inl ⟨by rfl, fun w' hSw => ?_⟩) (by assumption) ?_
                rotate_left
                · (try dsimp only at hSw); go_simp; (try with_reducible rfl)
                (try simp only [Act.put, List.setIfInBounds_toArray, List.set_cons_zero, List.set_cons_succ])
                refine wpAnyH_take (i := 1) (oi := ⟨some 57, _, _, _, _, _⟩) (v := ?_) rfl (by kernel_rfl) (by kernel_rfl) (by kernel_rfl) (fun _ _ _ h => h) (Or.inl ⟨by rfl, fun w' hSw => ?_⟩) (by assumption) ?_
                rotate_left
                · (try dsimp only at hSw); go_simp; (try with_reducible rfl)
                (try simp only [Act.put, List.setIfInBounds_toArray, List.set_cons_zero, List.set_cons_succ])
                refine wpAnyH_take (i := 2) (oi := ⟨some 58, _, _, _, _, _⟩) (v := ?_) rfl (by kernel_rfl) (by kernel_rfl) (by kernel_rfl) (fun _ _ _ h => h) (Or.inl ⟨by rfl, fun w' hSw => ?_⟩) (by assumption) ?_
                rotate_left
                · (try dsimp only at hSw); go_simp; (try with_reducible rfl)
                (try simp only [Act.put, List.setIfInBounds_toArray, List.set_cons_zero, List.set_cons_succ])
                refine wpAnyH_take (i := 3) (oi := ⟨some 59, _, _, _, _, _⟩) (v := ?_) rfl (by kernel_rfl) (by kernel_rfl) (by kernel_rfl) (fun _ _ _ h => h) (Or.inl ⟨by rfl, fun w' hSw => ?_⟩) (by assumption) ?_
                rotate_left
                · (try dsimp only at hSw); go_simp; (try with_reducible rfl)
                (try simp only [Act.put, List.setIfInBounds_toArray, List.set_cons_zero, List.set_cons_succ])
                refine wpAnyH_take (i := 4) (oi := ⟨some 60, _, _, _, _, _⟩) (v := ?_) rfl (by kernel_rfl) (by kernel_rfl) (by kernel_rfl) (fun _ _ _ h => h) (Or.inl ⟨by rfl, fun w' hSw => ?_⟩) (by assumption) ?_
                rotate_left
                · (try dsimp only at hSw); go_simp; (try with_reducible rfl)
                (try simp only [Act.put, List.setIfInBounds_toArray, List.set_cons_zero, List.set_cons_succ])
                refine wpAnyH_take (i := 5) (oi := ⟨some 61, _, _, _, _, _⟩) (v := ?_) rfl (by kernel_rfl) (by kernel_rfl) (by kernel_rfl) (fun _ _ _ h => h) (Or.inl ⟨by rfl, fun w' hSw => ?_⟩) (by assumption) ?_
                rotate_left
                · (try dsimp only at hSw); go_simp; (try with_reducible rfl)
                (try simp only [Act.put, List.setIfInBounds_toArray, List.set_cons_zero, List.set_cons_succ])
                refine wpAnyH_take (i := 6) (oi := ⟨some 62, _, _, _, _, _⟩) (v := ?_) rfl (by kernel_rfl) (by kernel_rfl) (by kernel_rfl) (fun _ _ _ h => h) (Or.inl ⟨by rfl, fun w' hSw => ?_⟩) (by assumption) ?_
                rotate_left
                · (try dsimp only at hSw); go_simp; (try with_reducible rfl)
                (try simp only [Act.put, List.setIfInBounds_toArray, List.set_cons_zero, List.set_cons_succ])
                refine wpAnyH_take (i := 7) (oi := ⟨some 63, _, _, _, _, _⟩) (v := ?_) rfl (by kernel_rfl) (by kernel_rfl) (by kernel_rfl) (fun _ _ _ h => h) (Or.inl ⟨by rfl, fun w' hSw => ?_⟩) (by assumption) ?_
                rotate_left
                · (try dsimp only at hSw); go_simp; (try with_reducible rfl)
                (try simp only [Act.put, List.setIfInBounds_toArray, List.set_cons_zero, List.set_cons_succ])
                refine wpAnyH_take (i := 8) (oi := ⟨some 64, _, _, _, _, _⟩) (v := ?_) rfl (by kernel_rfl) (by kernel_rfl) (by kernel_rfl) (fun _ _ _ h => h) (Or.inl ⟨by rfl, fun w' hSw => ?_⟩) (by assumption) ?_
                rotate_left
                · (try dsimp only at hSw); go_simp; (try with_reducible rfl)
                (try simp only [Act.put, List.setIfInBounds_toArray, List.set_cons_zero, List.set_cons_succ])
                refine wpAnyH_take (i := 9) (oi := ⟨some 65, _, _, _, _, _⟩) (v := ?_) rfl (by kernel_rfl) (by kernel_rfl) (by kernel_rfl) (fun _ _ _ h => h) (Or.inl ⟨by rfl, fun w' hSw => ?_⟩) (by assumption) ?_
                rotate_left
                · (try dsimp only at hSw); go_simp; (try with_reducible rfl)
                (try simp only [Act.put, List.setIfInBounds_toArray, List.set_cons_zero, List.set_cons_succ])
                refine wpAnyH_ready (rs := [10]) (by kernel_rfl) (by simp) ?_
                refine AllReadyH.cons (o := ⟨some 66, _, _, _, _, _⟩) rfl (fun K hK => ?_) AllReadyH.nil
                go_simp
                (refine (HADD.out _ (by assumption)).mono ?_)
                (rintro e w8 ⟨rfl, ⟨r8, hr8, hl8, hv8⟩, hon8, hS8⟩)
                (have HPUT := Lib.hid (BRow.put HRR.out (i := v) (r := r8) (by omega) (by rw [← HRV.out]; exact hon8) (by rw [← HRV.out]; exact hr8)))
                clear hr8
                go_simp
                refine hK.out _ _ ?_ (fun hHeld => ?_)
                · exact hS8
                clear hK K
                (try simp only [Act.put, List.setIfInBounds_toArray, List.set_cons_zero, List.set_cons_succ])
                refine wpAnyH_done (by kernel_rfl) ?_ _
                go_wp2_with (at_builtin; fail)
                exact ⟨⟨j + 1, rows.set v r8, by omega, by go_num, HPUT.out, HRW.out.set hvn hl8, HNX.out r8 hl8 hv8, HBA.out.trans (hon8.below HBA.out.size fun k hk => by rw [hk]; exact HRVB.out)⟩, by simp [intOf] <;> omega⟩
            · have hje : j = bs.length := by omega
              have HNX := Lib.hid (RdI.next HOK.out (by rw [← hje]; exact HRI.out))
              clear hje hbr hrw hri hbw
              go_wp2_with (at_builtin; fail)
              exact ⟨⟨k + 1, rows, by omega, by go_num, HBR.out, HRW.out, HNX.out, HBW.out⟩, by simp [intOf] <;> omega⟩
        · have hlt2 : decide ((k : Int) ≤ (ts.length : Int)) = false := by simp; omega
          have HD := Lib.hid (RdI.done HOK.out HRI.out (by omega : ts.length + 1 ≤ k))
          go_wp2_with (at_builtin; fail)
          go_ret
          exact ⟨_, rb, rows, rfl, HBR.out.base HB2.out.bel.size, HRW.out, HD.out, HB2.out.bel.trans (HBW.out.mono HB2.out.bel.size)⟩

end Go.Proofs.Ytfioaohadanjmaa

/- Plain: the issues of a program by regions. No program in sight. -/
namespace Go.Proofs.Ytfioaohadanjmaa

/-- is e in the region of something that counts as live (LV) behind point k? -/
def KpR (ts : List Int) (pts : List Pt) (LV : Nat → Nat → Prop) (k e : Nat) : Prop := ∃ p v, pts[k]? = some p ∧ v < ts.length ∧ LV k v ∧ setsP p.op p.x ≠ (v : Nat) ∧ useP ts p.op p.x p.y (v : Nat) ≠ 2 ∧ Rg (bds ts pts) v e
noncomputable def cfR (ts : List Int) (pts : List Pt) (LV : Nat → Nat → Prop) (k e : Nat) : Bool := dec (KpR ts pts LV k e) && dec (Pld ts pts k e) && acB pts (accL ts (ptD pts k).op (ptD pts k).x (ptD pts k).y fun v => dec (Ac false ts pts 0 k v)) e
noncomputable def cnfR (ts : List Int) (pts : List Pt) (LV : Nat → Nat → Prop) (k : Nat) : List Int := lst pts.length (cfR ts pts LV k)
noncomputable def isR (ts : List Int) (pts : List Pt) (LV : Nat → Nat → Prop) (k : Nat) : List Iss := isU k (unsL ts pts k) ++ isC pts k (cnfR ts pts LV k)
noncomputable def chrL (ts : List Int) (pts : List Pt) (LV : Nat → Nat → Prop) (n : Nat) : List Iss := (List.range n).flatMap (isR ts pts LV)
theorem chrL_succ (ts : List Int) (pts : List Pt) (LV : Nat → Nat → Prop) (n : Nat) : chrL ts pts LV (n + 1) = chrL ts pts LV n ++ isR ts pts LV n := by
  unfold chrL; rw [List.range_succ, List.flatMap_append]; simp
noncomputable def regIss (ts : List Int) (l : List St) : List Iss := if validP ts l = true then chrL ts (ptsP l) (LvN ts (ptsP l)) (ptsP l).length else []
theorem isR_len (ts : List Int) (pts : List Pt) (LV : Nat → Nat → Prop) (k : Nat) : (isR ts pts LV k).length = (unsL ts pts k).length + (cnfR ts pts LV k).length := by simp [isR, isU, isC]
theorem isR_le (ts : List Int) (pts : List Pt) (LV : Nat → Nat → Prop) (k : Nat) : (isR ts pts LV k).length ≤ ts.length + pts.length := by
  have h1 := lst_len ts.length (unB ts pts k)
  have h2 := lst_len pts.length (cfR ts pts LV k)
  rw [isR_len]; unfold unsL cnfR; omega
theorem chrL_le (ts : List Int) (pts : List Pt) (LV : Nat → Nat → Prop) (n : Nat) : (chrL ts pts LV n).length ≤ n * (ts.length + pts.length) := by
  induction n with
  | zero => simp [chrL]
  | succ n ih =>
    have := isR_le ts pts LV n
    rw [chrL_succ, List.length_append, Nat.succ_mul]; omega

end Go.Proofs.Ytfioaohadanjmaa
