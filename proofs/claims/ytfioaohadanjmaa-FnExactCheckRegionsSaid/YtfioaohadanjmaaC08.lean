import Derived.Test.YtfioaohadanjmaaC07
set_option linter.unusedVariables false

namespace Go.Proofs.Ytfioaohadanjmaa
open Go.RowKit

set_option maxHeartbeats 1000000 in
theorem forward_may (vg : Value) (ts : List Int) (pts : List Pt) (B first : Nat) (w : World) (hg : GrS w B vg ts pts) (hB : B ≤ w.heap.size) (h6 : ts.length ≤ 6) (hpl : pts.length ≤ 4194304) (hf : first < 2 ^ ts.length) (hn : ∀ p ∈ pts, ∀ k ∈ p.next, k < pts.length) (hx : ∀ p ∈ pts, setsP p.op p.x < ts.length) (h0 : 0 < pts.length) :
    Calls Try.prog 81 #[vg, .int .i64 (first : Nat), .bool false, .func (.func 46) #[vg] #[]] w (IntsRet w (msk (fwdL false ts pts first))) := by
  have HG := Lib.hid hg
  have HX := Lib.hid hx
  have HN := Lib.hid hn
  have HF := Lib.hid hf
  clear hn hx hf
  obtain ⟨g, At, ct, vb, Al, cl, rfl, hgB, g0, g1, g2, ht, hp, htl, hpl'⟩ := hg.open_
  have hmk := make_ints pts.length (by omega)
  have h00 : (iv (List.replicate pts.length 0))[0]? = some (.int .i64 0) := by rw [iv_get (by simpa using h0), getD_lt (by simpa using h0)]; simp
  go_enter Try.func81, Try.ntmps81
  go_wp2_with fail
  have hinit : FwdI false ts pts first ((List.replicate pts.length 0).set 0 first) := by
    refine ⟨by simp, ?_, ?_, ?_⟩
    · intro m hm
      rcases List.mem_or_eq_of_mem_set hm with hm | rfl
      · rw [(List.mem_replicate.1 hm).2]; exact Nat.two_pow_pos _
      · exact HF.out
    · intro i v hi hv ha
      rw [getD_set (by simpa using h0)] at ha
      split at ha
      · rename_i e; subst e; exact .init hv ha
      · rw [getD_lt (by simpa using hi), List.getElem_replicate] at ha
        simp [accB] at ha
    · intro v hv ha
      rw [getD_set (by simpa using h0), if_pos rfl]; exact ha
  have e0 : (iv (List.replicate pts.length 0)).set 0 (.int .i64 (first : Nat)) = iv ((List.replicate pts.length 0).set 0 first) := iv_set _ _ _
  rw [e0]
  generalize (List.replicate pts.length 0).set 0 first = ms0 at *
  have hrow : RowB (w.alloc (.cells (iv ms0).toArray 3)) w.heap.size 3 (iv ms0) := RowB.new _ _ _
  have hbw := bel_a w (.cells (iv ms0).toArray 3)
  clear hmk h00 e0
  go_loopg [11] (1 + muF false ms0) (fun gk c wr => ∃ (b : Bool) (ms : List Nat), c = .bool b ∧ RowB wr w.heap.size 3 (iv ms) ∧ FwdI false ts pts first ms ∧ (b = true → muF false ms < gk) ∧ (b = false → ∀ i, i < pts.length → ClosedAt false ts pts ms i) ∧ Below w.heap.size w wr)
  case atStart => exact ⟨true, ms0, rfl, hrow, hinit, fun _ => by omega, fun h => (by cases h), hbw⟩
  case round =>
    obtain ⟨bc, ms, rfl, hrw, hfw, hmu, hcl, hbr⟩ := hrel
    have HFW := Lib.hid hfw
    have HMU := Lib.hid hmu
    have HCL := Lib.hid hcl
    have HRW := Lib.hid hrw
    have hsz := hbr.size
    have hml := hfw.len
    have HML := Lib.hid hml
    have hgr := HG.out.low hbr hB
    have HGR := Lib.hid hgr
    have g0' := (hbr.cell (p := ⟨g, 0, none⟩) (by show g < _; omega)).trans g0
    have g2' := (hbr.cell (p := ⟨g, 2, none⟩) (by show g < _; omega)).trans g2
    clear hfw hmu hcl hrw hml hgr
    cases bc
    · go_wp2_with fail
      go_ret
      have e := HFW.out.done h6 HN.out h0 (HCL.out (by simp))
      refine ⟨_, rfl, ?_, hbr⟩
      rw [← e]
      have := HRW.out.ints (c := pts.length) (by rw [HML.out]; omega) (by rw [HML.out]; omega)
      rw [HML.out] at this
      exact this
    · go_wp2_with fail
      go_loopw [11, 45] (fun c i wx => ∃ (b : Bool) (k : Nat) (ns : List Nat), c = .bool b ∧ i = .int .i64 k ∧ k ≤ pts.length ∧ RowB wx w.heap.size 3 (iv ns) ∧ FwdI false ts pts first ns ∧ (b = true → muF false ns < muF false ms) ∧ (b = false → ns = ms ∧ ∀ i, i < k → ClosedAt false ts pts ms i) ∧ Below w.heap.size w wx) (fun _ i _ => pts.length - (intOf i).toNat)
      case atStart => exact ⟨false, 0, ms, rfl, rfl, by omega, HRW.out, HFW.out, fun h => (by cases h), fun _ => ⟨rfl, fun i hi => by omega⟩, hbr⟩
      case round =>
        obtain ⟨bc, k, ns, rfl, rfl, hk, hrw, hfw, hmu, hcl, hbx⟩ := hrel
        have HFX := Lib.hid hfw
        have HMX := Lib.hid hmu
        have HCX := Lib.hid hcl
        have HRX := Lib.hid hrw
        have hszx := hbx.size
        have hmlx := hfw.len
        have HMLX := Lib.hid hmlx
        clear hfw hmu hcl hrw hmlx
        by_cases hlt : k < pts.length
        · obtain ⟨b, off, c, nv, e, hb, hc, hl, hnx, p0, p1, p2, p3, p4⟩ := hp.get hlt
          have hbB : b < w.heap.size := by omega
          have q0 := (hbx.cell (p := ⟨b, off + k * 5, none⟩) hbB).trans p0
          have q1 := (hbx.cell (p := ⟨b, off + k * 5 + 1, none⟩) hbB).trans p1
          have q2 := (hbx.cell (p := ⟨b, off + k * 5 + 2, none⟩) hbB).trans p2
          have q3 := (hbx.cell (p := ⟨b, off + k * 5 + 3, none⟩) hbB).trans p3
          have q4 := (hbx.cell (p := ⟨b, off + k * 5 + 4, none⟩) hbB).trans p4
          clear p0 p1 p2 p3 p4
          injection e with e1 _ e2
          subst e1 e2
          have HNX := Lib.hid hnx
          obtain ⟨An, cn, rfl, hcn, hln, hrn⟩ := hnx
          simp only [List.length_map] at hcn hln q4
          obtain ⟨m, hm⟩ : ∃ m, m = ns.getD k 0 := ⟨_, rfl⟩
          have hkn : k < ns.length := by rw [HMLX.out]; exact hlt
          have hm64 : m < 64 := by
            rw [hm, getD_lt hkn]
            exact Nat.lt_of_lt_of_le (HFX.out.small _ (List.getElem_mem hkn)) (show 2 ^ ts.length ≤ 64 from Nat.pow_le_pow_right (n := 2) (by omega) h6)
          have hck : ∀ o, (wr.alloc o).cell? ⟨w.heap.size, k, none⟩ = some (.int .i64 (m : Nat)) := fun o => by
            rw [(HRX.out.alloc o).cell, iv_get hkn, hm]
          have hpk : pts[k] ∈ pts := List.getElem_mem hlt
          have hsk := HX.out _ hpk
          have hSO := HFX.out.setOf h6 (List.getElem?_eq_getElem hlt) hsk
          rw [← hm] at hSO
          have HSO := Lib.hid hSO
          have HM := Lib.hid hm
          have HPG := Lib.hid (List.getElem?_eq_getElem hlt)
          have hnk := HN.out _ hpk
          have HNK := Lib.hid hnk
          clear hm hSO hnk hpk
          have hs6 : setsP pts[k].op pts[k].x < 6 := by omega
          have HGX := Lib.hid (HG.out.low hbx hB)
          have g0'' := (hbx.cell (p := ⟨g, 0, none⟩) (by show g < _; omega)).trans g0
          go_wp2_with fail
          refine (valued_any _ ts pts B k m _ (HGX.out.low (bel_a _ _) (by omega)) (by simp; omega) h6 hlt hm64 hs6).mono ?_
          rintro e w2 ⟨rfl, hb2⟩
          have hbx4 := box_kept hb2 (by simp) 4
          simp at hbx4
          have hrow2 := (HRX.out.alloc _).low hb2 (by simp; omega)
          have HR2 := Lib.hid hrow2
          clear hrow2
          have hb3 := (hbx.alloc (by omega) _).trans (hb2.mono (by simp; omega))
          go_wp2_with fail
          have hsv64 := valP_lt (ts := ts) hs6 m
          have HSV := Lib.hid (show valP ts pts[k] m = valP ts pts[k] (ns.getD k 0) by rw [HM.out])
          generalize hnxg : pts[k].next = nx at *
          generalize hpg : pts[k] = pk at *
          generalize hsvg : valP ts pk m = sv at *
          have HNXG := Lib.hid hnxg
          clear hsvg hnxg hpg
          go_loopw [11, 60] (fun c i wy => ∃ (b : Bool) (j : Nat) (ns2 : List Nat), c = .bool b ∧ i = .int .i64 j ∧ j ≤ nx.length ∧ RowB wy w.heap.size 3 (iv ns2) ∧ FwdI false ts pts first ns2 ∧ (b = true → muF false ns2 < muF false ms) ∧ (b = false → (bc = false ∧ ns2 = ns) ∧ ∀ kk ∈ nx.take j, cmb false (ns.getD kk 0) sv = ns.getD kk 0) ∧ Below w.heap.size w wy) (fun _ i _ => nx.length - (intOf i).toNat)
          case atStart => exact ⟨bc, 0, ns, rfl, rfl, by omega, HR2.out, HFX.out, HMX.out, fun h => ⟨⟨h, rfl⟩, fun kk hkk => by simp at hkk⟩, hb3⟩
          case round =>
            obtain ⟨bd, j, ns2, rfl, rfl, hj, hry, hfy, hmy, hcy, hby⟩ := hrel
            have HFY := Lib.hid hfy
            have HMY := Lib.hid hmy
            have HCY := Lib.hid hcy
            have HRY := Lib.hid hry
            have hszy := hby.size
            have HLY := Lib.hid hfy.len
            clear hfy hmy hcy hry
            by_cases hjl : j < nx.length
            · have hjn : nx[j] ∈ nx := List.getElem_mem hjl
              have hkk := HNK.out _ hjn
              have hkk2 : nx[j] < ns2.length := by rw [HLY.out]; exact hkk
              obtain ⟨b1, off1, hA, hb1, hcell⟩ := Rd.int_at (l := nx.map fun k => ((k : Nat) : Int)) (by simpa using hrn.low hby hB) (k := j) (by simpa using hjl)
              subst hA
              have hck1 := hcell j (by simpa using hjl)
              rw [getD_lt (by simpa using hjl)] at hck1
              simp only [List.getElem_map] at hck1
              have HT := Lib.hid (take_succ_get nx j hjl)
              clear hcell
              obtain ⟨a, ha⟩ : ∃ a, a = ns2.getD nx[j] 0 := ⟨_, rfl⟩
              have ha64 : a < 64 := by
                rw [ha, getD_lt hkk2]
                exact Nat.lt_of_lt_of_le (HFY.out.small _ (List.getElem_mem hkk2)) (show 2 ^ ts.length ≤ 64 from Nat.pow_le_pow_right (n := 2) (by omega) h6)
              have hcka : wr.cell? ⟨w.heap.size, nx[j], none⟩ = some (.int .i64 (a : Nat)) := by
                rw [HRY.out.cell, iv_get hkk2, ha]
              have hfra := HRY.out.frozen nx[j]
              obtain ⟨r, hr⟩ : ∃ r, r = cmb false a sv := ⟨_, rfl⟩
              have hor : bits .or .i64 (a : Int) (sv : Int) = ((r : Nat) : Int) := by rw [or_small ha64 hsv64, hr]; rfl
              have HA := Lib.hid ha
              have HRR := Lib.hid hr
              clear ha hr
              have hupd := HFY.out.upd HSO.out HPG.out (by rw [HNXG.out]; exact hjn) hkk2
              rw [← HA.out, ← HRR.out] at hupd
              have HUPD := Lib.hid hupd
              clear hupd
              generalize hjj : nx[j] = jj at *
              have HJ := Lib.hid hjj
              clear hjj
              by_cases hra : r = a
              · subst hra
                go_wp2_with fail
                refine ⟨⟨bd, j + 1, ns2, rfl, by go_num, by omega, HRY.out, HFY.out, HMY.out, fun h => ?_, hby⟩, by simp [intOf]; omega⟩
                obtain ⟨⟨e1, e2⟩, e3⟩ := HCY.out h
                refine ⟨⟨e1, e2⟩, fun kk hkk => ?_⟩
                rw [HT.out, List.mem_append, List.mem_singleton] at hkk
                rcases hkk with hkk | rfl
                · exact e3 kk hkk
                · rw [← e2, ← HA.out]; exact HRR.out.symm
              · have hne : ((r : Int) != (a : Int)) = true := by simp; omega
                have HRA := Lib.hid hra
                clear hra
                go_wp2_with fail
                refine ⟨⟨true, j + 1, ns2.set jj r, rfl, by go_num, by omega, by rw [← iv_set]; exact HRY.out.set_ jj _, HUPD.out, fun _ => ?_, fun h => (by cases h), hby.setCell (p := ⟨w.heap.size, jj, none⟩) (Nat.le_refl _) _⟩, by simp [intOf]; omega⟩
                have hlt1 : muF false (ns2.set jj r) < muF false ns2 := by
                  have := mu_set (ev := false) (ms := ns2) (k := jj) (s := sv) hkk2 (by rw [← HA.out, ← HRR.out]; rw [HRR.out]; exact cmb_lt (n := 6) ha64 hsv64) (by rw [← HA.out, ← HRR.out]; exact HRA.out)
                  rwa [← HA.out, ← HRR.out] at this
                cases bd
                · obtain ⟨⟨e1, e2⟩, _⟩ := HCY.out (by simp)
                  have e4 := (HCX.out e1).1
                  rw [e2, e4] at hlt1
                  rw [e2, e4]; exact hlt1
                · exact Nat.lt_trans hlt1 (HMY.out (by simp))
            · go_wp2_with fail
              have hjl' : j = nx.length := by omega
              refine ⟨⟨bd, k + 1, ns2, rfl, by go_num, by omega, HRY.out, HFY.out, HMY.out, fun h => ?_, hby⟩, by simp [intOf]; omega⟩
              obtain ⟨⟨e1, e2⟩, e3⟩ := HCY.out h
              obtain ⟨e4, e5⟩ := HCX.out e1
              rw [take_all hjl'] at e3
              refine ⟨e2.trans e4, fun i hi => ?_⟩
              by_cases hik : i < k
              · exact e5 i hik
              · have : i = k := by omega
                subst this
                intro p hp kk hkk
                rw [HPG.out] at hp
                injection hp with hp
                subst hp
                rw [HNXG.out] at hkk
                have := e3 kk hkk
                rw [HSV.out, e4] at this
                exact this
        · go_wp2_with fail
          have hkl : k = pts.length := by omega
          cases bc
          · obtain ⟨e1, e2⟩ := HCX.out (by simp)
            go_roundg 0
            case measure => have := HMU.out (by simp); omega
            case rel => exact ⟨false, ns, rfl, HRX.out, HFX.out, fun h => (by cases h), fun _ i hi => (by rw [e1]; exact e2 i (by omega)), hbx⟩
          · go_roundg (muF false ns + 1)
            case measure => have := HMU.out (by simp); have := HMX.out (by simp); omega
            case rel => exact ⟨true, ns, rfl, HRX.out, HFX.out, fun _ => (by omega), fun h => (by cases h), hbx⟩

end Go.Proofs.Ytfioaohadanjmaa

namespace Go.Proofs.Ytfioaohadanjmaa
open Go.RowKit

set_option maxHeartbeats 1000000 in
theorem forward_always (vg : Value) (ts : List Int) (pts : List Pt) (B first : Nat) (w : World) (hg : GrS w B vg ts pts) (hB : B ≤ w.heap.size) (h6 : ts.length ≤ 6) (hpl : pts.length ≤ 4194304) (hf : first < 2 ^ ts.length) (hn : ∀ p ∈ pts, ∀ k ∈ p.next, k < pts.length) (hx : ∀ p ∈ pts, setsP p.op p.x < ts.length) (h0 : 0 < pts.length) :
    Calls Try.prog 81 #[vg, .int .i64 (first : Nat), .bool true, .func (.func 46) #[vg] #[]] w (IntsRet w (msk (fwdL true ts pts first))) := by
  have HG := Lib.hid hg
  have HX := Lib.hid hx
  have HN := Lib.hid hn
  have HF := Lib.hid hf
  clear hn hx hf
  obtain ⟨g, At, ct, vb, Al, cl, rfl, hgB, g0, g1, g2, ht, hp, htl, hpl'⟩ := hg.open_
  have hmk := make_ints pts.length (by omega)
  have hall64 := bm_lt64 h6 (fun _ => true)
  go_enter Try.func81, Try.ntmps81
  go_wp2_with fail
  generalize hall : bm ts.length (fun _ => true) = al at *
  have HAL := Lib.hid hall
  clear hall
  go_loopw [27] (fun i wr => ∃ k : Nat, k ≤ pts.length ∧ i = .int .i64 k ∧ RowB wr w.heap.size 3 (iv (List.replicate k al ++ List.replicate (pts.length - k) 0)) ∧ Below w.heap.size w wr) (fun i _ => pts.length - (intOf i).toNat)
  case atStart => exact ⟨0, Nat.zero_le _, rfl, by simpa using RowB.new w (iv (List.replicate pts.length 0)) 3, bel_a _ _⟩
  case round =>
   obtain ⟨k, hk, rfl, hrw, hbr⟩ := hrel
   have HRW := Lib.hid hrw
   have hszr := hbr.size
   clear hrw
   by_cases hlt : k < pts.length
   · have hck : wr.cell? ⟨w.heap.size, k, none⟩ = some (.int .i64 ((0 : Nat) : Int)) := by
       rw [HRW.out.cell, iv_get (by simp; omega), getD_lt (by simp; omega), List.getElem_append_right (by simp)]; simp
     have hfr := HRW.out.frozen k
     go_wp2_with fail
     refine (all_any _ ts pts B _ (HG.out.low hbr hB) h6).mono ?_
     rintro e w' ⟨rfl, rfl⟩
     rw [HAL.out]
     go_wp2_with fail
     refine ⟨⟨k + 1, by omega, by go_num, ?_, hbr.setCell (p := ⟨w.heap.size, k, none⟩) (Nat.le_refl _) _⟩, by simp [intOf]; omega⟩
     have h1 := HRW.out.set_ k (.int .i64 (al : Nat))
     rw [iv_set] at h1
     have e : (List.replicate k al ++ List.replicate (pts.length - k) 0).set k al = List.replicate (k + 1) al ++ List.replicate (pts.length - (k + 1)) 0 := by
       have e1 : List.replicate (pts.length - k) 0 = 0 :: List.replicate (pts.length - (k + 1)) 0 := by
         rw [show pts.length - k = (pts.length - (k + 1)) + 1 by omega]; rfl
       rw [e1, List.set_append_right _ _ (by simp)]
       simp [List.replicate_succ']
     rw [e] at h1
     exact h1
   · have hkl : k = pts.length := by omega
     have hrw := HRW.out
     rw [hkl, Nat.sub_self, List.replicate_zero, List.append_nil] at hrw
     have h00 : wr.cell? ⟨w.heap.size, 0, none⟩ = some (.int .i64 (al : Nat)) := by rw [hrw.cell, iv_get (by simpa using h0), getD_lt (by simpa using h0)]; simp
     have hfr := hrw.frozen 0
     have HRW2 := Lib.hid hrw
     clear hrw hkl
     go_wp2_with fail
     have hrow := HRW2.out.set_ 0 (.int .i64 (first : Nat))
     rw [iv_set] at hrow
     have hbw := hbr.setCell (p := ⟨w.heap.size, 0, none⟩) (Nat.le_refl _) (.int .i64 (first : Nat))
     clear hmk h00 hfr
     have hinit : FwdI true ts pts first ((List.replicate pts.length al).set 0 first) := by
       refine ⟨by simp, ?_, ?_, ?_⟩
       · intro m hm
         rcases List.mem_or_eq_of_mem_set hm with hm | rfl
         · rw [(List.mem_replicate.1 hm).2, ← HAL.out]; exact bm_lt _ _
         · exact HF.out
       · intro i v hi hv ha
         rw [getD_set (by simpa using h0)] at ha
         split at ha
         · rename_i e; subst e; exact .init hv ha
         · rw [getD_lt (by simpa using hi), List.getElem_replicate] at ha
           rw [← HAL.out] at ha
           simp [accB, bm_bit, hv] at ha
       · intro v hv ha
         rw [getD_set (by simpa using h0), if_pos rfl]; exact ha
     generalize (List.replicate pts.length al).set 0 first = ms0 at *
     go_loopg [11] (1 + muF true ms0) (fun gk c wr => ∃ (b : Bool) (ms : List Nat), c = .bool b ∧ RowB wr w.heap.size 3 (iv ms) ∧ FwdI true ts pts first ms ∧ (b = true → muF true ms < gk) ∧ (b = false → ∀ i, i < pts.length → ClosedAt true ts pts ms i) ∧ Below w.heap.size w wr)
     case atStart => exact ⟨true, ms0, rfl, hrow, hinit, fun _ => by omega, fun h => (by cases h), hbw⟩
     case round =>
       obtain ⟨bc, ms, rfl, hrw, hfw, hmu, hcl, hbr⟩ := hrel
       have HFW := Lib.hid hfw
       have HMU := Lib.hid hmu
       have HCL := Lib.hid hcl
       have HRW := Lib.hid hrw
       have hsz := hbr.size
       have hml := hfw.len
       have HML := Lib.hid hml
       have hgr := HG.out.low hbr hB
       have HGR := Lib.hid hgr
       have g0' := (hbr.cell (p := ⟨g, 0, none⟩) (by show g < _; omega)).trans g0
       have g2' := (hbr.cell (p := ⟨g, 2, none⟩) (by show g < _; omega)).trans g2
       clear hfw hmu hcl hrw hml hgr
       cases bc
       · go_wp2_with fail
         go_ret
         have e := HFW.out.done h6 HN.out h0 (HCL.out (by simp))
         refine ⟨_, rfl, ?_, hbr⟩
         rw [← e]
         have := HRW.out.ints (c := pts.length) (by rw [HML.out]; omega) (by rw [HML.out]; omega)
         rw [HML.out] at this
         exact this
       · go_wp2_with fail
         go_loopw [11, 45] (fun c i wx => ∃ (b : Bool) (k : Nat) (ns : List Nat), c = .bool b ∧ i = .int .i64 k ∧ k ≤ pts.length ∧ RowB wx w.heap.size 3 (iv ns) ∧ FwdI true ts pts first ns ∧ (b = true → muF true ns < muF true ms) ∧ (b = false → ns = ms ∧ ∀ i, i < k → ClosedAt true ts pts ms i) ∧ Below w.heap.size w wx) (fun _ i _ => pts.length - (intOf i).toNat)
         case atStart => exact ⟨false, 0, ms, rfl, rfl, by omega, HRW.out, HFW.out, fun h => (by cases h), fun _ => ⟨rfl, fun i hi => by omega⟩, hbr⟩
         case round =>
           obtain ⟨bc, k, ns, rfl, rfl, hk, hrw, hfw, hmu, hcl, hbx⟩ := hrel
           have HFX := Lib.hid hfw
           have HMX := Lib.hid hmu
           have HCX := Lib.hid hcl
           have HRX := Lib.hid hrw
           have hszx := hbx.size
           have hmlx := hfw.len
           have HMLX := Lib.hid hmlx
           clear hfw hmu hcl hrw hmlx
           by_cases hlt : k < pts.length
           · obtain ⟨b, off, c, nv, e, hb, hc, hl, hnx, p0, p1, p2, p3, p4⟩ := hp.get hlt
             have hbB : b < w.heap.size := by omega
             have q0 := (hbx.cell (p := ⟨b, off + k * 5, none⟩) hbB).trans p0
             have q1 := (hbx.cell (p := ⟨b, off + k * 5 + 1, none⟩) hbB).trans p1
             have q2 := (hbx.cell (p := ⟨b, off + k * 5 + 2, none⟩) hbB).trans p2
             have q3 := (hbx.cell (p := ⟨b, off + k * 5 + 3, none⟩) hbB).trans p3
             have q4 := (hbx.cell (p := ⟨b, off + k * 5 + 4, none⟩) hbB).trans p4
             clear p0 p1 p2 p3 p4
             injection e with e1 _ e2
             subst e1 e2
             have HNX := Lib.hid hnx
             obtain ⟨An, cn, rfl, hcn, hln, hrn⟩ := hnx
             simp only [List.length_map] at hcn hln q4
             obtain ⟨m, hm⟩ : ∃ m, m = ns.getD k 0 := ⟨_, rfl⟩
             have hkn : k < ns.length := by rw [HMLX.out]; exact hlt
             have hm64 : m < 64 := by
               rw [hm, getD_lt hkn]
               exact Nat.lt_of_lt_of_le (HFX.out.small _ (List.getElem_mem hkn)) (show 2 ^ ts.length ≤ 64 from Nat.pow_le_pow_right (n := 2) (by omega) h6)
             have hck : ∀ o, (wr.alloc o).cell? ⟨w.heap.size, k, none⟩ = some (.int .i64 (m : Nat)) := fun o => by
               rw [(HRX.out.alloc o).cell, iv_get hkn, hm]
             have hpk : pts[k] ∈ pts := List.getElem_mem hlt
             have hsk := HX.out _ hpk
             have hSO := HFX.out.setOf h6 (List.getElem?_eq_getElem hlt) hsk
             rw [← hm] at hSO
             have HSO := Lib.hid hSO
             have HM := Lib.hid hm
             have HPG := Lib.hid (List.getElem?_eq_getElem hlt)
             have hnk := HN.out _ hpk
             have HNK := Lib.hid hnk
             clear hm hSO hnk hpk
             have hs6 : setsP pts[k].op pts[k].x < 6 := by omega
             have HGX := Lib.hid (HG.out.low hbx hB)
             have g0'' := (hbx.cell (p := ⟨g, 0, none⟩) (by show g < _; omega)).trans g0
             go_wp2_with fail
             refine (valued_any _ ts pts B k m _ (HGX.out.low (bel_a _ _) (by omega)) (by simp; omega) h6 hlt hm64 hs6).mono ?_
             rintro e w2 ⟨rfl, hb2⟩
             have hbx4 := box_kept hb2 (by simp) 4
             simp at hbx4
             have hrow2 := (HRX.out.alloc _).low hb2 (by simp; omega)
             have HR2 := Lib.hid hrow2
             clear hrow2
             have hb3 := (hbx.alloc (by omega) _).trans (hb2.mono (by simp; omega))
             go_wp2_with fail
             have hsv64 := valP_lt (ts := ts) hs6 m
             have HSV := Lib.hid (show valP ts pts[k] m = valP ts pts[k] (ns.getD k 0) by rw [HM.out])
             generalize hnxg : pts[k].next = nx at *
             generalize hpg : pts[k] = pk at *
             generalize hsvg : valP ts pk m = sv at *
             have HNXG := Lib.hid hnxg
             clear hsvg hnxg hpg
             go_loopw [11, 60] (fun c i wy => ∃ (b : Bool) (j : Nat) (ns2 : List Nat), c = .bool b ∧ i = .int .i64 j ∧ j ≤ nx.length ∧ RowB wy w.heap.size 3 (iv ns2) ∧ FwdI true ts pts first ns2 ∧ (b = true → muF true ns2 < muF true ms) ∧ (b = false → (bc = false ∧ ns2 = ns) ∧ ∀ kk ∈ nx.take j, cmb true (ns.getD kk 0) sv = ns.getD kk 0) ∧ Below w.heap.size w wy) (fun _ i _ => nx.length - (intOf i).toNat)
             case atStart => exact ⟨bc, 0, ns, rfl, rfl, by omega, HR2.out, HFX.out, HMX.out, fun h => ⟨⟨h, rfl⟩, fun kk hkk => by simp at hkk⟩, hb3⟩
             case round =>
               obtain ⟨bd, j, ns2, rfl, rfl, hj, hry, hfy, hmy, hcy, hby⟩ := hrel
               have HFY := Lib.hid hfy
               have HMY := Lib.hid hmy
               have HCY := Lib.hid hcy
               have HRY := Lib.hid hry
               have hszy := hby.size
               have HLY := Lib.hid hfy.len
               clear hfy hmy hcy hry
               by_cases hjl : j < nx.length
               · have hjn : nx[j] ∈ nx := List.getElem_mem hjl
                 have hkk := HNK.out _ hjn
                 have hkk2 : nx[j] < ns2.length := by rw [HLY.out]; exact hkk
                 obtain ⟨b1, off1, hA, hb1, hcell⟩ := Rd.int_at (l := nx.map fun k => ((k : Nat) : Int)) (by simpa using hrn.low hby hB) (k := j) (by simpa using hjl)
                 subst hA
                 have hck1 := hcell j (by simpa using hjl)
                 rw [getD_lt (by simpa using hjl)] at hck1
                 simp only [List.getElem_map] at hck1
                 have HT := Lib.hid (take_succ_get nx j hjl)
                 clear hcell
                 obtain ⟨a, ha⟩ : ∃ a, a = ns2.getD nx[j] 0 := ⟨_, rfl⟩
                 have ha64 : a < 64 := by
                   rw [ha, getD_lt hkk2]
                   exact Nat.lt_of_lt_of_le (HFY.out.small _ (List.getElem_mem hkk2)) (show 2 ^ ts.length ≤ 64 from Nat.pow_le_pow_right (n := 2) (by omega) h6)
                 have hcka : wr.cell? ⟨w.heap.size, nx[j], none⟩ = some (.int .i64 (a : Nat)) := by
                   rw [HRY.out.cell, iv_get hkk2, ha]
                 have hfra := HRY.out.frozen nx[j]
                 obtain ⟨r, hr⟩ : ∃ r, r = cmb true a sv := ⟨_, rfl⟩
                 have hor : bits .and .i64 (a : Int) (sv : Int) = ((r : Nat) : Int) := by rw [and_small ha64 hsv64, hr]; rfl
                 have HA := Lib.hid ha
                 have HRR := Lib.hid hr
                 clear ha hr
                 have hupd := HFY.out.upd HSO.out HPG.out (by rw [HNXG.out]; exact hjn) hkk2
                 rw [← HA.out, ← HRR.out] at hupd
                 have HUPD := Lib.hid hupd
                 clear hupd
                 generalize hjj : nx[j] = jj at *
                 have HJ := Lib.hid hjj
                 clear hjj
                 by_cases hra : r = a
                 · subst hra
                   go_wp2_with fail
                   refine ⟨⟨bd, j + 1, ns2, rfl, by go_num, by omega, HRY.out, HFY.out, HMY.out, fun h => ?_, hby⟩, by simp [intOf]; omega⟩
                   obtain ⟨⟨e1, e2⟩, e3⟩ := HCY.out h
                   refine ⟨⟨e1, e2⟩, fun kk hkk => ?_⟩
                   rw [HT.out, List.mem_append, List.mem_singleton] at hkk
                   rcases hkk with hkk | rfl
                   · exact e3 kk hkk
                   · rw [← e2, ← HA.out]; exact HRR.out.symm
                 · have hne : ((r : Int) != (a : Int)) = true := by simp; omega
                   have HRA := Lib.hid hra
                   clear hra
                   go_wp2_with fail
                   refine ⟨⟨true, j + 1, ns2.set jj r, rfl, by go_num, by omega, by rw [← iv_set]; exact HRY.out.set_ jj _, HUPD.out, fun _ => ?_, fun h => (by cases h), hby.setCell (p := ⟨w.heap.size, jj, none⟩) (Nat.le_refl _) _⟩, by simp [intOf]; omega⟩
                   have hlt1 : muF true (ns2.set jj r) < muF true ns2 := by
                     have := mu_set (ev := true) (ms := ns2) (k := jj) (s := sv) hkk2 (by rw [← HA.out, ← HRR.out]; rw [HRR.out]; exact cmb_lt (n := 6) ha64 hsv64) (by rw [← HA.out, ← HRR.out]; exact HRA.out)
                     rwa [← HA.out, ← HRR.out] at this
                   cases bd
                   · obtain ⟨⟨e1, e2⟩, _⟩ := HCY.out (by simp)
                     have e4 := (HCX.out e1).1
                     rw [e2, e4] at hlt1
                     rw [e2, e4]; exact hlt1
                   · exact Nat.lt_trans hlt1 (HMY.out (by simp))
               · go_wp2_with fail
                 have hjl' : j = nx.length := by omega
                 refine ⟨⟨bd, k + 1, ns2, rfl, by go_num, by omega, HRY.out, HFY.out, HMY.out, fun h => ?_, hby⟩, by simp [intOf]; omega⟩
                 obtain ⟨⟨e1, e2⟩, e3⟩ := HCY.out h
                 obtain ⟨e4, e5⟩ := HCX.out e1
                 rw [take_all hjl'] at e3
                 refine ⟨e2.trans e4, fun i hi => ?_⟩
                 by_cases hik : i < k
                 · exact e5 i hik
                 · have : i = k := by omega
                   subst this
                   intro p hp kk hkk
                   rw [HPG.out] at hp
                   injection hp with hp
                   subst hp
                   rw [HNXG.out] at hkk
                   have := e3 kk hkk
                   rw [HSV.out, e4] at this
                   exact this
           · go_wp2_with fail
             have hkl : k = pts.length := by omega
             cases bc
             · obtain ⟨e1, e2⟩ := HCX.out (by simp)
               go_roundg 0
               case measure => have := HMU.out (by simp); omega
               case rel => exact ⟨false, ns, rfl, HRX.out, HFX.out, fun h => (by cases h), fun _ i hi => (by rw [e1]; exact e2 i (by omega)), hbx⟩
             · go_roundg (muF true ns + 1)
               case measure => have := HMU.out (by simp); have := HMX.out (by simp); omega
               case rel => exact ⟨true, ns, rfl, HRX.out, HFX.out, fun _ => (by omega), fun h => (by cases h), hbx⟩

end Go.Proofs.Ytfioaohadanjmaa
