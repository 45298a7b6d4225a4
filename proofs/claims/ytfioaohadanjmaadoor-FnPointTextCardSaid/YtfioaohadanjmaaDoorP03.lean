import Derived.Test.YtfioaohadanjmaaDoorP02
import Derived.Test.YtfioaohadanjmaaDoorP01
set_option linter.unusedVariables false

namespace Go.Proofs.YtfioaohadanjmaaDoor
open Go.RowKit

/-- behind a count: the counter's block holds a number, c more by n if the answer is yes; nothing else that was there has turned -/
def Counted (w w' : World) (g : Nat) (r : Bool) (c n : Nat) : Prop :=
  ∃ c' : Nat, w'.cell? ⟨g, 0, none⟩ = some (.int .i64 c') ∧ (r = true → c' = c + n) ∧ w'.frozen? ⟨g, 0, none⟩ = false ∧ w.grownBy w' (some g)

def Scan (m : Nat) : Prop := ∀ (vt : Value) (ts : List Int) (B g : Nat) (s : St) (d c : Nat) (nst : Int) (tv ev : Value) (w : World), s.sz ≤ m → d ≤ 4 → nst ≤ 4 - (d : Int) → 4 - (d : Int) ≤ nst → c ≤ 30 → IntS w B vt ts → B ≤ g → g < w.heap.size → StS w B tv s.th → StS w B ev s.el →
    w.cell? ⟨g, 0, none⟩ = some (.int .i64 c) → w.frozen? ⟨g, 0, none⟩ = false →
    Calls Tryd.prog 44 #[vt, .agg #[.int .i64 s.op, .int .i64 s.x, .int .i64 s.y, .int .i64 s.n, tv, ev], .int .i64 nst, .pointer (some ⟨g, 0, none⟩)] w
      fun e w' => e = .returned (.bool (stOk ts d s && decide (c + s.sz ≤ 30))) ∧ Counted w w' g (stOk ts d s && decide (c + s.sz ≤ 30)) c s.sz
def ScanAll (m : Nat) : Prop := ∀ (vt vb : Value) (ts : List Int) (B g : Nat) (l : List St) (d c : Nat) (nst : Int) (w : World), szL l ≤ m → d ≤ 4 → nst ≤ 4 - (d : Int) → 4 - (d : Int) ≤ nst → c ≤ 30 → IntS w B vt ts → B ≤ g → g < w.heap.size → StS w B vb l → 
    w.cell? ⟨g, 0, none⟩ = some (.int .i64 c) → w.frozen? ⟨g, 0, none⟩ = false →
    Calls Tryd.prog 30 #[vt, vb, .int .i64 nst, .pointer (some ⟨g, 0, none⟩)] w
      fun e w' => e = .returned (.bool (slOk ts d l && decide (c + szL l ≤ 30))) ∧ Counted w w' g (slOk ts d l && decide (c + szL l ≤ 30)) c (szL l)

theorem Counted.mk' {w w' : World} {g c n : Nat} {r : Bool} (c' : Nat) (h1 : w'.cell? ⟨g, 0, none⟩ = some (.int .i64 c')) (h2 : r = true → c' = c + n) (h3 : w'.frozen? ⟨g, 0, none⟩ = false) (h4 : w.grownBy w' (some g)) : Counted w w' g r c n := ⟨c', h1, h2, h3, h4⟩

/-- the world behind '*count++', the statement boxed -/
theorem counted_one {w : World} {g c : Nat} (o : Obj) (hg : g < w.heap.size) (hcell : w.cell? ⟨g, 0, none⟩ = some (.int .i64 c)) (hfr : w.frozen? ⟨g, 0, none⟩ = false) :
    ((w.setCell ⟨g, 0, none⟩ (.int .i64 ((c : Int) + 1))).alloc o).cell? ⟨g, 0, none⟩ = some (.int .i64 ((c + 1 : Nat) : Int)) ∧
    ((w.setCell ⟨g, 0, none⟩ (.int .i64 ((c : Int) + 1))).alloc o).frozen? ⟨g, 0, none⟩ = false ∧ w.grownBy ((w.setCell ⟨g, 0, none⟩ (.int .i64 ((c : Int) + 1))).alloc o) (some g) := by
  have hs : g < (w.setCell ⟨g, 0, none⟩ (.int .i64 ((c : Int) + 1))).heap.size := by simpa [World.setCell] using hg
  refine ⟨?_, ?_, grown_tr (grown_set w g 0 _) (World.grownBy_alloc _ _ _)⟩
  · rw [World.cell?_alloc_past _ _ _ hs, World.cell?_setCell_same _ _ _ hcell]; simp
  · rw [World.frozen?_alloc_past _ _ _ hs, World.frozen?_setCell]; exact hfr

set_option maxHeartbeats 1000000 in
theorem scan_of (m : Nat) (hbo : ScanAll m) : Scan (m + 1) := by
  intro vt ts B g s d c nst tv ev w hm hd hn1 hn2 hc ht hB hg hth hel hcell hfr
  have hsz := s.sz_eq
  have hm1 : szL s.th ≤ m := by omega
  have hm2 : szL s.el ≤ m := by omega
  have hse := stOk_eq ts d s
  have HSE := Lib.hid hse
  have HSZ := Lib.hid hsz
  clear hse hsz
  obtain ⟨A1, c1, rfl, hc1⟩ := hth.slice
  obtain ⟨A2, c2, rfl, hc2⟩ := hel.slice
  have hca : ∀ o, (w.alloc o).cell? ⟨g, 0, none⟩ = some (.int .i64 c) := fun o => (World.cell?_alloc_past _ _ _ hg).trans hcell
  have hfa : ∀ o, (w.alloc o).frozen? ⟨g, 0, none⟩ = false := fun o => (World.frozen?_alloc_past _ _ _ hg).trans hfr
  have K := fun o => counted_one o hg hcell hfr
  have HK := Lib.hid K
  clear K
  by_cases hlt : c + 1 ≤ 30
  · cases hbr : isBranchP s.op
    · have HBR := Lib.hid hbr
      clear hbr
      go_enter Tryd.func44, Tryd.ntmps44
      go_wp2_with fail
      refine (isBranch_any _ _).mono ?_
      rintro e w' ⟨rfl, rfl⟩
      rw [HBR.out]
      go_wp2_with fail
      have hk := HK.out
      by_cases hz : s.th = [] ∧ s.el = []
      · obtain ⟨e1, e2⟩ := hz
        refine (simpleOk_any vt ts B _ _ _ _ _ _ _ _ _ _ _ (ht.keep (grown_keep (HK.out _).2.2 hB hg)) (by simp [World.setCell]; omega) (by rw [e1]; rfl) (by rw [e2]; rfl)).mono ?_
        rintro e w1 ⟨rfl, hb⟩
        clear hk
        have hr : (stOk ts d s && decide (c + s.sz ≤ 30)) = simpleP ts s.op s.x s.y s.n := by
          have h1 : s.sz = 1 := by have := HSZ.out; rw [e1, e2] at this; simpa [szL] using this
          rw [HSE.out, HBR.out, h1, decide_eq_true hlt]
          simp [e1, e2]
        have h1 : s.sz = 1 := by have := HSZ.out; rw [e1, e2] at this; simpa [szL] using this
        have HR := Lib.hid hr
        have H1 := Lib.hid h1
        clear hr h1 e1 e2
        go_wp2_with fail
        go_ret
        rw [HR.out, H1.out]
        exact ⟨rfl, .mk' (c + 1) ((hb.cell (p := ⟨g, 0, none⟩) (by simp [World.setCell]; omega)).trans (HK.out _).1) (fun _ => rfl) ((hb.frozen (p := ⟨g, 0, none⟩) (by simp [World.setCell]; omega)).trans (HK.out _).2.1) (grown_tr (HK.out _).2.2 (grown_bel hb (Nat.le_refl _) _))⟩
      · refine (simpleOk_no vt ts B _ _ _ _ _ _ _ _ _ _ _ (ht.keep (grown_keep (HK.out _).2.2 hB hg)) (by simp [World.setCell]; omega) ?_).mono ?_
        · by_cases e1 : s.th = []
          · exact .inr ⟨by rw [e1]; rfl, List.length_pos_iff.2 (fun e2 => hz ⟨e1, e2⟩)⟩
          · exact .inl (List.length_pos_iff.2 e1)
        rintro e w1 ⟨rfl, hb⟩
        clear hk
        have hr : (stOk ts d s && decide (c + s.sz ≤ 30)) = false := by
          rw [HSE.out, HBR.out]
          by_cases e1 : s.th = []
          · have e2 : s.el ≠ [] := fun e2 => hz ⟨e1, e2⟩
            simp [e2]
          · simp [e1]
        have HR := Lib.hid hr
        clear hr hz
        go_wp2_with fail
        go_ret
        rw [HR.out]
        exact ⟨rfl, .mk' (c + 1) ((hb.cell (p := ⟨g, 0, none⟩) (by simp [World.setCell]; omega)).trans (HK.out _).1) (fun h => by cases h) ((hb.frozen (p := ⟨g, 0, none⟩) (by simp [World.setCell]; omega)).trans (HK.out _).2.1) (grown_tr (HK.out _).2.2 (grown_bel hb (Nat.le_refl _) _))⟩
    · have hbr2 : s.op = 9 ∨ s.op = 10 := by simpa [isBranchP] using hbr
      have HBR := Lib.hid hbr
      clear hbr
      have HC := Lib.hid hlt
      by_cases hok : 1 ≤ d ∧ s.x = 0 ∧ s.y = 0 ∧ s.n = 0 ∧ (s.op = 10 → s.el = [])
      · obtain ⟨hd1, hx, hy, hn, ho⟩ := hok
        have HEQ := Lib.hid (scan_eq (ts := ts) (c := c) hd1 hbr2 hx hy hn ho)
        have hn3 : nst < 4 := by omega
        rw [hx, hy, hn]
        clear hx hy hn HSE HSZ HBR
        have hoe : ∃ n2, s.el.length = n2 ∧ (s.op = 9 ∨ (s.op = 10 ∧ n2 = 0)) := ⟨_, rfl, hbr2.imp id fun h => ⟨h, by rw [ho h]; simp⟩⟩
        clear hbr2 ho hc2
        obtain ⟨n2, hn2', hoe⟩ := hoe
        rw [hn2'] at hel ⊢
        clear hn2'
        rcases hoe with hop | ⟨hop, rfl⟩
        all_goals
          rw [hop]
          clear hop
          cases h1 : (slOk ts (d - 1) s.th && decide (c + 1 + szL s.th ≤ 30))
          · have H1 := Lib.hid h1
            clear h1
            go_enter Tryd.func44, Tryd.ntmps44
            go_wp2_with (go_at_call 53; refine (isBranch_any _ _).mono ?_; rintro e w' ⟨rfl, rfl⟩; rw [show isBranchP _ = true from rfl])
            refine (hbo vt _ ts B g s.th (d - 1) (c + 1) (nst + 1) _ hm1 (by omega) (by omega) (by omega) HC.out (ht.keep (grown_keep (HK.out _).2.2 hB hg)) hB (by simp [World.setCell]; omega) (hth.keep (grown_keep (HK.out _).2.2 hB hg)) (HK.out _).1 (HK.out _).2.1).mono ?_
            rintro e w1 ⟨rfl, hcn⟩
            rw [H1.out] at hcn ⊢
            go_wp2_with fail
            go_ret
            rw [HEQ.out, H1.out]
            obtain ⟨c', g1, g2, g3, g4⟩ := hcn
            exact ⟨rfl, .mk' c' g1 (fun h => by cases h) g3 (grown_tr (HK.out _).2.2 g4)⟩
          · have H1 := Lib.hid h1
            clear h1
            go_enter Tryd.func44, Tryd.ntmps44
            go_wp2_with (go_at_call 53; refine (isBranch_any _ _).mono ?_; rintro e w' ⟨rfl, rfl⟩; rw [show isBranchP _ = true from rfl])
            refine (hbo vt _ ts B g s.th (d - 1) (c + 1) (nst + 1) _ hm1 (by omega) (by omega) (by omega) HC.out (ht.keep (grown_keep (HK.out _).2.2 hB hg)) hB (by simp [World.setCell]; omega) (hth.keep (grown_keep (HK.out _).2.2 hB hg)) (HK.out _).1 (HK.out _).2.1).mono ?_
            rintro e w1 ⟨rfl, hcn⟩
            rw [H1.out] at hcn ⊢
            obtain ⟨c', g1, g2, g3, g4⟩ := hcn
            have g2' := g2 rfl
            subst g2'
            have hbox := box_grown g4 (by rw [size_set]; exact hg) (size_set w ⟨g, 0, none⟩ (.int .i64 ((c : Int) + 1))).symm
            have G2 := Lib.hid g2
            have G4 := Lib.hid g4
            have hle : c + 1 + szL s.th ≤ 30 := by have := H1.out; simp at this; exact this.2
            have HG := Lib.hid g1
            have HS := Lib.hid (g4.size)
            clear g2 g4 g1
            go_wp2_with fail
            have G := grown_tr (HK.out _).2.2 G4.out
            refine (hbo vt _ ts B g s.el (d - 1) (c + 1 + szL s.th) (nst + 1) _ hm2 (by omega) (by omega) (by omega) hle (ht.keep (grown_keep G hB hg)) hB (by have := HS.out; simp [World.setCell] at this; omega) (hel.keep (grown_keep G hB hg)) HG.out g3).mono ?_
            rintro e w2 ⟨rfl, hcn⟩
            go_wp2_with fail
            go_ret
            rw [HEQ.out, H1.out]
            obtain ⟨c', k1, k2, k3, k4⟩ := hcn
            have := s.sz_eq
            exact ⟨rfl, .mk' c' k1 (fun h => by rw [k2 (by simpa using h)]; omega) k3 (grown_tr G k4)⟩
      · have HNO := Lib.hid (scan_no (ts := ts) (c := c) hbr2 hok)
        have hcase : (d = 0 ∧ nst = 4) ∨ (nst < 4 ∧ s.x ≠ 0) ∨ (nst < 4 ∧ s.x = 0 ∧ s.y ≠ 0) ∨ (nst < 4 ∧ s.x = 0 ∧ s.y = 0 ∧ s.n ≠ 0) ∨ (nst < 4 ∧ s.x = 0 ∧ s.y = 0 ∧ s.n = 0 ∧ s.op = 10 ∧ 0 < s.el.length) := by
          by_cases h0 : d = 0
          · exact .inl ⟨h0, by omega⟩
          · refine .inr ?_
            have hn3 : nst < 4 := by omega
            by_cases hx : s.x = 0
            · by_cases hy : s.y = 0
              · by_cases hn : s.n = 0
                · refine .inr (.inr (.inr ⟨hn3, hx, hy, hn, ?_⟩))
                  by_cases ho : s.op = 10
                  · exact ⟨ho, List.length_pos_iff.2 (fun e => hok ⟨by omega, hx, hy, hn, fun _ => e⟩)⟩
                  · exact absurd ⟨by omega, hx, hy, hn, fun e => absurd e ho⟩ hok
                · exact .inr (.inr (.inl ⟨hn3, hx, hy, hn⟩))
              · exact .inr (.inl ⟨hn3, hx, hy⟩)
            · exact .inl ⟨hn3, hx⟩
        clear hok hn1 hn2 HSE HSZ HBR
        rcases hcase with ⟨rfl, rfl⟩ | ⟨hn3, hx⟩ | ⟨hn3, hx, hy⟩ | ⟨hn3, hx, hy, hn⟩ | ⟨hn3, hx, hy, hn, ho, hl⟩
        case inr.inr.inr.inr =>
          rw [hx, hy, hn, ho]
          clear hx hy hn ho hbr2
          go_enter Tryd.func44, Tryd.ntmps44
          go_wp2_with (go_at_call 53; refine (isBranch_any _ _).mono ?_; rintro e w' ⟨rfl, rfl⟩; rw [show isBranchP _ = true from rfl])
          go_ret
          rw [HNO.out]
          exact ⟨rfl, .mk' _ (HK.out _).1 (by intro h; cases h) (HK.out _).2.1 (HK.out _).2.2⟩
        all_goals
          try rw [hx]
          try rw [hy]
          rcases hbr2 with hop | hop
          all_goals
            rw [hop]
            clear hop
            go_enter Tryd.func44, Tryd.ntmps44
            go_wp2_with (go_at_call 53; refine (isBranch_any _ _).mono ?_; rintro e w' ⟨rfl, rfl⟩; rw [show isBranchP _ = true from rfl])
            go_ret
            rw [HNO.out]
            exact ⟨rfl, .mk' _ (HK.out _).1 (by intro h; cases h) (HK.out _).2.1 (HK.out _).2.2⟩
  · have h30 : ¬ ((c : Int) + 1 ≤ 30) := by omega
    go_enter Tryd.func44, Tryd.ntmps44
    go_wp2_with fail
    go_ret
    have hf : (stOk ts d s && decide (c + s.sz ≤ 30)) = false := by rw [decide_eq_false (by have := s.sz_eq; omega)]; simp
    rw [hf]
    exact ⟨rfl, .mk' _ (HK.out _).1 (by intro h; cases h) (HK.out _).2.1 (HK.out _).2.2⟩
end Go.Proofs.YtfioaohadanjmaaDoor

namespace Go.Proofs.YtfioaohadanjmaaDoor
open Go.RowKit

/-- what spec.l1Stmt answers, for statements of at most m statements -/
def L1Stmt (m : Nat) : Prop := ∀ (vt : Value) (ts : List Int) (B : Nat) (s : St) (d : Nat) (tv ev : Value) (w : World), s.sz ≤ m → d ≤ 4 → IntS w B vt ts → B ≤ w.heap.size → tsOkP ts = true → StS w B tv s.th → StS w B ev s.el →
    Calls Tryd.prog 56 #[vt, .agg #[.int .i64 s.op, .int .i64 s.x, .int .i64 s.y, .int .i64 s.n, tv, ev], .int .i64 d] w fun e w' => e = .returned (.bool (stOk ts d s)) ∧ Below w.heap.size w w'
def L1Body (m : Nat) : Prop := ∀ (vt vb : Value) (ts : List Int) (B : Nat) (l : List St) (d : Nat) (w : World), szL l ≤ m → d ≤ 4 → IntS w B vt ts → B ≤ w.heap.size → tsOkP ts = true → StS w B vb l → 
    Calls Tryd.prog 47 #[vt, vb, .int .i64 d] w fun e w' => e = .returned (.bool (slOk ts d l)) ∧ Below w.heap.size w w'

set_option maxHeartbeats 400000 in
theorem l1Body_of (m : Nat) (hM : m ≤ 4194304) (hst : L1Stmt m) : L1Body m := by
  intro vt vb ts B l d w hm hd ht hB hts hl
  have hll := len_le_szL l
  obtain ⟨A, c, rfl, hc⟩ := hl.slice
  have HTS := Lib.hid hts
  clear hts
  go_enter Tryd.func47, Tryd.ntmps47
  go_wp2
  go_loopw [7] (fun i wr => ∃ k : Nat, k ≤ l.length ∧ i = .int .i64 k ∧ slOk ts d (l.take k) = true ∧ Below w.heap.size w wr) (fun i _ => l.length - (intOf i).toNat)
  case atStart => exact ⟨0, Nat.zero_le _, rfl, rfl, Below.refl _ _⟩
  case round =>
    obtain ⟨k, hk, rfl, hok, hbw⟩ := hrel
    have HOK := Lib.hid hok
    clear hok
    by_cases hlt : k < l.length
    · obtain ⟨b, off, tv, ev, rfl, hb, hth, hel, c0, c1, c2, c3, c4, c5⟩ := (hl.low hbw hB).get hlt
      have hsz := szL_mem hlt
      have hsz2 := hbw.size
      go_wp2_with fail
      refine (hst vt ts B l[k] d tv ev _ (by omega) hd (ht.low hbw hB) (by omega) HTS.out hth hel).mono ?_
      rintro e w1 ⟨rfl, hb1⟩
      cases hs : stOk ts d l[k]
      · go_wp2
        go_ret
        exact ⟨ret_bool (slOk_not hlt hs).symm, hbw.trans (hb1.mono (by omega))⟩
      · have HS := Lib.hid hs
        clear hs
        go_wp2
        refine ⟨⟨k + 1, by omega, by go_num, ?_, hbw.trans (hb1.mono (by omega))⟩, by simp [intOf]; omega⟩
        rw [take_succ_get l k hlt, slOk_append, HOK.out]
        simp [slOk, HS.out]
    · have hkl : k = l.length := by omega
      have h := HOK.out
      rw [take_all hkl] at h
      have H := Lib.hid h
      clear h hkl
      go_wp2
      go_ret
      exact ⟨ret_bool H.out.symm, hbw⟩

set_option maxHeartbeats 1000000 in
theorem l1Stmt_of (m : Nat) (hbo : L1Body m) : L1Stmt (m + 1) := by
  intro vt ts B s d tv ev w hm hd ht hB hts hth hel
  have hsz := s.sz_eq
  have hm1 : szL s.th ≤ m := by omega
  have hm2 : szL s.el ≤ m := by omega
  have hse := stOk_eq ts d s
  have HTS := Lib.hid hts
  have HSE := Lib.hid hse
  clear hts hse hsz
  obtain ⟨A1, c1, rfl, hc1⟩ := hth.slice
  obtain ⟨A2, c2, rfl, hc2⟩ := hel.slice
  cases hbr : isBranchP s.op
  · have h1 : (s.op != 9) = true := by simp [isBranchP] at hbr ⊢; exact hbr.1
    have h2 : (s.op != 10) = true := by simp [isBranchP] at hbr ⊢; exact hbr.2
    have HBR := Lib.hid hbr
    clear hbr
    go_enter Tryd.func56, Tryd.ntmps56
    go_wp2_with (go_at_call 66; refine (l1Simple_any vt ts B _ _ _ _ _ _ _ (ht.low (bel_a _ _) hB) (by simp; omega) HTS.out).mono ?_; rintro e w' ⟨rfl, hb1⟩)
    · have e1 : s.th = [] := by assumption
      have e2 : s.el = [] := by assumption
      go_ret
      refine ⟨ret_bool ?_, (bel_a _ _).trans (hb1.mono (by simp))⟩
      rw [HSE.out, HBR.out]
      simp [e1, e2]
    · have e2 : ¬ s.el = [] := by assumption
      go_ret
      refine ⟨ret_bool ?_, bel_a _ _⟩
      rw [HSE.out, HBR.out]
      simp [e2]
    · have e2 : ¬ s.th = [] := by assumption
      go_ret
      refine ⟨ret_bool ?_, bel_a _ _⟩
      rw [HSE.out, HBR.out]
      simp [e2]
  · have hbr2 : s.op = 9 ∨ s.op = 10 := by simpa [isBranchP] using hbr
    have HBR := Lib.hid hbr
    clear hbr
    cases d with
    | zero =>
      rcases hbr2 with hop | hop
      all_goals
        rw [hop] at HSE ⊢
        clear hop
        go_enter Tryd.func56, Tryd.ntmps56
        go_wp2
        go_ret
        refine ⟨ret_bool ?_, bel_a _ _⟩
        rw [HSE.out]
        simp [isBranchP]
    | succ d =>
      by_cases hz : s.x = 0 ∧ s.y = 0 ∧ s.n = 0
      · obtain ⟨hx, hy, hn⟩ := hz
        rw [hx, hy, hn] at HSE ⊢
        clear hx hy hn
        rcases hbr2 with hop | hop
        · rw [hop] at HSE ⊢
          clear hop
          cases h1 : slOk ts d s.th
          · have H1 := Lib.hid h1
            clear h1
            go_enter Tryd.func56, Tryd.ntmps56
            go_wp2_with fail
            refine (hbo vt _ ts B s.th d _ hm1 (by omega) (ht.low (bel_a _ _) hB) (by simp; omega) HTS.out (hth.low (bel_a _ _) hB)).mono ?_
            rintro e w1 ⟨rfl, hb1⟩
            rw [H1.out]
            go_wp2
            go_ret
            refine ⟨ret_bool ?_, (bel_a _ _).trans (hb1.mono (by simp))⟩
            rw [HSE.out]
            simp [isBranchP, H1.out]
          · have H1 := Lib.hid h1
            clear h1
            go_enter Tryd.func56, Tryd.ntmps56
            go_wp2_with fail
            refine (hbo vt _ ts B s.th d _ hm1 (by omega) (ht.low (bel_a _ _) hB) (by simp; omega) HTS.out (hth.low (bel_a _ _) hB)).mono ?_
            rintro e w1 ⟨rfl, hb1⟩
            rw [H1.out]
            have hb2 := (bel_a _ _).trans (hb1.mono (by simp))
            have hs2 := hb2.size
            have hc := box_kept hb1 (by simp)
            go_wp2_with fail
            refine (hbo vt _ ts B s.el d _ hm2 (by omega) (ht.low hb2 hB) (by omega) HTS.out (hel.low hb2 hB)).mono ?_
            rintro e w2 ⟨rfl, hb3⟩
            go_wp2
            go_ret
            refine ⟨ret_bool ?_, hb2.trans (hb3.mono (by omega))⟩
            rw [HSE.out]
            simp [isBranchP, H1.out]
        · rw [hop] at HSE ⊢
          clear hop
          by_cases hel0 : s.el = []
          · rw [hel0] at hel HSE ⊢
            clear hel0 hc2 hm2
            cases h1 : slOk ts d s.th
            · have H1 := Lib.hid h1
              clear h1
              go_enter Tryd.func56, Tryd.ntmps56
              go_wp2_with fail
              refine (hbo vt _ ts B s.th d _ hm1 (by omega) (ht.low (bel_a _ _) hB) (by simp; omega) HTS.out (hth.low (bel_a _ _) hB)).mono ?_
              rintro e w1 ⟨rfl, hb1⟩
              rw [H1.out]
              go_wp2
              go_ret
              refine ⟨ret_bool ?_, (bel_a _ _).trans (hb1.mono (by simp))⟩
              rw [HSE.out]
              simp [isBranchP, H1.out]
            · have H1 := Lib.hid h1
              clear h1
              go_enter Tryd.func56, Tryd.ntmps56
              go_wp2_with fail
              refine (hbo vt _ ts B s.th d _ hm1 (by omega) (ht.low (bel_a _ _) hB) (by simp; omega) HTS.out (hth.low (bel_a _ _) hB)).mono ?_
              rintro e w1 ⟨rfl, hb1⟩
              rw [H1.out]
              have hb2 := (bel_a _ _).trans (hb1.mono (by simp))
              have hs2 := hb2.size
              have hc := box_kept hb1 (by simp)
              go_wp2_with fail
              refine (hbo vt _ ts B [] d _ (by simp [szL]) (by omega) (ht.low hb2 hB) (by omega) HTS.out (hel.low hb2 hB)).mono ?_
              rintro e w2 ⟨rfl, hb3⟩
              go_wp2
              go_ret
              refine ⟨ret_bool ?_, hb2.trans (hb3.mono (by omega))⟩
              rw [HSE.out]
              simp [isBranchP, H1.out, slOk]
          · have hpos : 0 < s.el.length := List.length_pos_iff.2 hel0
            have HEL := Lib.hid hel0
            clear hel0
            go_enter Tryd.func56, Tryd.ntmps56
            go_wp2_with fail
            go_ret
            refine ⟨ret_bool ?_, bel_a _ _⟩
            rw [HSE.out]
            have := HEL.out
            simp [isBranchP, this]
      · have hz' : (s.x == 0 && s.y == 0 && s.n == 0) = false := by simp; omega
        have HZ := Lib.hid hz'
        clear hz'
        rcases hbr2 with hop | hop
        all_goals
          rw [hop] at HSE ⊢
          clear hop
          by_cases hx : s.x = 0
          · rw [hx] at hz
            by_cases hy : s.y = 0
            · have hn : (s.n != 0) = true := by simp; intro h; exact hz ⟨rfl, hy, h⟩
              clear hz
              go_enter Tryd.func56, Tryd.ntmps56
              go_wp2
              go_ret
              refine ⟨ret_bool ?_, bel_a _ _⟩
              rw [HSE.out, HZ.out]
              simp [isBranchP]
            · clear hz
              go_enter Tryd.func56, Tryd.ntmps56
              go_wp2
              go_ret
              refine ⟨ret_bool ?_, bel_a _ _⟩
              rw [HSE.out, HZ.out]
              simp [isBranchP]
          · clear hz
            go_enter Tryd.func56, Tryd.ntmps56
            go_wp2
            go_ret
            refine ⟨ret_bool ?_, bel_a _ _⟩
            rw [HSE.out, HZ.out]
            simp [isBranchP]

end Go.Proofs.YtfioaohadanjmaaDoor

namespace Go.Proofs.YtfioaohadanjmaaDoor
open Go.RowKit

set_option maxHeartbeats 400000 in
theorem scanAll_of (m : Nat) (hM : m ≤ 4194304) (hst : Scan m) : ScanAll m := by
  intro vt vb ts B g l d c nst w hm hd hn1 hn2 hc ht hB hg hl hcell hfr
  have hll := len_le_szL l
  obtain ⟨A, cp, rfl, hcp⟩ := hl.slice
  go_enter Tryd.func30, Tryd.ntmps30
  go_wp2
  go_loopw [13] (fun i wr => ∃ k c' : Nat, k ≤ l.length ∧ i = .int .i64 k ∧ slOk ts d (l.take k) = true ∧ c' = c + szL (l.take k) ∧ c' ≤ 30 ∧ wr.cell? ⟨g, 0, none⟩ = some (.int .i64 c') ∧ wr.frozen? ⟨g, 0, none⟩ = false ∧ w.grownBy wr (some g)) (fun i _ => l.length - (intOf i).toNat)
  case atStart => exact ⟨0, c, Nat.zero_le _, rfl, rfl, by simp [szL], hc, hcell, hfr, World.grownBy.refl _ _⟩
  case round =>
    obtain ⟨k, c', hk, rfl, hok, hc', hc30, hcl, hf, hgr⟩ := hrel
    have HOK := Lib.hid hok
    have HC := Lib.hid hc'
    have HCL := Lib.hid hcl
    have HF := Lib.hid hf
    have hsz2 := hgr.size
    clear hok hc' hcl hf
    by_cases hlt : k < l.length
    · obtain ⟨b, off, tv, ev, rfl, hb, hth, hel, q0, q1, q2, q3, q4, q5⟩ := (hl.keep (grown_keep hgr hB hg)).get hlt
      have hsz := szL_mem hlt
      obtain ⟨A1, c1, rfl, hc1⟩ := hth.slice
      obtain ⟨A2, c2, rfl, hc2⟩ := hel.slice
      have hgw : g < wr.heap.size := by omega
      have hca : ∀ o, (wr.alloc o).cell? ⟨g, 0, none⟩ = _ := fun o => (World.cell?_alloc_past _ _ _ hgw).trans HCL.out
      have hfa : ∀ o, (wr.alloc o).frozen? ⟨g, 0, none⟩ = _ := fun o => (World.frozen?_alloc_past _ _ _ hgw).trans HF.out
      have HCA := Lib.hid hca
      have HFA := Lib.hid hfa
      clear hca hfa
      go_wp2_with fail
      refine (hst vt ts B g l[k] d c' nst _ _ _ (by omega) hd hn1 hn2 hc30 (ht.keep (grown_keep (grown_tr hgr (World.grownBy_alloc _ _ _)) hB hg)) hB (by simp; omega) (hth.keep (grown_keep (World.grownBy_alloc _ _ _) hB hgw)) (hel.keep (grown_keep (World.grownBy_alloc _ _ _) hB hgw)) (HCA.out _) (HFA.out _)).mono ?_
      rintro e w1 ⟨rfl, hcn⟩
      have HG := Lib.hid (grown_tr hgr (World.grownBy_alloc wr (.cells #[.int .i64 l[k].op, .int .i64 l[k].x, .int .i64 l[k].y, .int .i64 l[k].n, .slice A1 l[k].th.length c1, .slice A2 l[k].el.length c2] 47) (some g)))
      cases hr : (stOk ts d l[k] && decide (c' + l[k].sz ≤ 30))
      · rw [hr] at hcn
        have HR := Lib.hid hr
        clear hr
        go_wp2_with fail
        go_ret
        have hf : (slOk ts d l && decide (c + szL l ≤ 30)) = false := by
          rw [Bool.eq_false_iff]
          intro h
          simp only [Bool.and_eq_true, decide_eq_true_eq] at h
          have h1 := HR.out
          rw [slOk_mem h.1 hlt, HC.out] at h1
          have h2 := szL_take_succ l k hlt
          have h3 := szL_take_le l (k + 1)
          have h4 := l[k].sz_eq
          simp at h1
          omega
        rw [hf]
        obtain ⟨c2, g1, g2, g3, g4⟩ := hcn
        exact ⟨rfl, .mk' c2 g1 (fun h => by cases h) g3 (grown_tr HG.out g4)⟩
      · rw [hr] at hcn
        have HR := Lib.hid hr
        clear hr
        obtain ⟨c2, g1, g2, g3, g4⟩ := hcn
        have G1 := Lib.hid g1
        have G2 := Lib.hid (g2 rfl)
        clear g1 g2
        go_wp2_with fail
        have h1 := HR.out
        have h2 := szL_take_succ l k hlt
        have h4 := l[k].sz_eq
        have h5 := HC.out
        have h6 := G2.out
        simp only [Bool.and_eq_true, decide_eq_true_eq] at h1
        refine ⟨⟨k + 1, c2, by omega, by go_num, ?_, by omega, by omega, G1.out, g3, grown_tr HG.out g4⟩, by simp [intOf]; omega⟩
        rw [take_succ_get l k hlt, slOk_append, HOK.out]
        simp [slOk, h1.1]
    · have hkl : k = l.length := by omega
      have h := HOK.out
      have h' := HC.out
      rw [take_all hkl] at h h'
      have H := Lib.hid h
      have H' := Lib.hid h'
      clear h h' hkl
      go_wp2
      go_ret
      have hf : (slOk ts d l && decide (c + szL l ≤ 30)) = true := by
        rw [H.out, decide_eq_true (by have := H'.out; omega)]; rfl
      rw [hf]
      exact ⟨rfl, .mk' c' HCL.out (fun _ => H'.out) HF.out hgr⟩

theorem scan_all (m : Nat) (hM : m ≤ 4194304) : ScanAll m ∧ Scan m := by
  induction m with
  | zero =>
    have h : Scan 0 := fun vt ts B g s d c nst tv ev w hm => by have := s.sz_eq; omega
    exact ⟨scanAll_of 0 hM h, h⟩
  | succ m ih =>
    have h := scan_of m (ih (by omega)).1
    exact ⟨scanAll_of (m + 1) hM h, h⟩
theorem l1_all (m : Nat) (hM : m ≤ 4194304) : L1Body m ∧ L1Stmt m := by
  induction m with
  | zero =>
    have h : L1Stmt 0 := fun vt ts B s d tv ev w hm => by have := s.sz_eq; omega
    exact ⟨l1Body_of 0 hM h, h⟩
  | succ m ih =>
    have h := l1Stmt_of m (ih (by omega)).1
    exact ⟨l1Body_of (m + 1) hM h, h⟩

end Go.Proofs.YtfioaohadanjmaaDoor
