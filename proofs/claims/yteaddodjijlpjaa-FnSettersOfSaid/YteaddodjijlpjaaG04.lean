import Derived.Test.YteaddodjijlpjaaG02
import Derived.Test.YteaddodjijlpjaaG03
import Derived.Test.YteaddodjijlpjaaG01
set_option linter.unusedVariables false

namespace Go.Proofs.Yteaddodjijlpjaa
open Go.RowKit

/-- behind a count: the counter's block holds a number, c more by n if the answer is yes; nothing else that was there has turned -/
def Counted (w w' : World) (g : Nat) (r : Bool) (c n : Nat) : Prop :=
  ∃ c' : Nat, w'.cell? ⟨g, 0, none⟩ = some (.int .i64 c') ∧ (r = true → c' = c + n) ∧ w'.frozen? ⟨g, 0, none⟩ = false ∧ w.grownBy w' (some g)

def Scan (m : Nat) : Prop := ∀ (vt : Value) (ts : List Int) (B g : Nat) (s : St) (d c : Nat) (nst : Int) (tv ev : Value) (w : World), s.sz ≤ m → d ≤ 4 → nst ≤ 4 - (d : Int) → 4 - (d : Int) ≤ nst → c ≤ 30 → IntS w B vt ts → B ≤ g → g < w.heap.size → StS w B tv s.th → StS w B ev s.el →
    w.cell? ⟨g, 0, none⟩ = some (.int .i64 c) → w.frozen? ⟨g, 0, none⟩ = false →
    Calls Try.prog 121 #[vt, .agg #[.int .i64 s.op, .int .i64 s.x, .int .i64 s.y, .int .i64 s.n, tv, ev], .int .i64 nst, .pointer (some ⟨g, 0, none⟩)] w
      fun e w' => e = .returned (.bool (stOk ts d s && decide (c + s.sz ≤ 30))) ∧ Counted w w' g (stOk ts d s && decide (c + s.sz ≤ 30)) c s.sz
def ScanAll (m : Nat) : Prop := ∀ (vt vb : Value) (ts : List Int) (B g : Nat) (l : List St) (d c : Nat) (nst : Int) (w : World), szL l ≤ m → d ≤ 4 → nst ≤ 4 - (d : Int) → 4 - (d : Int) ≤ nst → c ≤ 30 → IntS w B vt ts → B ≤ g → g < w.heap.size → StS w B vb l → 
    w.cell? ⟨g, 0, none⟩ = some (.int .i64 c) → w.frozen? ⟨g, 0, none⟩ = false →
    Calls Try.prog 97 #[vt, vb, .int .i64 nst, .pointer (some ⟨g, 0, none⟩)] w
      fun e w' => e = .returned (.bool (slOk ts d l && decide (c + szL l ≤ 30))) ∧ Counted w w' g (slOk ts d l && decide (c + szL l ≤ 30)) c (szL l)

theorem Counted.mk' {w w' : World} {g c n : Nat} {r : Bool} (c' : Nat) (h1 : w'.cell? ⟨g, 0, none⟩ = some (.int .i64 c')) (h2 : r = true → c' = c + n) (h3 : w'.frozen? ⟨g, 0, none⟩ = false) (h4 : w.grownBy w' (some g)) : Counted w w' g r c n := ⟨c', h1, h2, h3, h4⟩

/-- the world behind '*count++', the statement boxed -/
theorem counted_one {w : World} {g c : Nat} (o : Obj) (hg : g < w.heap.size) (hcell : w.cell? ⟨g, 0, none⟩ = some (.int .i64 c)) (hfr : w.frozen? ⟨g, 0, none⟩ = false) :
    ((w.setCell ⟨g, 0, none⟩ (.int .i64 ((c : Int) + 1))).alloc o).cell? ⟨g, 0, none⟩ = some (.int .i64 ((c + 1 : Nat) : Int)) ∧
    ((w.setCell ⟨g, 0, none⟩ (.int .i64 ((c : Int) + 1))).alloc o).frozen? ⟨g, 0, none⟩ = false ∧ w.grownBy ((w.setCell ⟨g, 0, none⟩ (.int .i64 ((c : Int) + 1))).alloc o) (some g) := by
  have hs : g < (w.setCell ⟨g, 0, none⟩ (.int .i64 ((c : Int) + 1))).heap.size := by simpa [World.setCell] using hg
  refine ⟨?_, ?_, grown_tr (grown_set w g 0 _) (World.grownBy_alloc _ _ _)⟩
  · rw [World.cell?_alloc_past _ _ _ hs, World.cell?_setCell_same _ _ _ hcell]; simp
  · rw [World.frozen?_alloc_past _ _ _ hs, World.frozen?_setCell]; exact hfr

set_option maxHeartbeats 1000000 in
theorem scan_of (m : Nat) (hbo : ScanAll m) : Scan (m + 1) := by
  intro vt ts B g s d c nst tv ev w hm hd hn1 hn2 hc ht hB hg hth hel hcell hfr
  have hsz := s.sz_eq
  have hm1 : szL s.th ≤ m := by omega
  have hm2 : szL s.el ≤ m := by omega
  have hse := stOk_eq ts d s
  have HSE := Lib.hid hse
  have HSZ := Lib.hid hsz
  clear hse hsz
  obtain ⟨A1, c1, rfl, hc1⟩ := hth.slice
  obtain ⟨A2, c2, rfl, hc2⟩ := hel.slice
  have hca : ∀ o, (w.alloc o).cell? ⟨g, 0, none⟩ = some (.int .i64 c) := fun o => (World.cell?_alloc_past _ _ _ hg).trans hcell
  have hfa : ∀ o, (w.alloc o).frozen? ⟨g, 0, none⟩ = false := fun o => (World.frozen?_alloc_past _ _ _ hg).trans hfr
  have K := fun o => counted_one o hg hcell hfr
  have HK := Lib.hid K
  clear K
  by_cases hlt : c + 1 ≤ 30
  · cases hbr : isBranchP s.op
    · have HBR := Lib.hid hbr
      clear hbr
      go_enter Try.func121, Try.ntmps121
      go_wp2_with fail
      refine (isBranch_any _ _).mono ?_
      rintro e w' ⟨rfl, rfl⟩
      rw [HBR.out]
      go_wp2_with fail
      have hk := HK.out
      by_cases hz : s.th = [] ∧ s.el = []
      · obtain ⟨e1, e2⟩ := hz
        refine (simpleOk_any vt ts B _ _ _ _ _ _ _ _ _ _ _ (ht.keep (grown_keep (HK.out _).2.2 hB hg)) (by simp [World.setCell]; omega) (by rw [e1]; rfl) (by rw [e2]; rfl)).mono ?_
        rintro e w1 ⟨rfl, hb⟩
        clear hk
        have hr : (stOk ts d s && decide (c + s.sz ≤ 30)) = simpleP ts s.op s.x s.y s.n := by
          have h1 : s.sz = 1 := by have := HSZ.out; rw [e1, e2] at this; simpa [szL] using this
          rw [HSE.out, HBR.out, h1, decide_eq_true hlt]
          simp [e1, e2]
        have h1 : s.sz = 1 := by have := HSZ.out; rw [e1, e2] at this; simpa [szL] using this
        have HR := Lib.hid hr
        have H1 := Lib.hid h1
        clear hr h1 e1 e2
        go_wp2_with fail
        go_ret
        rw [HR.out, H1.out]
        exact ⟨rfl, .mk' (c + 1) ((hb.cell (p := ⟨g, 0, none⟩) (by simp [World.setCell]; omega)).trans (HK.out _).1) (fun _ => rfl) ((hb.frozen (p := ⟨g, 0, none⟩) (by simp [World.setCell]; omega)).trans (HK.out _).2.1) (grown_tr (HK.out _).2.2 (grown_bel hb (Nat.le_refl _) _))⟩
      · refine (simpleOk_no vt ts B _ _ _ _ _ _ _ _ _ _ _ (ht.keep (grown_keep (HK.out _).2.2 hB hg)) (by simp [World.setCell]; omega) ?_).mono ?_
        · by_cases e1 : s.th = []
          · exact .inr ⟨by rw [e1]; rfl, List.length_pos_iff.2 (fun e2 => hz ⟨e1, e2⟩)⟩
          · exact .inl (List.length_pos_iff.2 e1)
        rintro e w1 ⟨rfl, hb⟩
        clear hk
        have hr : (stOk ts d s && decide (c + s.sz ≤ 30)) = false := by
          rw [HSE.out, HBR.out]
          by_cases e1 : s.th = []
          · have e2 : s.el ≠ [] := fun e2 => hz ⟨e1, e2⟩
            simp [e2]
          · simp [e1]
        have HR := Lib.hid hr
        clear hr hz
        go_wp2_with fail
        go_ret
        rw [HR.out]
        exact ⟨rfl, .mk' (c + 1) ((hb.cell (p := ⟨g, 0, none⟩) (by simp [World.setCell]; omega)).trans (HK.out _).1) (fun h => by cases h) ((hb.frozen (p := ⟨g, 0, none⟩) (by simp [World.setCell]; omega)).trans (HK.out _).2.1) (grown_tr (HK.out _).2.2 (grown_bel hb (Nat.le_refl _) _))⟩
    · have hbr2 : s.op = 9 ∨ s.op = 10 := by simpa [isBranchP] using hbr
      have HBR := Lib.hid hbr
      clear hbr
      have HC := Lib.hid hlt
      by_cases hok : 1 ≤ d ∧ s.x = 0 ∧ s.y = 0 ∧ s.n = 0 ∧ (s.op = 10 → s.el = [])
      · obtain ⟨hd1, hx, hy, hn, ho⟩ := hok
        have HEQ := Lib.hid (scan_eq (ts := ts) (c := c) hd1 hbr2 hx hy hn ho)
        have hn3 : nst < 4 := by omega
        rw [hx, hy, hn]
        clear hx hy hn HSE HSZ HBR
        have hoe : ∃ n2, s.el.length = n2 ∧ (s.op = 9 ∨ (s.op = 10 ∧ n2 = 0)) := ⟨_, rfl, hbr2.imp id fun h => ⟨h, by rw [ho h]; simp⟩⟩
        clear hbr2 ho hc2
        obtain ⟨n2, hn2', hoe⟩ := hoe
        rw [hn2'] at hel ⊢
        clear hn2'
        rcases hoe with hop | ⟨hop, rfl⟩
        all_goals
          rw [hop]
          clear hop
          cases h1 : (slOk ts (d - 1) s.th && decide (c + 1 + szL s.th ≤ 30))
          · have H1 := Lib.hid h1
            clear h1
            go_enter Try.func121, Try.ntmps121
            go_wp2_with (go_at_call 132; refine (isBranch_any _ _).mono ?_; rintro e w' ⟨rfl, rfl⟩; rw [show isBranchP _ = true from rfl])
            refine (hbo vt _ ts B g s.th (d - 1) (c + 1) (nst + 1) _ hm1 (by omega) (by omega) (by omega) HC.out (ht.keep (grown_keep (HK.out _).2.2 hB hg)) hB (by simp [World.setCell]; omega) (hth.keep (grown_keep (HK.out _).2.2 hB hg)) (HK.out _).1 (HK.out _).2.1).mono ?_
            rintro e w1 ⟨rfl, hcn⟩
            rw [H1.out] at hcn ⊢
            go_wp2_with fail
            go_ret
            rw [HEQ.out, H1.out]
            obtain ⟨c', g1, g2, g3, g4⟩ := hcn
            exact ⟨rfl, .mk' c' g1 (fun h => by cases h) g3 (grown_tr (HK.out _).2.2 g4)⟩
          · have H1 := Lib.hid h1
            clear h1
            go_enter Try.func121, Try.ntmps121
            go_wp2_with (go_at_call 132; refine (isBranch_any _ _).mono ?_; rintro e w' ⟨rfl, rfl⟩; rw [show isBranchP _ = true from rfl])
            refine (hbo vt _ ts B g s.th (d - 1) (c + 1) (nst + 1) _ hm1 (by omega) (by omega) (by omega) HC.out (ht.keep (grown_keep (HK.out _).2.2 hB hg)) hB (by simp [World.setCell]; omega) (hth.keep (grown_keep (HK.out _).2.2 hB hg)) (HK.out _).1 (HK.out _).2.1).mono ?_
            rintro e w1 ⟨rfl, hcn⟩
            rw [H1.out] at hcn ⊢
            obtain ⟨c', g1, g2, g3, g4⟩ := hcn
            have g2' := g2 rfl
            subst g2'
            have hbox := box_grown g4 (by rw [size_set]; exact hg) (size_set w ⟨g, 0, none⟩ (.int .i64 ((c : Int) + 1))).symm
            have G2 := Lib.hid g2
            have G4 := Lib.hid g4
            have hle : c + 1 + szL s.th ≤ 30 := by have := H1.out; simp at this; exact this.2
            have HG := Lib.hid g1
            have HS := Lib.hid (g4.size)
            clear g2 g4 g1
            go_wp2_with fail
            have G := grown_tr (HK.out _).2.2 G4.out
            refine (hbo vt _ ts B g s.el (d - 1) (c + 1 + szL s.th) (nst + 1) _ hm2 (by omega) (by omega) (by omega) hle (ht.keep (grown_keep G hB hg)) hB (by have := HS.out; simp [World.setCell] at this; omega) (hel.keep (grown_keep G hB hg)) HG.out g3).mono ?_
            rintro e w2 ⟨rfl, hcn⟩
            go_wp2_with fail
            go_ret
            rw [HEQ.out, H1.out]
            obtain ⟨c', k1, k2, k3, k4⟩ := hcn
            have := s.sz_eq
            exact ⟨rfl, .mk' c' k1 (fun h => by rw [k2 (by simpa using h)]; omega) k3 (grown_tr G k4)⟩
      · have HNO := Lib.hid (scan_no (ts := ts) (c := c) hbr2 hok)
        have hcase : (d = 0 ∧ nst = 4) ∨ (nst < 4 ∧ s.x ≠ 0) ∨ (nst < 4 ∧ s.x = 0 ∧ s.y ≠ 0) ∨ (nst < 4 ∧ s.x = 0 ∧ s.y = 0 ∧ s.n ≠ 0) ∨ (nst < 4 ∧ s.x = 0 ∧ s.y = 0 ∧ s.n = 0 ∧ s.op = 10 ∧ 0 < s.el.length) := by
          by_cases h0 : d = 0
          · exact .inl ⟨h0, by omega⟩
          · refine .inr ?_
            have hn3 : nst < 4 := by omega
            by_cases hx : s.x = 0
            · by_cases hy : s.y = 0
              · by_cases hn : s.n = 0
                · refine .inr (.inr (.inr ⟨hn3, hx, hy, hn, ?_⟩))
                  by_cases ho : s.op = 10
                  · exact ⟨ho, List.length_pos_iff.2 (fun e => hok ⟨by omega, hx, hy, hn, fun _ => e⟩)⟩
                  · exact absurd ⟨by omega, hx, hy, hn, fun e => absurd e ho⟩ hok
                · exact .inr (.inr (.inl ⟨hn3, hx, hy, hn⟩))
              · exact .inr (.inl ⟨hn3, hx, hy⟩)
            · exact .inl ⟨hn3, hx⟩
        clear hok hn1 hn2 HSE HSZ HBR
        rcases hcase with ⟨rfl, rfl⟩ | ⟨hn3, hx⟩ | ⟨hn3, hx, hy⟩ | ⟨hn3, hx, hy, hn⟩ | ⟨hn3, hx, hy, hn, ho, hl⟩
        case inr.inr.inr.inr =>
          rw [hx, hy, hn, ho]
          clear hx hy hn ho hbr2
          go_enter Try.func121, Try.ntmps121
          go_wp2_with (go_at_call 132; refine (isBranch_any _ _).mono ?_; rintro e w' ⟨rfl, rfl⟩; rw [show isBranchP _ = true from rfl])
          go_ret
          rw [HNO.out]
          exact ⟨rfl, .mk' _ (HK.out _).1 (by intro h; cases h) (HK.out _).2.1 (HK.out _).2.2⟩
        all_goals
          try rw [hx]
          try rw [hy]
          rcases hbr2 with hop | hop
          all_goals
            rw [hop]
            clear hop
            go_enter Try.func121, Try.ntmps121
            go_wp2_with (go_at_call 132; refine (isBranch_any _ _).mono ?_; rintro e w' ⟨rfl, rfl⟩; rw [show isBranchP _ = true from rfl])
            go_ret
            rw [HNO.out]
            exact ⟨rfl, .mk' _ (HK.out _).1 (by intro h; cases h) (HK.out _).2.1 (HK.out _).2.2⟩
  · have h30 : ¬ ((c : Int) + 1 ≤ 30) := by omega
    go_enter Try.func121, Try.ntmps121
    go_wp2_with fail
    go_ret
    have hf : (stOk ts d s && decide (c + s.sz ≤ 30)) = false := by rw [decide_eq_false (by have := s.sz_eq; omega)]; simp
    rw [hf]
    exact ⟨rfl, .mk' _ (HK.out _).1 (by intro h; cases h) (HK.out _).2.1 (HK.out _).2.2⟩
end Go.Proofs.Yteaddodjijlpjaa
