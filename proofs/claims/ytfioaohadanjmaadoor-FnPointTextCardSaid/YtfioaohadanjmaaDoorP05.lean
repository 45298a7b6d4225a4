import Derived.Test.YtfioaohadanjmaaDoorP01
import Derived.Test.YtfioaohadanjmaaDoorP04
set_option linter.unusedVariables false

namespace Go.Proofs.YtfioaohadanjmaaDoor
open Go.RowKit

/-- what impl.pointsOf leaves -/
def PtsPost (w : World) (base : Nat) (pts : List Pt) (e : Ending) (w' : World) : Prop := ∃ v', e = .returned v' ∧ PtsO w' base v' pts ∧ Evo base 25 w w'

def PointsOf (m : Nat) : Prop := ∀ (vl vo : Value) (l : List St) (pts : List Pt) (B base : Nat) (w : World), szL l ≤ m → StS w B vl l → B ≤ base → base ≤ w.heap.size → PtsO w base vo pts → pts.length + 2 * szL l ≤ 8388608 →
    Calls Tryd.prog 31 #[vl, vo] w (PtsPost w base (pts ++ ptsL pts.length l))

set_option maxHeartbeats 1000000 in
set_option maxRecDepth 100000 in
theorem pointsOf_of (m : Nat) (hM : m ≤ 4194304) (ih : ∀ j, j < m → PointsOf j) : PointsOf m := by
  intro vl vo l pts B base w hm hl hB hbase hP hlen
  have hll := len_le_szL l
  obtain ⟨A, c, rfl, hc⟩ := hl.slice
  go_enter Tryd.func31, Tryd.ntmps31
  go_wp2_with fail
  go_loopw [1, 11] (fun v i wr => ∃ (k : Nat) (cur : List Pt), k ≤ l.length ∧ i = .int .i64 k ∧ cur = pts ++ ptsL pts.length (l.take k) ∧ PtsO wr base v cur ∧ Evo base 25 w wr) (fun _ i _ => l.length - (intOf i).toNat)
  case atStart => exact ⟨0, pts, Nat.zero_le _, rfl, by simp [ptsL], hP, Evo.refl _ _ _⟩
  case round =>
    obtain ⟨k, cur, hk, rfl, hcur, hPk, hev⟩ := hrel
    have HC := Lib.hid hcur
    clear hcur
    have HP := Lib.hid hPk
    have HE := Lib.hid hev
    clear hPk
    have hsw := hev.size
    by_cases hlt : k < l.length
    · obtain ⟨b, off, tv, ev, rfl, hb, hth, hel, q0, q1, q2, q3, q4, q5⟩ := (hl.low (hev.below hbase) hB).get hlt
      obtain ⟨A1, c1, rfl, hc1⟩ := hth.slice
      obtain ⟨A2, c2, rfl, hc2⟩ := hel.slice
      have hsz := szL_mem hlt
      have hs1 := l[k].sz_eq
      have hpos : 1 ≤ l[k].sz := by omega
      have ht2 := szL_take_le l (k + 1)
      have ht3 := szL_take_succ l k hlt
      have hpl := ptsL_le pts.length (l.take k)
      have hcl : cur.length + 2 * l[k].sz ≤ 8388608 := by rw [HC.out, List.length_append]; omega
      clear hev
      obtain ⟨Ao, co, hvo, hco⟩ := HP.out.slice
      subst hvo
      rcases (show l[k].op = 9 ∨ l[k].op = 10 ∨ (l[k].op ≠ 9 ∧ l[k].op ≠ 10) by omega) with hop | hop | ⟨hop1, hop2⟩
      · have h9 : (l[k].op == 9) = true := by simp; exact hop
        have HO := Lib.hid hop
        have hj1 : szL l[k].th < m := by omega
        have hj2 : szL l[k].el < m := by omega
        have hle := ptsL_le (cur.length + 1) l[k].th
        have hsum : cur.length + 2 + 2 * szL l[k].th + 2 * szL l[k].el ≤ 8388608 := by omega
        clear hop hs1 ht3
        go_wp2_with (at_builtin; go_must (refine wpList_push_pt rfl (.tmp 36) (.tmp 38) rfl (HP.out.alloc _) (by simp; omega) (by omega) _ _ _ _ _ [] (next_nil _ _) rfl rfl (by simp; rfl) ?_); intro v1 w1 hP1 hE1; (have E1 := (Evo.alloc base 25 (wr.alloc _) _).trans hE1); (have hbx := E1.boxCell (heap_alloc_new wr _) (by decide)); (generalize hc1 : cur ++ [_] = cur1 at hP1); (have HC1 := Lib.hid hc1); clear hc1; (obtain ⟨Aq, cq, rfl, hcq⟩ := hP1.slice))
        have hs1 := E1.size
        simp only [World.size_alloc] at hs1
        have hl1 : cur1.length = cur.length + 1 := by rw [← HC1.out]; simp
        have hl1' : cur1.length ≤ cur.length + 1 := by omega
        have HL1 := Lib.hid hl1
        clear hl1
        refine (ih _ hj1 _ _ l[k].th cur1 B base _ (Nat.le_refl _) (hth.low ((Evo.alloc base _ _ _).trans E1 |>.below (by omega)) hB) hB (by omega) hP1 (by omega)).mono ?_
        rintro e w2 ⟨v2, rfl, hP2, hE2⟩
        generalize hc2 : cur1 ++ _ = cur2 at hP2
        have HC2 := Lib.hid hc2
        clear hc2
        obtain ⟨A2', c2', rfl, hc2'⟩ := hP2.slice
        have E2 := E1.trans hE2
        have hs2 := E2.size
        simp only [World.size_alloc] at hs2
        have hbx2 := E2.boxCell (heap_alloc_new wr _) (by decide)
        clear hbx
        have hl2 : cur2.length = cur1.length + (ptsL cur1.length l[k].th).length := by rw [← HC2.out]; simp
        have hle2 := ptsL_le cur1.length l[k].th
        have hl2' : cur2.length ≤ cur.length + 1 + 2 * szL l[k].th := by omega
        have hcl2 : cur.length < cur2.length := by rw [hl2, HL1.out]; omega
        have HL2 := Lib.hid hl2
        clear hl2 hle2 hle
        go_wp2_with (at_builtin; go_must (refine wpList_push_pt rfl (.tmp 46) (.tmp 48) rfl hP2 (by omega) (by omega) _ _ _ _ _ [] (next_nil _ _) rfl rfl rfl ?_); intro v3 w3 hP3 hE3; (have E3 := E2.trans ((Evo.alloc base 25 _ _).trans hE3)); (have hbx3 := E3.boxCell (heap_alloc_new wr _) (by decide)); clear hbx2; (generalize hc3 : cur2 ++ [_] = cur3 at hP3); (have HC3 := Lib.hid hc3); clear hc3; (obtain ⟨A3, c3, rfl, hcq3⟩ := hP3.slice))
        have hs3 := E3.size
        simp only [World.size_alloc] at hs3
        have hl3 : cur3.length = cur2.length + 1 := by rw [← HC3.out]; simp
        have hl3' : cur3.length ≤ cur2.length + 1 := by omega
        have hcl3 : cur2.length < cur3.length := by omega
        have HL3 := Lib.hid hl3
        clear hl3
        refine (ih _ hj2 _ _ l[k].el cur3 B base _ (Nat.le_refl _) (hel.low ((Evo.alloc base _ _ _).trans E3 |>.below (by omega)) hB) hB (by omega) hP3 (by omega)).mono ?_
        rintro e w4 ⟨v4, rfl, hP4, hE4⟩
        generalize hc4 : cur3 ++ _ = cur4 at hP4
        have HC4 := Lib.hid hc4
        clear hc4
        have E4 := E3.trans hE4
        have hs4 := E4.size
        simp only [World.size_alloc] at hs4
        clear hbx3
        have hl4 : cur4.length = cur3.length + (ptsL cur3.length l[k].el).length := by rw [← HC4.out]; simp
        have hle4 := ptsL_le cur3.length l[k].el
        have hl4' : cur4.length ≤ cur.length + 2 + 2 * szL l[k].th + 2 * szL l[k].el := by omega
        have hcl4 : cur3.length ≤ cur4.length := by omega
        have HL4 := Lib.hid hl4
        clear hl4 hle4
        obtain ⟨g, c4, rfl, hgb, hgw, hc4⟩ := hP4.form (by omega)
        obtain ⟨nva, a0, a1, a2, a3, a4, a5, a6⟩ := hP4.at (i := cur.length) (by omega)
        obtain ⟨nvb, b0, b1, b2, b3, b4, b5, b6⟩ := hP4.at (i := cur2.length) (by omega)
        have a4' : ∀ o, (w4.alloc o).cell? ⟨g, cur.length * 5 + 4, none⟩ = some nva := fun o => (World.cell?_alloc_past _ _ _ hgw).trans a4
        have a5' : ∀ o, (w4.alloc o).frozen? ⟨g, cur.length * 5 + 4, none⟩ = false := fun o => (World.frozen?_alloc_past _ _ _ hgw).trans a5
        clear a0 a1 a2 a3 a4 a5 b0 b1 b2 b3
        go_wp2_with fail
        have hE4 := E4
        have ec : cur4 = cur ++ [⟨9, 0, 0, 0, []⟩] ++ ptsL (cur.length + 1) l[k].th ++ [⟨10, 0, 0, 1, []⟩] ++ ptsL cur3.length l[k].el := by
          rw [← HC4.out, ← HC3.out, ← HC2.out, HL1.out, ← HC1.out]
        have e2 : cur2.length = cur.length + 1 + (ptsL (cur.length + 1) l[k].th).length := by rw [HL2.out, HL1.out]
        have p1 := hP4.patchA (i := cur.length) (p := ⟨9, 0, 0, 0, []⟩) hgw (by omega) (by rw [ec]; simp) [cur.length + 1, cur2.length + 1] (by simp) 2 rfl
        have p2 := p1.1
        have hz : ∀ u, (w4.setCell ⟨g, cur.length * 5 + 4, none⟩ u).heap.size = w4.heap.size := fun u => size_set _ _ _
        rw [show cur4.length = (cur4.set cur.length (⟨9, 0, 0, 0, [cur.length + 1, cur2.length + 1]⟩ : Pt)).length from by simp] at p2
        have p3 := p2.patchA (i := cur2.length) (p := ⟨10, 0, 0, 1, []⟩) (by simp [hz]; omega) (by simp [hz]; omega) (by
          rw [List.getElem?_set_ne (by omega), ec, e2, get_if2]) [cur4.length] (by simp) 1 rfl
        rw [World.setCell_alloc_past _ _ _ _ (by rw [hz]; exact hgw)] at p3
        have q := p3.1
        have eset : ∀ X Y : Pt, (cur4.set cur.length X).set cur2.length Y = cur ++ (X :: (ptsL (cur.length + 1) l[k].th ++ Y :: ptsL cur3.length l[k].el)) := fun X Y => by rw [ec, e2, patch_if]
        rw [eset, List.length_set] at q
        refine ⟨⟨k + 1, _, by omega, by go_num, ?_, by simpa [hz] using q, by simpa [hz] using (((HE.out.trans (.alloc _ _ _ _)).trans E4).trans p1.2).trans p3.2⟩, by simp [intOf]; omega⟩
        have e0 : pts.length + (ptsL pts.length (l.take k)).length = cur.length := by rw [HC.out, List.length_append]
        have e3 : cur3.length = cur.length + 1 + (ptsL (cur.length + 1) l[k].th).length + 1 := by rw [HL3.out, e2]
        have e4 : cur4.length = cur3.length + (ptsL cur3.length l[k].el).length := HL4.out
        rw [ptsL_take_succ _ _ _ hlt, ptsSt_eq, if_pos HO.out, ← List.append_assoc, ← HC.out, e0, e4, e3, e2]
      · have h9 : (l[k].op == 9) = false := by simp; omega
        have h10 : (l[k].op == 10) = true := by simp; exact hop
        have HO := Lib.hid hop
        have hj1 : szL l[k].th < m := by omega
        have hle := ptsL_le (cur.length + 1) l[k].th
        have hsum : cur.length + 2 + 2 * szL l[k].th ≤ 8388608 := by omega
        clear hop hs1 ht3
        go_wp2_with (at_builtin; go_must (refine wpList_push_pt rfl (.tmp 72) (.tmp 74) rfl (HP.out.alloc _) (by simp; omega) (by omega) _ _ _ _ _ [] (next_nil _ _) rfl rfl (by simp; rfl) ?_); intro v1 w1 hP1 hE1; (have E1 := (Evo.alloc base 25 (wr.alloc _) _).trans hE1); (have hbx := E1.boxCell (heap_alloc_new wr _) (by decide)); (generalize hc1 : cur ++ [_] = cur1 at hP1); (have HC1 := Lib.hid hc1); clear hc1; (obtain ⟨Aq, cq, rfl, hcq⟩ := hP1.slice))
        have hs1 := E1.size
        simp only [World.size_alloc] at hs1
        have hl1 : cur1.length = cur.length + 1 := by rw [← HC1.out]; simp
        have hl1' : cur1.length ≤ cur.length + 1 := by omega
        have HL1 := Lib.hid hl1
        clear hl1
        refine (ih _ hj1 _ _ l[k].th cur1 B base _ (Nat.le_refl _) (hth.low ((Evo.alloc base _ _ _).trans E1 |>.below (by omega)) hB) hB (by omega) hP1 (by omega)).mono ?_
        rintro e w2 ⟨v2, rfl, hP2, hE2⟩
        generalize hc2 : cur1 ++ _ = cur2 at hP2
        have HC2 := Lib.hid hc2
        clear hc2
        obtain ⟨A2', c2', rfl, hc2'⟩ := hP2.slice
        have E2 := E1.trans hE2
        have hs2 := E2.size
        simp only [World.size_alloc] at hs2
        clear hbx
        have hl2 : cur2.length = cur1.length + (ptsL cur1.length l[k].th).length := by rw [← HC2.out]; simp
        have hle2 := ptsL_le cur1.length l[k].th
        have hl2' : cur2.length ≤ cur.length + 1 + 2 * szL l[k].th := by omega
        have hcl2 : cur.length < cur2.length := by rw [hl2, HL1.out]; omega
        have HL2 := Lib.hid hl2
        clear hl2 hle2 hle
        go_wp2_with (at_builtin; go_must (refine wpList_push_pt rfl (.tmp 80) (.tmp 84) rfl (hP2.alloc _) (by simp; omega) (by omega) _ _ _ _ _ [cur.length] (by simpa using next_lit w2 base [cur.length] (by omega) (by simp)) rfl rfl (by simp; rfl) ?_); intro v3 w3 hP3 hE3; (have E3 := (E2.trans (Evo.alloc base 25 _ _)).trans ((Evo.alloc base 25 _ _).trans hE3)); (generalize hc3 : cur2 ++ [_] = cur3 at hP3); (have HC3 := Lib.hid hc3); clear hc3; (have hl3' : cur3.length ≤ cur2.length + 1 := by (have h3 : cur3.length = cur2.length + 1 := by (rw [← HC3.out]; simp)); omega); (have hcl3 : cur2.length < cur3.length := by (have h3 : cur3.length = cur2.length + 1 := by (rw [← HC3.out]; simp)); omega); (obtain ⟨g, c3, rfl, hgb, hgw, hcq3⟩ := hP3.form (by omega)); (obtain ⟨nva, a0, a1, a2, a3, a4, a5, a6⟩ := hP3.at (i := cur.length) (by omega)); (have a4' : ∀ o, (w3.alloc o).cell? ⟨g, cur.length * 5 + 4, none⟩ = some nva := fun o => (World.cell?_alloc_past _ _ _ hgw).trans a4); (have a5' : ∀ o, (w3.alloc o).frozen? ⟨g, cur.length * 5 + 4, none⟩ = false := fun o => (World.frozen?_alloc_past _ _ _ hgw).trans a5); clear a0 a1 a2 a3 a4 a5)
        have hs3 := E3.size
        simp only [World.size_alloc] at hs3
        have ec : cur3 = cur ++ [⟨10, 0, 0, 0, []⟩] ++ ptsL (cur.length + 1) l[k].th ++ [⟨10, 0, 0, 1, [cur.length]⟩] := by
          rw [← HC3.out, ← HC2.out, HL1.out, ← HC1.out]
        have p1 := hP3.patchA (i := cur.length) (p := ⟨10, 0, 0, 0, []⟩) hgw (by omega) (by rw [ec]; simp) [cur.length + 1, cur3.length] (by simp) 2 rfl
        have q := p1.1
        have eset : ∀ X : Pt, cur3.set cur.length X = cur ++ (X :: (ptsL (cur.length + 1) l[k].th ++ [⟨10, 0, 0, 1, [cur.length]⟩])) := fun X => by rw [ec, patch_loop]
        rw [eset] at q
        refine ⟨⟨k + 1, _, by omega, by go_num, ?_, by simpa using q, by simpa using ((HE.out.trans (.alloc _ _ _ _)).trans E3).trans p1.2⟩, by simp [intOf]; omega⟩
        have e0 : pts.length + (ptsL pts.length (l.take k)).length = cur.length := by rw [HC.out, List.length_append]
        have e3 : cur3.length = cur.length + 1 + (ptsL (cur.length + 1) l[k].th).length + 1 := by rw [← HC3.out, List.length_append, HL2.out, HL1.out]; simp
        rw [ptsL_take_succ _ _ _ hlt, ptsSt_eq, if_neg (by rw [HO.out]; decide), if_pos HO.out, ← List.append_assoc, ← HC.out, e0, e3]
      · have h9 : (l[k].op == 9) = false := by simp; exact hop1
        have h10 : (l[k].op == 10) = false := by simp; exact hop2
        have HO := Lib.hid (And.intro hop1 hop2)
        clear hop1 hop2 hs1 ht3
        go_wp2_with (at_builtin; go_must (refine wpList_push_pt rfl (.tmp 19) (.tmp 32) rfl ((HP.out.alloc _).alloc _) (by simp; omega) (by omega) _ _ _ _ _ [cur.length + 1] (by simpa using next_lit (wr.alloc _) base [cur.length + 1] (by simp; omega) (by simp)) rfl rfl (by simp; rfl) ?_); intro v' w' hP' hE')
        have hE := ((HE.out.trans (.alloc _ _ _ _)).trans (.alloc _ _ _ _)).trans ((Evo.alloc _ _ _ _).trans hE')
        refine ⟨⟨k + 1, _, by omega, by go_num, ?_, hP', hE⟩, by simp [intOf]; omega⟩
        rw [ptsL_take_succ _ _ _ hlt, ptsSt_eq, if_neg HO.out.1, if_neg HO.out.2, ← List.append_assoc, ← HC.out]
        have e : pts.length + (ptsL pts.length (l.take k)).length = cur.length := by rw [HC.out, List.length_append]
        rw [e]
    · have hkl : k = l.length := by omega
      have h := HC.out
      rw [take_all hkl] at h
      subst h
      clear hkl
      go_wp2_with fail
      go_ret
      exact ⟨_, rfl, HP.out, HE.out⟩

theorem pointsOf_all (m : Nat) (hM : m ≤ 4194304) : PointsOf m := by
  induction m using Nat.strongRecOn with
  | _ m ih => exact pointsOf_of m hM fun j hj => ih j hj (by omega)

end Go.Proofs.YtfioaohadanjmaaDoor

namespace Go.Proofs.YtfioaohadanjmaaDoor
open Go.RowKit

def L2Add (m : Nat) : Prop := ∀ (vl vo : Value) (l : List St) (pts : List Pt) (B base : Nat) (w : World), szL l ≤ m → StS w B vl l → B ≤ base → base ≤ w.heap.size → PtsO w base vo pts → pts.length + 2 * szL l ≤ 8388608 →
    Calls Tryd.prog 24 #[vo, vl] w (PtsPost w base (pts ++ ptsL pts.length l))

set_option maxHeartbeats 1000000 in
set_option maxRecDepth 100000 in
theorem l2Add_of (m : Nat) (hM : m ≤ 4194304) (ih : ∀ j, j < m → L2Add j) : L2Add m := by
  intro vl vo l pts B base w hm hl hB hbase hP hlen
  have hll := len_le_szL l
  obtain ⟨A, c, rfl, hc⟩ := hl.slice
  go_enter Tryd.func24, Tryd.ntmps24
  go_wp2_with fail
  go_loopw [0, 5] (fun v i wr => ∃ (k : Nat) (cur : List Pt), k ≤ l.length ∧ i = .int .i64 k ∧ cur = pts ++ ptsL pts.length (l.take k) ∧ PtsO wr base v cur ∧ Evo base 25 w wr) (fun _ i _ => l.length - (intOf i).toNat)
  case atStart => exact ⟨0, pts, Nat.zero_le _, rfl, by simp [ptsL], hP, Evo.refl _ _ _⟩
  case round =>
    obtain ⟨k, cur, hk, rfl, hcur, hPk, hev⟩ := hrel
    have HC := Lib.hid hcur
    clear hcur
    have HP := Lib.hid hPk
    have HE := Lib.hid hev
    clear hPk
    have hsw := hev.size
    by_cases hlt : k < l.length
    · obtain ⟨b, off, tv, ev, rfl, hb, hth, hel, q0, q1, q2, q3, q4, q5⟩ := (hl.low (hev.below hbase) hB).get hlt
      obtain ⟨A1, c1, rfl, hc1⟩ := hth.slice
      obtain ⟨A2, c2, rfl, hc2⟩ := hel.slice
      have hsz := szL_mem hlt
      have hs1 := l[k].sz_eq
      have hpos : 1 ≤ l[k].sz := by omega
      have ht2 := szL_take_le l (k + 1)
      have ht3 := szL_take_succ l k hlt
      have hpl := ptsL_le pts.length (l.take k)
      have hcl : cur.length + 2 * l[k].sz ≤ 8388608 := by rw [HC.out, List.length_append]; omega
      clear hev
      obtain ⟨Ao, co, hvo, hco⟩ := HP.out.slice
      subst hvo
      rcases (show l[k].op = 9 ∨ l[k].op = 10 ∨ (l[k].op ≠ 9 ∧ l[k].op ≠ 10) by omega) with hop | hop | ⟨hop1, hop2⟩
      · have h9 : (l[k].op == 9) = true := by simp; exact hop
        have HO := Lib.hid hop
        have hj1 : szL l[k].th < m := by omega
        have hj2 : szL l[k].el < m := by omega
        have hle := ptsL_le (cur.length + 1) l[k].th
        have hsum : cur.length + 2 + 2 * szL l[k].th + 2 * szL l[k].el ≤ 8388608 := by omega
        clear hop hs1 ht3
        go_wp2_with (at_builtin; go_must (refine wpList_push_pt rfl (.tmp 40) (.tmp 42) rfl (HP.out.alloc _) (by simp; omega) (by omega) _ _ _ _ _ [] (next_nil _ _) rfl rfl (by simp; rfl) ?_); intro v1 w1 hP1 hE1; (have E1 := (Evo.alloc base 25 (wr.alloc _) _).trans hE1); (have hbx := E1.boxCell (heap_alloc_new wr _) (by decide)); (generalize hc1 : cur ++ [_] = cur1 at hP1); (have HC1 := Lib.hid hc1); clear hc1; (obtain ⟨Aq, cq, rfl, hcq⟩ := hP1.slice))
        have hs1 := E1.size
        simp only [World.size_alloc] at hs1
        have hl1 : cur1.length = cur.length + 1 := by rw [← HC1.out]; simp
        have hl1' : cur1.length ≤ cur.length + 1 := by omega
        have HL1 := Lib.hid hl1
        clear hl1
        refine (ih _ hj1 _ _ l[k].th cur1 B base _ (Nat.le_refl _) (hth.low ((Evo.alloc base _ _ _).trans E1 |>.below (by omega)) hB) hB (by omega) hP1 (by omega)).mono ?_
        rintro e w2 ⟨v2, rfl, hP2, hE2⟩
        generalize hc2 : cur1 ++ _ = cur2 at hP2
        have HC2 := Lib.hid hc2
        clear hc2
        obtain ⟨A2', c2', rfl, hc2'⟩ := hP2.slice
        have E2 := E1.trans hE2
        have hs2 := E2.size
        simp only [World.size_alloc] at hs2
        have hbx2 := E2.boxCell (heap_alloc_new wr _) (by decide)
        clear hbx
        have hl2 : cur2.length = cur1.length + (ptsL cur1.length l[k].th).length := by rw [← HC2.out]; simp
        have hle2 := ptsL_le cur1.length l[k].th
        have hl2' : cur2.length ≤ cur.length + 1 + 2 * szL l[k].th := by omega
        have hcl2 : cur.length < cur2.length := by rw [hl2, HL1.out]; omega
        have HL2 := Lib.hid hl2
        clear hl2 hle2 hle
        go_wp2_with (at_builtin; go_must (refine wpList_push_pt rfl (.tmp 50) (.tmp 52) rfl hP2 (by omega) (by omega) _ _ _ _ _ [] (next_nil _ _) rfl rfl rfl ?_); intro v3 w3 hP3 hE3; (have E3 := E2.trans ((Evo.alloc base 25 _ _).trans hE3)); (have hbx3 := E3.boxCell (heap_alloc_new wr _) (by decide)); clear hbx2; (generalize hc3 : cur2 ++ [_] = cur3 at hP3); (have HC3 := Lib.hid hc3); clear hc3; (obtain ⟨A3, c3, rfl, hcq3⟩ := hP3.slice))
        have hs3 := E3.size
        simp only [World.size_alloc] at hs3
        have hl3 : cur3.length = cur2.length + 1 := by rw [← HC3.out]; simp
        have hl3' : cur3.length ≤ cur2.length + 1 := by omega
        have hcl3 : cur2.length < cur3.length := by omega
        have HL3 := Lib.hid hl3
        clear hl3
        refine (ih _ hj2 _ _ l[k].el cur3 B base _ (Nat.le_refl _) (hel.low ((Evo.alloc base _ _ _).trans E3 |>.below (by omega)) hB) hB (by omega) hP3 (by omega)).mono ?_
        rintro e w4 ⟨v4, rfl, hP4, hE4⟩
        generalize hc4 : cur3 ++ _ = cur4 at hP4
        have HC4 := Lib.hid hc4
        clear hc4
        have E4 := E3.trans hE4
        have hs4 := E4.size
        simp only [World.size_alloc] at hs4
        clear hbx3
        have hl4 : cur4.length = cur3.length + (ptsL cur3.length l[k].el).length := by rw [← HC4.out]; simp
        have hle4 := ptsL_le cur3.length l[k].el
        have hl4' : cur4.length ≤ cur.length + 2 + 2 * szL l[k].th + 2 * szL l[k].el := by omega
        have hcl4 : cur3.length ≤ cur4.length := by omega
        have HL4 := Lib.hid hl4
        clear hl4 hle4
        obtain ⟨g, c4, rfl, hgb, hgw, hc4⟩ := hP4.form (by omega)
        obtain ⟨nva, a0, a1, a2, a3, a4, a5, a6⟩ := hP4.at (i := cur.length) (by omega)
        obtain ⟨nvb, b0, b1, b2, b3, b4, b5, b6⟩ := hP4.at (i := cur2.length) (by omega)
        have b4' : ∀ o, (w4.alloc o).cell? ⟨g, cur2.length * 5 + 4, none⟩ = some nvb := fun o => (World.cell?_alloc_past _ _ _ hgw).trans b4
        have b5' : ∀ o, (w4.alloc o).frozen? ⟨g, cur2.length * 5 + 4, none⟩ = false := fun o => (World.frozen?_alloc_past _ _ _ hgw).trans b5
        clear a0 a1 a2 a3 b4 b5 b0 b1 b2 b3
        go_wp2_with fail
        have hE4 := E4
        have ec : cur4 = cur ++ [⟨9, 0, 0, 0, []⟩] ++ ptsL (cur.length + 1) l[k].th ++ [⟨10, 0, 0, 1, []⟩] ++ ptsL cur3.length l[k].el := by
          rw [← HC4.out, ← HC3.out, ← HC2.out, HL1.out, ← HC1.out]
        have e2 : cur2.length = cur.length + 1 + (ptsL (cur.length + 1) l[k].th).length := by rw [HL2.out, HL1.out]
        have p1 := hP4.patchA (i := cur2.length) (p := ⟨10, 0, 0, 1, []⟩) hgw (by omega) (by rw [ec, e2, get_if2]) [cur4.length] (by simp) 1 rfl
        have p2 := p1.1
        have hz : ∀ u, (w4.setCell ⟨g, cur2.length * 5 + 4, none⟩ u).heap.size = w4.heap.size := fun u => size_set _ _ _
        have p3 := p2.patchL (i := cur.length) (p := ⟨9, 0, 0, 0, []⟩) (by simp) (by simp [World.setCell]; omega) (by simp [World.setCell]; omega) (by
          rw [List.getElem?_set_ne (by omega), ec]; simp) [cur.length + 1, cur2.length + 1] (by simp) 2 rfl
        rw [World.setCell_alloc_past _ _ _ _ (by rw [hz]; exact hgw)] at p3
        have q := p3.1
        have eset : ∀ X Y : Pt, (cur4.set cur2.length Y).set cur.length X = cur ++ (X :: (ptsL (cur.length + 1) l[k].th ++ Y :: ptsL cur3.length l[k].el)) := fun X Y => by rw [List.set_comm _ _ (by omega), ec, e2, patch_if]
        rw [eset] at q
        refine ⟨⟨k + 1, _, by omega, by go_num, ?_, by simpa [hz] using q, by simpa [hz] using (((HE.out.trans (.alloc _ _ _ _)).trans E4).trans p1.2).trans p3.2⟩, by simp [intOf]; omega⟩
        have e0 : pts.length + (ptsL pts.length (l.take k)).length = cur.length := by rw [HC.out, List.length_append]
        have e3 : cur3.length = cur.length + 1 + (ptsL (cur.length + 1) l[k].th).length + 1 := by rw [HL3.out, e2]
        have e4 : cur4.length = cur3.length + (ptsL cur3.length l[k].el).length := HL4.out
        rw [ptsL_take_succ _ _ _ hlt, ptsSt_eq, if_pos HO.out, ← List.append_assoc, ← HC.out, e0, e4, e3, e2]
      · have h9 : (l[k].op == 9) = false := by simp; omega
        have h10 : (l[k].op == 10) = true := by simp; exact hop
        have HO := Lib.hid hop
        have hj1 : szL l[k].th < m := by omega
        have hle := ptsL_le (cur.length + 1) l[k].th
        have hsum : cur.length + 2 + 2 * szL l[k].th ≤ 8388608 := by omega
        clear hop hs1 ht3
        go_wp2_with (at_builtin; go_must (refine wpList_push_pt rfl (.tmp 76) (.tmp 78) rfl (HP.out.alloc _) (by simp; omega) (by omega) _ _ _ _ _ [] (next_nil _ _) rfl rfl (by simp; rfl) ?_); intro v1 w1 hP1 hE1; (have E1 := (Evo.alloc base 25 (wr.alloc _) _).trans hE1); (have hbx := E1.boxCell (heap_alloc_new wr _) (by decide)); (generalize hc1 : cur ++ [_] = cur1 at hP1); (have HC1 := Lib.hid hc1); clear hc1; (obtain ⟨Aq, cq, rfl, hcq⟩ := hP1.slice))
        have hs1 := E1.size
        simp only [World.size_alloc] at hs1
        have hl1 : cur1.length = cur.length + 1 := by rw [← HC1.out]; simp
        have hl1' : cur1.length ≤ cur.length + 1 := by omega
        have HL1 := Lib.hid hl1
        clear hl1
        refine (ih _ hj1 _ _ l[k].th cur1 B base _ (Nat.le_refl _) (hth.low ((Evo.alloc base _ _ _).trans E1 |>.below (by omega)) hB) hB (by omega) hP1 (by omega)).mono ?_
        rintro e w2 ⟨v2, rfl, hP2, hE2⟩
        generalize hc2 : cur1 ++ _ = cur2 at hP2
        have HC2 := Lib.hid hc2
        clear hc2
        obtain ⟨A2', c2', rfl, hc2'⟩ := hP2.slice
        have E2 := E1.trans hE2
        have hs2 := E2.size
        simp only [World.size_alloc] at hs2
        clear hbx
        have hl2 : cur2.length = cur1.length + (ptsL cur1.length l[k].th).length := by rw [← HC2.out]; simp
        have hle2 := ptsL_le cur1.length l[k].th
        have hl2' : cur2.length ≤ cur.length + 1 + 2 * szL l[k].th := by omega
        have hcl2 : cur.length < cur2.length := by rw [hl2, HL1.out]; omega
        have HL2 := Lib.hid hl2
        clear hl2 hle2 hle
        go_wp2_with (at_builtin; go_must (refine wpList_push_pt rfl (.tmp 84) (.tmp 88) rfl (hP2.alloc _) (by simp; omega) (by omega) _ _ _ _ _ [cur.length] (by simpa using next_lit w2 base [cur.length] (by omega) (by simp)) rfl rfl (by simp; rfl) ?_); intro v3 w3 hP3 hE3; (have E3 := (E2.trans (Evo.alloc base 25 _ _)).trans ((Evo.alloc base 25 _ _).trans hE3)); (generalize hc3 : cur2 ++ [_] = cur3 at hP3); (have HC3 := Lib.hid hc3); clear hc3; (have hl3' : cur3.length ≤ cur2.length + 1 := by (have h3 : cur3.length = cur2.length + 1 := by (rw [← HC3.out]; simp)); omega); (have hcl3 : cur2.length < cur3.length := by (have h3 : cur3.length = cur2.length + 1 := by (rw [← HC3.out]; simp)); omega); (obtain ⟨g, c3, rfl, hgb, hgw, hcq3⟩ := hP3.form (by omega)); (obtain ⟨nva, a0, a1, a2, a3, a4, a5, a6⟩ := hP3.at (i := cur.length) (by omega)); (have a4' : ∀ o, (w3.alloc o).cell? ⟨g, cur.length * 5 + 4, none⟩ = some nva := fun o => (World.cell?_alloc_past _ _ _ hgw).trans a4); (have a5' : ∀ o, (w3.alloc o).frozen? ⟨g, cur.length * 5 + 4, none⟩ = false := fun o => (World.frozen?_alloc_past _ _ _ hgw).trans a5); clear a0 a1 a2 a3 a4 a5)
        have hs3 := E3.size
        simp only [World.size_alloc] at hs3
        have ec : cur3 = cur ++ [⟨10, 0, 0, 0, []⟩] ++ ptsL (cur.length + 1) l[k].th ++ [⟨10, 0, 0, 1, [cur.length]⟩] := by
          rw [← HC3.out, ← HC2.out, HL1.out, ← HC1.out]
        have p1 := hP3.patchA (i := cur.length) (p := ⟨10, 0, 0, 0, []⟩) hgw (by omega) (by rw [ec]; simp) [cur.length + 1, cur3.length] (by simp) 2 rfl
        have q := p1.1
        have eset : ∀ X : Pt, cur3.set cur.length X = cur ++ (X :: (ptsL (cur.length + 1) l[k].th ++ [⟨10, 0, 0, 1, [cur.length]⟩])) := fun X => by rw [ec, patch_loop]
        rw [eset] at q
        refine ⟨⟨k + 1, _, by omega, by go_num, ?_, by simpa using q, by simpa using ((HE.out.trans (.alloc _ _ _ _)).trans E3).trans p1.2⟩, by simp [intOf]; omega⟩
        have e0 : pts.length + (ptsL pts.length (l.take k)).length = cur.length := by rw [HC.out, List.length_append]
        have e3 : cur3.length = cur.length + 1 + (ptsL (cur.length + 1) l[k].th).length + 1 := by rw [← HC3.out, List.length_append, HL2.out, HL1.out]; simp
        rw [ptsL_take_succ _ _ _ hlt, ptsSt_eq, if_neg (by rw [HO.out]; decide), if_pos HO.out, ← List.append_assoc, ← HC.out, e0, e3]
      · have h9 : (l[k].op == 9) = false := by simp; exact hop1
        have h10 : (l[k].op == 10) = false := by simp; exact hop2
        have HO := Lib.hid (And.intro hop1 hop2)
        clear hop1 hop2 hs1 ht3
        go_wp2_with (at_builtin; go_must (refine wpList_push_pt rfl (.tmp 23) (.tmp 36) rfl ((HP.out.alloc _).alloc _) (by simp; omega) (by omega) _ _ _ _ _ [cur.length + 1] (by simpa using next_lit (wr.alloc _) base [cur.length + 1] (by simp; omega) (by simp)) rfl rfl (by simp; rfl) ?_); intro v' w' hP' hE')
        have hE := ((HE.out.trans (.alloc _ _ _ _)).trans (.alloc _ _ _ _)).trans ((Evo.alloc _ _ _ _).trans hE')
        refine ⟨⟨k + 1, _, by omega, by go_num, ?_, hP', hE⟩, by simp [intOf]; omega⟩
        rw [ptsL_take_succ _ _ _ hlt, ptsSt_eq, if_neg HO.out.1, if_neg HO.out.2, ← List.append_assoc, ← HC.out]
        have e : pts.length + (ptsL pts.length (l.take k)).length = cur.length := by rw [HC.out, List.length_append]
        rw [e]
    · have hkl : k = l.length := by omega
      have h := HC.out
      rw [take_all hkl] at h
      subst h
      clear hkl
      go_wp2_with fail
      go_ret
      exact ⟨_, rfl, HP.out, HE.out⟩

theorem l2Add_all (m : Nat) (hM : m ≤ 4194304) : L2Add m := by
  induction m using Nat.strongRecOn with
  | _ m ih => exact l2Add_of m hM fun j hj => ih j hj (by omega)

end Go.Proofs.YtfioaohadanjmaaDoor

namespace Go.Proofs.YtfioaohadanjmaaDoor
open Go.RowKit

/-- The slice value v reads as the points pts. -/
def PtS (w : World) (B : Nat) (v : Value) (pts : List Pt) : Prop :=
  ∃ A c, ∃ nv : Nat → Value, v = .slice A pts.length c ∧ pts.length ≤ c ∧ pts.length ≤ 8388608 ∧
    (0 < pts.length → ∃ b off, A = some ⟨b, off, none⟩ ∧ b < B ∧ ∀ i (h : i < pts.length),
      w.cell? ⟨b, off + i * 5, none⟩ = some (.int .i64 pts[i].op) ∧ w.cell? ⟨b, off + i * 5 + 1, none⟩ = some (.int .i64 pts[i].x) ∧ w.cell? ⟨b, off + i * 5 + 2, none⟩ = some (.int .i64 pts[i].y) ∧
      w.cell? ⟨b, off + i * 5 + 3, none⟩ = some (.int .i64 pts[i].n) ∧ w.cell? ⟨b, off + i * 5 + 4, none⟩ = some (nv i)) ∧
    ∀ i (h : i < pts.length), IntS w B (nv i) (pts[i].next.map fun k => ((k : Nat) : Int))

theorem PtS.keep {w w' : World} {B : Nat} {v : Value} {pts : List Pt} (h : PtS w B v pts) (hk : ∀ b o, b < B → w'.cell? ⟨b, o, none⟩ = w.cell? ⟨b, o, none⟩) : PtS w' B v pts := by
  obtain ⟨A, c, nv, e, h1, h2, h3, h4⟩ := h
  refine ⟨A, c, nv, e, h1, h2, fun hn => ?_, fun i hi => (h4 i hi).keep hk⟩
  obtain ⟨b, off, e, hb, hc⟩ := h3 hn
  exact ⟨b, off, e, hb, fun i hi => by simp only [hk _ _ hb]; exact hc i hi⟩
theorem PtS.low {w w' : World} {B B' : Nat} {v : Value} {pts : List Pt} (h : PtS w B v pts) (hb : Below B' w w') (hB : B ≤ B') : PtS w' B v pts :=
  h.keep fun b o hlt => hb.cell (p := ⟨b, o, none⟩) (by show b < B'; omega)
theorem PtS.more {w : World} {B B' : Nat} {v : Value} {pts : List Pt} (h : PtS w B v pts) (hB : B ≤ B') : PtS w B' v pts := by
  obtain ⟨A, c, nv, e, h1, h2, h3, h4⟩ := h
  refine ⟨A, c, nv, e, h1, h2, fun hn => ?_, fun i hi => (h4 i hi).more hB⟩
  obtain ⟨b, off, e, hb, hc⟩ := h3 hn
  exact ⟨b, off, e, by omega, hc⟩
theorem PtS.slice {w : World} {B : Nat} {v : Value} {pts : List Pt} (h : PtS w B v pts) : ∃ A c, v = .slice A pts.length c ∧ pts.length ≤ c ∧ pts.length ≤ 8388608 := by
  obtain ⟨A, c, nv, e, h1, h2, h3, h4⟩ := h
  exact ⟨A, c, e, h1, h2⟩
/-- One point, for a walk. -/
theorem PtS.get {w : World} {B : Nat} {v : Value} {pts : List Pt} (h : PtS w B v pts) {k : Nat} (hk : k < pts.length) :
    ∃ b off c nv, v = .slice (some ⟨b, off, none⟩) pts.length c ∧ b < B ∧ pts.length ≤ c ∧ pts.length ≤ 8388608 ∧ IntS w B nv (pts[k].next.map fun k => ((k : Nat) : Int)) ∧
      w.cell? ⟨b, off + k * 5, none⟩ = some (.int .i64 pts[k].op) ∧ w.cell? ⟨b, off + k * 5 + 1, none⟩ = some (.int .i64 pts[k].x) ∧ w.cell? ⟨b, off + k * 5 + 2, none⟩ = some (.int .i64 pts[k].y) ∧
      w.cell? ⟨b, off + k * 5 + 3, none⟩ = some (.int .i64 pts[k].n) ∧ w.cell? ⟨b, off + k * 5 + 4, none⟩ = some nv := by
  obtain ⟨A, c, nv, e, h1, h2, h3, h4⟩ := h
  obtain ⟨b, off, rfl, hb, hc⟩ := h3 (by omega)
  obtain ⟨a0, a1, a2, a3, a4⟩ := hc k hk
  exact ⟨b, off, c, nv k, e, hb, h1, h2, h4 k hk, a0, a1, a2, a3, a4⟩

/-- an owned row of ints, read -/
theorem own_ints {w : World} {base : Nat} {v : Value} {l : List Int} (h : w.ownsRow base 3 1 v l.length (l.map (.int .i64))) (hl : l.length ≤ 4194304) : IntS w w.heap.size v l := by
  rcases h.2 with ⟨rfl, h0⟩ | ⟨g, cap, cur, rfl, hb, hh, hc, _⟩
  · have : l = [] := List.eq_nil_of_length_eq_zero h0
    subst this
    exact ⟨none, 0, rfl, by simp, by simp, Rd.nil⟩
  · have hlt := (h.lt g rfl).2
    refine ⟨_, cap, rfl, hc, hl, by simp, fun hn => ⟨g, 0, rfl, hlt, fun j u hu => ?_⟩⟩
    have hj : j < l.length := by
      rcases Nat.lt_or_ge j l.length with h | h
      · exact h
      · rw [List.getElem?_eq_none (by simpa using h)] at hu; cases hu
    have := h.cellAt (g := g) j (by omega)
    rw [Nat.zero_add, this, hu]
theorem PtsO.toS {w : World} {base : Nat} {v : Value} {pts : List Pt} (h : PtsO w base v pts) (hl : pts.length ≤ 8388608) (hn : ∀ p ∈ pts, p.next.length ≤ 2) : PtS w w.heap.size v pts := by
  obtain ⟨A, c, rfl, hc⟩ := h.slice
  have hlt : ∀ (hp : 0 < pts.length), ∃ g, A = some ⟨g, 0, none⟩ ∧ g < w.heap.size := fun hp => by
    obtain ⟨g, cap, e, _, hg, _⟩ := h.form hp
    injection e with e
    exact ⟨g, e, hg⟩
  have h' := h
  obtain ⟨nvs, h1, h2, h3⟩ := h
  refine ⟨A, c, fun i => nvs.getD i undef, rfl, hc, hl, fun hp => ?_, fun i hi => ?_⟩
  · obtain ⟨g, rfl, hg⟩ := hlt hp
    refine ⟨g, 0, rfl, hg, fun i hi => ?_⟩
    obtain ⟨a0, a1, a2, a3, a4⟩ := ptCells_at h1 hi
    simp only [Nat.zero_add]
    rw [getD_lt (by omega)]
    exact ⟨(h2.cellAt _ (by omega)).trans a0, (h2.cellAt _ (by omega)).trans a1, (h2.cellAt _ (by omega)).trans a2, (h2.cellAt _ (by omega)).trans a3, (h2.cellAt _ (by omega)).trans a4⟩
  · show IntS w w.heap.size (nvs.getD i undef) _
    rw [getD_lt (by omega)]
    have := h3 i hi (by omega)
    have h2 := hn _ (List.getElem_mem hi)
    refine own_ints (base := base) (l := pts[i].next.map fun k => ((k : Nat) : Int)) (by simpa [Function.comp_def] using this) (by simp; omega)

theorem PtsO.empty (w : World) (base : Nat) (hb : base ≤ w.heap.size) : PtsO (w.alloc (.cells #[] 25)) base (.slice (some ⟨w.heap.size, 0, none⟩) 0 0) [] :=
  ⟨[], rfl, World.ownsRow_lit (base := base) (e := 25) (size := 5) w #[] 0 hb (by simp [maxLen]) rfl, fun i h => by simp at h⟩
/-- what comes of points -/
def PtsRet (w : World) (pts : List Pt) (e : Ending) (w' : World) : Prop := ∃ v, e = .returned v ∧ PtS w' w'.heap.size v pts ∧ Below w.heap.size w w'

set_option maxHeartbeats 400000 in
theorem points_any (vt vb : Value) (l : List St) (B : Nat) (w : World) (hl : StS w B vb l) (hB : B ≤ w.heap.size) (hsz : szL l ≤ 4194300) :
    Calls Tryd.prog 19 #[.agg #[vt, vb]] w (PtsRet w (ptsP l)) := by
  have L := pointsOf_all (szL l) (by omega)
  have hle := ptsL_le 0 l
  go_enter Tryd.func19, Tryd.ntmps19
  go_wp2_with fail
  refine (L vb _ l [] B w.heap.size _ (Nat.le_refl _) (hl.low (bel_a _ _) hB) hB (by simp) (PtsO.nil _ _) (by simp; omega)).mono ?_
  rintro e w1 ⟨v1, rfl, hP, hE⟩
  simp only [List.length_nil, List.nil_append] at hP
  obtain ⟨A1, c1, rfl, hc1⟩ := hP.slice
  have HE := Lib.hid (((Evo.alloc _ _ _ _).trans hE))
  have hs := hE.size
  simp only [World.size_alloc] at hs
  clear hE
  go_wp2_with (at_builtin; go_must (refine wpList_push_pt rfl (.tmp 5) (.tmp 7) rfl hP (by omega) (by omega) _ _ _ _ _ [] (next_nil _ _) rfl rfl rfl ?_); intro v' w' hP' hE')
  go_ret
  refine ⟨v', rfl, hP'.toS (by simp; omega) (fun p hp => (ptsP_next l p hp).1), ((HE.out.trans (Evo.alloc _ _ _ _)).trans hE').below (Nat.le_refl _)⟩

set_option maxHeartbeats 400000 in
theorem l2Points_any (vt vb : Value) (l : List St) (B : Nat) (w : World) (hl : StS w B vb l) (hB : B ≤ w.heap.size) (hsz : szL l ≤ 4194300) :
    Calls Tryd.prog 12 #[.agg #[vt, vb]] w (PtsRet w (ptsP l)) := by
  have L := l2Add_all (szL l) (by omega)
  have hle := ptsL_le 0 l
  go_enter Tryd.func12, Tryd.ntmps12
  go_wp2_with fail
  refine (L vb _ l [] B w.heap.size _ (Nat.le_refl _) (hl.low ((bel_a _ _).alloc (by simp) _) hB) hB (by simp; omega) (by simpa using PtsO.empty (w.alloc _) w.heap.size (by simp)) (by simp; omega)).mono ?_
  rintro e w1 ⟨v1, rfl, hP, hE⟩
  simp only [List.length_nil, List.nil_append] at hP
  obtain ⟨A1, c1, rfl, hc1⟩ := hP.slice
  have HE := Lib.hid (((Evo.alloc _ _ _ _).trans (Evo.alloc _ _ _ _)).trans hE)
  have hs := hE.size
  simp only [World.size_alloc] at hs
  clear hE
  go_wp2_with (at_builtin; go_must (refine wpList_push_pt rfl (.tmp 6) (.tmp 8) rfl hP (by omega) (by omega) _ _ _ _ _ [] (next_nil _ _) rfl rfl rfl ?_); intro v' w' hP' hE')
  go_ret
  refine ⟨v', rfl, hP'.toS (by simp; omega) (fun p hp => (ptsP_next l p hp).1), ((HE.out.trans (Evo.alloc _ _ _ _)).trans hE').below (Nat.le_refl _)⟩

/-- the points of a program, none if it is not valid -/
def pointsP (ts : List Int) (l : List St) : List Pt := if validP ts l then ptsP l else []

set_option maxHeartbeats 400000 in
theorem iPointsOf_any (vt vb : Value) (ts : List Int) (l : List St) (B : Nat) (w : World) (ht : IntS w B vt ts) (hl : StS w B vb l) (hB : B ≤ w.heap.size) (hsz : szL l ≤ 4194300) :
    Calls Tryd.prog 7 #[.agg #[vt, vb]] w (PtsRet w (pointsP ts l)) := by
  go_enter Tryd.func7, Tryd.ntmps7
  go_wp2_with fail
  refine (iProgramValid_any vt vb ts l B _ (ht.low (bel_a _ _) hB) (hl.low (bel_a _ _) hB) (by simp; omega) (by omega)).mono ?_
  rintro e w1 ⟨rfl, hb1⟩
  have hc := box_kept hb1 (by simp)
  have hb2 := (bel_a _ _).trans (hb1.mono (by simp))
  have hs2 := hb2.size
  cases hv : validP ts l
  · have HV := Lib.hid hv
    clear hv
    go_wp2_with fail
    go_ret
    refine ⟨_, rfl, ?_, hb2⟩
    unfold pointsP
    rw [HV.out]
    exact (PtsO.nil w1 0).toS (by simp) (by simp)
  · have HV := Lib.hid hv
    clear hv
    go_wp2_with fail
    refine (points_any vt vb l B _ (hl.low hb2 hB) (by omega) hsz).mono ?_
    rintro e w2 ⟨v, rfl, hP, hb3⟩
    go_wp2_with fail
    go_ret
    refine ⟨_, rfl, ?_, hb2.trans (hb3.mono (by omega))⟩
    unfold pointsP
    rw [HV.out]
    exact hP

set_option maxHeartbeats 400000 in
theorem sPointsOf_any (vt vb : Value) (ts : List Int) (l : List St) (B : Nat) (w : World) (ht : IntS w B vt ts) (hl : StS w B vb l) (hB : B ≤ w.heap.size) (hsz : szL l ≤ 4194300) :
    Calls Tryd.prog 23 #[.agg #[vt, vb]] w (PtsRet w (pointsP ts l)) := by
  go_enter Tryd.func23, Tryd.ntmps23
  go_wp2_with fail
  refine (sProgramValid_any vt vb ts l B _ (ht.low (bel_a _ _) hB) (hl.low (bel_a _ _) hB) (by simp; omega) (by omega)).mono ?_
  rintro e w1 ⟨rfl, hb1⟩
  have hc := box_kept hb1 (by simp)
  have hb2 := (bel_a _ _).trans (hb1.mono (by simp))
  have hs2 := hb2.size
  cases hv : validP ts l
  · have HV := Lib.hid hv
    clear hv
    go_wp2_with fail
    go_ret
    refine ⟨_, rfl, ?_, hb2.alloc hs2 _⟩
    unfold pointsP
    rw [HV.out]
    exact (PtsO.empty w1 0 (by omega)).toS (by simp) (by simp)
  · have HV := Lib.hid hv
    clear hv
    go_wp2_with fail
    refine (l2Points_any vt vb l B _ (hl.low hb2 hB) (by omega) hsz).mono ?_
    rintro e w2 ⟨v, rfl, hP, hb3⟩
    go_wp2_with fail
    go_ret
    refine ⟨_, rfl, ?_, hb2.trans (hb3.mono (by omega))⟩
    unfold pointsP
    rw [HV.out]
    exact hP

end Go.Proofs.YtfioaohadanjmaaDoor
