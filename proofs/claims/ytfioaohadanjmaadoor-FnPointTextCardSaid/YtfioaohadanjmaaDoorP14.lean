import Derived.Test.YtfioaohadanjmaaDoorP13
import Derived.Deep.RegionLaw
set_option linter.unusedVariables false

/- l1Mutate. -/
namespace Go.Proofs.YtfioaohadanjmaaDoor
open Go.RowKit

def MutRet (w : World) (g p : Nat) (e : Ending) (w' : World) : Prop :=
  ∃ (vt vb : Value) (ts : List Int) (l : List St) (p' : Nat), e = .returned (.agg #[vt, vb]) ∧ IntX w' (fun b => w.heap.size ≤ b) vt ts ∧ StX w' (fun b => w.heap.size ≤ b) vb l ∧ ts.length ≤ 700 ∧ szL l ≤ 100000 ∧ p' ≤ p + 3 ∧ Dr w' g p' ∧ w.grownBy w' (some g)
theorem OInts.moveLt {w w' : World} {base lo : Nat} {v : Value} {l : List Int} (h : OInts w base v l) (hne : ∀ g, v.ownBlock = some g → g < lo) (hk : ∀ b, base ≤ b → b < lo → w'.heap[b]? = w.heap[b]?) : OInts w' base v l := by
  refine ⟨h.1, ?_⟩
  rcases h.2 with h' | ⟨g, cap, cur, rfl, hbg, hh, rest⟩
  · exact .inl h'
  · exact .inr ⟨g, cap, cur, rfl, hbg, (hk g hbg (hne g rfl)).trans hh, rest⟩
theorem ints_one (w : World) (x : Int) : IntS (w.alloc (.cells #[.int .i64 x] 3)) (w.heap.size + 1) (.slice (some ⟨w.heap.size, 0, none⟩) 1 1) [x] := by
  refine ⟨_, 1, rfl, by simp, by simp, by simp, fun _ => ⟨w.heap.size, 0, rfl, by omega, fun j u hj => ?_⟩⟩
  have hj0 : j = 0 := by
    rcases Nat.eq_zero_or_pos j with h | h
    · exact h
    · rw [List.getElem?_eq_none (by simp; omega)] at hj; cases hj
  subst hj0
  rw [cell_of_row _ _ _ _ _ _ (heap_alloc_new w _)]
  simpa using hj
/-- a block of another type than the row that grows -/
theorem row_app_other {w w' : World} {b base e size n : Nat} {T : TypeId} {cs : Array Value} {v : Value} {xs : List Value} {fr : Nat × Nat} (h : w.heap[b]? = some (.cells cs T fr)) (ho : w.ownsRow base e size v n xs) (hg : w.grownBy w' v.ownBlock) (hne : T ≠ e) : w'.heap[b]? = some (.cells cs T fr) := by
  refine (hg.block b (row_lt h) fun hb => ?_).trans h
  rcases ho.2 with ⟨rfl, _⟩ | ⟨g, cap, cur, rfl, _, hh, _⟩
  · cases hb
  · injection hb with hb
    have hb' : b = g := hb
    subst hb'
    rw [h] at hh
    injection hh with hh
    injection hh with _ hT
    exact hne hT
theorem OInts.otherT {w : World} {base g : Nat} {v : Value} {l : List Int} {cs : Array Value} {T : TypeId} {fr : Nat × Nat} (h : OInts w base v l) (hr : w.heap[g]? = some (.cells cs T fr)) (hT : T ≠ 3) (i : Nat) (u : Value) : OInts (w.setCell ⟨g, i, none⟩ u) base v l := by
  refine h.kept (grown_set w g i u) ?_
  rcases h.2 with ⟨rfl, _⟩ | ⟨g', cap, cur, rfl, hb, hh, _⟩
  · exact .inl rfl
  · refine .inr fun e => ?_
    injection e with e
    have e' : g' = g := e
    subst e'
    rw [hr] at hh
    injection hh with hh
    injection hh with _ hT'
    exact hT hT'
/-- the loop that puts the first statement behind, again and again -/
def MuI (w1 w3 wr : World) (b4 g q lo : Nat) (vt v : Value) (o4 : Obj) (lx : List St) (s0 : St) (S : Nat) : Prop :=
  wr.heap[w1.heap.size]? = some (.cells #[vt, v] 29 (0, 0)) ∧ wr.heap[b4]? = some o4 ∧ OStR wr lo (fun b => b ≠ w1.heap.size) v lx ∧ 0 < lx.length ∧ lx.head? = some s0 ∧ szL lx ≤ S ∧ Dr wr g q ∧ Below lo w3 wr ∧ w3.heap.size ≤ wr.heap.size
theorem mut_close {w w3 W : World} {g p q : Nat} {vt vb : Value} {ts : List Int} {l : List St} (hlt : g < w.heap.size) (h3 : w.grownBy w3 (some g)) (hW : w3.grownBy W (some (w.heap.size + 1))) (hd : Dr w3 g q)
    (hT : IntX w3 (fun b => w.heap.size + 2 ≤ b) vt ts) (hB : StX w3 (fun b => w.heap.size + 2 ≤ b) vb l) (ht : ts.length ≤ 700) (hl : szL l ≤ 100000) (hq : q ≤ p + 3) :
    MutRet w g p (.returned (.agg #[vt, vb])) W := by
  have hk : ∀ b, w.heap.size + 2 ≤ b → b < w3.heap.size → w.heap.size ≤ b ∧ W.heap[b]? = w3.heap[b]? := fun b hb hl => ⟨by omega, hW.block b hl (fun e => by injection e with e; omega)⟩
  have hs3 := h3.size
  have hbl : Below w.heap.size w3 W := ⟨hW.os, hW.tape, hW.output, hW.size, fun k hk => hW.block k (by omega) (fun e => by injection e with e; omega)⟩
  exact ⟨vt, vb, ts, l, q, rfl, hT.frame hW.size hk, hB.frame hW.size hk, ht, hl, hq, hd.low hbl hlt, grown_base h3 hbl⟩

set_option maxHeartbeats 16000000 in
set_option maxRecDepth 100000 in
theorem mutate_any (g p : Nat) (vt vb : Value) (ts : List Int) (l : List St) (B : Nat) (w : World) (ht : IntS w B vt ts) (hl : StS w B vb l) (hB : B ≤ w.heap.size) (hts : ts.length ≤ 600) (hsz : szL l ≤ 600) (hd : Dr w g p) (hp : p + 10 ≤ 1000000) :
    Calls Tryd.prog 28 #[.pointer (some ⟨g, 0, none⟩), .agg #[vt, vb]] w (MutRet w g p) := by
  have hg := hd.lt
  have hll := len_le_szL l
  have ht0 := ht
  have hl0 := hl
  obtain ⟨At, ct, rfl, -⟩ := ht0
  obtain ⟨Ab, cb, rfl, -⟩ := hl0.slice
  have hA := bel_a w (.cells #[.slice At ts.length ct, .slice Ab l.length cb] 29)
  have hB2 := bel_a (w.alloc (.cells #[.slice At ts.length ct, .slice Ab l.length cb] 29)) (.cells #[.slice none 0 0, .slice none 0 0] 29)
  have hAB := hA.trans (hB2.mono hA.size)
  have hsz1 : (w.alloc (.cells #[.slice At ts.length ct, .slice Ab l.length cb] 29)).heap.size = w.heap.size + 1 := by simp
  have hr4 := heap_alloc_new (w.alloc (.cells #[.slice At ts.length ct, .slice Ab l.length cb] 29)) (.cells #[.slice none 0 0, .slice none 0 0] 29)
  rw [hsz1] at hr4
  have hsW : ((w.alloc (.cells #[.slice At ts.length ct, .slice Ab l.length cb] 29)).alloc (.cells #[.slice none 0 0, .slice none 0 0] 29)).heap.size = w.heap.size + 2 := by simp
  have HT := Lib.hid (ht.low hAB hB)
  have HL := Lib.hid (hl.low hAB hB)
  have HD := Lib.hid (hd.low hAB hg)
  have HG := Lib.hid (grown_bel hAB (Nat.le_refl _) (some g))
  have HR4 := Lib.hid hr4
  have HSW := Lib.hid hsW
  clear hA hB2 hsz1 hr4 ht hl hAB hd hsW hl0
  go_enter Tryd.func28, Tryd.ntmps28
  go_wp2_with fail
  refine (copyOf_any _ _ ts l B _ HT.out HL.out (by have := HSW.out; omega) (by omega) (by omega)).mono ?_
  rintro e w1 ⟨vt, vb, lo, rfl, hoi, hne, hos, hlo, hlo2, hb1⟩
  rw [HSW.out] at hlo hoi
  have hs1 : w.heap.size + 2 ≤ w1.heap.size := by have := hb1.size; rw [HSW.out] at this; exact this
  obtain ⟨At1, ct1, rfl, -⟩ := hoi.slice
  obtain ⟨Ab1, cb1, rfl, hcb1⟩ := hos.slice
  have HOI := Lib.hid hoi
  have HNE := Lib.hid hne
  have HOS := Lib.hid hos
  have HR4a := Lib.hid (row_below (row_below HR4.out hb1) (bel_a w1 (.cells #[.slice At1 ts.length ct1, .slice Ab1 l.length cb1] 29)))
  have HD1 := Lib.hid ((HD.out.low hb1 HD.out.lt).low (bel_a w1 (.cells #[.slice At1 ts.length ct1, .slice Ab1 l.length cb1] 29)) (by omega))
  have HG1 := Lib.hid (grown_alloc (grown_below' HG.out hb1) (.cells #[.slice At1 ts.length ct1, .slice Ab1 l.length cb1] 29))
  have HR5 := Lib.hid (heap_alloc_new w1 (.cells #[.slice At1 ts.length ct1, .slice Ab1 l.length cb1] 29))
  have HBA := Lib.hid (bel_a w1 (.cells #[.slice At1 ts.length ct1, .slice Ab1 l.length cb1] 29))
  have HS1 : Hid ((w1.alloc (.cells #[.slice At1 ts.length ct1, .slice Ab1 l.length cb1] 29)).heap.size = w1.heap.size + 1) := Lib.hid (by simp)
  clear hoi hne hos hb1
  by_cases hl0 : l.length = 0
  · have hl1 : ((l.length : Int) == 0) = true := by simp [hl0]
    clear hl0
    have z0 : (w1.alloc (.cells #[.slice At1 ts.length ct1, .slice Ab1 l.length cb1] 29)).cell? ⟨w.heap.size + 1, 0, none⟩ = some (.slice none 0 0) := by rw [cell_of_row _ _ _ _ _ _ HR4a.out]; rfl
    have z1 : (w1.alloc (.cells #[.slice At1 ts.length ct1, .slice Ab1 l.length cb1] 29)).cell? ⟨w.heap.size + 1, 1, none⟩ = some (.slice none 0 0) := by rw [cell_of_row _ _ _ _ _ _ HR4a.out]; rfl
    have zf0 := frozen_of_row (w1.alloc (.cells #[.slice At1 ts.length ct1, .slice Ab1 l.length cb1] 29)) (w.heap.size + 1) 0 _ _ HR4a.out
    have zf1 := frozen_of_row (w1.alloc (.cells #[.slice At1 ts.length ct1, .slice Ab1 l.length cb1] 29)) (w.heap.size + 1) 1 _ _ HR4a.out
    go_wp2_with fail
    exact bodyPost_ret (results_cell_row rfl _ _ (w.heap.size + 1) 29 _ (0, 0) _ rfl (box2 HR4a.out _ _).1 Tryd.underlying29 rfl rfl) rfl
      (mut_close (p := p) hg HG1.out (box2 HR4a.out _ _).2 HD1.out ((HOI.out.toX (by omega)).bel HBA.out) ((HOS.out.toX.bel HBA.out).frame (Nat.le_refl _) fun b hb _ => ⟨by have hb' : lo ≤ b := hb; show w.heap.size + 2 ≤ b; omega, rfl⟩) (by omega) (by omega) (by omega))
  · have hl1 : ((l.length : Int) == 0) = false := by simpa using hl0
    have hlp : 0 < l.length := by omega
    clear hl0
    go_wp2_with fail
    refine (pick_any g p _ _ HD1.out (by omega) (by omega) (by omega)).mono ?_
    rintro e w2 ⟨k, rfl, k0, k1, hd2, hg2⟩
    have k2 := k1 (by omega)
    clear k1
    obtain ⟨k, rfl⟩ := Int.eq_ofNat_of_zero_le k0
    have hk : k < l.length := by omega
    have hs2 : w1.heap.size + 1 ≤ w2.heap.size := by have := hg2.size; rw [HS1.out] at this; exact this
    have HD2 := Lib.hid hd2
    have HG2 := Lib.hid hg2
    clear hd2 hg2
    go_wp2_with fail
    refine (pick_any g (p + 1) _ _ HD2.out (by omega) (by omega) (by omega)).mono ?_
    rintro e w3 ⟨c, rfl, c0, c1, hd3, hg3⟩
    have hs3 := hg3.size
    have HD3 := Lib.hid hd3
    have hg23 := grown_tr HG2.out hg3
    have HG3 := Lib.hid (grown_tr HG1.out hg23)
    have hR4 := row_grown HR4a.out hg23 (by omega)
    have hR5 := row_grown HR5.out hg23 (by omega)
    have HR4c := Lib.hid hR4
    have HR5c := Lib.hid hR5
    have HOIc : Hid (OInts w3 (w.heap.size + 2) (.slice At1 ts.length ct1) ts) := Lib.hid ((HOI.out.move (Nat.le_refl _) fun b h1 h2 => HBA.out.block b h2).move (Nat.le_refl _) fun b h1 h2 => hg23.block b h2 (fun e => by injection e with e; omega))
    have HOSc : Hid (OSt w3 lo (.slice Ab1 l.length cb1) l) := Lib.hid ((HOS.out.below HBA.out).grown hg23 (by omega))
    have HG13 := Lib.hid (grown_tr (grown_bel HBA.out (Nat.le_refl _) (some g)) hg23)
    have HLO : Hid (lo ≤ w3.heap.size) := Lib.hid (by omega)
    clear hd3 hg3 hg23 hR4 hR5
    have q0 : w3.cell? ⟨w1.heap.size, 0, none⟩ = some ((.slice At1 ts.length ct1)) := by rw [cell_of_row _ _ _ _ _ _ HR5c.out]; rfl
    have q1 : w3.cell? ⟨w1.heap.size, 1, none⟩ = some ((.slice Ab1 l.length cb1)) := by rw [cell_of_row _ _ _ _ _ _ HR5c.out]; rfl
    have z0 : w3.cell? ⟨w.heap.size + 1, 0, none⟩ = some (.slice none 0 0) := by rw [cell_of_row _ _ _ _ _ _ HR4c.out]; rfl
    have z1 : w3.cell? ⟨w.heap.size + 1, 1, none⟩ = some (.slice none 0 0) := by rw [cell_of_row _ _ _ _ _ _ HR4c.out]; rfl
    have zf0 := frozen_of_row w3 (w.heap.size + 1) 0 _ _ HR4c.out
    have zf1 := frozen_of_row w3 (w.heap.size + 1) 1 _ _ HR4c.out
    have hc : c = 0 ∨ c = 1 ∨ c = 2 ∨ c = 3 ∨ c = 4 ∨ c = 5 ∨ c = 6 ∨ 7 ≤ c := by omega
    clear c0 c1
    rcases hc with rfl | rfl | rfl | rfl | rfl | rfl | rfl | hc
    · obtain ⟨gb, cap, eb, hgb, hgb2, -, hcells, hfz⟩ := HOSc.out.form hlp
      injection eb with eb1 eb2 eb3
      subst eb1 eb3
      obtain ⟨tv, ev, d0, d1, d2, d3, -, -, -, -⟩ := hcells k hk
      have hgne : gb ≠ w1.heap.size := by
        have hlt := (HOS.out.own_lt (g := gb) rfl).2
        omega
      have HD0 := Lib.hid d0
      have HFZ := Lib.hid (hfz (k * 6))
      clear hcells hfz d0 d1 d2 d3
      have CN : Calls Tryd.prog 15 #[.pointer (some ⟨g, 0, none⟩), .slice (some ⟨w3.heap.size, 0, none⟩) 5 5] (w3.alloc (.cells #[.int .i64 0, .int .i64 11, .int .i64 1, .int .i64 3, .int .i64 8] 3)).drew (fun e w' => ∃ x : Int, e = .returned (.int .i64 x) ∧ x ∈ [0, 11, 1, 3, 8] ∧ Dr w' g (p + 1 + 1 + 1) ∧ (w3.alloc (.cells #[.int .i64 0, .int .i64 11, .int .i64 1, .int .i64 3, .int .i64 8] 3)).drew.grownBy w' (some g)) :=
        num_any g _ _ [0, 11, 1, 3, 8] 3 _ (HD3.out.low ((bel_a w3 (.cells #[.int .i64 0, .int .i64 11, .int .i64 1, .int .i64 3, .int .i64 8] 3)).drew) (by omega)) (by omega) (RowB.new w3 _ _) (by omega) (by simp) (by simp)
      have HCN := Lib.hid CN
      have hwa := (bel_a w3 (.cells #[.int .i64 0, .int .i64 11, .int .i64 1, .int .i64 3, .int .i64 8] 3)).drew
      have HWA := Lib.hid hwa
      have HSA : Hid ((w3.alloc (.cells #[.int .i64 0, .int .i64 11, .int .i64 1, .int .i64 3, .int .i64 8] 3)).drew.heap.size = w3.heap.size + 1) := Lib.hid (by simp)
      clear CN hwa
      go_wp2_with fail
      go_region_held3 (fun w' => w'.cell? ⟨w1.heap.size, 1, none⟩ = some (.slice (some ⟨gb, 0, none⟩) l.length cb1))
        (first | exact q1 | assumption | exact Q9.out | go_keep)
        (first
          | (go_at_call 15; (with_reducible refine HCN.out.mono ?_); (rintro e w4 ⟨x, rfl, -, hd4, hg4⟩); (have hs4 : w3.heap.size + 1 ≤ w4.heap.size := by (have := hg4.size; rw [HSA.out] at this; exact this)); (have HD4 := Lib.hid hd4); (have HG4 := Lib.hid (grown_below' (World.grownBy.refl w3 _) HWA.out |> fun h => grown_tr h hg4)); (have HR54 := Lib.hid (row_grown HR5c.out HG4.out (by omega))); (have q4 : w4.cell? ⟨w1.heap.size, 1, none⟩ = some (.slice (some ⟨gb, 0, none⟩) l.length cb1) := by (rw [cell_of_row _ _ _ _ _ _ HR54.out]; rfl)); (have x4 := (World.cell?_of_block (w := w3) (w' := w4) (a := ⟨gb, k * 6, none⟩) (HG4.out.block gb hgb2 (fun e => by injection e with e; omega))).trans HD0.out); (have f4 := (World.frozen?_of_block (w := w3) (w' := w4) (a := ⟨gb, k * 6, none⟩) (HG4.out.block gb hgb2 (fun e => by injection e with e; omega))).trans HFZ.out); (have Q9 : Hid ((w4.setCell ⟨gb, k * 6, none⟩ (.int .i64 x)).cell? ⟨w1.heap.size, 1, none⟩ = some (.slice (some ⟨gb, 0, none⟩) l.length cb1)) := Lib.hid ((World.cell?_of_block (w := w4) (a := ⟨w1.heap.size, 1, none⟩) (Below.heap_setCell w4 ⟨gb, k * 6, none⟩ _ w1.heap.size (Ne.symm hgne))).trans q4)); clear hd4 hg4))
      have hgs := grown_set w4 gb (k * 6) (.int .i64 x)
      obtain ⟨l', hst, hszl⟩ := (HOSc.out.grown HG4.out (by omega)).upd hk 0 (by omega) x
      try rw [show k * 6 + 0 = k * 6 from rfl] at hst
      have HST := Lib.hid hst
      have HSZL := Lib.hid hszl
      have HR4d := Lib.hid ((hgs.block (w.heap.size + 1) (by omega) (fun e => by injection e with e; omega)).trans (row_grown HR4c.out HG4.out (by omega)))
      have HR5d := Lib.hid ((hgs.block w1.heap.size (by omega) (fun e => hgne (Option.some.inj e).symm)).trans HR54.out)
      have HOId : Hid (IntX (w4.setCell ⟨gb, k * 6, none⟩ (.int .i64 x)) (fun b => w.heap.size + 2 ≤ b) (.slice At1 ts.length ct1) ts) := Lib.hid (((HOIc.out.move (Nat.le_refl _) fun b h1 h2 => HG4.out.block b h2 (fun e => by injection e with e; omega)).moveLt (w' := w4.setCell ⟨gb, k * 6, none⟩ (.int .i64 x)) HNE.out fun b h1 h2 => hgs.block b (by omega) (fun e => by injection e with e; omega)).toX (by omega))
      have HDd : Hid (Dr (w4.setCell ⟨gb, k * 6, none⟩ (.int .i64 x)) g (p + 1 + 1 + 1)) := Lib.hid (HD4.out.low (grown_below hgs (by omega)) (by omega))
      have HGd : Hid (w.grownBy (w4.setCell ⟨gb, k * 6, none⟩ (.int .i64 x)) (some g)) := Lib.hid (grown_base (grown_tr HG3.out HG4.out) ((Below.refl _ _).setCell (p := ⟨gb, k * 6, none⟩) (by show w.heap.size ≤ gb; omega) _))
      clear hgs hst hszl q0 q1 z0 z1 zf0 zf1 x4 f4 q4
      generalize w4.setCell ⟨gb, k * 6, none⟩ (.int .i64 x) = W9 at *
      have q0 : W9.cell? ⟨w1.heap.size, 0, none⟩ = some ((.slice At1 ts.length ct1)) := by rw [cell_of_row _ _ _ _ _ _ HR5d.out]; rfl
      have q1 : W9.cell? ⟨w1.heap.size, 1, none⟩ = some ((.slice (some ⟨gb, 0, none⟩) l.length cb1)) := by rw [cell_of_row _ _ _ _ _ _ HR5d.out]; rfl
      have z0 : W9.cell? ⟨w.heap.size + 1, 0, none⟩ = some (.slice none 0 0) := by rw [cell_of_row _ _ _ _ _ _ HR4d.out]; rfl
      have z1 : W9.cell? ⟨w.heap.size + 1, 1, none⟩ = some (.slice none 0 0) := by rw [cell_of_row _ _ _ _ _ _ HR4d.out]; rfl
      have zf0 := frozen_of_row W9 (w.heap.size + 1) 0 _ _ HR4d.out
      have zf1 := frozen_of_row W9 (w.heap.size + 1) 1 _ _ HR4d.out
      go_wp2_with fail
      exact bodyPost_ret (results_cell_row rfl _ _ (w.heap.size + 1) 29 _ (0, 0) _ rfl (box2 HR4d.out _ _).1 Tryd.underlying29 rfl rfl) rfl
        (mut_close (p := p) hg HGd.out (box2 HR4d.out _ _).2 HDd.out HOId.out (HST.out.frame (Nat.le_refl _) fun b hb _ => ⟨by have hb' : lo ≤ b := hb; show w.heap.size + 2 ≤ b; omega, rfl⟩) (by omega) (by rw [HSZL.out]; omega) (by omega))
    · obtain ⟨gb, cap, eb, hgb, hgb2, -, hcells, hfz⟩ := HOSc.out.form hlp
      injection eb with eb1 eb2 eb3
      subst eb1 eb3
      obtain ⟨tv, ev, d0, d1, d2, d3, -, -, -, -⟩ := hcells k hk
      have hgne : gb ≠ w1.heap.size := by
        have hlt := (HOS.out.own_lt (g := gb) rfl).2
        omega
      have HD0 := Lib.hid d1
      have HFZ := Lib.hid (hfz (k * 6 + 1))
      clear hcells hfz d0 d1 d2 d3
      have CN : Calls Tryd.prog 15 #[.pointer (some ⟨g, 0, none⟩), .slice (some ⟨w3.heap.size, 0, none⟩) 4 4] (w3.alloc (.cells #[.int .i64 6, .int .i64 (-1), .int .i64 0, .int .i64 1] 3)).drew (fun e w' => ∃ x : Int, e = .returned (.int .i64 x) ∧ x ∈ [6, -1, 0, 1] ∧ Dr w' g (p + 1 + 1 + 1) ∧ (w3.alloc (.cells #[.int .i64 6, .int .i64 (-1), .int .i64 0, .int .i64 1] 3)).drew.grownBy w' (some g)) :=
        num_any g _ _ [6, -1, 0, 1] 3 _ (HD3.out.low ((bel_a w3 (.cells #[.int .i64 6, .int .i64 (-1), .int .i64 0, .int .i64 1] 3)).drew) (by omega)) (by omega) (RowB.new w3 _ _) (by omega) (by simp) (by simp)
      have HCN := Lib.hid CN
      have hwa := (bel_a w3 (.cells #[.int .i64 6, .int .i64 (-1), .int .i64 0, .int .i64 1] 3)).drew
      have HWA := Lib.hid hwa
      have HSA : Hid ((w3.alloc (.cells #[.int .i64 6, .int .i64 (-1), .int .i64 0, .int .i64 1] 3)).drew.heap.size = w3.heap.size + 1) := Lib.hid (by simp)
      clear CN hwa
      go_wp2_with fail
      go_region_held3 (fun w' => w'.cell? ⟨w1.heap.size, 1, none⟩ = some (.slice (some ⟨gb, 0, none⟩) l.length cb1))
        (first | exact q1 | assumption | exact Q9.out | go_keep)
        (first
          | (go_at_call 15; (with_reducible refine HCN.out.mono ?_); (rintro e w4 ⟨x, rfl, -, hd4, hg4⟩); (have hs4 : w3.heap.size + 1 ≤ w4.heap.size := by (have := hg4.size; rw [HSA.out] at this; exact this)); (have HD4 := Lib.hid hd4); (have HG4 := Lib.hid (grown_below' (World.grownBy.refl w3 _) HWA.out |> fun h => grown_tr h hg4)); (have HR54 := Lib.hid (row_grown HR5c.out HG4.out (by omega))); (have q4 : w4.cell? ⟨w1.heap.size, 1, none⟩ = some (.slice (some ⟨gb, 0, none⟩) l.length cb1) := by (rw [cell_of_row _ _ _ _ _ _ HR54.out]; rfl)); (have x4 := (World.cell?_of_block (w := w3) (w' := w4) (a := ⟨gb, k * 6 + 1, none⟩) (HG4.out.block gb hgb2 (fun e => by injection e with e; omega))).trans HD0.out); (have f4 := (World.frozen?_of_block (w := w3) (w' := w4) (a := ⟨gb, k * 6 + 1, none⟩) (HG4.out.block gb hgb2 (fun e => by injection e with e; omega))).trans HFZ.out); (have Q9 : Hid ((w4.setCell ⟨gb, k * 6 + 1, none⟩ (.int .i64 x)).cell? ⟨w1.heap.size, 1, none⟩ = some (.slice (some ⟨gb, 0, none⟩) l.length cb1)) := Lib.hid ((World.cell?_of_block (w := w4) (a := ⟨w1.heap.size, 1, none⟩) (Below.heap_setCell w4 ⟨gb, k * 6 + 1, none⟩ _ w1.heap.size (Ne.symm hgne))).trans q4)); clear hd4 hg4))
      have hgs := grown_set w4 gb (k * 6 + 1) (.int .i64 x)
      obtain ⟨l', hst, hszl⟩ := (HOSc.out.grown HG4.out (by omega)).upd hk 1 (by omega) x
      try rw [show k * 6 + 0 = k * 6 from rfl] at hst
      have HST := Lib.hid hst
      have HSZL := Lib.hid hszl
      have HR4d := Lib.hid ((hgs.block (w.heap.size + 1) (by omega) (fun e => by injection e with e; omega)).trans (row_grown HR4c.out HG4.out (by omega)))
      have HR5d := Lib.hid ((hgs.block w1.heap.size (by omega) (fun e => hgne (Option.some.inj e).symm)).trans HR54.out)
      have HOId : Hid (IntX (w4.setCell ⟨gb, k * 6 + 1, none⟩ (.int .i64 x)) (fun b => w.heap.size + 2 ≤ b) (.slice At1 ts.length ct1) ts) := Lib.hid (((HOIc.out.move (Nat.le_refl _) fun b h1 h2 => HG4.out.block b h2 (fun e => by injection e with e; omega)).moveLt (w' := w4.setCell ⟨gb, k * 6 + 1, none⟩ (.int .i64 x)) HNE.out fun b h1 h2 => hgs.block b (by omega) (fun e => by injection e with e; omega)).toX (by omega))
      have HDd : Hid (Dr (w4.setCell ⟨gb, k * 6 + 1, none⟩ (.int .i64 x)) g (p + 1 + 1 + 1)) := Lib.hid (HD4.out.low (grown_below hgs (by omega)) (by omega))
      have HGd : Hid (w.grownBy (w4.setCell ⟨gb, k * 6 + 1, none⟩ (.int .i64 x)) (some g)) := Lib.hid (grown_base (grown_tr HG3.out HG4.out) ((Below.refl _ _).setCell (p := ⟨gb, k * 6 + 1, none⟩) (by show w.heap.size ≤ gb; omega) _))
      clear hgs hst hszl q0 q1 z0 z1 zf0 zf1 x4 f4 q4
      generalize w4.setCell ⟨gb, k * 6 + 1, none⟩ (.int .i64 x) = W9 at *
      have q0 : W9.cell? ⟨w1.heap.size, 0, none⟩ = some ((.slice At1 ts.length ct1)) := by rw [cell_of_row _ _ _ _ _ _ HR5d.out]; rfl
      have q1 : W9.cell? ⟨w1.heap.size, 1, none⟩ = some ((.slice (some ⟨gb, 0, none⟩) l.length cb1)) := by rw [cell_of_row _ _ _ _ _ _ HR5d.out]; rfl
      have z0 : W9.cell? ⟨w.heap.size + 1, 0, none⟩ = some (.slice none 0 0) := by rw [cell_of_row _ _ _ _ _ _ HR4d.out]; rfl
      have z1 : W9.cell? ⟨w.heap.size + 1, 1, none⟩ = some (.slice none 0 0) := by rw [cell_of_row _ _ _ _ _ _ HR4d.out]; rfl
      have zf0 := frozen_of_row W9 (w.heap.size + 1) 0 _ _ HR4d.out
      have zf1 := frozen_of_row W9 (w.heap.size + 1) 1 _ _ HR4d.out
      go_wp2_with fail
      exact bodyPost_ret (results_cell_row rfl _ _ (w.heap.size + 1) 29 _ (0, 0) _ rfl (box2 HR4d.out _ _).1 Tryd.underlying29 rfl rfl) rfl
        (mut_close (p := p) hg HGd.out (box2 HR4d.out _ _).2 HDd.out HOId.out (HST.out.frame (Nat.le_refl _) fun b hb _ => ⟨by have hb' : lo ≤ b := hb; show w.heap.size + 2 ≤ b; omega, rfl⟩) (by omega) (by rw [HSZL.out]; omega) (by omega))
    · obtain ⟨gb, cap, eb, hgb, hgb2, -, hcells, hfz⟩ := HOSc.out.form hlp
      injection eb with eb1 eb2 eb3
      subst eb1 eb3
      obtain ⟨tv, ev, d0, d1, d2, d3, -, -, -, -⟩ := hcells k hk
      have hgne : gb ≠ w1.heap.size := by
        have hlt := (HOS.out.own_lt (g := gb) rfl).2
        omega
      have HD0 := Lib.hid d2
      have HFZ := Lib.hid (hfz (k * 6 + 2))
      clear hcells hfz d0 d1 d2 d3
      have CN : Calls Tryd.prog 15 #[.pointer (some ⟨g, 0, none⟩), .slice (some ⟨w3.heap.size, 0, none⟩) 4 4] (w3.alloc (.cells #[.int .i64 6, .int .i64 (-1), .int .i64 0, .int .i64 1] 3)).drew (fun e w' => ∃ x : Int, e = .returned (.int .i64 x) ∧ x ∈ [6, -1, 0, 1] ∧ Dr w' g (p + 1 + 1 + 1) ∧ (w3.alloc (.cells #[.int .i64 6, .int .i64 (-1), .int .i64 0, .int .i64 1] 3)).drew.grownBy w' (some g)) :=
        num_any g _ _ [6, -1, 0, 1] 3 _ (HD3.out.low ((bel_a w3 (.cells #[.int .i64 6, .int .i64 (-1), .int .i64 0, .int .i64 1] 3)).drew) (by omega)) (by omega) (RowB.new w3 _ _) (by omega) (by simp) (by simp)
      have HCN := Lib.hid CN
      have hwa := (bel_a w3 (.cells #[.int .i64 6, .int .i64 (-1), .int .i64 0, .int .i64 1] 3)).drew
      have HWA := Lib.hid hwa
      have HSA : Hid ((w3.alloc (.cells #[.int .i64 6, .int .i64 (-1), .int .i64 0, .int .i64 1] 3)).drew.heap.size = w3.heap.size + 1) := Lib.hid (by simp)
      clear CN hwa
      go_wp2_with fail
      go_region_held3 (fun w' => w'.cell? ⟨w1.heap.size, 1, none⟩ = some (.slice (some ⟨gb, 0, none⟩) l.length cb1))
        (first | exact q1 | assumption | exact Q9.out | go_keep)
        (first
          | (go_at_call 15; (with_reducible refine HCN.out.mono ?_); (rintro e w4 ⟨x, rfl, -, hd4, hg4⟩); (have hs4 : w3.heap.size + 1 ≤ w4.heap.size := by (have := hg4.size; rw [HSA.out] at this; exact this)); (have HD4 := Lib.hid hd4); (have HG4 := Lib.hid (grown_below' (World.grownBy.refl w3 _) HWA.out |> fun h => grown_tr h hg4)); (have HR54 := Lib.hid (row_grown HR5c.out HG4.out (by omega))); (have q4 : w4.cell? ⟨w1.heap.size, 1, none⟩ = some (.slice (some ⟨gb, 0, none⟩) l.length cb1) := by (rw [cell_of_row _ _ _ _ _ _ HR54.out]; rfl)); (have x4 := (World.cell?_of_block (w := w3) (w' := w4) (a := ⟨gb, k * 6 + 2, none⟩) (HG4.out.block gb hgb2 (fun e => by injection e with e; omega))).trans HD0.out); (have f4 := (World.frozen?_of_block (w := w3) (w' := w4) (a := ⟨gb, k * 6 + 2, none⟩) (HG4.out.block gb hgb2 (fun e => by injection e with e; omega))).trans HFZ.out); (have Q9 : Hid ((w4.setCell ⟨gb, k * 6 + 2, none⟩ (.int .i64 x)).cell? ⟨w1.heap.size, 1, none⟩ = some (.slice (some ⟨gb, 0, none⟩) l.length cb1)) := Lib.hid ((World.cell?_of_block (w := w4) (a := ⟨w1.heap.size, 1, none⟩) (Below.heap_setCell w4 ⟨gb, k * 6 + 2, none⟩ _ w1.heap.size (Ne.symm hgne))).trans q4)); clear hd4 hg4))
      have hgs := grown_set w4 gb (k * 6 + 2) (.int .i64 x)
      obtain ⟨l', hst, hszl⟩ := (HOSc.out.grown HG4.out (by omega)).upd hk 2 (by omega) x
      try rw [show k * 6 + 0 = k * 6 from rfl] at hst
      have HST := Lib.hid hst
      have HSZL := Lib.hid hszl
      have HR4d := Lib.hid ((hgs.block (w.heap.size + 1) (by omega) (fun e => by injection e with e; omega)).trans (row_grown HR4c.out HG4.out (by omega)))
      have HR5d := Lib.hid ((hgs.block w1.heap.size (by omega) (fun e => hgne (Option.some.inj e).symm)).trans HR54.out)
      have HOId : Hid (IntX (w4.setCell ⟨gb, k * 6 + 2, none⟩ (.int .i64 x)) (fun b => w.heap.size + 2 ≤ b) (.slice At1 ts.length ct1) ts) := Lib.hid (((HOIc.out.move (Nat.le_refl _) fun b h1 h2 => HG4.out.block b h2 (fun e => by injection e with e; omega)).moveLt (w' := w4.setCell ⟨gb, k * 6 + 2, none⟩ (.int .i64 x)) HNE.out fun b h1 h2 => hgs.block b (by omega) (fun e => by injection e with e; omega)).toX (by omega))
      have HDd : Hid (Dr (w4.setCell ⟨gb, k * 6 + 2, none⟩ (.int .i64 x)) g (p + 1 + 1 + 1)) := Lib.hid (HD4.out.low (grown_below hgs (by omega)) (by omega))
      have HGd : Hid (w.grownBy (w4.setCell ⟨gb, k * 6 + 2, none⟩ (.int .i64 x)) (some g)) := Lib.hid (grown_base (grown_tr HG3.out HG4.out) ((Below.refl _ _).setCell (p := ⟨gb, k * 6 + 2, none⟩) (by show w.heap.size ≤ gb; omega) _))
      clear hgs hst hszl q0 q1 z0 z1 zf0 zf1 x4 f4 q4
      generalize w4.setCell ⟨gb, k * 6 + 2, none⟩ (.int .i64 x) = W9 at *
      have q0 : W9.cell? ⟨w1.heap.size, 0, none⟩ = some ((.slice At1 ts.length ct1)) := by rw [cell_of_row _ _ _ _ _ _ HR5d.out]; rfl
      have q1 : W9.cell? ⟨w1.heap.size, 1, none⟩ = some ((.slice (some ⟨gb, 0, none⟩) l.length cb1)) := by rw [cell_of_row _ _ _ _ _ _ HR5d.out]; rfl
      have z0 : W9.cell? ⟨w.heap.size + 1, 0, none⟩ = some (.slice none 0 0) := by rw [cell_of_row _ _ _ _ _ _ HR4d.out]; rfl
      have z1 : W9.cell? ⟨w.heap.size + 1, 1, none⟩ = some (.slice none 0 0) := by rw [cell_of_row _ _ _ _ _ _ HR4d.out]; rfl
      have zf0 := frozen_of_row W9 (w.heap.size + 1) 0 _ _ HR4d.out
      have zf1 := frozen_of_row W9 (w.heap.size + 1) 1 _ _ HR4d.out
      go_wp2_with fail
      exact bodyPost_ret (results_cell_row rfl _ _ (w.heap.size + 1) 29 _ (0, 0) _ rfl (box2 HR4d.out _ _).1 Tryd.underlying29 rfl rfl) rfl
        (mut_close (p := p) hg HGd.out (box2 HR4d.out _ _).2 HDd.out HOId.out (HST.out.frame (Nat.le_refl _) fun b hb _ => ⟨by have hb' : lo ≤ b := hb; show w.heap.size + 2 ≤ b; omega, rfl⟩) (by omega) (by rw [HSZL.out]; omega) (by omega))
    · obtain ⟨gb, cap, eb, hgb, hgb2, -, hcells, hfz⟩ := HOSc.out.form hlp
      injection eb with eb1 eb2 eb3
      subst eb1 eb3
      obtain ⟨tv, ev, d0, d1, d2, d3, -, -, -, -⟩ := hcells k hk
      have hgne : gb ≠ w1.heap.size := by
        have hlt := (HOS.out.own_lt (g := gb) rfl).2
        omega
      have HD0 := Lib.hid d3
      have HFZ := Lib.hid (hfz (k * 6 + 3))
      clear hcells hfz d0 d1 d2 d3
      have CN : Calls Tryd.prog 15 #[.pointer (some ⟨g, 0, none⟩), .slice (some ⟨w3.heap.size, 0, none⟩) 3 3] (w3.alloc (.cells #[.int .i64 10, .int .i64 (-1), .int .i64 5] 3)).drew (fun e w' => ∃ x : Int, e = .returned (.int .i64 x) ∧ x ∈ [10, -1, 5] ∧ Dr w' g (p + 1 + 1 + 1) ∧ (w3.alloc (.cells #[.int .i64 10, .int .i64 (-1), .int .i64 5] 3)).drew.grownBy w' (some g)) :=
        num_any g _ _ [10, -1, 5] 3 _ (HD3.out.low ((bel_a w3 (.cells #[.int .i64 10, .int .i64 (-1), .int .i64 5] 3)).drew) (by omega)) (by omega) (RowB.new w3 _ _) (by omega) (by simp) (by simp)
      have HCN := Lib.hid CN
      have hwa := (bel_a w3 (.cells #[.int .i64 10, .int .i64 (-1), .int .i64 5] 3)).drew
      have HWA := Lib.hid hwa
      have HSA : Hid ((w3.alloc (.cells #[.int .i64 10, .int .i64 (-1), .int .i64 5] 3)).drew.heap.size = w3.heap.size + 1) := Lib.hid (by simp)
      clear CN hwa
      go_wp2_with fail
      go_region_held3 (fun w' => w'.cell? ⟨w1.heap.size, 1, none⟩ = some (.slice (some ⟨gb, 0, none⟩) l.length cb1))
        (first | exact q1 | assumption | exact Q9.out | go_keep)
        (first
          | (go_at_call 15; (with_reducible refine HCN.out.mono ?_); (rintro e w4 ⟨x, rfl, -, hd4, hg4⟩); (have hs4 : w3.heap.size + 1 ≤ w4.heap.size := by (have := hg4.size; rw [HSA.out] at this; exact this)); (have HD4 := Lib.hid hd4); (have HG4 := Lib.hid (grown_below' (World.grownBy.refl w3 _) HWA.out |> fun h => grown_tr h hg4)); (have HR54 := Lib.hid (row_grown HR5c.out HG4.out (by omega))); (have q4 : w4.cell? ⟨w1.heap.size, 1, none⟩ = some (.slice (some ⟨gb, 0, none⟩) l.length cb1) := by (rw [cell_of_row _ _ _ _ _ _ HR54.out]; rfl)); (have x4 := (World.cell?_of_block (w := w3) (w' := w4) (a := ⟨gb, k * 6 + 3, none⟩) (HG4.out.block gb hgb2 (fun e => by injection e with e; omega))).trans HD0.out); (have f4 := (World.frozen?_of_block (w := w3) (w' := w4) (a := ⟨gb, k * 6 + 3, none⟩) (HG4.out.block gb hgb2 (fun e => by injection e with e; omega))).trans HFZ.out); (have Q9 : Hid ((w4.setCell ⟨gb, k * 6 + 3, none⟩ (.int .i64 x)).cell? ⟨w1.heap.size, 1, none⟩ = some (.slice (some ⟨gb, 0, none⟩) l.length cb1)) := Lib.hid ((World.cell?_of_block (w := w4) (a := ⟨w1.heap.size, 1, none⟩) (Below.heap_setCell w4 ⟨gb, k * 6 + 3, none⟩ _ w1.heap.size (Ne.symm hgne))).trans q4)); clear hd4 hg4))
      have hgs := grown_set w4 gb (k * 6 + 3) (.int .i64 x)
      obtain ⟨l', hst, hszl⟩ := (HOSc.out.grown HG4.out (by omega)).upd hk 3 (by omega) x
      try rw [show k * 6 + 0 = k * 6 from rfl] at hst
      have HST := Lib.hid hst
      have HSZL := Lib.hid hszl
      have HR4d := Lib.hid ((hgs.block (w.heap.size + 1) (by omega) (fun e => by injection e with e; omega)).trans (row_grown HR4c.out HG4.out (by omega)))
      have HR5d := Lib.hid ((hgs.block w1.heap.size (by omega) (fun e => hgne (Option.some.inj e).symm)).trans HR54.out)
      have HOId : Hid (IntX (w4.setCell ⟨gb, k * 6 + 3, none⟩ (.int .i64 x)) (fun b => w.heap.size + 2 ≤ b) (.slice At1 ts.length ct1) ts) := Lib.hid (((HOIc.out.move (Nat.le_refl _) fun b h1 h2 => HG4.out.block b h2 (fun e => by injection e with e; omega)).moveLt (w' := w4.setCell ⟨gb, k * 6 + 3, none⟩ (.int .i64 x)) HNE.out fun b h1 h2 => hgs.block b (by omega) (fun e => by injection e with e; omega)).toX (by omega))
      have HDd : Hid (Dr (w4.setCell ⟨gb, k * 6 + 3, none⟩ (.int .i64 x)) g (p + 1 + 1 + 1)) := Lib.hid (HD4.out.low (grown_below hgs (by omega)) (by omega))
      have HGd : Hid (w.grownBy (w4.setCell ⟨gb, k * 6 + 3, none⟩ (.int .i64 x)) (some g)) := Lib.hid (grown_base (grown_tr HG3.out HG4.out) ((Below.refl _ _).setCell (p := ⟨gb, k * 6 + 3, none⟩) (by show w.heap.size ≤ gb; omega) _))
      clear hgs hst hszl q0 q1 z0 z1 zf0 zf1 x4 f4 q4
      generalize w4.setCell ⟨gb, k * 6 + 3, none⟩ (.int .i64 x) = W9 at *
      have q0 : W9.cell? ⟨w1.heap.size, 0, none⟩ = some ((.slice At1 ts.length ct1)) := by rw [cell_of_row _ _ _ _ _ _ HR5d.out]; rfl
      have q1 : W9.cell? ⟨w1.heap.size, 1, none⟩ = some ((.slice (some ⟨gb, 0, none⟩) l.length cb1)) := by rw [cell_of_row _ _ _ _ _ _ HR5d.out]; rfl
      have z0 : W9.cell? ⟨w.heap.size + 1, 0, none⟩ = some (.slice none 0 0) := by rw [cell_of_row _ _ _ _ _ _ HR4d.out]; rfl
      have z1 : W9.cell? ⟨w.heap.size + 1, 1, none⟩ = some (.slice none 0 0) := by rw [cell_of_row _ _ _ _ _ _ HR4d.out]; rfl
      have zf0 := frozen_of_row W9 (w.heap.size + 1) 0 _ _ HR4d.out
      have zf1 := frozen_of_row W9 (w.heap.size + 1) 1 _ _ HR4d.out
      go_wp2_with fail
      exact bodyPost_ret (results_cell_row rfl _ _ (w.heap.size + 1) 29 _ (0, 0) _ rfl (box2 HR4d.out _ _).1 Tryd.underlying29 rfl rfl) rfl
        (mut_close (p := p) hg HGd.out (box2 HR4d.out _ _).2 HDd.out HOId.out (HST.out.frame (Nat.le_refl _) fun b hb _ => ⟨by have hb' : lo ≤ b := hb; show w.heap.size + 2 ≤ b; omega, rfl⟩) (by omega) (by rw [HSZL.out]; omega) (by omega))
    · have CN : Calls Tryd.prog 15 #[.pointer (some ⟨g, 0, none⟩), .slice (some ⟨w3.heap.size, 0, none⟩) 4 4] (w3.alloc (.cells #[.int .i64 1, .int .i64 5, .int .i64 0, .int .i64 4] 3)).drew (fun e w' => ∃ x : Int, e = .returned (.int .i64 x) ∧ x ∈ [1, 5, 0, 4] ∧ Dr w' g (p + 1 + 1 + 1) ∧ (w3.alloc (.cells #[.int .i64 1, .int .i64 5, .int .i64 0, .int .i64 4] 3)).drew.grownBy w' (some g)) :=
        num_any g _ _ [1, 5, 0, 4] 3 _ (HD3.out.low ((bel_a w3 (.cells #[.int .i64 1, .int .i64 5, .int .i64 0, .int .i64 4] 3)).drew) (by omega)) (by omega) (RowB.new w3 _ _) (by omega) (by simp) (by simp)
      have HCN := Lib.hid CN
      have hwa := (bel_a w3 (.cells #[.int .i64 1, .int .i64 5, .int .i64 0, .int .i64 4] 3)).drew
      have HWA := Lib.hid hwa
      have HSA : Hid ((w3.alloc (.cells #[.int .i64 1, .int .i64 5, .int .i64 0, .int .i64 4] 3)).drew.heap.size = w3.heap.size + 1) := Lib.hid (by simp)
      clear CN hwa
      have tok1 : True := trivial
      have hb5 : w1.heap.size < w3.heap.size := by omega
      clear q1
      go_wp2_with fail
      go_region_law (first
          | ((have _t := tok1); clear tok1 _t; (refine step_app_ints (by rfl) (.tmp 65) (.tmp 69) (by rfl) (w.heap.size + 2) (.slice At1 ts.length ct1) ts (by simp [Act.eval]) HOI4.out (w4.heap.size + 1) (.slice (some ⟨w4.heap.size, 0, none⟩) 1 1) [x] (by simp [Act.eval]) HIS4.out (by simp; omega) (by simp; omega) ?_); intro v' w5 hoi5 hg5 hor5; (generalize hts1 : ts ++ [x] = ts1 at hoi5); (have hl1' : ts1.length ≤ 601 := by (rw [← hts1]; simp; omega)); clear hts1; (have HOI5 := Lib.hid hoi5); (have HG5 := Lib.hid hg5); (have HOR5 := Lib.hid hor5); (have hR55 := row_app_other (row_below HR54.out (bel_a w4 _)) HOI4.out HG5.out (by decide)); (have HR55 := Lib.hid hR55); (have q50 : w5.cell? ⟨w1.heap.size, 0, none⟩ = some (.slice At1 ts.length ct1) := by (rw [cell_of_row _ _ _ _ _ _ hR55]; rfl)); (have f50 := frozen_of_row w5 w1.heap.size 0 _ _ hR55); (obtain ⟨A5, c5, rfl, -⟩ := hoi5.slice); clear hoi5 hg5 hor5 hR55)
          | (go_simp; go_at_call 15; (with_reducible refine HCN.out.mono ?_); (rintro e w4 ⟨x, rfl, -, hd4, hg4⟩); (have hs4 : w3.heap.size + 1 ≤ w4.heap.size := by (have := hg4.size; rw [HSA.out] at this; exact this)); (have HD4 := Lib.hid hd4); (have HG4 := Lib.hid (grown_below' (World.grownBy.refl w3 _) HWA.out |> fun h => grown_tr h hg4)); (have HR54 := Lib.hid (row_grown HR5c.out HG4.out (by omega))); (have q40 : w4.cell? ⟨w1.heap.size, 0, none⟩ = some (.slice At1 ts.length ct1) := by (rw [cell_of_row _ _ _ _ _ _ HR54.out]; rfl));
              (have HOI4 : Hid (OInts (w4.alloc (.cells #[.int .i64 x] 3)) (w.heap.size + 2) (.slice At1 ts.length ct1) ts) := Lib.hid ((HOIc.out.move (w' := w4) (Nat.le_refl _) fun b h1 h2 => HG4.out.block b h2 (fun e => by injection e with e; omega)).move (Nat.le_refl _) fun b h1 h2 => (bel_a w4 _).block b h2)); (have hb54 : w1.heap.size < w4.heap.size := by omega); (have HIS4 : Hid (IntS (w4.alloc (.cells #[.int .i64 x] 3)) (w4.heap.size + 1) (.slice (some ⟨w4.heap.size, 0, none⟩) 1 1) [x]) := Lib.hid (ints_one w4 x)); clear hd4 hg4)
          | fail)
      all_goals
        have hgs := grown_set w5 w1.heap.size 0 (.slice A5 ts1.length c5)
        have hown : ∀ b, lo ≤ b → some b ≠ Value.ownBlock (.slice At1 ts.length ct1) := fun b hb e => by have := HNE.out b e.symm; omega
        have hs5 : w4.heap.size + 1 ≤ w5.heap.size := by have := HG5.out.size; simpa using this
        have HR5d := Lib.hid ((heap_setCell_same w5 w1.heap.size 0 _ _ (.slice A5 ts1.length c5) HR55.out).trans (by simp : _ = some (Obj.cells #[.slice A5 ts1.length c5, (.slice Ab1 l.length cb1)] 29 (0, 0))))
        have HR4d := Lib.hid ((hgs.block (w.heap.size + 1) (by omega) (fun e => by injection e with e; omega)).trans (row_app_other (row_below (row_grown HR4c.out HG4.out (by omega)) (bel_a w4 _)) HOI4.out HG5.out (by decide)))
        have HOI9 : Hid (OInts (w5.setCell ⟨w1.heap.size, 0, none⟩ (.slice A5 ts1.length c5)) (w.heap.size + 2) (.slice A5 ts1.length c5) ts1) := Lib.hid (HOI5.out.otherT HR55.out (by decide) 0 _)
        have HST9 : Hid (StX (w5.setCell ⟨w1.heap.size, 0, none⟩ (.slice A5 ts1.length c5)) (fun b => w.heap.size + 2 ≤ b) (.slice Ab1 l.length cb1) l) := Lib.hid (HOS.out.toX.frame (by rw [size_set]; show w1.heap.size ≤ w5.heap.size; omega) fun b hb hl => ⟨by have hb' : lo ≤ b := hb; show w.heap.size + 2 ≤ b; omega,
          (hgs.block b (by omega) (fun e => by injection e with e; omega)).trans ((HG5.out.block b (by simp; omega) (hown b hb)).trans (((bel_a w4 _).block b (by omega)).trans ((HG4.out.block b (by omega) (fun e => by injection e with e; have hb' : lo ≤ b := hb; omega)).trans (HG13.out.block b hl (fun e => by injection e with e; have hb' : lo ≤ b := hb; omega)))))⟩)
        have hbw : Below w.heap.size w4 (w5.setCell ⟨w1.heap.size, 0, none⟩ (.slice A5 ts1.length c5)) := (((bel_a w4 (.cells #[.int .i64 x] 3)).mono (by omega)).trans ⟨HG5.out.os, HG5.out.tape, HG5.out.output, HG5.out.size, fun k hk => HG5.out.block k (by simp; omega) (fun e => by have := (HOI.out.own_lt e.symm).1; omega)⟩).setCell (p := ⟨w1.heap.size, 0, none⟩) (by show w.heap.size ≤ w1.heap.size; omega) _
        have HD9 := Lib.hid (HD4.out.low hbw hg)
        have HG9 := Lib.hid (grown_base (grown_tr HG3.out HG4.out) hbw)
        clear hgs hown hbw q0 z0 z1 zf0 zf1 q40 q50 f50 hs5
        generalize w5.setCell ⟨w1.heap.size, 0, none⟩ (.slice A5 ts1.length c5) = W9 at *
        have q0 : W9.cell? ⟨w1.heap.size, 0, none⟩ = some ((.slice A5 ts1.length c5)) := by rw [cell_of_row _ _ _ _ _ _ HR5d.out]; rfl
        have q1 : W9.cell? ⟨w1.heap.size, 1, none⟩ = some ((.slice Ab1 l.length cb1)) := by rw [cell_of_row _ _ _ _ _ _ HR5d.out]; rfl
        have z0 : W9.cell? ⟨w.heap.size + 1, 0, none⟩ = some (.slice none 0 0) := by rw [cell_of_row _ _ _ _ _ _ HR4d.out]; rfl
        have z1 : W9.cell? ⟨w.heap.size + 1, 1, none⟩ = some (.slice none 0 0) := by rw [cell_of_row _ _ _ _ _ _ HR4d.out]; rfl
        have zf0 := frozen_of_row W9 (w.heap.size + 1) 0 _ _ HR4d.out
        have zf1 := frozen_of_row W9 (w.heap.size + 1) 1 _ _ HR4d.out
        go_wp2_with fail
        exact bodyPost_ret (results_cell_row rfl _ _ (w.heap.size + 1) 29 _ (0, 0) _ rfl (box2 HR4d.out _ _).1 Tryd.underlying29 rfl rfl) rfl
          (mut_close (p := p) hg HG9.out (box2 HR4d.out _ _).2 HD9.out ((HOI9.out.toX (by omega)).frame (Nat.le_refl _) fun b hb _ => ⟨hb, rfl⟩) HST9.out (by omega) (by omega) (by omega))

    · have hosr : OStR w3 lo (fun b => b ≠ w1.heap.size) (.slice Ab1 l.length cb1) l := HOS.out.toR (by omega) fun b h1 h2 => ⟨by omega, HG13.out.block b h2 (fun e => by injection e with e; omega)⟩
      have HOSR := Lib.hid hosr
      obtain ⟨s0, hs0, hs0z⟩ : ∃ s0 : St, l.head? = some s0 ∧ s0.sz ≤ 600 := by
        cases l with
        | nil => simp at hlp
        | cons a r => exact ⟨a, rfl, by simp only [szL] at hsz; omega⟩
      have HS0 := Lib.hid hs0
      clear hosr hs0 q0 q1 z0 z1 zf0 zf1
      go_wp2_with fail
      go_loopw [7] (fun i wr => ∃ (j : Nat) (v : Value) (lx : List St), i = .int .i64 j ∧ j ≤ 31 ∧ MuI w1 w3 wr (w.heap.size + 1) g (p + 1 + 1) lo (.slice At1 ts.length ct1) v (.cells #[.slice none 0 0, .slice none 0 0] 29) lx s0 (szL l + j * 600)) (fun i _ => 31 - (intOf i).toNat)
      case atStart => exact ⟨0, (.slice Ab1 l.length cb1), l, rfl, by omega, HR5c.out, HR4c.out, HOSR.out, hlp, HS0.out, by omega, HD3.out, Below.refl _ _, Nat.le_refl _⟩
      case round =>
        obtain ⟨j, v, lx, rfl, hj, hr5, hr4, hox, hlx, hhd, hsx, hdx, hgx, hszx⟩ := hrel
        have hox0 := hox
        obtain ⟨gx, cx, e0, rfl, hgx0, hgx1, hhd0, y0, y1, y2, y3, y4, y5, hx4, hx5⟩ := hox0.first hlx
        have hst0 : e0.st = s0 := by rw [hhd] at hhd0; injection hhd0 with h; exact h.symm
        have HST0 := Lib.hid hst0
        obtain ⟨op, x, y, nn, tv, ev, th, el⟩ := e0
        simp only at y0 y1 y2 y3 y4 y5 hx4 hx5
        obtain ⟨A4, c4, rfl, -⟩ := hx4.slice
        obtain ⟨A5, c5, rfl, -⟩ := hx5.slice
        generalize hn4 : th.length = n4 at *
        generalize hn5 : el.length = n5 at *
        have HX4 := Lib.hid hx4
        have HX5 := Lib.hid hx5
        have HOX := Lib.hid hox
        have HR5x := Lib.hid hr5
        have HR4x := Lib.hid hr4
        have HHD := Lib.hid hhd
        have HSX := Lib.hid hsx
        have HDX := Lib.hid hdx
        have HGX := Lib.hid hgx
        have hlx6 : lx.length ≤ 30000 := by
          have := len_le_szL lx
          omega
        have HN4 := Lib.hid hn4
        have HN5 := Lib.hid hn5
        have hb5x : w1.heap.size < wr.heap.size := by omega
        have hlox : lo ≤ wr.heap.size := by have := HLO.out; omega
        clear hst0 hx4 hx5 hox hr5 hr4 hhd hhd0 hsx hdx hgx hn4 hn5
        have q1 : wr.cell? ⟨w1.heap.size, 1, none⟩ = some (.slice (some ⟨gx, 0, none⟩) lx.length cx) := by rw [cell_of_row _ _ _ _ _ _ HR5x.out]; rfl
        by_cases hjl : j ≤ 30
        · have hal := (bel_a wr (.cells #[.int .i64 op, .int .i64 x, .int .i64 y, .int .i64 nn, .slice A4 n4 c4, .slice A5 n5 c5] 47)).drew
          have HAL := Lib.hid hal
          have hja : IntKind.i64.wrap ((j : Int) + 1) = (j : Int) + 1 := by rw [IntKind.wrap_i64]; omega
          have hz6 : w.heap.size + 1 < wr.heap.size := by omega
          have hpx : OStR (wr.alloc (.cells #[.int .i64 op, .int .i64 x, .int .i64 y, .int .i64 nn, .slice A4 n4 c4, .slice A5 n5 c5] 47)).drew lo (fun b => b ≠ w1.heap.size) (.slice (some ⟨gx, 0, none⟩) lx.length cx) lx := HOX.out.move (by simp) (fun b hb => by injection hb with hb; have hb' : gx = b := hb; subst hb'; exact hal.block gx (by omega)) fun b h1 h2 h3 => hal.block b h3
          have HPX := Lib.hid hpx
          have hrw : (wr.alloc (.cells #[.int .i64 op, .int .i64 x, .int .i64 y, .int .i64 nn, .slice A4 n4 c4, .slice A5 n5 c5] 47)).drew.heap[wr.heap.size]? = some (.cells #[.int .i64 op, .int .i64 x, .int .i64 y, .int .i64 nn, .slice A4 n4 c4, .slice A5 n5 c5] 47) := heap_alloc_new wr (.cells #[.int .i64 op, .int .i64 x, .int .i64 y, .int .i64 nn, .slice A4 n4 c4, .slice A5 n5 c5] 47)
          have HRW := Lib.hid hrw
          have HXX : Hid (∀ e ∈ [Se.mk op x y nn (.slice A4 n4 c4) (.slice A5 n5 c5) th el], StX (wr.alloc (.cells #[.int .i64 op, .int .i64 x, .int .i64 y, .int .i64 nn, .slice A4 n4 c4, .slice A5 n5 c5] 47)).drew (fun b => (lo ≤ b ∧ b ≠ w1.heap.size) ∧ (Value.slice (some ⟨gx, 0, none⟩) lx.length cx).ownBlock ≠ some b) e.tv e.th ∧ StX (wr.alloc (.cells #[.int .i64 op, .int .i64 x, .int .i64 y, .int .i64 nn, .slice A4 n4 c4, .slice A5 n5 c5] 47)).drew (fun b => (lo ≤ b ∧ b ≠ w1.heap.size) ∧ (Value.slice (some ⟨gx, 0, none⟩) lx.length cx).ownBlock ≠ some b) e.ev e.el) := Lib.hid fun e he => by
            rw [List.mem_singleton.1 he]
            exact ⟨HX4.out.frame (by simp) fun b hb hl => ⟨hb, hal.block b hl⟩, HX5.out.frame (by simp) fun b hb hl => ⟨hb, hal.block b hl⟩⟩
          have hf5 := frozen_of_row wr w1.heap.size 1 _ _ HR5x.out
          have HSEO := Lib.hid (seOne (Se.mk op x y nn (.slice A4 n4 c4) (.slice A5 n5 c5) th el) hrw)
          clear hal hpx hrw
          go_wp2_with fail
          go_region_law (first
            | ((refine step_app_st (by rfl) (.tmp 79) (.tmp 84) (by rfl) lo (fun b => b ≠ w1.heap.size) (.slice (some ⟨gx, 0, none⟩) lx.length cx) lx (by simp [Act.eval]) HPX.out (by simp; omega) [Se.mk op x y nn (.slice A4 n4 c4) (.slice A5 n5 c5) th el] ⟨wr.heap.size, 0, none⟩ 1 1 rfl (by simp [Act.eval]) (by simp; omega) HSEO.out HXX.out ?_); intro v' w5 hos5 hg5 hor5; (generalize hly : lx ++ List.map Se.st [Se.mk op x y nn (.slice A4 n4 c4) (.slice A5 n5 c5) th el] = ly at hos5); (have HLY := Lib.hid hly); clear hly; (have hr55 := (hg5.block w1.heap.size (by simp; omega) (fun e => HPX.out.own_ne (row_below HR5x.out HAL.out : (wr.alloc (.cells #[.int .i64 op, .int .i64 x, .int .i64 y, .int .i64 nn, .slice A4 n4 c4, .slice A5 n5 c5] 47)).drew.heap[w1.heap.size]? = _) (by decide) e.symm)).trans (row_below HR5x.out HAL.out)); (have hr45 := (hg5.block (w.heap.size + 1) (by simp; omega) (fun e => HPX.out.own_ne (row_below HR4x.out HAL.out : (wr.alloc (.cells #[.int .i64 op, .int .i64 x, .int .i64 y, .int .i64 nn, .slice A4 n4 c4, .slice A5 n5 c5] 47)).drew.heap[w.heap.size + 1]? = _) (by decide) e.symm)).trans (row_below HR4x.out HAL.out)); (have HR55 := Lib.hid hr55); (have HR45 := Lib.hid hr45); (have q51 : w5.cell? ⟨w1.heap.size, 1, none⟩ = some (.slice (some ⟨gx, 0, none⟩) lx.length cx) := by (rw [cell_of_row _ _ _ _ _ _ hr55]; rfl)); (have f51 := frozen_of_row w5 w1.heap.size 1 _ _ hr55); (have HOS5 := Lib.hid hos5); (have HG5 := Lib.hid hg5); (obtain ⟨A6, c6, rfl, -⟩ := hos5.to.slice); clear hos5 hg5 hor5 hr55 hr45)
            | fail)
          all_goals
            go_wp2_with fail
            case roundEnd =>
              have hw9 : Below lo wr (w5.setCell ⟨w1.heap.size, 1, none⟩ (.slice A6 ly.length c6)) := ((HAL.out.mono (by omega)).trans (⟨HG5.out.os, HG5.out.tape, HG5.out.output, HG5.out.size, fun b hb => HG5.out.block b (by simp; omega) (fun e => by have := HPX.out.own_ge e.symm; omega)⟩ : Below lo (wr.alloc (.cells #[.int .i64 op, .int .i64 x, .int .i64 y, .int .i64 nn, .slice A4 n4 c4, .slice A5 n5 c5] 47)).drew w5)).setCell (p := ⟨w1.heap.size, 1, none⟩) (by show lo ≤ w1.heap.size; omega) _
              refine ⟨⟨j + 1, _, ly, by go_num, by omega, (heap_setCell_same w5 w1.heap.size 1 _ _ (.slice A6 ly.length c6) HR55.out).trans (by simp), (heap_setCell_other w5 ⟨w1.heap.size, 1, none⟩ (w.heap.size + 1) _ (by show w.heap.size + 1 ≠ w1.heap.size; omega)).trans HR45.out, HOS5.out.setX (HOS5.out.own_ne HR55.out (by decide)) (by simp) 1 _, by rw [← HLY.out]; simp, ?_, ?_, HDX.out.low hw9 (by omega), HGX.out.trans hw9, by have := hw9.size; omega⟩, by simp [intOf] <;> omega⟩
              · rw [← HLY.out, List.head?_append, HHD.out]; rfl
              · rw [← HLY.out, szL_append]
                have e1 := HSX.out
                have e2 : szL (List.map Se.st [Se.mk op x y nn (.slice A4 n4 c4) (.slice A5 n5 c5) th el]) = s0.sz := by rw [← HST0.out]; simp [szL]
                rw [e2]; omega
        · have hjx : (j : Int) ≤ 30 → False := fun h => by omega
          clear y0 y1 y2 y3 y4 y5
          have q0 : wr.cell? ⟨w1.heap.size, 0, none⟩ = some ((.slice At1 ts.length ct1)) := by rw [cell_of_row _ _ _ _ _ _ HR5x.out]; rfl
          have q11 : wr.cell? ⟨w1.heap.size, 1, none⟩ = some ((.slice (some ⟨gx, 0, none⟩) lx.length cx)) := by rw [cell_of_row _ _ _ _ _ _ HR5x.out]; rfl
          have z0 : wr.cell? ⟨w.heap.size + 1, 0, none⟩ = some (.slice none 0 0) := by rw [cell_of_row _ _ _ _ _ _ HR4x.out]; rfl
          have z1 : wr.cell? ⟨w.heap.size + 1, 1, none⟩ = some (.slice none 0 0) := by rw [cell_of_row _ _ _ _ _ _ HR4x.out]; rfl
          have zf0 := frozen_of_row wr (w.heap.size + 1) 0 _ _ HR4x.out
          have zf1 := frozen_of_row wr (w.heap.size + 1) 1 _ _ HR4x.out
          go_wp2_with fail
          exact bodyPost_ret (results_cell_row rfl _ _ (w.heap.size + 1) 29 _ (0, 0) _ rfl (box2 HR4x.out _ _).1 Tryd.underlying29 rfl rfl) rfl
            (mut_close (p := p) hg (grown_base HG3.out (HGX.out.mono (by omega))) (box2 HR4x.out _ _).2 HDX.out ((HOIc.out.moveLt HNE.out fun b h1 h2 => HGX.out.block b h2).toX (by omega)) (HOX.out.to.toX.frame (Nat.le_refl _) fun b hb _ => ⟨by have hb' : lo ≤ b := hb; show w.heap.size + 2 ≤ b; omega, rfl⟩) (by omega) (by have := HSX.out; omega) (by omega))
    · obtain ⟨gb, cap, eb, hgb, hgb2, hcap, -, -⟩ := HOSc.out.form hlp
      injection eb with eb1 eb2 eb3
      subst eb1 eb3
      have hgne : gb ≠ w1.heap.size := by
        have hlt := (HOS.out.own_lt (g := gb) rfl).2
        omega
      have hosr : OStR w3 lo (fun b => b ≠ w1.heap.size) (.slice (some ⟨gb, 0, none⟩) l.length cb1) l := HOS.out.toR (by omega) fun b h1 h2 => ⟨by omega, HG13.out.block b h2 (fun e => by injection e with e; omega)⟩
      obtain ⟨hcut, es2, hes2, hcells2, hst2⟩ := hosr.cut hk
      have hes2l : l.length - (k + 1) = es2.length := by have := congrArg List.length hes2; simp at this; omega
      obtain ⟨A, hA, hnews⟩ : ∃ A : Addr, (if cb1 = k + 1 then some (⟨gb, 0, none⟩ : Addr) else some ⟨gb, (k + 1) * 6, none⟩) = some A ∧ Hid (∀ j u, (seCells es2)[j]? = some u → w3.drew.cell? (A.add j) = some u) := by
        by_cases h : cb1 = k + 1
        · refine ⟨⟨gb, 0, none⟩, by simp [h], Lib.hid fun j u hu => ?_⟩
          have h0 : es2 = [] := List.length_eq_zero_iff.1 (by omega)
          subst h0
          simp [seCells] at hu
        · refine ⟨⟨gb, (k + 1) * 6, none⟩, by simp [h], Lib.hid fun j u hu => ?_⟩
          have := hcells2 j u hu
          by_cases hj : j = 0
          · subst hj; simpa [Addr.add] using this
          · simpa [Addr.add, hj] using this
      have HCUT := Lib.hid (hcut.move (w' := w3.drew) (Nat.le_refl _) (fun _ _ => rfl) (fun _ _ _ _ => rfl))
      have HES2 := Lib.hid hes2
      have HST2 : Hid (∀ e ∈ es2, StX w3.drew (fun b => (lo ≤ b ∧ b ≠ w1.heap.size) ∧ (Value.slice (some ⟨gb, 0, none⟩) k cb1).ownBlock ≠ some b) e.tv e.th ∧ StX w3.drew (fun b => (lo ≤ b ∧ b ≠ w1.heap.size) ∧ (Value.slice (some ⟨gb, 0, none⟩) k cb1).ownBlock ≠ some b) e.ev e.el) := Lib.hid fun e he => ⟨(hst2 e he).1.frame (Nat.le_refl _) fun b hb _ => ⟨hb, rfl⟩, (hst2 e he).2.frame (Nat.le_refl _) fun b hb _ => ⟨hb, rfl⟩⟩
      have HEL := Lib.hid hes2l
      have hic : k ≤ cb1 := by omega
      have hwr : IntKind.i64.wrap ((k : Int) + 1) = (k : Int) + 1 := by rw [IntKind.wrap_i64]; omega
      have hp0 : (0 : Int) ≤ (k : Int) + 1 := by omega
      have hp1 : (k : Int) + 1 ≤ (l.length : Int) := by omega
      have hp2 : ((k : Int) + 1).toNat = k + 1 := by omega
      have hn1 : (l.take k).length + es2.length ≤ 1000000 := by simp; omega
      have HN1 := Lib.hid hn1
      have hlo3 := HLO.out
      have f0 : w3.frozen? ⟨w1.heap.size, 1, none⟩ = false := frozen_of_row w3 w1.heap.size 1 _ _ HR5c.out
      have hb5 : w1.heap.size < w3.heap.size := by omega
      clear hcut hes2 hcells2 hst2 hosr hes2l hn1 q0
      go_wp2_with fail
      go_region_law (first
          | ((refine step_app_st (by rfl) (.tmp 92) (.tmp 97) (by rfl) lo (fun b => b ≠ w1.heap.size) (.slice (some ⟨gb, 0, none⟩) k cb1) (l.take k) (by simp [Act.eval, Act.put]) HCUT.out (by show lo ≤ w3.heap.size; omega) es2 A (l.length - (k + 1)) (cb1 - (k + 1)) HEL.out (by simp [Act.eval, Act.put]) HN1.out hnews.out HST2.out ?_); intro v' w5 hos5 hg5 hor5; (have hgx : w3.grownBy w5 (some gb) := grown_tr (grown_bel ((Below.refl _ _).drew) (Nat.le_refl _) _) hg5); (have HOS5 := Lib.hid hos5); (have HGX := Lib.hid hgx); (have HOR5 := Lib.hid hor5); (have hR55 := (hgx.block w1.heap.size (by omega) (fun e => hgne (Option.some.inj e).symm)).trans HR5c.out); (have HR55 := Lib.hid hR55); (have q51 : w5.cell? ⟨w1.heap.size, 1, none⟩ = some (.slice (some ⟨gb, 0, none⟩) l.length cb1) := by (rw [cell_of_row _ _ _ _ _ _ hR55]; rfl)); (have f51 := frozen_of_row w5 w1.heap.size 1 _ _ hR55); (generalize hl1' : l.take k ++ es2.map Se.st = lx at hos5); (have HLX := Lib.hid hl1'); clear hl1'; (obtain ⟨A5, c5, rfl, -⟩ := hos5.to.slice); clear hos5 hg5 hor5 hR55 hgx)
          | fail)
      all_goals
        have hgs := grown_set w5 w1.heap.size 1 (.slice A5 lx.length c5)
        have hs5 : w3.heap.size ≤ w5.heap.size := HGX.out.size
        have hszx : szL lx ≤ szL l := by
          rw [← HLX.out, ← HES2.out, szL_append]
          have e := szL_append (l.take (k + 1)) (l.drop (k + 1))
          rw [List.take_append_drop, take_succ_get l k hk, szL_append] at e
          omega
        have HSZX := Lib.hid hszx
        have hos6 := HOS5.out
        rw [HLX.out] at hos6
        have hown6 : ∀ b, Value.ownBlock (.slice A5 lx.length c5) = some b → b ≠ w1.heap.size := fun b hb => by
          rcases HOR5.out with h | h
          · rw [h] at hb; injection hb with hb; intro e; exact hgne (hb.trans e)
          · rw [h] at hb; injection hb with hb; have hb' : w3.heap.size = b := hb; omega
        have HST9 : Hid (StX (w5.setCell ⟨w1.heap.size, 1, none⟩ (.slice A5 lx.length c5)) (fun b => w.heap.size + 2 ≤ b) (.slice A5 lx.length c5) lx) := Lib.hid ((hos6.setX (fun e => hown6 _ e rfl) (by simp) 1 _).to.toX.frame (Nat.le_refl _) fun b hb _ => ⟨by have hb' : lo ≤ b := hb; show w.heap.size + 2 ≤ b; omega, rfl⟩)
        have HR5d := Lib.hid ((heap_setCell_same w5 w1.heap.size 1 _ _ (.slice A5 lx.length c5) HR55.out).trans (by simp : _ = some (Obj.cells #[(.slice At1 ts.length ct1), .slice A5 lx.length c5] 29 (0, 0))))
        have HR4d := Lib.hid ((hgs.block (w.heap.size + 1) (by omega) (fun e => by injection e with e; omega)).trans ((HGX.out.block (w.heap.size + 1) (by omega) (fun e => by injection e with e; omega)).trans HR4c.out))
        have HOI9 : Hid (IntX (w5.setCell ⟨w1.heap.size, 1, none⟩ (.slice A5 lx.length c5)) (fun b => w.heap.size + 2 ≤ b) (.slice At1 ts.length ct1) ts) := Lib.hid ((HOIc.out.moveLt HNE.out fun b h1 h2 => (hgs.block b (by omega) (fun e => by injection e with e; omega)).trans (HGX.out.block b (by omega) (fun e => by injection e with e; omega))).toX (by omega))
        have hbw : Below w.heap.size w3 (w5.setCell ⟨w1.heap.size, 1, none⟩ (.slice A5 lx.length c5)) := (⟨HGX.out.os, HGX.out.tape, HGX.out.output, HGX.out.size, fun b hb => HGX.out.block b (by omega) (fun e => by injection e with e; omega)⟩ : Below w.heap.size w3 w5).setCell (p := ⟨w1.heap.size, 1, none⟩) (by show w.heap.size ≤ w1.heap.size; omega) _
        have HD9 := Lib.hid (HD3.out.low hbw hg)
        have HG9 := Lib.hid (grown_base HG3.out hbw)
        clear hgs hbw q1 z0 z1 zf0 zf1 q51 f51 hs5 hos6 hown6 hszx f0 hwr hp2
        generalize w5.setCell ⟨w1.heap.size, 1, none⟩ (.slice A5 lx.length c5) = W9 at *
        have q0 : W9.cell? ⟨w1.heap.size, 0, none⟩ = some ((.slice At1 ts.length ct1)) := by rw [cell_of_row _ _ _ _ _ _ HR5d.out]; rfl
        have q1 : W9.cell? ⟨w1.heap.size, 1, none⟩ = some ((.slice A5 lx.length c5)) := by rw [cell_of_row _ _ _ _ _ _ HR5d.out]; rfl
        have z0 : W9.cell? ⟨w.heap.size + 1, 0, none⟩ = some (.slice none 0 0) := by rw [cell_of_row _ _ _ _ _ _ HR4d.out]; rfl
        have z1 : W9.cell? ⟨w.heap.size + 1, 1, none⟩ = some (.slice none 0 0) := by rw [cell_of_row _ _ _ _ _ _ HR4d.out]; rfl
        have zf0 := frozen_of_row W9 (w.heap.size + 1) 0 _ _ HR4d.out
        have zf1 := frozen_of_row W9 (w.heap.size + 1) 1 _ _ HR4d.out
        go_wp2_with fail
        exact bodyPost_ret (results_cell_row rfl _ _ (w.heap.size + 1) 29 _ (0, 0) _ rfl (box2 HR4d.out _ _).1 Tryd.underlying29 rfl rfl) rfl
          (mut_close (p := p) hg HG9.out (box2 HR4d.out _ _).2 HD9.out HOI9.out HST9.out (by omega) (by have := HSZX.out; omega) (by omega))
    · go_wp2_with fail
      exact bodyPost_ret (results_cell_row rfl _ _ (w.heap.size + 1) 29 _ (0, 0) _ rfl (box2 HR4c.out _ _).1 Tryd.underlying29 rfl rfl) rfl
        (mut_close (p := p) hg HG3.out (box2 HR4c.out _ _).2 HD3.out (HOIc.out.toX (by omega)) (HOSc.out.toX.frame (Nat.le_refl _) fun b hb _ => ⟨by have hb' : lo ≤ b := hb; show w.heap.size + 2 ≤ b; omega, rfl⟩) (by omega) (by omega) (by omega))

end Go.Proofs.YtfioaohadanjmaaDoor
