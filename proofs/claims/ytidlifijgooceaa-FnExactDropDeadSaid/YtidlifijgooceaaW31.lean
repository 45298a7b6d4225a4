import Derived.Test.YtidlifijgooceaaW30
set_option linter.unusedVariables false

/- impl.Program.dropped, impl.Program.isStmt, impl.DropStmt. -/
namespace Go.Proofs.Ytidlifijgooceaa
open Go.RowKit

theorem DT.ownLt {w : World} {P : Nat → Prop} {v : Value} {l : List St} (h : DT w P v l) {g : Nat} (e : v.ownBlock = some g) : P g ∧ g < w.heap.size := by
  cases h with
  | nil => simp [Value.ownBlock] at e
  | mk P g' cap cs l tv ev Pt Pe hg hr ht he st dj =>
    have : g' = g := by simpa [Value.ownBlock] using e
    subst this
    exact ⟨hg, hr.row.lt⟩
theorem OInts.keepBlk {w w' : World} {base base' : Nat} {v : Value} {l : List Int} (h : OInts w base v l) (hb : base' ≤ base) (hk : ∀ g, v.ownBlock = some g → w'.heap[g]? = w.heap[g]?) : OInts w' base' v l := by
  refine ⟨h.1, ?_⟩
  rcases h.2 with h2 | ⟨g, cap, cur, e, hg, hh, h3⟩
  · exact .inl h2
  · exact .inr ⟨g, cap, cur, e, by omega, (hk g (by rw [e]; rfl)).trans hh, h3⟩
theorem OInts.ne {w : World} {base g : Nat} {v : Value} {l : List Int} {t : TypeId} {xs : List Value} (h : OInts w base v l) (hr : RowB w g t xs) (ht : t ≠ 3) : v.ownBlock ≠ some g := by
  rcases h.2 with ⟨e, h2⟩ | ⟨g', cap, cur, e, hg, hh, h3⟩
  · rw [e]; simp [Value.ownBlock]
  · rw [e]
    intro e2
    have : g' = g := by simpa [Value.ownBlock] using e2
    subst this
    unfold RowB at hr
    rw [hr] at hh
    injection hh with hh
    injection hh with _ hT
    exact ht hT
set_option maxHeartbeats 4000000 in
set_option maxRecDepth 100000 in
theorem dropped_any (vt vb : Value) (ts : List Int) (l : List St) (k B : Nat) (w : World) (ht : IntS w B vt ts) (hl : StS w B vb l) (hB : B ≤ w.heap.size) (hk : k < l.length) (hts : ts.length ≤ 4000000) (hsz : szL l ≤ 4194000) :
    Calls Try.prog 65 #[.agg #[vt, vb], .int .i64 (k : Nat)] w (CpDRet w ts (l.eraseIdx k)) := by
  have hll := len_le_szL l
  have ht0 := ht
  obtain ⟨At, ct, rfl, -⟩ := ht0
  obtain ⟨Ab, cb, rfl, -⟩ := hl.slice
  have HX := Lib.hid ((RowB.new w [.slice At ts.length ct, .slice Ab l.length cb] 26).alloc (.cells #[.slice none 0 0, .slice none 0 0] 26))
  have HR := Lib.hid (RowB.new (w.alloc (.cells #[.slice At ts.length ct, .slice Ab l.length cb] 26)) [.slice none 0 0, .slice none 0 0] 26)
  have hz1 : (w.alloc (.cells #[.slice At ts.length ct, .slice Ab l.length cb] 26)).heap.size = w.heap.size + 1 := by simp
  rw [hz1] at HR
  have HB0 := Lib.hid ((bel_a w (.cells #[.slice At ts.length ct, .slice Ab l.length cb] 26)).alloc (by simp) (.cells #[.slice none 0 0, .slice none 0 0] 26))
  have HT := Lib.hid ht
  have HL := Lib.hid hl
  clear hz1 ht hl
  go_enter Try.func65, Try.ntmps65
  go_upto_region 1 with (at_builtin; fail)
  generalize (w.alloc (.cells #[.slice At ts.length ct, .slice Ab l.length cb] 26)).alloc (.cells #[.slice none 0 0, .slice none 0 0] 26) = W at *
  have x0 := HX.out.cell 0
  have x1 := HX.out.cell 1
  simp only [List.getElem?_cons_zero, List.getElem?_cons_succ] at x0 x1
  have hs0 := HB0.out.size
  have hr0 := HR.out.lt
  go_wp2_with (at_builtin; fail)
  refine (powndt_any _ _ ts l B W (HT.out.low HB0.out hB) (HL.out.low HB0.out hB) (by omega) hts hsz).mono ?_
  rintro e w1 ⟨vt1, vb1, lo, rfl, hoi, hown, hlo, hdt, hb1⟩
  have HR := Lib.hid ((HR.out.low hb1 hr0).alloc (.cells #[vt1, vb1] 26))
  have HX5 := Lib.hid (RowB.new w1 [vt1, vb1] 26)
  have hA := bel_a w1 (.cells #[vt1, vb1] 26)
  have HOI := Lib.hid (hoi.bel hA)
  have HDT := Lib.hid (hdt.bel hA)
  have HOW := Lib.hid hown
  have hs1 := hb1.size
  have HB1 := Lib.hid ((HB0.out.trans (hb1.mono hs0)).trans (hA.mono (by omega)))
  have HOE := Lib.hid (fun g e => (hdt.ownLt (g := g) e))
  obtain ⟨A1, c1, rfl, -⟩ := hoi.slice
  obtain ⟨A2, c2, rfl, -⟩ := hdt.slice
  clear x0 x1 hb1 hoi hdt hown hA
  go_upto_region 2 with (at_builtin; fail)
  generalize w1.alloc (.cells #[.slice A1 ts.length c1, .slice A2 l.length c2] 26) = W2 at *
  obtain ⟨g5, hg5⟩ : ∃ g5, g5 = w1.heap.size := ⟨_, rfl⟩
  rw [← hg5] at HX5 HDT HOE hs1 ⊢
  clear hg5
  have y0 := HX5.out.cell 0
  have y1 := HX5.out.cell 1
  simp only [List.getElem?_cons_zero, List.getElem?_cons_succ] at y0 y1
  have hl5 := HX5.out.lt
  go_wp2_with (at_builtin; fail)
  refine (delete_any _ l k _ W2 HDT.out hk (by omega)).mono ?_
  rintro e w3 ⟨v3, rfl, hd3, hg3, hz3⟩
  have HD3 := Lib.hid hd3
  have HX3 : Hid (RowB w3 g5 26 _) := Lib.hid ((hg3.block g5 hl5 fun e => by have := (HOE.out g5 e.symm).2; omega).trans HX5.out)
  have HR3 : Hid (RowB w3 (w.heap.size + 1) 26 _) := Lib.hid ((hg3.block (w.heap.size + 1) HR.out.lt fun e => by have := (HOE.out _ e.symm).1.1; omega).trans HR.out)
  have HOI3 : Hid (OInts w3 W.heap.size (.slice A1 ts.length c1) ts) := Lib.hid (World.ownsRow.kept HOI.out hg3 (by
    cases hq : (Value.slice A1 ts.length c1).ownBlock with
    | none => exact .inl rfl
    | some g =>
      refine .inr fun e => ?_
      have h1 := HOW.out g hq
      have h2 := (HOE.out g e.symm).1.1
      omega))
  have HB3 : Hid (Below w.heap.size w w3) := Lib.hid (HB1.out.trans ⟨hg3.os, hg3.tape, hg3.output, hg3.size, fun b hb => hg3.block b (by omega) fun e => by have := (HOE.out b e.symm).1.1; omega⟩)
  obtain ⟨A3, c3, rfl, -⟩ := hd3.slice
  have hel : (l.eraseIdx k).length = l.length - 1 := List.length_eraseIdx_of_lt hk
  have z0 := HX3.out.cell 0
  have z1 := HX3.out.cell 1
  have zf1 := HX3.out.frozen 1
  have r0 := HR3.out.cell 0
  have r1 := HR3.out.cell 1
  have rf0 := HR3.out.frozen 0
  have rf1 := HR3.out.frozen 1
  simp only [List.getElem?_cons_zero, List.getElem?_cons_succ] at z0 z1 r0 r1
  have hg5 : w.heap.size + 1 < g5 := by omega
  have hs3 := hg3.size
  obtain ⟨l2, hl2⟩ : ∃ l2, l2 = l.eraseIdx k := ⟨_, rfl⟩
  rw [← hl2] at HD3 ⊢
  have HL2 := Lib.hid hl2
  clear y0 y1 hd3 hg3 hel hl2
  go_upto_region 3 with (at_builtin; fail)
  have HX4 := Lib.hid (HX3.out.set_ 1 (.slice A3 l2.length c3))
  have HR4 := Lib.hid (HR3.out.other (g' := g5) (by omega) 1 (.slice A3 l2.length c3))
  have HB4 := Lib.hid (HB3.out.setCell (p := ⟨g5, 1, none⟩) (by show w.heap.size ≤ g5; omega) (.slice A3 l2.length c3))
  have hx4 := HX4.out
  simp only [List.set_cons_zero, List.set_cons_succ] at hx4
  have q0 := hx4.cell 0
  have q1 := hx4.cell 1
  have p0 := HR4.out.cell 0
  have p1 := HR4.out.cell 1
  have pf0 := HR4.out.frozen 0
  have pf1 := HR4.out.frozen 1
  simp only [List.getElem?_cons_zero, List.getElem?_cons_succ] at q0 q1 p0 p1
  have hs4 := HB4.out.size
  have HG4 : Hid (∀ b : Nat, b ≠ g5 → (w3.setCell ⟨g5, 1, none⟩ (.slice A3 l2.length c3)).heap[b]? = w3.heap[b]?) := Lib.hid fun b hb => heap_setCell_other w3 ⟨g5, 1, none⟩ b _ hb
  have HZ4 : Hid ((w3.setCell ⟨g5, 1, none⟩ (.slice A3 l2.length c3)).heap.size = w3.heap.size) := Lib.hid (by simp)
  clear z0 z1 zf1 r0 r1 rf0 rf1 hx4
  generalize w3.setCell ⟨g5, 1, none⟩ (.slice A3 l2.length c3) = w4 at *
  go_wp2_with (at_builtin; fail)
  have HR7 : RowB (w4.setCells (w.heap.size + 1) 0 [.slice A1 ts.length c1, .slice A3 l2.length c3]) (w.heap.size + 1) 26 _ := HR4.out.putAll _ rfl
  have HB7 := HB4.out.trans (below_putL (B := w.heap.size) (g := w.heap.size + 1) (by omega) [.slice A1 ts.length c1, .slice A3 l2.length c3] 0 w4)
  have hf7 : ∀ b : Nat, b ≠ g5 → b ≠ w.heap.size + 1 → (w4.setCells (w.heap.size + 1) 0 [.slice A1 ts.length c1, .slice A3 l2.length c3]).heap[b]? = w3.heap[b]? := fun b h1 h2 => (heap_putL h2 _ _ _).trans (HG4.out b h1)
  have hz7 := (size_putL (g := w.heap.size + 1) [.slice A1 ts.length c1, .slice A3 l2.length c3] 0 w4).trans HZ4.out
  refine bodyPost_ret (results_cell_row rfl _ _ (w.heap.size + 1) 26 _ (0, 0) _ rfl HR7 Try.underlying26 rfl rfl) rfl ⟨_, _, lo, rfl, ?_, HOW.out, by omega, ?_, HB7⟩
  · have h5 := HOI3.out.ne HX3.out (by decide)
    exact HOI3.out.keepBlk (by omega) fun b e => hf7 b (fun e2 => h5 (by rw [e, e2])) (by have := (HOI3.out.own_lt e).1; omega)
  · rw [← HL2.out]
    have := (HD3.out.frame (w' := w4.setCells (w.heap.size + 1) 0 [.slice A1 ts.length c1, .slice A3 l2.length c3]) fun b hb hl => hf7 b (by have := hb.2; omega) (by have := hb.1; omega)).mono (Q := rg lo (w4.setCells (w.heap.size + 1) 0 [.slice A1 ts.length c1, .slice A3 l2.length c3]).heap.size) fun b hb => ⟨hb.1, by have := hb.2; rw [hz7, hz3]; omega⟩
    exact this
set_option maxHeartbeats 1000000 in
set_option maxRecDepth 100000 in
theorem isStmt_any (vt vb : Value) (ts : List Int) (l : List St) (k : Int) (B : Nat) (w : World) (ht : IntS w B vt ts) (hl : StS w B vb l) (hsz : szL l ≤ 4194300) :
    Calls Try.prog 64 #[.agg #[vt, vb], .int .i64 k] w fun e w' => e = .returned (.bool (withinP k 0 ((l.length : Int) - 1))) ∧ Below w.heap.size w w' := by
  have ht0 := ht
  obtain ⟨At, ct, rfl, -⟩ := ht0
  obtain ⟨Ab, cb, rfl, -⟩ := hl.slice
  have hll := len_le_szL l
  have HX := Lib.hid (RowB.new w [.slice At ts.length ct, .slice Ab l.length cb] 26)
  have HB0 := Lib.hid (bel_a w (.cells #[.slice At ts.length ct, .slice Ab l.length cb] 26))
  clear ht hl
  go_enter Try.func64, Try.ntmps64
  go_upto_region 1 with (at_builtin; fail)
  generalize w.alloc (.cells #[.slice At ts.length ct, .slice Ab l.length cb] 26) = W at *
  have x1 := HX.out.cell 1
  simp only [List.getElem?_cons_zero, List.getElem?_cons_succ] at x1
  go_wp2_with (at_builtin; fail)
  refine (within_any k 0 ((l.length : Int) - 1) W).mono ?_
  rintro e w2 ⟨rfl, rfl⟩
  go_wp2_with (at_builtin; fail)
  go_ret
  exact ⟨rfl, HB0.out⟩
/-- a statement can be dropped -/
def drOk (ts : List Int) (l : List St) (k : Int) : Bool := validP ts l && withinP k 0 ((l.length : Int) - 1)
end Go.Proofs.Ytidlifijgooceaa
