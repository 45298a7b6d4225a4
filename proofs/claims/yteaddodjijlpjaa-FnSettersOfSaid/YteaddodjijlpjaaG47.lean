import Derived.Test.YteaddodjijlpjaaG46
set_option linter.unusedVariables false

/- spec.l10After. -/
namespace Go.Proofs.Yteaddodjijlpjaa
open Go.RowKit

theorem OBools.ofRow {w : World} {base g s : Nat} {l : List Bool} (h : RowB w g 4 (bv l)) (hb : base ≤ g) (hl : l.length = s) (hm : s ≤ 100000) : OBools w base (.slice (some ⟨g, 0, none⟩) s s) l := by
  refine ⟨by rw [bv_len, Nat.mul_one], .inr ⟨g, s, (bv l).toArray, by rw [hl], hb, h, by omega, by simp only [maxLen]; omega, by simp [bv_len]; omega, ?_⟩⟩
  rw [Nat.mul_one, ← bv_len, List.take_length]
theorem wpList_app_bools2 {ops : Array Oper} {rest : List Oper} {o : Oper} {a : Act} {Q : Exit → Act → World → Prop} {w : World} (hgd : o.guard = none) (s x : Operand)
    (ho : o.op = .call { callee := .builtin .append, args := #[s, x], argTypes := #[54, 54] })
    (base : Nat) (v : Value) (l : List Bool) (hs : a.eval s = v) (hP : OBools w base v l) (B : Nat) (vs : Value) (ts : List Bool) (hx : a.eval x = vs) (hr : BoolS w B vs ts) (hb : base ≤ w.heap.size) (hn : l.length + ts.length ≤ 8388608)
    (h : ∀ v' w', OBools w' base v' (l ++ ts) → Below base w w' → wpList Try.prog ops Q rest (a.put o.dst v') w') : wpList Try.prog ops Q (o :: rest) a w :=
  wpList_app_bools hgd s x ho base v l hs hP B vs ts hx hr hb hn fun v' w' h1 h2 _ => h v' w' h1 ((Evo.grown (T := 4) hP h2).below hb)

theorem snocR {k s : Nat} {rows before : List (List Bool)} {r : List Bool} {f : Nat → Bool} (hl : rows.length = k) (h : ∀ u, u < k → (rows.getD u []).length = s ∧ ∀ e, e < s → rget rows u e = (rget before u e && f u)) (hr : r.length = s) (hre : ∀ e, e < s → r.getD e false = (rget before k e && f k)) :
    ∀ u, u < k + 1 → ((rows ++ [r]).getD u []).length = s ∧ ∀ e, e < s → rget (rows ++ [r]) u e = (rget before u e && f u) := by
  intro u hu
  by_cases h1 : u < k
  · have e1 : (rows ++ [r]).getD u [] = rows.getD u [] := by rw [getD_lt (by simp; omega), List.getElem_append_left (by omega), getD_lt (by omega)]
    unfold rget
    rw [e1]
    exact h u h1
  · have hue : u = rows.length := by omega
    subst hue
    have e1 : (rows ++ [r]).getD rows.length [] = r := by simp [List.getD]
    unfold rget
    rw [e1]
    exact ⟨hr, fun e he => by rw [hre e he, hl]; rfl⟩
theorem afr_mk {ts : List Int} {G : Nat → Pt → Nat → Bool} {C : Pt → Bool} {s i : Nat} {p : Pt} {before rows : List (List Bool)} (hl : rows.length = ts.length) (h : ∀ u, u < ts.length → (rows.getD u []).length = s ∧ ∀ e, e < s → rget rows u e = (rget before u e && !(useP ts p.op p.x p.y (u : Nat) == 2))) (hs : setsP p.op p.x < 0) : AfR ts G C s i p before rows :=
  ⟨hl, fun v hv => (h v hv).1, fun v e hv he => by rw [(h v hv).2 e he]; unfold aftB; rw [if_neg (by omega)]⟩
theorem afr_set {ts : List Int} {G : Nat → Pt → Nat → Bool} {C : Pt → Bool} {s i x : Nat} {p : Pt} {before rows : List (List Bool)} {vl : List Bool} (hl : rows.length = ts.length) (h : ∀ u, u < ts.length → (rows.getD u []).length = s ∧ ∀ e, e < s → rget rows u e = (rget before u e && !(useP ts p.op p.x p.y (u : Nat) == 2))) (hx : setsP p.op p.x = (x : Int)) (hxl : x < ts.length)
    (hvl : vl.length = s) (hv : ∀ e, e < s → vl.getD e false = (G i p e || (C p && rget before p.y.toNat e))) : AfR ts G C s i p before (rows.set x vl) := by
  refine ⟨by simp [hl], fun v hv2 => ?_, fun v e hv2 he => ?_⟩
  · rw [getD_setT (by omega)]; split
    · exact hvl
    · exact (h v hv2).1
  · unfold rget
    rw [getD_setT (by omega)]
    unfold aftB
    by_cases e1 : v = x
    · rw [if_pos e1, if_pos (by omega)]; exact hv e he
    · rw [if_neg e1, if_neg (by omega)]; exact (h v hv2).2 e he
/-- what the sets of kind kd are -/
def KdOk (kd : Int) (s : Nat) (ts : List Int) (pts : List Pt) (G : Nat → Pt → Nat → Bool) (C : Pt → Bool) : Prop :=
  ∀ (vt vb vbf nv : Value) (i : Nat) (p : Pt) (before : List (List Bool)) (P : Nat → Prop) (w : World), pts[i]? = some p → RwX w P vbf before → before.length = ts.length → (∀ v, v < ts.length → (before.getD v []).length = s) → 0 ≤ setsP p.op p.x →
    Calls Try.prog 118 #[.agg #[vt, vb], .agg #[.int .i64 p.op, .int .i64 p.x, .int .i64 p.y, .int .i64 p.n, nv], .int .i64 (i : Nat), vbf, .int .i64 kd, .int .i64 (s : Nat)] w (VaRet w s G C i p before)
theorem kd_set {ts : List Int} {pts : List Pt} (g : Good ts pts) : KdOk 1 pts.length ts pts Gset Cset := fun vt vb vbf nv i p before P w hp _ _ _ _ =>
  l10Value_set vt vb vbf nv i _ p before w (idx_lt hp) (by have := g.len; omega)
theorem kd_cell {ts : List Int} {pts : List Pt} (g : Good ts pts) : KdOk 0 pts.length ts pts Gcell Ccell := fun vt vb vbf nv i p before P w hp hb hl hr _ => by
  have hpl := g.len
  by_cases h2 : p.op = 2
  · exact l10Value_box vt vb vbf nv i _ p before w (idx_lt hp) (by omega) h2
  · by_cases h3 : p.op = 3 ∨ p.op = 4 ∨ p.op = 5
    · have hy := g.y hp (by omega)
      exact l10Value_copy vt vb vbf nv i pts.length 0 p before P w (by omega) (.inl ⟨rfl, h3⟩) hb hy.1 (by omega) (hr _ (by omega))
    · exact l10Value_none vt vb vbf nv i pts.length 0 p before w (by omega) (.inl ⟨rfl, h2, by omega, by omega, by omega⟩)
theorem kd_num {ts : List Int} {pts : List Pt} (g : Good ts pts) : KdOk 2 10 ts pts Gnum Cnum := fun vt vb vbf nv i p before P w hp hb hl hr _ => by
  by_cases h1 : p.op = 1
  · have hn := g.n hp (by omega)
    exact l10Value_int vt vb vbf nv i 10 p before w h1 ⟨hn.1, by omega⟩ (by omega)
  · by_cases h3 : p.op = 3
    · have hy := g.y hp (by omega)
      exact l10Value_copy vt vb vbf nv i 10 2 p before P w (by omega) (.inr ⟨rfl, h3⟩) hb hy.1 (by omega) (hr _ (by omega))
    · by_cases h6 : p.op = 6
      · exact l10Value_load vt vb vbf nv i 10 p before w (by omega) h6
      · exact l10Value_none vt vb vbf nv i 10 2 p before w (by omega) (.inr ⟨rfl, h1, h3, h6⟩)
/-- what l10After answers -/
def AfrRet (w : World) (ts : List Int) (G : Nat → Pt → Nat → Bool) (C : Pt → Bool) (s i : Nat) (p : Pt) (before : List (List Bool)) (e : Ending) (w' : World) : Prop :=
  ∃ v af, e = .returned v ∧ RwX w' (fun b => w.heap.size ≤ b) v af ∧ AfR ts G C s i p before af ∧ Below w.heap.size w w'
set_option maxHeartbeats 4000000 in
set_option maxRecDepth 100000 in
theorem l10After_any (vt vb vbf nv : Value) (kd : Int) (ts : List Int) (pts : List Pt) (G : Nat → Pt → Nat → Bool) (C : Pt → Bool) (i s B : Nat) (p : Pt) (before : List (List Bool)) (P : Nat → Prop) (w : World)
    (ht : IntS w B vt ts) (hB : B ≤ w.heap.size) (hp : pts[i]? = some p) (hb : RwX w P vbf before) (hl : before.length = ts.length) (hr : ∀ v, v < ts.length → (before.getD v []).length = s) (hk : KdOk kd s ts pts G C) (hx : setsP p.op p.x < ts.length) (hs : s ≤ 100) (h6 : ts.length ≤ 6) :
    Calls Try.prog 93 #[.agg #[vt, vb], .agg #[.int .i64 p.op, .int .i64 p.x, .int .i64 p.y, .int .i64 p.n, nv], .int .i64 (i : Nat), vbf, .int .i64 kd, .int .i64 (s : Nat)] w (AfrRet w ts G C s i p before) := by
  have HB := Lib.hid hb
  have HR := Lib.hid hr
  have HK := Lib.hid hk
  have HP := Lib.hid hp
  have HL := Lib.hid hl
  have HT := Lib.hid ht
  have hl1 : before.length ≤ ts.length := by omega
  have hl2 : ts.length ≤ before.length := by omega
  obtain ⟨Ab, cb, rfl, hcb⟩ := hb.slice
  obtain ⟨At, ct, rfl, -⟩ := ht
  have H0 := Lib.hid ((bel_a w (.cells #[.slice At ts.length ct, vb] 26)).alloc (by simp) (.cells #[.int .i64 p.op, .int .i64 p.x, .int .i64 p.y, .int .i64 p.n, nv] 39))
  have h0s : ((w.alloc (.cells #[.slice At ts.length ct, vb] 26)).alloc (.cells #[.int .i64 p.op, .int .i64 p.x, .int .i64 p.y, .int .i64 p.n, nv] 39)).heap.size = w.heap.size + 2 := by simp
  have H1 := Lib.hid ((RowB.new w [.slice At ts.length ct, vb] 26).alloc (.cells #[.int .i64 p.op, .int .i64 p.x, .int .i64 p.y, .int .i64 p.n, nv] 39))
  have H2 : Hid (RowB ((w.alloc (.cells #[.slice At ts.length ct, vb] 26)).alloc (.cells #[.int .i64 p.op, .int .i64 p.x, .int .i64 p.y, .int .i64 p.n, nv] 39)) (w.heap.size + 1) 39 [.int .i64 p.op, .int .i64 p.x, .int .i64 p.y, .int .i64 p.n, nv]) := Lib.hid (by
    have := RowB.new (w.alloc (.cells #[.slice At ts.length ct, vb] 26)) [.int .i64 p.op, .int .i64 p.x, .int .i64 p.y, .int .i64 p.n, nv] 39
    rw [World.size_alloc] at this
    exact this)
  have hmk := make_bools s (by omega)
  have HMK := Lib.hid hmk
  clear hb hr hk hp hl hmk
  go_enter Try.func93, Try.ntmps93
  go_wp2_with (at_builtin; fail)
  change Code.wp _ _ _ _ (((w.alloc (.cells #[.slice At ts.length ct, vb] 26)).alloc (.cells #[.int .i64 p.op, .int .i64 p.x, .int .i64 p.y, .int .i64 p.n, nv] 39)).alloc (.cells #[] 54))
  generalize (w.alloc (.cells #[.slice At ts.length ct, vb] 26)).alloc (.cells #[.int .i64 p.op, .int .i64 p.x, .int .i64 p.y, .int .i64 p.n, nv] 39) = W at *
  have HO0 := Lib.hid (ORw.empty W W.heap.size (Nat.le_refl _))
  rw [h0s] at HO0
  have HBA := Lib.hid (bel_a W (.cells #[] 54))
  go_loopw [13, 14] (fun v i' wr => ∃ (k : Nat) (vs : List Value) (rows : List (List Bool)), k ≤ before.length ∧ i' = .int .i64 k ∧ ORw wr (w.heap.size + 2) v vs rows ∧ rows.length = k ∧ (∀ u, u < k → (rows.getD u []).length = s ∧ ∀ e, e < s → rget rows u e = (rget before u e && !(useP ts p.op p.x p.y (u : Nat) == 2))) ∧ Below W.heap.size W wr) (fun _ i' _ => before.length - (intOf i').toNat)
  case atStart => exact ⟨0, [], [], by omega, rfl, HO0.out, rfl, fun u hu => by omega, HBA.out⟩
  case round =>
    obtain ⟨k, vs, rows, hk, rfl, hO, hrl, hre, hbw⟩ := hrel
    have HO := Lib.hid hO
    have HRL := Lib.hid hrl
    have HRE := Lib.hid hre
    have HBW := Lib.hid hbw
    have hsw := hbw.size
    have hrl1 : rows.length ≤ k := by omega
    have hx0 : wr.cell? ⟨w.heap.size, 0, none⟩ = some (.slice At ts.length ct) := ((H1.out.low hbw (by omega)).cell 0).trans rfl
    have y0 : wr.cell? ⟨w.heap.size + 1, 0, none⟩ = some (.int .i64 p.op) := ((H2.out.low hbw (by omega)).cell 0).trans rfl
    have y1 : wr.cell? ⟨w.heap.size + 1, 1, none⟩ = some (.int .i64 p.x) := ((H2.out.low hbw (by omega)).cell 1).trans rfl
    have y2 : wr.cell? ⟨w.heap.size + 1, 2, none⟩ = some (.int .i64 p.y) := ((H2.out.low hbw (by omega)).cell 2).trans rfl
    have y3 : wr.cell? ⟨w.heap.size + 1, 3, none⟩ = some (.int .i64 p.n) := ((H2.out.low hbw (by omega)).cell 3).trans rfl
    have y4 : wr.cell? ⟨w.heap.size + 1, 4, none⟩ = some nv := ((H2.out.low hbw (by omega)).cell 4).trans rfl
    have HTW := Lib.hid ((HT.out.low H0.out hB).low hbw (by omega))
    obtain ⟨A1, c1, rfl, hc1⟩ := hO.slice
    clear hO hre hbw
    by_cases hlt : k < before.length
    · clear hrl
      go_wp2_with (at_builtin; fail)
      refine (l3Use_any _ ts B _ _ _ _ _ _ _ HTW.out (by omega) (by omega) (by omega)).mono ?_
      rintro e w3 ⟨rfl, hb3⟩
      have HB3 := Lib.hid (HBW.out.trans (hb3.mono hsw))
      have HO3 := Lib.hid (HO.out.bel hb3)
      have hs3 := HB3.out.size
      clear hb3 hx0 y0 y1 y2 y3 y4
      cases hu : (useP ts p.op p.x p.y (k : Nat) == 2)
      · have HU := Lib.hid hu
        have HRX := Lib.hid (HB.out.frame (P' := P) (w' := w3) (by have := H0.out.size; omega) fun b hp hl => ⟨hp, ((H0.out.trans (HB3.out.mono (by have := H0.out.size; omega))).block b hl)⟩)
        obtain ⟨b, off, rv, rfl, -, hbl, e9, hcell, hrow⟩ := HRX.out.at_ (i := k) hlt
        have HBS := Lib.hid hrow.toS
        have hlk : (before.getD k []).length = s := HR.out k (by omega)
        have HLK := Lib.hid hlk
        generalize hbk : before.getD k [] = bk at *
        have HBK := Lib.hid hbk
        obtain ⟨Ar, cr, rfl, hcr⟩ := hrow.slice
        have HE := Lib.hid (OBools.empty w3 w3.heap.size (Nat.le_refl _))
        have HE2 := Lib.hid (bel_a w3 (.cells #[] 4))
        clear hrow hlk hbk e9
        have tok1 : True := trivial
        go_wp2_with (at_builtin; first
          | (have _t := tok1; refine wpList_app_bools2 rfl (.tmp 35) (.tmp 39) rfl w3.heap.size _ [] rfl HE.out w3.heap.size _ bk rfl (HBS.out.low HE2.out (Nat.le_refl _)) (by simp) (by have := HLK.out; simp; omega) ?_; intro v' w' hP' hE'; clear tok1 _t; (have hX4 := OBools.base (base' := w.heap.size + 2) hP' (by omega)); (rw [List.nil_append] at hX4); (have HX4 := Lib.hid hX4); (have HB4 := Lib.hid (HE2.out.trans hE')); (have HO4 := Lib.hid (HO3.out.bel HB4.out)); (have hs4 := HB4.out.size); (obtain ⟨A5, c5, rfl, hc5⟩ := hX4.slice); clear hP' hE' hX4)
          | (refine wpList_push_orw rfl (.tmp 34) (.tmp 41) rfl HO4.out (by omega) (by omega) _ _ HX4.out rfl rfl ?_; intro v5 w5 hP5 hE5)
          | fail)
        have hl5 : (rows ++ [bk]).length = k + 1 := by rw [List.length_append, HRL.out]; rfl
        exact ⟨⟨k + 1, _, _, by omega, by go_num, hP5, hl5, snocR (f := fun u => !(useP ts p.op p.x p.y (u : Nat) == 2)) HRL.out HRE.out HLK.out (fun e he => by rw [HU.out]; unfold rget; rw [HBK.out]; simp), (HB3.out.trans (HB4.out.mono (by omega))).trans (hE5.mono (by omega))⟩, by simp [intOf] <;> omega⟩
      · have HU := Lib.hid hu
        have hmk := HMK.out
        have HOZ : Hid (OBools (w3.alloc (.cells (bv (List.replicate s false)).toArray 4)) (w.heap.size + 2) (.slice (some ⟨w3.heap.size, 0, none⟩) s s) (List.replicate s false)) := Lib.hid (OBools.ofRow (RowB.new _ _ _) (by omega) (by simp) (by omega))
        have HB4 := Lib.hid (bel_a w3 (.cells (bv (List.replicate s false)).toArray 4))
        have HO4 := Lib.hid (HO3.out.bel HB4.out)
        have hs4 : (w3.alloc (.cells (bv (List.replicate s false)).toArray 4)).heap.size = w3.heap.size + 1 := by simp
        have HRZ : Hid ((List.replicate s false).length = s ∧ ∀ e, (List.replicate s false).getD e false = false) := Lib.hid ⟨by simp, fun e => rep_get⟩
        generalize List.replicate s false = rz at *
        go_wp2_with (at_builtin; first
          | (rw [← hs4]; fail)
          | (refine wpList_push_orw rfl (.tmp 29) (.tmp 32) rfl HO4.out (by omega) (by omega) _ _ HOZ.out rfl (by rw [hs4]; rfl) ?_; intro v5 w5 hP5 hE5)
          | fail)
        have hl5 : (rows ++ [rz]).length = k + 1 := by rw [List.length_append, HRL.out]; rfl
        exact ⟨⟨k + 1, _, _, by omega, by go_num, hP5, hl5, snocR (f := fun u => !(useP ts p.op p.x p.y (u : Nat) == 2)) HRL.out HRE.out HRZ.out.1 (fun e he => by rw [HU.out, HRZ.out.2]; simp), (HB3.out.trans (HB4.out.mono (by omega))).trans (hE5.mono (by omega))⟩, by simp [intOf] <;> omega⟩
    · have hke : k = ts.length := by omega
      have HRL2 : Hid (rows.length = ts.length) := Lib.hid (by omega)
      have HRE2 : Hid (∀ u, u < ts.length → (rows.getD u []).length = s ∧ ∀ e, e < s → rget rows u e = (rget before u e && !(useP ts p.op p.x p.y (u : Nat) == 2))) := Lib.hid (by rw [← hke]; exact HRE.out)
      clear hke hrl
      go_wp2_with (at_builtin; fail)
      refine (l3Set_any _ _ _ _ _ _).mono ?_
      rintro e w3 ⟨rfl, hb3⟩
      have HB3 := Lib.hid (HBW.out.trans (hb3.mono hsw))
      have HO3 := Lib.hid (HO.out.bel hb3)
      have hs3 := HB3.out.size
      have hx0' := (hb3.cell (p := ⟨w.heap.size, 0, none⟩) (by show w.heap.size < _; omega)).trans hx0
      have hx1' : w3.cell? ⟨w.heap.size, 1, none⟩ = some vb := ((H1.out.low HB3.out (by omega)).cell 1).trans rfl
      have y0' := (hb3.cell (p := ⟨w.heap.size + 1, 0, none⟩) (by show w.heap.size + 1 < _; omega)).trans y0
      have y1' := (hb3.cell (p := ⟨w.heap.size + 1, 1, none⟩) (by show w.heap.size + 1 < _; omega)).trans y1
      have y2' := (hb3.cell (p := ⟨w.heap.size + 1, 2, none⟩) (by show w.heap.size + 1 < _; omega)).trans y2
      have y3' := (hb3.cell (p := ⟨w.heap.size + 1, 3, none⟩) (by show w.heap.size + 1 < _; omega)).trans y3
      have y4' := (hb3.cell (p := ⟨w.heap.size + 1, 4, none⟩) (by show w.heap.size + 1 < _; omega)).trans y4
      clear hb3 hx0 y0 y1 y2 y3 y4
      by_cases hs0 : 0 ≤ setsP p.op p.x
      · obtain ⟨x, hxe⟩ : ∃ x : Nat, setsP p.op p.x = x := ⟨(setsP p.op p.x).toNat, by omega⟩
        have hxl : x < ts.length := by omega
        have HX := Lib.hid hxe
        have HRX := Lib.hid (HB.out.frame (P' := P) (w' := w3) (by have := H0.out.size; omega) fun b hp hl => ⟨hp, ((H0.out.trans (HB3.out.mono (by have := H0.out.size; omega))).block b hl)⟩)
        have HVA := Lib.hid (HK.out (.slice At ts.length ct) vb _ nv i p before P w3 HP.out HRX.out HL.out HR.out hs0)
        rw [hxe]
        clear hs0 hxe hx
        go_wp2_with (at_builtin; fail)
        refine HVA.out.mono ?_
        rintro e w5 ⟨g5, vl, rfl, hg5, hrow, hvl, hve, hb5⟩
        have HO5 := Lib.hid (HO3.out.bel hb5)
        have HX5 := Lib.hid (OBools.ofRow (base := w.heap.size + 2) hrow (by omega) hvl (by omega))
        have HVL := Lib.hid hvl
        have HVE := Lib.hid hve
        have HB5 := Lib.hid (HB3.out.trans (hb5.mono (by omega)))
        obtain ⟨go, rfl, hgo, hgl, e9, hco, hfo⟩ := HO5.out.at_ (k := x) (by rw [HRL2.out]; exact hxl)
        have hxr : x < rows.length := by rw [HRL2.out]; exact hxl
        clear e9 hb5 hrow hvl hve
        go_wp2_with (at_builtin; fail)
        go_ret
        have hO6 := HO5.out.set hxr HX5.out
        have hlen : ∀ i, i < (rows.set x vl).length → ((rows.set x vl).getD i []).length ≤ 4194304 := fun i hi => by
          rw [getD_setT hxr]; split
          · rw [HVL.out]; omega
          · rw [(HRE2.out i (by rw [List.length_set, HRL2.out] at hi; exact hi)).1]; omega
        have hX6 := hO6.toX hlen
        refine ⟨_, rows.set x vl, rfl, hX6.frame (Nat.le_refl _) fun b hb _ => ⟨by have hb' : w.heap.size + 2 ≤ b := hb; show w.heap.size ≤ b; omega, rfl⟩, afr_set HRL2.out HRE2.out HX.out hxl HVL.out HVE.out, ?_⟩
        exact (H0.out.trans (HB5.out.mono H0.out.size)).setCell (p := ⟨go, x, none⟩) (by show w.heap.size ≤ go; omega) _
      · have hs1 : setsP p.op p.x < 0 := by omega
        go_wp2_with (at_builtin; fail)
        go_ret
        have hX6 := HO3.out.toX (fun i hi => by rw [(HRE2.out i (by rw [HRL2.out] at hi; exact hi)).1]; omega)
        exact ⟨_, rows, rfl, hX6.frame (Nat.le_refl _) fun b hb _ => ⟨by have hb' : w.heap.size + 2 ≤ b := hb; show w.heap.size ≤ b; omega, rfl⟩, afr_mk HRL2.out HRE2.out hs1, H0.out.trans (HB3.out.mono H0.out.size)⟩

end Go.Proofs.Yteaddodjijlpjaa
