import Derived.Test.YteaddodjijlpjaaG40
import Derived.Test.YteaddodjijlpjaaG31
import Derived.Test.YteaddodjijlpjaaG36
import Derived.Lib.AppendZeros
set_option linter.unusedVariables false

/- slices.Grow of nil, slices.Concat of two slices of ints; impl.graph.from, PathsTo, PathsFrom. -/
namespace Go.Proofs.Yteaddodjijlpjaa
open Go.RowKit

theorem IntS.toX {w : World} {B : Nat} {v : Value} {l : List Int} {P : Nat → Prop} (h : IntS w B v l) (hB : B ≤ w.heap.size) (hP : ∀ b, b < B → P b) : IntX w P v l := by
  obtain ⟨A, c, e, h1, h2, h3⟩ := h
  refine ⟨A, c, e, h1, h2, fun hn => ?_⟩
  obtain ⟨b, off, e, hb, hc⟩ := h3.int_at hn
  exact ⟨b, off, e, hP b hb, by omega, hc⟩
theorem IntX.head {w : World} {P : Nat → Prop} {v : Value} {a : Int} {q : List Int} (h : IntX w P v (a :: q)) :
    ∃ b off c, v = .slice (some ⟨b, off, none⟩) (q.length + 1) (c + 1) ∧ q.length ≤ c ∧ P b ∧ b < w.heap.size ∧ w.cell? ⟨b, off, none⟩ = some (.int .i64 a) ∧ (∀ off', (off' = off ∧ c = 0 ∨ off' = off + 1) → IntX w P (.slice (some ⟨b, off', none⟩) q.length c) q) := by
  obtain ⟨A, c, e, h1, h2, h3⟩ := h
  obtain ⟨b, off, rfl, hP, hb, hc⟩ := h3 (by simp)
  simp only [List.length_cons] at h1 h2 e hc
  obtain ⟨c, rfl⟩ : ∃ c', c = c' + 1 := ⟨c - 1, by omega⟩
  refine ⟨b, off, c, e, by omega, hP, hb, by simpa using hc 0 (by omega), fun off' ho => ⟨_, c, rfl, by omega, by omega, fun hn => ⟨b, off', rfl, hP, hb, fun j hj => ?_⟩⟩⟩
  rcases ho with ⟨-, hc0⟩ | rfl
  · omega
  · have := hc (j + 1) (by omega)
    rw [show off + 1 + j = off + (j + 1) by omega, this]
    simp [List.getD]

set_option maxHeartbeats 1000000 in
set_option maxRecDepth 100000 in
theorem grow_nil (n : Nat) (w : World) (hn : n ≤ 100000) :
    Calls Try.prog 124 #[.slice none 0 0, .int .i64 (n : Nat)] w fun e w' => ∃ v, e = .returned v ∧ OInts w' w.heap.size v [] ∧ Below w.heap.size w w' := by
  rcases Nat.eq_zero_or_pos n with h0 | h0
  · subst h0
    go_enter Try.func124, Try.ntmps124
    go_wp2_with fail
    go_ret
    exact ⟨_, rfl, OInts.nil _ _, Below.refl _ _⟩
  · obtain ⟨i0, hi0, hz0, hz1, hz2⟩ := info_parts Try.infoInt
    have hrun := fun ty => Lib.run_append_nil_zeros (P := Try.prog) w 23 3 ty 3 i0 (.int .i64 0) .i64 .i64 Try.underlying23 Try.underlying3 hi0 hz0 n h0 (by omega) (by omega) (by rw [hz2]; omega)
    have hcap := grownCap_ge w n 0 3
    have hcap2 := grownCap_le_maxLen w n 0 3 (by simp only [maxLen]; omega)
    have HRUN := Lib.hid hrun
    clear hrun
    have hs1 : w.drew.heap.size = w.heap.size := rfl
    have hszc : ∀ k, (Builtin.zeroCells (Value.cells (.int .i64 0)) k).size = k := fun k => by simp [Builtin.zeroCells, Value.cells]
    have HSZ := Lib.hid hszc
    clear hszc
    have hh := heap_alloc_new w.drew (.cells (Builtin.zeroCells (Value.cells (.int .i64 0)) n ++ Builtin.zeroCells (Value.cells (.int .i64 0)) (grownCap w n 0 3 - n)) 3)
    have HH := Lib.hid hh
    clear hh
    have hb : Below w.heap.size w (w.drew.alloc (.cells (Builtin.zeroCells (Value.cells (.int .i64 0)) n ++ Builtin.zeroCells (Value.cells (.int .i64 0)) (grownCap w n 0 3 - n)) 3)) := ((Below.refl _ _).drew).alloc (Nat.le_refl _) _
    have HB := Lib.hid hb
    clear hb
    generalize grownCap w n 0 3 = cap at *
    go_enter Try.func124, Try.ntmps124
    go_wp2_with (at_builtin; refine Lib.wpList_append_run _ rfl _ _ _ _ rfl _ _ rfl rfl _ _ (HRUN.out _) ?_)
    go_ret
    refine ⟨_, rfl, ⟨by simp, .inr ⟨w.heap.size, cap, _, rfl, Nat.le_refl _, HH.out, by simp, hcap2, ?_, by simp⟩⟩, HB.out⟩
    rw [Array.size_append, HSZ.out, HSZ.out]; omega

theorem wpList_app_ints {ops : Array Oper} {rest : List Oper} {o : Oper} {a : Act} {Q : Exit → Act → World → Prop} {w : World} (hgd : o.guard = none) (s x : Operand)
    (ho : o.op = .call { callee := .builtin .append, args := #[s, x], argTypes := #[23, 23] })
    (base : Nat) (v : Value) (l : List Int) (hs : a.eval s = v) (hP : OInts w base v l) (B : Nat) (vs : Value) (ts : List Int) (hx : a.eval x = vs) (hr : IntS w B vs ts) (hb : base ≤ w.heap.size) (hn : l.length + ts.length ≤ 8388608)
    (h : ∀ v' w', OInts w' base v' (l ++ ts) → Below base w w' → wpList Try.prog ops Q rest (a.put o.dst v') w') : wpList Try.prog ops Q (o :: rest) a w :=
  wpList_plain hgd fun _ hK => wp_app_ints s x ho base v l hs hP B vs ts hx hr hb hn fun v' w' h1 h2 _ => hK _ _ (h v' w' h1 ((Evo.grown (T := 3) hP h2).below hb))

set_option maxHeartbeats 1000000 in
set_option maxRecDepth 100000 in
theorem concat_any (g : Nat) (va vb : Value) (la lb : List Int) (B : Nat) (w : World) (hr : w.heap[g]? = some (.cells #[va, vb] 23 (0, 0))) (ha : IntS w B va la) (hb : IntS w B vb lb) (hB : B ≤ w.heap.size) (hl : la.length + lb.length ≤ 1000) :
    Calls Try.prog 106 #[.slice (some ⟨g, 0, none⟩) 2 2] w fun e w' => ∃ v, e = .returned v ∧ OInts w' w.heap.size v (la ++ lb) ∧ Below w.heap.size w w' := by
  have HA := Lib.hid ha
  have HB := Lib.hid hb
  have HR := Lib.hid hr
  have hgl : g < w.heap.size := row_lt hr
  have hc0 : w.cell? ⟨g, 0, none⟩ = some va := (cell_of_row _ _ _ _ _ _ hr).trans rfl
  have hc1 : w.cell? ⟨g, 1, none⟩ = some vb := (cell_of_row _ _ _ _ _ _ hr).trans rfl
  obtain ⟨A, c, rfl, hca, hla, -⟩ := ha
  obtain ⟨A', c', rfl, hcb, hlb, -⟩ := hb
  have HG := Lib.hid (grow_nil (la.length + lb.length) w (by omega))
  have hcast : ((la.length : Int) + (lb.length : Int)) = ((la.length + lb.length : Nat) : Int) := by omega
  have HCA := Lib.hid hcast
  clear hr hcast
  go_enter Try.func106, Try.ntmps106
  go_wp2_with fail
  go_loop [3, 11] (fun n i => (i = .int .i64 0 ∧ n = .int .i64 0) ∨ (i = .int .i64 1 ∧ n = .int .i64 (la.length : Nat)) ∨ (i = .int .i64 2 ∧ n = .int .i64 ((la.length : Int) + (lb.length : Int)))) (fun _ i => 2 - (intOf i).toNat)
  case atStart => exact .inl ⟨rfl, rfl⟩
  case round =>
    rcases hrel with ⟨rfl, rfl⟩ | ⟨rfl, rfl⟩ | ⟨rfl, rfl⟩
    · go_wp2_with fail
      exact ⟨.inr (.inl ⟨rfl, by simp⟩), by simp [intOf]⟩
    · go_wp2_with fail
      exact ⟨.inr (.inr ⟨rfl, rfl⟩), by simp [intOf]⟩
    · go_wp2_with fail
      rw [HCA.out]
      refine HG.out.mono ?_
      rintro e w1 ⟨v1, rfl, ho1, hb1⟩
      have HO1 := Lib.hid ho1
      have HB1 := Lib.hid hb1
      have hs1 := hb1.size
      obtain ⟨A1, c1, rfl, hc1'⟩ := ho1.slice
      clear ho1 hb1 hc0 hc1
      go_wp2_with (at_builtin; fail)
      go_loopw [6, 27] (fun v i wr => ∃ o : List Int, ((i = .int .i64 0 ∧ o = []) ∨ (i = .int .i64 1 ∧ o = la) ∨ (i = .int .i64 2 ∧ o = la ++ lb)) ∧ OInts wr w.heap.size v o ∧ Below w.heap.size w wr) (fun _ i _ => 2 - (intOf i).toNat)
      case atStart => exact ⟨[], .inl ⟨rfl, rfl⟩, HO1.out, HB1.out⟩
      case round =>
        obtain ⟨o, hd, hO, hbw⟩ := hrel
        have HO := Lib.hid hO
        have HBW := Lib.hid hbw
        have hsw := hbw.size
        have HAW := Lib.hid (HA.out.low hbw hB)
        have HBB := Lib.hid (HB.out.low hbw hB)
        have hrow : wr.heap[g]? = some (.cells #[.slice A la.length c, .slice A' lb.length c'] 23 (0, 0)) := (hbw.block g hgl).trans HR.out
        have hc0 : wr.cell? ⟨g, 0, none⟩ = some (.slice A la.length c) := (cell_of_row _ _ _ _ _ _ hrow).trans rfl
        have hc1 : wr.cell? ⟨g, 1, none⟩ = some (.slice A' lb.length c') := (cell_of_row _ _ _ _ _ _ hrow).trans rfl
        obtain ⟨A2, c2, rfl, hc2⟩ := hO.slice
        clear hO hbw hrow
        rcases hd with ⟨rfl, rfl⟩ | ⟨rfl, rfl⟩ | ⟨rfl, rfl⟩
        · simp only [List.length_nil] at HO ⊢
          go_wp2_with (at_builtin; go_must (refine wpList_app_ints rfl (.tmp 31) (.tmp 32) rfl w.heap.size _ [] rfl HO.out B _ la rfl HAW.out (by omega) (by simp; omega) ?_); intro v' w' hP' hE')
          exact ⟨⟨la, .inr (.inl ⟨rfl, rfl⟩), by simpa using hP', HBW.out.trans hE'⟩, by simp [intOf]⟩
        · go_wp2_with (at_builtin; go_must (refine wpList_app_ints rfl (.tmp 31) (.tmp 32) rfl w.heap.size _ o rfl HO.out B _ lb rfl HBB.out (by omega) (by omega) ?_); intro v' w' hP' hE')
          exact ⟨⟨o ++ lb, .inr (.inr ⟨rfl, rfl⟩), hP', HBW.out.trans hE'⟩, by simp [intOf]⟩
        · go_wp2_with (at_builtin; fail)
          go_ret
          exact ⟨_, rfl, HO.out, HBW.out⟩

noncomputable def ldsL (pts : List Pt) (a : Nat) : List Bool := (List.range pts.length).map fun k => dec (Lds pts a k)
theorem FrI.ldsL {pts : List Pt} {a : Nat} {fl : List Bool} (h : FrI pts a fl []) : fl = ldsL pts a := by
  apply List.ext_getElem
  · simp [Proofs.Yteaddodjijlpjaa.ldsL, h.len]
  · intro i h1 h2
    simp only [Proofs.Yteaddodjijlpjaa.ldsL, List.getElem_map, List.getElem_range]
    rw [Bool.eq_iff_iff, dec_iff, ← h.done i, getD_lt h1]
def FromRet (w : World) (pts : List Pt) (a : Nat) (e : Ending) (w' : World) : Prop :=
  ∃ g, e = .returned (.slice (some ⟨g, 0, none⟩) pts.length pts.length) ∧ RowB w' g 4 (bv (ldsL pts a)) ∧ Below w.heap.size w w'

set_option maxHeartbeats 4000000 in
set_option maxRecDepth 100000 in
theorem from_any (vg : Value) (ts : List Int) (pts : List Pt) (B a : Nat) (w : World) (hg : GrS w B vg ts pts) (hB : B ≤ w.heap.size) (gd : Good ts pts) (ha : a < pts.length) :
    Calls Try.prog 78 #[vg, .int .i64 (a : Nat)] w (FromRet w pts a) := by
  have HG := Lib.hid hg
  have GD := Lib.hid gd
  have hpl := gd.len
  clear gd
  obtain ⟨g, At, ct, vb, Al, cl, rfl, hgB, g0, g1, g2, ht, hp, htl, hpl'⟩ := hg.open_
  have hmk := make_bools pts.length (by omega)
  obtain ⟨b, off, c, nv, e, hb, hc, hl, hnx, z0, z1, z2, z3, z4⟩ := hp.get ha
  injection e with e1 e9 e2
  subst e1 e2
  have hinit := FrI.init (List.getElem?_eq_getElem ha) GD.out.next
  have hbw := bel_a w (.cells (bv (List.replicate pts.length false)).toArray 4)
  have hrow : RowB (w.alloc (.cells (bv (List.replicate pts.length false)).toArray 4)) w.heap.size 4 (bv (List.replicate pts.length false)) := RowB.new _ _ _
  have hq0 : IntX (w.alloc (.cells (bv (List.replicate pts.length false)).toArray 4)) (fun b => b ≠ w.heap.size) nv (msk pts[a].next) := (hnx.low hbw hB).toX (by simp; omega) (fun b hb => by omega)
  have hnl : (pts[a].next.map fun k => ((k : Nat) : Int)).length ≤ 2 := by simpa using GD.out.next2 _ (List.getElem_mem ha)
  obtain ⟨An, cn, rfl, hcn, hln, -⟩ := hnx
  simp only [List.length_map] at z4 hcn hln hnl hq0
  have HI := Lib.hid hinit
  have HR := Lib.hid hrow
  have HQ := Lib.hid hq0
  have HBW := Lib.hid hbw
  have HNL : Hid (pts[a].next.length = (msk pts[a].next).length) := Lib.hid (by rw [msk_len])
  have HM0 : Hid (muQ (List.replicate pts.length false) pts[a].next ≤ 200) := Lib.hid (by
    unfold muQ
    rw [List.count_replicate_self]
    omega)
  have y4 := (HBW.out.cell (p := ⟨b, off + a * 5 + 4, none⟩) (by show b < _; omega)).trans z4
  have y2 := (HBW.out.cell (p := ⟨g, 2, none⟩) (by show g < _; omega)).trans g2
  clear e9 hinit hrow hq0 hbw
  generalize List.replicate pts.length false = fl0 at *
  generalize pts[a].next = q0 at *
  go_enter Try.func78, Try.ntmps78
  go_wp2_with fail
  clear hmk z0 z1 z2 z3 z4 y4 y2
  go_loopg [6] (muQ fl0 q0 + 1) (fun gk v wr => ∃ (fl : List Bool) (q : List Nat), IntX wr (fun b => b ≠ w.heap.size) v (msk q) ∧ RowB wr w.heap.size 4 (bv fl) ∧ FrI pts a fl q ∧ (muQ fl q < gk ∧ muQ fl q ≤ 200) ∧ Below w.heap.size w wr)
  case atStart => exact ⟨fl0, q0, HQ.out, HR.out, HI.out, ⟨by omega, HM0.out⟩, HBW.out⟩
  case round =>
    obtain ⟨fl, q, hq, hr, hfi, hmu, hbr⟩ := hrel
    have HR1 := Lib.hid hr
    have HFI := Lib.hid hfi
    have HMU := Lib.hid hmu.1
    have HM2 := Lib.hid hmu.2
    have HB1 := Lib.hid hbr
    have hsr := hbr.size
    have hfl := hfi.len
    have HFL := Lib.hid hfl
    clear hr hmu hfl HI HR HQ HBW
    cases q with
    | nil =>
      obtain ⟨A1, c1, rfl, hc1⟩ := hq.slice
      have hfin := hfi.ldsL
      have HFIN := Lib.hid hfin
      clear hfi hbr hq hfin
      simp only [msk, List.map_nil, List.length_nil]
      go_wp2_with fail
      go_ret
      exact ⟨w.heap.size, rfl, by rw [← HFIN.out]; exact HR1.out, HB1.out⟩
    | cons k r =>
      obtain ⟨b1, off1, c1, rfl, hqc, hne, hbl, hhd, hpop⟩ := IntX.head (a := ((k : Nat) : Int)) (q := msk r) hq
      simp only [msk_len] at *
      have HPOP := Lib.hid hpop
      have hk := (hfi.qok k (by simp)).2
      have hck : wr.cell? ⟨w.heap.size, k, none⟩ = some (.bool (fl.getD k false)) := by rw [HR1.out.cell, bv_get (by rw [HFL.out]; exact hk)]
      have hfr := HR1.out.frozen k
      have hne2 : b1 ≠ w.heap.size := hne
      clear hpop hq hfi hne
      cases hfk : fl.getD k false
      · rw [hfk] at hck
        have HFK := Lib.hid hfk
        obtain ⟨b3, off3, c3, nv, e, hb3, hc3, hl3, hnx, z0, z1, z2, z3, z4⟩ := hp.get hk
        injection e with e1 e9 e2
        injection e1 with e1
        injection e1 with e1 e3
        subst e1 e3 e2
        have HNX := Lib.hid (hnx.low hbr hB)
        have hn2 : pts[k].next.length ≤ 2 := GD.out.next2 _ (List.getElem_mem hk)
        obtain ⟨An2, cn2, rfl, hcn2, hln2, -⟩ := hnx
        simp only [List.length_map] at z4 hcn2 hln2
        have y4 := (hbr.cell (p := ⟨b, off + k * 5 + 4, none⟩) (by show b < _; omega)).trans z4
        have y2 := (hbr.cell (p := ⟨g, 2, none⟩) (by show g < _; omega)).trans g2
        have hbn : b < w.heap.size := by omega
        have hgn : g < w.heap.size := by omega
        have HMK := Lib.hid (HFI.out.mark (List.getElem?_eq_getElem hk) GD.out.next)
        have HMM := Lib.hid (muQ_mark (r := r) (nx := pts[k].next) (show k < fl.length by rw [HFL.out]; exact hk) HFK.out hn2)
        have HNE : Hid (pts[k].next.map (fun k => ((k : Nat) : Int)) = msk pts[k].next) := Lib.hid rfl
        generalize pts[k].next = nx at *
        have hql : r.length ≤ 200 := by have := HM2.out; simp only [muQ, List.length_cons] at this; omega
        clear hfk hbr z0 z1 z2 z3 z4
        rcases Nat.eq_zero_or_pos c1 with hc0 | hc0
        · subst hc0
          have HT : Hid (IntX wr (fun b => b ≠ w.heap.size) (.slice (some ⟨b1, off1, none⟩) 0 0) (msk r)) := Lib.hid (by
            have := HPOP.out off1 (by simp)
            rwa [show r.length = 0 by omega] at this)
          go_wp2_with fail
          generalize Value.slice (some ⟨b1, off1, none⟩) 0 0 = vt at *
          have HRW : Hid (RowB (wr.setCell ⟨w.heap.size, k, none⟩ (.bool true)) w.heap.size 4 (bv (fl.set k true))) := Lib.hid (by rw [← bv_set]; exact HR1.out.set_ k _)
          have HTW : Hid (IntX (wr.setCell ⟨w.heap.size, k, none⟩ (.bool true)) (fun b => b ≠ w.heap.size) vt (msk r)) := Lib.hid (HT.out.frame (by simp [World.setCell]) fun b hP hl => ⟨hP, heap_setCell_other _ _ _ _ hP⟩)
          have HBW1 : Hid (Below w.heap.size w (wr.setCell ⟨w.heap.size, k, none⟩ (.bool true))) := Lib.hid (HB1.out.setCell (p := ⟨w.heap.size, k, none⟩) (Nat.le_refl _) _)
          have HNXW : Hid (IntS (wr.setCell ⟨w.heap.size, k, none⟩ (.bool true)) B (.slice An2 nx.length cn2) (msk nx)) := Lib.hid (by
            have h := HNX.out.low ((Below.refl w.heap.size wr).setCell (p := ⟨w.heap.size, k, none⟩) (Nat.le_refl _) (.bool true)) hB
            rw [HNE.out, msk_len] at h
            exact h)
          have hsW : (wr.setCell ⟨w.heap.size, k, none⟩ (.bool true)).heap.size = wr.heap.size := by simp [World.setCell]
          generalize wr.setCell ⟨w.heap.size, k, none⟩ (.bool true) = W at *
          have HRA := Lib.hid (HRW.out.alloc (.cells #[vt, .slice An2 nx.length cn2] 23))
          have HTS := Lib.hid (HTW.out.toS.low (bel_a W (.cells #[vt, .slice An2 nx.length cn2] 23)) (Nat.le_refl _))
          have HNS := Lib.hid ((HNXW.out.low (bel_a W (.cells #[vt, .slice An2 nx.length cn2] 23)) (by omega)).more (B' := W.heap.size) (by omega))
          have HBA := Lib.hid (HBW1.out.alloc (by omega) (.cells #[vt, .slice An2 nx.length cn2] 23))
          have HRO := Lib.hid (heap_alloc_new W (.cells #[vt, .slice An2 nx.length cn2] 23))
          have hsA : (W.alloc (.cells #[vt, .slice An2 nx.length cn2] 23)).heap.size = wr.heap.size + 1 := by simp; omega
          rw [hsW] at HRO
          generalize W.alloc (.cells #[vt, .slice An2 nx.length cn2] 23) = W2 at *
          refine (concat_any wr.heap.size vt _ (msk r) (msk nx) W.heap.size W2 HRO.out HTS.out HNS.out (by omega) (by rw [msk_len, msk_len]; omega)).mono ?_
          rintro e w5 ⟨v5, rfl, ho5, hb5⟩
          have HX5 : Hid (IntX w5 (fun b => b ≠ w.heap.size) v5 (msk (r ++ nx))) := Lib.hid (by
            have h := (ho5.toX (by rw [List.length_append, msk_len, msk_len]; omega)).frame (P' := fun b => b ≠ w.heap.size) (w' := w5) (Nat.le_refl _) fun b hb _ => ⟨by have hb' : W2.heap.size ≤ b := hb; show b ≠ w.heap.size; omega, rfl⟩
            simpa [msk] using h)
          have HB5 := Lib.hid (HBA.out.trans (hb5.mono (by omega)))
          have HR5 := Lib.hid (HRA.out.low hb5 HRA.out.lt)
          clear ho5 hb5
          go_wp2_with fail
          go_roundg (muQ fl (k :: r))
          case measure => exact HMU.out
          case rel => exact ⟨fl.set k true, r ++ nx, HX5.out, HR5.out, HMK.out, ⟨HMM.out, Nat.le_of_lt (Nat.lt_of_lt_of_le HMM.out HM2.out)⟩, HB5.out⟩
        · have HT : Hid (IntX wr (fun b => b ≠ w.heap.size) (.slice (some ⟨b1, off1 + 1, none⟩) r.length c1) (msk r)) := Lib.hid (HPOP.out (off1 + 1) (by simp))
          go_wp2_with fail
          generalize Value.slice (some ⟨b1, off1 + 1, none⟩) r.length c1 = vt at *
          have HRW : Hid (RowB (wr.setCell ⟨w.heap.size, k, none⟩ (.bool true)) w.heap.size 4 (bv (fl.set k true))) := Lib.hid (by rw [← bv_set]; exact HR1.out.set_ k _)
          have HTW : Hid (IntX (wr.setCell ⟨w.heap.size, k, none⟩ (.bool true)) (fun b => b ≠ w.heap.size) vt (msk r)) := Lib.hid (HT.out.frame (by simp [World.setCell]) fun b hP hl => ⟨hP, heap_setCell_other _ _ _ _ hP⟩)
          have HBW1 : Hid (Below w.heap.size w (wr.setCell ⟨w.heap.size, k, none⟩ (.bool true))) := Lib.hid (HB1.out.setCell (p := ⟨w.heap.size, k, none⟩) (Nat.le_refl _) _)
          have HNXW : Hid (IntS (wr.setCell ⟨w.heap.size, k, none⟩ (.bool true)) B (.slice An2 nx.length cn2) (msk nx)) := Lib.hid (by
            have h := HNX.out.low ((Below.refl w.heap.size wr).setCell (p := ⟨w.heap.size, k, none⟩) (Nat.le_refl _) (.bool true)) hB
            rw [HNE.out, msk_len] at h
            exact h)
          have hsW : (wr.setCell ⟨w.heap.size, k, none⟩ (.bool true)).heap.size = wr.heap.size := by simp [World.setCell]
          generalize wr.setCell ⟨w.heap.size, k, none⟩ (.bool true) = W at *
          have HRA := Lib.hid (HRW.out.alloc (.cells #[vt, .slice An2 nx.length cn2] 23))
          have HTS := Lib.hid (HTW.out.toS.low (bel_a W (.cells #[vt, .slice An2 nx.length cn2] 23)) (Nat.le_refl _))
          have HNS := Lib.hid ((HNXW.out.low (bel_a W (.cells #[vt, .slice An2 nx.length cn2] 23)) (by omega)).more (B' := W.heap.size) (by omega))
          have HBA := Lib.hid (HBW1.out.alloc (by omega) (.cells #[vt, .slice An2 nx.length cn2] 23))
          have HRO := Lib.hid (heap_alloc_new W (.cells #[vt, .slice An2 nx.length cn2] 23))
          have hsA : (W.alloc (.cells #[vt, .slice An2 nx.length cn2] 23)).heap.size = wr.heap.size + 1 := by simp; omega
          rw [hsW] at HRO
          generalize W.alloc (.cells #[vt, .slice An2 nx.length cn2] 23) = W2 at *
          refine (concat_any wr.heap.size vt _ (msk r) (msk nx) W.heap.size W2 HRO.out HTS.out HNS.out (by omega) (by rw [msk_len, msk_len]; omega)).mono ?_
          rintro e w5 ⟨v5, rfl, ho5, hb5⟩
          have HX5 : Hid (IntX w5 (fun b => b ≠ w.heap.size) v5 (msk (r ++ nx))) := Lib.hid (by
            have h := (ho5.toX (by rw [List.length_append, msk_len, msk_len]; omega)).frame (P' := fun b => b ≠ w.heap.size) (w' := w5) (Nat.le_refl _) fun b hb _ => ⟨by have hb' : W2.heap.size ≤ b := hb; show b ≠ w.heap.size; omega, rfl⟩
            simpa [msk] using h)
          have HB5 := Lib.hid (HBA.out.trans (hb5.mono (by omega)))
          have HR5 := Lib.hid (HRA.out.low hb5 HRA.out.lt)
          clear ho5 hb5
          go_wp2_with fail
          go_roundg (muQ fl (k :: r))
          case measure => exact HMU.out
          case rel => exact ⟨fl.set k true, r ++ nx, HX5.out, HR5.out, HMK.out, ⟨HMM.out, Nat.le_of_lt (Nat.lt_of_lt_of_le HMM.out HM2.out)⟩, HB5.out⟩
      · rw [hfk] at hck
        have HSK := Lib.hid (HFI.out.skip hfk)
        clear hfk hbr
        rcases Nat.eq_zero_or_pos c1 with hc0 | hc0
        · subst hc0
          have HT : Hid (IntX wr (fun b => b ≠ w.heap.size) (.slice (some ⟨b1, off1, none⟩) 0 0) (msk r)) := Lib.hid (by
            have := HPOP.out off1 (by simp)
            rwa [show r.length = 0 by omega] at this)
          go_wp2_with fail
          go_roundg (muQ fl (k :: r))
          case measure => exact HMU.out
          case rel => exact ⟨fl, r, HT.out, HR1.out, HSK.out, ⟨muQ_skip, Nat.le_of_lt (Nat.lt_of_lt_of_le muQ_skip HM2.out)⟩, HB1.out⟩
        · go_wp2_with fail
          go_roundg (muQ fl (k :: r))
          case measure => exact HMU.out
          case rel => exact ⟨fl, r, HPOP.out (off1 + 1) (by simp), HR1.out, HSK.out, ⟨muQ_skip, Nat.le_of_lt (Nat.lt_of_lt_of_le muQ_skip HM2.out)⟩, HB1.out⟩

theorem ldsL_get {pts : List Pt} {a k : Nat} (hk : k < pts.length) : (ldsL pts a).getD k false = dec (Lds pts a k) := by
  rw [getD_lt (by simpa [ldsL] using hk)]; simp [ldsL]
theorem ldsL_len (pts : List Pt) (a : Nat) : (ldsL pts a).length = pts.length := by simp [ldsL]
noncomputable def toRes (l : List St) (ts : List Int) (a : Int) : List Int := if graphOk ts l [a] = true then lst (ptsP l).length (fun i => dec (Lds (ptsP l) i a.toNat)) else []
noncomputable def frRes (l : List St) (ts : List Int) (a : Int) : List Int := if graphOk ts l [a] = true then lst (ptsP l).length (fun i => dec (Lds (ptsP l) a.toNat i)) else []

set_option maxHeartbeats 4000000 in
set_option maxRecDepth 100000 in
theorem iPathsTo_any (vt vb : Value) (ts : List Int) (l : List St) (a : Int) (B : Nat) (w : World) (ht : IntS w B vt ts) (hl : StS w B vb l) (hB : B ≤ w.heap.size) (hsz : szL l ≤ 4194300) :
    Calls Try.prog 38 #[.agg #[vt, vb], .int .i64 a] w (IntsRet w (toRes l ts a)) := by
  have hb2 : ∀ o o', Below w.heap.size w ((w.alloc o).alloc o') := fun o o' => (bel_a w o).alloc (by simp) o'
  go_enter Try.func38, Try.ntmps38
  go_wp2_with fail
  refine (graphOf_any vt vb _ ts l [a] (w.heap.size + 2) _ ((ht.low (hb2 _ _) hB).more (by omega)) ((hl.low (hb2 _ _) hB).more (by omega)) (by simpa using ints_lit (w.alloc _) [a] 3 (by simp)) (by simp) hsz).mono ?_
  rintro e w1 ⟨vg, rfl, hgr, hb1⟩
  have hb3 := (hb2 _ _).trans (hb1.mono (by simp; omega))
  cases hok : graphOk ts l [a]
  · have HRES : Hid (toRes l ts a = []) := Lib.hid (by unfold toRes; rw [hok, if_neg (by simp)])
    clear hok hgr
    go_wp2_with fail
    go_ret
    exact ⟨_, rfl, by rw [HRES.out]; exact (OInts.nil w1 0).toS (by simp), hb3⟩
  · obtain ⟨hv, k, rfl, hk⟩ := graphOk_one hok
    have GD := Lib.hid (Good.of_valid hv)
    have hplen := GD.out.len
    have hgg := hgr hok
    have HGG := Lib.hid hgg
    have HRES : Hid (toRes l ts (k : Nat) = lst (ptsP l).length (fun i => dec (Lds (ptsP l) i k))) := Lib.hid (by unfold toRes; rw [if_pos hok]; rfl)
    have hs3 := hb3.size
    obtain ⟨g, At, ct, vb', Al, cl, rfl, hgB, g0, g1, g2, ht', hps, htl, hpl⟩ := hgg.open_
    clear hok hgr hv
    go_wp2_with (at_builtin; fail)
    go_loopw [7, 23] (fun v i wr => ∃ (j : Nat) (o : List Int), j ≤ (ptsP l).length ∧ i = .int .i64 j ∧ o = lst j (fun i => dec (Lds (ptsP l) i k)) ∧ OInts wr w1.heap.size v o ∧ Below w1.heap.size w1 wr) (fun _ i _ => (ptsP l).length - (intOf i).toNat)
    case atStart => exact ⟨0, [], by omega, rfl, rfl, OInts.nil _ _, Below.refl _ _⟩
    case round =>
      obtain ⟨j, o, hj, rfl, ho, hP, hbw⟩ := hrel
      have HO := Lib.hid ho
      have hol : o.length ≤ j := by rw [ho]; exact lst_len _ _
      have HP := Lib.hid hP
      have HBW := Lib.hid hbw
      have hsw := hbw.size
      obtain ⟨A', c', rfl, hc'⟩ := hP.slice
      clear ho hP
      by_cases hjl : j < (ptsP l).length
      · have HF := Lib.hid (from_any _ ts (ptsP l) w1.heap.size j wr (HGG.out.low hbw (Nat.le_refl _)) hsw GD.out hjl)
        clear hbw
        go_wp2_with (at_builtin; fail)
        refine HF.out.mono ?_
        rintro e w2 ⟨g', rfl, hrow, hb4⟩
        have HP2 := Lib.hid (HP.out.bel hb4)
        have HB2 := Lib.hid (HBW.out.trans (hb4.mono hsw))
        have hs4 := hb4.size
        have hck : w2.cell? ⟨g', k, none⟩ = some (.bool (dec (Lds (ptsP l) j k))) := by rw [hrow.cell, bv_get (by rw [ldsL_len]; exact hk), ldsL_get hk]
        clear hrow hb4
        cases hd : dec (Lds (ptsP l) j k)
        · rw [hd] at hck
          have HD := Lib.hid hd
          clear hd
          go_wp2_with (at_builtin; fail)
          exact ⟨⟨j + 1, o, by omega, by go_num, by rw [lst_succ_false HD.out]; exact HO.out, HP2.out, HB2.out⟩, by simp [intOf] <;> omega⟩
        · rw [hd] at hck
          have HD := Lib.hid hd
          clear hd
          go_wp2_with (at_builtin; go_must (refine wpList_push_int rfl (.tmp 32) (.tmp 34) rfl HP2.out (by omega) (by omega) _ rfl rfl ?_); intro v' w' hP' hE')
          exact ⟨⟨j + 1, _, by omega, by go_num, by rw [lst_succ_true HD.out, HO.out], hP', HB2.out.trans ((((Evo.alloc w1.heap.size 3 _ _).trans hE').below (by omega)))⟩, by simp [intOf] <;> omega⟩
      · have hje : j = (ptsP l).length := by omega
        have HFIN : Hid (o = toRes l ts (k : Nat)) := Lib.hid (by rw [HRES.out, ← hje]; exact HO.out)
        clear hje
        go_wp2_with (at_builtin; fail)
        go_ret
        exact ⟨_, rfl, by rw [← HFIN.out]; exact HP.out.toS (by omega), hb3.trans (HBW.out.mono hs3)⟩

end Go.Proofs.Yteaddodjijlpjaa
