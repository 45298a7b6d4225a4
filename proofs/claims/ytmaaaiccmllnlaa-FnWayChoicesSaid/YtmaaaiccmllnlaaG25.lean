import Derived.Test.YtmaaaiccmllnlaaG11
import Derived.Test.YtmaaaiccmllnlaaG20
import Derived.Test.YtmaaaiccmllnlaaG23
import Derived.Lib.AppendZeros
import Derived.Test.YtmaaaiccmllnlaaG24
set_option linter.unusedVariables false

/- slices.Grow of nil, slices.Concat of two slices of ints; impl.graph.from, PathsTo, PathsFrom. -/
namespace Go.Proofs.Ytmaaaiccmllnlaa
open Go.RowKit

theorem IntS.toX {w : World} {B : Nat} {v : Value} {l : List Int} {P : Nat → Prop} (h : IntS w B v l) (hB : B ≤ w.heap.size) (hP : ∀ b, b < B → P b) : IntX w P v l := by
  obtain ⟨A, c, e, h1, h2, h3⟩ := h
  refine ⟨A, c, e, h1, h2, fun hn => ?_⟩
  obtain ⟨b, off, e, hb, hc⟩ := h3.int_at hn
  exact ⟨b, off, e, hP b hb, by omega, hc⟩
theorem IntX.head {w : World} {P : Nat → Prop} {v : Value} {a : Int} {q : List Int} (h : IntX w P v (a :: q)) :
    ∃ b off c, v = .slice (some ⟨b, off, none⟩) (q.length + 1) (c + 1) ∧ q.length ≤ c ∧ P b ∧ b < w.heap.size ∧ w.cell? ⟨b, off, none⟩ = some (.int .i64 a) ∧ (∀ off', (off' = off ∧ c = 0 ∨ off' = off + 1) → IntX w P (.slice (some ⟨b, off', none⟩) q.length c) q) := by
  obtain ⟨A, c, e, h1, h2, h3⟩ := h
  obtain ⟨b, off, rfl, hP, hb, hc⟩ := h3 (by simp)
  simp only [List.length_cons] at h1 h2 e hc
  obtain ⟨c, rfl⟩ : ∃ c', c = c' + 1 := ⟨c - 1, by omega⟩
  refine ⟨b, off, c, e, by omega, hP, hb, by simpa using hc 0 (by omega), fun off' ho => ⟨_, c, rfl, by omega, by omega, fun hn => ⟨b, off', rfl, hP, hb, fun j hj => ?_⟩⟩⟩
  rcases ho with ⟨-, hc0⟩ | rfl
  · omega
  · have := hc (j + 1) (by omega)
    rw [show off + 1 + j = off + (j + 1) by omega, this]
    simp [List.getD]

set_option maxHeartbeats 1000000 in
set_option maxRecDepth 100000 in
theorem grow_nil (n : Nat) (w : World) (hn : n ≤ 100000) :
    Calls Try.prog 141 #[.slice none 0 0, .int .i64 (n : Nat)] w fun e w' => ∃ v, e = .returned v ∧ OInts w' w.heap.size v [] ∧ Below w.heap.size w w' := by
  rcases Nat.eq_zero_or_pos n with h0 | h0
  · subst h0
    go_enter Try.func141, Try.ntmps141
    go_wp2_with fail
    go_ret
    exact ⟨_, rfl, OInts.nil _ _, Below.refl _ _⟩
  · obtain ⟨i0, hi0, hz0, hz1, hz2⟩ := info_parts Try.infoInt
    have hrun := fun ty => Lib.run_append_nil_zeros (P := Try.prog) w 23 3 ty 3 i0 (.int .i64 0) .i64 .i64 Try.underlying23 Try.underlying3 hi0 hz0 n h0 (by omega) (by omega) (by rw [hz2]; omega)
    have hcap := grownCap_ge w n 0 3
    have hcap2 := grownCap_le_maxLen w n 0 3 (by simp only [maxLen]; omega)
    have HRUN := Lib.hid hrun
    clear hrun
    have hs1 : w.drew.heap.size = w.heap.size := rfl
    have hszc : ∀ k, (Builtin.zeroCells (Value.cells (.int .i64 0)) k).size = k := fun k => by simp [Builtin.zeroCells, Value.cells]
    have HSZ := Lib.hid hszc
    clear hszc
    have hh := heap_alloc_new w.drew (.cells (Builtin.zeroCells (Value.cells (.int .i64 0)) n ++ Builtin.zeroCells (Value.cells (.int .i64 0)) (grownCap w n 0 3 - n)) 3)
    have HH := Lib.hid hh
    clear hh
    have hb : Below w.heap.size w (w.drew.alloc (.cells (Builtin.zeroCells (Value.cells (.int .i64 0)) n ++ Builtin.zeroCells (Value.cells (.int .i64 0)) (grownCap w n 0 3 - n)) 3)) := ((Below.refl _ _).drew).alloc (Nat.le_refl _) _
    have HB := Lib.hid hb
    clear hb
    generalize grownCap w n 0 3 = cap at *
    go_enter Try.func141, Try.ntmps141
    go_wp2_with (at_builtin; refine Lib.wpList_append_run _ rfl _ _ _ _ rfl _ _ rfl rfl _ _ (HRUN.out _) ?_)
    go_ret
    refine ⟨_, rfl, ⟨by simp, .inr ⟨w.heap.size, cap, _, rfl, Nat.le_refl _, HH.out, by simp, hcap2, ?_, by simp⟩⟩, HB.out⟩
    rw [Array.size_append, HSZ.out, HSZ.out]; omega

theorem wpList_app_ints {ops : Array Oper} {rest : List Oper} {o : Oper} {a : Act} {Q : Exit → Act → World → Prop} {w : World} (hgd : o.guard = none) (s x : Operand)
    (ho : o.op = .call { callee := .builtin .append, args := #[s, x], argTypes := #[23, 23] })
    (base : Nat) (v : Value) (l : List Int) (hs : a.eval s = v) (hP : OInts w base v l) (B : Nat) (vs : Value) (ts : List Int) (hx : a.eval x = vs) (hr : IntS w B vs ts) (hb : base ≤ w.heap.size) (hn : l.length + ts.length ≤ 8388608)
    (h : ∀ v' w', OInts w' base v' (l ++ ts) → Below base w w' → wpList Try.prog ops Q rest (a.put o.dst v') w') : wpList Try.prog ops Q (o :: rest) a w :=
  wpList_plain hgd fun _ hK => wp_app_ints s x ho base v l hs hP B vs ts hx hr hb hn fun v' w' h1 h2 _ => hK _ _ (h v' w' h1 ((Evo.grown (T := 3) hP h2).below hb))

set_option maxHeartbeats 1000000 in
set_option maxRecDepth 100000 in
theorem concat_any (g : Nat) (va vb : Value) (la lb : List Int) (B : Nat) (w : World) (hr : w.heap[g]? = some (.cells #[va, vb] 23 (0, 0))) (ha : IntS w B va la) (hb : IntS w B vb lb) (hB : B ≤ w.heap.size) (hl : la.length + lb.length ≤ 1000) :
    Calls Try.prog 118 #[.slice (some ⟨g, 0, none⟩) 2 2] w fun e w' => ∃ v, e = .returned v ∧ OInts w' w.heap.size v (la ++ lb) ∧ Below w.heap.size w w' := by
  have HA := Lib.hid ha
  have HB := Lib.hid hb
  have HR := Lib.hid hr
  have hgl : g < w.heap.size := row_lt hr
  have hc0 : w.cell? ⟨g, 0, none⟩ = some va := (cell_of_row _ _ _ _ _ _ hr).trans rfl
  have hc1 : w.cell? ⟨g, 1, none⟩ = some vb := (cell_of_row _ _ _ _ _ _ hr).trans rfl
  obtain ⟨A, c, rfl, hca, hla, -⟩ := ha
  obtain ⟨A', c', rfl, hcb, hlb, -⟩ := hb
  have HG := Lib.hid (grow_nil (la.length + lb.length) w (by omega))
  have hcast : ((la.length : Int) + (lb.length : Int)) = ((la.length + lb.length : Nat) : Int) := by omega
  have HCA := Lib.hid hcast
  clear hr hcast
  go_enter Try.func118, Try.ntmps118
  go_wp2_with fail
  go_loop [3, 11] (fun n i => (i = .int .i64 0 ∧ n = .int .i64 0) ∨ (i = .int .i64 1 ∧ n = .int .i64 (la.length : Nat)) ∨ (i = .int .i64 2 ∧ n = .int .i64 ((la.length : Int) + (lb.length : Int)))) (fun _ i => 2 - (intOf i).toNat)
  case atStart => exact .inl ⟨rfl, rfl⟩
  case round =>
    rcases hrel with ⟨rfl, rfl⟩ | ⟨rfl, rfl⟩ | ⟨rfl, rfl⟩
    · go_wp2_with fail
      exact ⟨.inr (.inl ⟨rfl, by simp⟩), by simp [intOf]⟩
    · go_wp2_with fail
      exact ⟨.inr (.inr ⟨rfl, rfl⟩), by simp [intOf]⟩
    · go_wp2_with fail
      rw [HCA.out]
      refine HG.out.mono ?_
      rintro e w1 ⟨v1, rfl, ho1, hb1⟩
      have HO1 := Lib.hid ho1
      have HB1 := Lib.hid hb1
      have hs1 := hb1.size
      obtain ⟨A1, c1, rfl, hc1'⟩ := ho1.slice
      clear ho1 hb1 hc0 hc1
      go_wp2_with (at_builtin; fail)
      go_loopw [6, 27] (fun v i wr => ∃ o : List Int, ((i = .int .i64 0 ∧ o = []) ∨ (i = .int .i64 1 ∧ o = la) ∨ (i = .int .i64 2 ∧ o = la ++ lb)) ∧ OInts wr w.heap.size v o ∧ Below w.heap.size w wr) (fun _ i _ => 2 - (intOf i).toNat)
      case atStart => exact ⟨[], .inl ⟨rfl, rfl⟩, HO1.out, HB1.out⟩
      case round =>
        obtain ⟨o, hd, hO, hbw⟩ := hrel
        have HO := Lib.hid hO
        have HBW := Lib.hid hbw
        have hsw := hbw.size
        have HAW := Lib.hid (HA.out.low hbw hB)
        have HBB := Lib.hid (HB.out.low hbw hB)
        have hrow : wr.heap[g]? = some (.cells #[.slice A la.length c, .slice A' lb.length c'] 23 (0, 0)) := (hbw.block g hgl).trans HR.out
        have hc0 : wr.cell? ⟨g, 0, none⟩ = some (.slice A la.length c) := (cell_of_row _ _ _ _ _ _ hrow).trans rfl
        have hc1 : wr.cell? ⟨g, 1, none⟩ = some (.slice A' lb.length c') := (cell_of_row _ _ _ _ _ _ hrow).trans rfl
        obtain ⟨A2, c2, rfl, hc2⟩ := hO.slice
        clear hO hbw hrow
        rcases hd with ⟨rfl, rfl⟩ | ⟨rfl, rfl⟩ | ⟨rfl, rfl⟩
        · simp only [List.length_nil] at HO ⊢
          go_wp2_with (at_builtin; go_must (refine wpList_app_ints rfl (.tmp 31) (.tmp 32) rfl w.heap.size _ [] rfl HO.out B _ la rfl HAW.out (by omega) (by simp; omega) ?_); intro v' w' hP' hE')
          exact ⟨⟨la, .inr (.inl ⟨rfl, rfl⟩), by simpa using hP', HBW.out.trans hE'⟩, by simp [intOf]⟩
        · go_wp2_with (at_builtin; go_must (refine wpList_app_ints rfl (.tmp 31) (.tmp 32) rfl w.heap.size _ o rfl HO.out B _ lb rfl HBB.out (by omega) (by omega) ?_); intro v' w' hP' hE')
          exact ⟨⟨o ++ lb, .inr (.inr ⟨rfl, rfl⟩), hP', HBW.out.trans hE'⟩, by simp [intOf]⟩
        · go_wp2_with (at_builtin; fail)
          go_ret
          exact ⟨_, rfl, HO.out, HBW.out⟩

noncomputable def ldsL (pts : List Pt) (a : Nat) : List Bool := (List.range pts.length).map fun k => dec (Lds pts a k)
theorem FrI.ldsL {pts : List Pt} {a : Nat} {fl : List Bool} (h : FrI pts a fl []) : fl = ldsL pts a := by
  apply List.ext_getElem
  · simp [Proofs.Ytmaaaiccmllnlaa.ldsL, h.len]
  · intro i h1 h2
    simp only [Proofs.Ytmaaaiccmllnlaa.ldsL, List.getElem_map, List.getElem_range]
    rw [Bool.eq_iff_iff, dec_iff, ← h.done i, getD_lt h1]
def FromRet (w : World) (pts : List Pt) (a : Nat) (e : Ending) (w' : World) : Prop :=
  ∃ g, e = .returned (.slice (some ⟨g, 0, none⟩) pts.length pts.length) ∧ RowB w' g 4 (bv (ldsL pts a)) ∧ Below w.heap.size w w'

set_option maxHeartbeats 4000000 in
set_option maxRecDepth 100000 in
theorem from_any (vg : Value) (ts : List Int) (pts : List Pt) (B a : Nat) (w : World) (hg : GrS w B vg ts pts) (hB : B ≤ w.heap.size) (gd : Good ts pts) (ha : a < pts.length) :
    Calls Try.prog 78 #[vg, .int .i64 (a : Nat)] w (FromRet w pts a) := by
  have HG := Lib.hid hg
  have GD := Lib.hid gd
  have hpl := gd.len
  clear gd
  obtain ⟨g, At, ct, vb, Al, cl, rfl, hgB, g0, g1, g2, ht, hp, htl, hpl'⟩ := hg.open_
  have hmk := make_bools pts.length (by omega)
  obtain ⟨b, off, c, nv, e, hb, hc, hl, hnx, z0, z1, z2, z3, z4⟩ := hp.get ha
  injection e with e1 e9 e2
  subst e1 e2
  have hinit := FrI.init (List.getElem?_eq_getElem ha) GD.out.next
  have hbw := bel_a w (.cells (bv (List.replicate pts.length false)).toArray 4)
  have hrow : RowB (w.alloc (.cells (bv (List.replicate pts.length false)).toArray 4)) w.heap.size 4 (bv (List.replicate pts.length false)) := RowB.new _ _ _
  have hq0 : IntX (w.alloc (.cells (bv (List.replicate pts.length false)).toArray 4)) (fun b => b ≠ w.heap.size) nv (msk pts[a].next) := (hnx.low hbw hB).toX (by simp; omega) (fun b hb => by omega)
  have hnl : (pts[a].next.map fun k => ((k : Nat) : Int)).length ≤ 2 := by simpa using GD.out.next2 _ (List.getElem_mem ha)
  obtain ⟨An, cn, rfl, hcn, hln, -⟩ := hnx
  simp only [List.length_map] at z4 hcn hln hnl hq0
  have HI := Lib.hid hinit
  have HR := Lib.hid hrow
  have HQ := Lib.hid hq0
  have HBW := Lib.hid hbw
  have HNL : Hid (pts[a].next.length = (msk pts[a].next).length) := Lib.hid (by rw [msk_len])
  have HM0 : Hid (muQ (List.replicate pts.length false) pts[a].next ≤ 200) := Lib.hid (by
    unfold muQ
    rw [List.count_replicate_self]
    omega)
  have y4 := (HBW.out.cell (p := ⟨b, off + a * 5 + 4, none⟩) (by show b < _; omega)).trans z4
  have y2 := (HBW.out.cell (p := ⟨g, 2, none⟩) (by show g < _; omega)).trans g2
  clear e9 hinit hrow hq0 hbw
  generalize List.replicate pts.length false = fl0 at *
  generalize pts[a].next = q0 at *
  go_enter Try.func78, Try.ntmps78
  go_wp2_with fail
  clear hmk z0 z1 z2 z3 z4 y4 y2
  go_loopg [6] (muQ fl0 q0 + 1) (fun gk v wr => ∃ (fl : List Bool) (q : List Nat), IntX wr (fun b => b ≠ w.heap.size) v (msk q) ∧ RowB wr w.heap.size 4 (bv fl) ∧ FrI pts a fl q ∧ (muQ fl q < gk ∧ muQ fl q ≤ 200) ∧ Below w.heap.size w wr)
  case atStart => exact ⟨fl0, q0, HQ.out, HR.out, HI.out, ⟨by omega, HM0.out⟩, HBW.out⟩
  case round =>
    obtain ⟨fl, q, hq, hr, hfi, hmu, hbr⟩ := hrel
    have HR1 := Lib.hid hr
    have HFI := Lib.hid hfi
    have HMU := Lib.hid hmu.1
    have HM2 := Lib.hid hmu.2
    have HB1 := Lib.hid hbr
    have hsr := hbr.size
    have hfl := hfi.len
    have HFL := Lib.hid hfl
    clear hr hmu hfl HI HR HQ HBW
    cases q with
    | nil =>
      obtain ⟨A1, c1, rfl, hc1⟩ := hq.slice
      have hfin := hfi.ldsL
      have HFIN := Lib.hid hfin
      clear hfi hbr hq hfin
      simp only [msk, List.map_nil, List.length_nil]
      go_wp2_with fail
      go_ret
      exact ⟨w.heap.size, rfl, by rw [← HFIN.out]; exact HR1.out, HB1.out⟩
    | cons k r =>
      obtain ⟨b1, off1, c1, rfl, hqc, hne, hbl, hhd, hpop⟩ := IntX.head (a := ((k : Nat) : Int)) (q := msk r) hq
      simp only [msk_len] at *
      have HPOP := Lib.hid hpop
      have hk := (hfi.qok k (by simp)).2
      have hck : wr.cell? ⟨w.heap.size, k, none⟩ = some (.bool (fl.getD k false)) := by rw [HR1.out.cell, bv_get (by rw [HFL.out]; exact hk)]
      have hfr := HR1.out.frozen k
      have hne2 : b1 ≠ w.heap.size := hne
      clear hpop hq hfi hne
      cases hfk : fl.getD k false
      · rw [hfk] at hck
        have HFK := Lib.hid hfk
        obtain ⟨b3, off3, c3, nv, e, hb3, hc3, hl3, hnx, z0, z1, z2, z3, z4⟩ := hp.get hk
        injection e with e1 e9 e2
        injection e1 with e1
        injection e1 with e1 e3
        subst e1 e3 e2
        have HNX := Lib.hid (hnx.low hbr hB)
        have hn2 : pts[k].next.length ≤ 2 := GD.out.next2 _ (List.getElem_mem hk)
        obtain ⟨An2, cn2, rfl, hcn2, hln2, -⟩ := hnx
        simp only [List.length_map] at z4 hcn2 hln2
        have y4 := (hbr.cell (p := ⟨b, off + k * 5 + 4, none⟩) (by show b < _; omega)).trans z4
        have y2 := (hbr.cell (p := ⟨g, 2, none⟩) (by show g < _; omega)).trans g2
        have hbn : b < w.heap.size := by omega
        have hgn : g < w.heap.size := by omega
        have HMK := Lib.hid (HFI.out.mark (List.getElem?_eq_getElem hk) GD.out.next)
        have HMM := Lib.hid (muQ_mark (r := r) (nx := pts[k].next) (show k < fl.length by rw [HFL.out]; exact hk) HFK.out hn2)
        have HNE : Hid (pts[k].next.map (fun k => ((k : Nat) : Int)) = msk pts[k].next) := Lib.hid rfl
        generalize pts[k].next = nx at *
        have hql : r.length ≤ 200 := by have := HM2.out; simp only [muQ, List.length_cons] at this; omega
        clear hfk hbr z0 z1 z2 z3 z4
        rcases Nat.eq_zero_or_pos c1 with hc0 | hc0
        · subst hc0
          have HT : Hid (IntX wr (fun b => b ≠ w.heap.size) (.slice (some ⟨b1, off1, none⟩) 0 0) (msk r)) := Lib.hid (by
            have := HPOP.out off1 (by simp)
            rwa [show r.length = 0 by omega] at this)
          go_wp2_with fail
          generalize Value.slice (some ⟨b1, off1, none⟩) 0 0 = vt at *
          have HRW : Hid (RowB (wr.setCell ⟨w.heap.size, k, none⟩ (.bool true)) w.heap.size 4 (bv (fl.set k true))) := Lib.hid (by rw [← bv_set]; exact HR1.out.set_ k _)
          have HTW : Hid (IntX (wr.setCell ⟨w.heap.size, k, none⟩ (.bool true)) (fun b => b ≠ w.heap.size) vt (msk r)) := Lib.hid (HT.out.frame (by simp [World.setCell]) fun b hP hl => ⟨hP, heap_setCell_other _ _ _ _ hP⟩)
          have HBW1 : Hid (Below w.heap.size w (wr.setCell ⟨w.heap.size, k, none⟩ (.bool true))) := Lib.hid (HB1.out.setCell (p := ⟨w.heap.size, k, none⟩) (Nat.le_refl _) _)
          have HNXW : Hid (IntS (wr.setCell ⟨w.heap.size, k, none⟩ (.bool true)) B (.slice An2 nx.length cn2) (msk nx)) := Lib.hid (by
            have h := HNX.out.low ((Below.refl w.heap.size wr).setCell (p := ⟨w.heap.size, k, none⟩) (Nat.le_refl _) (.bool true)) hB
            rw [HNE.out, msk_len] at h
            exact h)
          have hsW : (wr.setCell ⟨w.heap.size, k, none⟩ (.bool true)).heap.size = wr.heap.size := by simp [World.setCell]
          generalize wr.setCell ⟨w.heap.size, k, none⟩ (.bool true) = W at *
          have HRA := Lib.hid (HRW.out.alloc (.cells #[vt, .slice An2 nx.length cn2] 23))
          have HTS := Lib.hid (HTW.out.toS.low (bel_a W (.cells #[vt, .slice An2 nx.length cn2] 23)) (Nat.le_refl _))
          have HNS := Lib.hid ((HNXW.out.low (bel_a W (.cells #[vt, .slice An2 nx.length cn2] 23)) (by omega)).more (B' := W.heap.size) (by omega))
          have HBA := Lib.hid (HBW1.out.alloc (by omega) (.cells #[vt, .slice An2 nx.length cn2] 23))
          have HRO := Lib.hid (heap_alloc_new W (.cells #[vt, .slice An2 nx.length cn2] 23))
          have hsA : (W.alloc (.cells #[vt, .slice An2 nx.length cn2] 23)).heap.size = wr.heap.size + 1 := by simp; omega
          rw [hsW] at HRO
          generalize W.alloc (.cells #[vt, .slice An2 nx.length cn2] 23) = W2 at *
          refine (concat_any wr.heap.size vt _ (msk r) (msk nx) W.heap.size W2 HRO.out HTS.out HNS.out (by omega) (by rw [msk_len, msk_len]; omega)).mono ?_
          rintro e w5 ⟨v5, rfl, ho5, hb5⟩
          have HX5 : Hid (IntX w5 (fun b => b ≠ w.heap.size) v5 (msk (r ++ nx))) := Lib.hid (by
            have h := (ho5.toX (by rw [List.length_append, msk_len, msk_len]; omega)).frame (P' := fun b => b ≠ w.heap.size) (w' := w5) (Nat.le_refl _) fun b hb _ => ⟨by have hb' : W2.heap.size ≤ b := hb; show b ≠ w.heap.size; omega, rfl⟩
            simpa [msk] using h)
          have HB5 := Lib.hid (HBA.out.trans (hb5.mono (by omega)))
          have HR5 := Lib.hid (HRA.out.low hb5 HRA.out.lt)
          clear ho5 hb5
          go_wp2_with fail
          go_roundg (muQ fl (k :: r))
          case measure => exact HMU.out
          case rel => exact ⟨fl.set k true, r ++ nx, HX5.out, HR5.out, HMK.out, ⟨HMM.out, Nat.le_of_lt (Nat.lt_of_lt_of_le HMM.out HM2.out)⟩, HB5.out⟩
        · have HT : Hid (IntX wr (fun b => b ≠ w.heap.size) (.slice (some ⟨b1, off1 + 1, none⟩) r.length c1) (msk r)) := Lib.hid (HPOP.out (off1 + 1) (by simp))
          go_wp2_with fail
          generalize Value.slice (some ⟨b1, off1 + 1, none⟩) r.length c1 = vt at *
          have HRW : Hid (RowB (wr.setCell ⟨w.heap.size, k, none⟩ (.bool true)) w.heap.size 4 (bv (fl.set k true))) := Lib.hid (by rw [← bv_set]; exact HR1.out.set_ k _)
          have HTW : Hid (IntX (wr.setCell ⟨w.heap.size, k, none⟩ (.bool true)) (fun b => b ≠ w.heap.size) vt (msk r)) := Lib.hid (HT.out.frame (by simp [World.setCell]) fun b hP hl => ⟨hP, heap_setCell_other _ _ _ _ hP⟩)
          have HBW1 : Hid (Below w.heap.size w (wr.setCell ⟨w.heap.size, k, none⟩ (.bool true))) := Lib.hid (HB1.out.setCell (p := ⟨w.heap.size, k, none⟩) (Nat.le_refl _) _)
          have HNXW : Hid (IntS (wr.setCell ⟨w.heap.size, k, none⟩ (.bool true)) B (.slice An2 nx.length cn2) (msk nx)) := Lib.hid (by
            have h := HNX.out.low ((Below.refl w.heap.size wr).setCell (p := ⟨w.heap.size, k, none⟩) (Nat.le_refl _) (.bool true)) hB
            rw [HNE.out, msk_len] at h
            exact h)
          have hsW : (wr.setCell ⟨w.heap.size, k, none⟩ (.bool true)).heap.size = wr.heap.size := by simp [World.setCell]
          generalize wr.setCell ⟨w.heap.size, k, none⟩ (.bool true) = W at *
          have HRA := Lib.hid (HRW.out.alloc (.cells #[vt, .slice An2 nx.length cn2] 23))
          have HTS := Lib.hid (HTW.out.toS.low (bel_a W (.cells #[vt, .slice An2 nx.length cn2] 23)) (Nat.le_refl _))
          have HNS := Lib.hid ((HNXW.out.low (bel_a W (.cells #[vt, .slice An2 nx.length cn2] 23)) (by omega)).more (B' := W.heap.size) (by omega))
          have HBA := Lib.hid (HBW1.out.alloc (by omega) (.cells #[vt, .slice An2 nx.length cn2] 23))
          have HRO := Lib.hid (heap_alloc_new W (.cells #[vt, .slice An2 nx.length cn2] 23))
          have hsA : (W.alloc (.cells #[vt, .slice An2 nx.length cn2] 23)).heap.size = wr.heap.size + 1 := by simp; omega
          rw [hsW] at HRO
          generalize W.alloc (.cells #[vt, .slice An2 nx.length cn2] 23) = W2 at *
          refine (concat_any wr.heap.size vt _ (msk r) (msk nx) W.heap.size W2 HRO.out HTS.out HNS.out (by omega) (by rw [msk_len, msk_len]; omega)).mono ?_
          rintro e w5 ⟨v5, rfl, ho5, hb5⟩
          have HX5 : Hid (IntX w5 (fun b => b ≠ w.heap.size) v5 (msk (r ++ nx))) := Lib.hid (by
            have h := (ho5.toX (by rw [List.length_append, msk_len, msk_len]; omega)).frame (P' := fun b => b ≠ w.heap.size) (w' := w5) (Nat.le_refl _) fun b hb _ => ⟨by have hb' : W2.heap.size ≤ b := hb; show b ≠ w.heap.size; omega, rfl⟩
            simpa [msk] using h)
          have HB5 := Lib.hid (HBA.out.trans (hb5.mono (by omega)))
          have HR5 := Lib.hid (HRA.out.low hb5 HRA.out.lt)
          clear ho5 hb5
          go_wp2_with fail
          go_roundg (muQ fl (k :: r))
          case measure => exact HMU.out
          case rel => exact ⟨fl.set k true, r ++ nx, HX5.out, HR5.out, HMK.out, ⟨HMM.out, Nat.le_of_lt (Nat.lt_of_lt_of_le HMM.out HM2.out)⟩, HB5.out⟩
      · rw [hfk] at hck
        have HSK := Lib.hid (HFI.out.skip hfk)
        clear hfk hbr
        rcases Nat.eq_zero_or_pos c1 with hc0 | hc0
        · subst hc0
          have HT : Hid (IntX wr (fun b => b ≠ w.heap.size) (.slice (some ⟨b1, off1, none⟩) 0 0) (msk r)) := Lib.hid (by
            have := HPOP.out off1 (by simp)
            rwa [show r.length = 0 by omega] at this)
          go_wp2_with fail
          go_roundg (muQ fl (k :: r))
          case measure => exact HMU.out
          case rel => exact ⟨fl, r, HT.out, HR1.out, HSK.out, ⟨muQ_skip, Nat.le_of_lt (Nat.lt_of_lt_of_le muQ_skip HM2.out)⟩, HB1.out⟩
        · go_wp2_with fail
          go_roundg (muQ fl (k :: r))
          case measure => exact HMU.out
          case rel => exact ⟨fl, r, HPOP.out (off1 + 1) (by simp), HR1.out, HSK.out, ⟨muQ_skip, Nat.le_of_lt (Nat.lt_of_lt_of_le muQ_skip HM2.out)⟩, HB1.out⟩

theorem ldsL_get {pts : List Pt} {a k : Nat} (hk : k < pts.length) : (ldsL pts a).getD k false = dec (Lds pts a k) := by
  rw [getD_lt (by simpa [ldsL] using hk)]; simp [ldsL]
theorem ldsL_len (pts : List Pt) (a : Nat) : (ldsL pts a).length = pts.length := by simp [ldsL]
noncomputable def toRes (l : List St) (ts : List Int) (a : Int) : List Int := if graphOk ts l [a] = true then lst (ptsP l).length (fun i => dec (Lds (ptsP l) i a.toNat)) else []
noncomputable def frRes (l : List St) (ts : List Int) (a : Int) : List Int := if graphOk ts l [a] = true then lst (ptsP l).length (fun i => dec (Lds (ptsP l) a.toNat i)) else []

set_option maxHeartbeats 4000000 in
set_option maxRecDepth 100000 in
theorem iPathsTo_any (vt vb : Value) (ts : List Int) (l : List St) (a : Int) (B : Nat) (w : World) (ht : IntS w B vt ts) (hl : StS w B vb l) (hB : B ≤ w.heap.size) (hsz : szL l ≤ 4194300) :
    Calls Try.prog 41 #[.agg #[vt, vb], .int .i64 a] w (IntsRet w (toRes l ts a)) := by
  have hb2 : ∀ o o', Below w.heap.size w ((w.alloc o).alloc o') := fun o o' => (bel_a w o).alloc (by simp) o'
  go_enter Try.func41, Try.ntmps41
  go_wp2_with fail
  refine (graphOf_any vt vb _ ts l [a] (w.heap.size + 2) _ ((ht.low (hb2 _ _) hB).more (by omega)) ((hl.low (hb2 _ _) hB).more (by omega)) (by simpa using ints_lit (w.alloc _) [a] 3 (by simp)) (by simp) hsz).mono ?_
  rintro e w1 ⟨vg, rfl, hgr, hb1⟩
  have hb3 := (hb2 _ _).trans (hb1.mono (by simp; omega))
  cases hok : graphOk ts l [a]
  · have HRES : Hid (toRes l ts a = []) := Lib.hid (by unfold toRes; rw [hok, if_neg (by simp)])
    clear hok hgr
    go_wp2_with fail
    go_ret
    exact ⟨_, rfl, by rw [HRES.out]; exact (OInts.nil w1 0).toS (by simp), hb3⟩
  · obtain ⟨hv, k, rfl, hk⟩ := graphOk_one hok
    have GD := Lib.hid (Good.of_valid hv)
    have hplen := GD.out.len
    have hgg := hgr hok
    have HGG := Lib.hid hgg
    have HRES : Hid (toRes l ts (k : Nat) = lst (ptsP l).length (fun i => dec (Lds (ptsP l) i k))) := Lib.hid (by unfold toRes; rw [if_pos hok]; rfl)
    have hs3 := hb3.size
    obtain ⟨g, At, ct, vb', Al, cl, rfl, hgB, g0, g1, g2, ht', hps, htl, hpl⟩ := hgg.open_
    clear hok hgr hv
    go_wp2_with (at_builtin; fail)
    go_loopw [7, 23] (fun v i wr => ∃ (j : Nat) (o : List Int), j ≤ (ptsP l).length ∧ i = .int .i64 j ∧ o = lst j (fun i => dec (Lds (ptsP l) i k)) ∧ OInts wr w1.heap.size v o ∧ Below w1.heap.size w1 wr) (fun _ i _ => (ptsP l).length - (intOf i).toNat)
    case atStart => exact ⟨0, [], by omega, rfl, rfl, OInts.nil _ _, Below.refl _ _⟩
    case round =>
      obtain ⟨j, o, hj, rfl, ho, hP, hbw⟩ := hrel
      have HO := Lib.hid ho
      have hol : o.length ≤ j := by rw [ho]; exact lst_len _ _
      have HP := Lib.hid hP
      have HBW := Lib.hid hbw
      have hsw := hbw.size
      obtain ⟨A', c', rfl, hc'⟩ := hP.slice
      clear ho hP
      by_cases hjl : j < (ptsP l).length
      · have HF := Lib.hid (from_any _ ts (ptsP l) w1.heap.size j wr (HGG.out.low hbw (Nat.le_refl _)) hsw GD.out hjl)
        clear hbw
        go_wp2_with (at_builtin; fail)
        refine HF.out.mono ?_
        rintro e w2 ⟨g', rfl, hrow, hb4⟩
        have HP2 := Lib.hid (HP.out.bel hb4)
        have HB2 := Lib.hid (HBW.out.trans (hb4.mono hsw))
        have hs4 := hb4.size
        have hck : w2.cell? ⟨g', k, none⟩ = some (.bool (dec (Lds (ptsP l) j k))) := by rw [hrow.cell, bv_get (by rw [ldsL_len]; exact hk), ldsL_get hk]
        clear hrow hb4
        cases hd : dec (Lds (ptsP l) j k)
        · rw [hd] at hck
          have HD := Lib.hid hd
          clear hd
          go_wp2_with (at_builtin; fail)
          exact ⟨⟨j + 1, o, by omega, by go_num, by rw [lst_succ_false HD.out]; exact HO.out, HP2.out, HB2.out⟩, by simp [intOf] <;> omega⟩
        · rw [hd] at hck
          have HD := Lib.hid hd
          clear hd
          go_wp2_with (at_builtin; go_must (refine wpList_push_int rfl (.tmp 32) (.tmp 34) rfl HP2.out (by omega) (by omega) _ rfl rfl ?_); intro v' w' hP' hE')
          exact ⟨⟨j + 1, _, by omega, by go_num, by rw [lst_succ_true HD.out, HO.out], hP', HB2.out.trans ((((Evo.alloc w1.heap.size 3 _ _).trans hE').below (by omega)))⟩, by simp [intOf] <;> omega⟩
      · have hje : j = (ptsP l).length := by omega
        have HFIN : Hid (o = toRes l ts (k : Nat)) := Lib.hid (by rw [HRES.out, ← hje]; exact HO.out)
        clear hje
        go_wp2_with (at_builtin; fail)
        go_ret
        exact ⟨_, rfl, by rw [← HFIN.out]; exact HP.out.toS (by omega), hb3.trans (HBW.out.mono hs3)⟩

end Go.Proofs.Ytmaaaiccmllnlaa

/- impl.Point.isLoan, isChoice; impl.graph.run; slices.Clone; impl.RunPath. -/
namespace Go.Proofs.Ytmaaaiccmllnlaa
open Go.RowKit

def loanB (op : Int) : Bool := op == 4 || op == 5
set_option maxHeartbeats 400000 in
theorem isLoan_any (op x y n : Int) (nv : Value) (w : World) :
    Calls Try.prog 57 #[.agg #[.int .i64 op, .int .i64 x, .int .i64 y, .int .i64 n, nv]] w fun e w' => e = .returned (.bool (loanB op)) ∧ Below w.heap.size w w' := by
  by_cases h4 : op = 4
  · subst h4
    go_enter Try.func57, Try.ntmps57
    go_wp2_with fail
    go_ret
    exact ⟨rfl, bel_a _ _⟩
  · by_cases h5 : op = 5
    · subst h5
      go_enter Try.func57, Try.ntmps57
      go_wp2_with fail
      go_ret
      exact ⟨rfl, bel_a _ _⟩
    · go_enter Try.func57, Try.ntmps57
      go_wp2_with fail
      go_ret
      exact ⟨ret_bool (by simp [loanB]), bel_a _ _⟩
set_option maxHeartbeats 400000 in
theorem isChoice_any (op x y n : Int) (A : Option Addr) (m c : Nat) (w : World) :
    Calls Try.prog 86 #[.agg #[.int .i64 op, .int .i64 x, .int .i64 y, .int .i64 n, .slice A m c]] w fun e w' => e = .returned (.bool (decide (m = 2))) ∧ Below w.heap.size w w' := by
  have hd : (((m : Nat) : Int) == 2) = decide (m = 2) := by rw [Bool.eq_iff_iff]; simp; omega
  go_enter Try.func86, Try.ntmps86
  go_wp2_with fail
  go_ret
  exact ⟨rfl, bel_a _ _⟩
theorem IntS.take {w : World} {B n c m : Nat} {A : Option Addr} {l : List Int} (h : IntS w B (.slice A n c) l) (hm : m ≤ l.length) : IntS w B (.slice A m c) (l.take m) := by
  obtain ⟨A', c', e, h1, h2, h3⟩ := h
  injection e with e1 e2 e3
  subst e1 e3
  have hl : (l.take m).length = m := by simp; omega
  refine ⟨A, c, by rw [hl], by omega, by omega, by simp, fun hn => ?_⟩
  obtain ⟨b, off, e, hb, hc⟩ := h3.2 (by omega)
  refine ⟨b, off, e, hb, fun j u hu => hc j u ?_⟩
  have hj : j < m := by have := (List.getElem?_eq_some_iff.1 hu).1; simp at this; omega
  rw [List.getElem?_map, List.getElem?_take_of_lt hj] at hu
  rw [List.getElem?_map]; exact hu
theorem and_one (c : Int) : bits .and .i64 c 1 = c % 2 := by
  show IntKind.i64.wrap ((BitVec.ofInt 64 c &&& BitVec.ofInt 64 1).toNat : Int) = _
  rw [BitVec.toNat_and, show (BitVec.ofInt 64 1).toNat = 1 by decide, Nat.and_one_is_mod, BitVec.toNat_ofInt, back64 (by omega)]
  omega

/-- what run answers -/
def RunRet (w : World) (r : List Nat × Bool) (e : Ending) (w' : World) : Prop := ∃ v, e = .returned (.tuple #[v, .bool r.2]) ∧ IntS w' w'.heap.size v (msk r.1) ∧ Below w.heap.size w w'
set_option maxHeartbeats 4000000 in
set_option maxRecDepth 100000 in
theorem run_any (vg vc : Value) (ts : List Int) (pts : List Pt) (cs : List Int) (B B' most : Nat) (w : World) (hg : GrS w B vg ts pts) (hB : B ≤ w.heap.size) (gd : Good ts pts) (h1 : ∀ p ∈ pts, p.op ≠ 11 → 1 ≤ p.next.length) (hc : IntS w B' vc cs) (hB' : B' ≤ w.heap.size) (hm : most ≤ 1000) :
    Calls Try.prog 88 #[vg, vc, .int .i64 (most : Nat)] w (RunRet w (runF pts most 0 cs)) := by
  have HG := Lib.hid hg
  have GD := Lib.hid gd
  have H1 := Lib.hid h1
  have hpl := gd.len
  have hpos := gd.pos
  have HC0 : Hid (IntX w (fun b => b < w.heap.size) vc cs) := Lib.hid (hc.toX hB' fun b hb => by omega)
  clear gd h1 hc
  obtain ⟨g, At, ct, vb, Al, cl, rfl, hgB, g0, g1, g2, ht, hp, htl, hpl'⟩ := hg.open_
  obtain ⟨Ac, cc, rfl, hcc⟩ := HC0.out.slice
  go_enter Try.func88, Try.ntmps88
  go_wp2_with (at_builtin; fail)
  go_loopg [8, 9, 1] (most + 2) (fun gk v a' c' wr => ∃ (o : List Nat) (a : Nat) (cs' : List Int), OInts wr w.heap.size v (msk o) ∧ a' = .int .i64 (a : Nat) ∧ a < pts.length ∧ IntX w (fun b => b < w.heap.size) c' cs' ∧ RunRel pts most cs o a cs' ∧ most + 1 - o.length < gk ∧ o.length ≤ most + 1 ∧ Below w.heap.size w wr)
  case atStart => exact ⟨[], 0, cs, OInts.nil _ _, rfl, hpos, HC0.out, RunRel.start _ _ _, by simp, by simp, Below.refl _ _⟩
  case round =>
    obtain ⟨o, a, cs', hO, rfl, ha, hX, hR, hgk, hol, hbw⟩ := hrel
    have HO := Lib.hid hO
    have HX := Lib.hid hX
    have HR := Lib.hid hR
    have HBW := Lib.hid hbw
    have hsw := hbw.size
    obtain ⟨A1, c1, rfl, hc1⟩ := hO.slice
    obtain ⟨A2, c2, rfl, hc2⟩ := hX.slice
    simp only [msk_len] at hc1 HO ⊢
    clear hO hX hR
    by_cases hle : o.length ≤ most
    · obtain ⟨b, off, c, nv, e, hb, hcc2, hl, hnx, z0, z1, z2, z3, z4⟩ := hp.get ha
      injection e with e1 e9 e2
      subst e1 e2
      have hbB : b < w.heap.size := by omega
      have HNX := Lib.hid hnx
      obtain ⟨An, cn, rfl, hcn, hln, -⟩ := hnx
      simp only [List.length_map] at z4 hcn hln HNX
      have hn2 := GD.out.next2 _ (List.getElem_mem ha)
      have HN := Lib.hid (GD.out.next _ (List.getElem_mem ha))
      have HP1 := Lib.hid (H1.out _ (List.getElem_mem ha))
      have HPD : Hid (ptD pts a = pts[a]) := Lib.hid (ptD_get ha)
      generalize pts[a] = P at *
      clear e9 hbw
      have HME : Hid (msk o ++ [((a : Nat) : Int)] = msk (o ++ [a])) := Lib.hid (by simp [msk])
      by_cases hop : P.op = 11
      · have HST := Lib.hid (HR.out.stop hle (by rw [HPD.out]; exact hop))
        rw [hop] at z0
        clear hop
        go_wp2_with (at_builtin; go_must (refine wpList_push_int rfl (.tmp 15) (.tmp 17) rfl HO.out hsw (by rw [msk_len]; omega) _ rfl rfl ?_); intro v' w' hP' hE'; (have HB2 := Lib.hid (HBW.out.trans (((Evo.alloc w.heap.size 3 _ _).trans hE').below hsw))); (have HO2 := Lib.hid hP'); (have y2 := (HB2.out.cell (p := ⟨g, 2, none⟩) (by show g < _; omega)).trans g2); (have q0 := (HB2.out.cell (p := ⟨b, off + a * 5, none⟩) hbB).trans z0); (have q1 := (HB2.out.cell (p := ⟨b, off + a * 5 + 1, none⟩) hbB).trans z1); (have q2 := (HB2.out.cell (p := ⟨b, off + a * 5 + 2, none⟩) hbB).trans z2); (have q3 := (HB2.out.cell (p := ⟨b, off + a * 5 + 3, none⟩) hbB).trans z3); (have q4 := (HB2.out.cell (p := ⟨b, off + a * 5 + 4, none⟩) hbB).trans z4); clear hP' hE' z0 z1 z2 z3 z4)
        go_ret2
        rw [HST.out]
        have hO3 := HO2.out.bel (bel_a _ (.cells #[.int .i64 11, .int .i64 P.x, .int .i64 P.y, .int .i64 P.n, .slice An P.next.length cn] 51))
        rw [HME.out] at hO3
        exact ⟨_, rfl, hO3.toS (by rw [msk_len]; simp; omega), HB2.out.alloc HB2.out.size _⟩
      · have hp1 := HP1.out hop
        have HGO := Lib.hid (HR.out.go hle (by rw [HPD.out]; exact hop))
        rw [HPD.out] at HGO
        go_wp2_with (at_builtin; go_must (refine wpList_push_int rfl (.tmp 15) (.tmp 17) rfl HO.out hsw (by rw [msk_len]; omega) _ rfl rfl ?_); intro v' w' hP' hE'; (have HB2 := Lib.hid (HBW.out.trans (((Evo.alloc w.heap.size 3 _ _).trans hE').below hsw))); (have HO2 := Lib.hid hP'); (have y2 := (HB2.out.cell (p := ⟨g, 2, none⟩) (by show g < _; omega)).trans g2); (have q0 := (HB2.out.cell (p := ⟨b, off + a * 5, none⟩) hbB).trans z0); (have q1 := (HB2.out.cell (p := ⟨b, off + a * 5 + 1, none⟩) hbB).trans z1); (have q2 := (HB2.out.cell (p := ⟨b, off + a * 5 + 2, none⟩) hbB).trans z2); (have q3 := (HB2.out.cell (p := ⟨b, off + a * 5 + 3, none⟩) hbB).trans z3); (have q4 := (HB2.out.cell (p := ⟨b, off + a * 5 + 4, none⟩) hbB).trans z4); clear hP' hE' z0 z1 z2 z3 z4)
        have HB3 := Lib.hid (HB2.out.alloc HB2.out.size (.cells #[.int .i64 P.op, .int .i64 P.x, .int .i64 P.y, .int .i64 P.n, .slice An P.next.length cn] 51))
        have HO3 := Lib.hid (HO2.out.bel (bel_a _ (.cells #[.int .i64 P.op, .int .i64 P.x, .int .i64 P.y, .int .i64 P.n, .slice An P.next.length cn] 51)))
        have HR3 := Lib.hid (heap_alloc_new w' (.cells #[.int .i64 P.op, .int .i64 P.x, .int .i64 P.y, .int .i64 P.n, .slice An P.next.length cn] 51))
        have hs3 : (w'.alloc (.cells #[.int .i64 P.op, .int .i64 P.x, .int .i64 P.y, .int .i64 P.n, .slice An P.next.length cn] 51)).heap.size = w'.heap.size + 1 := by simp
        generalize w'.alloc (.cells #[.int .i64 P.op, .int .i64 P.x, .int .i64 P.y, .int .i64 P.n, .slice An P.next.length cn] 51) = w3 at *
        refine (isChoice_any _ _ _ _ _ _ _ _).mono ?_
        rintro e w4 ⟨rfl, hb4⟩
        have HB4 := Lib.hid (HB3.out.trans (hb4.mono HB3.out.size))
        have HO4 := Lib.hid (HO3.out.bel hb4)
        have x4 : w4.cell? ⟨w'.heap.size, 4, none⟩ = some (.slice An P.next.length cn) := (cell_of_row _ _ _ _ _ _ (row_below HR3.out hb4)).trans rfl
        have hs4 := HB4.out.size
        obtain ⟨An', cn', en, -, -, hrd⟩ := HNX.out.low HB4.out hB
        simp only [List.length_map] at en
        injection en with e1 e9 e2
        subst e1 e2
        clear e9 hb4 q0 q1 q2 q3 q4 y2
        obtain ⟨bn, on, rfl, hbn, hcn2⟩ := hrd.int_at (k := 0) (by simp; omega)
        have hn0 := hcn2 0 (by simp; omega)
        rw [getD_lt (by simp; omega), List.getElem_map, Nat.add_zero] at hn0
        have H00 : Hid (P.next[0] = P.next.getD 0 0) := Lib.hid (by rw [getD_lt hp1])
        have HN0 := Lib.hid (HN.out _ (List.getElem_mem hp1))
        have HNI : Hid (OInts w4 w.heap.size v' (msk (o ++ [a]))) := Lib.hid (by rw [← HME.out]; exact HO4.out)
        rw [H00.out] at hn0 HN0
        clear hrd
        by_cases hch : P.next.length = 2
        · have h1l : 1 < P.next.length := by omega
          have hn1 := hcn2 1 (by simp; omega)
          rw [getD_lt (by simp; omega), List.getElem_map] at hn1
          have H01 : Hid (P.next[1]'h1l = P.next.getD 1 0) := Lib.hid (by rw [getD_lt])
          have HN1 := Lib.hid (HN.out _ (List.getElem_mem h1l))
          rw [H01.out] at hn1 HN1
          have hd2 : decide (P.next.length = 2) = true := by simpa using hch
          have HCH := Lib.hid hch
          clear hcn2
          rw [hd2]
          rw [hch] at x4
          clear hch hd2
          cases cs' with
          | nil =>
            have HGO2 : Hid (RunRel pts most cs (o ++ [a]) (P.next.getD 1 0) []) := Lib.hid (by
              have := HGO.out
              unfold stepP restP at this
              rw [if_pos HCH.out, if_pos HCH.out] at this
              simpa using this)
            simp only [List.length_nil]
            go_wp2_with (at_builtin; fail)
            go_roundg (most + 1 - o.length)
            case measure => omega
            case rel => exact ⟨o ++ [a], P.next.getD 1 0, [], HNI.out, (by rw [← H01.out]), HN1.out, HX.out, HGO2.out, by simp; omega, by simp; omega, HB4.out⟩
          | cons c r =>
            obtain ⟨b5, off5, c5, e, hqc, -, hbl5, hhd, hpop⟩ := HX.out.head
            injection e with e1 e9 e2
            subst e1 e2
            clear e9
            have hh := (HB4.out.cell (p := ⟨b5, off5, none⟩) hbl5).trans hhd
            have HPOP := Lib.hid hpop
            have HST : Hid (stepP P (c :: r) = if c % 2 = 0 then P.next.getD 0 0 else P.next.getD 1 0) := Lib.hid (by unfold stepP; rw [if_pos HCH.out]; rfl)
            have HRE : Hid (restP P (c :: r) = r) := Lib.hid (by unfold restP; rw [if_pos HCH.out]; rfl)
            have HAO := Lib.hid (and_one c)
            have hc01 : c % 2 = 0 ∨ c % 2 = 1 := by omega
            simp only [List.length_cons]
            clear hpop
            rcases hc01 with h0 | h0
            · have hbit : bits .and .i64 c 1 = 0 := by rw [HAO.out]; exact h0
              have HGO2 : Hid (RunRel pts most cs (o ++ [a]) (P.next.getD 0 0) r) := Lib.hid (by
                have := HGO.out
                rwa [HST.out, HRE.out, if_pos h0] at this)
              clear h0
              rcases Nat.eq_zero_or_pos c5 with hc0 | hc0
              · subst hc0
                have HT : Hid (IntX w (fun b => b < w.heap.size) (.slice (some ⟨b5, off5, none⟩) 0 0) r) := Lib.hid (by
                  have := HPOP.out off5 (by simp)
                  rwa [show r.length = 0 by omega] at this)
                go_wp2_with (at_builtin; fail)
                go_quiet (fail)
                go_wp2_with (at_builtin; fail)
                go_roundg (most + 1 - o.length)
                case measure => omega
                case rel => exact ⟨o ++ [a], P.next.getD 0 0, r, HNI.out, rfl, HN0.out, HT.out, HGO2.out, by simp; omega, by simp; omega, Below.drN HB4.out _⟩
              · have HT := Lib.hid (HPOP.out (off5 + 1) (by simp))
                go_wp2_with (at_builtin; fail)
                go_quiet (fail)
                go_wp2_with (at_builtin; fail)
                go_roundg (most + 1 - o.length)
                case measure => omega
                case rel => exact ⟨o ++ [a], P.next.getD 0 0, r, HNI.out, rfl, HN0.out, HT.out, HGO2.out, by simp; omega, by simp; omega, Below.drN HB4.out _⟩
            · have hbit : bits .and .i64 c 1 = 1 := by rw [HAO.out]; exact h0
              have HGO2 : Hid (RunRel pts most cs (o ++ [a]) (P.next.getD 1 0) r) := Lib.hid (by
                have := HGO.out
                rwa [HST.out, HRE.out, if_neg (by omega)] at this)
              clear h0
              rcases Nat.eq_zero_or_pos c5 with hc0 | hc0
              · subst hc0
                have HT : Hid (IntX w (fun b => b < w.heap.size) (.slice (some ⟨b5, off5, none⟩) 0 0) r) := Lib.hid (by
                  have := HPOP.out off5 (by simp)
                  rwa [show r.length = 0 by omega] at this)
                go_wp2_with (at_builtin; fail)
                go_quiet (fail)
                go_wp2_with (at_builtin; fail)
                go_roundg (most + 1 - o.length)
                case measure => omega
                case rel => exact ⟨o ++ [a], P.next.getD 1 0, r, HNI.out, (by rw [← H01.out]), HN1.out, HT.out, HGO2.out, by simp; omega, by simp; omega, Below.drN HB4.out _⟩
              · have HT := Lib.hid (HPOP.out (off5 + 1) (by simp))
                go_wp2_with (at_builtin; fail)
                go_quiet (fail)
                go_wp2_with (at_builtin; fail)
                go_roundg (most + 1 - o.length)
                case measure => omega
                case rel => exact ⟨o ++ [a], P.next.getD 1 0, r, HNI.out, (by rw [← H01.out]), HN1.out, HT.out, HGO2.out, by simp; omega, by simp; omega, Below.drN HB4.out _⟩
        · have hd2 : decide (P.next.length = 2) = false := by simpa using hch
          have HGO2 : Hid (RunRel pts most cs (o ++ [a]) (P.next.getD 0 0) cs') := Lib.hid (by
            have := HGO.out
            unfold stepP restP at this
            rwa [if_neg hch, if_neg hch] at this)
          clear hcn2
          rw [hd2]
          clear hch hd2
          go_wp2_with (at_builtin; fail)
          go_roundg (most + 1 - o.length)
          case measure => omega
          case rel => exact ⟨o ++ [a], P.next.getD 0 0, cs', HNI.out, rfl, HN0.out, HX.out, HGO2.out, by simp; omega, by simp; omega, HB4.out⟩
    · obtain ⟨hcl, hcr⟩ := HR.out.cut hle
      have HCR := Lib.hid hcr
      clear hcr
      go_wp2_with (at_builtin; fail)
      go_ret2
      rw [HCR.out]
      have hS := (HO.out.toS (by rw [msk_len]; omega)).take (m := most) (by rw [msk_len]; omega)
      rw [show (msk o).take most = msk (o.take most) by simp [msk]] at hS
      exact ⟨_, rfl, hS, HBW.out⟩

set_option maxHeartbeats 1000000 in
set_option maxRecDepth 100000 in
theorem clone_any (v : Value) (l : List Int) (B : Nat) (w : World) (h : IntS w B v l) (hB : B ≤ w.heap.size) (hl : l.length ≤ 4000000) :
    Calls Try.prog 89 #[v] w fun e w' => ∃ v', e = .returned v' ∧ OInts w' w.heap.size v' l ∧ Below w.heap.size w w' := by
  have H := Lib.hid h
  obtain ⟨A, c, rfl, hc, hm, hr⟩ := h
  have hq : ∀ W, (binOp .eql 23 (.slice A l.length c) (.slice none 0 0)).run Try.prog W = .ok (.bool A.isNone) W := fun W => by
    first
      | exact Lib.run_eql_slice_nil W _ _ _ _ _ _ _ Try.underlying23
      | exact Lib.run_eql_slice_nil W _ _ _ _ _ Try.underlying23
  have HE := Lib.hid (OInts.empty w w.heap.size (Nat.le_refl _))
  have HBA := Lib.hid (bel_a w (.cells #[] 3))
  cases A with
  | none =>
    have hl0 : l = [] := by
      rcases Nat.eq_zero_or_pos l.length with h0 | h0
      · exact List.eq_nil_of_length_eq_zero h0
      · obtain ⟨b, off, e, _⟩ := hr.2 h0; cases e
    subst hl0
    have hnil : ∀ W, (binOp .eql 23 (.slice none 0 c) (.slice none 0 0)).run Try.prog W = .ok (.bool true) W := hq
    clear hq hr
    simp only [List.length_nil]
    go_enter Try.func89, Try.ntmps89
    go_wp2_with (at_builtin; fail)
    go_ret
    exact ⟨_, rfl, OInts.nil _ _, Below.refl _ _⟩
  | some ad =>
    have hnil : ∀ W, (binOp .eql 23 (.slice (some ad) l.length c) (.slice none 0 0)).run Try.prog W = .ok (.bool false) W := hq
    clear hq hr
    go_enter Try.func89, Try.ntmps89
    go_wp2_with (at_builtin; go_must (refine wpList_app_ints rfl (.tmp 5) (.tmp 6) rfl w.heap.size _ [] rfl HE.out B _ l rfl (H.out.low HBA.out hB) (by simp) (by simp; omega) ?_); intro v' w' hP' hE')
    go_ret
    exact ⟨_, rfl, by simpa using hP', HBA.out.trans hE'⟩

def runRes (ts : List Int) (l : List St) (cs : List Int) (most : Int) : List Nat × Bool := if validP ts l = true ∧ withinP most 0 1000 = true then runF (ptsP l) most.toNat 0 cs else ([], false)
set_option maxHeartbeats 1000000 in
set_option maxRecDepth 100000 in
theorem iRunPath_any (vt vb vc : Value) (ts : List Int) (l : List St) (cs : List Int) (most : Int) (B : Nat) (w : World) (ht : IntS w B vt ts) (hl : StS w B vb l) (hc : IntS w B vc cs) (hB : B ≤ w.heap.size) (hsz : szL l ≤ 4194300) :
    Calls Try.prog 38 #[.agg #[vt, vb], vc, .int .i64 most] w (RunRet w (runRes ts l cs most)) := by
  go_enter Try.func38, Try.ntmps38
  go_wp2_with fail
  refine (graphOf_any vt vb _ ts l [] w.heap.size _ ((ht.low (bel_a _ _) hB).more hB) ((hl.low (bel_a _ _) hB).more hB) ((OInts.nil w 0).toS (by simp) |>.low (bel_a _ _) (Nat.le_refl _)) (by simp) hsz).mono ?_
  rintro e w1 ⟨vg, rfl, hgr, hb1⟩
  have hb3 := (bel_a _ _).trans (hb1.mono (by simp))
  rw [graphOk_nil] at hgr ⊢
  cases hok : validP ts l
  · have HRES : Hid (runRes ts l cs most = ([], false)) := Lib.hid (by unfold runRes; rw [hok, if_neg (by simp)])
    clear hok hgr
    go_wp2_with fail
    go_ret2
    rw [HRES.out]
    exact ⟨_, rfl, (OInts.nil w1 0).toS (by simp), hb3⟩
  · have GD := Lib.hid (Good.of_valid hok)
    have HGG := Lib.hid (hgr hok)
    have hs3 := hb3.size
    have HC := Lib.hid (hc.low hb3 hB)
    cases hwm : withinP most 0 1000
    · have HRES : Hid (runRes ts l cs most = ([], false)) := Lib.hid (by unfold runRes; rw [hwm, if_neg (by simp)])
      have HWM := Lib.hid hwm
      clear hok hgr hwm hc
      go_wp2_with fail
      refine (within_any _ _ _ _).mono ?_
      rintro e w' ⟨rfl, rfl⟩
      rw [HWM.out]
      go_wp2_with fail
      go_ret2
      rw [HRES.out]
      exact ⟨_, rfl, (OInts.nil _ 0).toS (by simp), hb3⟩
    · have HRES : Hid (runRes ts l cs most = runF (ptsP l) most.toNat 0 cs) := Lib.hid (by unfold runRes; rw [if_pos ⟨hok, hwm⟩])
      have HWM := Lib.hid hwm
      have hm0 : 0 ≤ most ∧ most ≤ 1000 := by simpa [withinP] using hwm
      obtain ⟨m, rfl⟩ : ∃ m : Nat, most = m := ⟨most.toNat, by omega⟩
      have hm1 : m ≤ 1000 := by omega
      have HRN := Lib.hid (run_any vg vc ts (ptsP l) cs _ B m w1 HGG.out (Nat.le_refl _) GD.out (ptsP_next1 l) HC.out (by omega) hm1)
      have HLEN := Lib.hid (runF_len (ptsP l) m 0 cs)
      rw [Int.toNat_natCast] at HRES
      clear hok hgr hwm hc hm0
      go_wp2_with fail
      refine (within_any _ _ _ _).mono ?_
      rintro e w' ⟨rfl, rfl⟩
      rw [HWM.out]
      go_wp2_with fail
      refine HRN.out.mono ?_
      rintro e w2 ⟨v2, rfl, hv2, hb4⟩
      have HV2 := Lib.hid hv2
      have hb5 := hb3.trans (hb4.mono hs3)
      have hlen := HLEN.out
      generalize runF (ptsP l) m 0 cs = r at *
      obtain ⟨r1, r2⟩ := r
      simp only at hlen HV2 ⊢
      clear hv2 hb4
      go_wp2_with fail
      refine (clone_any _ _ _ _ HV2.out (Nat.le_refl _) (by rw [msk_len]; omega)).mono ?_
      rintro e w3 ⟨v3, rfl, ho3, hb6⟩
      go_wp2_with fail
      go_ret2
      rw [HRES.out]
      exact ⟨_, rfl, ho3.toS (by rw [msk_len]; omega), hb5.trans (hb6.mono hb5.size)⟩

end Go.Proofs.Ytmaaaiccmllnlaa

/- Loans: owned rows of them; impl.LoansOf. -/
namespace Go.Proofs.Ytmaaaiccmllnlaa
open Go.RowKit

structure Ln where
  pt : Nat
  un : Bool
  vr : Int
def lnCells : List Ln → List Value
  | [] => []
  | x :: r => .int .i64 (x.pt : Nat) :: .bool x.un :: .int .i64 x.vr :: lnCells r
theorem lnCells_append (a b : List Ln) : lnCells (a ++ b) = lnCells a ++ lnCells b := by
  induction a with
  | nil => rfl
  | cons x r ih => simp [lnCells, ih]
theorem lnCells_len (a : List Ln) : (lnCells a).length = a.length * 3 := by
  induction a with
  | nil => rfl
  | cons x r ih => simp [lnCells, ih]; omega
theorem lnCells_at {ls : List Ln} {i : Nat} (hi : i < ls.length) : (lnCells ls)[i * 3]? = some (.int .i64 (ls[i].pt : Nat)) ∧ (lnCells ls)[i * 3 + 1]? = some (.bool ls[i].un) ∧ (lnCells ls)[i * 3 + 2]? = some (.int .i64 ls[i].vr) := by
  induction ls generalizing i with
  | nil => simp at hi
  | cons x r ih =>
    cases i with
    | zero => simp [lnCells]
    | succ i =>
      have := ih (i := i) (by simpa using hi)
      simp only [lnCells, show (i + 1) * 3 = i * 3 + 3 by omega, show i * 3 + 3 + 1 = i * 3 + 1 + 3 by omega, show i * 3 + 3 + 2 = i * 3 + 2 + 3 by omega, List.getElem?_cons_succ, List.getElem_cons_succ]
      exact this
def OLn (w : World) (base : Nat) (v : Value) (ls : List Ln) : Prop := w.ownsRow base 33 3 v ls.length (lnCells ls)
theorem OLn.nil (w : World) (base : Nat) : OLn w base (.slice none 0 0) [] := World.ownsRow_nil _ _ _ _
theorem OLn.slice {w : World} {base : Nat} {v : Value} {l : List Ln} (h : OLn w base v l) : ∃ A c, v = .slice A l.length c ∧ l.length ≤ c := by
  rcases h.2 with ⟨rfl, h0⟩ | ⟨g, cap, cur, rfl, _, _, hc, _⟩
  · exact ⟨none, 0, by rw [h0], by omega⟩
  · exact ⟨_, cap, rfl, hc⟩
theorem OLn.bel {w w' : World} {base : Nat} {v : Value} {l : List Ln} (h : OLn w base v l) (hb : Below w.heap.size w w') : OLn w' base v l :=
  World.ownsRow.kept h (grown_bel hb (Nat.le_refl _) none) (by cases v.ownBlock <;> simp)
/-- the slice v reads as the loans ls -/
def LnS (w : World) (B : Nat) (v : Value) (ls : List Ln) : Prop :=
  ∃ A c, v = .slice A ls.length c ∧ ls.length ≤ c ∧ ls.length ≤ 100000 ∧ (0 < ls.length → ∃ b off, A = some ⟨b, off, none⟩ ∧ b < B ∧ ∀ i (h : i < ls.length),
    w.cell? ⟨b, off + i * 3, none⟩ = some (.int .i64 (ls[i].pt : Nat)) ∧ w.cell? ⟨b, off + i * 3 + 1, none⟩ = some (.bool ls[i].un) ∧ w.cell? ⟨b, off + i * 3 + 2, none⟩ = some (.int .i64 ls[i].vr))
theorem LnS.low {w w' : World} {B B' : Nat} {v : Value} {l : List Ln} (h : LnS w B v l) (hb : Below B' w w') (hB : B ≤ B') : LnS w' B v l := by
  obtain ⟨A, c, e, h1, h2, h3⟩ := h
  refine ⟨A, c, e, h1, h2, fun hn => ?_⟩
  obtain ⟨b, off, e, hbb, hc⟩ := h3 hn
  have k : ∀ o, w'.cell? ⟨b, o, none⟩ = w.cell? ⟨b, o, none⟩ := fun o => hb.cell (p := ⟨b, o, none⟩) (by show b < B'; omega)
  exact ⟨b, off, e, hbb, fun i hi => by simp only [k]; exact hc i hi⟩
theorem LnS.bel {w w' : World} {v : Value} {l : List Ln} (h : LnS w w.heap.size v l) (hb : Below w.heap.size w w') : LnS w' w'.heap.size v l := by
  obtain ⟨A, c, e, h1, h2, h3⟩ := h.low hb (Nat.le_refl _)
  refine ⟨A, c, e, h1, h2, fun hn => ?_⟩
  obtain ⟨b, off, e, hbb, hc⟩ := h3 hn
  exact ⟨b, off, e, Nat.lt_of_lt_of_le hbb hb.size, hc⟩
theorem LnS.slice {w : World} {B : Nat} {v : Value} {l : List Ln} (h : LnS w B v l) : ∃ A c, v = .slice A l.length c ∧ l.length ≤ c := by
  obtain ⟨A, c, e, h1, _⟩ := h
  exact ⟨A, c, e, h1⟩
theorem LnS.get {w : World} {B n c : Nat} {A : Option Addr} {l : List Ln} (h : LnS w B (.slice A n c) l) {i : Nat} (hi : i < l.length) : ∃ b off, A = some ⟨b, off, none⟩ ∧ b < B ∧
    w.cell? ⟨b, off + i * 3, none⟩ = some (.int .i64 (l[i].pt : Nat)) ∧ w.cell? ⟨b, off + i * 3 + 1, none⟩ = some (.bool l[i].un) ∧ w.cell? ⟨b, off + i * 3 + 2, none⟩ = some (.int .i64 l[i].vr) := by
  obtain ⟨A', c', e, h1, h2, h3⟩ := h
  injection e with e1 _ _
  subst e1
  obtain ⟨b, off, e, hb, hc⟩ := h3 (by omega)
  exact ⟨b, off, e, hb, hc i hi⟩
theorem OLn.toS {w : World} {base : Nat} {v : Value} {l : List Ln} (h : OLn w base v l) (hl : l.length ≤ 100000) : LnS w w.heap.size v l := by
  obtain ⟨A, c, rfl, hc⟩ := h.slice
  refine ⟨A, c, rfl, hc, hl, fun hn => ?_⟩
  obtain ⟨g, cap, e, hb, hlt⟩ := World.ownsRow.form h hn
  injection e with e1 _ e2
  subst e1 e2
  refine ⟨g, 0, rfl, hlt, fun i hi => ?_⟩
  obtain ⟨a0, a1, a2⟩ := lnCells_at hi
  simp only [Nat.zero_add]
  exact ⟨(World.ownsRow.cellAt h _ (by omega)).trans a0, (World.ownsRow.cellAt h _ (by omega)).trans a1, (World.ownsRow.cellAt h _ (by omega)).trans a2⟩
theorem Try.infoLn : (Try.prog.info? 33).map (fun i => (i.zero, i.size, i.bytes)) = some (some (.agg #[.int .i64 0, .bool false, .int .i64 0]), 3, 24) := by kernel_rfl
/-- append(out, Loan{..}) -/
theorem wpList_push_ln {ops : Array Oper} {rest : List Oper} {o : Oper} {a : Act} {Q : Exit → Act → World → Prop} {w : World} {base : Nat} {vo : Value} {ls : List Ln} (hgd : o.guard = none) (s x : Operand)
    (ho : o.op = .call { callee := .builtin .append, args := #[s, x], argTypes := #[30, 30] })
    (hP : OLn w base vo ls) (hb : base ≤ w.heap.size) (hn : ls.length + 1 ≤ 100000) (p : Nat) (u : Bool) (y : Int) (hs : a.eval s = vo) (hx : a.eval x = .slice (some ⟨w.heap.size, 0, none⟩) 1 1)
    (h : ∀ v' w', OLn w' base v' (ls ++ [⟨p, u, y⟩]) → Below base w w' → wpList Try.prog ops Q rest (a.put o.dst v') w') :
    wpList Try.prog ops Q (o :: rest) a (w.alloc (.cells #[.int .i64 (p : Nat), .bool u, .int .i64 y] 33)) := by
  obtain ⟨i0, hi0, hz0, hz1, hz2⟩ := info_parts Try.infoLn
  have hown := World.ownsRow.alloc hP (.cells #[.int .i64 (p : Nat), .bool u, .int .i64 y] 33)
  refine wpList_append_own_at _ hgd s x 30 ho base 33 i0 _ 3 24 Try.underlying30 hi0 hz0 hz1 hz2 rfl (by omega) vo ls.length _ hs hown ⟨w.heap.size, 0, none⟩ 1 1 [.int .i64 (p : Nat), .bool u, .int .i64 y] hx rfl ?_ ?_ (by simp only [maxLen]; omega) (by omega) (by simp; omega) ?_
  · intro j u' hu
    have : (w.alloc (.cells #[.int .i64 (p : Nat), .bool u, .int .i64 y] 33)).cell? ⟨w.heap.size, j, none⟩ = some u' := by
      rw [cell_of_row _ _ _ _ _ _ (heap_alloc_new w _)]
      simpa using hu
    unfold Addr.add
    by_cases hj : j = 0
    · subst hj; simpa using this
    · simpa [hj] using this
  · intro u' hu
    simp at hu
    rcases hu with rfl | rfl | rfl <;> rfl
  · intro v' w' k1 k2 k3 k4
    refine h v' w' ?_ ((((bel_a w _).mono hb)).trans ((Evo.grown (T := 33) hown k2).below (by simp; omega)))
    unfold OLn
    rw [lnCells_append]
    simpa [lnCells] using k1

/-- the loans among the first k points -/
def lnL (pts : List Pt) (k : Nat) : List Ln := ((List.range k).filter fun i => loanB (ptD pts i).op).map fun i => ⟨i, (ptD pts i).op == 5, (ptD pts i).y⟩
theorem lnL_yes {pts : List Pt} {k : Nat} (h : loanB (ptD pts k).op = true) : lnL pts (k + 1) = lnL pts k ++ [⟨k, (ptD pts k).op == 5, (ptD pts k).y⟩] := by simp [lnL, List.range_succ, List.filter_append, h]
theorem lnL_no {pts : List Pt} {k : Nat} (h : loanB (ptD pts k).op = false) : lnL pts (k + 1) = lnL pts k := by simp [lnL, List.range_succ, List.filter_append, h]
theorem lnL_len (pts : List Pt) (k : Nat) : (lnL pts k).length ≤ k := by
  have := List.length_filter_le (fun i => loanB (ptD pts i).op) (List.range k)
  simpa [lnL] using this
theorem lnL_mem {pts : List Pt} {k : Nat} {x : Ln} (hm : x ∈ lnL pts k) : x.pt < k ∧ loanB (ptD pts x.pt).op = true ∧ x.un = ((ptD pts x.pt).op == 5) ∧ x.vr = (ptD pts x.pt).y := by
  simp only [lnL, List.mem_map, List.mem_filter, List.mem_range] at hm
  obtain ⟨j, ⟨h1, h2⟩, rfl⟩ := hm
  exact ⟨h1, h2, rfl, rfl⟩
theorem lnL_get {pts : List Pt} {k i : Nat} (h : i < (lnL pts k).length) : (lnL pts k)[i].pt < k ∧ loanB (ptD pts (lnL pts k)[i].pt).op = true ∧ (lnL pts k)[i].un = ((ptD pts (lnL pts k)[i].pt).op == 5) ∧ (lnL pts k)[i].vr = (ptD pts (lnL pts k)[i].pt).y := lnL_mem (List.getElem_mem h)
def LnRet (w : World) (ls : List Ln) (e : Ending) (w' : World) : Prop := ∃ v, e = .returned v ∧ LnS w' w'.heap.size v ls ∧ Below w.heap.size w w'

set_option maxHeartbeats 1000000 in
set_option maxRecDepth 100000 in
theorem iLoansOf_any (vt vb : Value) (ts : List Int) (l : List St) (B : Nat) (w : World) (ht : IntS w B vt ts) (hl : StS w B vb l) (hB : B ≤ w.heap.size) (hsz : szL l ≤ 4194300) :
    Calls Try.prog 16 #[.agg #[vt, vb]] w (LnRet w (lnL (pointsP ts l) (pointsP ts l).length)) := by
  go_enter Try.func16, Try.ntmps16
  go_wp2_with (at_builtin; fail)
  refine (iPointsOf_any vt vb ts l B _ (ht.low (bel_a _ _) hB) (hl.low (bel_a _ _) hB) (by simp; omega) (by omega)).mono ?_
  rintro e w1 ⟨vp, rfl, hps, hb1⟩
  have hb3 := (bel_a w (.cells #[vt, vb] 26)).trans (hb1.mono (by simp))
  have hs3 := hb3.size
  have hpl : (pointsP ts l).length ≤ 98001 := by
    unfold pointsP; split
    · rename_i hv; have := ptsP_le hv; omega
    · simp
  have HPS := Lib.hid hps
  have HB3 := Lib.hid hb3
  obtain ⟨Ap, cp, rfl, hcp, -⟩ := hps.slice
  generalize pointsP ts l = pts at *
  clear hps hb1 hb3 ht hl
  go_wp2_with (at_builtin; fail)
  go_loopw [3, 9] (fun v i wr => ∃ k : Nat, k ≤ pts.length ∧ i = .int .i64 k ∧ OLn wr w1.heap.size v (lnL pts k) ∧ Below w1.heap.size w1 wr) (fun _ i _ => pts.length - (intOf i).toNat)
  case atStart => exact ⟨0, by omega, rfl, OLn.nil _ _, Below.refl _ _⟩
  case round =>
    obtain ⟨k, hk, rfl, hO, hbw⟩ := hrel
    have HO := Lib.hid hO
    have HBW := Lib.hid hbw
    have hsw := hbw.size
    have hll := lnL_len pts k
    obtain ⟨A1, c1, rfl, hc1⟩ := hO.slice
    clear hO
    by_cases hlt : k < pts.length
    · obtain ⟨b, off, c, nv, e, hb, hcc, hl2, hnx, p0, p1, p2, p3, p4⟩ := (HPS.out.low hbw (Nat.le_refl _)).get hlt
      injection e with e1 e9 e2
      subst e1 e2
      clear e9 hbw
      obtain ⟨An, cn, rfl, hcn, hln, -⟩ := hnx
      simp only [List.length_map] at p4 hcn hln
      have HPD : Hid (ptD pts k = pts[k]) := Lib.hid (ptD_get hlt)
      generalize pts[k] = P at *
      have HBA := Lib.hid (HBW.out.alloc hsw (.cells #[.int .i64 P.op, .int .i64 P.x, .int .i64 P.y, .int .i64 P.n, .slice An P.next.length cn] 51))
      have HOA := Lib.hid (HO.out.bel (bel_a wr (.cells #[.int .i64 P.op, .int .i64 P.x, .int .i64 P.y, .int .i64 P.n, .slice An P.next.length cn] 51)))
      have HRA := Lib.hid (heap_alloc_new wr (.cells #[.int .i64 P.op, .int .i64 P.x, .int .i64 P.y, .int .i64 P.n, .slice An P.next.length cn] 51))
      go_wp2_with (at_builtin; fail)
      generalize wr.alloc (.cells #[.int .i64 P.op, .int .i64 P.x, .int .i64 P.y, .int .i64 P.n, .slice An P.next.length cn] 51) = w2 at *
      refine (isLoan_any _ _ _ _ _ _).mono ?_
      rintro e w3 ⟨rfl, hb4⟩
      have HB4 := Lib.hid (HBA.out.trans (hb4.mono HBA.out.size))
      have HO4 := Lib.hid (HOA.out.bel hb4)
      have hr4 := row_below HRA.out hb4
      have x0 : w3.cell? ⟨wr.heap.size, 0, none⟩ = some (.int .i64 P.op) := (cell_of_row _ _ _ _ _ _ hr4).trans rfl
      have x2 : w3.cell? ⟨wr.heap.size, 2, none⟩ = some (.int .i64 P.y) := (cell_of_row _ _ _ _ _ _ hr4).trans rfl
      clear hb4 hr4 p0 p1 p2 p3 p4
      cases hlo : loanB P.op
      · have HNO : Hid (lnL pts (k + 1) = lnL pts k) := Lib.hid (lnL_no (by rw [HPD.out]; exact hlo))
        clear hlo
        go_wp2_with (at_builtin; fail)
        exact ⟨⟨k + 1, by omega, by go_num, by rw [HNO.out]; exact HO4.out, HB4.out⟩, by simp [intOf] <;> omega⟩
      · have HYES : Hid (lnL pts (k + 1) = lnL pts k ++ [⟨k, P.op == 5, P.y⟩]) := Lib.hid (by
          have := lnL_yes (pts := pts) (k := k) (by rw [HPD.out]; exact hlo)
          rwa [HPD.out] at this)
        have hs4 := HB4.out.size
        clear hlo
        go_wp2_with (at_builtin; go_must (refine wpList_push_ln rfl (.tmp 16) (.tmp 24) rfl HO4.out (by omega) (by omega) _ _ _ rfl rfl ?_); intro v' w' hP' hE')
        exact ⟨⟨k + 1, by omega, by go_num, by rw [HYES.out]; exact hP', HB4.out.trans hE'⟩, by simp [intOf] <;> omega⟩
    · have hkl : k = pts.length := by omega
      have HF : Hid (OLn wr w1.heap.size (.slice A1 (lnL pts k).length c1) (lnL pts pts.length)) := Lib.hid (by rw [← hkl]; exact HO.out)
      have hll2 := lnL_len pts pts.length
      clear hkl hbw
      go_wp2_with (at_builtin; fail)
      go_ret
      exact ⟨_, rfl, HF.out.toS (by omega), HB3.out.trans (HBW.out.mono hs3)⟩

end Go.Proofs.Ytmaaaiccmllnlaa
