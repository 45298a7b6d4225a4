import Derived.Test.YtfioaohadanjmaaC22
import Derived.Test.YtfioaohadanjmaaC24
import Derived.Test.YtfioaohadanjmaaC11
import Derived.Test.YtfioaohadanjmaaC13
import Derived.Test.YtfioaohadanjmaaC07
import Derived.Test.YtfioaohadanjmaaC19
import Derived.Laws.OwnMore
set_option linter.unusedVariables false

/- Issues: impl.graph.check. -/
namespace Go.Proofs.Ytfioaohadanjmaa
open Go.RowKit

theorem IntS.cellN {w : World} {B n c : Nat} {A : Option Addr} {ms : List Nat} (h : IntS w B (.slice A n c) (msk ms)) {k : Nat} (hk : k < ms.length) : ∃ b off, A = some ⟨b, off, none⟩ ∧ b < B ∧ w.cell? ⟨b, off + k, none⟩ = some (.int .i64 (ms.getD k 0 : Nat)) := by
  obtain ⟨A', c', e, -, -, h3⟩ := h
  injection e with e1 _ _
  subst e1
  obtain ⟨b, off, e, hb, hc⟩ := h3.int_at (k := k) (by rw [msk_len]; exact hk)
  exact ⟨b, off, e, hb, by rw [hc k (by rw [msk_len]; exact hk), msk_get hk]⟩

theorem uns_bits {ts : List Int} {pts : List Pt} (g : Good ts pts) {k : Nat} (hk : k < pts.length) : lst 6 (andn (usedP ts pts[k].op pts[k].x pts[k].y) (fwdM true ts pts 0 k)).testBit = unsL ts pts k := by
  unfold unsL
  have h6 := g.h6
  rw [← lst_more h6 (f := (andn (usedP ts pts[k].op pts[k].x pts[k].y) (fwdM true ts pts 0 k)).testBit) fun i h1 h2 => by
    rw [andn_bit _ _ _ h2]
    unfold usedP
    rw [bm_bit, decide_eq_false (by omega)]; rfl]
  refine lst_congr fun v hv => ?_
  rw [andn_bit _ _ _ (by omega)]
  unfold usedP fwdM unB
  rw [bm_bit, bm_bit, decide_eq_true hv, Bool.true_and, Bool.true_and, ptD_get hk]
  cases dec (Ac true ts pts 0 k v) <;> simp
theorem isU_snoc (k : Nat) (L : List Int) (x : Int) : isU k (L ++ [x]) = isU k L ++ [⟨k, 1, x⟩] := by simp [isU]
theorem isC_snoc (pts : List Pt) (k : Nat) (L : List Int) (x : Int) : isC pts k (L ++ [x]) = isC pts k L ++ [⟨k, kindP pts x, x⟩] := by simp [isC]
/-- what check answers -/
def CkRet (w : World) (L : List Iss) (e : Ending) (w' : World) : Prop := ∃ v, e = .returned v ∧ OIs w' w.heap.size v L ∧ Below w.heap.size w w'

end Go.Proofs.Ytfioaohadanjmaa

/- Issues: impl.graph.liveAfter, issues, CheckProgram; impl.CheckPlain. -/
namespace Go.Proofs.Ytfioaohadanjmaa
open Go.RowKit

noncomputable def liveL (ts : List Int) (pts : List Pt) (n : Nat) : List Nat := (List.range n).map fun k => orL (ndL ts pts) (ptD pts k).next
theorem liveL_succ (ts : List Int) (pts : List Pt) (n : Nat) : liveL ts pts (n + 1) = liveL ts pts n ++ [orL (ndL ts pts) (ptD pts n).next] := by simp [liveL, List.range_succ]
theorem msk_snoc (l : List Nat) (m : Nat) : msk (l ++ [m]) = msk l ++ [((m : Nat) : Int)] := by simp [msk]
theorem nd_small {ts : List Int} {pts : List Pt} (h6 : ts.length ≤ 6) : ∀ m ∈ ndL ts pts, m < 64 := by
  intro m hm
  simp only [ndL, List.mem_map] at hm
  obtain ⟨i, _, rfl⟩ := hm
  exact bm_lt64 h6 _
theorem liveL_LV {ts : List Int} {pts : List Pt} (g : Good ts pts) {k : Nat} (hk : k < pts.length) {v : Nat} (hv : v < ts.length) : ((liveL ts pts pts.length).getD k 0).testBit v = true ↔ LvN ts pts k v := by
  have e0 : (liveL ts pts pts.length).getD k 0 = orL (ndL ts pts) pts[k].next := by
    rw [getD_lt (by simpa [liveL] using hk)]
    simp [liveL, ptD_get hk]
  rw [e0, orL_bit, List.any_eq_true]
  have e : ∀ j ∈ pts[k].next, ((ndL ts pts).getD j 0).testBit v = dec (Nd ts pts j v) := fun j hj => by
    rw [ndL_get (g.next _ (List.getElem_mem hk) j hj), ndM, bm_bit]; simp [hv]
  constructor
  · rintro ⟨j, hj, h⟩
    exact ⟨pts[k], List.getElem?_eq_getElem hk, j, hj, by rw [e j hj] at h; exact dec_iff.1 h⟩
  · rintro ⟨p, hp, j, hj, h⟩
    rw [List.getElem?_eq_getElem hk] at hp
    injection hp with hp
    subst hp
    exact ⟨j, hj, by rw [e j hj]; exact dec_true h⟩
theorem liveL_small {ts : List Int} {pts : List Pt} (h6 : ts.length ≤ 6) (n : Nat) : ∀ m ∈ liveL ts pts n, m < 64 := by
  intro m hm
  simp only [liveL, List.mem_map] at hm
  obtain ⟨i, _, rfl⟩ := hm
  exact orL_lt (nd_small h6) _
set_option maxHeartbeats 2000000 in
set_option maxRecDepth 100000 in
theorem liveAfter_any (vg : Value) (ts : List Int) (pts : List Pt) (B : Nat) (w : World) (hg : GrS w B vg ts pts) (hB : B ≤ w.heap.size) (gd : Good ts pts) :
    Calls Try.prog 65 #[vg] w (IntsRet w (msk (liveL ts pts pts.length))) := by
  have HG := Lib.hid hg
  have GD := Lib.hid gd
  have h6 := gd.h6
  have hlen := gd.len
  obtain ⟨g, At, ct, vb, Al, cl, rfl, hgB, g0, g1, g2, ht, hp, htl, hpl'⟩ := hg.open_
  clear gd
  have HNX := Lib.hid (fun k hk => GD.out.next pts[k] (List.getElem_mem (h := hk)))
  go_enter Try.func65, Try.ntmps65
  go_wp2_with (at_builtin; fail)
  refine (needed_any _ ts pts B w HG.out hB h6 (by omega) GD.out.next (fun p hp => (GD.out.ok p hp).sets)).mono ?_
  rintro e w1 ⟨vm, rfl, him, hb1⟩
  have HIM := Lib.hid him
  have HB1 := Lib.hid hb1
  have hs1 := hb1.size
  obtain ⟨Am, cm, rfl, hcm, -, -⟩ := him
  have g2' := (hb1.cell (p := ⟨g, 2, none⟩) (by show g < _; omega)).trans g2
  clear hb1
  have HN := Lib.hid (OInts.nil w1 w1.heap.size)
  go_wp2_with (at_builtin; fail)
  go_loopw [4, 13] (fun v i wr => ∃ (k : Nat) (o : List Int), k ≤ pts.length ∧ i = .int .i64 k ∧ o = msk (liveL ts pts k) ∧ OInts wr w1.heap.size v o ∧ Below w1.heap.size w1 wr) (fun _ i _ => pts.length - (intOf i).toNat)
  case atStart => exact ⟨0, [], Nat.zero_le _, rfl, rfl, HN.out, Below.refl _ _⟩
  case round =>
    obtain ⟨k, o, hk, rfl, ho, hP, hb⟩ := hrel
    have hol : o.length = k := by rw [ho]; simp [msk, liveL]
    have HO := Lib.hid ho
    have HOL := Lib.hid hol
    have HP := Lib.hid hP
    have HB := Lib.hid hb
    have hsw := hb.size
    clear ho hol hb
    obtain ⟨A', c', rfl, hc'⟩ := hP.slice
    clear hP
    by_cases hlt : k < pts.length
    · have HAF := Lib.hid (after_any _ _ ts pts (ndL ts pts) w1.heap.size k wr (((HG.out.low HB1.out hB).more (B' := w1.heap.size) (by omega)).low HB.out (Nat.le_refl _)) (HIM.out.low HB.out (Nat.le_refl _)) (nd_small h6) hlt (fun j hj => by simp [ndL]; exact HNX.out k hlt j hj))
      have HSU : Hid (msk (liveL ts pts (k + 1)) = msk (liveL ts pts k) ++ [((orL (ndL ts pts) pts[k].next : Nat) : Int)]) := Lib.hid (by rw [liveL_succ, msk_snoc, ptD_get hlt])
      generalize orL (ndL ts pts) pts[k].next = m at *
      have HLT := Lib.hid hlt
      go_wp2_with (at_builtin; fail)
      refine HAF.out.mono ?_
      rintro e w2 ⟨rfl, rfl⟩
      go_wp2_with (at_builtin; go_must (refine wpList_push_int rfl (.tmp 16) (.tmp 21) rfl HP.out hsw (by have := HOL.out; omega) _ rfl rfl ?_); intro v' w' hP' hE')
      have hlt := HLT.out
      exact ⟨⟨k + 1, _, by omega, by go_num, by rw [HSU.out, HO.out], hP', HB.out.trans ((((Evo.alloc w1.heap.size 3 _ _).trans hE').below hsw))⟩, by simp [intOf] <;> omega⟩
    · have hke : k = pts.length := by omega
      go_wp2_with (at_builtin; fail)
      go_ret
      refine ⟨_, rfl, ?_, HB1.out.trans (HB.out.mono hs1)⟩
      rw [← hke, ← HO.out]
      exact HP.out.toS (by have := HOL.out; omega)
end Go.Proofs.Ytfioaohadanjmaa

/- Issues: impl.CheckProgram, impl.CheckPlain. -/
namespace Go.Proofs.Ytfioaohadanjmaa
open Go.RowKit

end Go.Proofs.Ytfioaohadanjmaa

/- impl.Accepts. -/
namespace Go.Proofs.Ytfioaohadanjmaa
open Go.RowKit

set_option maxHeartbeats 8000000
set_option maxRecDepth 100000
end Go.Proofs.Ytfioaohadanjmaa

/- Plain: every point is reached from point 0. No program in sight. -/
namespace Go.Proofs.Ytfioaohadanjmaa

/-- point k is reached from point 0 -/
inductive Rch (pts : List Pt) : Nat → Prop
  | start : Rch pts 0
  | step {i k : Nat} {p : Pt} (h : Rch pts i) (hp : pts[i]? = some p) (hk : k ∈ p.next) : Rch pts k
def Emb (pts : List Pt) (at_ : Nat) (L : List Pt) : Prop := ∀ j p, L[j]? = some p → pts[at_ + j]? = some p
theorem Emb.head {pts : List Pt} {at_ : Nat} {p : Pt} {L : List Pt} (h : Emb pts at_ (p :: L)) : pts[at_]? = some p := h 0 p rfl
theorem Emb.tail {pts : List Pt} {at_ : Nat} {p : Pt} {L : List Pt} (h : Emb pts at_ (p :: L)) : Emb pts (at_ + 1) L := fun j q hj => by
  have := h (j + 1) q (by simpa using hj)
  rwa [show at_ + 1 + j = at_ + (j + 1) by omega]
theorem Emb.left {pts : List Pt} {at_ : Nat} {A B : List Pt} (h : Emb pts at_ (A ++ B)) : Emb pts at_ A := fun j q hj => h j q (by
  have hlt : j < A.length := (List.getElem?_eq_some_iff.1 hj).1
  rw [List.getElem?_append_left hlt]; exact hj)
theorem Emb.right {pts : List Pt} {at_ : Nat} {A B : List Pt} (h : Emb pts at_ (A ++ B)) : Emb pts (at_ + A.length) B := fun j q hj => by
  have := h (A.length + j) q (by rw [List.getElem?_append_right (by omega)]; simpa using hj)
  rwa [show at_ + A.length + j = at_ + (A.length + j) by omega]
mutual
theorem ptsSt_rch (pts : List Pt) (at_ : Nat) : ∀ s : St, Emb pts at_ (ptsSt at_ s) → Rch pts at_ → (∀ j, j < (ptsSt at_ s).length → Rch pts (at_ + j)) ∧ Rch pts (at_ + (ptsSt at_ s).length)
  | .mk op x y n th el => by
    have h1 := ptsL_rch pts (at_ + 1) th
    have h2 := ptsL_rch pts (at_ + 1 + (ptsL (at_ + 1) th).length + 1) el
    simp only [ptsSt]
    split
    · intro hE hR
      have hT := hE.tail
      obtain ⟨a1, a2⟩ := h1 hT.left (.step hR hE.head (by simp))
      have hJ := hT.right
      obtain ⟨b1, b2⟩ := h2 hJ.tail (.step hR hE.head (by simp))
      have hlen : ((⟨9, 0, 0, 0, [at_ + 1, at_ + 1 + (ptsL (at_ + 1) th).length + 1]⟩ : Pt) :: (ptsL (at_ + 1) th ++ ⟨10, 0, 0, 1, [at_ + 1 + (ptsL (at_ + 1) th).length + 1 + (ptsL (at_ + 1 + (ptsL (at_ + 1) th).length + 1) el).length]⟩ :: ptsL (at_ + 1 + (ptsL (at_ + 1) th).length + 1) el)).length = 1 + (ptsL (at_ + 1) th).length + 1 + (ptsL (at_ + 1 + (ptsL (at_ + 1) th).length + 1) el).length := by simp; omega
      rw [hlen]
      refine ⟨fun j hj => ?_, by rw [show at_ + (1 + (ptsL (at_ + 1) th).length + 1 + (ptsL (at_ + 1 + (ptsL (at_ + 1) th).length + 1) el).length) = at_ + 1 + (ptsL (at_ + 1) th).length + 1 + (ptsL (at_ + 1 + (ptsL (at_ + 1) th).length + 1) el).length by omega]; exact b2⟩
      rcases Nat.lt_or_ge j 1 with h | h
      · have : j = 0 := by omega
        subst this; exact hR
      · rcases Nat.lt_or_ge (j - 1) (ptsL (at_ + 1) th).length with h' | h'
        · have := a1 (j - 1) h'
          rwa [show at_ + 1 + (j - 1) = at_ + j by omega] at this
        · rcases Nat.lt_or_ge (j - 1) ((ptsL (at_ + 1) th).length + 1) with h'' | h''
          · rw [show at_ + j = at_ + 1 + (ptsL (at_ + 1) th).length by omega]; exact a2
          · have := b1 (j - 2 - (ptsL (at_ + 1) th).length) (by omega)
            rwa [show at_ + 1 + (ptsL (at_ + 1) th).length + 1 + (j - 2 - (ptsL (at_ + 1) th).length) = at_ + j by omega] at this
    · split
      · intro hE hR
        have hT := hE.tail
        obtain ⟨a1, a2⟩ := h1 hT.left (.step hR hE.head (by simp))
        have hlen : ((⟨10, 0, 0, 0, [at_ + 1, at_ + 1 + (ptsL (at_ + 1) th).length + 1]⟩ : Pt) :: (ptsL (at_ + 1) th ++ [⟨10, 0, 0, 1, [at_]⟩])).length = 1 + (ptsL (at_ + 1) th).length + 1 := by simp; omega
        rw [hlen]
        refine ⟨fun j hj => ?_, by rw [show at_ + (1 + (ptsL (at_ + 1) th).length + 1) = at_ + 1 + (ptsL (at_ + 1) th).length + 1 by omega]; exact .step hR hE.head (by simp)⟩
        rcases Nat.lt_or_ge j 1 with h | h
        · have : j = 0 := by omega
          subst this; exact hR
        · rcases Nat.lt_or_ge (j - 1) (ptsL (at_ + 1) th).length with h' | h'
          · have := a1 (j - 1) h'
            rwa [show at_ + 1 + (j - 1) = at_ + j by omega] at this
          · rw [show at_ + j = at_ + 1 + (ptsL (at_ + 1) th).length by omega]; exact a2
      · intro hE hR
        refine ⟨fun j hj => ?_, .step hR hE.head (by simp)⟩
        have : j = 0 := by simpa using hj
        subst this; exact hR
theorem ptsL_rch (pts : List Pt) (at_ : Nat) : ∀ l : List St, Emb pts at_ (ptsL at_ l) → Rch pts at_ → (∀ j, j < (ptsL at_ l).length → Rch pts (at_ + j)) ∧ Rch pts (at_ + (ptsL at_ l).length)
  | [] => by
    intro _ hR
    exact ⟨fun j hj => by simp [ptsL] at hj, by simpa [ptsL] using hR⟩
  | s :: r => by
    have h1 := ptsSt_rch pts at_ s
    have h2 := ptsL_rch pts (at_ + (ptsSt at_ s).length) r
    simp only [ptsL]
    intro hE hR
    obtain ⟨a1, a2⟩ := h1 hE.left hR
    obtain ⟨b1, b2⟩ := h2 hE.right a2
    rw [List.length_append]
    refine ⟨fun j hj => ?_, by rw [← Nat.add_assoc]; exact b2⟩
    rcases Nat.lt_or_ge j (ptsSt at_ s).length with h | h
    · exact a1 j h
    · have := b1 (j - (ptsSt at_ s).length) (by omega)
      rwa [show at_ + (ptsSt at_ s).length + (j - (ptsSt at_ s).length) = at_ + j by omega] at this
end
theorem ptsP_rch (l : List St) {k : Nat} (hk : k < (ptsP l).length) : Rch (ptsP l) k := by
  have hE : Emb (ptsP l) 0 (ptsL 0 l) := fun j p hj => by
    have hlt : j < (ptsL 0 l).length := (List.getElem?_eq_some_iff.1 hj).1
    unfold ptsP
    rw [Nat.zero_add, List.getElem?_append_left hlt]; exact hj
  obtain ⟨a1, a2⟩ := ptsL_rch (ptsP l) 0 l hE .start
  rw [ptsP_len] at hk
  rcases Nat.lt_or_ge k (ptsL 0 l).length with h | h
  · have := a1 k h; rwa [Nat.zero_add] at this
  · have : k = (ptsL 0 l).length := by omega
    rw [this]; rwa [Nat.zero_add] at a2
end Go.Proofs.Ytfioaohadanjmaa

/- Rows of bools that a call owns; spec.l3After. -/
namespace Go.Proofs.Ytfioaohadanjmaa
open Go.RowKit

def OBools (w : World) (base : Nat) (v : Value) (l : List Bool) : Prop := w.ownsRow base 4 1 v l.length (bv l)
theorem OBools.empty (w : World) (base : Nat) (hb : base ≤ w.heap.size) : OBools (w.alloc (.cells #[] 4)) base (.slice (some ⟨w.heap.size, 0, none⟩) 0 0) [] :=
  World.ownsRow_lit (base := base) (e := 4) (size := 1) w #[] 0 hb (by simp [maxLen]) rfl
theorem OBools.slice {w : World} {base : Nat} {v : Value} {l : List Bool} (h : OBools w base v l) : ∃ A c, v = .slice A l.length c ∧ l.length ≤ c := by
  rcases h.2 with ⟨rfl, h0⟩ | ⟨g, cap, cur, rfl, _, _, hc, _⟩
  · exact ⟨none, 0, by rw [h0], by omega⟩
  · exact ⟨_, cap, rfl, hc⟩
theorem OBools.bel {w w' : World} {base : Nat} {v : Value} {l : List Bool} (h : OBools w base v l) (hb : Below w.heap.size w w') : OBools w' base v l :=
  h.kept (grown_bel hb (Nat.le_refl _) none) (by cases v.ownBlock <;> simp)
theorem OBools.base {w : World} {base base' : Nat} {v : Value} {l : List Bool} (h : OBools w base v l) (hb : base' ≤ base) : OBools w base' v l := by
  refine ⟨h.1, ?_⟩
  rcases h.2 with h' | ⟨g, cap, cur, rfl, hbg, rest⟩
  · exact .inl h'
  · exact .inr ⟨g, cap, cur, rfl, by omega, rest⟩
theorem OBools.at_ {w : World} {base : Nat} {A : Option Addr} {n c : Nat} {l : List Bool} (h : OBools w base (.slice A n c) l) {k : Nat} (hk : k < l.length) :
    ∃ g, A = some ⟨g, 0, none⟩ ∧ base ≤ g ∧ g < w.heap.size ∧ n = l.length ∧ w.cell? ⟨g, k, none⟩ = some (.bool (l.getD k false)) ∧ w.frozen? ⟨g, k, none⟩ = false := by
  obtain ⟨A', c', e, _⟩ := h.slice
  injection e with _ e2 _
  subst e2
  obtain ⟨g, cap, e, hb, hlt⟩ := h.form (by omega)
  injection e with e1 _ e3
  subst e1 e3
  exact ⟨g, rfl, hb, hlt, rfl, by rw [h.cellAt k (by omega), bv_get hk], h.frozenAt k⟩
theorem OBools.toS {w : World} {base : Nat} {v : Value} {l : List Bool} (h : OBools w base v l) (hl : l.length ≤ 4194304) : BoolS w w.heap.size v l := by
  obtain ⟨A, c, rfl, hc⟩ := h.slice
  refine ⟨A, c, rfl, hc, hl, by simp, fun hn => ?_⟩
  obtain ⟨g, cap, e, hb, hlt⟩ := h.form hn
  injection e with e1 _ e2
  subst e1 e2
  refine ⟨g, 0, rfl, hlt, fun j u hu => ?_⟩
  rw [Nat.zero_add, h.cellAt j (by have := (List.getElem?_eq_some_iff.1 hu).1; simp at this; omega)]
  exact hu
theorem OBools.set {w : World} {base g n c : Nat} {l : List Bool} (h : OBools w base (.slice (some ⟨g, 0, none⟩) n c) l) (k : Nat) (b : Bool) : OBools (w.setCell ⟨g, k, none⟩ (.bool b)) base (.slice (some ⟨g, 0, none⟩) n c) (l.set k b) := by
  have hn : n = l.length := by
    obtain ⟨A, c', e, _⟩ := h.slice
    injection e
  subst hn
  have := (World.ownsRow.stored h k (.bool b)).1
  unfold OBools
  rw [List.length_set, ← bv_set]
  exact this
theorem run_appb_nil (w : World) (base : Nat) (ty : TypeId) (v : Value) (l : List Bool) (hP : OBools w base v l) (c : Nat) : (Builtin.append_ #[59, 59] ty #[v, .slice none 0 c]).run Try.prog w = .ok v w := by
  obtain ⟨i0, hi0, hz0, hz1, hz2⟩ := info_parts Try.infoBool
  rcases hP.2 with ⟨rfl, h0⟩ | ⟨g, cap, cur, rfl, _, _, hnc, _⟩
  · simp [Builtin.append_, run_underlying Try.underlying59, sizeOf, typeInfo, hi0, Builtin.lenOf, Builtin.firstCells]
  · simp [Builtin.append_, run_underlying Try.underlying59, sizeOf, typeInfo, hi0, Builtin.lenOf, Builtin.firstCells, hnc, storeCells]
theorem run_app_bools (w : World) (base : Nat) (ty : TypeId) (v : Value) (l : List Bool) (hP : OBools w base v l) (B : Nat) (vs : Value) (ts : List Bool) (hr : BoolS w B vs ts) (hb : base ≤ w.heap.size) (hn : l.length + ts.length ≤ 8388608) :
    ∃ v' w', (Builtin.append_ #[59, 59] ty #[v, vs]).run Try.prog w = .ok v' w' ∧ OBools w' base v' (l ++ ts) ∧ w.grownBy w' v.ownBlock ∧ (v'.ownBlock = v.ownBlock ∨ v'.ownBlock = some w.heap.size) := by
  obtain ⟨A, c, rfl, hc, hm, hrd⟩ := hr
  rcases Nat.eq_zero_or_pos ts.length with h0 | h0
  · have hts : ts = [] := List.length_eq_zero_iff.1 h0
    subst hts
    rcases A with _ | ad
    · exact ⟨v, w, run_appb_nil w base ty v l hP c, by simpa using hP, World.grownBy.refl w _, .inl rfl⟩
    · obtain ⟨i0, hi0, hz0, hz1, hz2⟩ := info_parts Try.infoBool
      obtain ⟨v', w', hrun, h2, h3, _, h5⟩ := run_append_own_at (P := Try.prog) w base 59 ty 4 i0 _ 1 1 Try.underlying59 hi0 hz0 hz1 hz2 rfl (by omega) v l.length _ hP ad 0 c [] rfl (fun j u h => by simp at h) (fun u h => by simp at h) (by simp only [maxLen]; omega) (by omega) hb
      exact ⟨v', w', hrun, by simpa [OBools] using h2, h3, h5⟩
  · obtain ⟨b, off, rfl, hbl, hcell⟩ := hrd.2 h0
    obtain ⟨i0, hi0, hz0, hz1, hz2⟩ := info_parts Try.infoBool
    obtain ⟨v', w', hrun, h2, h3, _, h5⟩ := run_append_own_at (P := Try.prog) w base 59 ty 4 i0 _ 1 1 Try.underlying59 hi0 hz0 hz1 hz2 rfl (by omega) v l.length _ hP ⟨b, off, none⟩ ts.length c (ts.map .bool) (by simp)
      (fun j u h => by
        rcases Nat.eq_zero_or_pos j with hj | hj
        · subst hj; simpa [Addr.add] using hcell 0 u h
        · have := hcell j u h
          have hj0 : j ≠ 0 := by omega
          simpa [Addr.add, hj0] using this)
      (fun u h => by obtain ⟨x, _, rfl⟩ := List.mem_map.1 h; rfl) (by simp only [maxLen]; omega) (by omega) hb
    exact ⟨v', w', hrun, by simpa [OBools, bv] using h2, h3, h5⟩
theorem wpList_app_bools {ops : Array Oper} {rest : List Oper} {o : Oper} {a : Act} {Q : Exit → Act → World → Prop} {w : World} (hgd : o.guard = none) (s x : Operand)
    (ho : o.op = .call { callee := .builtin .append, args := #[s, x], argTypes := #[59, 59] })
    (base : Nat) (v : Value) (l : List Bool) (hs : a.eval s = v) (hP : OBools w base v l) (B : Nat) (vs : Value) (ts : List Bool) (hx : a.eval x = vs) (hr : BoolS w B vs ts) (hb : base ≤ w.heap.size) (hn : l.length + ts.length ≤ 8388608)
    (h : ∀ v' w', OBools w' base v' (l ++ ts) → w.grownBy w' v.ownBlock → (v'.ownBlock = v.ownBlock ∨ v'.ownBlock = some w.heap.size) → wpList Try.prog ops Q rest (a.put o.dst v') w') : wpList Try.prog ops Q (o :: rest) a w := by
  refine wpList_plain hgd fun K hK => ?_
  obtain ⟨v', w', hrun, h2, h3, h4⟩ := run_app_bools w base o.type v l hP B vs ts hr hb hn
  unfold Oper.wp execOp
  simp only [ho, resolve, invoke, builtin, Sem.run_bind, Sem.run_pure, Result.andThen_ok, List.map_toArray, List.map_cons, List.map_nil, hs, hx, hrun]
  exact hK _ _ (h v' w' h2 h3 h4)

/-- what v's place reads behind a point, b being what it read before -/
def vlB (ts : List Int) (p : Pt) (b : Bool) (v : Nat) : Bool := (b && !(useP ts p.op p.x p.y (v : Nat) == 2)) || decide (setsP p.op p.x = (v : Nat))
def AftRet (w : World) (ts : List Int) (p : Pt) (bf : List Bool) (e : Ending) (w' : World) : Prop :=
  ∃ v r, e = .returned v ∧ OBools w' w.heap.size v r ∧ r.length = bf.length ∧ (∀ u, u < bf.length → r.getD u false = vlB ts p (bf.getD u false) u) ∧ Below w.heap.size w w'

set_option maxHeartbeats 4000000
set_option maxRecDepth 100000
theorem l3After_any (vt vf nv : Value) (ts : List Int) (bf : List Bool) (p : Pt) (B B' : Nat) (w : World) (ht : IntS w B vt ts) (hf : BoolS w B' vf bf) (hB : B ≤ w.heap.size) (hB' : B' ≤ w.heap.size) (hlen : bf.length = ts.length) (h6 : ts.length ≤ 1000) (hs : setsP p.op p.x < ts.length) :
    Calls Try.prog 42 #[vt, .agg #[.int .i64 p.op, .int .i64 p.x, .int .i64 p.y, .int .i64 p.n, nv], vf] w (AftRet w ts p bf) := by
  have HT := Lib.hid ht
  have HF := Lib.hid hf
  have HLEN := Lib.hid hlen
  have hlen1 : bf.length ≤ ts.length := by omega
  have hlen2 : ts.length ≤ bf.length := by omega
  clear hlen
  obtain ⟨Af, cf, rfl, hcf, -, -⟩ := hf
  clear ht
  have HA := Lib.hid (bel_a w (.cells #[.int .i64 p.op, .int .i64 p.x, .int .i64 p.y, .int .i64 p.n, nv] 62))
  have HR := Lib.hid (heap_alloc_new w (.cells #[.int .i64 p.op, .int .i64 p.x, .int .i64 p.y, .int .i64 p.n, nv] 62))
  have hsA : (w.alloc (.cells #[.int .i64 p.op, .int .i64 p.x, .int .i64 p.y, .int .i64 p.n, nv] 62)).heap.size = w.heap.size + 1 := by simp
  have HE := Lib.hid (OBools.empty (w.alloc (.cells #[.int .i64 p.op, .int .i64 p.x, .int .i64 p.y, .int .i64 p.n, nv] 62)) (w.heap.size + 1) (by omega))
  have HB := Lib.hid (bel_a (w.alloc (.cells #[.int .i64 p.op, .int .i64 p.x, .int .i64 p.y, .int .i64 p.n, nv] 62)) (.cells #[] 4))
  rw [hsA] at HE
  clear hsA
  go_enter Try.func42, Try.ntmps42
  go_wp2_with (at_builtin; go_must (refine wpList_app_bools rfl (.tmp 10) (.tmp 11) rfl (w.heap.size + 1) _ [] rfl HE.out B' _ bf rfl ((HF.out.low HA.out hB').low HB.out (by simp <;> omega)) (by simp <;> omega) (by simp <;> omega) ?_); intro v' w1 hP' hG' hO')
  have hs2 : ((w.alloc (.cells #[.int .i64 p.op, .int .i64 p.x, .int .i64 p.y, .int .i64 p.n, nv] 62)).alloc (.cells #[] 4)).heap.size = w.heap.size + 2 := by simp
  have HBW := Lib.hid (grown_new (HA.out.trans (HB.out.mono HA.out.size)) (g := w.heap.size + 1) (by omega) hG')
  have hrow : w1.heap[w.heap.size]? = some (.cells #[.int .i64 p.op, .int .i64 p.x, .int .i64 p.y, .int .i64 p.n, nv] 62 (0, 0)) :=
    (hG'.block w.heap.size (by omega) (fun e => by have e' : w.heap.size = w.heap.size + 1 := Option.some.inj e; omega)).trans (row_below HR.out HB.out)
  have HROW := Lib.hid hrow
  have HO := Lib.hid hP'
  obtain ⟨A', c', rfl, hc'⟩ := hP'.slice
  simp only [List.nil_append] at hc' HO ⊢
  clear hG' hO' hP' hrow hs2
  go_loopw [8] (fun i wr => ∃ (k : Nat) (r : List Bool), k ≤ bf.length ∧ i = .int .i64 k ∧ OBools wr (w.heap.size + 1) (.slice A' bf.length c') r ∧ r.length = bf.length ∧ (∀ u, u < bf.length → r.getD u false = if u < k then (bf.getD u false && !(useP ts p.op p.x p.y (u : Nat) == 2)) else bf.getD u false) ∧ Below w.heap.size w wr ∧ wr.heap[w.heap.size]? = some (.cells #[.int .i64 p.op, .int .i64 p.x, .int .i64 p.y, .int .i64 p.n, nv] 62 (0, 0))) (fun i _ => bf.length - (intOf i).toNat)
  case atStart => exact ⟨0, bf, by omega, rfl, HO.out, rfl, fun u _ => by simp, HBW.out, HROW.out⟩
  case round =>
    obtain ⟨k, r, hk, rfl, hO, hrl, hr, hbw, hrow⟩ := hrel
    have HOR := Lib.hid hO
    have HRL := Lib.hid hrl
    have HRR := Lib.hid hr
    have HBR := Lib.hid hbw
    have HRW := Lib.hid hrow
    have d0 : wr.cell? ⟨w.heap.size, 0, none⟩ = some (.int .i64 p.op) := by rw [cell_of_row _ _ _ _ _ _ hrow]; rfl
    have d1 : wr.cell? ⟨w.heap.size, 1, none⟩ = some (.int .i64 p.x) := by rw [cell_of_row _ _ _ _ _ _ hrow]; rfl
    have d2 : wr.cell? ⟨w.heap.size, 2, none⟩ = some (.int .i64 p.y) := by rw [cell_of_row _ _ _ _ _ _ hrow]; rfl
    have d3 : wr.cell? ⟨w.heap.size, 3, none⟩ = some (.int .i64 p.n) := by rw [cell_of_row _ _ _ _ _ _ hrow]; rfl
    have d4 : wr.cell? ⟨w.heap.size, 4, none⟩ = some nv := by rw [cell_of_row _ _ _ _ _ _ hrow]; rfl
    clear hO hrl hr hbw hrow
    by_cases hlt : k < bf.length
    · go_wp2_with (at_builtin; fail)
      refine (l3Use_any _ ts B _ _ _ _ _ _ _ (HT.out.low HBR.out hB) (by have := HBR.out.size; omega) (by omega) (by omega)).mono ?_
      rintro e w2 ⟨rfl, hb2⟩
      have HO2 := Lib.hid (HOR.out.bel hb2)
      have HB2 := Lib.hid (HBR.out.trans (hb2.mono HBR.out.size))
      have HR2 := Lib.hid (row_below HRW.out hb2)
      clear hb2 d0 d1 d2 d3 d4
      cases hu : (useP ts p.op p.x p.y (k : Nat) == 2)
      · have HU := Lib.hid hu
        go_wp2_with (at_builtin; fail)
        refine ⟨⟨k + 1, r, by omega, by go_num, HO2.out, HRL.out, fun u hu => ?_, HB2.out, HR2.out⟩, by simp [intOf] <;> omega⟩
        rw [HRR.out u hu]
        by_cases huk : u = k
        · rw [huk, if_neg (by omega), if_pos (by omega), HU.out]; simp
        · by_cases h1 : u < k
          · rw [if_pos h1, if_pos (by omega)]
          · rw [if_neg h1, if_neg (by omega)]
      · have HU := Lib.hid hu
        obtain ⟨g, rfl, hbg, hgl, -, hcg, hfg⟩ := HO2.out.at_ (k := k) (by rw [HRL.out]; omega)
        go_wp2_with (at_builtin; fail)
        refine ⟨⟨k + 1, r.set k false, by omega, by go_num, HO2.out.set k false, by rw [List.length_set]; exact HRL.out, fun u hu => ?_, HB2.out.setCell (p := ⟨g, k, none⟩) (by show w.heap.size ≤ g; omega) _, ?_⟩, by simp [intOf] <;> omega⟩
        · rw [getD_setB (by rw [HRL.out]; omega)]
          by_cases huk : u = k
          · rw [huk, if_pos rfl, if_pos (by omega), HU.out]; simp
          · rw [if_neg huk, HRR.out u hu]
            by_cases h1 : u < k
            · rw [if_pos h1, if_pos (by omega)]
            · rw [if_neg h1, if_neg (by omega)]
        · exact (heap_setCell_other w2 ⟨g, k, none⟩ w.heap.size _ (by show w.heap.size ≠ g; omega)).trans HR2.out
    · have hke : k = bf.length := by omega
      go_wp2_with (at_builtin; fail)
      refine (l3Set_any _ _ _ _ _ _).mono ?_
      rintro e w2 ⟨rfl, hb2⟩
      have HO2 := Lib.hid (HOR.out.bel hb2)
      have HB2 := Lib.hid (HBR.out.trans (hb2.mono HBR.out.size))
      have HFIN : Hid (∀ u, u < bf.length → r.getD u false = (bf.getD u false && !(useP ts p.op p.x p.y (u : Nat) == 2))) := Lib.hid fun u hu => by rw [HRR.out u hu, if_pos (by omega)]
      clear hb2 d0 d1 d2 d3 d4 hke
      by_cases h0 : 0 ≤ setsP p.op p.x
      · obtain ⟨j, hj⟩ := Int.eq_ofNat_of_zero_le h0
        have hjl : j < bf.length := by omega
        have HJ := Lib.hid hj
        rw [hj] at h0 hs ⊢
        obtain ⟨g, rfl, hbg, hgl, -, hcg, hfg⟩ := HO2.out.at_ (k := j) (by rw [HRL.out]; omega)
        clear hj
        go_wp2_with (at_builtin; fail)
        go_ret
        refine ⟨_, r.set j true, rfl, OBools.base (base' := w.heap.size) (HO2.out.set j true) (by omega), by rw [List.length_set]; exact HRL.out, fun u hu => ?_, HB2.out.setCell (p := ⟨g, j, none⟩) (by show w.heap.size ≤ g; omega) _⟩
        rw [getD_setB (by rw [HRL.out]; omega)]
        unfold vlB
        by_cases huj : u = j
        · rw [huj, if_pos rfl, HJ.out]; simp
        · rw [if_neg huj, HFIN.out u hu, HJ.out, decide_eq_false (by omega), Bool.or_false]
      · go_wp2_with (at_builtin; fail)
        go_ret
        refine ⟨_, r, rfl, OBools.base (base' := w.heap.size) HO2.out (by omega), HRL.out, fun u hu => ?_, HB2.out⟩
        unfold vlB
        rw [HFIN.out u hu, decide_eq_false (by omega), Bool.or_false]

end Go.Proofs.Ytfioaohadanjmaa

/- spec.l3Join, spec.l3Equal. -/
namespace Go.Proofs.Ytfioaohadanjmaa
open Go.RowKit

def jnB (al o a : Bool) : Bool := if al then o && a else o || a
def joinP (al : Bool) (old aft : List Bool) : List Bool := (List.range aft.length).map fun v => if v < old.length then jnB al (old.getD v false) (aft.getD v false) else aft.getD v false
theorem join_len (al : Bool) (old aft : List Bool) : (joinP al old aft).length = aft.length := by simp [joinP]
theorem join_get (al : Bool) (old aft : List Bool) {v : Nat} (hv : v < aft.length) : (joinP al old aft).getD v false = if v < old.length then jnB al (old.getD v false) (aft.getD v false) else aft.getD v false := by
  rw [getD_lt (by rw [join_len]; exact hv)]; simp [joinP]
def JnRet (w : World) (al : Bool) (old aft : List Bool) (e : Ending) (w' : World) : Prop :=
  ∃ v, e = .returned v ∧ OBools w' w.heap.size v (joinP al old aft) ∧ Below w.heap.size w w'
theorem jn_same {al : Bool} {old aft r : List Bool} (hl : r.length = aft.length) (h : ∀ u, u < aft.length → r.getD u false = if u < old.length then jnB al (old.getD u false) (aft.getD u false) else aft.getD u false) : r = joinP al old aft := by
  refine List.ext_getElem (by rw [join_len, hl]) fun i h1 h2 => ?_
  have e1 := h i (by omega)
  rw [← join_get al old aft (by omega), getD_lt h1, getD_lt h2] at e1
  exact e1

set_option maxHeartbeats 4000000
set_option maxRecDepth 100000
theorem l3Join_any (vo va : Value) (al : Bool) (old aft : List Bool) (B : Nat) (w : World) (ho : BoolS w B vo old) (ha : BoolS w B va aft) (hB : B ≤ w.heap.size) (hlen : old.length ≤ aft.length) (h6 : aft.length ≤ 1000) :
    Calls Try.prog 76 #[vo, va, .bool al] w (JnRet w al old aft) := by
  have HO := Lib.hid ho
  have HF := Lib.hid ha
  obtain ⟨Ao, co, rfl, hco, -, -⟩ := ho
  obtain ⟨Af, cf, rfl, hcf, -, -⟩ := ha
  have HE := Lib.hid (OBools.empty w w.heap.size (Nat.le_refl _))
  have HB := Lib.hid (bel_a w (.cells #[] 4))
  go_enter Try.func76, Try.ntmps76
  go_wp2_with (at_builtin; go_must (refine wpList_app_bools rfl (.tmp 9) (.tmp 10) rfl w.heap.size _ [] rfl HE.out B _ aft rfl (HF.out.low HB.out hB) (by simp <;> omega) (by simp <;> omega) ?_); intro v' w1 hP' hG' hO')
  have HBW := Lib.hid (grown_new HB.out (g := w.heap.size) (by omega) hG')
  have HP := Lib.hid hP'
  obtain ⟨A', c', rfl, hc'⟩ := hP'.slice
  simp only [List.nil_append] at hc' HP ⊢
  clear hG' hO' hP'
  go_loopw [8] (fun i wr => ∃ (k : Nat) (r : List Bool), k ≤ old.length ∧ i = .int .i64 k ∧ OBools wr w.heap.size (.slice A' aft.length c') r ∧ r.length = aft.length ∧ (∀ u, u < aft.length → r.getD u false = if u < k then jnB al (old.getD u false) (aft.getD u false) else aft.getD u false) ∧ Below w.heap.size w wr) (fun i _ => old.length - (intOf i).toNat)
  case atStart => exact ⟨0, aft, by omega, rfl, HP.out, rfl, fun u _ => by simp, HBW.out⟩
  case round =>
    obtain ⟨k, r, hk, rfl, hO, hrl, hr, hbw⟩ := hrel
    have HOR := Lib.hid hO
    have HRL := Lib.hid hrl
    have HRR := Lib.hid hr
    have HBR := Lib.hid hbw
    clear hO hrl hr hbw
    by_cases hlt : k < old.length
    · have hlt2 : k < aft.length := by omega
      obtain ⟨A1, c1, e, -, -, hr1⟩ := HO.out.low HBR.out hB
      injection e with e1 e9 e2
      subst e1 e2
      clear e9
      obtain ⟨b1, off1, rfl, hbB1, hcell1⟩ := hr1.bool_at hlt
      have hck1 := hcell1 k hlt
      obtain ⟨A2, c2, e, -, -, hr2⟩ := HF.out.low HBR.out hB
      injection e with e1 e9 e2
      subst e1 e2
      clear e9
      obtain ⟨b2, off2, rfl, hbB2, hcell2⟩ := hr2.bool_at hlt2
      have hck2 := hcell2 k hlt2
      clear hcell1 hcell2 hr1 hr2
      obtain ⟨g, rfl, hbg, hgl, -, hcg, hfg⟩ := HOR.out.at_ (k := k) (by rw [HRL.out]; omega)
      have HEND : ∀ x, x = jnB al (old.getD k false) (aft.getD k false) → ∀ W, W = wr.setCell ⟨g, k, none⟩ (.bool x) → (∃ (k_1 : Nat) (r : List Bool), k_1 ≤ old.length ∧ Value.int IntKind.i64 ((k : Int) + 1) = .int .i64 k_1 ∧ OBools W w.heap.size (.slice (some ⟨g, 0, none⟩) aft.length c') r ∧ r.length = aft.length ∧ (∀ u, u < aft.length → r.getD u false = if u < k_1 then jnB al (old.getD u false) (aft.getD u false) else aft.getD u false) ∧ Below w.heap.size w W) := by
        intro x hx W hW
        subst hW
        refine ⟨k + 1, r.set k x, by omega, by go_num, HOR.out.set k x, by rw [List.length_set]; exact HRL.out, fun u hu => ?_, HBR.out.setCell (p := ⟨g, k, none⟩) (by show w.heap.size ≤ g; omega) _⟩
        rw [getD_setB (by rw [HRL.out]; omega)]
        by_cases huk : u = k
        · rw [huk, if_pos rfl, if_pos (by omega), hx]
        · rw [if_neg huk, HRR.out u hu]
          by_cases h1 : u < k
          · rw [if_pos h1, if_pos (by omega)]
          · rw [if_neg h1, if_neg (by omega)]
      have HN := Lib.hid HEND
      clear HEND
      generalize old.getD k false = x at *
      generalize aft.getD k false = y at *
      cases al <;> cases x
      · go_wp2_with (at_builtin; fail)
        exact ⟨HN.out _ (by simp [jnB]) _ rfl, by simp [intOf] <;> omega⟩
      · go_wp2_with (at_builtin; fail)
        exact ⟨HN.out _ (by simp [jnB]) _ rfl, by simp [intOf] <;> omega⟩
      · go_wp2_with (at_builtin; fail)
        exact ⟨HN.out _ (by simp [jnB]) _ rfl, by simp [intOf] <;> omega⟩
      · go_wp2_with (at_builtin; fail)
        exact ⟨HN.out _ (by simp [jnB]) _ rfl, by simp [intOf] <;> omega⟩
    · have hke : k = old.length := by omega
      have HKE := Lib.hid hke
      clear hke
      go_wp2_with (at_builtin; fail)
      go_ret
      refine ⟨_, rfl, ?_, HBR.out⟩
      rw [← jn_same HRL.out fun u hu => by rw [HRR.out u hu, HKE.out]]
      rw [OBools, HRL.out]
      have := HOR.out
      rw [OBools, HRL.out] at this
      exact this

theorem l3Equal_any (va vb : Value) (la lb : List Bool) (B : Nat) (w : World) (ha : BoolS w B va la) (hb : BoolS w B vb lb) (hl : la.length = lb.length) :
    Calls Try.prog 77 #[va, vb] w fun e w' => e = .returned (.bool (decide (la = lb))) ∧ ∃ n, w' = w.drewN n := by
  obtain ⟨A, c, rfl, hc, hm, hr⟩ := ha
  obtain ⟨A', c', rfl, hc', hm', hr'⟩ := hb
  have HL := Lib.hid hl
  have HR := Lib.hid hr
  have HR' := Lib.hid hr'
  have hl2 : la.length ≤ lb.length := by omega
  have hl3 : ((la.length : Int) == (lb.length : Int)) = true := by simp [hl]
  clear hl hr hr'
  go_enter Try.func77, Try.ntmps77
  go_wp2_with fail
  go_loopw [5] (fun i wr => ∃ k : Nat, k ≤ la.length ∧ i = .int .i64 k ∧ la.take k = lb.take k ∧ ∃ n, wr = w.drewN n) (fun i _ => la.length - (intOf i).toNat)
  case atStart => exact ⟨0, Nat.zero_le _, rfl, by simp, 0, rfl⟩
  case round =>
    obtain ⟨k, hk, rfl, hn, n0, rfl⟩ := hrel
    have H := Lib.hid hn
    clear hn
    by_cases hlt : k < la.length
    · have hlt2 : k < lb.length := by omega
      obtain ⟨b, off, rfl, hb, hcell⟩ := HR.out.bool_at hlt
      have hck := hcell k hlt
      obtain ⟨b', off', rfl, hb', hcell'⟩ := HR'.out.bool_at hlt2
      have hck' := hcell' k hlt2
      have HG := Lib.hid (getD_lt (d := false) hlt)
      have HG' := Lib.hid (getD_lt (d := false) hlt2)
      clear hcell hcell'
      generalize la.getD k false = x at *
      generalize lb.getD k false = y at *
      cases x
      · cases y
        · go_wp2_with fail
          go_quiet (fail)
          go_wp2_with fail
          refine ⟨⟨k + 1, by omega, by go_num, ?_, _, rfl⟩, by simp [intOf] <;> omega⟩
          rw [take_succ_get la k hlt, take_succ_get lb k hlt2, H.out, ← HG.out, ← HG'.out]
        · go_wp2_with fail
          go_quiet (fail)
          go_wp2_with fail
          go_ret
          refine ⟨ret_bool ?_, drewN_two _ _ _⟩
          rw [eq_comm, decide_eq_false_iff_not]
          rintro rfl
          have := HG.out.trans HG'.out.symm
          cases this
      · cases y
        · go_wp2_with fail
          go_quiet (fail)
          go_wp2_with fail
          go_ret
          refine ⟨ret_bool ?_, drewN_two _ _ _⟩
          rw [eq_comm, decide_eq_false_iff_not]
          rintro rfl
          have := HG.out.trans HG'.out.symm
          cases this
        · go_wp2_with fail
          go_quiet (fail)
          go_wp2_with fail
          refine ⟨⟨k + 1, by omega, by go_num, ?_, _, rfl⟩, by simp [intOf] <;> omega⟩
          rw [take_succ_get la k hlt, take_succ_get lb k hlt2, H.out, ← HG.out, ← HG'.out]
    · obtain rfl : k = la.length := by omega
      go_wp2_with fail
      go_ret
      refine ⟨ret_bool ?_, _, rfl⟩
      have h := H.out
      rw [List.take_length, HL.out, List.take_length] at h
      simp [h]

end Go.Proofs.Ytfioaohadanjmaa

/- Plain: the search forward that walks a queue of points. No program in sight. -/
namespace Go.Proofs.Ytfioaohadanjmaa

def acR (ev : Bool) (rows : List (List Bool)) (i v : Nat) : Bool := rget rows i v != ev
theorem jn_acc (ev o a : Bool) : (jnB ev o a != ev) = ((o != ev) || (a != ev)) := by cases ev <;> cases o <;> cases a <;> rfl
theorem vl_acc (ev : Bool) {ts : List Int} {p : Pt} {b : Bool} {v : Nat} (hv : v < ts.length) : (vlB ts p b v != ev) = trB ev ts p (b != ev) v := by
  unfold vlB trB
  have h1 : (takenP ts p.op p.x p.y).testBit v = (useP ts p.op p.x p.y (v : Nat) == 2) := by unfold takenP; rw [bm_bit, decide_eq_true hv, Bool.true_and]
  rw [h1, setBit_bit]
  cases ev <;> cases b <;> cases (useP ts p.op p.x p.y (v : Nat) == 2) <;> cases decide (setsP p.op p.x = (v : Nat)) <;> rfl

def seenAt (seen : List Bool) (i : Nat) : Prop := seen.getD i false = true
instance (seen : List Bool) (i : Nat) : Decidable (seenAt seen i) := by unfold seenAt; infer_instance
structure WkI (ev : Bool) (ts : List Int) (pts : List Pt) (rows : List (List Bool)) (seen : List Bool) (q : List Nat) : Prop where
  len : rows.length = pts.length
  slen : seen.length = pts.length
  row : ∀ i, i < pts.length → seenAt seen i → (rows.getD i []).length = ts.length
  nrow : ∀ i, i < pts.length → ¬ seenAt seen i → rows.getD i [] = []
  sound : ∀ i v, i < pts.length → v < ts.length → seenAt seen i → acR ev rows i v = true → Ac ev ts pts 0 i v
  ini : seenAt seen 0
  inv : ev = true → ∀ v, v < ts.length → acR ev rows 0 v = true
  qs : ∀ i ∈ q, i < pts.length ∧ seenAt seen i
/-- point i's row is closed along its edges -/
def WkC (ev : Bool) (ts : List Int) (pts : List Pt) (rows : List (List Bool)) (seen : List Bool) (r0 : List Bool) (i k : Nat) : Prop :=
  ∀ p, pts[i]? = some p → ∀ n ∈ p.next.take k, seenAt seen n ∧ ∀ v, v < ts.length → (vlB ts p (r0.getD v false) v != ev) = true → acR ev rows n v = true
/-- between two points of the queue -/
structure WkO (ev : Bool) (ts : List Int) (pts : List Pt) (rows : List (List Bool)) (seen : List Bool) (q : List Nat) : Prop where
  i : WkI ev ts pts rows seen q
  c : ∀ i, i < pts.length → seenAt seen i → i ∈ q ∨ ∀ k, WkC ev ts pts rows seen (rows.getD i []) i k
/-- at point a, behind its first k edges; r0 is the row that was there when a was taken -/
structure WkN (ev : Bool) (ts : List Int) (pts : List Pt) (a : Nat) (r0 : List Bool) (k : Nat) (rows : List (List Bool)) (seen : List Bool) (q : List Nat) : Prop where
  i : WkI ev ts pts rows seen q
  c : ∀ i, i < pts.length → seenAt seen i → i ∈ q ∨ i = a ∨ ∀ k, WkC ev ts pts rows seen (rows.getD i []) i k
  e : WkC ev ts pts rows seen r0 a k
  s : a ∈ q ∨ rows.getD a [] = r0
  r : ∀ v, v < ts.length → (r0.getD v false != ev) = true → Ac ev ts pts 0 a v
theorem WkO.pop {ev : Bool} {ts : List Int} {pts : List Pt} {rows : List (List Bool)} {seen : List Bool} {a : Nat} {q : List Nat} (h : WkO ev ts pts rows seen (a :: q)) : WkN ev ts pts a (rows.getD a []) 0 rows seen q := by
  have ha := h.i.qs a (by simp)
  refine ⟨⟨h.i.len, h.i.slen, h.i.row, h.i.nrow, h.i.sound, h.i.ini, h.i.inv, fun i hi => h.i.qs i (by simp [hi])⟩, fun i hi hs => ?_, fun p _ n hn => by simp at hn, .inr rfl, fun v hv => h.i.sound a v ha.1 hv ha.2⟩
  rcases h.c i hi hs with h1 | h1
  · rcases List.mem_cons.1 h1 with h2 | h2
    · exact .inr (.inl h2)
    · exact .inl h2
  · exact .inr (.inr h1)
theorem WkN.out {ev : Bool} {ts : List Int} {pts : List Pt} {rows : List (List Bool)} {seen : List Bool} {a k : Nat} {r0 : List Bool} {q : List Nat} (h : WkN ev ts pts a r0 k rows seen q) (hk : ∀ p, pts[a]? = some p → p.next.length ≤ k) : WkO ev ts pts rows seen q := by
  refine ⟨h.i, fun i hi hs => ?_⟩
  rcases h.c i hi hs with h1 | h1 | h1
  · exact .inl h1
  · subst h1
    rcases h.s with h2 | h2
    · exact .inl h2
    · refine .inr fun j p hp n hn => ?_
      rw [h2]
      exact h.e p hp n (by rw [List.take_of_length_le (hk p hp)]; exact List.mem_of_mem_take hn)
  · exact .inr h1
theorem seen_set {seen : List Bool} {n i : Nat} (hn : n < seen.length) : seenAt (seen.set n true) i ↔ (i = n ∨ seenAt seen i) := by
  unfold seenAt
  rw [getD_setB hn]
  split
  · rename_i h; simp [h]
  · rename_i h; simp [h]
theorem row_set {rows : List (List Bool)} {n i : Nat} {r : List Bool} (hn : n < rows.length) : (rows.set n r).getD i [] = if i = n then r else rows.getD i [] := by
  by_cases h : i = n
  · subst h; simp [List.getD, hn]
  · rw [if_neg h]; simp [List.getD, Ne.symm h]
/-- row n joined -/
theorem WkN.step {ev : Bool} {ts : List Int} {pts : List Pt} {rows : List (List Bool)} {seen : List Bool} {a k n : Nat} {r0 aft : List Bool} {q q' : List Nat} {p : Pt} (h : WkN ev ts pts a r0 k rows seen q)
    (hp : pts[a]? = some p) (hk : k < p.next.length) (hn : n = p.next[k]) (hnl : n < pts.length) (hal : aft.length = ts.length) (haf : ∀ v, v < ts.length → aft.getD v false = vlB ts p (r0.getD v false) v)
    (hq : q' = q ++ [n] ∨ (q' = q ∧ seenAt seen n ∧ rows.getD n [] = joinP ev (rows.getD n []) aft)) :
    WkN ev ts pts a r0 (k + 1) (rows.set n (joinP ev (rows.getD n []) aft)) (seen.set n true) q' := by
  have hnr : n < rows.length := by rw [h.i.len]; exact hnl
  have hns : n < seen.length := by rw [h.i.slen]; exact hnl
  have hold : (rows.getD n []).length ≤ aft.length := by
    by_cases hs : seenAt seen n
    · rw [h.i.row n hnl hs, hal]; exact Nat.le_refl _
    · rw [h.i.nrow n hnl hs]; simp
  have hnew : ∀ v, v < ts.length → acR ev (rows.set n (joinP ev (rows.getD n []) aft)) n v = ((decide (seenAt seen n) && acR ev rows n v) || (vlB ts p (r0.getD v false) v != ev)) := by
    intro v hv
    unfold acR rget
    rw [row_set hnr, if_pos rfl, join_get _ _ _ (by omega)]
    by_cases hs : seenAt seen n
    · rw [if_pos (by rw [h.i.row n hnl hs]; exact hv), jn_acc, haf v hv, decide_eq_true hs, Bool.true_and]
    · rw [if_neg (by rw [h.i.nrow n hnl hs]; simp), haf v hv, decide_eq_false hs, Bool.false_and, Bool.false_or]
  have hoth : ∀ i v, i ≠ n → acR ev (rows.set n (joinP ev (rows.getD n []) aft)) i v = acR ev rows i v := by
    intro i v hi
    unfold acR rget
    rw [row_set hnr, if_neg hi]
  have hmono : ∀ i v, v < ts.length → seenAt seen i → acR ev rows i v = true → acR ev (rows.set n (joinP ev (rows.getD n []) aft)) i v = true := by
    intro i v hv hs ha
    by_cases hi : i = n
    · subst hi; rw [hnew v hv, decide_eq_true hs, ha]; rfl
    · rw [hoth i v hi]; exact ha
  have hqq : ∀ i, i ∈ q → i ∈ q' := by
    intro i hi
    rcases hq with rfl | ⟨rfl, -, -⟩
    · simp [hi]
    · exact hi
  have hsm : ∀ i, seenAt seen i → seenAt (seen.set n true) i := fun i hs => (seen_set hns).2 (.inr hs)
  have hnm : n ∈ p.next := by rw [hn]; exact List.getElem_mem hk
  have hset : n ∈ q' ∨ rows.set n (joinP ev (rows.getD n []) aft) = rows := by
    rcases hq with rfl | ⟨rfl, -, he⟩
    · exact .inl (by simp)
    · refine .inr ?_
      rw [← he]
      rw [getD_lt hnr]
      exact List.set_getElem_self hnr
  have hC : ∀ r i j, WkC ev ts pts rows seen r i j → WkC ev ts pts (rows.set n (joinP ev (rows.getD n []) aft)) (seen.set n true) r i j := fun r i j hc p' hp' m hm =>
    ⟨hsm m (hc p' hp' m hm).1, fun v hv hx => hmono m v hv (hc p' hp' m hm).1 ((hc p' hp' m hm).2 v hv hx)⟩
  have hrc : ∀ i, i ∈ q' ∨ (rows.set n (joinP ev (rows.getD n []) aft)).getD i [] = rows.getD i [] := by
    intro i
    rcases hset with h1 | h1
    · by_cases hi : i = n
      · subst hi; exact .inl h1
      · right; rw [row_set hnr, if_neg hi]
    · right; rw [h1]
  refine ⟨⟨?_, ?_, fun i hi hs => ?_, fun i hi hs => ?_, fun i v hi hv hs ha => ?_, hsm 0 h.i.ini, fun he v hv => hmono 0 v hv h.i.ini (h.i.inv he v hv), fun i hi => ?_⟩, fun i hi hs => ?_, fun p' hp' m hm => ?_, ?_, h.r⟩
  · rw [List.length_set, h.i.len]
  · rw [List.length_set, h.i.slen]
  · rw [row_set hnr]
    split
    · rw [join_len, hal]
    · rename_i hne
      exact h.i.row i hi (((seen_set hns).1 hs).resolve_left hne)
  · rw [row_set hnr, if_neg (fun e => hs ((seen_set hns).2 (.inl e)))]
    exact h.i.nrow i hi fun e => hs (hsm i e)
  · by_cases hin : i = n
    · subst hin
      rw [hnew v hv] at ha
      rcases Bool.or_eq_true_iff.1 ha with h1 | h1
      · have h2 := Bool.and_eq_true_iff.1 h1
        exact h.i.sound i v hi hv (of_decide_eq_true h2.1) h2.2
      · rw [vl_acc ev hv] at h1
        cases hb : (r0.getD v false != ev)
        · rw [hb] at h1; exact .gen hp hnm hv h1
        · rw [hb] at h1; exact .keep hp hnm (h.r v hv hb) h1
    · rw [hoth i v hin] at ha
      exact h.i.sound i v hi hv (((seen_set hns).1 hs).resolve_left hin) ha
  · rcases hq with rfl | ⟨rfl, -, -⟩
    · rcases List.mem_append.1 hi with h1 | h1
      · exact ⟨(h.i.qs i h1).1, hsm i (h.i.qs i h1).2⟩
      · obtain rfl : i = n := by simpa using h1
        exact ⟨hnl, (seen_set hns).2 (.inl rfl)⟩
    · exact ⟨(h.i.qs i hi).1, hsm i (h.i.qs i hi).2⟩
  · rcases (seen_set hns).1 hs with h1 | h1
    · subst h1
      rcases hq with rfl | ⟨rfl, h2, -⟩
      · exact .inl (by simp)
      · rcases h.c i hi h2 with h3 | h3 | h3
        · exact .inl h3
        · exact .inr (.inl h3)
        · rcases hrc i with h4 | h4
          · exact .inl h4
          · exact .inr (.inr fun j => by rw [h4]; exact hC _ _ _ (h3 j))
    · rcases h.c i hi h1 with h3 | h3 | h3
      · exact .inl (hqq i h3)
      · exact .inr (.inl h3)
      · rcases hrc i with h4 | h4
        · exact .inl h4
        · exact .inr (.inr fun j => by rw [h4]; exact hC _ _ _ (h3 j))
  · have hpe : p' = p := by rw [hp] at hp'; exact (Option.some.inj hp').symm
    subst hpe
    rw [List.take_succ_eq_append_getElem hk] at hm
    rcases List.mem_append.1 hm with h1 | h1
    · exact hC _ _ _ h.e p' hp m h1
    · obtain rfl : m = n := by rw [hn]; simpa using h1
      exact ⟨(seen_set hns).2 (.inl rfl), fun v hv hx => by rw [hnew v hv, hx]; simp⟩
  · rcases h.s with h1 | h1
    · exact .inl (hqq a h1)
    · rcases hrc a with h2 | h2
      · exact .inl h2
      · exact .inr (by rw [h2]; exact h1)

/-- at the end the rows are what is gathered -/
theorem WkO.done {ev : Bool} {ts : List Int} {pts : List Pt} {rows : List (List Bool)} {seen : List Bool} (h : WkO ev ts pts rows seen []) (h0 : 0 < pts.length) (hnx : ∀ p ∈ pts, ∀ k ∈ p.next, k < pts.length) (hr : ∀ k, k < pts.length → Rch pts k) {i : Nat} (hi : i < pts.length) :
    (rows.getD i []).length = ts.length ∧ ∀ v, v < ts.length → rget rows i v = (dec (Ac ev ts pts 0 i v) != ev) := by
  have hc : ∀ i, i < pts.length → seenAt seen i → ∀ k, WkC ev ts pts rows seen (rows.getD i []) i k := fun i hi hs => (h.c i hi hs).resolve_left (by simp)
  have hlt : ∀ {i : Nat} {p : Pt}, pts[i]? = some p → i < pts.length := fun {i p} hp => (List.getElem?_eq_some_iff.1 hp).1
  have hall : ∀ k, Rch pts k → seenAt seen k := by
    intro k hk
    induction hk with
    | start => exact h.i.ini
    | @step i k p hk hp hkn ih => exact ((hc i (hlt hp) ih p.next.length) p hp k (by rw [List.take_length]; exact hkn)).1
  have hac : ∀ i v, Ac ev ts pts 0 i v → i < pts.length ∧ acR ev rows i v = true := by
    intro i v ha
    induction ha with
    | @init v hv h1 => exact ⟨h0, h.i.inv (by cases ev <;> simp [accB] at h1 ⊢) v hv⟩
    | @gen i k v p hp hk hv h1 =>
      refine ⟨hnx p (List.mem_of_getElem? hp) k hk, ((hc i (hlt hp) (hall i (hr i (hlt hp))) p.next.length) p hp k (by rw [List.take_length]; exact hk)).2 v hv ?_⟩
      rw [vl_acc ev hv, trB_mono, h1]; rfl
    | @keep i k v p hp hk ha h1 ih =>
      refine ⟨hnx p (List.mem_of_getElem? hp) k hk, ((hc i (hlt hp) (hall i (hr i (hlt hp))) p.next.length) p hp k (by rw [List.take_length]; exact hk)).2 v ha.lt ?_⟩
      have e := ih.2
      unfold acR rget at e
      rw [vl_acc ev ha.lt, trB_mono, e, h1]; simp
  have hs := hall i (hr i hi)
  refine ⟨h.i.row i hi hs, fun v hv => ?_⟩
  have e : dec (Ac ev ts pts 0 i v) = acR ev rows i v := by
    rw [Bool.eq_iff_iff, dec_iff]
    exact ⟨fun ha => (hac i v ha).2, fun ha => h.i.sound i v hi hv hs ha⟩
  rw [e]
  unfold acR
  cases rget rows i v <;> cases ev <;> rfl

theorem sum_mono {f g : Nat → Nat} {l : List Nat} (h : ∀ i ∈ l, f i ≤ g i) : (l.map f).sum ≤ (l.map g).sum := by
  induction l with
  | nil => simp
  | cons a r ih =>
    simp only [List.map_cons, List.sum_cons]
    have := h a (by simp)
    have := ih fun i hi => h i (by simp [hi])
    omega
theorem sum_less {f g : Nat → Nat} {l : List Nat} (h : ∀ i ∈ l, f i ≤ g i) {n : Nat} (hn : n ∈ l) (hl : f n < g n) : (l.map f).sum < (l.map g).sum := by
  induction l with
  | nil => simp at hn
  | cons a r ih =>
    simp only [List.map_cons, List.sum_cons]
    have h1 := h a (by simp)
    have h2 := sum_mono (f := f) (g := g) (l := r) fun i hi => h i (by simp [hi])
    rcases List.mem_cons.1 hn with e | e
    · subst e; omega
    · have := ih (fun i hi => h i (by simp [hi])) e; omega
/-- what can still turn -/
def muW (ev : Bool) (nt np : Nat) (rows : List (List Bool)) (seen : List Bool) : Nat :=
  ((List.range np).map fun i => if seenAt seen i then ((List.range nt).map fun v => if acR ev rows i v then 0 else 1).sum else nt + 1).sum
theorem sum_le_len {f : Nat → Nat} {l : List Nat} {c : Nat} (h : ∀ i ∈ l, f i ≤ c) : (l.map f).sum ≤ l.length * c := by
  induction l with
  | nil => simp
  | cons a r ih =>
    simp only [List.map_cons, List.sum_cons, List.length_cons, Nat.succ_mul]
    have := h a (by simp)
    have := ih fun i hi => h i (by simp [hi])
    omega
theorem row_le (ev : Bool) (nt : Nat) (rows : List (List Bool)) (i : Nat) : ((List.range nt).map fun v => if acR ev rows i v then 0 else 1).sum ≤ nt := by
  have := sum_le_len (f := fun v => if acR ev rows i v then 0 else 1) (l := List.range nt) (c := 1) fun v _ => by split <;> omega
  simpa using this
theorem muW_le (ev : Bool) (nt np : Nat) (rows : List (List Bool)) (seen : List Bool) : muW ev nt np rows seen ≤ np * (nt + 1) := by
  have := sum_le_len (f := fun i => if seenAt seen i then ((List.range nt).map fun v => if acR ev rows i v then 0 else 1).sum else nt + 1) (l := List.range np) (c := nt + 1) fun v _ => by
    split
    · have := row_le ev nt rows v; omega
    · omega
  simpa [muW] using this
theorem WkI.less {ev : Bool} {ts : List Int} {pts : List Pt} {rows : List (List Bool)} {seen : List Bool} {n : Nat} {aft : List Bool} {q : List Nat} (h : WkI ev ts pts rows seen q) (hnl : n < pts.length) (hal : aft.length = ts.length)
    (hc : ¬ seenAt seen n ∨ rows.getD n [] ≠ joinP ev (rows.getD n []) aft) : muW ev ts.length pts.length (rows.set n (joinP ev (rows.getD n []) aft)) (seen.set n true) < muW ev ts.length pts.length rows seen := by
  have hnr : n < rows.length := by rw [h.len]; exact hnl
  have hns : n < seen.length := by rw [h.slen]; exact hnl
  have hoth : ∀ i v, i ≠ n → acR ev (rows.set n (joinP ev (rows.getD n []) aft)) i v = acR ev rows i v := by
    intro i v hi
    unfold acR rget
    rw [row_set hnr, if_neg hi]
  have hown : (if seenAt (seen.set n true) n then ((List.range ts.length).map fun v => if acR ev (rows.set n (joinP ev (rows.getD n []) aft)) n v then 0 else 1).sum else ts.length + 1) < (if seenAt seen n then ((List.range ts.length).map fun v => if acR ev rows n v then 0 else 1).sum else ts.length + 1) := by
    rw [if_pos ((seen_set hns).2 (.inl rfl))]
    by_cases hs : seenAt seen n
    · rw [if_pos hs]
      have hne := hc.resolve_left (fun hn => hn hs)
      have hrl := h.row n hnl hs
      have hacc : ∀ v, v < ts.length → acR ev (rows.set n (joinP ev (rows.getD n []) aft)) n v = (acR ev rows n v || (aft.getD v false != ev)) := by
        intro v hv
        unfold acR rget
        rw [row_set hnr, if_pos rfl, join_get _ _ _ (by omega), if_pos (by omega), jn_acc]
      have hex : ∃ v, v < ts.length ∧ acR ev rows n v = false ∧ (aft.getD v false != ev) = true := by
        apply Classical.byContradiction
        intro hno
        apply hne
        refine List.ext_getElem (by rw [join_len]; omega) fun v h1 h2 => ?_
        have hv : v < ts.length := by omega
        have e1 := join_get ev (rows.getD n []) aft (v := v) (by omega)
        rw [if_pos h1, getD_lt h2] at e1
        rw [e1, ← getD_lt (d := false) h1]
        have h3 : ¬ (acR ev rows n v = false ∧ (aft.getD v false != ev) = true) := fun hh => hno ⟨v, hv, hh⟩
        unfold acR rget at h3
        revert h3
        cases (rows.getD n []).getD v false <;> cases aft.getD v false <;> cases ev <;> simp [jnB]
      obtain ⟨v, hv, hv1, hv2⟩ := hex
      refine sum_less (fun u hu => ?_) (n := v) (List.mem_range.2 hv) ?_
      · rw [hacc u (List.mem_range.1 hu)]
        cases acR ev rows n u <;> cases (aft.getD u false != ev) <;> simp
      · rw [hacc v hv, hv1, hv2]; simp
    · rw [if_neg hs]
      have := row_le ev ts.length (rows.set n (joinP ev (rows.getD n []) aft)) n
      omega
  unfold muW
  refine sum_less (fun i hi => ?_) (n := n) (List.mem_range.2 hnl) hown
  by_cases hin : i = n
  · subst hin; exact Nat.le_of_lt hown
  · have e : seenAt (seen.set n true) i ↔ seenAt seen i := by rw [seen_set hns]; simp [hin]
    by_cases hs : seenAt seen i
    · rw [if_pos hs, if_pos (e.2 hs)]
      exact sum_mono fun v _ => by rw [hoth i v hin]; exact Nat.le_refl _
    · rw [if_neg hs, if_neg (fun hh => hs (e.1 hh))]
      exact Nat.le_refl _

end Go.Proofs.Ytfioaohadanjmaa

/- Plain: rows of bools that say what always has a value. No program in sight. -/
namespace Go.Proofs.Ytfioaohadanjmaa

structure FdI (ts : List Int) (pts : List Pt) (gv : Nat) (rows : List (List Bool)) : Prop where
  len : rows.length = pts.length
  row : ∀ i, i < rows.length → (rows.getD i []).length = ts.length
  sound : ∀ i v, i < rows.length → v < ts.length → rget rows i v = false → Ac true ts pts gv i v
  init : ∀ v, v < ts.length → gv.testBit v = false → rget rows 0 v = false
theorem vl_tr {ts : List Int} {p : Pt} {b : Bool} {v : Nat} (hv : v < ts.length) : vlB ts p b v = !trB true ts p (!b) v := by
  unfold vlB trB
  have h1 : (takenP ts p.op p.x p.y).testBit v = (useP ts p.op p.x p.y (v : Nat) == 2) := by unfold takenP; rw [bm_bit, decide_eq_true hv, Bool.true_and]
  rw [h1, setBit_bit]
  cases b <;> cases (useP ts p.op p.x p.y (v : Nat) == 2) <;> cases decide (setsP p.op p.x = (v : Nat)) <;> rfl
/-- what is not there behind a point is lacked at each Next -/
theorem FdI.aft {ts : List Int} {pts : List Pt} {gv : Nat} {rows : List (List Bool)} (h : FdI ts pts gv rows) {i v : Nat} {p : Pt} (hp : pts[i]? = some p) (hi : i < rows.length) (hv : v < ts.length) (ha : vlB ts p (rget rows i v) v = false) : ∀ k ∈ p.next, Ac true ts pts gv k v := by
  intro k hk
  rw [vl_tr hv, Bool.not_eq_false'] at ha
  cases hb : rget rows i v
  · rw [hb] at ha; exact .keep hp hk (h.sound i v hi hv hb) ha
  · rw [hb] at ha; exact .gen hp hk hv ha
theorem FdI.upd {ts : List Int} {pts : List Pt} {gv : Nat} {rows : List (List Bool)} (h : FdI ts pts gv rows) {n v : Nat} (hn : n < rows.length) (hv : v < ts.length) (ha : Ac true ts pts gv n v) : FdI ts pts gv (rset rows n v false) := by
  refine ⟨by rw [rset_len, h.len], fun j hj => by rw [rset_row hn, h.row j (by simpa [rset_len] using hj)], fun j u hj hu hr => ?_, fun u hu hg => ?_⟩
  · rw [rget_rset hn (by rw [h.row n hn]; exact hv)] at hr
    split at hr
    · rename_i e; obtain ⟨rfl, rfl⟩ := e; exact ha
    · exact h.sound j u (by simpa [rset_len] using hj) hu hr
  · rw [rget_rset hn (by rw [h.row n hn]; exact hv)]
    split
    · rfl
    · exact h.init u hu hg
/-- the rows r0 are closed along the edge from i to n for the first u variables -/
def FdV (ts : List Int) (r0 : List (List Bool)) (p : Pt) (i n u : Nat) : Prop := ∀ v, v < u → rget r0 n v = true → vlB ts p (rget r0 i v) v = true
def FdC (ts : List Int) (pts : List Pt) (r0 : List (List Bool)) (k : Nat) : Prop := ∀ i p, i < k → pts[i]? = some p → ∀ n ∈ p.next, FdV ts r0 p i n ts.length
theorem FdI.done {ts : List Int} {pts : List Pt} {gv : Nat} {rows : List (List Bool)} (h : FdI ts pts gv rows) (hpos : 0 < pts.length) (hnx : ∀ p ∈ pts, ∀ k ∈ p.next, k < pts.length) (hc : FdC ts pts rows pts.length) {i v : Nat} (hi : i < pts.length) (hv : v < ts.length) :
    rget rows i v = !dec (Ac true ts pts gv i v) := by
  have hac : ∀ i v, Ac true ts pts gv i v → i < pts.length ∧ rget rows i v = false := by
    intro i v ha
    induction ha with
    | init hv h1 => exact ⟨hpos, h.init _ hv (by simpa [accB] using h1)⟩
    | @gen i k v p hp hk hv h1 =>
      have hi : i < pts.length := by
        rcases Nat.lt_or_ge i pts.length with h | h
        · exact h
        · rw [List.getElem?_eq_none h] at hp; cases hp
      refine ⟨hnx p (List.mem_of_getElem? hp) k hk, ?_⟩
      cases hr : rget rows k v
      · rfl
      · have := hc i p hi hp k hk v hv hr
        rw [vl_tr hv, trB_mono, h1] at this
        simp at this
    | @keep i k v p hp hk ha h1 ih =>
      have hi := ih.1
      refine ⟨hnx p (List.mem_of_getElem? hp) k hk, ?_⟩
      cases hr : rget rows k v
      · rfl
      · have := hc i p hi hp k hk v ha.lt hr
        rw [vl_tr ha.lt, ih.2, Bool.not_false, h1] at this
        simp at this
  cases hr : rget rows i v
  · rw [dec_true (h.sound i v (by rw [h.len]; exact hi) hv hr)]; rfl
  · rw [dec_false fun ha => by rw [(hac i v ha).2] at hr; cases hr]; rfl
/-- the first rows -/
def row0 (ts : List Int) (gv : Nat) (i : Nat) : List Bool := (List.range ts.length).map fun v => decide (0 < i) || gv.testBit v
theorem row0_get {ts : List Int} {gv i v : Nat} (hv : v < ts.length) : (row0 ts gv i).getD v false = (decide (0 < i) || gv.testBit v) := by
  unfold row0; rw [getD_lt (by simpa using hv)]; simp
theorem row0_len (ts : List Int) (gv i : Nat) : (row0 ts gv i).length = ts.length := by simp [row0]
theorem FdI.first (ts : List Int) (pts : List Pt) (gv : Nat) (hpos : 0 < pts.length) : FdI ts pts gv ((List.range pts.length).map (row0 ts gv)) := by
  have hg : ∀ i, i < pts.length → ((List.range pts.length).map (row0 ts gv)).getD i [] = row0 ts gv i := fun i hi => by rw [getD_lt (by simpa using hi)]; simp
  refine ⟨by simp, fun i hi => by rw [hg i (by simpa using hi), row0_len], fun i v hi hv hr => ?_, fun v hv hgv => ?_⟩
  · unfold rget at hr
    rw [hg i (by simpa using hi), row0_get hv, Bool.or_eq_false_iff] at hr
    have h0 : i = 0 := by have := hr.1; simp at this; exact this
    subst h0
    exact .init hv (by simp [accB, hr.2])
  · unfold rget
    rw [hg 0 hpos, row0_get hv, hgv]; rfl

end Go.Proofs.Ytfioaohadanjmaa

/- More words for rows of bools: a row that was filled before it is appended. -/
namespace Go.Proofs.Ytfioaohadanjmaa
open Go.RowKit

theorem OBools.other {w : World} {base g : Nat} {v : Value} {l : List Bool} (h : OBools w base v l) (hg : g < base) (i : Nat) (u : Value) : OBools (w.setCell ⟨g, i, none⟩ u) base v l :=
  h.kept (grown_set w g i u) (.inr (by
    cases e : v.ownBlock with
    | none => simp
    | some k => intro e'; injection e' with e'; have := (World.ownsRow.lt h k e).1; omega))
end Go.Proofs.Ytfioaohadanjmaa
