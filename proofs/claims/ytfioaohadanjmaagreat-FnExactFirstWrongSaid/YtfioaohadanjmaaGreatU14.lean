import Derived.Test.YtfioaohadanjmaaGreatU13
import Derived.Deep.CutBlock
import Derived.Deep.DeepCutAuto
import Derived.Test.YtfioaohadanjmaaGreatU06
import Derived.Test.YtfioaohadanjmaaGreatU01
set_option linter.unusedVariables false

/- the draws of a program and small numbers (spec.l10Case and what stands on it). -/
namespace Go.Proofs.YtfioaohadanjmaaGreat
open Go.RowKit

/-- what the ends of these draws need -/
structure DsE (w W : World) (vt vb : Value) (ts : List Int) (l : List St) : Prop where
  ht : IntX W (fun b => w.heap.size ≤ b) vt ts
  hl : StX W (fun b => w.heap.size ≤ b) vb l
  bel : Below w.heap.size w W
theorem DsE.mk' {w w3 W : World} {vt vb : Value} {ts : List Int} {l : List St} {lo : Nat} (h3 : Below w.heap.size w w3) (hW : w3.grownBy W (some w.heap.size)) (hT : IntX w3 (fun b => lo ≤ b) vt ts) (hB : StX w3 (fun b => lo ≤ b) vb l) (hlo : w.heap.size < lo) : DsE w W vt vb ts l := by
  have hk : ∀ b, lo ≤ b → b < w3.heap.size → w.heap.size ≤ b ∧ W.heap[b]? = w3.heap[b]? := fun b hb hl => ⟨by omega, hW.block b hl (fun e => by injection e with e; omega)⟩
  exact ⟨hT.frame hW.size hk, hB.frame hW.size hk, grown_new h3 (Nat.le_refl _) hW⟩

end Go.Proofs.YtfioaohadanjmaaGreat

/- Loans: impl.graph.cameFrom, loansIn; impl.LoansIn. -/
namespace Go.Proofs.YtfioaohadanjmaaGreat
open Go.RowKit

theorem OInts.base {w : World} {base base' : Nat} {v : Value} {l : List Int} (h : OInts w base v l) (hb : base' ≤ base) : OInts w base' v l := by
  refine ⟨h.1, ?_⟩
  rcases h.2 with h' | ⟨g, cap, cur, rfl, hbg, rest⟩
  · exact .inl h'
  · exact .inr ⟨g, cap, cur, rfl, by omega, rest⟩
end Go.Proofs.YtfioaohadanjmaaGreat

/- Loans: impl.graph.ofVars, placed, kept; impl.PlacedLoans, LiveLoans. -/
namespace Go.Proofs.YtfioaohadanjmaaGreat
open Go.RowKit

/-- the loans of variables in a set -/
def ofB (pts : List Pt) (m e : Nat) : Bool := match pts[e]? with
  | some q => lonB q && m.testBit q.y.toNat
  | none => false
end Go.Proofs.YtfioaohadanjmaaGreat

/- Accesses: owned rows of them; impl.graph.accesses, impl.AccessesOf. -/
namespace Go.Proofs.YtfioaohadanjmaaGreat
open Go.RowKit

structure Acc where
  vr : Int
  wr : Bool
/-- the slice v reads as the accesses ls -/
def AxS (w : World) (B : Nat) (v : Value) (ls : List Acc) : Prop :=
  ∃ A c, v = .slice A ls.length c ∧ ls.length ≤ c ∧ ls.length ≤ 100000 ∧ (0 < ls.length → ∃ b off, A = some ⟨b, off, none⟩ ∧ b < B ∧ ∀ i (h : i < ls.length),
    w.cell? ⟨b, off + i * 2, none⟩ = some (.int .i64 ls[i].vr) ∧ w.cell? ⟨b, off + i * 2 + 1, none⟩ = some (.bool ls[i].wr))
theorem AxS.low {w w' : World} {B B' : Nat} {v : Value} {l : List Acc} (h : AxS w B v l) (hb : Below B' w w') (hB : B ≤ B') : AxS w' B v l := by
  obtain ⟨A, c, e, h1, h2, h3⟩ := h
  refine ⟨A, c, e, h1, h2, fun hn => ?_⟩
  obtain ⟨b, off, e, hbb, hc⟩ := h3 hn
  have k : ∀ o, w'.cell? ⟨b, o, none⟩ = w.cell? ⟨b, o, none⟩ := fun o => hb.cell (p := ⟨b, o, none⟩) (by show b < B'; omega)
  exact ⟨b, off, e, hbb, fun i hi => by simp only [k]; exact hc i hi⟩
theorem AxS.bel {w w' : World} {v : Value} {l : List Acc} (h : AxS w w.heap.size v l) (hb : Below w.heap.size w w') : AxS w' w'.heap.size v l := by
  obtain ⟨A, c, e, h1, h2, h3⟩ := h.low hb (Nat.le_refl _)
  refine ⟨A, c, e, h1, h2, fun hn => ?_⟩
  obtain ⟨b, off, e, hbb, hc⟩ := h3 hn
  exact ⟨b, off, e, Nat.lt_of_lt_of_le hbb hb.size, hc⟩
theorem AxS.slice {w : World} {B : Nat} {v : Value} {l : List Acc} (h : AxS w B v l) : ∃ A c, v = .slice A l.length c ∧ l.length ≤ c := by
  obtain ⟨A, c, e, h1, _⟩ := h
  exact ⟨A, c, e, h1⟩
theorem AxS.get {w : World} {B n c : Nat} {A : Option Addr} {l : List Acc} (h : AxS w B (.slice A n c) l) {i : Nat} (hi : i < l.length) : ∃ b off, A = some ⟨b, off, none⟩ ∧ b < B ∧
    w.cell? ⟨b, off + i * 2, none⟩ = some (.int .i64 l[i].vr) ∧ w.cell? ⟨b, off + i * 2 + 1, none⟩ = some (.bool l[i].wr) := by
  obtain ⟨A', c', e, h1, h2, h3⟩ := h
  injection e with e1 _ _
  subst e1
  obtain ⟨b, off, e, hb, hc⟩ := h3 (by omega)
  exact ⟨b, off, e, hb, hc i hi⟩
end Go.Proofs.YtfioaohadanjmaaGreat

/- Plain: the loans that are in the way of a point. -/
namespace Go.Proofs.YtfioaohadanjmaaGreat

/-- a loan stands in the way of an access -/
def cndB (pts : List Pt) (a : Acc) (e : Nat) : Bool := a.wr || (ptD pts e).op == 5
def acB (pts : List Pt) (ac : List Acc) (e : Nat) : Bool := ac.any fun a => ofB pts (2 ^ a.vr.toNat) e && cndB pts a e
theorem acB_snoc (pts : List Pt) (ac : List Acc) (a : Acc) (e : Nat) : acB pts (ac ++ [a]) e = (acB pts ac e || (ofB pts (2 ^ a.vr.toNat) e && cndB pts a e)) := by simp [acB]
/-- what an inner round knows -/
def CfI (pts : List Pt) (a : Acc) (t0 : Nat) (L : List Int) (i t : Nat) : Prop := ∀ e : Nat, t.testBit e = (t0.testBit e || (decide (((e : Nat) : Int) ∈ L.take i) && cndB pts a e))
theorem CfI.start {pts : List Pt} {a : Acc} {t0 : Nat} {L : List Int} : CfI pts a t0 L 0 t0 := fun e => by simp
theorem mem_take_succ {L : List Int} {i : Nat} (hi : i < L.length) (x : Int) : x ∈ L.take (i + 1) ↔ x ∈ L.take i ∨ x = L.getD i 0 := by
  rw [take_succ_get L i hi, List.mem_append, List.mem_singleton, getD_lt hi]
theorem CfI.no {pts : List Pt} {a : Acc} {t0 t i e0 : Nat} {L : List Int} (h : CfI pts a t0 L i t) (hi : i < L.length) (he : L.getD i 0 = ((e0 : Nat) : Int)) (hc : cndB pts a e0 = false) : CfI pts a t0 L (i + 1) t := fun e => by
  rw [h e]
  congr 1
  by_cases hee : e = e0
  · subst hee; rw [hc, Bool.and_false, Bool.and_false]
  · congr 1
    rw [decide_eq_decide, mem_take_succ hi, he]
    exact ⟨.inl, fun h => h.resolve_right (by omega)⟩
theorem CfI.yes {pts : List Pt} {a : Acc} {t0 t i e0 : Nat} {L : List Int} (h : CfI pts a t0 L i t) (hi : i < L.length) (he : L.getD i 0 = ((e0 : Nat) : Int)) (hc : cndB pts a e0 = true) : CfI pts a t0 L (i + 1) (t ||| 2 ^ e0) := fun e => by
  rw [Nat.testBit_or, h e, Nat.testBit_two_pow]
  by_cases hee : e = e0
  · subst hee
    rw [hc, decide_eq_true rfl, Bool.or_true, Bool.and_true, decide_eq_true ((mem_take_succ hi _).2 (.inr he.symm)), Bool.or_true]
  · rw [show decide (e0 = e) = false from decide_eq_false (fun h => hee h.symm), Bool.or_false]
    congr 2
    rw [decide_eq_decide, mem_take_succ hi, he]
    exact ⟨.inl, fun h => h.resolve_right (by omega)⟩
/-- what an outer round knows -/
def CfO (pts : List Pt) (ac : List Acc) (s j t : Nat) : Prop := ∀ e : Nat, t.testBit e = (s.testBit e && acB pts (ac.take j) e)
theorem CfO.start {pts : List Pt} {ac : List Acc} {s : Nat} : CfO pts ac s 0 0 := fun e => by simp [acB]
theorem CfI.done {pts : List Pt} {ac : List Acc} {s j t0 t o m : Nat} {L : List Int} {a : Acc} (h0 : CfO pts ac s j t0) (hj : j < ac.length) (ha : ac[j] = a) (hs : s < top64) (ho : ∀ e, o.testBit e = ofB pts (2 ^ a.vr.toNat) e) (hm : ∀ e, m.testBit e = (s.testBit e && o.testBit e)) (hL : L = lst 64 m.testBit) (h : CfI pts a t0 L L.length t) : CfO pts ac s (j + 1) t := fun e => by
  rw [h e, h0 e, take_succ_get ac j hj, ha, acB_snoc, List.take_length]
  have hd : decide (((e : Nat) : Int) ∈ L) = (s.testBit e && ofB pts (2 ^ a.vr.toNat) e) := by
    rw [Bool.eq_iff_iff, decide_eq_true_iff, hL, lst_mem, ← ho e, ← hm e]
    constructor
    · rintro ⟨i, _, h1, h2⟩
      obtain rfl : e = i := by omega
      exact h1
    · intro h1
      refine ⟨e, ?_, h1, rfl⟩
      have h2 : s.testBit e = true := by rw [hm e, Bool.and_eq_true] at h1; exact h1.1
      rcases Nat.lt_or_ge e 64 with h3 | h3
      · exact h3
      · rw [Nat.testBit_lt_two_pow (Nat.lt_of_lt_of_le hs (by unfold top64; exact Nat.pow_le_pow_right (by omega) h3))] at h2; cases h2
  rw [hd]
  cases s.testBit e <;> cases acB pts (ac.take j) e <;> cases ofB pts (2 ^ a.vr.toNat) e <;> cases cndB pts a e <;> rfl
end Go.Proofs.YtfioaohadanjmaaGreat

/- Plain: programs behind each other: their points, and what is known at them. No program in sight. -/
namespace Go.Proofs.YtfioaohadanjmaaGreat

/-- a point moved on by n -/
def shP (n : Nat) (p : Pt) : Pt := { p with next := p.next.map (· + n) }
mutual
theorem ptsSt_sh (n at_ : Nat) : ∀ s : St, ptsSt (at_ + n) s = (ptsSt at_ s).map (shP n)
  | .mk op x y m th el => by
    have h1 := fun a => ptsL_sh n a th
    have h2 := fun a => ptsL_sh n a el
    have e1 : ∀ a, (ptsL (a + n) th).length = (ptsL a th).length := fun a => by rw [h1]; simp
    have e2 : ∀ a, (ptsL (a + n) el).length = (ptsL a el).length := fun a => by rw [h2]; simp
    simp only [ptsSt]
    have a1 : at_ + n + 1 = at_ + 1 + n := by omega
    rw [a1, e1]
    have a2 : at_ + 1 + n + (ptsL (at_ + 1) th).length + 1 = at_ + 1 + (ptsL (at_ + 1) th).length + 1 + n := by omega
    rw [a2, e2, h1, h2]
    split
    · simp [shP]; omega
    · split
      · simp [shP]
      · simp [shP]
theorem ptsL_sh (n at_ : Nat) : ∀ l : List St, ptsL (at_ + n) l = (ptsL at_ l).map (shP n)
  | [] => by simp [ptsL]
  | s :: r => by
    have h1 := ptsSt_sh n at_ s
    have h2 := fun a => ptsL_sh n a r
    have e1 : (ptsSt (at_ + n) s).length = (ptsSt at_ s).length := by rw [h1]; simp
    have a1 : at_ + n + (ptsSt at_ s).length = at_ + (ptsSt at_ s).length + n := by omega
    simp only [ptsL, List.map_append]
    rw [e1, a1, h1, h2]
end
/-- the number of points ahead of the end -/
def npL (a : List St) : Nat := (ptsL 0 a).length
theorem ptsP_cat (a b : List St) : ptsP (a ++ b) = ptsL 0 a ++ (ptsP b).map (shP (npL a)) := by
  unfold ptsP npL
  rw [ptsL_append, show 0 + (ptsL 0 a).length = 0 + (ptsL 0 a).length from rfl, ptsL_sh]
  simp [shP]
theorem npL_len (a : List St) : (ptsP a).length = npL a + 1 := ptsP_len a
theorem cat_left {a b : List St} {i : Nat} (h : i < npL a) : (ptsP (a ++ b))[i]? = (ptsP a)[i]? := by
  rw [ptsP_cat, List.getElem?_append_left h]
  unfold ptsP
  rw [List.getElem?_append_left h]
theorem cat_right {a b : List St} (j : Nat) : (ptsP (a ++ b))[npL a + j]? = ((ptsP b)[j]?).map (shP (npL a)) := by
  rw [ptsP_cat, List.getElem?_append_right (by show npL a ≤ _; omega), List.getElem?_map]
  congr 2
  show npL a + j - npL a = j
  omega
theorem sh_next {n k : Nat} {p : Pt} (h : k ∈ (shP n p).next) : ∃ j, j ∈ p.next ∧ k = j + n := by
  unfold shP at h
  obtain ⟨j, h1, h2⟩ := List.mem_map.1 h
  exact ⟨j, h1, h2.symm⟩
/-- what is gathered in the whole: in the first part; in the second, begun with what there is at the first one's end -/
theorem Ac.split {ev : Bool} {ts : List Int} {a b : List St} {f f' i v : Nat} (hf : ∀ v, v < ts.length → (accB ev f' v = true ↔ Ac ev ts (ptsP a) f (npL a) v)) (h : Ac ev ts (ptsP (a ++ b)) f i v) :
    (i < npL a → Ac ev ts (ptsP a) f i v) ∧ (∀ j, i = npL a + j → Ac ev ts (ptsP b) f' j v) := by
  induction h with
  | @init v hv h =>
    refine ⟨fun _ => .init hv h, fun j hj => ?_⟩
    obtain rfl : j = 0 := by omega
    have h0 : npL a = 0 := by omega
    refine .init hv ((hf v hv).2 ?_)
    rw [h0]
    exact .init hv h
  | @gen i k v p hp hk hv h =>
    rcases Nat.lt_or_ge i (npL a) with hi | hi
    · rw [cat_left hi] at hp
      have hA : Ac ev ts (ptsP a) f k v := .gen hp hk hv h
      refine ⟨fun _ => hA, fun j hj => ?_⟩
      have hkn := (ptsP_next a p (List.mem_of_getElem? hp)).2 k hk
      rw [npL_len] at hkn
      obtain rfl : j = 0 := by omega
      exact .init hv ((hf v hv).2 (by rw [show npL a = k by omega]; exact hA))
    · obtain ⟨m, rfl⟩ : ∃ m, i = npL a + m := ⟨i - npL a, by omega⟩
      rw [cat_right, Option.map_eq_some_iff] at hp
      obtain ⟨q, hq, rfl⟩ := hp
      obtain ⟨n, hn, rfl⟩ := sh_next hk
      refine ⟨fun h => by omega, fun j hj => ?_⟩
      obtain rfl : j = n := by omega
      exact .gen hq hn hv h
  | @keep i k v p hp hk hi0 h ih =>
    have hv := hi0.lt
    rcases Nat.lt_or_ge i (npL a) with hi | hi
    · rw [cat_left hi] at hp
      have hA : Ac ev ts (ptsP a) f k v := .keep hp hk (ih.1 hi) h
      refine ⟨fun _ => hA, fun j hj => ?_⟩
      have hkn := (ptsP_next a p (List.mem_of_getElem? hp)).2 k hk
      rw [npL_len] at hkn
      obtain rfl : j = 0 := by omega
      exact .init hv ((hf v hv).2 (by rw [show npL a = k by omega]; exact hA))
    · obtain ⟨m, rfl⟩ : ∃ m, i = npL a + m := ⟨i - npL a, by omega⟩
      rw [cat_right, Option.map_eq_some_iff] at hp
      obtain ⟨q, hq, rfl⟩ := hp
      obtain ⟨n, hn, rfl⟩ := sh_next hk
      refine ⟨fun h => by omega, fun j hj => ?_⟩
      obtain rfl : j = n := by omega
      exact .keep hq hn (ih.2 m rfl) h
end Go.Proofs.YtfioaohadanjmaaGreat

/- Plain: the issues of a program. No program in sight. -/
namespace Go.Proofs.YtfioaohadanjmaaGreat

/-- an issue -/
structure Iss where
  pt : Int
  kd : Int
  wt : Int
  deriving DecidableEq
/-- is e one of the loans of what counts as live (LV) behind point k? -/
def KpG (ts : List Int) (pts : List Pt) (LV : Nat → Nat → Prop) (k e : Nat) : Prop := ∃ p v, pts[k]? = some p ∧ v < ts.length ∧ LV k v ∧ setsP p.op p.x ≠ (v : Nat) ∧ useP ts p.op p.x p.y (v : Nat) ≠ 2 ∧ Fl ts pts Gloan (Cloan ts) k v e
theorem KpG.mono {ts : List Int} {pts : List Pt} {LV LV' : Nat → Nat → Prop} {k e : Nat} (h : KpG ts pts LV k e) (hm : ∀ v, v < ts.length → LV k v → (∃ p, pts[k]? = some p ∧ useP ts p.op p.x p.y (v : Nat) ≠ 2) → Ac false ts pts 0 k v → LV' k v) : KpG ts pts LV' k e := by
  obtain ⟨p, v, hp, hv, hl, hs, hu, hf⟩ := h
  exact ⟨p, v, hp, hv, hm v hv hl ⟨p, hp, hu⟩ hf.maybe, hs, hu, hf⟩
end Go.Proofs.YtfioaohadanjmaaGreat

/- Issues: owned rows of them. -/
namespace Go.Proofs.YtfioaohadanjmaaGreat
open Go.RowKit

/-- blocks of other types stay -/
def KpT (e : TypeId) (w w' : World) : Prop := w.heap.size ≤ w'.heap.size ∧ ∀ (b : Nat) (cs : Array Value) (T : TypeId), w.heap[b]? = some (Obj.cells cs T (0, 0)) → T ≠ e → w'.heap[b]? = some (Obj.cells cs T (0, 0))
theorem KpT.refl (e : TypeId) (w : World) : KpT e w w := ⟨Nat.le_refl _, fun _ _ _ h _ => h⟩
theorem KpT.trans {e : TypeId} {a b c : World} (h : KpT e a b) (k : KpT e b c) : KpT e a c := ⟨Nat.le_trans h.1 k.1, fun x cs T hx hT => k.2 x cs T (h.2 x cs T hx hT) hT⟩
theorem KpT.of_bel {e : TypeId} {w w' : World} (h : Below w.heap.size w w') : KpT e w w' := ⟨h.size, fun _ _ _ hb _ => row_below hb h⟩
theorem KpT.grown {e : TypeId} {size : Nat} {w w' : World} {base : Nat} {v : Value} {n : Nat} {xs : List Value} {o : Obj} (hown : (w.alloc o).ownsRow base e size v n xs) (k2 : (w.alloc o).grownBy w' v.ownBlock) : KpT e w w' := by
  refine (KpT.of_bel (bel_a w o)).trans ⟨k2.size, fun b cs T hb hT => (k2.block b ?_ fun e' => ?_).trans hb⟩
  · rcases Nat.lt_or_ge b (w.alloc o).heap.size with h' | h'
    · exact h'
    · rw [Array.getElem?_eq_none h'] at hb; cases hb
  · rcases hown.2 with ⟨rfl, _⟩ | ⟨g, cap, cur, rfl, _, hh, _⟩
    · cases e'
    · injection e' with e'
      have e' : b = g := e'
      subst e'
      rw [hb] at hh
      injection hh with hh
      injection hh with _ hT'
      exact hT hT'
theorem OInts.keepT {w w' : World} {base : Nat} {v : Value} {l : List Int} (h : OInts w base v l) {e : TypeId} (hk : KpT e w w') (he : 3 ≠ e) : OInts w' base v l := by
  refine ⟨h.1, ?_⟩
  rcases h.2 with h' | ⟨g, cap, cur, rfl, hbg, hh, rest⟩
  · exact .inl h'
  · exact .inr ⟨g, cap, cur, rfl, hbg, hk.2 _ _ _ hh he, rest⟩

/-- the slice v reads as the rows ls -/
def IsS (w : World) (B : Nat) (v : Value) (ls : List Iss) : Prop :=
  ∃ A c, v = .slice A ls.length c ∧ ls.length ≤ c ∧ ls.length ≤ 100000 ∧ (0 < ls.length → ∃ b off, A = some ⟨b, off, none⟩ ∧ b < B ∧ ∀ i (h : i < ls.length),
    w.cell? ⟨b, off + i * 3, none⟩ = some (.int .i64 ls[i].pt) ∧ w.cell? ⟨b, off + i * 3 + 1, none⟩ = some (.int .i64 ls[i].kd) ∧ w.cell? ⟨b, off + i * 3 + 2, none⟩ = some (.int .i64 ls[i].wt))
theorem IsS.low {w w' : World} {B B' : Nat} {v : Value} {l : List Iss} (h : IsS w B v l) (hb : Below B' w w') (hB : B ≤ B') : IsS w' B v l := by
  obtain ⟨A, c, e, h1, h2, h3⟩ := h
  refine ⟨A, c, e, h1, h2, fun hn => ?_⟩
  obtain ⟨b, off, e, hbb, hc⟩ := h3 hn
  have k : ∀ o, w'.cell? ⟨b, o, none⟩ = w.cell? ⟨b, o, none⟩ := fun o => hb.cell (p := ⟨b, o, none⟩) (by show b < B'; omega)
  exact ⟨b, off, e, hbb, fun i hi => by simp only [k]; exact hc i hi⟩
theorem IsS.bel {w w' : World} {v : Value} {l : List Iss} (h : IsS w w.heap.size v l) (hb : Below w.heap.size w w') : IsS w' w'.heap.size v l := by
  obtain ⟨A, c, e, h1, h2, h3⟩ := h.low hb (Nat.le_refl _)
  refine ⟨A, c, e, h1, h2, fun hn => ?_⟩
  obtain ⟨b, off, e, hbb, hc⟩ := h3 hn
  exact ⟨b, off, e, Nat.lt_of_lt_of_le hbb hb.size, hc⟩
theorem IsS.slice {w : World} {B : Nat} {v : Value} {l : List Iss} (h : IsS w B v l) : ∃ A c, v = .slice A l.length c ∧ l.length ≤ c := by
  obtain ⟨A, c, e, h1, _⟩ := h
  exact ⟨A, c, e, h1⟩
theorem IsS.get {w : World} {B n c : Nat} {A : Option Addr} {l : List Iss} (h : IsS w B (.slice A n c) l) {i : Nat} (hi : i < l.length) : ∃ b off, A = some ⟨b, off, none⟩ ∧ b < B ∧
    w.cell? ⟨b, off + i * 3, none⟩ = some (.int .i64 l[i].pt) ∧ w.cell? ⟨b, off + i * 3 + 1, none⟩ = some (.int .i64 l[i].kd) ∧ w.cell? ⟨b, off + i * 3 + 2, none⟩ = some (.int .i64 l[i].wt) := by
  obtain ⟨A', c', e, h1, h2, h3⟩ := h
  injection e with e1 _ _
  subst e1
  obtain ⟨b, off, e, hb, hc⟩ := h3 (by omega)
  exact ⟨b, off, e, hb, hc i hi⟩
end Go.Proofs.YtfioaohadanjmaaGreat

/- The machine: cells with stacks of tags, slots, points. Plain; no program in sight. -/
namespace Go.Proofs.YtfioaohadanjmaaGreat

structure Tg where
  id : Nat
  un : Bool
structure Cl where
  val : Int
  al : Bool
  nx : Nat
  st : List Tg
/-- a cell is valid -/
structure Cl.ok (c : Cl) : Prop where
  v0 : 0 ≤ c.val
  v9 : c.val ≤ 9
  n0 : 1 ≤ c.nx
  n1 : c.nx ≤ 1000
  l0 : 1 ≤ c.st.length
  l1 : c.st.length ≤ 200
  u : ∀ h : 0 < c.st.length, c.st[0].un = true
  s : c.st.Pairwise fun a b => a.id < b.id
  b : ∀ t ∈ c.st, t.id < c.nx
def okM (m : List Cl) : Prop := m.length ≤ 200 ∧ ∀ c ∈ m, c.ok
/-- the place of a tag -/
def tagAt (st : List Tg) (id : Nat) : Option Nat := st.findIdx? fun t => t.id == id
def rdSt (st : List Tg) (k : Nat) : List Tg := st.take (k + 1) ++ (st.drop (k + 1)).filter fun t => !t.un
def wrSt (st : List Tg) (k : Nat) : List Tg := st.take (k + 1)
def clD : Cl := ⟨0, false, 0, []⟩
def tgD : Tg := ⟨0, false⟩
def clAt (m : List Cl) (i : Nat) : Cl := m.getD i clD
/-- the place of a pointer's tag, and the code -/
def placeP (m : List Cl) (pc pt : Nat) : Nat × Int :=
  if m.length ≤ pc then (0, 4) else if (clAt m pc).al = false then (0, 1) else
    match tagAt (clAt m pc).st pt with
    | none => (0, 2)
    | some k => (k, 0)
/-- reading or writing: the memory, the code -/
def touchP (m : List Cl) (pc pt : Nat) (write : Bool) : List Cl × Int :=
  if (placeP m pc pt).2 ≠ 0 then (m, (placeP m pc pt).2) else
  if write = true then
    if ((clAt m pc).st.getD (placeP m pc pt).1 tgD).un = true then (m.set pc { clAt m pc with st := wrSt (clAt m pc).st (placeP m pc pt).1 }, 0) else (m, 3)
  else (m.set pc { clAt m pc with st := rdSt (clAt m pc).st (placeP m pc pt).1 }, 0)
def writeP (m : List Cl) (pc pt : Nat) (val : Int) : List Cl × Int :=
  if val < 0 ∨ 9 < val then (m, 4) else
  if (touchP m pc pt true).2 = 0 then ((touchP m pc pt true).1.set pc { clAt (touchP m pc pt true).1 pc with val := val }, 0) else touchP m pc pt true
def freeP (m : List Cl) (pc pt : Nat) : List Cl × Int :=
  if (touchP m pc pt true).2 = 0 then ((touchP m pc pt true).1.set pc { clAt (touchP m pc pt true).1 pc with al := false }, 0) else touchP m pc pt true
def readP (m : List Cl) (pc pt : Nat) : List Cl × Int × Int :=
  if (touchP m pc pt false).2 = 0 then ((touchP m pc pt false).1, (clAt m pc).val, 0) else ((touchP m pc pt false).1, 0, (touchP m pc pt false).2)
def pushP (m m1 : List Cl) (pc : Nat) (un : Bool) : List Cl × (Nat × Nat) × Int :=
  if (clAt m1 pc).st.length = 200 ∨ (clAt m1 pc).nx = 1000 then (m, (0, 0), 4) else
  (m1.set pc { clAt m1 pc with st := (clAt m1 pc).st ++ [⟨(clAt m1 pc).nx, un⟩], nx := (clAt m1 pc).nx + 1 }, (pc, (clAt m1 pc).nx), 0)
def lendP (m : List Cl) (pc pt : Nat) (un : Bool) : List Cl × (Nat × Nat) × Int :=
  if (touchP m pc pt un).2 ≠ 0 then ((touchP m pc pt un).1, (0, 0), (touchP m pc pt un).2) else pushP m (touchP m pc pt un).1 pc un
def newC (val : Int) : Cl := ⟨val, true, 1, [⟨0, true⟩]⟩

theorem clAt_mem {m : List Cl} {i : Nat} (h : i < m.length) : clAt m i ∈ m := by
  unfold clAt
  rw [List.getD_eq_getElem?_getD, List.getElem?_eq_getElem h]
  exact List.getElem_mem h
theorem okM.at {m : List Cl} (h : okM m) {i : Nat} (hi : i < m.length) : (clAt m i).ok := h.2 _ (clAt_mem hi)
theorem okM.set {m : List Cl} (h : okM m) (i : Nat) {c : Cl} (hc : c.ok) : okM (m.set i c) :=
  ⟨by simpa using h.1, fun x hx => by
    rcases List.mem_or_eq_of_mem_set hx with h1 | rfl
    · exact h.2 x h1
    · exact hc⟩
theorem okM.nil : okM [] := ⟨by simp, fun c h => by cases h⟩
theorem okM.snoc {m : List Cl} (h : okM m) (hl : m.length < 200) {val : Int} (h0 : 0 ≤ val) (h9 : val ≤ 9) : okM (m ++ [newC val]) :=
  ⟨by simp; omega, fun c hc => by
    rcases List.mem_append.1 hc with hc | hc
    · exact h.2 c hc
    · simp at hc
      subst hc
      exact ⟨h0, h9, by simp [newC], by simp [newC], by simp [newC], by simp [newC], fun _ => rfl, by simp [newC], by simp [newC]⟩⟩
theorem tagAt_lt {st : List Tg} {id k : Nat} (h : tagAt st id = some k) : k < st.length := by
  have := List.findIdx?_eq_some_iff_findIdx_eq.1 h
  omega
theorem placeP_ok {m : List Cl} {pc pt : Nat} (h : (placeP m pc pt).2 = 0) : pc < m.length ∧ (clAt m pc).al = true ∧ tagAt (clAt m pc).st pt = some (placeP m pc pt).1 := by
  unfold placeP at *
  split at h
  · cases h
  · rename_i h1
    split at h
    · cases h
    · rename_i h2
      split at h
      · cases h
      · rename_i k hk
        rw [if_neg h1, if_neg h2, hk]
        exact ⟨by omega, by simpa using h2, rfl⟩
theorem ok_sub {c : Cl} (h : c.ok) {st : List Tg} (hs : st.Sublist c.st) (hl : 1 ≤ st.length) (hu : ∀ h : 0 < st.length, st[0].un = true) : ({ c with st := st } : Cl).ok :=
  ⟨h.v0, h.v9, h.n0, h.n1, hl, Nat.le_trans hs.length_le h.l1, hu, h.s.sublist hs, fun t ht => h.b t (hs.subset ht)⟩
theorem wr_sub (st : List Tg) (k : Nat) : (wrSt st k).Sublist st := List.take_sublist _ _
theorem rd_sub (st : List Tg) (k : Nat) : (rdSt st k).Sublist st := by
  unfold rdSt
  have := (List.Sublist.refl (st.take (k + 1))).append (List.filter_sublist (p := fun t : Tg => !t.un) (l := st.drop (k + 1)))
  rwa [List.take_append_drop] at this
theorem ok_wr {c : Cl} (h : c.ok) (k : Nat) : ({ c with st := wrSt c.st k } : Cl).ok := by
  refine ok_sub h (wr_sub _ _) ?_ fun h0 => ?_
  · have := h.l0
    simp [wrSt]; omega
  · have := h.l0
    simp only [wrSt, List.getElem_take]
    exact h.u (by omega)
theorem ok_rd {c : Cl} (h : c.ok) (k : Nat) : ({ c with st := rdSt c.st k } : Cl).ok := by
  have := h.l0
  refine ok_sub h (rd_sub _ _) ?_ fun h0 => ?_
  · simp [rdSt]; omega
  · have : (c.st.take (k + 1)).length = min (k + 1) c.st.length := by simp
    simp only [rdSt]
    rw [List.getElem_append_left (by omega), List.getElem_take]
    exact h.u (by omega)
theorem okM.touch {m : List Cl} (h : okM m) (pc pt : Nat) (write : Bool) : okM (touchP m pc pt write).1 := by
  unfold touchP
  by_cases hk : (placeP m pc pt).2 ≠ 0
  · simp only [if_pos hk]; exact h
  · simp only [if_neg hk]
    have hp := placeP_ok (by omega : (placeP m pc pt).2 = 0)
    cases write
    · simp only [Bool.false_eq_true, if_false]
      exact h.set _ (ok_rd (h.at hp.1) _)
    · simp only [if_true]
      split
      · exact h.set _ (ok_wr (h.at hp.1) _)
      · exact h
theorem touchP_len (m : List Cl) (pc pt : Nat) (write : Bool) : (touchP m pc pt write).1.length = m.length := by
  unfold touchP
  split
  · rfl
  · split
    · split
      · simp
      · rfl
    · simp
theorem touchP_ok {m : List Cl} {pc pt : Nat} {write : Bool} (h : (touchP m pc pt write).2 = 0) : (placeP m pc pt).2 = 0 ∧ pc < m.length := by
  have : (placeP m pc pt).2 = 0 := by
    unfold touchP at h
    split at h
    · rename_i h1; exact absurd h h1
    · omega
  exact ⟨this, (placeP_ok this).1⟩
theorem okM.free {m : List Cl} (h : okM m) (pc pt : Nat) : okM (freeP m pc pt).1 := by
  have ht := h.touch pc pt true
  unfold freeP
  split
  · rename_i h0
    have hl := (touchP_ok h0).2
    rw [← touchP_len m pc pt true] at hl
    have := ht.at hl
    exact ht.set _ ⟨this.v0, this.v9, this.n0, this.n1, this.l0, this.l1, this.u, this.s, this.b⟩
  · exact ht
theorem okM.write {m : List Cl} (h : okM m) (pc pt : Nat) (val : Int) : okM (writeP m pc pt val).1 := by
  have ht := h.touch pc pt true
  unfold writeP
  split
  · exact h
  · rename_i hv
    split
    · rename_i h0
      have hl := (touchP_ok h0).2
      rw [← touchP_len m pc pt true] at hl
      have := ht.at hl
      exact ht.set _ ⟨by show 0 ≤ val; omega, by show val ≤ 9; omega, this.n0, this.n1, this.l0, this.l1, this.u, this.s, this.b⟩
    · exact ht
theorem okM.read {m : List Cl} (h : okM m) (pc pt : Nat) : okM (readP m pc pt).1 := by
  have ht := h.touch pc pt false
  unfold readP
  split <;> exact ht
theorem okM.lend {m : List Cl} (h : okM m) (pc pt : Nat) (un : Bool) : okM (lendP m pc pt un).1 := by
  have ht := h.touch pc pt un
  unfold lendP
  split
  · exact ht
  · rename_i h0
    unfold pushP
    split
    · exact h
    · rename_i hfull
      have hl := (touchP_ok (by omega : (touchP m pc pt un).2 = 0)).2
      rw [← touchP_len m pc pt un] at hl
      have hc := ht.at hl
      refine ht.set _ ⟨hc.v0, hc.v9, by show 1 ≤ _ + 1; omega, ?_, ?_, ?_, fun h0 => ?_, ?_, fun t ht => ?_⟩
      · have := hc.n1
        show _ + 1 ≤ 1000
        omega
      · simp
      · have := hc.l1
        simp; omega
      · have := hc.l0
        show ((clAt (touchP m pc pt un).1 pc).st ++ [_])[0].un = true
        rw [List.getElem_append_left (by omega)]
        exact hc.u (by omega)
      · refine List.pairwise_append.2 ⟨hc.s, List.pairwise_singleton _ _, fun a ha b hb => ?_⟩
        simp at hb
        subst hb
        exact hc.b a ha
      · show t.id < _ + 1
        rcases List.mem_append.1 ht with ht | ht
        · have := hc.b t ht; omega
        · simp at ht; subst ht; simp

structure Sl where
  set : Bool
  num : Int
  pc : Nat
  pt : Nat
def slD : Sl := ⟨false, 0, 0, 0⟩
def slAt (s : List Sl) (v : Nat) : Sl := s.getD v slD
structure Ms where
  sl : List Sl
  ce : List Cl
  rd : List Int
def endP (code : Int) : Int := if code = 1 then 3 else 4
/-- giving a variable a slot; a box's old cell is freed -/
def putP (ts : List Int) (s : Ms) (v : Nat) (x : Sl) : Ms × Option Int :=
  if ts.getD v 0 = 2 ∧ (slAt s.sl v).set = true then
    (⟨s.sl.set v x, (freeP s.ce (slAt s.sl v).pc (slAt s.sl v).pt).1, s.rd⟩, if (freeP s.ce (slAt s.sl v).pc (slAt s.sl v).pt).2 = 0 then none else some (endP (freeP s.ce (slAt s.sl v).pc (slAt s.sl v).pt).2))
  else (⟨s.sl.set v x, s.ce, s.rd⟩, none)
def finP (ts : List Int) : Nat → Nat → Ms → Ms × Int
  | 0, _, s => (s, 0)
  | n + 1, v, s =>
    if ts.getD v 0 = 2 ∧ (slAt s.sl v).set = true then
      if (freeP s.ce (slAt s.sl v).pc (slAt s.sl v).pt).2 = 0 then finP ts n (v + 1) ⟨s.sl.set v slD, (freeP s.ce (slAt s.sl v).pc (slAt s.sl v).pt).1, s.rd⟩ else (⟨s.sl, (freeP s.ce (slAt s.sl v).pc (slAt s.sl v).pt).1, s.rd⟩, endP (freeP s.ce (slAt s.sl v).pc (slAt s.sl v).pt).2)
    else finP ts n (v + 1) s

end Go.Proofs.YtfioaohadanjmaaGreat
