import Derived.Test.YtmaaaiccmllnlaaG32
import Derived.Deep.CutBlock
import Derived.Deep.DeepCutAuto
set_option linter.unusedVariables false

/- Plain: bounds of regions, and the least regions that keep them. No program in sight. -/
namespace Go.Proofs.Ytmaaaiccmllnlaa

/-- a bound: the region of v has a loan (src < 0), or all that the region of src has (loan < 0) -/
structure Bd where
  v : Int
  loan : Int
  src : Int
def bdsPt (ts : List Int) (i : Nat) (p : Pt) : List Bd := (if lonB p then [⟨p.x, (i : Nat), -1⟩] else []) ++ (if (lonB p || p.op == 3) && isRefP (typeOfP ts p.y) then [⟨p.x, -1, p.y⟩] else [])
def bdsL (ts : List Int) (at_ : Nat) : List Pt → List Bd
  | [] => []
  | p :: r => bdsPt ts at_ p ++ bdsL ts (at_ + 1) r
theorem bdsL_append (ts : List Int) (at_ : Nat) (a b : List Pt) : bdsL ts at_ (a ++ b) = bdsL ts at_ a ++ bdsL ts (at_ + a.length) b := by
  induction a generalizing at_ with
  | nil => simp [bdsL]
  | cons p r ih => simp [bdsL, ih, Nat.add_assoc, Nat.add_comm 1]
theorem bdsL_take_succ (ts : List Int) (pts : List Pt) (k : Nat) (h : k < pts.length) : bdsL ts 0 (pts.take (k + 1)) = bdsL ts 0 (pts.take k) ++ bdsPt ts k pts[k] := by
  rw [take_succ_get pts k h, bdsL_append, List.length_take, Nat.min_eq_left (by omega)]; simp [bdsL]
theorem bdsL_mem {ts : List Int} {at_ : Nat} {L : List Pt} {b : Bd} : b ∈ bdsL ts at_ L ↔ ∃ i p, L[i]? = some p ∧ b ∈ bdsPt ts (at_ + i) p := by
  induction L generalizing at_ with
  | nil => simp [bdsL]
  | cons q r ih =>
    simp only [bdsL, List.mem_append, ih]
    constructor
    · rintro (h | ⟨i, p, hp, h⟩)
      · exact ⟨0, q, rfl, h⟩
      · exact ⟨i + 1, p, by simpa using hp, by rwa [show at_ + (i + 1) = at_ + 1 + i by omega]⟩
    · rintro ⟨i, p, hp, h⟩
      cases i with
      | zero => simp at hp; subst hp; exact .inl h
      | succ i => exact .inr ⟨i, p, by simpa using hp, by rwa [show at_ + (i + 1) = at_ + 1 + i by omega] at h⟩
theorem bdsPt_len (ts : List Int) (i : Nat) (p : Pt) : (bdsPt ts i p).length ≤ 2 := by
  unfold bdsPt; repeat' split
  all_goals simp
theorem bdsL_len (ts : List Int) (at_ : Nat) (L : List Pt) : (bdsL ts at_ L).length ≤ 2 * L.length := by
  induction L generalizing at_ with
  | nil => simp [bdsL]
  | cons p r ih => have := ih (at_ + 1); have := bdsPt_len ts at_ p; simp [bdsL]; omega
theorem bdsPt_mem {ts : List Int} {i : Nat} {p : Pt} {b : Bd} : b ∈ bdsPt ts i p ↔ (lonB p = true ∧ b = ⟨p.x, (i : Nat), -1⟩) ∨ ((lonB p = true ∨ p.op = 3) ∧ isRefP (typeOfP ts p.y) = true ∧ b = ⟨p.x, -1, p.y⟩) := by
  unfold bdsPt
  rw [List.mem_append]
  refine or_congr ?_ ?_
  · by_cases h : lonB p = true
    · simp [h]
    · simp [h]
  · by_cases h : ((lonB p || p.op == 3) && isRefP (typeOfP ts p.y)) = true
    · rw [if_pos h]; simp at h; simp [h]
    · rw [if_neg h]; simp at h ⊢; intro h1 h2; exact absurd h2 (by simp [h h1])
/-- the bounds of a program's points -/
def bds (ts : List Int) (pts : List Pt) : List Bd := bdsL ts 0 pts
/-- the bounds speak of variables and loans that are there -/
structure BdOk (n m : Nat) (b : Bd) : Prop where
  v0 : 0 ≤ b.v
  v1 : b.v < n
  alt : (b.src = -1 ∧ 0 ≤ b.loan ∧ b.loan < m) ∨ (b.loan = -1 ∧ 0 ≤ b.src ∧ b.src < n)
theorem bds_ok {ts : List Int} {pts : List Pt} (g : Good ts pts) : ∀ b ∈ bds ts pts, BdOk ts.length pts.length b := by
  intro b hb
  obtain ⟨i, p, hp, hb⟩ := bdsL_mem.1 hb
  rw [Nat.zero_add] at hb
  have hi := (List.getElem?_eq_some_iff.1 hp).1
  have hop : (p.op = 3 ∨ p.op = 4 ∨ p.op = 5) := by
    rcases bdsPt_mem.1 hb with ⟨h, -⟩ | ⟨h | h, -⟩
    · exact .inr (lonB_iff.1 h)
    · exact .inr (lonB_iff.1 h)
    · exact .inl h
  rcases g.ok p (List.mem_of_getElem? hp) with hh | hh | hh | hh
  · omega
  · omega
  · omega
  · have hx := typeOf_in (simple_x hh).2.2
    have hy := typeOf_in (simple_y hh (by omega))
    rcases bdsPt_mem.1 hb with ⟨-, rfl⟩ | ⟨-, -, rfl⟩
    · exact ⟨hx.1, hx.2, .inl ⟨rfl, by simp, by simpa using hi⟩⟩
    · exact ⟨hx.1, hx.2, .inr ⟨rfl, hy.1, hy.2⟩⟩

/-- the least regions -/
inductive Rg (bs : List Bd) : Nat → Nat → Prop
  | base {v e : Nat} (h : ⟨(v : Nat), (e : Nat), -1⟩ ∈ bs) : Rg bs v e
  | step {v u e : Nat} (h : ⟨(v : Nat), -1, (u : Nat)⟩ ∈ bs) (hu : Rg bs u e) : Rg bs v e
theorem Rg.lt {bs : List Bd} {n m v e : Nat} (h : Rg bs v e) (hok : ∀ b ∈ bs, BdOk n m b) : v < n := by
  cases h with
  | base h => have := (hok _ h).v1; simpa using this
  | step h => have := (hok _ h).v1; simpa using this
theorem Rg.size {bs : List Bd} {n m v e : Nat} (h : Rg bs v e) (hok : ∀ b ∈ bs, BdOk n m b) : e < m := by
  induction h with
  | base h => rcases (hok _ h).alt with ⟨_, _, h3⟩ | ⟨h1, _, _⟩
              · simpa using h3
              · simp at h1
  | step _ _ ih => exact ih
/-- what a bound asks of sets -/
def keepB (s : Nat → Nat → Bool) (b : Bd) : Prop := if b.src < 0 then s b.v.toNat b.loan.toNat = true else ∀ e, s b.src.toNat e = true → s b.v.toNat e = true
theorem Rg.done {bs : List Bd} {n m v e : Nat} {s : Nat → Nat → Bool} (hok : ∀ b ∈ bs, BdOk n m b) (hk : ∀ b ∈ bs, keepB s b) (h : Rg bs v e) : s v e = true := by
  induction h with
  | base h => have := hk _ h; unfold keepB at this; simpa using this
  | @step v u e h _ ih =>
    have := hk _ h
    unfold keepB at this
    rw [if_neg (by simp)] at this
    simpa using this e (by simpa using ih)
/-- a bound's step stays right -/
theorem Rg.bound {bs : List Bd} {n m e : Nat} {b : Bd} {s : Nat → Nat → Bool} (hok : ∀ b ∈ bs, BdOk n m b) (hs : ∀ v e, s v e = true → Rg bs v e) (hb : b ∈ bs) (h : if b.src < 0 then e = b.loan.toNat else s b.src.toNat e = true) : Rg bs b.v.toNat e := by
  have ho := hok b hb
  have hv : ((b.v.toNat : Nat) : Int) = b.v := by have := ho.v0; omega
  rcases ho.alt with ⟨h1, h2, h3⟩ | ⟨h1, h2, h3⟩
  · rw [if_pos (by omega)] at h
    refine .base ?_
    rw [hv, h, show ((b.loan.toNat : Nat) : Int) = b.loan by omega, ← h1]; exact hb
  · rw [if_neg (by omega)] at h
    refine .step (u := b.src.toNat) ?_ (hs _ _ h)
    rw [hv, show ((b.src.toNat : Nat) : Int) = b.src by omega, ← h1]; exact hb

/-- what is there after k rounds, at the least -/
def Rk (bs : List Bd) : Nat → Nat → Nat → Prop
  | 0, _, _ => False
  | k + 1, v, e => (⟨(v : Nat), (e : Nat), -1⟩ : Bd) ∈ bs ∨ Rk bs k v e ∨ ∃ u : Nat, (⟨(v : Nat), -1, (u : Nat)⟩ : Bd) ∈ bs ∧ Rk bs k u e
theorem Rk.rg {bs : List Bd} {k v e : Nat} (h : Rk bs k v e) : Rg bs v e := by
  induction k generalizing v with
  | zero => exact h.elim
  | succ k ih =>
    rcases h with h | h | ⟨u, hu, h⟩
    · exact .base h
    · exact ih h
    · exact .step hu (ih h)
theorem Rk.up {bs : List Bd} {k j v e : Nat} (h : Rk bs k v e) (hk : k ≤ j) : Rk bs j v e := by
  induction j with
  | zero => have : k = 0 := by omega
            subst this; exact h
  | succ j ih =>
    by_cases e : k = j + 1
    · subst e; exact h
    · exact .inr (.inl (ih (by omega)))
theorem Rk.stop {bs : List Bd} {k e : Nat} (h : ∀ v, Rk bs (k + 1) v e → Rk bs k v e) {v : Nat} (hr : Rg bs v e) : Rk bs k v e := by
  induction hr with
  | base hb => exact h _ (.inl hb)
  | step hb _ ih => exact h _ (.inr (.inr ⟨_, hb, ih h⟩))
/-- n + 1 rounds are enough for n variables -/
theorem Rk.all {bs : List Bd} {n m v e : Nat} (hok : ∀ b ∈ bs, BdOk n m b) (h : Rg bs v e) : Rk bs (n + 1) v e := by
  refine Classical.byContradiction fun hno => ?_
  have grow : ∀ k, k ≤ n + 1 → k ≤ sumN n fun u => if dec (Rk bs k u e) then 1 else 0 := by
    intro k
    induction k with
    | zero => intro _; exact Nat.zero_le _
    | succ k ih =>
      intro hk
      have h1 := ih (by omega)
      have hne : ¬ ∀ u, Rk bs (k + 1) u e → Rk bs k u e := fun hs => hno ((Rk.stop hs h).up (by omega))
      obtain ⟨u, hu⟩ := Classical.not_forall.1 hne
      have hu2 : Rk bs (k + 1) u e ∧ ¬ Rk bs k u e := Classical.byContradiction fun hh => hu fun h1 => Classical.byContradiction fun h2 => hh ⟨h1, h2⟩
      have := sumN_lt (n := n) (k := u) (f := fun u => if dec (Rk bs k u e) then 1 else 0) (g := fun u => if dec (Rk bs (k + 1) u e) then 1 else 0) (fun i _ => by
        by_cases h : Rk bs k i e
        · simp only [dec_true h, dec_true (h.up (Nat.le_succ k))]; omega
        · simp only [dec_false h]; simp) (hu2.1.rg.lt hok) (by simp only [dec_true hu2.1, dec_false hu2.2]; simp)
      omega
  have h1 := grow (n + 1) (Nat.le_refl _)
  have h2 : ∀ n, (sumN n fun u => if dec (Rk bs (n + 1) u e) then 1 else 0) ≤ n := fun n => by
    have : ∀ (f : Nat → Nat) n, (∀ i, f i ≤ 1) → sumN n f ≤ n := fun f n hf => by
      induction n with
      | zero => exact Nat.le_refl _
      | succ n ih => have := hf n; simp only [sumN]; omega
    exact this _ n fun i => by split <;> omega
  have := h2 n
  omega
/-- sets that have what k rounds give, and along which the first i bounds were gone once more -/
structure RdI (bs : List Bd) (k i : Nat) (s : Nat → Nat → Bool) : Prop where
  snd : ∀ v e, s v e = true → Rg bs v e
  has : ∀ v e, Rk bs k v e → s v e = true
  part : ∀ b ∈ bs.take i, if b.src < 0 then s b.v.toNat b.loan.toNat = true else ∀ e, Rk bs k b.src.toNat e → s b.v.toNat e = true
theorem RdI.next {bs : List Bd} {n m k : Nat} {s : Nat → Nat → Bool} (hok : ∀ b ∈ bs, BdOk n m b) (h : RdI bs k bs.length s) : RdI bs (k + 1) 0 s := by
  refine ⟨h.snd, fun v e hr => ?_, fun b hb => by simp at hb⟩
  have hp := h.part
  rw [List.take_length] at hp
  rcases hr with hr | hr | ⟨u, hb, hr⟩
  · have := hp _ hr; simpa using this
  · exact h.has v e hr
  · have := hp _ hb
    rw [if_neg (by simp)] at this
    simpa using this e (by simpa using hr)
theorem RdI.go {bs : List Bd} {n m k i : Nat} {s s' : Nat → Nat → Bool} (hok : ∀ b ∈ bs, BdOk n m b) (h : RdI bs k i s) (hi : i < bs.length)
    (hs : ∀ v e, s' v e = true ↔ s v e = true ∨ (v = bs[i].v.toNat ∧ if bs[i].src < 0 then e = bs[i].loan.toNat else s bs[i].src.toNat e = true)) : RdI bs k (i + 1) s' := by
  have up : ∀ v e, s v e = true → s' v e = true := fun v e h => (hs v e).2 (.inl h)
  refine ⟨fun v e h2 => ?_, fun v e h2 => up v e (h.has v e h2), fun b hb => ?_⟩
  · rcases (hs v e).1 h2 with h3 | ⟨rfl, h3⟩
    · exact h.snd v e h3
    · exact Rg.bound hok h.snd (List.getElem_mem hi) h3
  · rw [take_succ_get bs i hi, List.mem_append, List.mem_singleton] at hb
    rcases hb with hb | rfl
    · have := h.part b hb
      by_cases h1 : b.src < 0
      · rw [if_pos h1] at this ⊢; exact up _ _ this
      · rw [if_neg h1] at this ⊢; exact fun e he => up _ _ (this e he)
    · by_cases h1 : bs[i].src < 0
      · rw [if_pos h1]; exact (hs _ _).2 (.inr ⟨rfl, by rw [if_pos h1]⟩)
      · rw [if_neg h1]; exact fun e he => (hs _ _).2 (.inr ⟨rfl, by rw [if_neg h1]; exact h.has _ _ he⟩)
theorem RdI.done {bs : List Bd} {n m k : Nat} {s : Nat → Nat → Bool} (hok : ∀ b ∈ bs, BdOk n m b) (h : RdI bs k 0 s) (hk : n + 1 ≤ k) (v e : Nat) : s v e = true ↔ Rg bs v e :=
  ⟨h.snd v e, fun hr => h.has v e ((Rk.all hok hr).up hk)⟩

/-- from where a value can come lies in the region -/
theorem Fl.region {ts : List Int} {pts : List Pt} {i v e : Nat} (g : Good ts pts) (h : Fl ts pts Gloan (Cloan ts) i v e) : Rg (bds ts pts) v e := by
  have hx : ∀ (v : Nat) (p : Pt), (p.op = 3 ∨ p.op = 4 ∨ p.op = 5) → setsP p.op p.x = (v : Nat) → p.x = (v : Nat) := fun v p ho hs => by
    rw [← hs]; unfold setsP; rw [if_pos (by omega)]
  induction h with
  | @gen i k v e p hp hk hv hs h =>
    obtain ⟨ho, rfl⟩ := Gloan_iff.1 h
    refine .base (bdsL_mem.2 ⟨e, p, hp, bdsPt_mem.2 (.inl ⟨lonB_iff.2 ho, ?_⟩)⟩)
    rw [hx v p (.inr ho) hs, Nat.zero_add]
  | @copy i k v e p hp hk hv hs hc hi ih =>
    have hr := (hi.loanOf g).2.2
    have ho : p.op = 3 ∨ p.op = 4 ∨ p.op = 5 := by
      unfold Cloan at hc; simp at hc
      rcases hc with h | ⟨h, _⟩ <;> omega
    have hy : ((p.y.toNat : Nat) : Int) = p.y := by
      rcases g.ok p (List.mem_of_getElem? hp) with hh | hh | hh | hh
      · omega
      · omega
      · omega
      · have := typeOf_in (simple_y hh (by omega)); omega
    rw [hy] at hr
    refine .step (u := p.y.toNat) (bdsL_mem.2 ⟨i, p, hp, bdsPt_mem.2 (.inr ⟨?_, hr, ?_⟩)⟩) ih
    · rcases ho with h | h
      · exact .inr h
      · exact .inl (lonB_iff.2 h)
    · rw [hx v p ho hs, hy]
  | keep _ _ _ _ _ _ ih => exact ih

/-- all bounds hold for regions (lists of numbers) -/
def bndP (bs : List Bd) (rs : List (List Int)) : Bool := bs.all fun b => if b.src < 0 then hasP (rs.getD b.v.toNat []) b.loan else (rs.getD b.src.toNat []).all fun n => hasP (rs.getD b.v.toNat []) n
theorem bndP_least {bs : List Bd} {n m : Nat} {rs : List (List Int)} (hok : ∀ b ∈ bs, BdOk n m b) (h : bndP bs rs = true) {v e : Nat} (hr : Rg bs v e) : hasP (rs.getD v []) (e : Nat) = true := by
  unfold bndP at h
  rw [List.all_eq_true] at h
  induction hr with
  | base hb => have := h _ hb; simpa using this
  | @step v u e hb _ ih =>
    have := h _ hb
    rw [if_neg (by simp), List.all_eq_true] at this
    have := this (e : Nat) (by rw [← hasP_iff]; simpa using ih)
    simpa using this
noncomputable def regL (bs : List Bd) (m v : Nat) : List Int := lst m fun e => dec (Rg bs v e)
/-- regions with all that the least ones have, and none of which has more than another one where a bound goes -/
theorem bndP_of {bs : List Bd} {n m : Nat} {rs : List (List Int)} (hok : ∀ b ∈ bs, BdOk n m b) (hl : rs.length = n) (f : Nat → Nat → Bool) (hf : ∀ v, v < n → rs.getD v [] = lst m (f v))
    (hb : ∀ v e : Nat, (⟨(v : Nat), (e : Nat), -1⟩ : Bd) ∈ bs → f v e = true) (hs : ∀ v u e : Nat, (⟨(v : Nat), -1, (u : Nat)⟩ : Bd) ∈ bs → f u e = true → f v e = true) : bndP bs rs = true := by
  unfold bndP
  rw [List.all_eq_true]
  intro b hbm
  have ho := hok b hbm
  obtain ⟨bv, bl, bs'⟩ := b
  obtain ⟨v, rfl⟩ : ∃ v : Nat, bv = v := ⟨bv.toNat, by have := ho.v0; simp at this; omega⟩
  have hv : v < n := by have := ho.v1; simpa using this
  rcases ho.alt with ⟨h1, h2, h3⟩ | ⟨h1, h2, h3⟩
  · simp only at h1 h2 h3
    obtain ⟨e, rfl⟩ : ∃ e : Nat, bl = e := ⟨bl.toNat, by omega⟩
    subst h1
    rw [if_pos (by simp)]
    simp only [Int.toNat_natCast]
    rw [hf v hv, lst_has, hb v e hbm, Bool.and_true]
    simp; omega
  · simp only at h1 h2 h3
    obtain ⟨u, rfl⟩ : ∃ u : Nat, bs' = u := ⟨bs'.toNat, by omega⟩
    subst h1
    rw [if_neg (by simp), List.all_eq_true]
    intro x hx
    simp only [Int.toNat_natCast] at hx ⊢
    rw [hf u (by omega)] at hx
    obtain ⟨e, he, hfe, rfl⟩ := lst_mem.1 hx
    rw [hf v hv, lst_has, hs v u e hbm hfe, Bool.and_true]
    simpa using he
theorem bndP_reg {bs : List Bd} {n m : Nat} {rs : List (List Int)} (hok : ∀ b ∈ bs, BdOk n m b) (hl : rs.length = n) (hf : ∀ v, v < n → rs.getD v [] = regL bs m v) : bndP bs rs = true :=
  bndP_of hok hl (fun v e => dec (Rg bs v e)) hf (fun v e h => dec_true (.base h)) (fun v u e h he => dec_true (.step h (dec_iff.1 he)))

end Go.Proofs.Ytmaaaiccmllnlaa

/- spec.l4Lose, l4Within. -/
namespace Go.Proofs.Ytmaaaiccmllnlaa
open Go.RowKit

/-- is e a loan of v? -/
def lonV (pts : List Pt) (v : Int) (e : Nat) : Bool := match pts[e]? with
  | some q => lonB q && (q.y == v)
  | none => false
set_option maxHeartbeats 2000000 in
set_option maxRecDepth 100000 in
theorem l4Lose_any (Af : Option Addr) (nf cf : Nat) (vpts : Value) (gp cp B lo : Nat) (pts : List Pt) (P : List Bool) (v : Int) (w : World) (hps : PtS w B vpts pts) (hB : B ≤ w.heap.size) (hgp : B ≤ gp) (hP : OBools w lo (.slice (some ⟨gp, 0, none⟩) pts.length cp) P) (hl : P.length = pts.length) (hpl : pts.length ≤ 100) :
    Calls Try.prog 143 #[.agg #[.slice Af nf cf, .slice (some ⟨gp, 0, none⟩) pts.length cp], vpts, .int .i64 v] w fun e w' => e = .returned (.tuple #[]) ∧ ∃ P', OBools w' lo (.slice (some ⟨gp, 0, none⟩) pts.length cp) P' ∧ P'.length = pts.length ∧ (∀ e, P'.getD e false = (P.getD e false && !lonV pts v e)) ∧ Onl (fun b => b = gp) w w' := by
  have HPS := Lib.hid hps
  have HP := Lib.hid hP
  have HL := Lib.hid hl
  obtain ⟨Ap, cpp, rfl, hcp, -⟩ := hps.slice
  have hgl : gp < w.heap.size := (hP.own_lt rfl).2
  have HX : Hid ((w.alloc (.cells #[.slice Af nf cf, .slice (some ⟨gp, 0, none⟩) pts.length cp] 104)).heap[w.heap.size]? = some (.cells #[.slice Af nf cf, .slice (some ⟨gp, 0, none⟩) pts.length cp] 104 (0, 0))) := Lib.hid (heap_alloc_new w _)
  have HB0 := Lib.hid (bel_a w (.cells #[.slice Af nf cf, .slice (some ⟨gp, 0, none⟩) pts.length cp] 104))
  have HP0 := Lib.hid (hP.bel HB0.out)
  clear hps hP hl
  go_enter Try.func143, Try.ntmps143
  go_wp2_with (at_builtin; fail)
  generalize w.alloc (.cells #[.slice Af nf cf, .slice (some ⟨gp, 0, none⟩) pts.length cp] 104) = w1 at *
  have hs1 := HB0.out.size
  have hgl1 : gp < w1.heap.size := by omega
  go_loopw [6] (fun i wr => ∃ (k : Nat) (P' : List Bool), k ≤ pts.length ∧ i = .int .i64 k ∧ OBools wr lo (.slice (some ⟨gp, 0, none⟩) pts.length cp) P' ∧ P'.length = pts.length ∧ (∀ e, P'.getD e false = (P.getD e false && !(decide (e < k) && lonV pts v e))) ∧ Onl (fun b => b = gp) w1 wr) (fun i _ => pts.length - (intOf i).toNat)
  case atStart => exact ⟨0, P, Nat.zero_le _, rfl, HP0.out, HL.out, fun e => by simp, Onl.refl _ _⟩
  case round =>
    obtain ⟨k, P', hk, rfl, hP', hl', hge, hon⟩ := hrel
    have HPW := Lib.hid hP'
    have HLW := Lib.hid hl'
    have HGE := Lib.hid hge
    have HON := Lib.hid hon
    have hsw := hon.size
    have hbo := (Onl.below hon (B := gp) (by omega) (fun k e => by have e' : k = gp := e; omega))
    have HPTS := Lib.hid ((HPS.out.low HB0.out hB).low hbo hgp)
    have HXW : Hid (wr.heap[w.heap.size]? = some (.cells #[.slice Af nf cf, .slice (some ⟨gp, 0, none⟩) pts.length cp] 104)) := Lib.hid ((hon.block w.heap.size (row_lt HX.out) (fun e => by have e' : w.heap.size = gp := e; omega)).trans HX.out)
    have b0 : wr.cell? ⟨w.heap.size, 0, none⟩ = some (.slice Af nf cf) := by rw [cell_of_row _ _ _ _ _ _ HXW.out]; rfl
    have b1 : wr.cell? ⟨w.heap.size, 1, none⟩ = some (.slice (some ⟨gp, 0, none⟩) pts.length cp) := by rw [cell_of_row _ _ _ _ _ _ HXW.out]; rfl
    clear hP' hl' hge hon hbo
    by_cases hlt : k < pts.length
    · obtain ⟨bp, op, cq, nv, e, hbp, hcq, hlp, hnx, z0, z1, z2, z3, z4⟩ := HPTS.out.get hlt
      injection e with e1 e9 e2
      subst e1 e2
      clear e9 hnx
      have HLV : Hid (lonV pts v k = (lonB pts[k] && ((pts[k]).y == v))) := Lib.hid (by unfold lonV; rw [List.getElem?_eq_getElem hlt])
      generalize pts[k] = Q at *
      have HNO : Hid (lonV pts v k = false → ∀ e, P'.getD e false = (P.getD e false && !(decide (e < k + 1) && lonV pts v e))) := Lib.hid fun h e => by
        rw [HGE.out e]
        by_cases h1 : e < k
        · rw [decide_eq_true h1, decide_eq_true (by omega)]
        · rw [decide_eq_false h1]
          by_cases h2 : e = k
          · rw [h2, h]; simp
          · rw [decide_eq_false (by omega)]
      have HYES : Hid (lonV pts v k = true → ∀ e, (P'.set k false).getD e false = (P.getD e false && !(decide (e < k + 1) && lonV pts v e))) := Lib.hid fun h e => by
        rw [getD_setT (by rw [HLW.out]; exact hlt)]
        by_cases h2 : e = k
        · rw [if_pos h2, h2, h]; simp
        · rw [if_neg h2, HGE.out e]
          by_cases h1 : e < k
          · rw [decide_eq_true h1, decide_eq_true (by omega)]
          · rw [decide_eq_false h1, decide_eq_false (by omega)]
      obtain ⟨g', eg, -, -, -, hcp2, hfp⟩ := HPW.out.at_ (k := k) (by rw [HLW.out]; exact hlt)
      injection eg with eg
      injection eg with eg
      subst eg
      by_cases hlo : lonB Q = true
      · by_cases hy : Q.y = v
        · have hye : (Q.y == v) = true := by simpa using hy
          have HE := Lib.hid (HYES.out (by rw [HLV.out, hlo, hye]; rfl))
          have hop : Q.op = 4 ∨ Q.op = 5 := lonB_iff.1 hlo
          clear hlo hy
          rcases hop with hop | hop
          · have ho4 : (Q.op == 4) = true := by rw [hop]; rfl
            clear hop
            go_wp2_with (at_builtin; fail)
            exact ⟨⟨k + 1, P'.set k false, by omega, by go_num, HPW.out.set k false, by rw [List.length_set]; exact HLW.out, HE.out, HON.out.trans (Onl.set (S := fun b => b = gp) _ rfl _ _)⟩, by simp [intOf] <;> omega⟩
          · have ho4 : (Q.op == 4) = false := by rw [hop]; rfl
            have ho5 : (Q.op == 5) = true := by rw [hop]; rfl
            clear hop
            go_wp2_with (at_builtin; fail)
            exact ⟨⟨k + 1, P'.set k false, by omega, by go_num, HPW.out.set k false, by rw [List.length_set]; exact HLW.out, HE.out, HON.out.trans (Onl.set (S := fun b => b = gp) _ rfl _ _)⟩, by simp [intOf] <;> omega⟩
        · have hye : (Q.y == v) = false := by simpa using hy
          have HE := Lib.hid (HNO.out (by rw [HLV.out, hye]; simp))
          have hop : Q.op = 4 ∨ Q.op = 5 := lonB_iff.1 hlo
          clear hlo hy
          rcases hop with hop | hop
          · have ho4 : (Q.op == 4) = true := by rw [hop]; rfl
            clear hop
            go_wp2_with (at_builtin; fail)
            exact ⟨⟨k + 1, P', by omega, by go_num, HPW.out, HLW.out, HE.out, HON.out⟩, by simp [intOf] <;> omega⟩
          · have ho4 : (Q.op == 4) = false := by rw [hop]; rfl
            have ho5 : (Q.op == 5) = true := by rw [hop]; rfl
            clear hop
            go_wp2_with (at_builtin; fail)
            exact ⟨⟨k + 1, P', by omega, by go_num, HPW.out, HLW.out, HE.out, HON.out⟩, by simp [intOf] <;> omega⟩
      · rw [Bool.not_eq_true] at hlo
        have HE := Lib.hid (HNO.out (by rw [HLV.out, hlo]; rfl))
        have ho4 : (Q.op == 4) = false := by
          cases h : (Q.op == 4)
          · rfl
          · unfold lonB at hlo; rw [h] at hlo; simp at hlo
        have ho5 : (Q.op == 5) = false := by
          cases h : (Q.op == 5)
          · rfl
          · unfold lonB at hlo; rw [h] at hlo; simp at hlo
        clear hlo
        go_wp2_with (at_builtin; fail)
        exact ⟨⟨k + 1, P', by omega, by go_num, HPW.out, HLW.out, HE.out, HON.out⟩, by simp [intOf] <;> omega⟩
    · have hke : k = pts.length := by omega
      have HFIN : Hid (∀ e, P'.getD e false = (P.getD e false && !lonV pts v e)) := Lib.hid fun e => by
        rw [HGE.out e, hke]
        by_cases h : e < pts.length
        · rw [decide_eq_true h, Bool.true_and]
        · unfold lonV; rw [List.getElem?_eq_none (by omega)]; simp
      clear hke
      go_wp2_with (at_builtin; fail)
      go_end0
      exact ⟨rfl, P', HPW.out, HLW.out, HFIN.out, (Onl.bel HB0.out).trans HON.out⟩

/-- what l4Within answers -/
def WinRet (w : World) (n s : Nat) (Fa : List (List Bool)) (Pa : List Bool) (Fb : List (List Bool)) (Pb : List Bool) (e : Ending) (w' : World) : Prop :=
  ∃ c, e = .returned (.bool c) ∧ (c = true → (∀ e, e < s → Pa.getD e false = true → Pb.getD e false = true) ∧ ∀ v e, v < n → e < s → rget Fa v e = true → rget Fb v e = true) ∧
    (c = false → (∃ e, e < s ∧ Pa.getD e false = true ∧ Pb.getD e false = false) ∨ ∃ v e, v < n ∧ e < s ∧ rget Fa v e = true ∧ rget Fb v e = false) ∧ Below w.heap.size w w'
set_option maxHeartbeats 4000000 in
set_option maxRecDepth 100000 in
theorem l4Within_any (vfa vpa vfb vpb : Value) (n s : Nat) (Fa : List (List Bool)) (Pa : List Bool) (Fb : List (List Bool)) (Pb : List Bool) (Qa Qb : Nat → Prop) (w : World) (hfa : RwX w Qa vfa Fa) (hpa : BoolX w Qa vpa Pa) (hfb : RwX w Qb vfb Fb) (hpb : BoolX w Qb vpb Pb)
    (h1 : Fa.length = n) (h2 : Fb.length = n) (h3 : Pa.length = s) (h4 : Pb.length = s) (h5 : ∀ v, v < n → (Fa.getD v []).length = s) (h6 : ∀ v, v < n → (Fb.getD v []).length = s) (hs : s ≤ 100) (hn : n ≤ 100) :
    Calls Try.prog 124 #[.agg #[vfa, vpa], .agg #[vfb, vpb]] w (WinRet w n s Fa Pa Fb Pb) := by
  obtain ⟨Afa, cfa, rfl, hcfa⟩ := hfa.slice
  obtain ⟨Apa, cpa, rfl, hcpa⟩ := hpa.slice
  obtain ⟨Afb, cfb, rfl, hcfb⟩ := hfb.slice
  obtain ⟨Apb, cpb, rfl, hcpb⟩ := hpb.slice
  have HX0 : Hid (((w.alloc (.cells #[.slice Afa Fa.length cfa, .slice Apa Pa.length cpa] 104 (0, 0))).alloc (.cells #[.slice Afb Fb.length cfb, .slice Apb Pb.length cpb] 104 (0, 0))).heap[w.heap.size]? = some (.cells #[.slice Afa Fa.length cfa, .slice Apa Pa.length cpa] 104 (0, 0))) := Lib.hid (row_below (heap_alloc_new w _) (bel_a _ _))
  have HX1 : Hid (((w.alloc (.cells #[.slice Afa Fa.length cfa, .slice Apa Pa.length cpa] 104 (0, 0))).alloc (.cells #[.slice Afb Fb.length cfb, .slice Apb Pb.length cpb] 104 (0, 0))).heap[w.heap.size + 1]? = some (.cells #[.slice Afb Fb.length cfb, .slice Apb Pb.length cpb] 104 (0, 0))) := Lib.hid (by
    have h := heap_alloc_new (w.alloc (.cells #[.slice Afa Fa.length cfa, .slice Apa Pa.length cpa] 104 (0, 0))) (.cells #[.slice Afb Fb.length cfb, .slice Apb Pb.length cpb] 104 (0, 0))
    rw [show (w.alloc (.cells #[.slice Afa Fa.length cfa, .slice Apa Pa.length cpa] 104 (0, 0))).heap.size = w.heap.size + 1 by simp] at h
    exact h)
  have HB0 : Hid (Below w.heap.size w ((w.alloc (.cells #[.slice Afa Fa.length cfa, .slice Apa Pa.length cpa] 104 (0, 0))).alloc (.cells #[.slice Afb Fb.length cfb, .slice Apb Pb.length cpb] 104 (0, 0)))) := Lib.hid ((bel_a w _).alloc (by simp) _)
  have HFA := Lib.hid (hfa.bel HB0.out)
  have HPA := Lib.hid (hpa.bel HB0.out)
  have HFB := Lib.hid (hfb.bel HB0.out)
  have HPB := Lib.hid (hpb.bel HB0.out)
  have HRA := Lib.hid h5
  have HRB := Lib.hid h6
  clear hfa hpa hfb hpb h5 h6
  have h3a : Pa.length ≤ s := by omega
  have h3b : s ≤ Pa.length := by omega
  have h4b : s ≤ Pb.length := by omega
  have h1a : Fa.length ≤ n := by omega
  have h1b : n ≤ Fa.length := by omega
  have h2b : n ≤ Fb.length := by omega
  have H3 := Lib.hid h3
  have H4 := Lib.hid h4
  clear h1 h2 h3 h4
  go_enter Try.func124, Try.ntmps124
  go_wp2_with (at_builtin; fail)
  generalize ((w.alloc (.cells #[.slice Afa Fa.length cfa, .slice Apa Pa.length cpa] 104 (0, 0))).alloc (.cells #[.slice Afb Fb.length cfb, .slice Apb Pb.length cpb] 104 (0, 0))) = w2 at *
  have a0 : w2.cell? ⟨w.heap.size, 0, none⟩ = some (.slice Afa Fa.length cfa) := by rw [cell_of_row _ _ _ _ _ _ HX0.out]; rfl
  have a1 : w2.cell? ⟨w.heap.size, 1, none⟩ = some (.slice Apa Pa.length cpa) := by rw [cell_of_row _ _ _ _ _ _ HX0.out]; rfl
  have d0 : w2.cell? ⟨w.heap.size + 1, 0, none⟩ = some (.slice Afb Fb.length cfb) := by rw [cell_of_row _ _ _ _ _ _ HX1.out]; rfl
  have d1 : w2.cell? ⟨w.heap.size + 1, 1, none⟩ = some (.slice Apb Pb.length cpb) := by rw [cell_of_row _ _ _ _ _ _ HX1.out]; rfl
  go_loopw [5] (fun i wr => ∃ k : Nat, k ≤ s ∧ i = .int .i64 k ∧ (∀ e, e < k → (Pa.getD e false = true → Pb.getD e false = true) ∧ ∀ v, v < n → rget Fa v e = true → rget Fb v e = true) ∧ w2 = wr) (fun i _ => s - (intOf i).toNat)
  case atStart => exact ⟨0, Nat.zero_le _, rfl, fun e he => by omega, rfl⟩
  case round =>
    obtain ⟨k, hk, rfl, hge, rfl⟩ := hrel
    have HGE := Lib.hid hge
    clear hge
    by_cases hlt : k < s
    · obtain ⟨b1, o1, rfl, -, hb1, e9, hca⟩ := HPA.out.at_ (k := k) (by omega)
      obtain ⟨b2, o2, rfl, -, hb2, e9, hcb⟩ := HPB.out.at_ (k := k) (by omega)
      have hka : k < Pa.length := by omega
      have hkb : k < Pb.length := by omega
      clear e9
      obtain ⟨x, hx⟩ : ∃ x, x = Pa.getD k false := ⟨_, rfl⟩
      obtain ⟨y, hy⟩ : ∃ y, y = Pb.getD k false := ⟨_, rfl⟩
      rw [← hx] at hca
      rw [← hy] at hcb
      have HX := Lib.hid hx
      have HY := Lib.hid hy
      clear hx hy
      by_cases hxy : x = true ∧ y = false
      · obtain ⟨rfl, rfl⟩ := hxy
        go_wp2_with (at_builtin; fail)
        go_ret
        exact ⟨false, rfl, fun h => (by cases h), fun _ => .inl ⟨k, hlt, HX.out.symm, HY.out.symm⟩, HB0.out⟩
      · have HXY : Hid (Pa.getD k false = true → Pb.getD k false = true) := Lib.hid fun h => by
          rw [← HX.out] at h; rw [← HY.out]
          cases y
          · exact absurd ⟨h, rfl⟩ hxy
          · rfl
        have hcase : x = false ∨ (x = true ∧ y = true) := by
          cases x
          · exact .inl rfl
          · cases y
            · exact absurd ⟨rfl, rfl⟩ hxy
            · exact .inr ⟨rfl, rfl⟩
        clear hxy
        go_upto_region 4 with (at_builtin; fail)
        go_cut [26] from 7 to 52 (fun s26 wx => s26 = .bool false ∧ w2 = wx)
        case first =>
          rcases hcase with rfl | ⟨rfl, rfl⟩
          · go_wp2_with (at_builtin; fail)
            go_meet
            exact ⟨rfl, rfl⟩
          · go_wp2_with (at_builtin; fail)
            go_meet
            exact ⟨rfl, rfl⟩
        case rest =>
          obtain ⟨rfl, rfl⟩ := hcut
          clear hcase hca hcb
          go_wp2_with (at_builtin; fail)
          go_loopw [6] (fun i wr => ∃ j : Nat, j ≤ n ∧ i = .int .i64 j ∧ (∀ v, v < j → rget Fa v k = true → rget Fb v k = true) ∧ w2 = wr) (fun i _ => n - (intOf i).toNat)
          case atStart => exact ⟨0, Nat.zero_le _, rfl, fun v hv => by omega, rfl⟩
          case round =>
            obtain ⟨j, hj, rfl, hje, rfl⟩ := hrel
            have HJE := Lib.hid hje
            clear hje
            by_cases hjl : j < n
            · obtain ⟨b3, o3, rv3, rfl, -, hb3, e9, hc3, hr3⟩ := HFA.out.at_ (i := j) (by omega)
              obtain ⟨b4, o4, rv4, rfl, -, hb4, e9, hc4, hr4⟩ := HFB.out.at_ (i := j) (by omega)
              have hlA : k < (Fa.getD j []).length := by rw [HRA.out j hjl]; exact hlt
              have hlB : k < (Fb.getD j []).length := by rw [HRB.out j hjl]; exact hlt
              have hjA : j < Fa.length := by omega
              have hjB : j < Fb.length := by omega
              have HGA : Hid (rget Fa j k = (Fa.getD j []).getD k false) := Lib.hid rfl
              have HGB : Hid (rget Fb j k = (Fb.getD j []).getD k false) := Lib.hid rfl
              generalize Fa.getD j [] = ra at *
              generalize Fb.getD j [] = rb at *
              obtain ⟨A3, c3, rfl, hcc3⟩ := hr3.slice
              obtain ⟨A4, c4, rfl, hcc4⟩ := hr4.slice
              obtain ⟨b5, o5, rfl, -, hb5, e9, hc5⟩ := hr3.at_ hlA
              obtain ⟨b6, o6, rfl, -, hb6, e9, hc6⟩ := hr4.at_ hlB
              clear e9 hr3 hr4
              rw [← HGA.out] at hc5
              rw [← HGB.out] at hc6
              have HPp : Hid (∃ p, p = rget Fa j k) := Lib.hid ⟨_, rfl⟩
              obtain ⟨p, hp⟩ : ∃ p, p = rget Fa j k := ⟨_, rfl⟩
              obtain ⟨q, hq⟩ : ∃ q, q = rget Fb j k := ⟨_, rfl⟩
              rw [← hp] at hc5
              rw [← hq] at hc6
              clear HPp
              have HPp := Lib.hid hp
              have HQq := Lib.hid hq
              clear hp hq
              by_cases hpq : p = true ∧ q = false
              · obtain ⟨rfl, rfl⟩ := hpq
                go_wp2_with (at_builtin; fail)
                go_ret
                exact ⟨false, rfl, fun h => (by cases h), fun _ => .inr ⟨j, k, hjl, hlt, HPp.out.symm, HQq.out.symm⟩, HB0.out⟩
              · have HPQ : Hid (∀ v, v < j + 1 → rget Fa v k = true → rget Fb v k = true) := Lib.hid fun v hv h => by
                  by_cases hvj : v < j
                  · exact HJE.out v hvj h
                  · have : v = j := by omega
                    subst this
                    rw [← HPp.out] at h; rw [← HQq.out]
                    cases q
                    · exact absurd ⟨h, rfl⟩ hpq
                    · rfl
                have hcase : p = false ∨ (p = true ∧ q = true) := by
                  cases p
                  · exact .inl rfl
                  · cases q
                    · exact absurd ⟨rfl, rfl⟩ hpq
                    · exact .inr ⟨rfl, rfl⟩
                clear hpq
                go_upto_region 9 with (at_builtin; fail)
                go_cut [52] from 27 to 52 (fun s52 wx => s52 = .bool false ∧ w2 = wx)
                case first =>
                  rcases hcase with rfl | ⟨rfl, rfl⟩
                  · go_wp2_with (at_builtin; fail)
                    go_meet
                    exact ⟨rfl, rfl⟩
                  · go_wp2_with (at_builtin; fail)
                    go_meet
                    exact ⟨rfl, rfl⟩
                case rest =>
                  obtain ⟨rfl, rfl⟩ := hcut
                  go_wp2_with (at_builtin; fail)
                  exact ⟨⟨j + 1, by omega, by go_num, HPQ.out, trivial⟩, by simp [intOf] <;> omega⟩
            · have hjn : j = n := by omega
              have HEN : Hid (∀ e, e < k + 1 → (Pa.getD e false = true → Pb.getD e false = true) ∧ ∀ v, v < n → rget Fa v e = true → rget Fb v e = true) := Lib.hid fun e he => by
                by_cases hek : e < k
                · exact HGE.out e hek
                · have : e = k := by omega
                  subst this
                  exact ⟨HXY.out, by rw [← hjn]; exact HJE.out⟩
              clear hjn
              go_wp2_with (at_builtin; fail)
              exact ⟨⟨k + 1, by omega, by go_num, HEN.out, trivial⟩, by simp [intOf] <;> omega⟩
    · have hks : k = s := by omega
      have HEN : Hid ((∀ e, e < s → Pa.getD e false = true → Pb.getD e false = true) ∧ ∀ v e, v < n → e < s → rget Fa v e = true → rget Fb v e = true) := Lib.hid (by
        rw [← hks]
        exact ⟨fun e he => (HGE.out e he).1, fun v e hv he => (HGE.out e he).2 v hv⟩)
      clear hks
      go_wp2_with (at_builtin; fail)
      go_ret
      exact ⟨true, rfl, fun _ => HEN.out, fun h => (by cases h), HB0.out⟩

end Go.Proofs.Ytmaaaiccmllnlaa
