import Derived.Test.YtidlifijgooceaaJ17
import Derived.Test.YtidlifijgooceaaJ11
import Derived.Test.YtidlifijgooceaaJ32
import Derived.Test.YtidlifijgooceaaJ06
set_option linter.unusedVariables false

/- Plain: the state of a search whose sets are rows of bools, one for each point and variable. No program in sight. -/
namespace Go.Proofs.Ytidlifijgooceaa

def get3 (R : List (List (List Bool))) (i v e : Nat) : Bool := rget (R.getD i []) v e
structure RwI (ts : List Int) (pts : List Pt) (G : Nat → Pt → Nat → Bool) (C : Pt → Bool) (s : Nat) (R : List (List (List Bool))) : Prop where
  len : R.length = pts.length
  row : ∀ i, i < R.length → (R.getD i []).length = ts.length
  inn : ∀ i v, i < R.length → v < ts.length → ((R.getD i []).getD v []).length = s
  snd : ∀ i v e, get3 R i v e = true → Fl ts pts G C i v e
theorem RwI.init (ts : List Int) (pts : List Pt) (G : Nat → Pt → Nat → Bool) (C : Pt → Bool) (s : Nat) : RwI ts pts G C s (List.replicate pts.length (List.replicate ts.length (List.replicate s false))) := by
  have h1 : ∀ i, i < pts.length → (List.replicate pts.length (List.replicate ts.length (List.replicate s false))).getD i [] = List.replicate ts.length (List.replicate s false) := fun i hi => by
    rw [getD_lt (by simpa using hi)]; simp
  have h2 : ∀ v, v < ts.length → (List.replicate ts.length (List.replicate s false)).getD v [] = List.replicate s false := fun v hv => by
    rw [getD_lt (by simpa using hv)]; simp
  refine ⟨by simp, fun i hi => by rw [h1 i (by simpa using hi)]; simp, fun i v hi hv => by rw [h1 i (by simpa using hi), h2 v hv]; simp, fun i v e h => ?_⟩
  unfold get3 rget at h
  by_cases hi : i < pts.length
  · rw [h1 i hi] at h
    by_cases hv : v < ts.length
    · rw [h2 v hv] at h
      by_cases he : e < s
      · rw [getD_lt (by simpa using he)] at h; simp at h
      · rw [getD_ge (by simpa using he)] at h; cases h
    · rw [getD_ge (l := List.replicate ts.length (List.replicate s false)) (by simpa using hv)] at h; simp at h
  · rw [getD_ge (l := List.replicate pts.length _) (by simpa using hi)] at h; simp at h
/-- the rows r' are the rows r and what af has -/
structure Mrg (m s : Nat) (r af r' : List (List Bool)) : Prop where
  len : r'.length = m
  inn : ∀ v, v < m → (r'.getD v []).length = s
  get : ∀ v e, v < m → e < s → rget r' v e = (rget r v e || rget af v e)
theorem rget_out {m s : Nat} {r : List (List Bool)} (hl : r.length = m) (hi : ∀ v, v < m → (r.getD v []).length = s) {v e : Nat} (h : rget r v e = true) : v < m ∧ e < s := by
  unfold rget at h
  rcases Nat.lt_or_ge v m with hv | hv
  · refine ⟨hv, ?_⟩
    rcases Nat.lt_or_ge e s with he | he
    · exact he
    · rw [getD_ge (l := r.getD v []) (by rw [hi v hv]; exact he)] at h; cases h
  · rw [getD_ge (l := r) (by omega)] at h; simp at h
theorem RwI.upd {ts : List Int} {pts : List Pt} {G : Nat → Pt → Nat → Bool} {C : Pt → Bool} {s n : Nat} {R : List (List (List Bool))} {af r' : List (List Bool)} (h : RwI ts pts G C s R) (hn : n < R.length) (hm : Mrg ts.length s (R.getD n []) af r')
    (ha : ∀ v e, v < ts.length → e < s → rget af v e = true → Fl ts pts G C n v e) : RwI ts pts G C s (R.set n r') := by
  refine ⟨by rw [List.length_set]; exact h.len, fun i hi => ?_, fun i v hi hv => ?_, fun i v e he => ?_⟩
  · rw [List.length_set] at hi
    rw [getD_setT hn]; split
    · exact hm.len
    · exact h.row i hi
  · rw [List.length_set] at hi
    rw [getD_setT hn]; split
    · exact hm.inn v hv
    · exact h.inn i v hi hv
  · unfold get3 at he
    rw [getD_setT hn] at he
    split at he
    · rename_i e1; subst e1
      have ho := rget_out hm.len hm.inn he
      rw [hm.get v e ho.1 ho.2, Bool.or_eq_true] at he
      rcases he with he | he
      · exact h.snd i v e he
      · exact ha v e ho.1 ho.2 he
    · exact h.snd i v e he
theorem get3_up {ts : List Int} {pts : List Pt} {G : Nat → Pt → Nat → Bool} {C : Pt → Bool} {s n : Nat} {R : List (List (List Bool))} {af r' : List (List Bool)} (h : RwI ts pts G C s R) (hn : n < R.length) (hm : Mrg ts.length s (R.getD n []) af r') (i v e : Nat) (he : get3 R i v e = true) : get3 (R.set n r') i v e = true := by
  unfold get3 at *
  rw [getD_setT hn]
  split
  · rename_i e1; subst e1
    have ho := rget_out (h.row i hn) (h.inn i · hn) he
    rw [hm.get v e ho.1 ho.2, he]; rfl
  · exact he
theorem RwI.mu {ts : List Int} {pts : List Pt} {G : Nat → Pt → Nat → Bool} {C : Pt → Bool} {s n v e : Nat} {R : List (List (List Bool))} {af r' : List (List Bool)} (h : RwI ts pts G C s R) (hn : n < R.length) (hm : Mrg ts.length s (R.getD n []) af r')
    (hv : v < ts.length) (he : e < s) (h0 : rget (R.getD n []) v e = false) (h1 : rget af v e = true) : muB pts.length ts.length s (get3 (R.set n r')) < muB pts.length ts.length s (get3 R) := by
  refine muB_lt (i := n) (v := v) (e := e) (fun i u f hf => get3_up h hn hm i u f hf) (by rw [← h.len]; exact hn) hv he h0 ?_
  unfold get3
  rw [getD_setT hn, if_pos rfl, hm.get v e hv he, h1, Bool.or_true]
/-- the rows behind a point -/
structure AfR (ts : List Int) (G : Nat → Pt → Nat → Bool) (C : Pt → Bool) (s i : Nat) (p : Pt) (r af : List (List Bool)) : Prop where
  len : af.length = ts.length
  inn : ∀ v, v < ts.length → (af.getD v []).length = s
  get : ∀ v e, v < ts.length → e < s → rget af v e = aftB ts G C i p (rget r) v e
theorem AfR.snd {ts : List Int} {pts : List Pt} {G : Nat → Pt → Nat → Bool} {C : Pt → Bool} {s i k v e : Nat} {p : Pt} {R : List (List (List Bool))} {af : List (List Bool)} (h : RwI ts pts G C s R) (ha : AfR ts G C s i p (R.getD i []) af) (hp : pts[i]? = some p) (hk : k ∈ p.next) (hv : v < ts.length) (he : e < s) (hh : rget af v e = true) : Fl ts pts G C k v e := by
  rw [ha.get v e hv he] at hh
  exact Fl.aft (fun u f hf => h.snd i u f hf) hp hk hv hh
/-- along the edge from i (p) to k nothing is missing in R -/
def ClE (ts : List Int) (G : Nat → Pt → Nat → Bool) (C : Pt → Bool) (s : Nat) (R : List (List (List Bool))) (i : Nat) (p : Pt) (k : Nat) : Prop := ∀ v e, v < ts.length → e < s → aftB ts G C i p (rget (R.getD i [])) v e = true → get3 R k v e = true
def ClR (ts : List Int) (pts : List Pt) (G : Nat → Pt → Nat → Bool) (C : Pt → Bool) (s : Nat) (R : List (List (List Bool))) (i : Nat) : Prop := ∀ p, pts[i]? = some p → ∀ k ∈ p.next, ClE ts G C s R i p k
theorem RwI.done {ts : List Int} {pts : List Pt} {G : Nat → Pt → Nat → Bool} {C : Pt → Bool} {s : Nat} {R : List (List (List Bool))} (h : RwI ts pts G C s R) (hg : ∀ i p e, pts[i]? = some p → G i p e = true → e < s) (hc : ∀ i, i < pts.length → ClR ts pts G C s R i) (i v e : Nat) : get3 R i v e = true ↔ Fl ts pts G C i v e := by
  refine ⟨h.snd i v e, fun hf => Fl.done (s := s) (st := get3 R) hg (fun i p k v e hp hk hv he ha => ?_) hf⟩
  refine hc i ?_ p hp k hk v e hv he ha
  rcases Nat.lt_or_ge i pts.length with h | h
  · exact h
  · rw [List.getElem?_eq_none h] at hp; cases hp

end Go.Proofs.Ytidlifijgooceaa

/- The nearest use of a loan: plain law of UseAfter. -/
namespace Go.Proofs.Ytidlifijgooceaa

/-- a point uses one of the variables that meet fl -/
def usesP (fl : Nat → Bool) (ts : List Int) (op x y : Int) : Bool := (List.range ts.length).any fun v => fl v && useP ts op x y (v : Nat) != 0
theorem usesP_yes {fl : Nat → Bool} {ts : List Int} {op x y : Int} {v : Nat} (hv : v < ts.length) (h1 : fl v = true) (h2 : useP ts op x y (v : Nat) ≠ 0) : usesP fl ts op x y = true := by
  unfold usesP
  rw [List.any_eq_true]
  exact ⟨v, List.mem_range.2 hv, by rw [h1]; simpa using h2⟩
theorem usesP_no {fl : Nat → Bool} {ts : List Int} {op x y : Int} (h : ∀ v, v < ts.length → (fl v && useP ts op x y (v : Nat) != 0) = false) : usesP fl ts op x y = false := by
  unfold usesP
  rw [List.any_eq_false]
  intro v hv
  rw [h v (List.mem_range.1 hv)]
  simp
theorem usesP_congr {f g : Nat → Bool} {ts : List Int} {op x y : Int} (h : ∀ v, v < ts.length → f v = g v) : usesP f ts op x y = usesP g ts op x y := by
  unfold usesP
  rw [Bool.eq_iff_iff, List.any_eq_true, List.any_eq_true]
  constructor <;> rintro ⟨v, hv, e⟩ <;> refine ⟨v, hv, ?_⟩ <;> have := h v (List.mem_range.1 hv)
  · rw [← this]; exact e
  · rw [this]; exact e

/-- the point at i uses a value that comes from a loan -/
noncomputable def usF (ts : List Int) (pts : List Pt) (n i : Nat) : Bool := match pts[i]? with
  | none => false
  | some p => usesP (fun v => dec (Fl ts pts Gloan (Cloan ts) i v n)) ts p.op p.x p.y
theorem usF_at {ts : List Int} {pts : List Pt} {n i : Nat} (hi : i < pts.length) : usF ts pts n i = usesP (fun v => dec (Fl ts pts Gloan (Cloan ts) i v n)) ts pts[i].op pts[i].x pts[i].y := by
  unfold usF; rw [List.getElem?_eq_getElem hi]
/-- the nearest of the first j points that meet U -/
noncomputable def nearF (pts : List Pt) (a : Nat) (U : Nat → Bool) : Nat → Option Nat
  | 0 => none
  | j + 1 => if U j && (wayC pts a j).isSome then (match nearF pts a U j with
      | none => some j
      | some b => if (wayN pts a j).length < (wayN pts a b).length then some j else some b) else nearF pts a U j
theorem nearF_no {pts : List Pt} {a j : Nat} {U : Nat → Bool} (h : (U j && (wayC pts a j).isSome) = false) : nearF pts a U (j + 1) = nearF pts a U j := by
  simp only [nearF]; rw [h]; rfl
theorem nearF_first {pts : List Pt} {a j : Nat} {U : Nat → Bool} (h : (U j && (wayC pts a j).isSome) = true) (h2 : nearF pts a U j = none) : nearF pts a U (j + 1) = some j := by
  simp only [nearF]; rw [h, h2]; rfl
theorem nearF_less {pts : List Pt} {a j b : Nat} {U : Nat → Bool} (h : (U j && (wayC pts a j).isSome) = true) (h2 : nearF pts a U j = some b) (h3 : (wayN pts a j).length < (wayN pts a b).length) : nearF pts a U (j + 1) = some j := by
  simp only [nearF]; rw [h, h2]; simp [h3]
theorem nearF_keep {pts : List Pt} {a j b : Nat} {U : Nat → Bool} (h2 : nearF pts a U j = some b) (h3 : ¬ (wayN pts a j).length < (wayN pts a b).length) : nearF pts a U (j + 1) = some b := by
  simp only [nearF]; rw [h2]; simp [h3]
/-- what is found meets U, lies among the first j and can be reached -/
theorem nearF_ok {pts : List Pt} {a : Nat} {U : Nat → Bool} : ∀ {j b : Nat}, nearF pts a U j = some b → b < j ∧ U b = true ∧ (wayC pts a b).isSome = true
  | 0, b, h => by simp [nearF] at h
  | j + 1, b, h => by
    simp only [nearF] at h
    split at h
    · rename_i hc
      rw [Bool.and_eq_true] at hc
      split at h
      · injection h with h; subst h; exact ⟨Nat.lt_succ_self _, hc⟩
      · rename_i c hcc
        split at h
        · injection h with h; subst h; exact ⟨Nat.lt_succ_self _, hc⟩
        · injection h with h; subst h
          have := nearF_ok hcc
          exact ⟨Nat.lt_succ_of_lt this.1, this.2⟩
    · have := nearF_ok h
      exact ⟨Nat.lt_succ_of_lt this.1, this.2⟩
/-- what UseAfter answers -/
noncomputable def uaB (ts : List Int) (l : List St) (a n : Int) : Option Nat := if graphOk ts l [a, n] then nearF (ptsP l) a.toNat (usF ts (ptsP l) n.toNat) (ptsP l).length else none
def uaV : Option Nat → Int
  | none => 0
  | some b => (b : Nat)
theorem wayN_len {pts : List Pt} {a t : Nat} (h : (wayC pts a t).isSome = true) : 0 < (wayN pts a t).length ∧ (wayN pts a t).getLast? = some t := by
  cases hw : wayC pts a t with
  | none => rw [hw] at h; cases h
  | some L =>
    unfold wayN
    rw [hw]
    simp
end Go.Proofs.Ytidlifijgooceaa
