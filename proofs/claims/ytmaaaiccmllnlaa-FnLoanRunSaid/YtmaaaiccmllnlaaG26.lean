import Derived.Test.YtmaaaiccmllnlaaG25
import Derived.ArgAppend
import Derived.Test.YtmaaaiccmllnlaaG01
set_option linter.unusedVariables false

/- Plain: the search forward that walks a queue of points. No program in sight. -/
namespace Go.Proofs.Ytmaaaiccmllnlaa

def acR (ev : Bool) (rows : List (List Bool)) (i v : Nat) : Bool := rget rows i v != ev
theorem jn_acc (ev o a : Bool) : (jnB ev o a != ev) = ((o != ev) || (a != ev)) := by cases ev <;> cases o <;> cases a <;> rfl
theorem vl_acc (ev : Bool) {ts : List Int} {p : Pt} {b : Bool} {v : Nat} (hv : v < ts.length) : (vlB ts p b v != ev) = trB ev ts p (b != ev) v := by
  unfold vlB trB
  have h1 : (takenP ts p.op p.x p.y).testBit v = (useP ts p.op p.x p.y (v : Nat) == 2) := by unfold takenP; rw [bm_bit, decide_eq_true hv, Bool.true_and]
  rw [h1, setBit_bit]
  cases ev <;> cases b <;> cases (useP ts p.op p.x p.y (v : Nat) == 2) <;> cases decide (setsP p.op p.x = (v : Nat)) <;> rfl

def seenAt (seen : List Bool) (i : Nat) : Prop := seen.getD i false = true
instance (seen : List Bool) (i : Nat) : Decidable (seenAt seen i) := by unfold seenAt; infer_instance
structure WkI (ev : Bool) (ts : List Int) (pts : List Pt) (rows : List (List Bool)) (seen : List Bool) (q : List Nat) : Prop where
  len : rows.length = pts.length
  slen : seen.length = pts.length
  row : ∀ i, i < pts.length → seenAt seen i → (rows.getD i []).length = ts.length
  nrow : ∀ i, i < pts.length → ¬ seenAt seen i → rows.getD i [] = []
  sound : ∀ i v, i < pts.length → v < ts.length → seenAt seen i → acR ev rows i v = true → Ac ev ts pts 0 i v
  ini : seenAt seen 0
  inv : ev = true → ∀ v, v < ts.length → acR ev rows 0 v = true
  qs : ∀ i ∈ q, i < pts.length ∧ seenAt seen i
/-- point i's row is closed along its edges -/
def WkC (ev : Bool) (ts : List Int) (pts : List Pt) (rows : List (List Bool)) (seen : List Bool) (r0 : List Bool) (i k : Nat) : Prop :=
  ∀ p, pts[i]? = some p → ∀ n ∈ p.next.take k, seenAt seen n ∧ ∀ v, v < ts.length → (vlB ts p (r0.getD v false) v != ev) = true → acR ev rows n v = true
/-- between two points of the queue -/
structure WkO (ev : Bool) (ts : List Int) (pts : List Pt) (rows : List (List Bool)) (seen : List Bool) (q : List Nat) : Prop where
  i : WkI ev ts pts rows seen q
  c : ∀ i, i < pts.length → seenAt seen i → i ∈ q ∨ ∀ k, WkC ev ts pts rows seen (rows.getD i []) i k
/-- at point a, behind its first k edges; r0 is the row that was there when a was taken -/
structure WkN (ev : Bool) (ts : List Int) (pts : List Pt) (a : Nat) (r0 : List Bool) (k : Nat) (rows : List (List Bool)) (seen : List Bool) (q : List Nat) : Prop where
  i : WkI ev ts pts rows seen q
  c : ∀ i, i < pts.length → seenAt seen i → i ∈ q ∨ i = a ∨ ∀ k, WkC ev ts pts rows seen (rows.getD i []) i k
  e : WkC ev ts pts rows seen r0 a k
  s : a ∈ q ∨ rows.getD a [] = r0
  r : ∀ v, v < ts.length → (r0.getD v false != ev) = true → Ac ev ts pts 0 a v
theorem WkO.pop {ev : Bool} {ts : List Int} {pts : List Pt} {rows : List (List Bool)} {seen : List Bool} {a : Nat} {q : List Nat} (h : WkO ev ts pts rows seen (a :: q)) : WkN ev ts pts a (rows.getD a []) 0 rows seen q := by
  have ha := h.i.qs a (by simp)
  refine ⟨⟨h.i.len, h.i.slen, h.i.row, h.i.nrow, h.i.sound, h.i.ini, h.i.inv, fun i hi => h.i.qs i (by simp [hi])⟩, fun i hi hs => ?_, fun p _ n hn => by simp at hn, .inr rfl, fun v hv => h.i.sound a v ha.1 hv ha.2⟩
  rcases h.c i hi hs with h1 | h1
  · rcases List.mem_cons.1 h1 with h2 | h2
    · exact .inr (.inl h2)
    · exact .inl h2
  · exact .inr (.inr h1)
theorem WkN.out {ev : Bool} {ts : List Int} {pts : List Pt} {rows : List (List Bool)} {seen : List Bool} {a k : Nat} {r0 : List Bool} {q : List Nat} (h : WkN ev ts pts a r0 k rows seen q) (hk : ∀ p, pts[a]? = some p → p.next.length ≤ k) : WkO ev ts pts rows seen q := by
  refine ⟨h.i, fun i hi hs => ?_⟩
  rcases h.c i hi hs with h1 | h1 | h1
  · exact .inl h1
  · subst h1
    rcases h.s with h2 | h2
    · exact .inl h2
    · refine .inr fun j p hp n hn => ?_
      rw [h2]
      exact h.e p hp n (by rw [List.take_of_length_le (hk p hp)]; exact List.mem_of_mem_take hn)
  · exact .inr h1
theorem seen_set {seen : List Bool} {n i : Nat} (hn : n < seen.length) : seenAt (seen.set n true) i ↔ (i = n ∨ seenAt seen i) := by
  unfold seenAt
  rw [getD_setB hn]
  split
  · rename_i h; simp [h]
  · rename_i h; simp [h]
theorem row_set {rows : List (List Bool)} {n i : Nat} {r : List Bool} (hn : n < rows.length) : (rows.set n r).getD i [] = if i = n then r else rows.getD i [] := by
  by_cases h : i = n
  · subst h; simp [List.getD, hn]
  · rw [if_neg h]; simp [List.getD, Ne.symm h]
/-- row n joined -/
theorem WkN.step {ev : Bool} {ts : List Int} {pts : List Pt} {rows : List (List Bool)} {seen : List Bool} {a k n : Nat} {r0 aft : List Bool} {q q' : List Nat} {p : Pt} (h : WkN ev ts pts a r0 k rows seen q)
    (hp : pts[a]? = some p) (hk : k < p.next.length) (hn : n = p.next[k]) (hnl : n < pts.length) (hal : aft.length = ts.length) (haf : ∀ v, v < ts.length → aft.getD v false = vlB ts p (r0.getD v false) v)
    (hq : q' = q ++ [n] ∨ (q' = q ∧ seenAt seen n ∧ rows.getD n [] = joinP ev (rows.getD n []) aft)) :
    WkN ev ts pts a r0 (k + 1) (rows.set n (joinP ev (rows.getD n []) aft)) (seen.set n true) q' := by
  have hnr : n < rows.length := by rw [h.i.len]; exact hnl
  have hns : n < seen.length := by rw [h.i.slen]; exact hnl
  have hold : (rows.getD n []).length ≤ aft.length := by
    by_cases hs : seenAt seen n
    · rw [h.i.row n hnl hs, hal]; exact Nat.le_refl _
    · rw [h.i.nrow n hnl hs]; simp
  have hnew : ∀ v, v < ts.length → acR ev (rows.set n (joinP ev (rows.getD n []) aft)) n v = ((decide (seenAt seen n) && acR ev rows n v) || (vlB ts p (r0.getD v false) v != ev)) := by
    intro v hv
    unfold acR rget
    rw [row_set hnr, if_pos rfl, join_get _ _ _ (by omega)]
    by_cases hs : seenAt seen n
    · rw [if_pos (by rw [h.i.row n hnl hs]; exact hv), jn_acc, haf v hv, decide_eq_true hs, Bool.true_and]
    · rw [if_neg (by rw [h.i.nrow n hnl hs]; simp), haf v hv, decide_eq_false hs, Bool.false_and, Bool.false_or]
  have hoth : ∀ i v, i ≠ n → acR ev (rows.set n (joinP ev (rows.getD n []) aft)) i v = acR ev rows i v := by
    intro i v hi
    unfold acR rget
    rw [row_set hnr, if_neg hi]
  have hmono : ∀ i v, v < ts.length → seenAt seen i → acR ev rows i v = true → acR ev (rows.set n (joinP ev (rows.getD n []) aft)) i v = true := by
    intro i v hv hs ha
    by_cases hi : i = n
    · subst hi; rw [hnew v hv, decide_eq_true hs, ha]; rfl
    · rw [hoth i v hi]; exact ha
  have hqq : ∀ i, i ∈ q → i ∈ q' := by
    intro i hi
    rcases hq with rfl | ⟨rfl, -, -⟩
    · simp [hi]
    · exact hi
  have hsm : ∀ i, seenAt seen i → seenAt (seen.set n true) i := fun i hs => (seen_set hns).2 (.inr hs)
  have hnm : n ∈ p.next := by rw [hn]; exact List.getElem_mem hk
  have hset : n ∈ q' ∨ rows.set n (joinP ev (rows.getD n []) aft) = rows := by
    rcases hq with rfl | ⟨rfl, -, he⟩
    · exact .inl (by simp)
    · refine .inr ?_
      rw [← he]
      rw [getD_lt hnr]
      exact List.set_getElem_self hnr
  have hC : ∀ r i j, WkC ev ts pts rows seen r i j → WkC ev ts pts (rows.set n (joinP ev (rows.getD n []) aft)) (seen.set n true) r i j := fun r i j hc p' hp' m hm =>
    ⟨hsm m (hc p' hp' m hm).1, fun v hv hx => hmono m v hv (hc p' hp' m hm).1 ((hc p' hp' m hm).2 v hv hx)⟩
  have hrc : ∀ i, i ∈ q' ∨ (rows.set n (joinP ev (rows.getD n []) aft)).getD i [] = rows.getD i [] := by
    intro i
    rcases hset with h1 | h1
    · by_cases hi : i = n
      · subst hi; exact .inl h1
      · right; rw [row_set hnr, if_neg hi]
    · right; rw [h1]
  refine ⟨⟨?_, ?_, fun i hi hs => ?_, fun i hi hs => ?_, fun i v hi hv hs ha => ?_, hsm 0 h.i.ini, fun he v hv => hmono 0 v hv h.i.ini (h.i.inv he v hv), fun i hi => ?_⟩, fun i hi hs => ?_, fun p' hp' m hm => ?_, ?_, h.r⟩
  · rw [List.length_set, h.i.len]
  · rw [List.length_set, h.i.slen]
  · rw [row_set hnr]
    split
    · rw [join_len, hal]
    · rename_i hne
      exact h.i.row i hi (((seen_set hns).1 hs).resolve_left hne)
  · rw [row_set hnr, if_neg (fun e => hs ((seen_set hns).2 (.inl e)))]
    exact h.i.nrow i hi fun e => hs (hsm i e)
  · by_cases hin : i = n
    · subst hin
      rw [hnew v hv] at ha
      rcases Bool.or_eq_true_iff.1 ha with h1 | h1
      · have h2 := Bool.and_eq_true_iff.1 h1
        exact h.i.sound i v hi hv (of_decide_eq_true h2.1) h2.2
      · rw [vl_acc ev hv] at h1
        cases hb : (r0.getD v false != ev)
        · rw [hb] at h1; exact .gen hp hnm hv h1
        · rw [hb] at h1; exact .keep hp hnm (h.r v hv hb) h1
    · rw [hoth i v hin] at ha
      exact h.i.sound i v hi hv (((seen_set hns).1 hs).resolve_left hin) ha
  · rcases hq with rfl | ⟨rfl, -, -⟩
    · rcases List.mem_append.1 hi with h1 | h1
      · exact ⟨(h.i.qs i h1).1, hsm i (h.i.qs i h1).2⟩
      · obtain rfl : i = n := by simpa using h1
        exact ⟨hnl, (seen_set hns).2 (.inl rfl)⟩
    · exact ⟨(h.i.qs i hi).1, hsm i (h.i.qs i hi).2⟩
  · rcases (seen_set hns).1 hs with h1 | h1
    · subst h1
      rcases hq with rfl | ⟨rfl, h2, -⟩
      · exact .inl (by simp)
      · rcases h.c i hi h2 with h3 | h3 | h3
        · exact .inl h3
        · exact .inr (.inl h3)
        · rcases hrc i with h4 | h4
          · exact .inl h4
          · exact .inr (.inr fun j => by rw [h4]; exact hC _ _ _ (h3 j))
    · rcases h.c i hi h1 with h3 | h3 | h3
      · exact .inl (hqq i h3)
      · exact .inr (.inl h3)
      · rcases hrc i with h4 | h4
        · exact .inl h4
        · exact .inr (.inr fun j => by rw [h4]; exact hC _ _ _ (h3 j))
  · have hpe : p' = p := by rw [hp] at hp'; exact (Option.some.inj hp').symm
    subst hpe
    rw [List.take_succ_eq_append_getElem hk] at hm
    rcases List.mem_append.1 hm with h1 | h1
    · exact hC _ _ _ h.e p' hp m h1
    · obtain rfl : m = n := by rw [hn]; simpa using h1
      exact ⟨(seen_set hns).2 (.inl rfl), fun v hv hx => by rw [hnew v hv, hx]; simp⟩
  · rcases h.s with h1 | h1
    · exact .inl (hqq a h1)
    · rcases hrc a with h2 | h2
      · exact .inl h2
      · exact .inr (by rw [h2]; exact h1)

/-- at the end the rows are what is gathered -/
theorem WkO.done {ev : Bool} {ts : List Int} {pts : List Pt} {rows : List (List Bool)} {seen : List Bool} (h : WkO ev ts pts rows seen []) (h0 : 0 < pts.length) (hnx : ∀ p ∈ pts, ∀ k ∈ p.next, k < pts.length) (hr : ∀ k, k < pts.length → Rch pts k) {i : Nat} (hi : i < pts.length) :
    (rows.getD i []).length = ts.length ∧ ∀ v, v < ts.length → rget rows i v = (dec (Ac ev ts pts 0 i v) != ev) := by
  have hc : ∀ i, i < pts.length → seenAt seen i → ∀ k, WkC ev ts pts rows seen (rows.getD i []) i k := fun i hi hs => (h.c i hi hs).resolve_left (by simp)
  have hlt : ∀ {i : Nat} {p : Pt}, pts[i]? = some p → i < pts.length := fun {i p} hp => (List.getElem?_eq_some_iff.1 hp).1
  have hall : ∀ k, Rch pts k → seenAt seen k := by
    intro k hk
    induction hk with
    | start => exact h.i.ini
    | @step i k p hk hp hkn ih => exact ((hc i (hlt hp) ih p.next.length) p hp k (by rw [List.take_length]; exact hkn)).1
  have hac : ∀ i v, Ac ev ts pts 0 i v → i < pts.length ∧ acR ev rows i v = true := by
    intro i v ha
    induction ha with
    | @init v hv h1 => exact ⟨h0, h.i.inv (by cases ev <;> simp [accB] at h1 ⊢) v hv⟩
    | @gen i k v p hp hk hv h1 =>
      refine ⟨hnx p (List.mem_of_getElem? hp) k hk, ((hc i (hlt hp) (hall i (hr i (hlt hp))) p.next.length) p hp k (by rw [List.take_length]; exact hk)).2 v hv ?_⟩
      rw [vl_acc ev hv, trB_mono, h1]; rfl
    | @keep i k v p hp hk ha h1 ih =>
      refine ⟨hnx p (List.mem_of_getElem? hp) k hk, ((hc i (hlt hp) (hall i (hr i (hlt hp))) p.next.length) p hp k (by rw [List.take_length]; exact hk)).2 v ha.lt ?_⟩
      have e := ih.2
      unfold acR rget at e
      rw [vl_acc ev ha.lt, trB_mono, e, h1]; simp
  have hs := hall i (hr i hi)
  refine ⟨h.i.row i hi hs, fun v hv => ?_⟩
  have e : dec (Ac ev ts pts 0 i v) = acR ev rows i v := by
    rw [Bool.eq_iff_iff, dec_iff]
    exact ⟨fun ha => (hac i v ha).2, fun ha => h.i.sound i v hi hv hs ha⟩
  rw [e]
  unfold acR
  cases rget rows i v <;> cases ev <;> rfl

theorem sum_mono {f g : Nat → Nat} {l : List Nat} (h : ∀ i ∈ l, f i ≤ g i) : (l.map f).sum ≤ (l.map g).sum := by
  induction l with
  | nil => simp
  | cons a r ih =>
    simp only [List.map_cons, List.sum_cons]
    have := h a (by simp)
    have := ih fun i hi => h i (by simp [hi])
    omega
theorem sum_less {f g : Nat → Nat} {l : List Nat} (h : ∀ i ∈ l, f i ≤ g i) {n : Nat} (hn : n ∈ l) (hl : f n < g n) : (l.map f).sum < (l.map g).sum := by
  induction l with
  | nil => simp at hn
  | cons a r ih =>
    simp only [List.map_cons, List.sum_cons]
    have h1 := h a (by simp)
    have h2 := sum_mono (f := f) (g := g) (l := r) fun i hi => h i (by simp [hi])
    rcases List.mem_cons.1 hn with e | e
    · subst e; omega
    · have := ih (fun i hi => h i (by simp [hi])) e; omega
/-- what can still turn -/
def muW (ev : Bool) (nt np : Nat) (rows : List (List Bool)) (seen : List Bool) : Nat :=
  ((List.range np).map fun i => if seenAt seen i then ((List.range nt).map fun v => if acR ev rows i v then 0 else 1).sum else nt + 1).sum
theorem sum_le_len {f : Nat → Nat} {l : List Nat} {c : Nat} (h : ∀ i ∈ l, f i ≤ c) : (l.map f).sum ≤ l.length * c := by
  induction l with
  | nil => simp
  | cons a r ih =>
    simp only [List.map_cons, List.sum_cons, List.length_cons, Nat.succ_mul]
    have := h a (by simp)
    have := ih fun i hi => h i (by simp [hi])
    omega
theorem row_le (ev : Bool) (nt : Nat) (rows : List (List Bool)) (i : Nat) : ((List.range nt).map fun v => if acR ev rows i v then 0 else 1).sum ≤ nt := by
  have := sum_le_len (f := fun v => if acR ev rows i v then 0 else 1) (l := List.range nt) (c := 1) fun v _ => by split <;> omega
  simpa using this
theorem muW_le (ev : Bool) (nt np : Nat) (rows : List (List Bool)) (seen : List Bool) : muW ev nt np rows seen ≤ np * (nt + 1) := by
  have := sum_le_len (f := fun i => if seenAt seen i then ((List.range nt).map fun v => if acR ev rows i v then 0 else 1).sum else nt + 1) (l := List.range np) (c := nt + 1) fun v _ => by
    split
    · have := row_le ev nt rows v; omega
    · omega
  simpa [muW] using this
theorem WkI.less {ev : Bool} {ts : List Int} {pts : List Pt} {rows : List (List Bool)} {seen : List Bool} {n : Nat} {aft : List Bool} {q : List Nat} (h : WkI ev ts pts rows seen q) (hnl : n < pts.length) (hal : aft.length = ts.length)
    (hc : ¬ seenAt seen n ∨ rows.getD n [] ≠ joinP ev (rows.getD n []) aft) : muW ev ts.length pts.length (rows.set n (joinP ev (rows.getD n []) aft)) (seen.set n true) < muW ev ts.length pts.length rows seen := by
  have hnr : n < rows.length := by rw [h.len]; exact hnl
  have hns : n < seen.length := by rw [h.slen]; exact hnl
  have hoth : ∀ i v, i ≠ n → acR ev (rows.set n (joinP ev (rows.getD n []) aft)) i v = acR ev rows i v := by
    intro i v hi
    unfold acR rget
    rw [row_set hnr, if_neg hi]
  have hown : (if seenAt (seen.set n true) n then ((List.range ts.length).map fun v => if acR ev (rows.set n (joinP ev (rows.getD n []) aft)) n v then 0 else 1).sum else ts.length + 1) < (if seenAt seen n then ((List.range ts.length).map fun v => if acR ev rows n v then 0 else 1).sum else ts.length + 1) := by
    rw [if_pos ((seen_set hns).2 (.inl rfl))]
    by_cases hs : seenAt seen n
    · rw [if_pos hs]
      have hne := hc.resolve_left (fun hn => hn hs)
      have hrl := h.row n hnl hs
      have hacc : ∀ v, v < ts.length → acR ev (rows.set n (joinP ev (rows.getD n []) aft)) n v = (acR ev rows n v || (aft.getD v false != ev)) := by
        intro v hv
        unfold acR rget
        rw [row_set hnr, if_pos rfl, join_get _ _ _ (by omega), if_pos (by omega), jn_acc]
      have hex : ∃ v, v < ts.length ∧ acR ev rows n v = false ∧ (aft.getD v false != ev) = true := by
        apply Classical.byContradiction
        intro hno
        apply hne
        refine List.ext_getElem (by rw [join_len]; omega) fun v h1 h2 => ?_
        have hv : v < ts.length := by omega
        have e1 := join_get ev (rows.getD n []) aft (v := v) (by omega)
        rw [if_pos h1, getD_lt h2] at e1
        rw [e1, ← getD_lt (d := false) h1]
        have h3 : ¬ (acR ev rows n v = false ∧ (aft.getD v false != ev) = true) := fun hh => hno ⟨v, hv, hh⟩
        unfold acR rget at h3
        revert h3
        cases (rows.getD n []).getD v false <;> cases aft.getD v false <;> cases ev <;> simp [jnB]
      obtain ⟨v, hv, hv1, hv2⟩ := hex
      refine sum_less (fun u hu => ?_) (n := v) (List.mem_range.2 hv) ?_
      · rw [hacc u (List.mem_range.1 hu)]
        cases acR ev rows n u <;> cases (aft.getD u false != ev) <;> simp
      · rw [hacc v hv, hv1, hv2]; simp
    · rw [if_neg hs]
      have := row_le ev ts.length (rows.set n (joinP ev (rows.getD n []) aft)) n
      omega
  unfold muW
  refine sum_less (fun i hi => ?_) (n := n) (List.mem_range.2 hnl) hown
  by_cases hin : i = n
  · subst hin; exact Nat.le_of_lt hown
  · have e : seenAt (seen.set n true) i ↔ seenAt seen i := by rw [seen_set hns]; simp [hin]
    by_cases hs : seenAt seen i
    · rw [if_pos hs, if_pos (e.2 hs)]
      exact sum_mono fun v _ => by rw [hoth i v hin]; exact Nat.le_refl _
    · rw [if_neg hs, if_neg (fun hh => hs (e.1 hh))]
      exact Nat.le_refl _

end Go.Proofs.Ytmaaaiccmllnlaa

/- Plain: rows of bools that say what always has a value. No program in sight. -/
namespace Go.Proofs.Ytmaaaiccmllnlaa

/-- how many places of the rows are set -/
def muT (rows : List (List Bool)) : Nat := (rows.map fun r => (r.filter fun b => b).length).sum
theorem filter_clr_lt {l : List Bool} {v : Nat} (hv : v < l.length) (h : l.getD v false = true) : ((l.set v false).filter fun b => b).length < (l.filter fun b => b).length := by
  induction l generalizing v with
  | nil => simp at hv
  | cons a r ih =>
    cases v with
    | zero => simp [List.getD] at h; subst h; simp
    | succ v =>
      have := ih (v := v) (by simpa using hv) (by simpa [List.getD] using h)
      cases a <;> simp <;> omega
theorem muT_set {rows : List (List Bool)} {i v : Nat} (hi : i < rows.length) (hv : v < (rows.getD i []).length) (h : rget rows i v = true) : muT (rset rows i v false) < muT rows := by
  refine sum_set_ltL (f := fun r : List Bool => (r.filter fun b => b).length) hi ?_
  rw [getD_lt hi] at hv
  unfold rget at h
  rw [getD_lt hi] at h ⊢
  exact filter_clr_lt hv h

structure FdI (ts : List Int) (pts : List Pt) (gv : Nat) (rows : List (List Bool)) : Prop where
  len : rows.length = pts.length
  row : ∀ i, i < rows.length → (rows.getD i []).length = ts.length
  sound : ∀ i v, i < rows.length → v < ts.length → rget rows i v = false → Ac true ts pts gv i v
  init : ∀ v, v < ts.length → gv.testBit v = false → rget rows 0 v = false
theorem vl_tr {ts : List Int} {p : Pt} {b : Bool} {v : Nat} (hv : v < ts.length) : vlB ts p b v = !trB true ts p (!b) v := by
  unfold vlB trB
  have h1 : (takenP ts p.op p.x p.y).testBit v = (useP ts p.op p.x p.y (v : Nat) == 2) := by unfold takenP; rw [bm_bit, decide_eq_true hv, Bool.true_and]
  rw [h1, setBit_bit]
  cases b <;> cases (useP ts p.op p.x p.y (v : Nat) == 2) <;> cases decide (setsP p.op p.x = (v : Nat)) <;> rfl
/-- what is not there behind a point is lacked at each Next -/
theorem FdI.aft {ts : List Int} {pts : List Pt} {gv : Nat} {rows : List (List Bool)} (h : FdI ts pts gv rows) {i v : Nat} {p : Pt} (hp : pts[i]? = some p) (hi : i < rows.length) (hv : v < ts.length) (ha : vlB ts p (rget rows i v) v = false) : ∀ k ∈ p.next, Ac true ts pts gv k v := by
  intro k hk
  rw [vl_tr hv, Bool.not_eq_false'] at ha
  cases hb : rget rows i v
  · rw [hb] at ha; exact .keep hp hk (h.sound i v hi hv hb) ha
  · rw [hb] at ha; exact .gen hp hk hv ha
theorem FdI.upd {ts : List Int} {pts : List Pt} {gv : Nat} {rows : List (List Bool)} (h : FdI ts pts gv rows) {n v : Nat} (hn : n < rows.length) (hv : v < ts.length) (ha : Ac true ts pts gv n v) : FdI ts pts gv (rset rows n v false) := by
  refine ⟨by rw [rset_len, h.len], fun j hj => by rw [rset_row hn, h.row j (by simpa [rset_len] using hj)], fun j u hj hu hr => ?_, fun u hu hg => ?_⟩
  · rw [rget_rset hn (by rw [h.row n hn]; exact hv)] at hr
    split at hr
    · rename_i e; obtain ⟨rfl, rfl⟩ := e; exact ha
    · exact h.sound j u (by simpa [rset_len] using hj) hu hr
  · rw [rget_rset hn (by rw [h.row n hn]; exact hv)]
    split
    · rfl
    · exact h.init u hu hg
/-- the rows r0 are closed along the edge from i to n for the first u variables -/
def FdV (ts : List Int) (r0 : List (List Bool)) (p : Pt) (i n u : Nat) : Prop := ∀ v, v < u → rget r0 n v = true → vlB ts p (rget r0 i v) v = true
def FdE (ts : List Int) (pts : List Pt) (r0 : List (List Bool)) (i k : Nat) : Prop := ∀ p, pts[i]? = some p → ∀ n ∈ p.next.take k, FdV ts r0 p i n ts.length
def FdC (ts : List Int) (pts : List Pt) (r0 : List (List Bool)) (k : Nat) : Prop := ∀ i p, i < k → pts[i]? = some p → ∀ n ∈ p.next, FdV ts r0 p i n ts.length
theorem FdI.done {ts : List Int} {pts : List Pt} {gv : Nat} {rows : List (List Bool)} (h : FdI ts pts gv rows) (hpos : 0 < pts.length) (hnx : ∀ p ∈ pts, ∀ k ∈ p.next, k < pts.length) (hc : FdC ts pts rows pts.length) {i v : Nat} (hi : i < pts.length) (hv : v < ts.length) :
    rget rows i v = !dec (Ac true ts pts gv i v) := by
  have hac : ∀ i v, Ac true ts pts gv i v → i < pts.length ∧ rget rows i v = false := by
    intro i v ha
    induction ha with
    | init hv h1 => exact ⟨hpos, h.init _ hv (by simpa [accB] using h1)⟩
    | @gen i k v p hp hk hv h1 =>
      have hi : i < pts.length := by
        rcases Nat.lt_or_ge i pts.length with h | h
        · exact h
        · rw [List.getElem?_eq_none h] at hp; cases hp
      refine ⟨hnx p (List.mem_of_getElem? hp) k hk, ?_⟩
      cases hr : rget rows k v
      · rfl
      · have := hc i p hi hp k hk v hv hr
        rw [vl_tr hv, trB_mono, h1] at this
        simp at this
    | @keep i k v p hp hk ha h1 ih =>
      have hi := ih.1
      refine ⟨hnx p (List.mem_of_getElem? hp) k hk, ?_⟩
      cases hr : rget rows k v
      · rfl
      · have := hc i p hi hp k hk v ha.lt hr
        rw [vl_tr ha.lt, ih.2, Bool.not_false, h1] at this
        simp at this
  cases hr : rget rows i v
  · rw [dec_true (h.sound i v (by rw [h.len]; exact hi) hv hr)]; rfl
  · rw [dec_false fun ha => by rw [(hac i v ha).2] at hr; cases hr]; rfl
/-- the rows within one pass -/
def FdP (ts : List Int) (pts : List Pt) (gv : Nat) (r0 : List (List Bool)) (b : Bool) (rows : List (List Bool)) : Prop :=
  FdI ts pts gv rows ∧ muT rows ≤ muT r0 ∧ (b = true → muT rows < muT r0) ∧ (b = false → rows = r0)
/-- the first rows -/
def row0 (ts : List Int) (gv : Nat) (i : Nat) : List Bool := (List.range ts.length).map fun v => decide (0 < i) || gv.testBit v
theorem row0_get {ts : List Int} {gv i v : Nat} (hv : v < ts.length) : (row0 ts gv i).getD v false = (decide (0 < i) || gv.testBit v) := by
  unfold row0; rw [getD_lt (by simpa using hv)]; simp
theorem row0_len (ts : List Int) (gv i : Nat) : (row0 ts gv i).length = ts.length := by simp [row0]
theorem FdI.first (ts : List Int) (pts : List Pt) (gv : Nat) (hpos : 0 < pts.length) : FdI ts pts gv ((List.range pts.length).map (row0 ts gv)) := by
  have hg : ∀ i, i < pts.length → ((List.range pts.length).map (row0 ts gv)).getD i [] = row0 ts gv i := fun i hi => by rw [getD_lt (by simpa using hi)]; simp
  refine ⟨by simp, fun i hi => by rw [hg i (by simpa using hi), row0_len], fun i v hi hv hr => ?_, fun v hv hgv => ?_⟩
  · unfold rget at hr
    rw [hg i (by simpa using hi), row0_get hv, Bool.or_eq_false_iff] at hr
    have h0 : i = 0 := by have := hr.1; simp at this; exact this
    subst h0
    exact .init hv (by simp [accB, hr.2])
  · unfold rget
    rw [hg 0 hpos, row0_get hv, hgv]; rfl

end Go.Proofs.Ytmaaaiccmllnlaa

/- More words for rows of bools: a row that was filled before it is appended. -/
namespace Go.Proofs.Ytmaaaiccmllnlaa
open Go.RowKit

theorem OBools.other {w : World} {base g : Nat} {v : Value} {l : List Bool} (h : OBools w base v l) (hg : g < base) (i : Nat) (u : Value) : OBools (w.setCell ⟨g, i, none⟩ u) base v l :=
  h.kept (grown_set w g i u) (.inr (by
    cases e : v.ownBlock with
    | none => simp
    | some k => intro e'; injection e' with e'; have := (World.ownsRow.lt h k e).1; omega))
/-- append(out, row) where the row lies in block g -/
theorem wpList_push_row2 {ops : Array Oper} {rest : List Oper} {o : Oper} {a : Act} {Q : Exit → Act → World → Prop} {w : World} {base m g : Nat} {vo : Value} {rb : List Nat} {rows : List (List Bool)} (hgd : o.guard = none) (s x : Operand)
    (ho : o.op = .call { callee := .builtin .append, args := #[s, x], argTypes := #[90, 90] })
    (hP : BRow w base vo rb m rows) (hb : base ≤ w.heap.size) (hn : rows.length + 1 ≤ 100000) (row : List Bool) (hr : RowB w g 4 (bv row)) (hbg : base ≤ g) (hne : ∀ i, i < rows.length → rb.getD i 0 ≠ g)
    (hs : a.eval s = vo) (hx : a.eval x = .slice (some ⟨w.heap.size, 0, none⟩) 1 1)
    (h : ∀ v' w', BRow w' base v' (rb ++ [g]) m (rows ++ [row]) → Below base w w' → wpList Try.prog ops Q rest (a.put o.dst v') w') :
    wpList Try.prog ops Q (o :: rest) a (w.alloc (.cells #[.slice (some ⟨g, 0, none⟩) m m] 89)) := by
  obtain ⟨i0, hi0, hz0, hz1, hz2⟩ := info_parts Try.infoBs
  have hb2 := bel_a w (.cells #[.slice (some ⟨g, 0, none⟩) m m] 89)
  have hr1 : RowB (w.alloc (.cells #[.slice (some ⟨g, 0, none⟩) m m] 89)) g 4 (bv row) := hr.alloc _
  have hr2 := heap_alloc_new w (.cells #[.slice (some ⟨g, 0, none⟩) m m] 89)
  have hP2 := hP.low hb2
  have hsz : (w.alloc (.cells #[.slice (some ⟨g, 0, none⟩) m m] 89)).heap.size = w.heap.size + 1 := by simp
  generalize w.alloc (.cells #[.slice (some ⟨g, 0, none⟩) m m] 89) = W at *
  refine wpList_append_own_at _ hgd s x 90 ho base 89 i0 _ 1 24 Try.underlying90 hi0 hz0 hz1 hz2 rfl (by omega) vo rows.length _ hs hP2.own ⟨w.heap.size, 0, none⟩ 1 1 [.slice (some ⟨g, 0, none⟩) m m] hx rfl ?_ ?_ (by simp only [maxLen]; omega) (by omega) (by omega) ?_
  · intro j u hu
    have hj : j = 0 := by
      rcases Nat.eq_zero_or_pos j with h | h
      · exact h
      · rw [List.getElem?_eq_none (by simp; omega)] at hu; cases hu
    subst hj
    have : W.cell? ⟨w.heap.size, 0, none⟩ = some u := by
      rw [cell_of_row _ _ _ _ _ _ hr2]
      simpa using hu
    simpa [Addr.add] using this
  · intro u hu
    simp at hu
    subst hu; rfl
  · intro v' w' k1 k2 k3 k4
    have hownT : ∀ (b : Nat) (T : TypeId) (cs : Array Value), W.heap[b]? = some (Obj.cells cs T (0, 0)) → T ≠ 89 → w'.heap[b]? = some (Obj.cells cs T (0, 0)) := by
      intro b T cs hr hT
      refine (k2.block b ?_ fun e => ?_).trans hr
      · rcases Nat.lt_or_ge b W.heap.size with h' | h'
        · exact h'
        · rw [Array.getElem?_eq_none h'] at hr; cases hr
      · rcases hP2.own.2 with ⟨rfl, _⟩ | ⟨g, cap, cur, rfl, _, hh, _⟩
        · cases e
        · injection e with e
          have e' : b = g := e
          subst e'
          rw [hr] at hh
          injection hh with hh
          injection hh with _ hT'
          exact hT hT'
    have hgl : ∀ i, i < (rows ++ [row]).length → (rb ++ [g]).getD i 0 = if i < rows.length then rb.getD i 0 else g := by
      intro i hi
      by_cases h : i < rows.length
      · rw [if_pos h, getD_lt (by rw [List.length_append, hP.len]; omega), getD_lt (by rw [hP.len]; exact h), List.getElem_append_left]
      · have hi' : i = rows.length := by simp at hi; omega
        rw [if_neg h, getD_lt (by simp [hP.len, hi'])]
        rw [List.getElem_append_right (by rw [hP.len]; omega)]; simp
    refine h v' w' ⟨?_, by simp [hP.len], fun i hi => ?_, fun i j hi hj he => ?_⟩ ?_
    · rw [List.map_append, List.length_append]; exact k1
    · rw [hgl i hi]
      by_cases hil : i < rows.length
      · rw [if_pos hil, getD_lt hi, List.getElem_append_left hil]
        refine ⟨?_, (hP.row i hil).2⟩
        have := hownT _ _ _ (hP2.row i hil).1 (by decide)
        rw [getD_lt hil] at this
        exact this
      · have hi' : i = rows.length := by simp at hi; omega
        rw [if_neg hil, getD_lt hi, List.getElem_append_right (by omega)]
        refine ⟨?_, hbg⟩
        have e := hownT _ _ _ hr1 (by decide)
        simpa [RowB] using e
    · rw [hgl i hi, hgl j hj] at he
      simp at hi hj
      split at he <;> split at he
      · exact hP.inj i j (by assumption) (by assumption) he
      · exact absurd he (hne i (by assumption))
      · exact absurd he.symm (hne j (by assumption))
      · omega
    · refine (hb2.mono hb).trans ⟨k2.os, k2.tape, k2.output, k2.size, fun k hk => k2.block k (by omega) fun e => ?_⟩
      have := (hP2.own.lt k e.symm).1
      omega

end Go.Proofs.Ytmaaaiccmllnlaa

/- Words for a queue of ints, and for the rows that stand beside it. -/
namespace Go.Proofs.Ytmaaaiccmllnlaa
open Go.RowKit

/-- a slice of a block of its own, that loses its head and grows at its end -/
def Qu (w : World) (base : Nat) (v : Value) (q : List Nat) : Prop :=
  ∃ g off cap, ∃ cur : Array Value, v = .slice (some ⟨g, off, none⟩) q.length cap ∧ base ≤ g ∧ w.heap[g]? = some (.cells cur 3 (0, 0)) ∧ q.length ≤ cap ∧ off + cap ≤ cur.size ∧ ∀ j, j < q.length → cur[off + j]? = some (.int .i64 (q.getD j 0 : Nat))
theorem Qu.bel {w w' : World} {base : Nat} {v : Value} {q : List Nat} (h : Qu w base v q) (hb : Below w.heap.size w w') : Qu w' base v q := by
  obtain ⟨g, off, cap, cur, e, h1, h2, h3⟩ := h
  have hg : g < w.heap.size := by
    rcases Nat.lt_or_ge g w.heap.size with h | h
    · exact h
    · rw [Array.getElem?_eq_none h] at h2; cases h2
  exact ⟨g, off, cap, cur, e, h1, (hb.block g hg).trans h2, h3⟩
theorem Qu.other {w : World} {base : Nat} {v : Value} {q : List Nat} (h : Qu w base v q) {b : Nat} (hb : b < base) (i : Nat) (u : Value) : Qu (w.setCell ⟨b, i, none⟩ u) base v q := by
  obtain ⟨g, off, cap, cur, e, h1, h2, h3⟩ := h
  exact ⟨g, off, cap, cur, e, h1, (heap_setCell_other w ⟨b, i, none⟩ g u (by show g ≠ b; omega)).trans h2, h3⟩
theorem Qu.head {w : World} {base : Nat} {v : Value} {a : Nat} {q : List Nat} (h : Qu w base v (a :: q)) :
    ∃ g off c, v = .slice (some ⟨g, off, none⟩) (q.length + 1) (c + 1) ∧ q.length ≤ c ∧ g < w.heap.size ∧ w.cell? ⟨g, off, none⟩ = some (.int .i64 (a : Nat)) ∧ (∀ off', (off' = off ∧ c = 0 ∨ off' = off + 1) → Qu w base (.slice (some ⟨g, off', none⟩) q.length c) q) := by
  obtain ⟨g, off, cap, cur, e, h1, h2, h3, h4, h5⟩ := h
  obtain ⟨c, rfl⟩ : ∃ c, cap = c + 1 := ⟨cap - 1, by simp at h3; omega⟩
  simp only [List.length_cons] at h3 h5
  have hg : g < w.heap.size := by
    rcases Nat.lt_or_ge g w.heap.size with h | h
    · exact h
    · rw [Array.getElem?_eq_none h] at h2; cases h2
  refine ⟨g, off, c, e, by omega, hg, ?_, fun off' ho => ⟨g, off', c, cur, rfl, h1, h2, by omega, by omega, fun j hj => ?_⟩⟩
  · rw [cell_of_row _ _ _ _ _ _ h2]
    have := h5 0 (by omega)
    simpa using this
  · rcases ho with ⟨-, hc⟩ | rfl
    · omega
    · have := h5 (j + 1) (by omega)
      rw [show off + 1 + j = off + (j + 1) by omega, this]
      simp [List.getD]

/-- the memory of spec.l3Forward -/
structure FQ (W : World) (G S : Nat) (rows : List (List Bool)) (seen : List Bool) (vs : List Value) (vq : Value) (q : List Nat) : Prop where
  lt : G < S
  out : RowB W G 89 vs
  vl : vs.length = rows.length
  row : ∀ i, i < rows.length → OBools W (S + 1) (vs.getD i (.slice none 0 0)) (rows.getD i [])
  sn : RowB W S 4 (bv seen)
  que : Qu W (S + 1) vq q
theorem FQ.bel {W W' : World} {G S : Nat} {rows : List (List Bool)} {seen : List Bool} {vs : List Value} {vq : Value} {q : List Nat} (h : FQ W G S rows seen vs vq q) (hb : Below W.heap.size W W') : FQ W' G S rows seen vs vq q :=
  ⟨h.lt, h.out.low hb h.out.lt, h.vl, fun i hi => (h.row i hi).bel hb, h.sn.low hb h.sn.lt, h.que.bel hb⟩
theorem FQ.see {W : World} {G S : Nat} {rows : List (List Bool)} {seen : List Bool} {vs : List Value} {vq : Value} {q : List Nat} (h : FQ W G S rows seen vs vq q) (n : Nat) : FQ (W.setCell ⟨S, n, none⟩ (.bool true)) G S rows (seen.set n true) vs vq q :=
  ⟨h.lt, h.out.other (by have := h.lt; omega) _ _, h.vl, fun i hi => (h.row i hi).other (by omega) _ _, by have := h.sn.set_ n (.bool true); rwa [bv_set] at this, h.que.other (by omega) _ _⟩
theorem FQ.put {W : World} {G S : Nat} {rows : List (List Bool)} {seen : List Bool} {vs : List Value} {vq : Value} {q : List Nat} (h : FQ W G S rows seen vs vq q) {n : Nat} {v : Value} {r : List Bool} (hn : n < rows.length) (hv : OBools W (S + 1) v r) : FQ (W.setCell ⟨G, n, none⟩ v) G S (rows.set n r) seen (vs.set n v) vq q := by
  have hl := h.lt
  refine ⟨h.lt, h.out.set_ n v, by rw [List.length_set, List.length_set, h.vl], fun i hi => ?_, h.sn.other (by omega) _ _, h.que.other (by omega) _ _⟩
  rw [row_set hn]
  by_cases hi' : i = n
  · subst hi'
    rw [if_pos rfl, show (vs.set i v).getD i (.slice none 0 0) = v by simp [List.getD, show i < vs.length by rw [h.vl]; exact hn]]
    exact hv.other (by omega) _ _
  · rw [if_neg hi', show (vs.set n v).getD i (.slice none 0 0) = vs.getD i (.slice none 0 0) by simp [List.getD, Ne.symm hi']]
    exact (h.row i (by simpa using hi)).other (by omega) _ _
/-- append(work, n) -/
theorem wpList_push_q {ops : Array Oper} {rest : List Oper} {o : Oper} {a : Act} {Q : Exit → Act → World → Prop} {W : World} {G S : Nat} {rows : List (List Bool)} {seen : List Bool} {vs : List Value} {vq : Value} {q : List Nat} (hgd : o.guard = none) (s x : Operand)
    (ho : o.op = .call { callee := .builtin .append, args := #[s, x], argTypes := #[23, 23] })
    (h : FQ W G S rows seen vs vq q) (hq : q.length ≤ 100000) (n : Nat) (hs : a.eval s = vq) (hx : a.eval x = .slice (some ⟨W.heap.size, 0, none⟩) 1 1) {B : Nat} (hB : B ≤ S + 1)
    (hK : ∀ v' w', FQ w' G S rows seen vs v' (q ++ [n]) → (∀ u l, OBools W (S + 1) u l → OBools w' (S + 1) u l) → Below B W w' → wpList Try.prog ops Q rest (a.put o.dst v') w') :
    wpList Try.prog ops Q (o :: rest) a (W.alloc (.cells #[.int .i64 (n : Nat)] 3)) := by
  obtain ⟨i0, hi0, hz0, hz1, hz2⟩ := info_parts Try.infoInt
  have hsl := h.sn.lt
  have hA := h.bel (bel_a W (.cells #[.int .i64 (n : Nat)] 3))
  have hb2 := bel_a W (.cells #[.int .i64 (n : Nat)] 3)
  have hr := heap_alloc_new W (.cells #[.int .i64 (n : Nat)] 3)
  have hsW : (W.alloc (.cells #[.int .i64 (n : Nat)] 3)).heap.size = W.heap.size + 1 := by simp
  generalize W.alloc (.cells #[.int .i64 (n : Nat)] 3) = W1 at *
  obtain ⟨g, off, cap, cur, e, h1, h2, h3, h4, h5⟩ := hA.que
  subst e
  have hcell : ∀ j u, (q.map fun (m : Nat) => Value.int .i64 (m : Int))[j]? = some u → W1.cell? ⟨g, off + j, none⟩ = some u := by
    intro j u hu
    have hj : j < q.length := by
      rcases Nat.lt_or_ge j q.length with hh | hh
      · exact hh
      · rw [List.getElem?_eq_none (by simpa using hh)] at hu; cases hu
    rw [cell_of_row _ _ _ _ _ _ h2, h5 j hj]
    rw [List.getElem?_map, List.getElem?_eq_getElem hj] at hu
    rw [getD_lt hj]
    simpa using hu
  refine wpList_append_arg W1 hgd s x 23 ho 3 i0 _ 1 8 Try.underlying23 hi0 hz0 hz1 hz2 rfl (by omega) g off q.length cap (q.map fun (m : Nat) => Value.int .i64 (m : Int)) hs (by simp) hcell ⟨W.heap.size, 0, none⟩ 1 1 [.int .i64 (n : Nat)] hx rfl ?_ ?_ (fun hroom j hj => ?_) (by simp only [maxLen]; omega) (by omega) (fun hroom => ?_) (fun hgrow v' w' hown hgr => ?_)
  · intro j u hu
    have hj : j = 0 := by
      rcases Nat.eq_zero_or_pos j with h | h
      · exact h
      · rw [List.getElem?_eq_none (by simp; omega)] at hu; cases hu
    subst hj
    have : W1.cell? ⟨W.heap.size, 0, none⟩ = some u := by
      rw [cell_of_row _ _ _ _ _ _ hr]
      simpa using hu
    simpa [Addr.add] using this
  · intro u hu
    simp at hu
    subst hu; rfl
  · obtain rfl : j = 0 := by simp at hj; omega
    refine ⟨?_, frozen_of_row _ _ _ _ _ h2⟩
    rw [cell_of_row _ _ _ _ _ _ h2, Array.getElem?_eq_getElem (by omega)]; rfl
  · have hob : ∀ u l, OBools W1 (S + 1) u l → OBools (W1.setCell ⟨g, off + q.length * 1, none⟩ (.int .i64 (n : Nat))) (S + 1) u l := fun u l hu => by
      refine hu.kept (grown_set W1 g _ _) (.inr ?_)
      rcases hu.2 with ⟨hv, _⟩ | ⟨g', cap', cur', hv, _, hh, _⟩
      · rw [hv]; simp [Value.ownBlock]
      · rw [hv]
        intro he
        have he' : g' = g := Option.some.inj he
        subst he'
        rw [h2] at hh
        injection hh with hh
        injection hh with _ hT
        revert hT; decide
    refine hK _ _ ⟨hA.lt, ?_, hA.vl, fun i hi => hob _ _ (hA.row i hi), ?_, ?_⟩ (fun u l hu => hob _ _ (hu.bel hb2)) ?_
    · exact hA.out.other (by have := hA.lt; omega) _ _
    · exact hA.sn.other (by omega) _ _
    · refine ⟨g, off, cap, cur.set! (off + q.length * 1) (.int .i64 (n : Nat)), by rw [List.length_append]; rfl, h1, ?_, by rw [List.length_append]; exact hroom, by simpa using h4, fun j hj => ?_⟩
      · have := heap_setCell_same W1 g (off + q.length * 1) cur 3 (.int .i64 (n : Nat)) h2
        simpa [World.setCells] using this
      · simp only [List.length_append, List.length_cons, List.length_nil] at hj
        by_cases hjq : j < q.length
        · rw [show (q ++ [n]).getD j 0 = q.getD j 0 by rw [getD_lt (by simp; omega), getD_lt hjq, List.getElem_append_left hjq], ← h5 j hjq]
          simp only [Array.set!_eq_setIfInBounds, Array.getElem?_setIfInBounds]
          rw [if_neg (by omega)]
        · have : j = q.length := by omega
          subst this
          simp only [Array.set!_eq_setIfInBounds, Array.getElem?_setIfInBounds, Nat.mul_one]
          rw [if_pos trivial, if_pos (by omega)]
          simp [List.getD]
    · exact (hb2.mono (by omega)).trans ((Below.refl B W1).setCell (p := ⟨g, _, none⟩) (by show B ≤ g; omega) _)
  · have hb3 : Below W1.heap.size W1 w' := ⟨hgr.os, hgr.tape, hgr.output, hgr.size, fun k hk => hgr.block k hk (by simp)⟩
    have hA3 := hA.bel hb3
    refine hK _ _ ⟨hA.lt, hA3.out, hA3.vl, hA3.row, hA3.sn, ?_⟩ (fun u l hu => (hu.bel hb2).bel hb3) ((hb2.mono (by omega)).trans (hb3.mono (by omega)))
    rcases hown.2 with ⟨_, h0⟩ | ⟨g', cap', cur', hv, hbg, hh, hc1, _, hc2, hc3⟩
    · omega
    · refine ⟨g', 0, cap', cur', by rw [hv, List.length_append]; rfl, by omega, hh, by rw [List.length_append]; exact hc1, by omega, fun j hj => ?_⟩
      have e1 : (cur'.toList.take ((q.length + 1) * 1))[j]? = cur'[0 + j]? := by
        rw [List.getElem?_take, if_pos (by simpa using hj)]
        simp
      rw [← e1, hc3]
      have hmap : (q.map (fun (m : Nat) => Value.int .i64 (m : Int)) ++ [Value.int .i64 (n : Nat)]) = (q ++ [n]).map (fun (m : Nat) => Value.int .i64 (m : Int)) := by simp
      rw [hmap, List.getElem?_map, List.getElem?_eq_getElem hj, getD_lt hj]
      rfl

theorem getD_rep {α : Type} (m i : Nat) (x d : α) (h : i < m) : (List.replicate m x).getD i d = x := by simp [List.getD, h]
theorem FQ.first (w1 : World) (m nt : Nat) (r0 : List Bool) (hr : r0.length = nt) (h2 : nt ≤ 1000) :
    FQ ((((w1.alloc (.cells (Value.slice (some ⟨w1.heap.size + 1 + 1, 0, none⟩) nt nt :: List.replicate m (Value.slice none 0 0)).toArray 89)).alloc (.cells (Value.bool true :: bv (List.replicate m false)).toArray 4)).alloc (.cells (bv r0).toArray 4)).alloc (.cells #[.int .i64 0] 3))
      w1.heap.size (w1.heap.size + 1) (r0 :: List.replicate m []) (true :: List.replicate m false) (Value.slice (some ⟨w1.heap.size + 1 + 1, 0, none⟩) nt nt :: List.replicate m (Value.slice none 0 0)) (.slice (some ⟨w1.heap.size + 1 + 1 + 1, 0, none⟩) 1 1) [0] := by
  have k1 := RowB.new w1 (Value.slice (some ⟨w1.heap.size + 1 + 1, 0, none⟩) nt nt :: List.replicate m (Value.slice none 0 0)) 89
  have s1 : (w1.alloc (.cells (Value.slice (some ⟨w1.heap.size + 1 + 1, 0, none⟩) nt nt :: List.replicate m (Value.slice none 0 0)).toArray 89)).heap.size = w1.heap.size + 1 := by simp
  generalize w1.alloc (.cells (Value.slice (some ⟨w1.heap.size + 1 + 1, 0, none⟩) nt nt :: List.replicate m (Value.slice none 0 0)).toArray 89) = w2 at *
  have k2 := RowB.new w2 (Value.bool true :: bv (List.replicate m false)) 4
  have s2 : (w2.alloc (.cells (Value.bool true :: bv (List.replicate m false)).toArray 4)).heap.size = w2.heap.size + 1 := by simp
  have k1' := k1.alloc (.cells (Value.bool true :: bv (List.replicate m false)).toArray 4)
  generalize w2.alloc (.cells (Value.bool true :: bv (List.replicate m false)).toArray 4) = w3 at *
  have k3 := RowB.new w3 (bv r0) 4
  have s3 : (w3.alloc (.cells (bv r0).toArray 4)).heap.size = w3.heap.size + 1 := by simp
  have k1'' := k1'.alloc (.cells (bv r0).toArray 4)
  have k2'' := k2.alloc (.cells (bv r0).toArray 4)
  generalize w3.alloc (.cells (bv r0).toArray 4) = w4 at *
  have k4 := RowB.new w4 [.int .i64 0] 3
  rw [s1] at k2''
  rw [s2, s1] at k3
  rw [s3, s2, s1] at k4
  refine ⟨by omega, k1''.alloc _, by simp, fun i hi => ?_, k2''.alloc _, ⟨w1.heap.size + 1 + 1 + 1, 0, 1, #[.int .i64 0], rfl, by omega, k4, by simp, by simp, fun j hj => ?_⟩⟩
  · cases i with
    | zero =>
      refine ⟨by simp [bv], .inr ⟨w1.heap.size + 1 + 1, nt, (bv r0).toArray, by simp [hr], by omega, k3.alloc _, by simp [hr], by simp only [maxLen]; omega, by simp [bv, hr], ?_⟩⟩
      simp [bv]
      exact List.take_of_length_le (by simp)
    | succ i =>
      have him : i < m := by simpa using hi
      have e1 : (r0 :: List.replicate m ([] : List Bool)).getD (i + 1) [] = [] := getD_rep m i [] [] him
      have e2 : (Value.slice (some ⟨w1.heap.size + 1 + 1, 0, none⟩) nt nt :: List.replicate m (Value.slice none 0 0)).getD (i + 1) (Value.slice none 0 0) = Value.slice none 0 0 := getD_rep m i _ _ him
      rw [e1, e2]
      exact World.ownsRow_nil _ _ _ _
  · obtain rfl : j = 0 := by simp at hj; omega
    rfl
theorem WkO.first (ev : Bool) (ts : List Int) (pts : List Pt) (m : Nat) (hm : pts.length = m + 1) : WkO ev ts pts (List.replicate ts.length false :: List.replicate m []) (true :: List.replicate m false) [0] := by
  have hs : ∀ i, i < pts.length → seenAt (true :: List.replicate m false) i → i = 0 := by
    intro i hi hs
    cases i with
    | zero => rfl
    | succ i =>
      have e : (true :: List.replicate m false).getD (i + 1) false = false := getD_rep m i _ _ (by omega)
      unfold seenAt at hs
      rw [e] at hs; cases hs
  have ha : ∀ v, v < ts.length → acR ev (List.replicate ts.length false :: List.replicate m []) 0 v = (false != ev) := by
    intro v hv
    unfold acR rget
    rw [show (List.replicate ts.length false :: List.replicate m ([] : List Bool)).getD 0 [] = List.replicate ts.length false from rfl, getD_rep _ _ _ _ hv]
  refine ⟨⟨by simp [hm], by simp [hm], fun i hi h => ?_, fun i hi h => ?_, fun i v hi hv h ha' => ?_, rfl, fun he v hv => by rw [ha v hv, he]; rfl, fun i hi => ?_⟩, fun i hi h => .inl (by rw [hs i hi h]; simp)⟩
  · rw [hs i hi h]; simp
  · cases i with
    | zero => exact absurd rfl h
    | succ i => exact getD_rep m i _ _ (by omega)
  · rw [hs i hi h] at ha' ⊢
    rw [ha v hv] at ha'
    exact .init hv (by simpa [accB] using ha')
  · obtain rfl : i = 0 := by simpa using hi
    exact ⟨by omega, rfl⟩

theorem FQ.cellG {W : World} {G S : Nat} {rows : List (List Bool)} {seen : List Bool} {vs : List Value} {vq : Value} {q : List Nat} (h : FQ W G S rows seen vs vq q) {n k c : Nat} {A : Option Addr} (hn : n < rows.length) (e : vs.getD n (.slice none 0 0) = .slice A k c) : W.cell? ⟨G, n, none⟩ = some (.slice A k c) := by
  rw [h.out.cell n, ← e, getD_lt (by rw [h.vl]; exact hn)]
  exact List.getElem?_eq_getElem _
theorem FQ.cellS {W : World} {G S : Nat} {rows : List (List Bool)} {seen : List Bool} {vs : List Value} {vq : Value} {q : List Nat} (h : FQ W G S rows seen vs vq q) {n : Nat} (hn : n < seen.length) : W.cell? ⟨S, n, none⟩ = some (.bool (seen.getD n false)) := by
  rw [h.sn.cell n, bv_get hn]
theorem FQ.old {W : World} {G S : Nat} {rows : List (List Bool)} {seen : List Bool} {vs : List Value} {vq : Value} {q : List Nat} (h : FQ W G S rows seen vs vq q) {n c : Nat} {A : Option Addr} (hn : n < rows.length) (h6 : (rows.getD n []).length ≤ 1000) (e : vs.getD n (.slice none 0 0) = .slice A (rows.getD n []).length c) : BoolS W W.heap.size (.slice A (rows.getD n []).length c) (rows.getD n []) := by
  have := (h.row n hn).toS (by omega)
  rwa [e] at this
theorem WkN.go {ev : Bool} {ts : List Int} {pts : List Pt} {rows : List (List Bool)} {seen : List Bool} {a k n : Nat} {r0 aft : List Bool} {q : List Nat} {p : Pt} (h : WkN ev ts pts a r0 k rows seen q)
    (hp : pts[a]? = some p) (hn : p.next[k]? = some n) (hnl : n < pts.length) (hal : aft.length = ts.length) (haf : ∀ v, v < ts.length → aft.getD v false = vlB ts p (r0.getD v false) v) :
    WkN ev ts pts a r0 (k + 1) (rows.set n (joinP ev (rows.getD n []) aft)) (seen.set n true) (q ++ [n]) := by
  obtain ⟨hk, e⟩ := List.getElem?_eq_some_iff.1 hn
  exact h.step hp hk e.symm hnl hal haf (.inl rfl)
theorem WkN.stay {ev : Bool} {ts : List Int} {pts : List Pt} {rows : List (List Bool)} {seen : List Bool} {a k n : Nat} {r0 aft : List Bool} {q : List Nat} {p : Pt} (h : WkN ev ts pts a r0 k rows seen q)
    (hp : pts[a]? = some p) (hn : p.next[k]? = some n) (hnl : n < pts.length) (hal : aft.length = ts.length) (haf : ∀ v, v < ts.length → aft.getD v false = vlB ts p (r0.getD v false) v)
    (hs : seen.getD n false = true) (he : rows.getD n [] = joinP ev (rows.getD n []) aft) : WkN ev ts pts a r0 (k + 1) rows seen q := by
  obtain ⟨hk, e⟩ := List.getElem?_eq_some_iff.1 hn
  have := h.step hp hk e.symm hnl hal haf (.inr ⟨rfl, hs, he⟩)
  have hnr : n < rows.length := by rw [h.i.len]; exact hnl
  have hns : n < seen.length := by rw [h.i.slen]; exact hnl
  rw [getD_lt hns] at hs
  rw [← he, getD_lt hnr, List.set_getElem_self hnr] at this
  rw [show seen.set n true = seen by rw [← hs]; exact List.set_getElem_self hns] at this
  exact this

end Go.Proofs.Ytmaaaiccmllnlaa

/- Plain: what flows into variables along points (cells, numbers, setters, loans), as a least set. No program in sight. -/
namespace Go.Proofs.Ytmaaaiccmllnlaa

/-- the sum of f below n -/
def sumN : Nat → (Nat → Nat) → Nat
  | 0, _ => 0
  | n + 1, f => sumN n f + f n
theorem sumN_le {n : Nat} {f g : Nat → Nat} (h : ∀ i, i < n → f i ≤ g i) : sumN n f ≤ sumN n g := by
  induction n with
  | zero => exact Nat.le_refl _
  | succ n ih => have := ih fun i hi => h i (by omega); have := h n (by omega); simp only [sumN]; omega
theorem sumN_lt {n k : Nat} {f g : Nat → Nat} (h : ∀ i, i < n → f i ≤ g i) (hk : k < n) (hlt : f k < g k) : sumN n f < sumN n g := by
  induction n with
  | zero => omega
  | succ n ih =>
    have h1 := h n (by omega)
    have h2 := sumN_le (n := n) (f := f) (g := g) fun i hi => h i (by omega)
    simp only [sumN]
    by_cases e : k = n
    · subst e; omega
    · have := ih (fun i hi => h i (by omega)) (by omega); omega
/-- how many entries are no -/
def muB (n m s : Nat) (st : Nat → Nat → Nat → Bool) : Nat := sumN n fun i => sumN m fun v => sumN s fun e => if st i v e then 0 else 1
theorem one_le {a b : Bool} (h : a = true → b = true) : (if b then 0 else 1) ≤ (if a then 0 else 1) := by
  cases a <;> cases b <;> simp at h ⊢
theorem muB_le {n m s : Nat} {st st' : Nat → Nat → Nat → Bool} (h : ∀ i v e, st i v e = true → st' i v e = true) : muB n m s st' ≤ muB n m s st :=
  sumN_le fun i _ => sumN_le fun v _ => sumN_le fun e _ => one_le (h i v e)
theorem muB_lt {n m s i v e : Nat} {st st' : Nat → Nat → Nat → Bool} (h : ∀ i v e, st i v e = true → st' i v e = true) (hi : i < n) (hv : v < m) (he : e < s) (h0 : st i v e = false) (h1 : st' i v e = true) : muB n m s st' < muB n m s st :=
  sumN_lt (fun i _ => sumN_le fun v _ => sumN_le fun e _ => one_le (h i v e)) hi
    (sumN_lt (fun v _ => sumN_le fun e _ => one_le (h i v e)) hv (sumN_lt (fun e _ => one_le (h i v e)) he (by rw [h0, h1]; decide)))

/-- what v has behind point i (p), where b says what there is before it -/
def aftB (ts : List Int) (G : Nat → Pt → Nat → Bool) (C : Pt → Bool) (i : Nat) (p : Pt) (b : Nat → Nat → Bool) (v e : Nat) : Bool :=
  if setsP p.op p.x = (v : Int) then G i p e || (C p && b p.y.toNat e) else b v e && !(useP ts p.op p.x p.y (v : Int) == 2)
/-- what v has before a point -/
inductive Fl (ts : List Int) (pts : List Pt) (G : Nat → Pt → Nat → Bool) (C : Pt → Bool) : Nat → Nat → Nat → Prop
  | gen {i k v e : Nat} {p : Pt} (hp : pts[i]? = some p) (hk : k ∈ p.next) (hv : v < ts.length) (hs : setsP p.op p.x = (v : Int)) (h : G i p e = true) : Fl ts pts G C k v e
  | copy {i k v e : Nat} {p : Pt} (hp : pts[i]? = some p) (hk : k ∈ p.next) (hv : v < ts.length) (hs : setsP p.op p.x = (v : Int)) (hc : C p = true) (hi : Fl ts pts G C i p.y.toNat e) : Fl ts pts G C k v e
  | keep {i k v e : Nat} {p : Pt} (hp : pts[i]? = some p) (hk : k ∈ p.next) (hv : v < ts.length) (hs : setsP p.op p.x ≠ (v : Int)) (ht : useP ts p.op p.x p.y (v : Int) ≠ 2) (hi : Fl ts pts G C i v e) : Fl ts pts G C k v e
theorem Fl.lt {ts : List Int} {pts : List Pt} {G : Nat → Pt → Nat → Bool} {C : Pt → Bool} {i v e : Nat} (h : Fl ts pts G C i v e) : v < ts.length := by
  cases h <;> assumption
theorem Fl.in_ {ts : List Int} {pts : List Pt} {G : Nat → Pt → Nat → Bool} {C : Pt → Bool} {i v e : Nat} (h : Fl ts pts G C i v e) (hn : ∀ p ∈ pts, ∀ k ∈ p.next, k < pts.length) : i < pts.length := by
  cases h with
  | gen hp hk => exact hn _ (List.mem_of_getElem? hp) _ hk
  | copy hp hk => exact hn _ (List.mem_of_getElem? hp) _ hk
  | keep hp hk => exact hn _ (List.mem_of_getElem? hp) _ hk
theorem Fl.size {ts : List Int} {pts : List Pt} {G : Nat → Pt → Nat → Bool} {C : Pt → Bool} {s i v e : Nat} (h : Fl ts pts G C i v e) (hg : ∀ i p e, pts[i]? = some p → G i p e = true → e < s) : e < s := by
  induction h with
  | gen hp _ _ _ h => exact hg _ _ _ hp h
  | copy _ _ _ _ _ _ ih => exact ih
  | keep _ _ _ _ _ _ ih => exact ih
/-- one step goes on being right -/
theorem Fl.aft {ts : List Int} {pts : List Pt} {G : Nat → Pt → Nat → Bool} {C : Pt → Bool} {b : Nat → Nat → Bool} {i k v e : Nat} {p : Pt} (hb : ∀ v e, b v e = true → Fl ts pts G C i v e) (hp : pts[i]? = some p) (hk : k ∈ p.next) (hv : v < ts.length) (h : aftB ts G C i p b v e = true) : Fl ts pts G C k v e := by
  unfold aftB at h
  split at h
  · rename_i hs
    rw [Bool.or_eq_true, Bool.and_eq_true] at h
    rcases h with h | ⟨hc, h⟩
    · exact .gen hp hk hv hs h
    · exact .copy hp hk hv hs hc (hb _ _ h)
  · rename_i hs
    rw [Bool.and_eq_true] at h
    exact .keep hp hk hv hs (by simpa using h.2) (hb _ _ h.1)
/-- where nothing is missing any more, all is there -/
theorem Fl.done {ts : List Int} {pts : List Pt} {G : Nat → Pt → Nat → Bool} {C : Pt → Bool} {st : Nat → Nat → Nat → Bool} {s : Nat} (hg : ∀ i p e, pts[i]? = some p → G i p e = true → e < s)
    (hc : ∀ i p k v e, pts[i]? = some p → k ∈ p.next → v < ts.length → e < s → aftB ts G C i p (st i) v e = true → st k v e = true) {i v e : Nat} (h : Fl ts pts G C i v e) : st i v e = true := by
  have hs := h.size hg
  induction h with
  | gen hp hk hv hs' h => exact hc _ _ _ _ _ hp hk hv hs (by unfold aftB; rw [if_pos hs', h]; rfl)
  | copy hp hk hv hs' hc' _ ih => exact hc _ _ _ _ _ hp hk hv hs (by unfold aftB; rw [if_pos hs', hc', ih hs]; simp)
  | keep hp hk hv hs' ht _ ih => exact hc _ _ _ _ _ hp hk hv hs (by unfold aftB; rw [if_neg hs', ih hs]; simpa using ht)

def Gcell (i : Nat) (p : Pt) (e : Nat) : Bool := p.op == 2 && e == i
def Ccell (p : Pt) : Bool := p.op == 3 || p.op == 4 || p.op == 5
def Gnum (_ : Nat) (p : Pt) (e : Nat) : Bool := (p.op == 1 && p.n == (e : Int)) || (p.op == 6 && decide (e < 10))
def Cnum (p : Pt) : Bool := p.op == 3
def Gset (i : Nat) (_ : Pt) (e : Nat) : Bool := e == i
def Cset (_ : Pt) : Bool := false
def Gloan (i : Nat) (p : Pt) (e : Nat) : Bool := (p.op == 4 || p.op == 5) && e == i
def Cloan (ts : List Int) (p : Pt) : Bool := p.op == 3 || ((p.op == 4 || p.op == 5) && isRefP (typeOfP ts p.y))

end Go.Proofs.Ytmaaaiccmllnlaa

/- Plain: runs with choices. No program in sight. -/
namespace Go.Proofs.Ytmaaaiccmllnlaa

/-- the point that comes next, the choices that are left -/
def stepP (p : Pt) (cs : List Int) : Nat := if p.next.length = 2 then (if (cs.headD 1) % 2 = 0 then p.next.getD 0 0 else p.next.getD 1 0) else p.next.getD 0 0
def restP (p : Pt) (cs : List Int) : List Int := if p.next.length = 2 then cs.drop 1 else cs
def ptD (pts : List Pt) (k : Nat) : Pt := pts.getD k ⟨11, 0, 0, 0, []⟩
theorem ptD_get {pts : List Pt} {k : Nat} (hk : k < pts.length) : ptD pts k = pts[k] := getD_lt hk
/-- a run from a point on, with at most m points before the last one -/
def runF (pts : List Pt) : Nat → Nat → List Int → List Nat × Bool
  | 0, a, _ => if (ptD pts a).op = 11 then ([a], true) else ([], false)
  | m + 1, a, cs => if (ptD pts a).op = 11 then ([a], true) else (a :: (runF pts m (stepP (ptD pts a) cs) (restP (ptD pts a) cs)).1, (runF pts m (stepP (ptD pts a) cs) (restP (ptD pts a) cs)).2)
theorem runF_end {pts : List Pt} {m a : Nat} {cs : List Int} (h : (ptD pts a).op = 11) : runF pts m a cs = ([a], true) := by
  cases m <;> simp only [runF, h, if_true]
theorem runF_cut {pts : List Pt} {a : Nat} {cs : List Int} (h : (ptD pts a).op ≠ 11) : runF pts 0 a cs = ([], false) := by
  simp only [runF, if_neg h]
theorem runF_go {pts : List Pt} {m a : Nat} {cs : List Int} (h : (ptD pts a).op ≠ 11) : runF pts (m + 1) a cs = (a :: (runF pts m (stepP (ptD pts a) cs) (restP (ptD pts a) cs)).1, (runF pts m (stepP (ptD pts a) cs) (restP (ptD pts a) cs)).2) := by
  simp only [runF, if_neg h]
theorem runF_len (pts : List Pt) (m a : Nat) (cs : List Int) : (runF pts m a cs).1.length ≤ m + 1 := by
  induction m generalizing a cs with
  | zero => simp only [runF]; split <;> simp
  | succ m ih =>
    simp only [runF]
    split
    · simp
    · have := ih (stepP (ptD pts a) cs) (restP (ptD pts a) cs); simp only [List.length_cons]; omega
theorem stepP_mem {p : Pt} (cs : List Int) (h1 : 1 ≤ p.next.length) : stepP p cs ∈ p.next := by
  unfold stepP
  repeat' split
  all_goals (rw [getD_lt (by omega)]; exact List.getElem_mem _)
/-- a run goes from point to next point -/
structure IsRun (pts : List Pt) (a : Nat) (r : List Nat) : Prop where
  inn : ∀ i, i < r.length → r.getD i 0 < pts.length
  edge : ∀ i, i + 1 < r.length → ∃ p, pts[r.getD i 0]? = some p ∧ r.getD (i + 1) 0 ∈ p.next
  first : 0 < r.length → r.getD 0 0 = a
theorem runF_run {pts : List Pt} (hn : ∀ p ∈ pts, ∀ k ∈ p.next, k < pts.length) (h1 : ∀ p ∈ pts, p.op ≠ 11 → 1 ≤ p.next.length) (m a : Nat) (cs : List Int) (ha : a < pts.length) : IsRun pts a (runF pts m a cs).1 := by
  have one : IsRun pts a [a] := ⟨fun i hi => by have : i = 0 := by simpa using hi
                                                subst this; exact ha, fun i hi => by simp at hi, fun _ => rfl⟩
  induction m generalizing a cs with
  | zero =>
    simp only [runF]
    split
    · exact one
    · exact ⟨fun i hi => by simp at hi, fun i hi => by simp at hi, fun h => by simp at h⟩
  | succ m ih =>
    simp only [runF]
    split
    · exact one
    · rename_i hop
      rw [ptD_get ha] at hop ⊢
      have hmem := stepP_mem cs (h1 _ (List.getElem_mem ha) hop)
      have hlt := hn _ (List.getElem_mem ha) _ hmem
      have hr := ih (stepP pts[a] cs) (restP pts[a] cs) hlt
        ⟨fun i hi => by have : i = 0 := by simpa using hi
                        subst this; exact hlt, fun i hi => by simp at hi, fun _ => rfl⟩
      generalize (runF pts m (stepP pts[a] cs) (restP pts[a] cs)).1 = r at *
      refine ⟨fun i hi => ?_, fun i hi => ?_, fun _ => rfl⟩
      · cases i with
        | zero => exact ha
        | succ i => exact hr.inn i (by simpa using hi)
      · cases i with
        | zero =>
          refine ⟨pts[a], List.getElem?_eq_getElem ha, ?_⟩
          show r.getD 0 0 ∈ _
          rw [hr.first (by simpa using hi)]
          exact hmem
        | succ i => exact hr.edge i (by simpa using hi)
theorem ptsP_next1 (l : List St) : ∀ p ∈ ptsP l, p.op ≠ 11 → 1 ≤ p.next.length := by
  intro p hp ho
  simp only [ptsP, List.mem_append, List.mem_singleton] at hp
  rcases hp with hp | rfl
  · exact (ptsL_next 0 l p hp).2.1
  · exact absurd rfl ho

end Go.Proofs.Ytmaaaiccmllnlaa
