import Derived.Test.YtidlifijgooceaaG07
import Derived.Test.YtidlifijgooceaaG29
import Derived.Test.YtidlifijgooceaaG27
set_option linter.unusedVariables false

/- Plain: programs behind each other: their points, and what is known at them. No program in sight. -/
namespace Go.Proofs.Ytidlifijgooceaa

/-- a point moved on by n -/
def shP (n : Nat) (p : Pt) : Pt := { p with next := p.next.map (· + n) }
mutual
theorem ptsSt_sh (n at_ : Nat) : ∀ s : St, ptsSt (at_ + n) s = (ptsSt at_ s).map (shP n)
  | .mk op x y m th el => by
    have h1 := fun a => ptsL_sh n a th
    have h2 := fun a => ptsL_sh n a el
    have e1 : ∀ a, (ptsL (a + n) th).length = (ptsL a th).length := fun a => by rw [h1]; simp
    have e2 : ∀ a, (ptsL (a + n) el).length = (ptsL a el).length := fun a => by rw [h2]; simp
    simp only [ptsSt]
    have a1 : at_ + n + 1 = at_ + 1 + n := by omega
    rw [a1, e1]
    have a2 : at_ + 1 + n + (ptsL (at_ + 1) th).length + 1 = at_ + 1 + (ptsL (at_ + 1) th).length + 1 + n := by omega
    rw [a2, e2, h1, h2]
    split
    · simp [shP]; omega
    · split
      · simp [shP]
      · simp [shP]
theorem ptsL_sh (n at_ : Nat) : ∀ l : List St, ptsL (at_ + n) l = (ptsL at_ l).map (shP n)
  | [] => by simp [ptsL]
  | s :: r => by
    have h1 := ptsSt_sh n at_ s
    have h2 := fun a => ptsL_sh n a r
    have e1 : (ptsSt (at_ + n) s).length = (ptsSt at_ s).length := by rw [h1]; simp
    have a1 : at_ + n + (ptsSt at_ s).length = at_ + (ptsSt at_ s).length + n := by omega
    simp only [ptsL, List.map_append]
    rw [e1, a1, h1, h2]
end
/-- the number of points ahead of the end -/
def npL (a : List St) : Nat := (ptsL 0 a).length
theorem ptsP_cat (a b : List St) : ptsP (a ++ b) = ptsL 0 a ++ (ptsP b).map (shP (npL a)) := by
  unfold ptsP npL
  rw [ptsL_append, show 0 + (ptsL 0 a).length = 0 + (ptsL 0 a).length from rfl, ptsL_sh]
  simp [shP]
theorem npL_len (a : List St) : (ptsP a).length = npL a + 1 := ptsP_len a
theorem cat_len (a b : List St) : (ptsP (a ++ b)).length = npL a + (ptsP b).length := by rw [ptsP_cat]; simp [npL]
theorem cat_left {a b : List St} {i : Nat} (h : i < npL a) : (ptsP (a ++ b))[i]? = (ptsP a)[i]? := by
  rw [ptsP_cat, List.getElem?_append_left h]
  unfold ptsP
  rw [List.getElem?_append_left h]
theorem cat_right {a b : List St} (j : Nat) : (ptsP (a ++ b))[npL a + j]? = ((ptsP b)[j]?).map (shP (npL a)) := by
  rw [ptsP_cat, List.getElem?_append_right (by show npL a ≤ _; omega), List.getElem?_map]
  congr 2
  show npL a + j - npL a = j
  omega
theorem end_at (a : List St) : (ptsP a)[npL a]? = some ⟨11, 0, 0, 0, []⟩ := by
  unfold ptsP npL; simp
theorem here_lt {a : List St} {i k : Nat} {p : Pt} (hp : (ptsP a)[i]? = some p) (hk : k ∈ p.next) : i < npL a := by
  have h1 := (List.getElem?_eq_some_iff.1 hp).1
  rw [npL_len] at h1
  rcases Nat.lt_or_ge i (npL a) with h | h
  · exact h
  · have : i = npL a := by omega
    subst this
    rw [end_at] at hp
    injection hp with hp
    subst hp
    cases hk
theorem sh_next {n k : Nat} {p : Pt} (h : k ∈ (shP n p).next) : ∃ j, j ∈ p.next ∧ k = j + n := by
  unfold shP at h
  obtain ⟨j, h1, h2⟩ := List.mem_map.1 h
  exact ⟨j, h1, h2.symm⟩
theorem next_sh {n k : Nat} {p : Pt} (h : k ∈ p.next) : k + n ∈ (shP n p).next := List.mem_map.2 ⟨k, h, rfl⟩
/-- what is gathered in the first part is gathered in the whole -/
theorem Ac.cat {ev : Bool} {ts : List Int} {a : List St} (b : List St) {f i v : Nat} (h : Ac ev ts (ptsP a) f i v) : Ac ev ts (ptsP (a ++ b)) f i v := by
  induction h with
  | init hv h => exact .init hv h
  | gen hp hk hv h => exact .gen (by rw [cat_left (here_lt hp hk)]; exact hp) hk hv h
  | keep hp hk _ h ih => exact .keep (by rw [cat_left (here_lt hp hk)]; exact hp) hk ih h
/-- what is gathered in the whole: in the first part; in the second, begun with what there is at the first one's end -/
theorem Ac.split {ev : Bool} {ts : List Int} {a b : List St} {f f' i v : Nat} (hf : ∀ v, v < ts.length → (accB ev f' v = true ↔ Ac ev ts (ptsP a) f (npL a) v)) (h : Ac ev ts (ptsP (a ++ b)) f i v) :
    (i < npL a → Ac ev ts (ptsP a) f i v) ∧ (∀ j, i = npL a + j → Ac ev ts (ptsP b) f' j v) := by
  induction h with
  | @init v hv h =>
    refine ⟨fun _ => .init hv h, fun j hj => ?_⟩
    obtain rfl : j = 0 := by omega
    have h0 : npL a = 0 := by omega
    refine .init hv ((hf v hv).2 ?_)
    rw [h0]
    exact .init hv h
  | @gen i k v p hp hk hv h =>
    rcases Nat.lt_or_ge i (npL a) with hi | hi
    · rw [cat_left hi] at hp
      have hA : Ac ev ts (ptsP a) f k v := .gen hp hk hv h
      refine ⟨fun _ => hA, fun j hj => ?_⟩
      have hkn := (ptsP_next a p (List.mem_of_getElem? hp)).2 k hk
      rw [npL_len] at hkn
      obtain rfl : j = 0 := by omega
      exact .init hv ((hf v hv).2 (by rw [show npL a = k by omega]; exact hA))
    · obtain ⟨m, rfl⟩ : ∃ m, i = npL a + m := ⟨i - npL a, by omega⟩
      rw [cat_right, Option.map_eq_some_iff] at hp
      obtain ⟨q, hq, rfl⟩ := hp
      obtain ⟨n, hn, rfl⟩ := sh_next hk
      refine ⟨fun h => by omega, fun j hj => ?_⟩
      obtain rfl : j = n := by omega
      exact .gen hq hn hv h
  | @keep i k v p hp hk hi0 h ih =>
    have hv := hi0.lt
    rcases Nat.lt_or_ge i (npL a) with hi | hi
    · rw [cat_left hi] at hp
      have hA : Ac ev ts (ptsP a) f k v := .keep hp hk (ih.1 hi) h
      refine ⟨fun _ => hA, fun j hj => ?_⟩
      have hkn := (ptsP_next a p (List.mem_of_getElem? hp)).2 k hk
      rw [npL_len] at hkn
      obtain rfl : j = 0 := by omega
      exact .init hv ((hf v hv).2 (by rw [show npL a = k by omega]; exact hA))
    · obtain ⟨m, rfl⟩ : ∃ m, i = npL a + m := ⟨i - npL a, by omega⟩
      rw [cat_right, Option.map_eq_some_iff] at hp
      obtain ⟨q, hq, rfl⟩ := hp
      obtain ⟨n, hn, rfl⟩ := sh_next hk
      refine ⟨fun h => by omega, fun j hj => ?_⟩
      obtain rfl : j = n := by omega
      exact .keep hq hn (ih.2 m rfl) h
theorem Ac.join {ev : Bool} {ts : List Int} {a b : List St} {f f' j v : Nat} (hf : ∀ v, v < ts.length → (accB ev f' v = true ↔ Ac ev ts (ptsP a) f (npL a) v)) (h : Ac ev ts (ptsP b) f' j v) : Ac ev ts (ptsP (a ++ b)) f (npL a + j) v := by
  induction h with
  | @init v hv h => exact ((hf v hv).1 h).cat b
  | @gen i k v p hp hk hv h =>
    have e : npL a + k = k + npL a := by omega
    rw [e]
    exact .gen (p := shP (npL a) p) (by rw [cat_right, hp]; rfl) (next_sh hk) hv h
  | @keep i k v p hp hk _ h ih =>
    have e : npL a + k = k + npL a := by omega
    rw [e]
    exact .keep (p := shP (npL a) p) (by rw [cat_right, hp]; rfl) (next_sh hk) ih h
/-- what is needed in the first part is needed in the whole; what flows there flows in the whole -/
theorem Nd.cat {ts : List Int} {a : List St} (b : List St) {i v : Nat} (h : Nd ts (ptsP a) i v) : Nd ts (ptsP (a ++ b)) i v := by
  induction h with
  | @use i v p hp hv h =>
    have hi : i < npL a := by
      have h1 := (List.getElem?_eq_some_iff.1 hp).1
      rw [npL_len] at h1
      rcases Nat.lt_or_ge i (npL a) with h2 | h2
      · exact h2
      · have : i = npL a := by omega
        subst this
        rw [end_at] at hp
        injection hp with hp
        subst hp
        exact absurd rfl h
    exact .use (by rw [cat_left hi]; exact hp) hv h
  | flow hp hk _ h ih => exact .flow (by rw [cat_left (here_lt hp hk)]; exact hp) hk ih h
theorem Fl.cat {ts : List Int} {a : List St} {G : Nat → Pt → Nat → Bool} {C : Pt → Bool} (b : List St) {i v e : Nat} (h : Fl ts (ptsP a) G C i v e) : Fl ts (ptsP (a ++ b)) G C i v e := by
  induction h with
  | gen hp hk hv hs h => exact .gen (by rw [cat_left (here_lt hp hk)]; exact hp) hk hv hs h
  | copy hp hk hv hs hc _ ih => exact .copy (by rw [cat_left (here_lt hp hk)]; exact hp) hk hv hs hc ih
  | keep hp hk hv hs ht _ ih => exact .keep (by rw [cat_left (here_lt hp hk)]; exact hp) hk hv hs ht ih

end Go.Proofs.Ytidlifijgooceaa

/- Plain: what parts of a program give each other. No program in sight. -/
namespace Go.Proofs.Ytidlifijgooceaa

theorem valid_cat {ts : List Int} {a b : List St} (h : validP ts (a ++ b) = true) : validP ts a = true ∧ validP ts b = true := by
  unfold validP at h ⊢
  rw [slOk_append, szL_append] at h
  simp only [Bool.and_eq_true, decide_eq_true_eq] at h ⊢
  obtain ⟨h1, ⟨h2, h3⟩, h4⟩ := h
  exact ⟨⟨h1, h2, by omega⟩, h1, h3, by omega⟩
theorem givOk_always (ts : List Int) (pts : List Pt) (gv k : Nat) : givOk ts (alwaysAt ts pts gv k) = true := by
  unfold givOk alwaysAt
  rw [List.all_eq_true]
  intro x hx
  obtain ⟨e, h1, -, rfl⟩ := lst_mem.1 hx
  simp [withinP]; omega
/-- what a first part gives, given on -/
theorem giv_split {ts : List Int} {a : List St} {f : Nat} : ∀ v, v < ts.length → (accB true (givM ts (alwaysAt ts (ptsP a) f (npL a))) v = true ↔ Ac true ts (ptsP a) f (npL a) v) := by
  intro v hv
  unfold accB givM alwaysAt
  rw [bm_bit, lst_has, decide_eq_true hv, Bool.true_and, Bool.true_and]
  refine Iff.trans ?_ (dec_iff (p := Ac true ts (ptsP a) f (npL a) v))
  cases dec (Ac true ts (ptsP a) f (npL a) v) <;> simp
theorem gives_follow {ts : List Int} {a b : List St} (hv : validP ts (a ++ b) = true) : givesRes ts (a ++ b) [] = givesRes ts b (givesRes ts a []) := by
  obtain ⟨ha, hb⟩ := valid_cat hv
  have e0 : givesRes ts a [] = alwaysAt ts (ptsP a) (givM ts []) (npL a) := by
    unfold givesRes; rw [if_pos ⟨ha, rfl⟩, npL_len]; rfl
  rw [e0]
  unfold givesRes
  rw [if_pos ⟨hv, rfl⟩, if_pos ⟨hb, givOk_always _ _ _ _⟩, cat_len, npL_len]
  show alwaysAt ts (ptsP (a ++ b)) (givM ts []) (npL a + npL b) = alwaysAt ts (ptsP b) _ (npL b)
  unfold alwaysAt
  refine lst_congr fun v _ => ?_
  congr 1
  exact dec_congr ⟨fun h => (h.split giv_split).2 _ rfl, fun h => Ac.join giv_split h⟩
end Go.Proofs.Ytidlifijgooceaa

/- Words for the laws on split programs. -/
namespace Go.Proofs.Ytidlifijgooceaa
open Go.RowKit

theorem PgB.ofS {w w1 : World} {vt vb : Value} {ts : List Int} {l : List St} (hb : Below w.heap.size w w1) (ht : IntS w1 w1.heap.size vt ts) (hl : StS w1 w1.heap.size vb l) : PgB w (w1.alloc (.cells #[vt, vb] 26)) w1.heap.size vt vb ts l := by
  have hA := bel_a w1 (.cells #[vt, vb] 26)
  exact ⟨hb.trans (hA.mono hb.size), heap_alloc_new w1 _, (ht.low hA (Nat.le_refl _)).more hA.size, (hl.low hA (Nat.le_refl _)).more hA.size⟩
theorem spl_sz {q : Bool} {m : Nat} {l la lb : List St} (ha : la = if q then l.take m else []) (hb : lb = if q then l.drop m else []) : szL la ≤ szL l ∧ szL lb ≤ szL l := by
  have h1 := szL_append (l.take m) (l.drop m)
  rw [List.take_append_drop] at h1
  cases q
  · simp at ha hb; subst ha hb; simp [szL]
  · simp at ha hb; subst ha hb; omega
theorem spl_eq {ts tz : List Int} {l la lb : List St} {k : Int} (hq : splOk ts l k = true) (hz : tz = if splOk ts l k then ts else []) (ha : la = if splOk ts l k then l.take k.toNat else []) (hb : lb = if splOk ts l k then l.drop k.toNat else []) :
    tz = ts ∧ l = la ++ lb ∧ validP ts (la ++ lb) = true := by
  rw [hq, if_pos rfl] at hz ha hb
  subst hz ha hb
  rw [List.take_append_drop]
  refine ⟨rfl, rfl, ?_⟩
  unfold splOk at hq
  rw [Bool.and_eq_true] at hq
  exact hq.1
end Go.Proofs.Ytidlifijgooceaa

/- FnGivesFollow: the walk. -/
namespace Go.Proofs.Ytidlifijgooceaa
open Go.RowKit

set_option maxHeartbeats 8000000
set_option maxRecDepth 100000
theorem fnGivesFollow_any (A : Option Addr) (n c : Nat) (w : World) (hb : Byt w w.heap.size A n) (hm : n ≤ maxLen) (hc : n ≤ c) :
    Calls Try.prog 3 #[.slice A n c] w (LawRet w) := by
  have HB := Lib.hid hb
  clear hb
  by_cases hn : n ≤ 1048576
  · go_enter Try.func3, Try.ntmps3
    go_wp2_with fail
    refine (drawSplitProgram_any A n c _ HB.out hn hc).mono ?_
    rintro e w1 ⟨vt, vb, ts, l, k, rfl, hit, hst, hts, hsz, hb1⟩
    have HP1 := Lib.hid (PgB.new hit hst hb1)
    obtain ⟨At, ct, rfl, hct⟩ := hit.slice
    obtain ⟨Ab, cb, rfl, hcb⟩ := hst.slice
    clear hit hst hb1
    go_wp2_with fail
    generalize w1.alloc (.cells #[.slice At ts.length ct, .slice Ab l.length cb] 26) = W1 at *
    obtain ⟨g, hg⟩ : ∃ g, g = w1.heap.size := ⟨_, rfl⟩
    rw [← hg] at HP1 ⊢
    clear hg
    obtain ⟨tz, HTZ⟩ : ∃ tz, Hid (tz = if splOk ts l k then ts else []) := ⟨_, Lib.hid rfl⟩
    obtain ⟨la, HLA⟩ : ∃ la, Hid (la = if splOk ts l k then l.take k.toNat else []) := ⟨_, Lib.hid rfl⟩
    obtain ⟨lb, HLB⟩ : ∃ lb, Hid (lb = if splOk ts l k then l.drop k.toNat else []) := ⟨_, Lib.hid rfl⟩
    have HSA := Lib.hid (spl_sz HLA.out HLB.out)
    refine (iSplit_any _ _ ts l k _ _ HP1.out.ht HP1.out.hl (Nat.le_refl _) (by omega) (by omega)).mono ?_
    rintro e w2 ⟨vta, vba, vtb, vbb, rfl, hia, hsa, hib, hsb, hb2⟩
    rw [← HTZ.out] at hia hib
    rw [← HLA.out] at hsa
    rw [← HLB.out] at hsb
    obtain ⟨Ta, ta, rfl, -, -, -⟩ := id hia
    obtain ⟨Sa, sa, rfl, -⟩ := hsa.slice
    obtain ⟨Tb, tb, rfl, -, -, -⟩ := id hib
    obtain ⟨Sb, sb, rfl, -⟩ := hsb.slice
    have hA2 := bel_a w2 (.cells #[.slice Ta tz.length ta, .slice Sa la.length sa] 26)
    have hB2 := bel_a (w2.alloc (.cells #[.slice Ta tz.length ta, .slice Sa la.length sa] 26)) (.cells #[.slice Tb tz.length tb, .slice Sb lb.length sb] 26)
    have HP2 := Lib.hid (((HP1.out.bels hb2).bels hA2).bels hB2)
    have HQa := Lib.hid ((PgB.ofS (HP1.out.bels hb2).bel hia hsa).bels hB2)
    have HQb := Lib.hid (PgB.ofS ((HP1.out.bels hb2).bels hA2).bel (hib.bel hA2) ((hsb.low hA2 (Nat.le_refl _)).more hA2.size))
    have hsz2 : (w2.alloc (.cells #[.slice Ta tz.length ta, .slice Sa la.length sa] 26)).heap.size = w2.heap.size + 1 := by simp
    rw [hsz2] at HQb
    clear hA2 hB2 hb2 hia hsa hib hsb hsz2
    go_upto_region 5 with (at_builtin; fail)
    generalize (w2.alloc (.cells #[.slice Ta tz.length ta, .slice Sa la.length sa] 26)).alloc (.cells #[.slice Tb tz.length tb, .slice Sb lb.length sb] 26) = W2 at *
    obtain ⟨ga, hga⟩ : ∃ ga, ga = w2.heap.size := ⟨_, rfl⟩
    obtain ⟨gb, hgb⟩ : ∃ gb, gb = w2.heap.size + 1 := ⟨_, rfl⟩
    rw [← hga] at HQa
    rw [← hgb] at HQb
    rw [← hgb, ← hga]
    clear hga hgb
    have c0 := HP2.out.c0
    have c1 := HP2.out.c1
    go_wp2_with (at_builtin; fail)
    refine (sSplit_any _ _ ts l k _ _ HP2.out.ht HP2.out.hl (Nat.le_refl _) (by omega) (by omega)).mono ?_
    rintro e w3 ⟨vtx, vbx, vty, vby, rfl, hix, hsx, hiy, hsy, hb3⟩
    rw [← HTZ.out] at hix hiy
    rw [← HLA.out] at hsx
    rw [← HLB.out] at hsy
    obtain ⟨Tx, tx, rfl, -, -, -⟩ := id hix
    obtain ⟨Sx, sx, rfl, -⟩ := hsx.slice
    obtain ⟨Ty, ty, rfl, -, -, -⟩ := id hiy
    obtain ⟨Sy, sy, rfl, -⟩ := hsy.slice
    have hA3 := bel_a w3 (.cells #[.slice Tx tz.length tx, .slice Sx la.length sx] 26)
    have hB3 := bel_a (w3.alloc (.cells #[.slice Tx tz.length tx, .slice Sx la.length sx] 26)) (.cells #[.slice Ty tz.length ty, .slice Sy lb.length sy] 26)
    have HP3 := Lib.hid (((HP2.out.bels hb3).bels hA3).bels hB3)
    have HQx := Lib.hid ((PgB.ofS (HP2.out.bels hb3).bel hix hsx).bels hB3)
    have HQy := Lib.hid (PgB.ofS ((HP2.out.bels hb3).bels hA3).bel (hiy.bel hA3) ((hsy.low hA3 (Nat.le_refl _)).more hA3.size))
    have hsz3 : (w3.alloc (.cells #[.slice Tx tz.length tx, .slice Sx la.length sx] 26)).heap.size = w3.heap.size + 1 := by simp
    rw [hsz3] at HQy
    have HQa := Lib.hid (((HQa.out.bels hb3).bels hA3).bels hB3)
    have HQb := Lib.hid (((HQb.out.bels hb3).bels hA3).bels hB3)
    clear hA3 hB3 hb3 hix hsx hiy hsy hsz3 c0 c1
    go_upto_region 6 with (at_builtin; fail)
    generalize (w3.alloc (.cells #[.slice Tx tz.length tx, .slice Sx la.length sx] 26)).alloc (.cells #[.slice Ty tz.length ty, .slice Sy lb.length sy] 26) = W3 at *
    obtain ⟨gx, hgx⟩ : ∃ gx, gx = w3.heap.size := ⟨_, rfl⟩
    obtain ⟨gy, hgy⟩ : ∃ gy, gy = w3.heap.size + 1 := ⟨_, rfl⟩
    rw [← hgx] at HQx
    rw [← hgy] at HQy
    rw [← hgy, ← hgx]
    clear hgx hgy
    cases hq : splOk ts l k
    · have HSQ := Lib.hid hq
      clear hq
      have a0 := HQa.out.c0
      have a1 := HQa.out.c1
      have x0 := HQx.out.c0
      have x1 := HQx.out.c1
      go_wp2_with (at_builtin; fail)
      refine (iProgramSame_same _ _ _ _ tz la _ _ HQa.out.ht HQa.out.hl HQx.out.ht HQx.out.hl (Nat.le_refl _) (by have := HSA.out.1; have := HSA.out.2; omega)).mono ?_
      rintro e w4 ⟨rfl, hb4⟩
      have HP4 := Lib.hid (HP3.out.bels hb4)
      have HQa := Lib.hid (HQa.out.bels hb4)
      have HQx := Lib.hid (HQx.out.bels hb4)
      clear hb4
      clear a0 a1 x0 x1
      have a0 := HQa.out.c0
      have a1 := HQa.out.c1
      have x0 := HQx.out.c0
      have x1 := HQx.out.c1
      go_wp2_with (at_builtin; fail)
      refine (iProgramSame_same _ _ _ _ tz la _ _ HQa.out.ht HQa.out.hl HQx.out.ht HQx.out.hl (Nat.le_refl _) (by have := HSA.out.1; have := HSA.out.2; omega)).mono ?_
      rintro e w5 ⟨rfl, hb5⟩
      have HP5 := Lib.hid (HP4.out.bels hb5)
      have HQa := Lib.hid (HQa.out.bels hb5)
      have HQx := Lib.hid (HQx.out.bels hb5)
      clear hb5
      clear a0 a1 x0 x1
      have a0 := HQa.out.c0
      have a1 := HQa.out.c1
      have x0 := HQx.out.c0
      have x1 := HQx.out.c1
      go_wp2_with (at_builtin; fail)
      go_ret
      exact ⟨ret_bool (by simp), HP5.out.bel⟩
    · have HSQ := Lib.hid hq
      have HEQ := Lib.hid (spl_eq hq HTZ.out HLA.out HLB.out)
      clear hq
      have a0 := HQa.out.c0
      have a1 := HQa.out.c1
      have b0 := HQb.out.c0
      have b1 := HQb.out.c1
      have x0 := HQx.out.c0
      have x1 := HQx.out.c1
      go_wp2_with (at_builtin; fail)
      refine (iProgramSame_same _ _ _ _ tz la _ _ HQa.out.ht HQa.out.hl HQx.out.ht HQx.out.hl (Nat.le_refl _) (by have := HSA.out.1; have := HSA.out.2; omega)).mono ?_
      rintro e w4 ⟨rfl, hb4⟩
      have HP4 := Lib.hid (HP3.out.bels hb4)
      have HQa := Lib.hid (HQa.out.bels hb4)
      have HQb := Lib.hid (HQb.out.bels hb4)
      have HQx := Lib.hid (HQx.out.bels hb4)
      clear hb4
      clear a0 a1 b0 b1 x0 x1
      have a0 := HQa.out.c0
      have a1 := HQa.out.c1
      have b0 := HQb.out.c0
      have b1 := HQb.out.c1
      have x0 := HQx.out.c0
      have x1 := HQx.out.c1
      go_wp2_with (at_builtin; fail)
      obtain ⟨htz, hll, hval⟩ := HEQ.out
      have HLAW := Lib.hid (gives_follow hval)
      rw [← hll] at HLAW
      have HTZ2 := Lib.hid htz
      clear htz hll hval
      have HD := Lib.hid ((Below.refl w4.heap.size w4).drew)
      have K4 := Lib.hid (And.intro HP4.out.c0 (And.intro HP4.out.c1 (And.intro HQa.out.c0 (And.intro HQa.out.c1 (And.intro HQb.out.c0 HQb.out.c1)))))
      have HPd := Lib.hid (HP4.out.bels HD.out)
      have HQad := Lib.hid (HQa.out.bels HD.out)
      have HQbd := Lib.hid (HQb.out.bels HD.out)
      clear a0 a1 b0 b1 x0 x1
      have tok1 : True := trivial
      go_region_held3 (fun w' => w'.cell? ⟨g, 0, none⟩ = some (.slice At ts.length ct) ∧ w'.cell? ⟨g, 1, none⟩ = some (.slice Ab l.length cb) ∧ w'.cell? ⟨ga, 0, none⟩ = some (.slice Ta tz.length ta) ∧ w'.cell? ⟨ga, 1, none⟩ = some (.slice Sa la.length sa) ∧ w'.cell? ⟨gb, 0, none⟩ = some (.slice Tb tz.length tb) ∧ w'.cell? ⟨gb, 1, none⟩ = some (.slice Sb lb.length sb))
        (first | exact K4.out | exact K5.out | exact K6.out | exact K7.out | exact K8.out | assumption | go_keep)
        (first
          | (have _t := tok1; go_at_call 16; (refine (iGivesOf_any _ _ _ ts [] l _ _ HPd.out.ht HPd.out.hl (IntS.nil' _ _ _ _) (Nat.le_refl _) (by have := HSA.out.1; have := HSA.out.2; omega)).mono ?_); (rintro e w5 ⟨v5, rfl, hv5, hb5⟩); clear tok1 _t; (obtain ⟨A5, m5, rfl, -, -, -⟩ := id hv5); (have HV5 := Lib.hid hv5); (have HPd := Lib.hid (HPd.out.bels hb5)); (have HQad := Lib.hid (HQad.out.bels hb5)); (have HQbd := Lib.hid (HQbd.out.bels hb5)); (have K5 := Lib.hid (And.intro HPd.out.c0 (And.intro HPd.out.c1 (And.intro HQad.out.c0 (And.intro HQad.out.c1 (And.intro HQbd.out.c0 HQbd.out.c1)))))); clear hv5 hb5; (have tok2 : True := trivial))
          | (have _t := tok2; go_at_call 16; (refine (iGivesOf_any _ _ _ tz [] la _ _ HQad.out.ht HQad.out.hl (IntS.nil' _ _ _ _) (Nat.le_refl _) (by have := HSA.out.1; have := HSA.out.2; omega)).mono ?_); (rintro e w6 ⟨v6, rfl, hv6, hb6⟩); clear tok2 _t; (obtain ⟨A6, m6, rfl, -, -, -⟩ := id hv6); (have HV6 := Lib.hid hv6); (have HV5 := Lib.hid (HV5.out.bel hb6)); (have HPd := Lib.hid (HPd.out.bels hb6)); (have HQad := Lib.hid (HQad.out.bels hb6)); (have HQbd := Lib.hid (HQbd.out.bels hb6)); (have K6 := Lib.hid (And.intro HPd.out.c0 (And.intro HPd.out.c1 (And.intro HQad.out.c0 (And.intro HQad.out.c1 (And.intro HQbd.out.c0 HQbd.out.c1)))))); clear hv6 hb6; (have tok3 : True := trivial))
          | (have _t := tok3; go_at_call 16; (refine (iGivesOf_any _ _ _ tz _ lb _ _ HQbd.out.ht HQbd.out.hl HV6.out (Nat.le_refl _) (by have := HSA.out.1; have := HSA.out.2; omega)).mono ?_); (rintro e w7 ⟨v7, rfl, hv7, hb7⟩); clear tok3 _t; (obtain ⟨A7, m7, rfl, -, -, -⟩ := id hv7); (have HV7 := Lib.hid hv7); (have HV5 := Lib.hid (HV5.out.bel hb7)); (have HPd := Lib.hid (HPd.out.bels hb7)); (have HQad := Lib.hid (HQad.out.bels hb7)); (have HQbd := Lib.hid (HQbd.out.bels hb7)); (have K7 := Lib.hid (And.intro HPd.out.c0 (And.intro HPd.out.c1 (And.intro HQad.out.c0 (And.intro HQad.out.c1 (And.intro HQbd.out.c0 HQbd.out.c1)))))); clear hv7 hb7; (have tok4 : True := trivial))
          | (have _t := tok4; go_at_call 15; (refine (bcInts_any _ _ _ _ _ _ HV5.out HV7.out).mono ?_); (rintro e w8 ⟨rfl, n8, rfl⟩); clear tok4 _t; (have hb8 := below_of_drewN (w := w7) ⟨n8, rfl⟩ w7.heap.size); (have HPd := Lib.hid (HPd.out.bels hb8)); (have HQad := Lib.hid (HQad.out.bels hb8)); (have HQbd := Lib.hid (HQbd.out.bels hb8)); (have K8 := Lib.hid (And.intro HPd.out.c0 (And.intro HPd.out.c1 (And.intro HQad.out.c0 (And.intro HQad.out.c1 (And.intro HQbd.out.c0 HQbd.out.c1)))))); clear hb8)
          | fail)
      go_wp2_with fail
      go_ret
      exact ⟨ret_bool (by rw [HTZ2.out, ← HLAW.out]; simp [eqP]), HPd.out.bel⟩
  · have hn1 : (1048576 : Int) < n := by omega
    unfold maxLen at hm
    go_enter Try.func3, Try.ntmps3
    go_wp2_with fail
    go_ret
    exact ⟨rfl, Below.refl _ _⟩

end Go.Proofs.Ytidlifijgooceaa
