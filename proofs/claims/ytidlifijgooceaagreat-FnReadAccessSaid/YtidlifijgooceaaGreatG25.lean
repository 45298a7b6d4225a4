import Derived.Test.YtidlifijgooceaaGreatG24
import Derived.Test.YtidlifijgooceaaGreatG06
import Derived.Test.YtidlifijgooceaaGreatG07
set_option linter.unusedVariables false

/- Plain: the state of a search whose sets are numbers of 64 bits, six for each point. No program in sight. -/
namespace Go.Proofs.YtidlifijgooceaaGreat

def top64 : Nat := 2 ^ 64
theorem bit_lt64 {m e : Nat} (hm : m < top64) (h : m.testBit e = true) : e < 64 := by
  rcases Nat.lt_or_ge e 64 with h1 | h1
  · exact h1
  · rw [Nat.testBit_lt_two_pow (Nat.lt_of_lt_of_le hm (Nat.pow_le_pow_right (n := 2) (by omega) h1))] at h; cases h
theorem or_top {a b : Nat} (ha : a < top64) (hb : b < top64) : a ||| b < top64 := Nat.or_lt_two_pow ha hb
/-- two numbers of 64 bits whose or differs from the first: some bit is new -/
theorem or_new {a b : Nat} (ha : a < top64) (hb : b < top64) (h : a ||| b ≠ a) : ∃ e, e < 64 ∧ a.testBit e = false ∧ b.testBit e = true := by
  refine Classical.byContradiction fun hno => h ?_
  apply Nat.eq_of_testBit_eq
  intro e
  rw [Nat.testBit_or]
  cases h1 : a.testBit e
  · cases h2 : b.testBit e
    · rfl
    · exact absurd ⟨e, bit_lt64 hb h2, h1, h2⟩ hno
  · rfl
theorem or_bits {a b : Nat} : a ||| b = a ↔ ∀ e, b.testBit e = true → a.testBit e = true := by
  constructor
  · intro h e he
    rw [← h, Nat.testBit_or, he, Bool.or_true]
  · intro h
    apply Nat.eq_of_testBit_eq
    intro e
    rw [Nat.testBit_or]
    cases h2 : b.testBit e
    · simp
    · rw [h e h2]; rfl
def stF (fs : List Nat) (i v e : Nat) : Bool := decide (v < 6) && (fs.getD (i * 6 + v) 0).testBit e
structure TrI (ts : List Int) (pts : List Pt) (G : Nat → Pt → Nat → Bool) (C : Pt → Bool) (fs : List Nat) : Prop where
  len : fs.length = pts.length * 6
  small : ∀ m ∈ fs, m < top64
  snd : ∀ i v e, stF fs i v e = true → Fl ts pts G C i v e
theorem TrI.init (ts : List Int) (pts : List Pt) (G : Nat → Pt → Nat → Bool) (C : Pt → Bool) : TrI ts pts G C (List.replicate (pts.length * 6) 0) := by
  refine ⟨by simp, fun m hm => ?_, fun i v e h => ?_⟩
  · rw [(List.mem_replicate.1 hm).2]; exact Nat.two_pow_pos _
  · have h0 : (List.replicate (pts.length * 6) 0).getD (i * 6 + v) 0 = 0 := by
      by_cases hk : i * 6 + v < pts.length * 6
      · rw [getD_lt (by simpa using hk)]; simp
      · rw [getD_ge (by simpa using hk)]
    unfold stF at h
    rw [h0] at h; simp at h
theorem getD_small {fs : List Nat} (h : ∀ m ∈ fs, m < top64) (k : Nat) : fs.getD k 0 < top64 := by
  by_cases hk : k < fs.length
  · rw [getD_lt hk]; exact h _ (List.getElem_mem hk)
  · rw [getD_ge (by omega)]; exact Nat.two_pow_pos _
theorem stF_set {fs : List Nat} {k v s i u e : Nat} (hk : k * 6 + v < fs.length) (hv : v < 6) : stF (fs.set (k * 6 + v) (fs.getD (k * 6 + v) 0 ||| s)) i u e = (stF fs i u e || (decide (i = k) && decide (u = v) && s.testBit e)) := by
  unfold stF
  rw [getD_setT hk]
  by_cases hu : u < 6
  · rw [decide_eq_true hu]
    by_cases e1 : i = k
    · by_cases e2 : u = v
      · rw [if_pos (by omega), e1, e2, Nat.testBit_or]; simp
      · rw [if_neg (by omega)]; simp [e2]
    · rw [if_neg (by omega)]; simp [e1]
  · have : ¬ u = v := by omega
    simp [hu, this]
theorem TrI.upd {ts : List Int} {pts : List Pt} {G : Nat → Pt → Nat → Bool} {C : Pt → Bool} {fs : List Nat} {k v s : Nat} (h : TrI ts pts G C fs) (hk : k < pts.length) (hv : v < 6) (hs : s < top64) (hf : ∀ e, s.testBit e = true → Fl ts pts G C k v e) : TrI ts pts G C (fs.set (k * 6 + v) (fs.getD (k * 6 + v) 0 ||| s)) := by
  have hl : k * 6 + v < fs.length := by rw [h.len]; omega
  refine ⟨by simp [h.len], fun m hm => ?_, fun i u e he => ?_⟩
  · rcases List.mem_or_eq_of_mem_set hm with hm | rfl
    · exact h.small m hm
    · exact or_top (getD_small h.small _) hs
  · rw [stF_set hl hv, Bool.or_eq_true] at he
    rcases he with he | he
    · exact h.snd i u e he
    · simp only [Bool.and_eq_true, decide_eq_true_eq] at he
      obtain ⟨⟨rfl, rfl⟩, he⟩ := he
      exact hf e he
theorem TrI.mu {fs : List Nat} {n k v s : Nat} (hl : fs.length = n * 6) (hsm : ∀ m ∈ fs, m < top64) (hk : k < n) (hv : v < 6) (hs : s < top64) (hne : fs.getD (k * 6 + v) 0 ||| s ≠ fs.getD (k * 6 + v) 0) : muB n 6 64 (stF (fs.set (k * 6 + v) (fs.getD (k * 6 + v) 0 ||| s))) < muB n 6 64 (stF fs) := by
  have hkl : k * 6 + v < fs.length := by rw [hl]; omega
  obtain ⟨e, he, h0, h1⟩ := or_new (getD_small hsm _) hs hne
  refine muB_lt (i := k) (v := v) (e := e) (fun i u e h => ?_) hk hv he ?_ ?_
  · rw [stF_set hkl hv, h]; rfl
  · unfold stF; rw [decide_eq_true hv, h0]; rfl
  · rw [stF_set hkl hv, h1]; simp
/-- the sets behind a point -/
def AfL (ts : List Int) (G : Nat → Pt → Nat → Bool) (C : Pt → Bool) (i : Nat) (p : Pt) (b : Nat → Nat → Bool) (af : List Nat) : Prop := af.length = 6 ∧ ∀ v, v < 6 → af.getD v 0 < top64 ∧ ∀ e, (af.getD v 0).testBit e = aftB ts G C i p b v e
theorem AfL.snd {ts : List Int} {pts : List Pt} {G : Nat → Pt → Nat → Bool} {C : Pt → Bool} {fs af : List Nat} {i k v e : Nat} {p : Pt} (h : TrI ts pts G C fs) (ha : AfL ts G C i p (stF fs i) af) (hp : pts[i]? = some p) (hk : k ∈ p.next) (hx : setsP p.op p.x < ts.length) (hv : v < 6) (he : (af.getD v 0).testBit e = true) : Fl ts pts G C k v e := by
  rw [(ha.2 v hv).2 e] at he
  by_cases hvl : v < ts.length
  · exact Fl.aft (h.snd i) hp hk hvl he
  · unfold aftB at he
    split at he
    · rename_i hs; omega
    · rw [Bool.and_eq_true] at he
      exact absurd (h.snd i v e he.1).lt hvl
theorem afl_rest {ts : List Int} {pts : List Pt} {G : Nat → Pt → Nat → Bool} {C : Pt → Bool} {ns : List Nat} {k v tk : Nat} {p : Pt} (h : TrI ts pts G C ns) (hv : v < 6) (ht : tk.testBit v = (decide (v < ts.length) && (useP ts p.op p.x p.y (v : Nat) == 2))) (e : Nat) :
    (if tk.testBit v = true then 0 else ns.getD (k * 6 + v) 0).testBit e = (stF ns k v e && !(useP ts p.op p.x p.y (v : Nat) == 2)) := by
  have h1 : (ns.getD (k * 6 + v) 0).testBit e = stF ns k v e := by unfold stF; rw [decide_eq_true hv, Bool.true_and]
  by_cases hvl : v < ts.length
  · rw [decide_eq_true hvl, Bool.true_and] at ht
    rw [ht]
    cases hu : (useP ts p.op p.x p.y (v : Nat) == 2)
    · simp [← h1]
    · simp
  · rw [decide_eq_false hvl, Bool.false_and] at ht
    rw [ht]
    have h2 : stF ns k v e = false := by
      cases hh : stF ns k v e
      · rfl
      · exact absurd (h.snd k v e hh).lt hvl
    rw [if_neg (by simp), h1, h2]; rfl
theorem afl_lt {ts : List Int} {pts : List Pt} {G : Nat → Pt → Nat → Bool} {C : Pt → Bool} {ns : List Nat} {k v tk : Nat} (h : TrI ts pts G C ns) : (if tk.testBit v = true then 0 else ns.getD (k * 6 + v) 0) < top64 := by
  split
  · exact Nat.two_pow_pos _
  · exact getD_small h.small _
theorem AfL.neg {ts : List Int} {pts : List Pt} {G : Nat → Pt → Nat → Bool} {C : Pt → Bool} {ns af : List Nat} {k tk : Nat} {p : Pt} (h : TrI ts pts G C ns) (hl : af.length = 6) (haf : ∀ u, u < 6 → af.getD u 0 = if tk.testBit u = true then 0 else ns.getD (k * 6 + u) 0)
    (ht : ∀ u : Nat, u < 6 → tk.testBit u = (decide (u < ts.length) && (useP ts p.op p.x p.y (u : Nat) == 2))) (hs : setsP p.op p.x < 0) : AfL ts G C k p (stF ns k) af := by
  refine ⟨hl, fun v hv => ⟨?_, fun e => ?_⟩⟩
  · rw [haf v hv]; exact afl_lt h
  · rw [haf v hv, afl_rest h hv (ht v hv)]
    unfold aftB
    rw [if_neg (by omega)]
theorem AfL.pos {ts : List Int} {pts : List Pt} {G : Nat → Pt → Nat → Bool} {C : Pt → Bool} {ns af fv : List Nat} {k tk x s : Nat} {p : Pt} (h : TrI ts pts G C ns) (hl : af.length = 6) (haf : ∀ u, u < 6 → af.getD u 0 = if tk.testBit u = true then 0 else ns.getD (k * 6 + u) 0)
    (ht : ∀ u : Nat, u < 6 → tk.testBit u = (decide (u < ts.length) && (useP ts p.op p.x p.y (u : Nat) == 2))) (hs : setsP p.op p.x = (x : Int)) (hx : x < 6) (hs64 : s < top64) (hfl : fv.length = 6) (hfv : ∀ u, u < 6 → fv.getD u 0 = ns.getD (k * 6 + u) 0)
    (hsb : ∀ e, s.testBit e = (G k p e || (C p && (fv.getD p.y.toNat 0).testBit e))) : AfL ts G C k p (stF ns k) (af.set x s) := by
  refine ⟨by simp [hl], fun v hv => ?_⟩
  rw [getD_setT (by omega)]
  by_cases e1 : v = x
  · rw [if_pos e1]
    refine ⟨hs64, fun e => ?_⟩
    unfold aftB
    rw [if_pos (by omega), hsb e]
    unfold stF
    by_cases hy : p.y.toNat < 6
    · rw [decide_eq_true hy, Bool.true_and, hfv _ hy]
    · rw [decide_eq_false hy, Bool.false_and, getD_ge (by omega)]; simp
  · rw [if_neg e1]
    refine ⟨?_, fun e => ?_⟩
    · rw [haf v hv]; exact afl_lt h
    · rw [haf v hv, afl_rest h hv (ht v hv)]
      unfold aftB
      rw [if_neg (by omega)]
/-- along all edges of point i nothing is missing -/
def ClT (ts : List Int) (pts : List Pt) (G : Nat → Pt → Nat → Bool) (C : Pt → Bool) (fs : List Nat) (i : Nat) : Prop :=
  ∀ p, pts[i]? = some p → ∀ k ∈ p.next, ∀ v, v < 6 → ∀ e, aftB ts G C i p (stF fs i) v e = true → stF fs k v e = true
theorem TrI.done {ts : List Int} {pts : List Pt} {G : Nat → Pt → Nat → Bool} {C : Pt → Bool} {fs : List Nat} (h : TrI ts pts G C fs) (h6 : ts.length ≤ 6) (hg : ∀ i p e, pts[i]? = some p → G i p e = true → e < 64) (hc : ∀ i, i < pts.length → ClT ts pts G C fs i) (i v e : Nat) : stF fs i v e = true ↔ Fl ts pts G C i v e := by
  refine ⟨h.snd i v e, fun hf => Fl.done (s := 64) (st := stF fs) hg (fun i p k v e hp hk hv _ ha => ?_) hf⟩
  refine hc i ?_ p hp k hk v (by omega) e ha
  rcases Nat.lt_or_ge i pts.length with h | h
  · exact h
  · rw [List.getElem?_eq_none h] at hp; cases hp

end Go.Proofs.YtidlifijgooceaaGreat

/- Words on uint64; impl.loanBits. -/
namespace Go.Proofs.YtidlifijgooceaaGreat
open Go.RowKit

/-- sets as uint64 -/
def uv (ms : List Nat) : List Value := ms.map fun m => .int .u64 (m : Nat)
theorem uv_len (ms : List Nat) : (uv ms).length = ms.length := by simp [uv]
theorem uv_get {ms : List Nat} {k : Nat} (hk : k < ms.length) : (uv ms)[k]? = some (.int .u64 (ms.getD k 0 : Nat)) := by
  rw [List.getElem?_eq_getElem (by rw [uv_len]; exact hk), getD_lt hk]; simp [uv]
theorem uv_set (ms : List Nat) (k m : Nat) : (uv ms).set k (.int .u64 (m : Nat)) = uv (ms.set k m) := by simp [uv, List.map_set]
theorem top_eq : top64 = 18446744073709551616 := by unfold top64; decide
theorem or_u64 {a b : Nat} (ha : a < top64) (hb : b < top64) : bits .or .u64 (a : Int) (b : Int) = ((a ||| b : Nat) : Int) := u64_or_nat a b (by rw [top_eq] at ha; exact ha) (by rw [top_eq] at hb; exact hb)
theorem and_u64 {a b : Nat} (ha : a < top64) (hb : b < top64) : bits .and .u64 (a : Int) (b : Int) = ((a &&& b : Nat) : Int) := u64_and_nat a b (by rw [top_eq] at ha; exact ha) (by rw [top_eq] at hb; exact hb)
theorem wrap_u64 {m : Nat} (hm : m < top64) : IntKind.u64.wrap (m : Int) = (m : Int) := by
  rw [top_eq] at hm
  simp only [IntKind.wrap, IntKind.bits, IntKind.signed]
  simp; omega
theorem pow_u64 {k : Nat} (hk : k ≤ 63) : IntKind.u64.wrap (2 ^ k) = ((2 ^ k : Nat) : Int) := by
  have h : 2 ^ k < top64 := Nat.pow_lt_pow_right (by omega) (by omega)
  rw [← wrap_u64 h]; simp
theorem bit_u64 {m k : Nat} (hm : m < top64) : (bits .and .u64 ((m : Int) / 2 ^ k) 1 == 1) = m.testBit k := by
  have h1 := and_u64 (a := m / 2 ^ k) (b := 1) (Nat.lt_of_le_of_lt (Nat.div_le_self _ _) hm) (by rw [top_eq]; decide)
  have h2 : ((m : Int) / 2 ^ k) = ((m / 2 ^ k : Nat) : Int) := by simp
  rw [Nat.and_one_is_mod] at h1
  rw [h2, show bits .and .u64 ((m / 2 ^ k : Nat) : Int) 1 = ((m / 2 ^ k % 2 : Nat) : Int) from h1, Nat.testBit_eq_decide_div_mod_eq, Bool.eq_iff_iff]
  simp only [beq_iff_eq, decide_eq_true_eq]
  omega
theorem pow_bit (k e : Nat) : (2 ^ k).testBit e = (e == k) := by
  rw [Nat.testBit_two_pow, Bool.eq_iff_iff]; simp; exact eq_comm

/-- ints that the call owns -/
def IntsOwn (w : World) (l : List Int) (e : Ending) (w' : World) : Prop := ∃ v, e = .returned v ∧ OInts w' w.heap.size v l ∧ Below w.heap.size w w'
set_option maxHeartbeats 1000000 in
theorem loanBits_own (m : Nat) (hm : m < top64) (w : World) :
    Calls Tryz.prog 25 #[.int .u64 (m : Nat)] w (IntsOwn w (lst 64 m.testBit)) := by
  have HM := Lib.hid hm
  go_enter Tryz.func25, Tryz.ntmps25
  go_wp2_with fail
  go_loopw [3, 5] (fun v i wr => ∃ (k : Nat) (o : List Int), k ≤ 64 ∧ i = .int .i64 k ∧ o = lst k m.testBit ∧ OInts wr w.heap.size v o ∧ Below w.heap.size w wr) (fun _ i _ => 64 - (intOf i).toNat)
  case atStart => exact ⟨0, [], by omega, rfl, rfl, OInts.nil w _, Below.refl _ _⟩
  case round =>
    obtain ⟨k, o, hk, rfl, ho, hP, hb⟩ := hrel
    have hol : o.length ≤ k := by rw [ho]; exact lst_len _ _
    have HO := Lib.hid ho
    clear ho
    obtain ⟨A', c', rfl, hc'⟩ := hP.slice
    by_cases hlt : k < 64
    · have hbt := bit_u64 (k := k) HM.out
      cases hx : m.testBit k
      · rw [hx] at hbt
        have HX := Lib.hid hx
        clear hx
        go_wp2_with (at_builtin; fail)
        exact ⟨⟨k + 1, o, by omega, by go_num, by rw [lst_succ_false HX.out]; exact HO.out, hP, hb⟩, by simp [intOf]; omega⟩
      · rw [hx] at hbt
        have HX := Lib.hid hx
        clear hx
        go_wp2_with (at_builtin; go_must (refine wpList_push_int rfl (.tmp 13) (.tmp 15) rfl hP hb.size (by omega) _ rfl rfl ?_); intro v' w' hP' hE')
        exact ⟨⟨k + 1, _, by omega, by go_num, by rw [lst_succ_true HX.out, HO.out], hP', hb.trans ((((Evo.alloc w.heap.size 3 _ _).trans hE').below hb.size))⟩, by simp [intOf]; omega⟩
    · have hkl : k = 64 := by omega
      subst hkl
      go_wp2_with (at_builtin; fail)
      go_ret
      refine ⟨_, rfl, ?_, hb⟩
      rw [← HO.out]
      exact hP
theorem loanBits_any (m : Nat) (hm : m < top64) (w : World) :
    Calls Tryz.prog 25 #[.int .u64 (m : Nat)] w (IntsRet w (lst 64 m.testBit)) :=
  (loanBits_own m hm w).mono fun _ _ ⟨v, he, ho, hb⟩ => ⟨v, he, ho.toS (by have := lst_len 64 m.testBit; omega), hb⟩

end Go.Proofs.YtidlifijgooceaaGreat
