import Derived.Test.YtfioaohadanjmaaDoorP08
import Derived.Test.YtfioaohadanjmaaDoorP01
import Derived.Laws.Concat
import Derived.Laws.IdiomStrings
set_option linter.unusedVariables false

/- Texts: l1At, l1Var, l1Digit. -/
namespace Go.Proofs.YtfioaohadanjmaaDoor
open Go.RowKit

def AtRet (s : ByteArray) (i : Int) (n : Nat) (w : World) (e : Ending) (w' : World) : Prop := ∃ b : Bool, e = .returned (.bool b) ∧ w = w' ∧ (b = true → 0 ≤ i ∧ i + n ≤ s.size)
theorem at_any (s t : ByteArray) (i : Int) (w : World) (hs : s.size ≤ 1000) (ht : t.size ≤ 1000) (hi : i ≤ 1000000) (hi0 : -1000000 ≤ i) :
    Calls Tryd.prog 49 #[.string s, .int .i64 i, .string t] w (AtRet s i t.size w) := by
  go_enter Tryd.func49, Tryd.ntmps49
  go_wp2_with fail
  all_goals (go_ret; refine ⟨_, rfl, rfl, ?_⟩; (first | (intro _; constructor <;> omega) | (intro hb; exact absurd hb (by simp))))

def NumRet (lo hi : Int) (w : World) (e : Ending) (w' : World) : Prop := ∃ n : Int, e = .returned (.int .i64 n) ∧ w = w' ∧ lo ≤ n ∧ n ≤ hi
theorem var_any (s : ByteArray) (i : Int) (w : World) (hs : s.size ≤ 1000) (hi : i ≤ 1000000) (hi0 : -1000000 ≤ i) :
    Calls Tryd.prog 57 #[.string s, .int .i64 i] w (NumRet (-1) 25 w) := by
  by_cases h : 0 ≤ i ∧ i < s.size
  · obtain ⟨h0, h1⟩ := h
    obtain ⟨k, rfl⟩ := Int.eq_ofNat_of_zero_le h0
    have hk : k < s.size := by omega
    go_enter Tryd.func57, Tryd.ntmps57
    go_wp2_with fail
    all_goals (go_ret; refine ⟨_, rfl, rfl, ?_, ?_⟩ <;> omega)
  · go_enter Tryd.func57, Tryd.ntmps57
    go_wp2_with fail
    all_goals (go_ret; refine ⟨_, rfl, rfl, ?_, ?_⟩ <;> omega)

theorem digit_any (s : ByteArray) (i : Int) (w : World) (hs : s.size ≤ 1000) (hi : i ≤ 1000000) (hi0 : -1000000 ≤ i) :
    Calls Tryd.prog 59 #[.string s, .int .i64 i] w (NumRet (-1) 9 w) := by
  by_cases h : 0 ≤ i ∧ i < s.size
  · obtain ⟨h0, h1⟩ := h
    obtain ⟨k, rfl⟩ := Int.eq_ofNat_of_zero_le h0
    have hk : k < s.size := by omega
    go_enter Tryd.func59, Tryd.ntmps59
    go_wp2_with fail
    all_goals (go_ret; refine ⟨_, rfl, rfl, ?_, ?_⟩ <;> omega)
  · go_enter Tryd.func59, Tryd.ntmps59
    go_wp2_with fail
    all_goals (go_ret; refine ⟨_, rfl, rfl, ?_, ?_⟩ <;> omega)

end Go.Proofs.YtfioaohadanjmaaDoor

/- l1Braces, l1ParseList: what they return, and how far they come. -/
namespace Go.Proofs.YtfioaohadanjmaaDoor
open Go.RowKit

/-- statements from an offset on, up to another one: no more of them than bytes -/
def LstRet (s : ByteArray) (i : Int) (more : Int) (w : World) (e : Ending) (w' : World) : Prop :=
  ∃ (v : Value) (l : List St) (next : Int), e = .returned (.tuple #[v, .int .i64 next]) ∧ StX w' (fun b => w.heap.size ≤ b) v l ∧ ((next = -1 ∧ l = []) ∨ (0 ≤ i ∧ i + more + szL l ≤ next ∧ next ≤ s.size)) ∧ Below w.heap.size w w'
def StmRet (s : ByteArray) (i : Int) (w : World) (e : Ending) (w' : World) : Prop :=
  ∃ (op x y n : Int) (tv ev : Value) (th el : List St) (next : Int), e = .returned (.tuple #[.agg #[.int .i64 op, .int .i64 x, .int .i64 y, .int .i64 n, tv, ev], .int .i64 next]) ∧
    StX w' (fun b => w.heap.size ≤ b) tv th ∧ StX w' (fun b => w.heap.size ≤ b) ev el ∧ (next = -1 ∨ (i + 1 + szL th + szL el ≤ next ∧ next ≤ s.size + 10)) ∧ Below w.heap.size w w'
def BrOk (d : Int) : Prop := ∀ (s : ByteArray) (i : Int) (w : World), s.size ≤ 1000 → -1 ≤ i → i ≤ s.size + 10 → Calls Tryd.prog 58 #[.string s, .int .i64 i, .int .i64 d] w (LstRet s i 2 w)
def LstOk (d : Int) : Prop := ∀ (s : ByteArray) (i : Int) (w : World), s.size ≤ 1000 → 0 ≤ i → i ≤ s.size → Calls Tryd.prog 38 #[.string s, .int .i64 i, .int .i64 d] w (LstRet s i 0 w)
def PaOk (d : Int) : Prop := ∀ (s : ByteArray) (i : Int) (w : World), s.size ≤ 1000 → 0 ≤ i → i ≤ s.size → Calls Tryd.prog 50 #[.string s, .int .i64 i, .int .i64 d] w (StmRet s i w)

theorem brOk (d : Int) (h0 : -1 ≤ d) (h1 : d ≤ 100) (h : 0 ≤ d → LstOk d) : BrOk d := by
  intro s i w hs hi0 hi1
  go_enter Tryd.func58, Tryd.ntmps58
  go_wp2_with fail
  refine (at_any s _ i w hs (by decide) (by omega) (by omega)).mono ?_
  rintro e w1 ⟨b, rfl, rfl, hb⟩
  cases b
  · go_wp2_with fail
    go_ret2
    exact ⟨_, [], -1, rfl, StX.nil _ _, .inl ⟨rfl, rfl⟩, Below.refl _ _⟩
  · have hb1 := hb rfl
    have hb2 : i + 1 ≤ s.size := hb1.2
    have hb0 := hb1.1
    clear hb hb1
    by_cases hd : d < 0
    · go_wp2_with fail
      go_ret2
      exact ⟨_, [], -1, rfl, StX.nil _ _, .inl ⟨rfl, rfl⟩, Below.refl _ _⟩
    · have HL := Lib.hid (h (by omega))
      clear h
      go_wp2_with fail
      refine (HL.out s _ w hs (by omega) (by omega)).mono ?_
      rintro e w2 ⟨v, l, next, rfl, hx, hn, hbl⟩
      have HX := Lib.hid hx
      have HN := Lib.hid hn
      have HBL := Lib.hid hbl
      have hn0 : -1 ≤ next := by omega
      have hn1 : next ≤ s.size := by omega
      clear hx hn hbl
      go_wp2_with fail
      refine (at_any s _ next w2 hs (by decide) (by omega) (by omega)).mono ?_
      rintro e w3 ⟨b, rfl, rfl, hb⟩
      have HB := Lib.hid hb
      clear hb
      cases b
      · go_wp2_with fail
        go_ret2
        exact ⟨_, [], -1, rfl, StX.nil _ _, .inl ⟨rfl, rfl⟩, HBL.out⟩
      · have hb3 : next + 1 ≤ s.size := (HB.out rfl).2
        have hb4 : 0 ≤ next := (HB.out rfl).1
        go_wp2_with fail
        go_ret2
        refine ⟨_, l, next + 1, rfl, HX.out, .inr ⟨hb0, ?_, hb3⟩, HBL.out⟩
        rcases HN.out with ⟨h1, _⟩ | ⟨_, h2, _⟩ <;> omega

theorem StX.alloc {w : World} {P : Nat → Prop} {v : Value} {l : List St} (h : StX w P v l) (o : Obj) : StX (w.alloc o) P v l :=
  h.frame (bel_a w o).size fun b hb hl => ⟨hb, (bel_a w o).block b hl⟩

set_option maxHeartbeats 4000000 in
set_option maxRecDepth 100000 in
theorem lstOk (d : Int) (h0 : 0 ≤ d) (h1 : d ≤ 100) (h : PaOk d) : LstOk d := by
  intro s i w hs hi0 hi1
  have hlit : OSt (w.alloc (.cells #[] 47)) w.heap.size (.slice (some ⟨w.heap.size, 0, none⟩) 0 0) [] := OSt.lit w w.heap.size [] (Nat.le_refl _) (by simp) (fun e he => by simp at he)
  have HLIT := Lib.hid hlit
  clear hlit
  have HPA := Lib.hid h
  clear h
  by_cases he : i = s.size
  · go_enter Tryd.func38, Tryd.ntmps38
    go_wp2_with fail
    go_ret2
    exact ⟨_, [], i, rfl, HLIT.out.toX, .inr ⟨hi0, by simp [szL], hi1⟩, bel_a _ _⟩
  · have hq : (i == (s.size : Int)) = false := by simpa using he
    clear he
    go_enter Tryd.func38, Tryd.ntmps38
    go_wp2_with fail
    clear hq
    refine (at_any s _ i _ hs (by decide) (by omega) (by omega)).mono ?_
    rintro e w1 ⟨b, rfl, rfl, -⟩
    cases b
    · go_wp2_with fail
      go_loopw [1, 8] (fun a v wr => ∃ (l : List St) (j : Int), a = .int .i64 j ∧ i ≤ j ∧ j ≤ s.size ∧ (OSt wr w.heap.size v l ∧ i + szL l ≤ j ∧ Below w.heap.size w wr)) (fun a _ _ => s.size - (intOf a).toNat)
      case atStart => exact ⟨[], i, rfl, by omega, by omega, HLIT.out, by simp [szL], bel_a _ _⟩
      case round =>
        obtain ⟨l, j, rfl, hj0, hj1, hos, hsz, hbl⟩ := hrel
        have HOS := Lib.hid hos
        have HBL := Lib.hid hbl
        have hsr := hbl.size
        have hll : l.length ≤ 1000 := by have := len_le_szL l; omega
        clear hos hbl
        go_wp2_with fail
        refine (HPA.out s j _ hs (by omega) (by omega)).mono ?_
        rintro e w2 ⟨op, x, y, m, tv, ev, th, el, next, rfl, hT, hE, hn, hb2⟩
        obtain ⟨A6, c6, rfl, -⟩ := hT.slice
        obtain ⟨A7, c7, rfl, -⟩ := hE.slice
        have HN := Lib.hid hn
        have hn0 : -1 ≤ next := by omega
        have hn1 : next ≤ s.size + 10 := by omega
        have HP := Lib.hid (HOS.out.below hb2)
        have HT := Lib.hid (HOS.out.fresh hsr hT)
        have HE := Lib.hid (HOS.out.fresh hsr hE)
        have HB2 := Lib.hid (HBL.out.trans (hb2.mono hsr))
        have hs2 := hb2.size
        clear hT hE hn hb2
        by_cases hnx : 0 ≤ next ∧ next ≤ s.size
        · obtain ⟨hx0, hx1⟩ := hnx
          go_wp2_with (at_builtin; go_must (refine wpList_push_st rfl (.tmp 32) (.tmp 34) rfl (HP.out.alloc _) (by simp; omega) (by omega) _ _ _ _ _ _ _ _ (HT.out.alloc _) (HE.out.alloc _) rfl (by simp; rfl) ?_); intro v' w' hP' hE'; (generalize hc1 : l ++ [_] = l1 at hP'); (have HC1 := Lib.hid hc1); clear hc1; (have HPP := Lib.hid hP'); (have HEE := Lib.hid (HB2.out.trans (((bel_a w2 _).mono (Nat.le_trans hsr hs2)).trans (((bel_a _ _).mono (by simp; omega)).trans hE')))); clear hP' hE')
          refine (at_any s _ next _ hs (by decide) (by omega) (by omega)).mono ?_
          rintro e w5 ⟨b, rfl, rfl, hb⟩
          have HB := Lib.hid hb
          clear hb
          have HSZ : Hid (i + szL l1 ≤ next) := Lib.hid (by
            rw [← HC1.out, szL_append]
            simp only [szL, St.sz]
            rcases HN.out with h1 | h1 <;> omega)
          cases b
          · go_wp2_with fail
            go_ret2
            exact ⟨_, l1, next, rfl, HPP.out.toX, .inr ⟨hi0, by have := HSZ.out; omega, hx1⟩, HEE.out⟩
          · have hlt : next + 1 ≤ s.size := (HB.out rfl).2
            have hjn : j ≤ next := by rcases HN.out with h1 | h1 <;> omega
            go_wp2_with fail
            case roundEnd =>
              exact ⟨⟨l1, next + 1, rfl, by omega, by omega, HPP.out, by have := HSZ.out; omega, HEE.out⟩, by simp [intOf] <;> omega⟩
        · have hnx' : next < 0 ∨ s.size < next := by omega
          rcases hnx' with hx | hx
          · go_wp2_with (at_builtin; go_must (refine wpList_push_st rfl (.tmp 32) (.tmp 34) rfl (HP.out.alloc _) (by simp; omega) (by omega) _ _ _ _ _ _ _ _ (HT.out.alloc _) (HE.out.alloc _) rfl (by simp; rfl) ?_); intro v' w' hP' hE'; (generalize hc1 : l ++ [_] = l1 at hP'); (have HC1 := Lib.hid hc1); clear hc1; (have HPP := Lib.hid hP'); (have HEE := Lib.hid (HB2.out.trans (((bel_a w2 _).mono (Nat.le_trans hsr hs2)).trans (((bel_a _ _).mono (by simp; omega)).trans hE')))); clear hP' hE')
            go_ret2
            exact ⟨_, [], -1, rfl, StX.nil _ _, .inl ⟨rfl, rfl⟩, HEE.out⟩
          · go_wp2_with (at_builtin; go_must (refine wpList_push_st rfl (.tmp 32) (.tmp 34) rfl (HP.out.alloc _) (by simp; omega) (by omega) _ _ _ _ _ _ _ _ (HT.out.alloc _) (HE.out.alloc _) rfl (by simp; rfl) ?_); intro v' w' hP' hE'; (generalize hc1 : l ++ [_] = l1 at hP'); (have HC1 := Lib.hid hc1); clear hc1; (have HPP := Lib.hid hP'); (have HEE := Lib.hid (HB2.out.trans (((bel_a w2 _).mono (Nat.le_trans hsr hs2)).trans (((bel_a _ _).mono (by simp; omega)).trans hE')))); clear hP' hE')
            go_ret2
            exact ⟨_, [], -1, rfl, StX.nil _ _, .inl ⟨rfl, rfl⟩, HEE.out⟩
    · go_wp2_with fail
      go_ret2
      exact ⟨_, [], i, rfl, HLIT.out.toX, .inr ⟨hi0, by simp [szL], hi1⟩, bel_a _ _⟩

end Go.Proofs.YtfioaohadanjmaaDoor

/- l1Letter, l17Dec. -/
namespace Go.Proofs.YtfioaohadanjmaaDoor
open Go.RowKit

def StrRet (n : Nat) (w : World) (e : Ending) (w' : World) : Prop := ∃ s : ByteArray, e = .returned (.string s) ∧ s.size ≤ n ∧ Below w.heap.size w w'
theorem one_byte (w : World) (x : Int) : ∃ s : ByteArray, s.size ≤ 1 ∧ (convert 22 9 (.slice (some ⟨w.heap.size, 0, none⟩) 1 1)).run Tryd.prog (w.alloc (.cells #[.int .u8 x] 5)) = .ok (.string s) (w.alloc (.cells #[.int .u8 x] 5)) := by
  refine ⟨[x].foldl (fun r n => r.push (UInt8.ofNat n.toNat)) ByteArray.empty, ?_, ?_⟩
  rotate_left
  · rw [run_convert_bytes_string _ _ _ 5 _ _ _ Tryd.underlying22 Tryd.underlying5 Tryd.underlying9]
    refine run_bytesToString _ _ _ _ [x] ?_
    refine run_loadCells_list (P := Tryd.prog) (w.alloc (.cells #[.int .u8 x] 5)) ⟨w.heap.size, 0, none⟩ [.int .u8 x] (fun j v hj => ?_)
    have hj0 : j = 0 := by
      rcases Nat.eq_zero_or_pos j with h | h
      · exact h
      · rw [List.getElem?_eq_none (by simp; omega)] at hj; cases hj
    subst hj0
    simp at hj
    subst hj
    show (w.alloc (.cells #[.int .u8 x] 5)).cell? ⟨w.heap.size, 0, none⟩ = _
    rw [World.cell?_alloc_mark]; rfl
  · simp [ByteArray.size_push]

set_option maxRecDepth 100000 in
theorem letter_any (v : Int) (w : World) : Calls Tryd.prog 34 #[.int .i64 v] w (StrRet 1 w) := by
  obtain ⟨s, hs, hr⟩ := one_byte w ((97 + v) % 256)
  go_enter Tryd.func34, Tryd.ntmps34
  go_wp2_with fail
  go_ret
  exact ⟨s, rfl, hs, (Below.refl _ _).alloc (Nat.le_refl _) _⟩
set_option maxRecDepth 100000 in
theorem dec_any (v : Int) (w : World) (h0 : 0 ≤ v) (h9 : v ≤ 9) : Calls Tryd.prog 35 #[.int .i64 v] w (StrRet 1 w) := by
  obtain ⟨s, hs, hr⟩ := one_byte w (48 + v)
  go_enter Tryd.func35, Tryd.ntmps35
  go_wp2_with fail
  refine wp_loop_rounds 1 ?_
  rw [rounds_succ]
  go_wp2_with fail
  go_ret
  exact ⟨_, rfl, by rw [ByteArray.size_append]; show s.size + 0 ≤ 1; omega, (Below.refl _ _).alloc (Nat.le_refl _) _⟩

theorem add_str (w : World) (a b : ByteArray) (h : a.size + b.size ≤ 1000000) : (Op.stringOp .add a b).run Tryd.prog w = .ok (.string (a ++ b)) w := run_string_add_sum w a b (by omega)

/-- what l1Text answers, for statements of at most m statements -/
def TxtOk (m : Nat) : Prop := ∀ (ts : List Int) (B : Nat) (s : St) (d : Nat) (tv ev : Value) (w : World), s.sz ≤ m → stOk ts d s = true → B ≤ w.heap.size → StS w B tv s.th → StS w B ev s.el →
    Calls Tryd.prog 22 #[.agg #[.int .i64 s.op, .int .i64 s.x, .int .i64 s.y, .int .i64 s.n, tv, ev]] w (StrRet (13 * s.sz - 1) w)
def LstTxt (m : Nat) : Prop := ∀ (ts : List Int) (B : Nat) (l : List St) (d : Nat) (vb : Value) (w : World), szL l ≤ m → slOk ts d l = true → B ≤ w.heap.size → StS w B vb l →
    Calls Tryd.prog 36 #[vb] w (StrRet (13 * szL l) w)

set_option maxHeartbeats 1000000 in
theorem lstTxt_of (m : Nat) (hM : m ≤ 100) (hst : TxtOk m) : LstTxt m := by
  intro ts B l d vb w hm hok hB hl
  have hll := len_le_szL l
  obtain ⟨A, c, rfl, hc⟩ := hl.slice
  have HOK := Lib.hid hok
  clear hok
  go_enter Tryd.func36, Tryd.ntmps36
  go_wp2_with fail
  go_loopw [3, 4] (fun t i wr => ∃ (k : Nat) (s : ByteArray), k ≤ l.length ∧ i = .int .i64 k ∧ t = .string s ∧ s.size ≤ 13 * szL (l.take k) ∧ Below w.heap.size w wr) (fun _ i _ => l.length - (intOf i).toNat)
  case atStart => exact ⟨0, ⟨#[]⟩, Nat.zero_le _, rfl, rfl, by simp [szL] <;> rfl, Below.refl _ _⟩
  case round =>
    obtain ⟨k, s, hk, rfl, rfl, hs, hbw⟩ := hrel
    have htk := szL_take_le l k
    by_cases hlt : k < l.length
    · obtain ⟨b, off, tv, ev, rfl, hb, hth, hel, c0, c1, c2, c3, c4, c5⟩ := (hl.low hbw hB).get hlt
      have hsz := szL_mem hlt
      have hsz2 := hbw.size
      have hstk : stOk ts d l[k] = true := slOk_mem HOK.out hlt
      have HST := Lib.hid hstk
      have hpos := l[k].sz_eq
      have HTK := Lib.hid (szL_take_succ l k hlt)
      clear hstk
      by_cases hk0 : 0 < k
      · have hadd := fun w => add_str w s ⟨#[59]⟩ (by show s.size + 1 ≤ _; omega)
        have hs1 : (s ++ ⟨#[59]⟩ : ByteArray).size = s.size + 1 := by rw [ByteArray.size_append]; rfl
        have HS1 := Lib.hid hs1
        clear hs1
        go_wp2_with fail
        clear hadd
        refine (hst ts B l[k] d tv ev _ (by omega) HST.out (by omega) hth hel).mono ?_
        rintro e w1 ⟨t, rfl, ht, hb1⟩
        have hadd2 := fun w => add_str w (s ++ ⟨#[59]⟩) t (by rw [HS1.out]; omega)
        go_wp2_with fail
        refine ⟨⟨k + 1, _, by omega, by go_num, rfl, ?_, hbw.trans (hb1.mono (by omega))⟩, by simp [intOf]; omega⟩
        rw [ByteArray.size_append, HS1.out, HTK.out]
        omega
      · have hk00 : k = 0 := by omega
        subst hk00
        simp only [Nat.zero_mul, Nat.add_zero] at c0 c1 c2 c3 c4 c5
        go_wp2_with fail
        refine (hst ts B l[0] d tv ev _ (by omega) HST.out (by omega) hth hel).mono ?_
        rintro e w1 ⟨t, rfl, ht, hb1⟩
        have hadd2 := fun w => add_str w s t (by omega)
        go_wp2_with fail
        refine ⟨⟨0 + 1, _, by omega, by go_num, rfl, ?_, hbw.trans (hb1.mono (by omega))⟩, by simp [intOf]; omega⟩
        rw [ByteArray.size_append, HTK.out]
        omega
    · have hkl : k = l.length := by omega
      have HTA := Lib.hid (take_all hkl)
      clear hkl
      go_wp2_with fail
      go_ret
      exact ⟨s, rfl, by rw [← HTA.out]; exact hs, hbw⟩

end Go.Proofs.YtfioaohadanjmaaDoor
