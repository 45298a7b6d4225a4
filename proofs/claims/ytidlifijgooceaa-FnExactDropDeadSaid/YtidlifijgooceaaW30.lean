import Derived.Test.YtidlifijgooceaaW18
import Derived.Test.YtidlifijgooceaaW29
import Derived.Deep.RegionLaw
import Derived.Deep.DeepCutAuto
import Derived.Deep.CutBlock
import Derived.Test.YtidlifijgooceaaW12
import Derived.Test.YtidlifijgooceaaW21
import Derived.Lib.SliceRun
set_option linter.unusedVariables false

/- impl.ownStmts, impl.Program.own. -/
namespace Go.Proofs.Ytidlifijgooceaa
open Go.RowKit

end Go.Proofs.Ytidlifijgooceaa

/- Trees of statements whose rows are all different; a statement dropped from a row. -/
namespace Go.Proofs.Ytidlifijgooceaa
open Go.RowKit

/-- the row g of cap statements begins with those of l, whose lists are tv and ev -/
structure LvF (w : World) (g cap : Nat) (cs : List Value) (l : List St) (tv ev : Nat → Value) : Prop where
  row : RowB w g 87 cs
  len : cs.length = cap * 6
  le : l.length ≤ cap
  cm : cap ≤ maxLen
  ci : ∀ i (h : i < l.length), cs[i * 6]? = some (.int .i64 l[i].op) ∧ cs[i * 6 + 1]? = some (.int .i64 l[i].x) ∧ cs[i * 6 + 2]? = some (.int .i64 l[i].y) ∧ cs[i * 6 + 3]? = some (.int .i64 l[i].n)
  cv : ∀ i, i < l.length → cs[i * 6 + 4]? = some (tv i) ∧ cs[i * 6 + 5]? = some (ev i)
theorem LvF.keep {w w' : World} {g cap : Nat} {cs : List Value} {l : List St} {tv ev : Nat → Value} (h : LvF w g cap cs l tv ev) (hk : w'.heap[g]? = w.heap[g]?) : LvF w' g cap cs l tv ev :=
  ⟨hk.trans h.row, h.len, h.le, h.cm, h.ci, h.cv⟩
theorem LvF.own {w : World} {g cap : Nat} {cs : List Value} {l : List St} {tv ev : Nat → Value} (h : LvF w g cap cs l tv ev) {base : Nat} (hb : base ≤ g) : w.ownsRow base 87 6 (.slice (some ⟨g, 0, none⟩) l.length cap) l.length (cs.take (l.length * 6)) := by
  have h1 := h.len
  have h2 := h.le
  exact ⟨by rw [List.length_take]; omega, .inr ⟨g, cap, cs.toArray, rfl, hb, h.row, h.le, h.cm, by simpa using h1, by simp⟩⟩
/-- blocks from a on, below b -/
def rg (a b : Nat) : Nat → Prop := fun x => a ≤ x ∧ x < b
inductive DT (w : World) : (Nat → Prop) → Value → List St → Prop where
  | nil (P : Nat → Prop) : DT w P (.slice none 0 0) []
  | mk (P : Nat → Prop) (g cap : Nat) (cs : List Value) (l : List St) (tv ev : Nat → Value) (Pt Pe : Nat → Nat → Prop) (hg : P g) (hr : LvF w g cap cs l tv ev)
      (ht : ∀ i (h : i < l.length), DT w (Pt i) (tv i) l[i].th) (he : ∀ i (h : i < l.length), DT w (Pe i) (ev i) l[i].el)
      (st : ∀ i b, i < l.length → (Pt i b ∨ Pe i b) → P b ∧ b ≠ g)
      (dj : ∀ i j b, i < l.length → j < l.length → (Pt i b → ¬ Pe j b) ∧ (i ≠ j → (Pt i b → ¬ Pt j b) ∧ (Pe i b → ¬ Pe j b))) : DT w P (.slice (some ⟨g, 0, none⟩) l.length cap) l
theorem DT.slice {w : World} {P : Nat → Prop} {v : Value} {l : List St} (h : DT w P v l) : ∃ A c, v = .slice A l.length c ∧ l.length ≤ c := by
  cases h with
  | nil => exact ⟨_, _, rfl, Nat.le_refl _⟩
  | mk P g cap cs l tv ev Pt Pe hg hr ht he st dj => exact ⟨_, _, rfl, hr.le⟩
theorem DT.one {w : World} {P : Nat → Prop} {v : Value} {l : List St} (h : DT w P v l) : v.oneCell' = true := by
  obtain ⟨A, c, rfl, _⟩ := h.slice
  rfl
theorem DT.toS {w : World} {P : Nat → Prop} {v : Value} {l : List St} (h : DT w P v l) : StS w w.heap.size v l := by
  induction h with
  | nil P => exact .mk _ 0 [] (fun _ => undef) (fun _ => undef) (Nat.le_refl _) (fun h => by simp at h) (fun i h => by simp at h) fun i h => by simp at h
  | mk P g cap cs l tv ev Pt Pe hg hr ht he st dj iht ihe =>
    refine .mk _ cap l tv ev hr.le (fun _ => ⟨g, 0, rfl, hr.row.lt, fun i h => ?_⟩) iht ihe
    obtain ⟨h0, h1, h2, h3⟩ := hr.ci i h
    obtain ⟨h4, h5⟩ := hr.cv i h
    simp only [hr.row.cell, Nat.zero_add]
    exact ⟨h0, h1, h2, h3, h4, h5⟩
theorem DT.frame {w w' : World} {P : Nat → Prop} {v : Value} {l : List St} (h : DT w P v l) : (∀ b : Nat, P b → b < w.heap.size → w'.heap[b]? = w.heap[b]?) → DT w' P v l := by
  induction h with
  | nil P => exact fun _ => .nil P
  | mk P g cap cs l tv ev Pt Pe hg hr ht he st dj iht ihe =>
    intro hk
    exact .mk P g cap cs l tv ev Pt Pe hg (hr.keep (hk g hg hr.row.lt)) (fun i h => iht i h fun b hp hb => hk b (st i b h (.inl hp)).1 hb) (fun i h => ihe i h fun b hp hb => hk b (st i b h (.inr hp)).1 hb) st dj
theorem DT.mono {w : World} {P Q : Nat → Prop} {v : Value} {l : List St} (h : DT w P v l) (hq : ∀ b, P b → Q b) : DT w Q v l := by
  cases h with
  | nil P => exact .nil Q
  | mk P g cap cs l tv ev Pt Pe hg hr ht he st dj => exact .mk Q g cap cs l tv ev Pt Pe (hq g hg) hr ht he (fun i b hi hb => ⟨hq b (st i b hi hb).1, (st i b hi hb).2⟩) dj
theorem DT.bel {w w' : World} {P : Nat → Prop} {v : Value} {l : List St} (h : DT w P v l) (hb : Below w.heap.size w w') : DT w' P v l :=
  h.frame fun b _ hb' => hb.block b hb'
/-- append(out, Stmt{..}) -/
theorem wpList_push_dt {ops : Array Oper} {rest : List Oper} {o : Oper} {a : Act} {Q : Exit → Act → World → Prop} {w : World} {base m p : Nat} {vo : Value} {l : List St} (hgd : o.guard = none) (s x : Operand)
    (ho : o.op = .call { callee := .builtin .append, args := #[s, x], argTypes := #[24, 24] })
    (hP : DT w (rg base m) vo l) (hbm : base ≤ m) (hmp : m ≤ p) (hpw : p ≤ w.heap.size) (hn : l.length + 1 ≤ 4194304) (op px py pn : Int) (tv ev : Value) (th el : List St)
    (hT : DT w (rg m p) tv th) (hE : DT w (rg p w.heap.size) ev el)
    (hs : a.eval s = vo) (hx : a.eval x = .slice (some ⟨w.heap.size, 0, none⟩) 1 1)
    (h : ∀ v' w', DT w' (rg base w'.heap.size) v' (l ++ [.mk op px py pn th el]) → Below base (w.alloc (.cells #[.int .i64 op, .int .i64 px, .int .i64 py, .int .i64 pn, tv, ev] 87)) w' → wpList Try.prog ops Q rest (a.put o.dst v') w') :
    wpList Try.prog ops Q (o :: rest) a (w.alloc (.cells #[.int .i64 op, .int .i64 px, .int .i64 py, .int .i64 pn, tv, ev] 87)) := by
  obtain ⟨i0, hi0, hz0, hz1, hz2⟩ := info_parts Try.infoSt
  have hA := bel_a w (.cells #[.int .i64 op, .int .i64 px, .int .i64 py, .int .i64 pn, tv, ev] 87)
  have hr := heap_alloc_new w (.cells #[.int .i64 op, .int .i64 px, .int .i64 py, .int .i64 pn, tv, ev] 87)
  have hsW : (w.alloc (.cells #[.int .i64 op, .int .i64 px, .int .i64 py, .int .i64 pn, tv, ev] 87)).heap.size = w.heap.size + 1 := by simp
  have hP2 := hP.bel hA
  have hT2 := hT.bel hA
  have hE2 := hE.bel hA
  have ho1 := hT.one
  have ho2 := hE.one
  generalize w.alloc (.cells #[.int .i64 op, .int .i64 px, .int .i64 py, .int .i64 pn, tv, ev] 87) = W at *
  have hown : ∃ xs, W.ownsRow base 87 6 vo l.length xs ∧ ∃ (cs : List Value) (tf ef : Nat → Value) (Pt Pe : Nat → Nat → Prop), xs = cs.take (l.length * 6) ∧ l.length * 6 ≤ cs.length ∧
      (∀ i (h : i < l.length), cs[i * 6]? = some (.int .i64 l[i].op) ∧ cs[i * 6 + 1]? = some (.int .i64 l[i].x) ∧ cs[i * 6 + 2]? = some (.int .i64 l[i].y) ∧ cs[i * 6 + 3]? = some (.int .i64 l[i].n)) ∧
      (∀ i, i < l.length → cs[i * 6 + 4]? = some (tf i) ∧ cs[i * 6 + 5]? = some (ef i)) ∧
      (∀ i (h : i < l.length), DT W (Pt i) (tf i) l[i].th) ∧ (∀ i (h : i < l.length), DT W (Pe i) (ef i) l[i].el) ∧
      (∀ i b, i < l.length → (Pt i b ∨ Pe i b) → rg base m b ∧ vo.ownBlock ≠ some b) ∧
      (∀ i j b, i < l.length → j < l.length → (Pt i b → ¬ Pe j b) ∧ (i ≠ j → (Pt i b → ¬ Pt j b) ∧ (Pe i b → ¬ Pe j b))) ∧ (∀ g, vo.ownBlock = some g → rg base m g) := by
    cases hP2 with
    | nil => exact ⟨[], World.ownsRow_nil _ _ _ _, [], fun _ => undef, fun _ => undef, fun _ _ => False, fun _ _ => False, rfl, Nat.le_refl _, fun i h => by simp at h, fun i h => by simp at h, fun i h => by simp at h, fun i h => by simp at h, fun i b h => by simp at h, fun i j b h => by simp at h, fun g h => by simp [Value.ownBlock] at h⟩
    | mk P g cap cs l tv ev Pt Pe hg hrw ht he st dj =>
      have h1 := hrw.len
      have h2 := hrw.le
      exact ⟨_, hrw.own hg.1, cs, tv, ev, Pt, Pe, rfl, by omega, hrw.ci, hrw.cv, ht, he, fun i b hi hb => ⟨(st i b hi hb).1, fun e => (st i b hi hb).2 (by simpa [Value.ownBlock] using e.symm)⟩, dj, fun g' e => by
        have : g' = g := by simpa [Value.ownBlock] using e.symm
        subst this; exact hg⟩
  obtain ⟨xs, hown, cs, tf, ef, Pt, Pe, rfl, hcl, hci, hcv, htt, hee, hst, hdj, hgb⟩ := hown
  refine wpList_append_own_at _ hgd s x 24 ho base 87 i0 _ 6 80 Try.underlying24 hi0 hz0 hz1 hz2 rfl (by omega) vo l.length _ hs hown ⟨w.heap.size, 0, none⟩ 1 1 [.int .i64 op, .int .i64 px, .int .i64 py, .int .i64 pn, tv, ev] hx rfl ?_ ?_ (by simp only [maxLen]; omega) (by omega) (by omega) ?_
  · intro j u hu
    have : W.cell? ⟨w.heap.size, j, none⟩ = some u := by
      rw [cell_of_row _ _ _ _ _ _ hr]
      simpa using hu
    unfold Addr.add
    by_cases hj : j = 0
    · subst hj; simpa using this
    · simpa [hj] using this
  · intro u hu
    simp at hu
    rcases hu with rfl | rfl | rfl | rfl | rfl | rfl <;> first | rfl | exact ho1 | exact ho2
  · intro v' w' k1 k2 k3 k4
    have hs2 := k2.size
    have hfr : ∀ {R : Nat → Prop} {v : Value} {l : List St}, DT W R v l → (∀ b, R b → b < W.heap.size ∧ vo.ownBlock ≠ some b) → DT w' R v l := fun hd hR => hd.frame fun b hb _ => k2.block b (hR b hb).1 fun e => (hR b hb).2 e.symm
    have hnt : ∀ b, rg m p b ∨ rg p w.heap.size b → b < W.heap.size ∧ vo.ownBlock ≠ some b := fun b hb => by
      refine ⟨by rcases hb with hb | hb <;> (have := hb.2; omega), fun e => ?_⟩
      have h1 := (hgb b e).2
      rcases hb with hb | hb <;> (have := hb.1; omega)
    refine h v' w' ?_ ⟨k2.os, k2.tape, k2.output, hs2, fun k hlt => k2.block k (by omega) fun e => ?_⟩
    · rcases k1.2 with ⟨_, e0⟩ | ⟨g, cap, cur, rfl, hg, hh, hle, hcm, hsz, htk⟩
      · omega
      · have hln : (l ++ [St.mk op px py pn th el]).length = l.length + 1 := by simp
        have hget : ∀ j, j < (l.length + 1) * 6 → cur.toList[j]? = (cs.take (l.length * 6) ++ [.int .i64 op, .int .i64 px, .int .i64 py, .int .i64 pn, tv, ev])[j]? := fun j hj => by
          rw [← htk, List.getElem?_take, if_pos hj]
        have hold : ∀ j, j < l.length * 6 → cur.toList[j]? = cs[j]? := fun j hj => by
          rw [hget j (by omega), List.getElem?_append_left (by rw [List.length_take]; omega), List.getElem?_take, if_pos hj]
        have hnew : ∀ d, d < 6 → cur.toList[l.length * 6 + d]? = ([.int .i64 op, .int .i64 px, .int .i64 py, .int .i64 pn, tv, ev] : List Value)[d]? := fun d hd => by
          rw [hget _ (by omega), List.getElem?_append_right (by rw [List.length_take]; omega), List.length_take, show l.length * 6 + d - min (l.length * 6) cs.length = d by omega]
        have hgl : ∀ i (hi : i < (l ++ [St.mk op px py pn th el]).length) (hil : i < l.length), (l ++ [St.mk op px py pn th el])[i] = l[i] := fun i hi hil => List.getElem_append_left hil
        have hge : ∀ i (hi : i < (l ++ [St.mk op px py pn th el]).length) (hil : ¬ i < l.length), (l ++ [St.mk op px py pn th el])[i] = St.mk op px py pn th el := fun i hi hil => by
          have : i = l.length := by omega
          subst this
          simp
        have hgn : g ≠ w.heap.size ∨ True := .inr trivial
        have hgw : g < w'.heap.size := row_lt hh
        have hgo : vo.ownBlock = some g ∨ W.heap.size ≤ g := by
          rcases k4 with e | e
          · left; rw [← e]; rfl
          · right
            have : some g = some W.heap.size := e
            injection this with this
            omega
        have hdg : ∀ b, b < W.heap.size → vo.ownBlock ≠ some b → b ≠ g := fun b hb hne e => by
          subst e
          rcases hgo with e | e
          · exact hne e
          · omega
        rw [← hln]
        refine .mk _ g cap cur.toList _ (fun i => if i = l.length then tv else tf i) (fun i => if i = l.length then ev else ef i) (fun i => if i = l.length then rg m p else Pt i) (fun i => if i = l.length then rg p w.heap.size else Pe i) ⟨hg, hgw⟩ ⟨by unfold RowB; rw [Array.toArray_toList]; exact hh, by simpa using hsz, by rw [hln]; exact hle, hcm, fun i hi => ?_, fun i hi => ?_⟩ (fun i hi => ?_) (fun i hi => ?_) (fun i b hi hb => ?_) (fun i j b hi hj => ?_)
        · by_cases hil : i < l.length
          · rw [hgl i hi hil, hold _ (by omega), hold _ (by omega), hold _ (by omega), hold _ (by omega)]
            exact hci i hil
          · have : i = l.length := by omega
            rw [hge i hi hil, this]
            exact ⟨hnew 0 (by omega), hnew 1 (by omega), hnew 2 (by omega), hnew 3 (by omega)⟩
        · by_cases hil : i < l.length
          · rw [hold _ (by omega), hold _ (by omega), if_neg (by omega), if_neg (by omega)]
            exact hcv i hil
          · have : i = l.length := by omega
            rw [this, if_pos rfl, if_pos rfl]
            exact ⟨hnew 4 (by omega), hnew 5 (by omega)⟩
        · by_cases hil : i < l.length
          · rw [hgl i hi hil, if_neg (by omega), if_neg (by omega)]
            exact hfr (htt i hil) fun b hb => by have := hst i b hil (.inl hb); exact ⟨by have := this.1.2; omega, this.2⟩
          · have : i = l.length := by omega
            rw [hge i hi hil, if_pos this, if_pos this]
            exact hfr hT2 fun b hb => hnt b (.inl hb)
        · by_cases hil : i < l.length
          · rw [hgl i hi hil, if_neg (by omega), if_neg (by omega)]
            exact hfr (hee i hil) fun b hb => by have := hst i b hil (.inr hb); exact ⟨by have := this.1.2; omega, this.2⟩
          · have : i = l.length := by omega
            rw [hge i hi hil, if_pos this, if_pos this]
            exact hfr hE2 fun b hb => hnt b (.inr hb)
        · by_cases hil : i < l.length
          · rw [if_neg (by omega), if_neg (by omega)] at hb
            have h1 := hst i b hil hb
            exact ⟨⟨h1.1.1, by have := h1.1.2; omega⟩, hdg b (by have := h1.1.2; omega) h1.2⟩
          · have : i = l.length := by omega
            rw [if_pos this, if_pos this] at hb
            have h1 := hnt b hb
            exact ⟨⟨by rcases hb with hb | hb <;> (have := hb.1; omega), by have := h1.1; omega⟩, hdg b h1.1 h1.2⟩
        · have hi2 : i < l.length + 1 := by omega
          have hj2 : j < l.length + 1 := by omega
          by_cases hil : i < l.length <;> by_cases hjl : j < l.length
          · rw [if_neg (by omega), if_neg (by omega), if_neg (by omega), if_neg (by omega)]
            exact hdj i j b hil hjl
          · have hj' : j = l.length := by omega
            rw [if_neg (show ¬ i = l.length by omega), if_neg (show ¬ i = l.length by omega), if_pos hj', if_pos hj']
            refine ⟨fun h1 h2 => ?_, fun _ => ⟨fun h1 h2 => ?_, fun h1 h2 => ?_⟩⟩
            · have := (hst i b hil (.inl h1)).1.2; have := h2.1; omega
            · have := (hst i b hil (.inl h1)).1.2; have := h2.1; omega
            · have := (hst i b hil (.inr h1)).1.2; have := h2.1; omega
          · have hi' : i = l.length := by omega
            rw [if_neg (show ¬ j = l.length by omega), if_neg (show ¬ j = l.length by omega), if_pos hi', if_pos hi']
            refine ⟨fun h1 h2 => ?_, fun _ => ⟨fun h1 h2 => ?_, fun h1 h2 => ?_⟩⟩
            · have := (hst j b hjl (.inr h2)).1.2; have := h1.1; omega
            · have := (hst j b hjl (.inl h2)).1.2; have := h1.1; omega
            · have := (hst j b hjl (.inr h2)).1.2; have := h1.1; omega
          · have hi' : i = l.length := by omega
            have hj' : j = l.length := by omega
            rw [if_pos hi', if_pos hi', if_pos hj', if_pos hj']
            refine ⟨fun h1 h2 => ?_, fun hne => absurd (hi'.trans hj'.symm) hne⟩
            have := h1.2; have := h2.1; omega
    · have := (hgb k e.symm).1
      omega

end Go.Proofs.Ytidlifijgooceaa

/- impl.ownStmts, impl.Program.own: the copy is a tree of different rows. -/
namespace Go.Proofs.Ytidlifijgooceaa
open Go.RowKit

def CpdRet (w : World) (l : List St) (e : Ending) (w' : World) : Prop := ∃ v', e = .returned v' ∧ DT w' (rg w.heap.size w'.heap.size) v' l ∧ Below w.heap.size w w'
/-- a copied program: its own ints, and a tree of different rows behind them -/
def CpDRet (w : World) (ts : List Int) (l : List St) (e : Ending) (w' : World) : Prop :=
  ∃ vt vb lo, e = .returned (.agg #[vt, vb]) ∧ OInts w' w.heap.size vt ts ∧ (∀ g, vt.ownBlock = some g → g < lo) ∧ w.heap.size ≤ lo ∧ DT w' (rg lo w'.heap.size) vb l ∧ Below w.heap.size w w'
def OwnDk (m : Nat) : Prop := ∀ (v : Value) (l : List St) (B : Nat) (w : World), szL l ≤ m → StS w B v l → B ≤ w.heap.size → Calls Try.prog 60 #[v] w (CpdRet w l)
set_option maxHeartbeats 4000000 in
set_option maxRecDepth 100000 in
theorem ownd_of (m : Nat) (hM : m ≤ 4194000) (ih : ∀ j, j < m → OwnDk j) : OwnDk m := by
  intro v l B w hm hl hB
  have hll := len_le_szL l
  obtain ⟨A, c, rfl, hc⟩ := hl.slice
  have IH := Lib.hid ih
  clear ih
  have HO0 : Hid (DT w (rg w.heap.size w.heap.size) (.slice none 0 0) []) := Lib.hid (.nil _)
  go_enter Try.func60, Try.ntmps60
  go_wp2_with fail
  go_loopw [3, 8] (fun v i wr => ∃ (k : Nat), k ≤ l.length ∧ i = .int .i64 k ∧ (DT wr (rg w.heap.size wr.heap.size) v (l.take k) ∧ Below w.heap.size w wr)) (fun _ i _ => l.length - (intOf i).toNat)
  case atStart => exact ⟨0, Nat.zero_le _, rfl, HO0.out, Below.refl _ _⟩
  case round =>
    obtain ⟨k, hk, rfl, hos, hbw⟩ := hrel
    have hlk : (l.take k).length ≤ k := List.length_take_le _ _
    have HTA := Lib.hid (fun h : k = l.length => take_all h)
    have HTS := Lib.hid (fun h : k < l.length => take_succ_get l k h)
    generalize l.take k = lk at *
    obtain ⟨Ao, co, rfl, hco⟩ := hos.slice
    have HOS := Lib.hid hos
    have HBW := Lib.hid hbw
    have hsr := hbw.size
    clear hos
    by_cases hlt : k < l.length
    · have hl2 := hl.low hbw hB
      have hsz := szL_mem hlt
      rw [l[k].sz_eq] at hsz
      obtain ⟨b, off, tv, ev, rfl, hb, hth, hel, c0, c1, c2, c3, c4, c5⟩ := hl2.get hlt
      have hbr : b < wr.heap.size := by omega
      obtain ⟨A4, n4, rfl, -⟩ := hth.slice
      obtain ⟨A5, n5, rfl, -⟩ := hel.slice
      have HTH := Lib.hid hth
      have HEL := Lib.hid hel
      have HTS2 := Lib.hid (HTS.out hlt)
      have HETA : Hid (l[k] = .mk l[k].op l[k].x l[k].y l[k].n l[k].th l[k].el) := Lib.hid (St.eta _)
      have HLT := Lib.hid hlt
      generalize l[k]'hlt = s at *
      have HX5 := Lib.hid (RowB.new wr [.int .i64 s.op, .int .i64 s.x, .int .i64 s.y, .int .i64 s.n, .slice A4 s.th.length n4, .slice A5 s.el.length n5] 87)
      have HB5 := Lib.hid (bel_a wr (.cells #[.int .i64 s.op, .int .i64 s.x, .int .i64 s.y, .int .i64 s.n, .slice A4 s.th.length n4, .slice A5 s.el.length n5] 87))
      clear hbw hl2 hth hel
      go_wp2_with fail
      clear c0 c1 c2 c3 c4 c5
      generalize wr.alloc (.cells #[.int .i64 s.op, .int .i64 s.x, .int .i64 s.y, .int .i64 s.n, .slice A4 s.th.length n4, .slice A5 s.el.length n5] 87) = w5 at *
      have u4 : w5.cell? ⟨wr.heap.size, 4, none⟩ = some (.slice A4 s.th.length n4) := HX5.out.cell 4
      have u5 : w5.cell? ⟨wr.heap.size, 5, none⟩ = some (.slice A5 s.el.length n5) := HX5.out.cell 5
      have hlx := HX5.out.lt
      have IH4 := Lib.hid (IH.out (szL s.th) (by omega) (.slice A4 s.th.length n4) s.th B w5.drew (Nat.le_refl _) ((HTH.out.low HB5.out (by omega)).keep fun _ _ _ => rfl) (by have := HB5.out.size; show B ≤ w5.heap.size; omega))
      have IH5 := Lib.hid (fun (wz : World) (hz : Below w5.heap.size w5 wz) => IH.out (szL s.el) (by omega) (.slice A5 s.el.length n5) s.el B wz (Nat.le_refl _) ((HEL.out.low HB5.out (by omega)).low hz (by have := HB5.out.size; omega)) (by have := HB5.out.size; have := hz.size; omega))
      have tok1 : True := trivial
      go_region_law (first
        | (have _t := tok1; go_simp; go_at_call 60; refine IH4.out.mono ?_; rintro e w6 ⟨v6, rfl, ho6, hb6⟩; clear tok1 _t; (obtain ⟨A6, n6, rfl, hn6⟩ := ho6.slice); (have HO6 := Lib.hid ho6); (have HB6 := Lib.hid (show Below w5.heap.size w5 w6 from (Below.refl w5.heap.size w5).drew.trans hb6)); (have x4 := (HB6.out.cell (p := ⟨wr.heap.size, 4, none⟩) hlx).trans u4); (have x5 := (HB6.out.cell (p := ⟨wr.heap.size, 5, none⟩) hlx).trans u5); (have hs6 := HB6.out.size); clear ho6 hb6; (have tok2 : True := trivial))
        | (have _t := tok2; go_simp; go_at_call 60; refine (IH5.out _ HB6.out).mono ?_; rintro e w7 ⟨v7, rfl, ho7, hb7⟩; clear tok2 _t; (obtain ⟨A7, n7, rfl, hn7⟩ := ho7.slice); (have HO7 := Lib.hid ho7); (have HB7 := Lib.hid hb7); (have hr7 := row_below (row_below HX5.out HB6.out) hb7); (have y0 : w7.cell? ⟨wr.heap.size, 0, none⟩ = some (.int .i64 s.op) := by (rw [cell_of_row _ _ _ _ _ _ hr7]; rfl)); (have y1 : w7.cell? ⟨wr.heap.size, 1, none⟩ = some (.int .i64 s.x) := by (rw [cell_of_row _ _ _ _ _ _ hr7]; rfl)); (have y2 : w7.cell? ⟨wr.heap.size, 2, none⟩ = some (.int .i64 s.y) := by (rw [cell_of_row _ _ _ _ _ _ hr7]; rfl)); (have y3 : w7.cell? ⟨wr.heap.size, 3, none⟩ = some (.int .i64 s.n) := by (rw [cell_of_row _ _ _ _ _ _ hr7]; rfl)); (have y4 : w7.cell? ⟨wr.heap.size, 4, none⟩ = some (.slice A4 s.th.length n4) := by (rw [cell_of_row _ _ _ _ _ _ hr7]; rfl)); (have y5 : w7.cell? ⟨wr.heap.size, 5, none⟩ = some (.slice A5 s.el.length n5) := by (rw [cell_of_row _ _ _ _ _ _ hr7]; rfl)); (have yf4 := frozen_of_row w7 wr.heap.size 4 _ _ hr7); (have yf5 := frozen_of_row w7 wr.heap.size 5 _ _ hr7); clear ho7 hb7 hr7)
        | fail)
      all_goals
        have hs7 := HB7.out.size
        have hsb := HB5.out.size
        have HP := Lib.hid (HOS.out.frame (w' := (w7.setCell ⟨wr.heap.size, 4, none⟩ (.slice A6 s.th.length n6)).setCell ⟨wr.heap.size, 5, none⟩ (.slice A7 s.el.length n7)) fun b hb hl => by
          have hb2 := hb.2
          rw [heap_setCell_other _ ⟨wr.heap.size, 5, none⟩ b _ (by show b ≠ wr.heap.size; omega), heap_setCell_other _ ⟨wr.heap.size, 4, none⟩ b _ (by show b ≠ wr.heap.size; omega)]
          exact ((HB7.out.block b (by omega)).trans (HB6.out.block b (by omega))).trans (HB5.out.block b hl))
        have HTX := Lib.hid (DT.mono (Q := rg wr.heap.size w6.heap.size) (HO6.out.frame (w' := (w7.setCell ⟨wr.heap.size, 4, none⟩ (.slice A6 s.th.length n6)).setCell ⟨wr.heap.size, 5, none⟩ (.slice A7 s.el.length n7)) fun b hb hl => by
          have hb1 : w5.heap.size ≤ b := hb.1
          have hb2 := hb.2
          rw [heap_setCell_other _ ⟨wr.heap.size, 5, none⟩ b _ (by show b ≠ wr.heap.size; omega), heap_setCell_other _ ⟨wr.heap.size, 4, none⟩ b _ (by show b ≠ wr.heap.size; omega)]
          exact HB7.out.block b hb2) fun b hb => ⟨by have hb1 : w5.heap.size ≤ b := hb.1; omega, hb.2⟩)
        have HEX := Lib.hid (HO7.out.frame (w' := (w7.setCell ⟨wr.heap.size, 4, none⟩ (.slice A6 s.th.length n6)).setCell ⟨wr.heap.size, 5, none⟩ (.slice A7 s.el.length n7)) fun b hb hl => by
          have hb1 := hb.1
          rw [heap_setCell_other _ ⟨wr.heap.size, 5, none⟩ b _ (by show b ≠ wr.heap.size; omega), heap_setCell_other _ ⟨wr.heap.size, 4, none⟩ b _ (by show b ≠ wr.heap.size; omega)])
        have hsX : ((w7.setCell ⟨wr.heap.size, 4, none⟩ (.slice A6 s.th.length n6)).setCell ⟨wr.heap.size, 5, none⟩ (.slice A7 s.el.length n7)).heap.size = w7.heap.size := by simp
        rw [← hsX] at HEX
        have HBX : Hid (Below w.heap.size w ((w7.setCell ⟨wr.heap.size, 4, none⟩ (.slice A6 s.th.length n6)).setCell ⟨wr.heap.size, 5, none⟩ (.slice A7 s.el.length n7))) := Lib.hid (((HBW.out.trans (((HB5.out.trans (HB6.out.mono hsb)).trans (HB7.out.mono (by omega))).mono hsr)).setCell (p := ⟨wr.heap.size, 4, none⟩) hsr _).setCell (p := ⟨wr.heap.size, 5, none⟩) hsr _)
        have hpw : w6.heap.size ≤ ((w7.setCell ⟨wr.heap.size, 4, none⟩ (.slice A6 s.th.length n6)).setCell ⟨wr.heap.size, 5, none⟩ (.slice A7 s.el.length n7)).heap.size := by omega
        have hwp : wr.heap.size ≤ w6.heap.size := by omega
        have HSX := Lib.hid hsX
        clear hsX
        go_wp2_with (at_builtin; go_must (refine wpList_push_dt rfl (.tmp 20) (.tmp 22) rfl HP.out hsr hwp hpw (by omega) _ _ _ _ _ _ s.th s.el HTX.out HEX.out rfl (by simp; rfl) ?_); intro v' w' hP' hE')
        have hlt := HLT.out
        refine ⟨⟨k + 1, by omega, by go_num, ?_, HBX.out.trans (((bel_a _ _).mono (by have := HSX.out; omega)).trans hE')⟩, by simp [intOf] <;> omega⟩
        rw [HTS2.out, HETA.out]
        exact hP'
    · have hkl : k = l.length := by omega
      have HKL := Lib.hid hkl
      clear hkl
      go_wp2_with fail
      go_ret
      refine ⟨_, rfl, ?_, HBW.out⟩
      have := HOS.out
      rw [HTA.out HKL.out] at this
      rw [HTA.out HKL.out]
      exact this
theorem ownd_any (m : Nat) (hM : m ≤ 4194000) : OwnDk m := by
  induction m using Nat.strongRecOn with
  | _ m ih => exact ownd_of m hM fun j hj => ih j hj (by omega)
set_option maxHeartbeats 4000000 in
set_option maxRecDepth 100000 in
theorem powndt_any (vt vb : Value) (ts : List Int) (l : List St) (B : Nat) (w : World) (ht : IntS w B vt ts) (hl : StS w B vb l) (hB : B ≤ w.heap.size) (hts : ts.length ≤ 4000000) (hsz : szL l ≤ 4194000) :
    Calls Try.prog 50 #[.agg #[vt, vb]] w (CpDRet w ts l) := by
  have ht0 := ht
  have hl0 := hl
  obtain ⟨At, ct, rfl, -⟩ := ht0
  obtain ⟨Ab, cb, rfl, -⟩ := hl0.slice
  have hA := bel_a w (.cells #[.slice At ts.length ct, .slice Ab l.length cb] 26)
  have hB2 := bel_a (w.alloc (.cells #[.slice At ts.length ct, .slice Ab l.length cb] 26)) (.cells #[.slice none 0 0, .slice none 0 0] 26)
  have hAB := hA.trans (hB2.mono hA.size)
  have hr0 := row_below (heap_alloc_new w (.cells #[.slice At ts.length ct, .slice Ab l.length cb] 26)) hB2
  have hr1 := heap_alloc_new (w.alloc (.cells #[.slice At ts.length ct, .slice Ab l.length cb] 26)) (.cells #[.slice none 0 0, .slice none 0 0] 26)
  have hsz1 : (w.alloc (.cells #[.slice At ts.length ct, .slice Ab l.length cb] 26)).heap.size = w.heap.size + 1 := by simp
  rw [hsz1] at hr1
  have hsW : ((w.alloc (.cells #[.slice At ts.length ct, .slice Ab l.length cb] 26)).alloc (.cells #[.slice none 0 0, .slice none 0 0] 26)).heap.size = w.heap.size + 2 := by simp
  have HSW := Lib.hid hsW
  have HR0 := Lib.hid hr0
  have HR1 := Lib.hid hr1
  have HAB := Lib.hid hAB
  have HT := Lib.hid (ht.low hAB hB)
  have HL := Lib.hid (hl.low hAB hB)
  clear hA hB2 hAB hr0 hr1 hsz1 hsW ht hl
  go_enter Try.func50, Try.ntmps50
  go_wp2_with fail
  generalize (w.alloc (.cells #[.slice At ts.length ct, .slice Ab l.length cb] 26)).alloc (.cells #[.slice none 0 0, .slice none 0 0] 26) = W at *
  have q0 : W.cell? ⟨w.heap.size, 0, none⟩ = some (.slice At ts.length ct) := by rw [cell_of_row _ _ _ _ _ _ HR0.out]; rfl
  have q1 : W.cell? ⟨w.heap.size, 1, none⟩ = some (.slice Ab l.length cb) := by rw [cell_of_row _ _ _ _ _ _ HR0.out]; rfl
  have hws := HSW.out
  have hwl : w.heap.size < W.heap.size := by omega
  have hwl1 : w.heap.size + 1 < W.heap.size := by omega
  have hBW : B ≤ W.heap.size := by omega
  clear hws
  have C3 := Lib.hid (clone_any (.slice At ts.length ct) ts B W.drew HT.out hBW hts)
  have C4 := Lib.hid (fun (wz : World) (hz : Below W.heap.size W wz) => ownd_any (szL l) hsz (.slice Ab l.length cb) l B wz (Nat.le_refl _) (HL.out.low hz hBW) (by have := hz.size; omega))
  have tok1 : True := trivial
  go_region_law (first
    | (have _t := tok1; go_simp; go_at_call 104; refine C3.out.mono ?_; rintro e w3 ⟨v3, rfl, ho3, hb3⟩; clear tok1 _t; (obtain ⟨A3, n3, rfl, hn3⟩ := ho3.slice); (have HO3 := Lib.hid (show OInts w3 W.heap.size (.slice A3 ts.length n3) ts from ho3)); (have HB3 := Lib.hid (show Below W.heap.size W w3 from (Below.refl W.heap.size W).drew.trans hb3)); (have x1 := (HB3.out.cell (p := ⟨w.heap.size, 1, none⟩) hwl).trans q1); (have hs3 := HB3.out.size); clear ho3 hb3; (have tok2 : True := trivial))
    | (have _t := tok2; go_simp; go_at_call 60; refine (C4.out _ HB3.out).mono ?_; rintro e w4 ⟨v4, rfl, ho4, hb4⟩; clear tok2 _t; (obtain ⟨A4, n4, rfl, hn4⟩ := ho4.slice); (have HO4 := Lib.hid ho4); (have HB4 := Lib.hid hb4); (have hr4 := row_below (row_below HR1.out HB3.out) hb4); (have HR4 := Lib.hid hr4); (have z0 : w4.cell? ⟨w.heap.size + 1, 0, none⟩ = some (.slice none 0 0) := by (rw [cell_of_row _ _ _ _ _ _ hr4]; rfl)); (have z1 : w4.cell? ⟨w.heap.size + 1, 1, none⟩ = some (.slice none 0 0) := by (rw [cell_of_row _ _ _ _ _ _ hr4]; rfl)); (have zf0 := frozen_of_row w4 (w.heap.size + 1) 0 _ _ hr4); (have zf1 := frozen_of_row w4 (w.heap.size + 1) 1 _ _ hr4); clear ho4 hb4 hr4)
    | fail)
  all_goals
    go_wp2_with fail
    refine bodyPost_ret (results_cell_row rfl _ _ (w.heap.size + 1) 26 _ (0, 0) _ rfl (box2 HR4.out _ _).1 Try.underlying26 rfl rfl) rfl ?_
    have hs4 := HB4.out.size
    have hws := HSW.out
    have hG := (box2 HR4.out (.slice A3 ts.length n3) (.slice A4 l.length n4)).2
    have hs3 := HB3.out.size
    have hsz := hG.size
    refine ⟨_, _, w3.heap.size, rfl, HO3.out.move (by omega) fun b h1 h2 => (hG.block b (by omega) fun e => by injection e with e; omega).trans (HB4.out.block b h2), fun g e => (HO3.out.own_lt e).2, by omega, ?_, ?_⟩
    · refine (HO4.out.frame fun b hb hl => hG.block b hl fun e => ?_).mono fun b hb => ⟨hb.1, Nat.lt_of_lt_of_le hb.2 hsz⟩
      have h1 : w3.heap.size ≤ b := hb.1
      injection e with e
      omega
    · exact (HAB.out.trans ((HB3.out.trans (HB4.out.mono hs3)).mono (by omega))).trans ⟨hG.os, hG.tape, hG.output, hsz, fun k hk => hG.block k (by omega) fun e => by injection e with e; omega⟩

end Go.Proofs.Ytidlifijgooceaa

/- A statement deleted: slices.Delete, impl.Program.dropped, impl.DropStmt. -/
namespace Go.Proofs.Ytidlifijgooceaa
open Go.RowKit Go.Lib

theorem LvF.tail {w : World} {g cap : Nat} {cs : List Value} {l : List St} {tv ev : Nat → Value} (h : LvF w g cap cs l tv ev) (o : Nat) (vs : List Value) (ho : l.length * 6 ≤ o) (hv : o + vs.length ≤ cs.length) :
    ∃ cs', LvF (w.setCells g o vs) g cap cs' l tv ev := by
  obtain ⟨cs', hr, hl, hc⟩ := RowB.putL vs o w cs h.row hv
  have key : ∀ j, j < l.length * 6 → cs'[j]? = cs[j]? := fun j hj => by rw [hc, if_neg (by omega)]
  refine ⟨cs', hr, by rw [hl]; exact h.len, h.le, h.cm, fun i hi => ?_, fun i hi => ?_⟩
  · rw [key _ (by omega), key _ (by omega), key _ (by omega), key _ (by omega)]; exact h.ci i hi
  · rw [key _ (by omega), key _ (by omega)]; exact h.cv i hi
theorem LvF.erase {w : World} {g cap : Nat} {cs : List Value} {l : List St} {tv ev : Nat → Value} (h : LvF w g cap cs l tv ev) {k : Nat} (hk : k < l.length) :
    ∃ cs', LvF (w.setCells g (k * 6) ((cs.drop ((k + 1) * 6)).take ((l.length - (k + 1)) * 6))) g cap cs' (l.eraseIdx k) (fun i => if i < k then tv i else tv (i + 1)) (fun i => if i < k then ev i else ev (i + 1)) := by
  have hlen := h.len
  have hle := h.le
  have hn : ((cs.drop ((k + 1) * 6)).take ((l.length - (k + 1)) * 6)).length = (l.length - (k + 1)) * 6 := by rw [List.length_take, List.length_drop]; omega
  obtain ⟨cs', hr, hl, hc⟩ := RowB.putL _ (k * 6) w cs h.row (by rw [hn]; omega)
  have el : (l.eraseIdx k).length = l.length - 1 := List.length_eraseIdx_of_lt hk
  have k1 : ∀ j, j < k * 6 → cs'[j]? = cs[j]? := fun j hj => by rw [hc, if_neg (by omega)]
  have k2 : ∀ i d, k ≤ i → i < l.length - 1 → d < 6 → cs'[i * 6 + d]? = cs[(i + 1) * 6 + d]? := fun i d h1 h2 hd => by
    rw [hc, if_pos (by rw [hn]; omega), List.getElem?_take, if_pos (by omega), List.getElem?_drop]
    congr 1
    omega
  refine ⟨cs', hr, by rw [hl]; exact hlen, by rw [el]; omega, h.cm, fun i hi => ?_, fun i hi => ?_⟩
  · rw [el] at hi
    by_cases hik : i < k
    · rw [k1 _ (by omega), k1 _ (by omega), k1 _ (by omega), k1 _ (by omega)]
      have e : (l.eraseIdx k)[i]'(by rw [el]; exact hi) = l[i] := by rw [List.getElem_eraseIdx]; simp [hik]
      rw [e]
      exact h.ci i (by omega)
    · have e : (l.eraseIdx k)[i]'(by rw [el]; exact hi) = l[i + 1] := by rw [List.getElem_eraseIdx]; simp [hik]
      have k0 := k2 i 0 (by omega) hi (by omega)
      rw [Nat.add_zero, Nat.add_zero] at k0
      rw [e, k0, k2 i 1 (by omega) hi (by omega), k2 i 2 (by omega) hi (by omega), k2 i 3 (by omega) hi (by omega)]
      exact h.ci (i + 1) (by omega)
  · rw [el] at hi
    by_cases hik : i < k
    · rw [k1 _ (by omega), k1 _ (by omega), if_pos hik, if_pos hik]
      exact h.cv i (by omega)
    · rw [k2 i 4 (by omega) hi (by omega), k2 i 5 (by omega) hi (by omega), if_neg hik, if_neg hik]
      exact h.cv (i + 1) (by omega)
theorem erase_get {l : List St} {k i : Nat} (hk : k < l.length) (hi : i < (l.eraseIdx k).length) : ∃ j, ∃ hj : j < l.length, (l.eraseIdx k)[i] = l[j] ∧ j = (if i < k then i else i + 1) := by
  have el : (l.eraseIdx k).length = l.length - 1 := List.length_eraseIdx_of_lt hk
  refine ⟨if i < k then i else i + 1, by split <;> omega, ?_, rfl⟩
  rw [List.getElem_eraseIdx]
  split
  · simp
  · simp
theorem szL_erase (l : List St) (k : Nat) : szL (l.eraseIdx k) ≤ szL l := by
  rw [List.eraseIdx_eq_take_drop_succ, szL_append]
  have h := szL_append (l.take (k + 1)) (l.drop (k + 1))
  rw [List.take_append_drop] at h
  have h2 : szL (l.take k) ≤ szL (l.take (k + 1)) := by
    have := szL_append (l.take k) ((l.take (k + 1)).drop k)
    have e : l.take k ++ (l.take (k + 1)).drop k = l.take (k + 1) := by
      have := List.take_append_drop k (l.take (k + 1))
      rwa [List.take_take, Nat.min_eq_left (by omega)] at this
    rw [e] at this
    omega
  omega
/-- clear(s) of one statement -/
theorem run_clear_st (w : World) (ty : TypeId) (b o c : Nat) (hc : ∀ j, j < 6 → (w.cell? ⟨b, o + j, none⟩).isSome = true) (hf : ∀ j, j < 6 → w.frozen? ⟨b, o + j, none⟩ = false) :
    (Builtin.clear_ #[24] ty #[.slice (some ⟨b, o, none⟩) 1 c]).run Try.prog w = .ok (.tuple #[]) (w.setCells b o [.int .i64 0, .int .i64 0, .int .i64 0, .int .i64 0, .slice none 0 0, .slice none 0 0]) := by
  have hst := run_storeCells_cells (P := Try.prog) b o [.int .i64 0, .int .i64 0, .int .i64 0, .int .i64 0, .slice none 0 0, .slice none 0 0] 0 w (by simpa using hc) (by simpa using hf) (by intro v hv'; simp at hv'; rcases hv' with rfl | rfl | rfl | rfl | rfl | rfl <;> rfl)
  simp only [Nat.add_zero] at hst
  have hz : (Builtin.zeroCells #[.int .i64 0, .int .i64 0, .int .i64 0, .int .i64 0, .slice none 0 0, .slice none 0 0] 1).toList = [.int .i64 0, .int .i64 0, .int .i64 0, .int .i64 0, .slice none 0 0, .slice none 0 0] := by kernel_rfl
  simp [Builtin.clear_, run_underlying Try.underlying24, Value.cells, hz, hst]
theorem DT.erased {w w2 : World} {P : Nat → Prop} {g cap : Nat} {cs : List Value} {l : List St} {tv ev : Nat → Value} {Pt Pe : Nat → Nat → Prop} {k : Nat} (hk : k < l.length) (hr : LvF w2 g cap cs (l.eraseIdx k) (fun i => if i < k then tv i else tv (i + 1)) (fun i => if i < k then ev i else ev (i + 1)))
    (hfr : ∀ b : Nat, b ≠ g → w2.heap[b]? = w.heap[b]?) (hg : P g) (ht : ∀ i (h : i < l.length), DT w (Pt i) (tv i) l[i].th) (he : ∀ i (h : i < l.length), DT w (Pe i) (ev i) l[i].el)
    (st : ∀ i b, i < l.length → (Pt i b ∨ Pe i b) → P b ∧ b ≠ g)
    (dj : ∀ i j b, i < l.length → j < l.length → (Pt i b → ¬ Pe j b) ∧ (i ≠ j → (Pt i b → ¬ Pt j b) ∧ (Pe i b → ¬ Pe j b))) : DT w2 P (.slice (some ⟨g, 0, none⟩) (l.eraseIdx k).length cap) (l.eraseIdx k) := by
  have el : (l.eraseIdx k).length = l.length - 1 := List.length_eraseIdx_of_lt hk
  refine .mk P g cap cs _ _ _ (fun i => if i < k then Pt i else Pt (i + 1)) (fun i => if i < k then Pe i else Pe (i + 1)) hg hr (fun i hi => ?_) (fun i hi => ?_) (fun i b hi hb => ?_) (fun i j b hi hj => ?_)
  · obtain ⟨j, hj, e, ej⟩ := erase_get hk hi
    rw [e]
    have h1 := (ht j hj).frame (w' := w2) fun b hb _ => hfr b (st j b hj (.inl hb)).2
    by_cases hik : i < k
    · rw [if_pos hik, if_pos hik]; rw [if_pos hik] at ej; subst ej; exact h1
    · rw [if_neg hik, if_neg hik]; rw [if_neg hik] at ej; subst ej; exact h1
  · obtain ⟨j, hj, e, ej⟩ := erase_get hk hi
    rw [e]
    have h1 := (he j hj).frame (w' := w2) fun b hb _ => hfr b (st j b hj (.inr hb)).2
    by_cases hik : i < k
    · rw [if_pos hik, if_pos hik]; rw [if_pos hik] at ej; subst ej; exact h1
    · rw [if_neg hik, if_neg hik]; rw [if_neg hik] at ej; subst ej; exact h1
  · rw [el] at hi
    by_cases hik : i < k
    · rw [if_pos hik, if_pos hik] at hb; exact st i b (by omega) hb
    · rw [if_neg hik, if_neg hik] at hb; exact st (i + 1) b (by omega) hb
  · rw [el] at hi hj
    by_cases hik : i < k <;> by_cases hjk : j < k
    · rw [if_pos hik, if_pos hjk, if_pos hjk, if_pos hik]; exact dj i j b (by omega) (by omega)
    · rw [if_pos hik, if_neg hjk, if_neg hjk, if_pos hik]
      have := dj i (j + 1) b (by omega) (by omega)
      exact ⟨this.1, fun _ => this.2 (by omega)⟩
    · rw [if_neg hik, if_pos hjk, if_pos hjk, if_neg hik]
      have := dj (i + 1) j b (by omega) (by omega)
      exact ⟨this.1, fun _ => this.2 (by omega)⟩
    · rw [if_neg hik, if_neg hjk, if_neg hjk, if_neg hik]
      have := dj (i + 1) (j + 1) b (by omega) (by omega)
      exact ⟨this.1, fun hne => this.2 (by omega)⟩
/-- what Delete answers -/
def DelRet (w : World) (P : Nat → Prop) (v : Value) (l : List St) (k : Nat) (e : Ending) (w' : World) : Prop :=
  ∃ v', e = .returned v' ∧ DT w' P v' (l.eraseIdx k) ∧ w.grownBy w' v.ownBlock ∧ w'.heap.size = w.heap.size
set_option maxHeartbeats 4000000 in
set_option maxRecDepth 100000 in
theorem delete_any (v : Value) (l : List St) (k : Nat) (P : Nat → Prop) (w : World) (h : DT w P v l) (hk : k < l.length) (hl : l.length ≤ 4194304) :
    Calls Try.prog 117 #[v, .int .i64 (k : Nat), .int .i64 ((k : Int) + 1)] w (DelRet w P v l k) := by
  obtain ⟨i0, hi0, hz0, hz1, hz2⟩ := info_parts Try.infoSt
  cases h with
  | nil => simp at hk
  | mk P g cap cs l tv ev Pt Pe hg hr ht he st dj =>
    have hlen := hr.len
    have hle := hr.le
    have hcm := hr.cm
    obtain ⟨n, hn⟩ : ∃ n, n = l.length := ⟨_, rfl⟩
    obtain ⟨news, hnews⟩ : ∃ news, news = (cs.drop ((k + 1) * 6)).take ((l.length - (k + 1)) * 6) := ⟨_, rfl⟩
    have hnl : news.length = (n - (k + 1)) * 6 := by rw [hnews, List.length_take, List.length_drop]; omega
    obtain ⟨cs1, hr1⟩ := (hr.keep (w' := w.drew) rfl).erase hk
    rw [← hnews] at hr1
    have el : (l.eraseIdx k).length = n - 1 := by rw [List.length_eraseIdx_of_lt hk, hn]
    obtain ⟨cs2, hr2⟩ := hr1.tail ((n - 1) * 6) [.int .i64 0, .int .i64 0, .int .i64 0, .int .i64 0, .slice none 0 0, .slice none 0 0] (by rw [el]; exact Nat.le_refl _) (by have := hr1.len; simp; omega)
    have HR2 := Lib.hid hr2
    have HR1 := Lib.hid hr1
    have hng : ∀ j u, news[j]? = some u → (k + 1) * 6 + j < n * 6 ∧ cs[(k + 1) * 6 + j]? = some u := fun j u hu => by
      have hj : j < news.length := (List.getElem?_eq_some_iff.1 hu).1
      rw [hnl] at hj
      rw [hnews, List.getElem?_take, if_pos (by omega), List.getElem?_drop] at hu
      exact ⟨by omega, hu⟩
    have hcell : ∀ j, w.drew.cell? ⟨g, j, none⟩ = cs[j]? := fun j => hr.row.cell j
    have hfz : ∀ j, w.drew.frozen? ⟨g, j, none⟩ = false := fun j => hr.row.frozen j
    have S1 := Lib.hid hnl
    have S2 : Hid (∀ u ∈ news, u.oneCell' = true) := Lib.hid fun u hu => by
      obtain ⟨j, hj, e⟩ := List.getElem_of_mem hu
      obtain ⟨h1, h2⟩ := hng j u (by rw [List.getElem?_eq_getElem hj, e])
      obtain ⟨i, d, hi, hd⟩ : ∃ i d, (k + 1) * 6 + j = i * 6 + d ∧ d < 6 := ⟨((k + 1) * 6 + j) / 6, ((k + 1) * 6 + j) % 6, by omega, by omega⟩
      have hil : i < l.length := by omega
      rw [hi] at h2
      obtain ⟨i0', i1', i2', i3'⟩ := hr.ci i hil
      obtain ⟨i4', i5'⟩ := hr.cv i hil
      have hd' : d = 0 ∨ d = 1 ∨ d = 2 ∨ d = 3 ∨ d = 4 ∨ d = 5 := by omega
      rcases hd' with rfl | rfl | rfl | rfl | rfl | rfl
      · rw [Nat.add_zero, i0'] at h2; injection h2 with h2; subst h2; rfl
      · rw [i1'] at h2; injection h2 with h2; subst h2; rfl
      · rw [i2'] at h2; injection h2 with h2; subst h2; rfl
      · rw [i3'] at h2; injection h2 with h2; subst h2; rfl
      · rw [i4'] at h2; injection h2 with h2; subst h2; exact (ht i hil).one
      · rw [i5'] at h2; injection h2 with h2; subst h2; exact (he i hil).one
    have S3 : Hid (∀ j, j < news.length → (w.drew.cell? ⟨g, 0 + k * 6 + j, none⟩).isSome = true ∧ w.drew.frozen? ⟨g, 0 + k * 6 + j, none⟩ = false) := Lib.hid fun j hj => by
      rw [hnl] at hj
      exact ⟨by rw [hcell, List.getElem?_eq_getElem (by omega)]; rfl, hfz _⟩
    have S4 : Hid (∀ j u, news[j]? = some u → w.drew.cell? ((⟨g, (k + 1) * 6, none⟩ : Addr).add j) = some u) := Lib.hid fun j u hu => by
      have h2 := (hng j u hu).2
      rw [Addr.add_lit, hcell]
      exact h2
    have S5 : Hid (cap = k + 1 → ∀ j u, news[j]? = some u → w.drew.cell? ((⟨g, 0, none⟩ : Addr).add j) = some u) := Lib.hid fun hc j u hu => by
      have h2 := (hng j u hu).1
      omega
    obtain ⟨W1, hW1⟩ : ∃ W1, W1 = w.drew.setCells g (0 + k * 6) news := ⟨_, rfl⟩
    have HW1 := Lib.hid hW1
    rw [Nat.zero_add] at hW1
    rw [← hW1] at hr1 hr2
    have HG1 : Hid (∀ b : Nat, b ≠ g → W1.heap[b]? = w.heap[b]?) := Lib.hid fun b hb => by rw [hW1]; exact heap_putL hb _ _ _
    have HZ1 : Hid (W1.heap.size = w.heap.size) := Lib.hid (by rw [hW1]; exact size_putL _ _ _)
    have HO1 : Hid (W1.os = w.os ∧ W1.tape = w.tape ∧ W1.output = w.output) := Lib.hid (by
      have := below_putL (B := 0) (Nat.zero_le g) news (k * 6) w.drew
      rw [← hW1] at this
      exact ⟨this.os, this.tape, this.output⟩)
    have hc1 : ∀ j, j < 6 → (W1.cell? ⟨g, (n - 1) * 6 + j, none⟩).isSome = true := fun j hj => by
      have := hr1.len
      rw [hr1.row.cell, List.getElem?_eq_getElem (by omega)]; rfl
    have hcl : ∀ ty, (Builtin.clear_ #[24] ty #[.slice (some ⟨g, (n - 1) * 6, none⟩) 1 (cap - (n - 1))]).run Try.prog W1 = .ok (.tuple #[]) (W1.setCells g ((n - 1) * 6) [.int .i64 0, .int .i64 0, .int .i64 0, .int .i64 0, .slice none 0 0, .slice none 0 0]) :=
      fun ty => run_clear_st W1 ty g _ _ hc1 fun j _ => hr1.row.frozen _
    obtain ⟨W2, hW2⟩ : ∃ W2, W2 = W1.setCells g ((n - 1) * 6) [.int .i64 0, .int .i64 0, .int .i64 0, .int .i64 0, .slice none 0 0, .slice none 0 0] := ⟨_, rfl⟩
    have HF : Hid (DelRet w P (.slice (some ⟨g, 0, none⟩) l.length cap) l k (.returned (.slice (some ⟨g, 0, none⟩) (n - 1) cap)) W2) := Lib.hid (by
      have hb2 := below_putL (B := 0) (Nat.zero_le g) [.int .i64 0, .int .i64 0, .int .i64 0, .int .i64 0, .slice none 0 0, .slice none 0 0] ((n - 1) * 6) W1
      have hz2 := size_putL (g := g) [.int .i64 0, .int .i64 0, .int .i64 0, .int .i64 0, .slice none 0 0, .slice none 0 0] ((n - 1) * 6) W1
      have hf2 : ∀ b : Nat, b ≠ g → W2.heap[b]? = w.heap[b]? := fun b hb => by rw [hW2, heap_putL hb]; exact HG1.out b hb
      rw [← hW2] at hr2 hb2 hz2
      have hd := DT.erased hk hr2 hf2 hg ht he st dj
      rw [el] at hd
      have ho := HO1.out
      have hz1 := HZ1.out
      exact ⟨_, rfl, hd, ⟨hb2.os.trans ho.1, hb2.tape.trans ho.2.1, hb2.output.trans ho.2.2, by omega, fun b _ hne => hf2 b fun e => hne (by rw [e]; rfl)⟩, by omega⟩)
    have HW2 := Lib.hid hW2
    clear hc1 hcell hfz hng hW1 hW2 HG1 HZ1 HO1
    have HR := Lib.hid hr
    have HNW := Lib.hid hnews
    have HST := Lib.hid st
    have HDJ := Lib.hid dj
    have HT := Lib.hid ht
    have HE := Lib.hid he
    have hkn : k < n := by omega
    have hnc : n ≤ cap := by omega
    have hne : ((k : Int) == (k : Int) + 1) = false := by simp; omega
    have HCL := Lib.hid hnl
    have HEL := Lib.hid el
    have HN := Lib.hid hn
    rw [← hn]
    clear hr hr1 hr2 hnews ht he st dj hlen hle hnl el hk hn
    rw [maxLen_eq] at hcm
    go_enter Try.func117, Try.ntmps117
    go_upto_region 5 with (at_builtin; fail)
    have hkc : k ≤ cap := by omega
    have e1 : k + (n - (k + 1)) = n - 1 := by omega
    have e2 : n - (n - 1) = 1 := by omega
    have hkk : (k : Int) ≤ (k : Int) + 1 := by omega
    have hkn2 : 0 ≤ (k : Int) + 1 ∧ (k : Int) + 1 ≤ (n : Int) := by omega
    by_cases hck : cap = k + 1
    · have S6 := Lib.hid (S5.out hck)
      subst hck
      obtain rfl : n = k + 1 := by omega
      rw [show k + 1 - 1 = k by omega, show k + 1 - k = 1 by omega] at hcl
      have S1' : Hid (news.length = 0 * 6) := Lib.hid (by have := S1.out; omega)
      clear e1 e2
      go_region_law (refine step_append_room rfl (.tmp 22) (.tmp 25) 24 rfl 87 i0 6 Try.underlying24 hi0 hz1 g 0 k (k + 1) (by simp [Act.eval, Act.put]) ⟨g, 0, none⟩ 0 0 news (by simp [Act.eval, Act.put]) S1'.out S6.out S2.out (by omega) S3.out ?_; rw [← HW1.out])
      go_wp2_with (at_builtin; fail)
      go_ret
      have := HF.out
      rw [HW2.out] at this
      exact this
    · go_region_law (refine step_append_room rfl (.tmp 22) (.tmp 25) 24 rfl 87 i0 6 Try.underlying24 hi0 hz1 g 0 k cap (by simp [Act.eval, Act.put]) ⟨g, (k + 1) * 6, none⟩ (n - (k + 1)) (cap - (k + 1)) news (by simp [Act.eval, Act.put]) S1.out S4.out S2.out (by omega) S3.out ?_; rw [← HW1.out])
      go_wp2_with (at_builtin; fail)
      go_ret
      have := HF.out
      rw [HW2.out, ← HN.out] at this
      exact this

end Go.Proofs.Ytidlifijgooceaa
