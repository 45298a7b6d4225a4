import Derived.Test.YtidlifijgooceaaK18
import Derived.Test.YtidlifijgooceaaK25
import Derived.Deep.RegionLaw
import Derived.Deep.DeepCutAuto
import Derived.Deep.CutBlock
import Derived.Test.YtidlifijgooceaaK01
import Derived.Test.YtidlifijgooceaaK04
import Derived.Test.YtidlifijgooceaaK23
import Derived.Deep.RegionHeld3
set_option linter.unusedVariables false

/- impl.ownStmts, impl.Program.own. -/
namespace Go.Proofs.Ytidlifijgooceaa
open Go.RowKit

end Go.Proofs.Ytidlifijgooceaa

/- Parts of slices of statements. -/
namespace Go.Proofs.Ytidlifijgooceaa
open Go.RowKit

theorem StS.take {w : World} {B n c k : Nat} {A : Option Addr} {l : List St} (h : StS w B (.slice A n c) l) (hk : k ≤ l.length) : StS w B (.slice A k c) (l.take k) := by
  cases h with
  | mk A c l tv ev hc hr ht he =>
    have hl : (l.take k).length = k := by rw [List.length_take]; omega
    have h := StS.mk (w := w) (B := B) A c (l.take k) tv ev (by omega) (fun hn => by
      obtain ⟨b, off, e, hb, hcell⟩ := hr (by omega)
      exact ⟨b, off, e, hb, fun i hi => by
        rw [List.getElem_take]
        exact hcell i (by omega)⟩) (fun i hi => by rw [List.getElem_take]; exact ht i (by omega)) (fun i hi => by rw [List.getElem_take]; exact he i (by omega))
    rwa [hl] at h
theorem StS.drop {w : World} {B n c k b off : Nat} {l : List St} (h : StS w B (.slice (some ⟨b, off, none⟩) n c) l) (hk : k ≤ l.length) : StS w B (.slice (some ⟨b, off + k * 6, none⟩) (n - k) (c - k)) (l.drop k) := by
  cases h with
  | mk A c l tv ev hc hr ht he =>
    have hl : (l.drop k).length = l.length - k := by rw [List.length_drop]
    have h := StS.mk (w := w) (B := B) (some ⟨b, off + k * 6, none⟩) (c - k) (l.drop k) (fun i => tv (k + i)) (fun i => ev (k + i)) (by omega) (fun hn => by
      obtain ⟨b', off', e, hb, hcell⟩ := hr (by omega)
      injection e with e
      injection e with e1 e2
      subst e1 e2
      refine ⟨b, off + k * 6, rfl, hb, fun i hi => ?_⟩
      have := hcell (k + i) (by omega)
      rw [List.getElem_drop]
      rw [show off + (k + i) * 6 = off + k * 6 + i * 6 by omega] at this
      exact this) (fun i hi => by rw [List.getElem_drop]; exact ht (k + i) (by omega)) (fun i hi => by rw [List.getElem_drop]; exact he (k + i) (by omega))
    rwa [hl] at h
theorem StS.zero {w : World} {B c : Nat} (A : Option Addr) : StS w B (.slice A 0 c) [] :=
  .mk A c [] (fun _ => .slice none 0 0) (fun _ => .slice none 0 0) (Nat.zero_le _) (fun h => absurd h (by simp)) (fun i h => absurd h (by simp)) (fun i h => absurd h (by simp))
end Go.Proofs.Ytidlifijgooceaa

/- impl.SplitProgram, spec.SplitProgram. -/
namespace Go.Proofs.Ytidlifijgooceaa
open Go.RowKit

theorem own_reads {w w' : World} {base lo : Nat} {vt vb : Value} {ts : List Int} {l : List St} (hoi : OInts w base vt ts) (hos : OSt w lo vb l) (hbl : base ≤ lo) (hs : w.heap.size ≤ w'.heap.size)
    (hk : ∀ b, base ≤ b → b < w.heap.size → w'.heap[b]? = w.heap[b]?) (hts : ts.length ≤ 4000000) : IntS w' w'.heap.size vt ts ∧ StS w' w'.heap.size vb l :=
  ⟨(hoi.move (Nat.le_refl _) hk).toS (by omega), (hos.move hs (Nat.le_refl _) fun b h1 h2 => hk b (by omega) h2).toX.toS⟩
end Go.Proofs.Ytidlifijgooceaa

/- spec.SplitProgram. -/
namespace Go.Proofs.Ytidlifijgooceaa
open Go.RowKit

/-- a copied program in a box of its own -/
def CpBox (w1 : World) (ts : List Int) (l : List St) (s : Value) (wx : World) : Prop :=
  ∃ g vt vb base lo, s = .pointer (some ⟨g, 0, none⟩) ∧ RowB wx g 26 [vt, vb] ∧ w1.heap.size ≤ g ∧ w1.heap.size ≤ base ∧ base ≤ lo ∧ OInts wx base vt ts ∧ OSt wx lo vb l ∧ Below w1.heap.size w1 wx
theorem CpBox.after {w1 w5 : World} {ts : List Int} {l : List St} {e : Value} {vt vb : Value} (h : CpRet w1.drew ts l (.returned e) w5) (he : e = .agg #[vt, vb]) :
    CpBox w1 ts l (.pointer (some ⟨w5.heap.size, 0, none⟩)) (w5.alloc (.cells #[vt, vb] 26)) := by
  obtain ⟨vt', vb', lo, h0, hoi, -, hos, hlo, hlo', hb⟩ := h
  injection h0 with h0
  have h1 : (.agg #[vt, vb] : Value) = .agg #[vt', vb'] := he.symm.trans h0
  injection h1 with h1
  have hb0 : Below w1.heap.size w1 w5 := (Below.refl w1.heap.size w1).drew.trans hb
  have e1 : vt = vt' ∧ vb = vb' := by simpa using h1
  obtain ⟨rfl, rfl⟩ := e1
  have hb5 : Below w5.heap.size w5 (w5.alloc (.cells #[vt, vb] 26)) := bel_a w5 _
  refine ⟨_, vt, vb, w1.heap.size, lo, rfl, RowB.new w5 [vt, vb] 26, hb0.size, Nat.le_refl _, hlo, hoi.move (Nat.le_refl _) fun b _ h2 => hb5.block b h2, hos.move hb5.size (Nat.le_refl _) fun b _ h2 => hb5.block b h2, hb0.trans (hb5.mono hb0.size)⟩
theorem CpBox.before {w1 wa w5 : World} {ts : List Int} {l : List St} {e : Value} {vt vb : Value} (ha : wa = w1.alloc (.cells #[.slice none 0 0, .slice none 0 0] 26)) (h : CpRet wa.drew ts l (.returned e) w5) (he : e = .agg #[vt, vb]) :
    CpBox w1 ts l (.pointer (some ⟨w1.heap.size, 0, none⟩)) ((w5.setCell ⟨w1.heap.size, 0, none⟩ vt).setCell ⟨w1.heap.size, 1, none⟩ vb) := by
  subst ha
  obtain ⟨vt', vb', lo, h0, hoi, -, hos, hlo, hlo', hb⟩ := h
  injection h0 with h0
  have h1 : (.agg #[vt, vb] : Value) = .agg #[vt', vb'] := he.symm.trans h0
  injection h1 with h1
  have e1 : vt = vt' ∧ vb = vb' := by simpa using h1
  obtain ⟨rfl, rfl⟩ := e1
  have hbs : Below (w1.heap.size + 1) (w1.alloc (.cells #[.slice none 0 0, .slice none 0 0] 26)).drew w5 := hb.mono (by show _ ≤ (w1.alloc _).heap.size; simp)
  have hoi : OInts w5 (w1.heap.size + 1) vt ts := OInts.move hoi (by show _ ≤ (w1.alloc _).heap.size; simp) fun _ _ _ => rfl
  have hl1 : w1.heap.size + 1 ≤ lo := Nat.le_trans (by show _ ≤ (w1.alloc _).heap.size; simp) hlo
  have hbb : Below w1.heap.size w1 w5 := (bel_a w1 _).drew.trans (hbs.mono (by omega))
  have hR : RowB w5 w1.heap.size 26 [.slice none 0 0, .slice none 0 0] := RowB.low (w := (w1.alloc (.cells #[.slice none 0 0, .slice none 0 0] 26)).drew) (B := w1.heap.size + 1) (RowB.new w1 [.slice none 0 0, .slice none 0 0] 26) hbs (by omega)
  have hk : ∀ b, w1.heap.size + 1 ≤ b → ((w5.setCell ⟨w1.heap.size, 0, none⟩ vt).setCell ⟨w1.heap.size, 1, none⟩ vb).heap[b]? = w5.heap[b]? := fun b hb => by
    rw [Below.heap_setCell _ _ _ _ (by show b ≠ w1.heap.size; omega), Below.heap_setCell _ _ _ _ (by show b ≠ w1.heap.size; omega)]
  have hos' : OSt ((w5.setCell ⟨w1.heap.size, 0, none⟩ vt).setCell ⟨w1.heap.size, 1, none⟩ vb) lo vb l := hos.move (by simp [World.setCell]) (Nat.le_refl _) fun b (h1 : lo ≤ b) _ => hk b (Nat.le_trans hl1 h1)
  refine ⟨_, vt, vb, w1.heap.size + 1, lo, rfl, (hR.set_ 0 vt).set_ 1 vb, Nat.le_refl _, by omega, hl1, hoi.move (Nat.le_refl _) fun b h1 _ => hk b h1, hos',
    (hbb.setCell (p := ⟨w1.heap.size, 0, none⟩) (Nat.le_refl _) _).setCell (p := ⟨w1.heap.size, 1, none⟩) (Nat.le_refl _) _⟩
theorem CpBox.reads {w1 wx w' : World} {vt vb : Value} {base lo : Nat} {ts : List Int} {l : List St} (h1 : w1.heap.size ≤ base) (h2 : base ≤ lo) (hoi : OInts wx base vt ts) (hos : OSt wx lo vb l) (hs : wx.heap.size ≤ w'.heap.size)
    (hk : ∀ b, w1.heap.size ≤ b → b < wx.heap.size → w'.heap[b]? = wx.heap[b]?) (hts : ts.length ≤ 700) : IntS w' w'.heap.size vt ts ∧ StS w' w'.heap.size vb l :=
  own_reads hoi hos h2 hs (fun b a c => hk b (by omega) c) (by omega)
end Go.Proofs.Ytidlifijgooceaa

/- Words for l1Mutate: a field of a statement turns; a statement is struck; a statement is put behind. -/
namespace Go.Proofs.Ytidlifijgooceaa
open Go.RowKit

theorem szL_set {l : List St} {k : Nat} (hk : k < l.length) (s : St) (h : s.sz = l[k].sz) : szL (l.set k s) = szL l := by
  induction l generalizing k with
  | nil => simp at hk
  | cons a r ih =>
    cases k with
    | zero => simp only [List.set_cons_zero, szL]; simp at h; omega
    | succ k =>
      have := ih (k := k) (by simpa using hk) (by simpa using h)
      simp only [List.set_cons_succ, szL]; omega
def St.upd (j : Nat) (x : Int) : St → St
  | .mk op a b n th el => if j = 0 then .mk x a b n th el else if j = 1 then .mk op x b n th el else if j = 2 then .mk op a x n th el else .mk op a b x th el
theorem St.upd_sz (j : Nat) (x : Int) (s : St) : (s.upd j x).sz = s.sz := by
  cases s; simp only [St.upd]; repeat' split
  all_goals rfl
theorem St.upd_th (j : Nat) (x : Int) (s : St) : (s.upd j x).th = s.th ∧ (s.upd j x).el = s.el := by
  cases s; simp only [St.upd]; repeat' split
  all_goals exact ⟨rfl, rfl⟩
theorem St.upd_eq {j : Nat} (x : Int) (s : St) (hj : j < 4) : s.upd j x = .mk (if j = 0 then x else s.op) (if j = 1 then x else s.x) (if j = 2 then x else s.y) (if j = 3 then x else s.n) s.th s.el := by
  cases s
  rcases (show j = 0 ∨ j = 1 ∨ j = 2 ∨ j = 3 by omega) with rfl | rfl | rfl | rfl <;> rfl
theorem cell_set_same {w : World} {b o : Nat} {u v : Value} (h : w.cell? ⟨b, o, none⟩ = some u) : (w.setCell ⟨b, o, none⟩ v).cell? ⟨b, o, none⟩ = some v := World.cell?_setCell_same (w := w) (a := ⟨b, o, none⟩) (v := v) (u := u) h
theorem cell_set_off {w : World} {b o o' : Nat} {v : Value} (h : o ≠ o') : (w.setCell ⟨b, o, none⟩ v).cell? ⟨b, o', none⟩ = w.cell? ⟨b, o', none⟩ := World.cell?_setCell_other (w := w) (a := ⟨b, o, none⟩) (b := ⟨b, o', none⟩) (v := v) (fun e => h (by injection e))
theorem OSt.form {w : World} {base : Nat} {v : Value} {l : List St} (h : OSt w base v l) (hn : 0 < l.length) : ∃ g cap, v = .slice (some ⟨g, 0, none⟩) l.length cap ∧ base ≤ g ∧ g < w.heap.size ∧ l.length ≤ cap ∧
    (∀ i (hi : i < l.length), ∃ tv ev, w.cell? ⟨g, i * 6, none⟩ = some (.int .i64 l[i].op) ∧ w.cell? ⟨g, i * 6 + 1, none⟩ = some (.int .i64 l[i].x) ∧ w.cell? ⟨g, i * 6 + 2, none⟩ = some (.int .i64 l[i].y) ∧ w.cell? ⟨g, i * 6 + 3, none⟩ = some (.int .i64 l[i].n) ∧
      w.cell? ⟨g, i * 6 + 4, none⟩ = some tv ∧ w.cell? ⟨g, i * 6 + 5, none⟩ = some ev ∧ StX w (fun b => base ≤ b ∧ g ≠ b) tv l[i].th ∧ StX w (fun b => base ≤ b ∧ g ≠ b) ev l[i].el) ∧ (∀ j, w.frozen? ⟨g, j, none⟩ = false) := by
  obtain ⟨es, rfl, h2, h3⟩ := h
  simp only [List.length_map] at hn
  obtain ⟨g, cap, rfl, hb, hlt⟩ := h2.form hn
  refine ⟨g, cap, by simp, hb, hlt, ?_, fun i hi => ?_, fun j => ?_⟩
  · rcases h2.2 with ⟨e, _⟩ | ⟨g', cap', cur, e, _, _, hc, _⟩
    · cases e
    · injection e with e1 e2 e3; subst e3; simpa using hc
  · have hi' : i < es.length := by simpa using hi
    obtain ⟨a0, a1, a2, a3, a4, a5⟩ := seCells_at hi'
    have hat : ∀ j, j < 6 → w.cell? ⟨g, i * 6 + j, none⟩ = (seCells es)[i * 6 + j]? := fun j hj => h2.cellAt _ (by omega)
    have hat0 : w.cell? ⟨g, i * 6, none⟩ = (seCells es)[i * 6]? := hat 0 (by omega)
    have k := h3 es[i] (List.getElem_mem hi')
    refine ⟨es[i].tv, es[i].ev, ?_⟩
    simp only [hat0, hat 1 (by omega), hat 2 (by omega), hat 3 (by omega), hat 4 (by omega), hat 5 (by omega), a0, a1, a2, a3, a4, a5, List.getElem_map]
    refine ⟨by first | trivial | rfl, by first | trivial | rfl, by first | trivial | rfl, by first | trivial | rfl, by first | trivial | rfl, by first | trivial | rfl, ?_, ?_⟩
    · exact k.1.frame (Nat.le_refl _) fun b hb' _ => ⟨⟨hb'.1, fun e => hb'.2 (by rw [e]; rfl)⟩, rfl⟩
    · exact k.2.frame (Nat.le_refl _) fun b hb' _ => ⟨⟨hb'.1, fun e => hb'.2 (by rw [e]; rfl)⟩, rfl⟩
  · rcases h2.2 with ⟨e, _⟩ | ⟨g', cap', cur, e, _, hh, _⟩
    · cases e
    · injection e with e1 e2 e3
      injection e1 with e1
      injection e1 with e1
      subst e1
      exact frozen_of_row w g j _ _ hh
/-- a field of a statement of an owned row turns -/
theorem OSt.upd {w : World} {base g cap : Nat} {l : List St} (h : OSt w base (.slice (some ⟨g, 0, none⟩) l.length cap) l) {k : Nat} (hk : k < l.length) (j : Nat) (hj : j < 4) (x : Int) :
    ∃ l', StX (w.setCell ⟨g, k * 6 + j, none⟩ (.int .i64 x)) (fun b => base ≤ b) (.slice (some ⟨g, 0, none⟩) l.length cap) l' ∧ szL l' = szL l := by
  obtain ⟨g', cap', e, hb, hlt, hc, hcell, _⟩ := h.form (by omega)
  injection e with e1 e2 e3
  injection e1 with e1
  injection e1 with e1
  subst e1 e3
  refine ⟨l.set k (l[k].upd j x), ?_, szL_set hk _ (St.upd_sz _ _ _)⟩
  have hlen : l.length = (l.set k (l[k].upd j x)).length := by simp
  have hgs := grown_set w g (k * 6 + j) (.int .i64 x)
  have hcl := fun (i : Nat) (hi : i < l.length) => hcell i hi
  have hget : ∀ i (hi : i < (l.set k (l[k].upd j x)).length), (l.set k (l[k].upd j x))[i] = if k = i then l[k].upd j x else l[i]'(by simpa using hi) := fun i hi => List.getElem_set ..
  rw [show (Value.slice (some ⟨g, 0, none⟩) l.length cap) = .slice (some ⟨g, 0, none⟩) (l.set k (l[k].upd j x)).length cap by rw [← hlen]]
  refine .mk _ cap _ (fun i => if hi : i < l.length then (hcl i hi).choose else .slice none 0 0) (fun i => if hi : i < l.length then (hcl i hi).choose_spec.choose else .slice none 0 0) (by simpa using hc) (fun hn => ⟨g, 0, rfl, hb, by rw [size_set]; exact hlt, fun i hi => ?_⟩) (fun i hi => ?_) (fun i hi => ?_)
  · have hi' : i < l.length := by simpa using hi
    obtain ⟨c0, c1, c2, c3, c4, c5, -, -⟩ := (hcl i hi').choose_spec.choose_spec
    rw [hget]
    simp only [Nat.zero_add, dif_pos hi']
    by_cases hki : k = i
    · subst hki
      rw [if_pos rfl]
      have hoff : ∀ j', j ≠ j' → ∀ u, w.cell? ⟨g, k * 6 + j', none⟩ = some u → (w.setCell ⟨g, k * 6 + j, none⟩ (.int .i64 x)).cell? ⟨g, k * 6 + j', none⟩ = some u := fun j' hj' u hu => (cell_set_off (by omega)).trans hu
      have hoff0 : j ≠ 0 → (w.setCell ⟨g, k * 6 + j, none⟩ (.int .i64 x)).cell? ⟨g, k * 6, none⟩ = some (.int .i64 l[k].op) := fun hj' => (cell_set_off (by omega)).trans c0
      rw [St.upd_eq x l[k] hj]
      rcases (show j = 0 ∨ j = 1 ∨ j = 2 ∨ j = 3 by omega) with rfl | rfl | rfl | rfl
      · exact ⟨cell_set_same c0, hoff 1 (by omega) _ c1, hoff 2 (by omega) _ c2, hoff 3 (by omega) _ c3, hoff 4 (by omega) _ c4, hoff 5 (by omega) _ c5⟩
      · exact ⟨hoff0 (by omega), cell_set_same c1, hoff 2 (by omega) _ c2, hoff 3 (by omega) _ c3, hoff 4 (by omega) _ c4, hoff 5 (by omega) _ c5⟩
      · exact ⟨hoff0 (by omega), hoff 1 (by omega) _ c1, cell_set_same c2, hoff 3 (by omega) _ c3, hoff 4 (by omega) _ c4, hoff 5 (by omega) _ c5⟩
      · exact ⟨hoff0 (by omega), hoff 1 (by omega) _ c1, hoff 2 (by omega) _ c2, cell_set_same c3, hoff 4 (by omega) _ c4, hoff 5 (by omega) _ c5⟩
    · rw [if_neg hki]
      exact ⟨(cell_set_off (by omega)).trans c0, (cell_set_off (by omega)).trans c1, (cell_set_off (by omega)).trans c2, (cell_set_off (by omega)).trans c3, (cell_set_off (by omega)).trans c4, (cell_set_off (by omega)).trans c5⟩
  · have hi' : i < l.length := by simpa using hi
    obtain ⟨-, -, -, -, -, -, t, -⟩ := (hcl i hi').choose_spec.choose_spec
    rw [hget, dif_pos hi']
    have : (if k = i then l[k].upd j x else l[i]).th = l[i].th := by
      split
      · rename_i e; subst e; exact (St.upd_th _ _ _).1
      · rfl
    rw [this]
    exact t.frame hgs.size fun b hb' hl' => ⟨hb'.1, hgs.block b hl' (fun e => by injection e with e; exact hb'.2 e.symm)⟩
  · have hi' : i < l.length := by simpa using hi
    obtain ⟨-, -, -, -, -, -, -, t⟩ := (hcl i hi').choose_spec.choose_spec
    rw [hget, dif_pos hi']
    have : (if k = i then l[k].upd j x else l[i]).el = l[i].el := by
      split
      · rename_i e; subst e; exact (St.upd_th _ _ _).2
      · rfl
    rw [this]
    exact t.frame hgs.size fun b hb' hl' => ⟨hb'.1, hgs.block b hl' (fun e => by injection e with e; exact hb'.2 e.symm)⟩

/-- an owned row of statements whose statements' own rows lie in blocks of R -/
def OStR (w : World) (base : Nat) (R : Nat → Prop) (v : Value) (l : List St) : Prop :=
  ∃ es : List Se, l = es.map Se.st ∧ w.ownsRow base 87 6 v es.length (seCells es) ∧
    ∀ e ∈ es, StX w (fun b => (base ≤ b ∧ R b) ∧ v.ownBlock ≠ some b) e.tv e.th ∧ StX w (fun b => (base ≤ b ∧ R b) ∧ v.ownBlock ≠ some b) e.ev e.el
theorem OStR.to {w : World} {base : Nat} {R : Nat → Prop} {v : Value} {l : List St} (h : OStR w base R v l) : OSt w base v l := by
  obtain ⟨es, rfl, h2, h3⟩ := h
  exact ⟨es, rfl, h2, fun e he => ⟨(h3 e he).1.frame (Nat.le_refl _) fun b hb _ => ⟨⟨hb.1.1, hb.2⟩, rfl⟩, (h3 e he).2.frame (Nat.le_refl _) fun b hb _ => ⟨⟨hb.1.1, hb.2⟩, rfl⟩⟩⟩
theorem OSt.toR {w w' : World} {base : Nat} {R : Nat → Prop} {v : Value} {l : List St} (h : OSt w base v l) (hs : w.heap.size ≤ w'.heap.size) (hk : ∀ b, base ≤ b → b < w.heap.size → R b ∧ w'.heap[b]? = w.heap[b]?) : OStR w' base R v l := by
  obtain ⟨es, rfl, h2, h3⟩ := h
  refine ⟨es, rfl, ⟨h2.1, ?_⟩, fun e he => ?_⟩
  · rcases h2.2 with h' | ⟨g, cap, cur, rfl, hbg, hh, rest⟩
    · exact .inl h'
    · exact .inr ⟨g, cap, cur, rfl, hbg, (hk g hbg (row_lt hh)).2.trans hh, rest⟩
  · obtain ⟨k1, k2⟩ := h3 e he
    have hk' : ∀ b, (base ≤ b ∧ v.ownBlock ≠ some b) → b < w.heap.size → ((base ≤ b ∧ R b) ∧ v.ownBlock ≠ some b) ∧ w'.heap[b]? = w.heap[b]? := fun b hb' hl => ⟨⟨⟨hb'.1, (hk b hb'.1 hl).1⟩, hb'.2⟩, (hk b hb'.1 hl).2⟩
    exact ⟨k1.frame hs hk', k2.frame hs hk'⟩
/-- a store to a block that is none of the rows' -/
theorem OStR.setX {w : World} {base g : Nat} {R : Nat → Prop} {v : Value} {l : List St} (h : OStR w base R v l) (hown : v.ownBlock ≠ some g) (hR : ¬ R g) (i : Nat) (u : Value) : OStR (w.setCell ⟨g, i, none⟩ u) base R v l := by
  obtain ⟨es, rfl, h2, h3⟩ := h
  have hg := grown_set w g i u
  have hk' : ∀ b, ((base ≤ b ∧ R b) ∧ v.ownBlock ≠ some b) → b < w.heap.size → ((base ≤ b ∧ R b) ∧ v.ownBlock ≠ some b) ∧ (w.setCell ⟨g, i, none⟩ u).heap[b]? = w.heap[b]? := fun b hb' hl => ⟨hb', hg.block b hl (fun e => hR (by injection e with e; subst e; exact hb'.1.2))⟩
  exact ⟨es, rfl, h2.kept hg (.inr hown), fun e he => ⟨(h3 e he).1.frame hg.size hk', (h3 e he).2.frame hg.size hk'⟩⟩
/-- what leaves alone the rows from base on that are of R -/
theorem OStR.move {w w' : World} {base : Nat} {R : Nat → Prop} {v : Value} {l : List St} (h : OStR w base R v l) (hs : w.heap.size ≤ w'.heap.size) (hown : ∀ g, v.ownBlock = some g → w'.heap[g]? = w.heap[g]?) (hk : ∀ b, base ≤ b → R b → b < w.heap.size → w'.heap[b]? = w.heap[b]?) : OStR w' base R v l := by
  obtain ⟨es, rfl, h2, h3⟩ := h
  refine ⟨es, rfl, ⟨h2.1, ?_⟩, fun e he => ?_⟩
  · rcases h2.2 with h' | ⟨g, cap, cur, rfl, hbg, hh, rest⟩
    · exact .inl h'
    · exact .inr ⟨g, cap, cur, rfl, hbg, (hown g rfl).trans hh, rest⟩
  · obtain ⟨k1, k2⟩ := h3 e he
    have hk' : ∀ b, ((base ≤ b ∧ R b) ∧ v.ownBlock ≠ some b) → b < w.heap.size → ((base ≤ b ∧ R b) ∧ v.ownBlock ≠ some b) ∧ w'.heap[b]? = w.heap[b]? := fun b hb' hl => ⟨hb', hk b hb'.1.1 hb'.1.2 hl⟩
    exact ⟨k1.frame hs hk', k2.frame hs hk'⟩
/-- append(out, more...) for statements -/
theorem run_app_st (w : World) (base : Nat) (R : Nat → Prop) (ty : TypeId) (v : Value) (l : List St) (hP : OStR w base R v l) (hb : base ≤ w.heap.size) (es2 : List Se) (ad : Addr) (c : Nat) (hn : l.length + es2.length ≤ 1000000)
    (hc : ∀ j u, (seCells es2)[j]? = some u → w.cell? (ad.add j) = some u) (hx : ∀ e ∈ es2, StX w (fun b => (base ≤ b ∧ R b) ∧ v.ownBlock ≠ some b) e.tv e.th ∧ StX w (fun b => (base ≤ b ∧ R b) ∧ v.ownBlock ≠ some b) e.ev e.el) :
    ∃ v' w', (Builtin.append_ #[24, 24] ty #[v, .slice (some ad) es2.length c]).run Try.prog w = .ok v' w' ∧ OStR w' base R v' (l ++ es2.map Se.st) ∧ w.grownBy w' v.ownBlock ∧ (v'.ownBlock = v.ownBlock ∨ v'.ownBlock = some w.heap.size) := by
  obtain ⟨i0, hi0, hz0, hz1, hz2⟩ := info_parts Try.infoSt
  obtain ⟨es, rfl, h2, h3⟩ := hP
  have hone : ∀ u ∈ seCells es2, u.oneCell' = true := by
    clear hc hn
    induction es2 with
    | nil => intro u hu; simp [seCells] at hu
    | cons e r ih =>
      intro u hu
      have k := hx e (by simp)
      simp only [seCells, List.mem_cons] at hu
      rcases hu with rfl | rfl | rfl | rfl | rfl | rfl | hu
      · rfl
      · rfl
      · rfl
      · rfl
      · exact k.1.one
      · exact k.2.one
      · exact ih (fun e' he' => hx e' (by simp [he'])) u hu
  simp only [List.length_map] at hn
  obtain ⟨v', w', hrun, k1, k2, _, k4⟩ := run_append_own_at (P := Try.prog) w base 24 ty 87 i0 _ 6 80 Try.underlying24 hi0 hz0 hz1 hz2 rfl (by omega) v es.length _ h2 ad es2.length c (seCells es2) (seCells_len _) hc hone (by simp only [maxLen]; omega) (by omega) hb
  have hkeep : ∀ b, ((base ≤ b ∧ R b) ∧ v.ownBlock ≠ some b) → b < w.heap.size → ((base ≤ b ∧ R b) ∧ v'.ownBlock ≠ some b) ∧ w'.heap[b]? = w.heap[b]? := by
    intro b hb' hl
    refine ⟨⟨hb'.1, ?_⟩, k2.block b hl (fun e => hb'.2 e.symm)⟩
    rcases k4 with hv | hv
    · rw [hv]; exact hb'.2
    · rw [hv]; intro e; injection e with e; omega
  refine ⟨v', w', hrun, ⟨es ++ es2, by simp, ?_, fun e he => ?_⟩, k2, k4⟩
  · rw [seCells_append, List.length_append]; exact k1
  · rcases List.mem_append.1 he with he | he
    · exact ⟨(h3 e he).1.frame k2.size hkeep, (h3 e he).2.frame k2.size hkeep⟩
    · exact ⟨(hx e he).1.frame k2.size hkeep, (hx e he).2.frame k2.size hkeep⟩
theorem wp_app_st {o : Oper} {a : Act} {K : Act → World → Prop} {Q : Exit → Act → World → Prop} {w : World} (s x : Operand)
    (ho : o.op = .call { callee := .builtin .append, args := #[s, x], argTypes := #[24, 24] })
    (base : Nat) (R : Nat → Prop) (v : Value) (l : List St) (hs : a.eval s = v) (hP : OStR w base R v l) (hb : base ≤ w.heap.size) (es2 : List Se) (ad : Addr) (m c : Nat) (hm : m = es2.length) (hx : a.eval x = .slice (some ad) m c) (hn : l.length + es2.length ≤ 1000000)
    (hc : ∀ j u, (seCells es2)[j]? = some u → w.cell? (ad.add j) = some u) (hxx : ∀ e ∈ es2, StX w (fun b => (base ≤ b ∧ R b) ∧ v.ownBlock ≠ some b) e.tv e.th ∧ StX w (fun b => (base ≤ b ∧ R b) ∧ v.ownBlock ≠ some b) e.ev e.el)
    (h : ∀ v' w', OStR w' base R v' (l ++ es2.map Se.st) → w.grownBy w' v.ownBlock → (v'.ownBlock = v.ownBlock ∨ v'.ownBlock = some w.heap.size) → K (a.put o.dst v') w') : o.wp Try.prog a w K Q := by
  subst hm
  obtain ⟨v', w', hrun, h2, h3, h4⟩ := run_app_st w base R o.type v l hP hb es2 ad c hn hc hxx
  unfold Oper.wp execOp
  simp only [ho, resolve, invoke, builtin, Sem.run_bind, Sem.run_pure, Result.andThen_ok, List.map_toArray, List.map_cons, List.map_nil, hs, hx, hrun]
  exact h v' w' h2 h3 h4
theorem step_app_st {ops : Array Oper} {o : Oper} {a : Act} {K : Act → World → Prop} {Q : Exit → Act → World → Prop} {E : Prop} {w : World} (hgd : o.guard = none) (s x : Operand)
    (ho : o.op = .call { callee := .builtin .append, args := #[s, x], argTypes := #[24, 24] })
    (base : Nat) (R : Nat → Prop) (v : Value) (l : List St) (hs : a.eval s = v) (hP : OStR w base R v l) (hb : base ≤ w.heap.size) (es2 : List Se) (ad : Addr) (m c : Nat) (hm : m = es2.length) (hx : a.eval x = .slice (some ad) m c) (hn : l.length + es2.length ≤ 1000000)
    (hc : ∀ j u, (seCells es2)[j]? = some u → w.cell? (ad.add j) = some u) (hxx : ∀ e ∈ es2, StX w (fun b => (base ≤ b ∧ R b) ∧ v.ownBlock ≠ some b) e.tv e.th ∧ StX w (fun b => (base ≤ b ∧ R b) ∧ v.ownBlock ≠ some b) e.ev e.el)
    (h : ∀ v' w', OStR w' base R v' (l ++ es2.map Se.st) → w.grownBy w' v.ownBlock → (v'.ownBlock = v.ownBlock ∨ v'.ownBlock = some w.heap.size) → K (a.put o.dst v') w') :
    if Region.wanted o (yielded ops a.tmps) = true then Oper.wp Try.prog o a w K Q else E := by
  have hw : Region.wanted o (yielded ops a.tmps) = true := by simp [Region.wanted, hgd]
  rw [if_pos hw]
  exact wp_app_st s x ho base R v l hs hP hb es2 ad m c hm hx hn hc hxx h
/-- the first k statements of an owned row, with the room behind -/
theorem OStR.cut {w : World} {base g n cap : Nat} {R : Nat → Prop} {l : List St} (h : OStR w base R (.slice (some ⟨g, 0, none⟩) n cap) l) {k : Nat} (hk : k < l.length) :
    OStR w base R (.slice (some ⟨g, 0, none⟩) k cap) (l.take k) ∧ ∃ es2 : List Se, l.drop (k + 1) = es2.map Se.st ∧ (∀ j u, (seCells es2)[j]? = some u → w.cell? ⟨g, (k + 1) * 6 + j, none⟩ = some u) ∧
      (∀ e ∈ es2, StX w (fun b => (base ≤ b ∧ R b) ∧ (Value.slice (some ⟨g, 0, none⟩) k cap).ownBlock ≠ some b) e.tv e.th ∧ StX w (fun b => (base ≤ b ∧ R b) ∧ (Value.slice (some ⟨g, 0, none⟩) k cap).ownBlock ≠ some b) e.ev e.el) := by
  obtain ⟨es, rfl, h2, h3⟩ := h
  have hk' : k < es.length := by simpa using hk
  have hne : n = es.length := by
    rcases h2.2 with ⟨e, _⟩ | ⟨g', cap', cur, e, _⟩
    · cases e
    · injection e
  subst hne
  have hse : seCells es = seCells (es.take k) ++ seCells (es.drop k) := by rw [← seCells_append, List.take_append_drop]
  have hse2 : seCells es = seCells (es.take (k + 1)) ++ seCells (es.drop (k + 1)) := by rw [← seCells_append, List.take_append_drop]
  have hl1 : (seCells (es.take k)).length = k * 6 := by rw [seCells_len]; simp; omega
  have hl2 : (seCells (es.take (k + 1))).length = (k + 1) * 6 := by rw [seCells_len]; simp; omega
  refine ⟨⟨es.take k, by simp [List.map_take], ?_, fun e he => h3 e (List.mem_of_mem_take he)⟩, es.drop (k + 1), by simp [List.map_drop], fun j u hu => ?_, fun e he => h3 e (List.mem_of_mem_drop he)⟩
  · have hlen : (es.take k).length = k := by simp; omega
    rw [hlen]
    refine ⟨by rw [hl1], .inr ?_⟩
    rcases h2.2 with ⟨e, _⟩ | ⟨g', cap', cur, e, hb, hh, hc, hm, hs, hcur⟩
    · cases e
    · injection e with e1 e2 e3
      injection e1 with e1
      injection e1 with e1
      subst e1 e3
      refine ⟨g, cap, cur, rfl, hb, hh, by omega, hm, hs, ?_⟩
      have e1 : cur.toList.take (k * 6) = (cur.toList.take (es.length * 6)).take (k * 6) := by rw [List.take_take, Nat.min_eq_left (by omega)]
      rw [e1, hcur, hse, List.take_left' hl1]
  · have hj : j < (seCells (es.drop (k + 1))).length := by
      rcases Nat.lt_or_ge j (seCells (es.drop (k + 1))).length with h | h
      · exact h
      · rw [List.getElem?_eq_none h] at hu; cases hu
    have hlen : (seCells es).length = es.length * 6 := seCells_len _
    have e : (seCells es)[(k + 1) * 6 + j]? = some u := by
      rw [hse2, List.getElem?_append_right (by omega), hl2, Nat.add_sub_cancel_left]; exact hu
    rw [← e]
    have hlt : (k + 1) * 6 + j < es.length * 6 := by
      rw [← hlen, hse2, List.length_append, hl2]; omega
    exact h2.cellAt _ hlt

theorem OStR.first {w : World} {base : Nat} {R : Nat → Prop} {v : Value} {l : List St} (h : OStR w base R v l) (hn : 0 < l.length) : ∃ (g cap : Nat) (e : Se), v = .slice (some ⟨g, 0, none⟩) l.length cap ∧ base ≤ g ∧ g < w.heap.size ∧ l.head? = some e.st ∧
    w.cell? ⟨g, 0, none⟩ = some (.int .i64 e.op) ∧ w.cell? ⟨g, 1, none⟩ = some (.int .i64 e.x) ∧ w.cell? ⟨g, 2, none⟩ = some (.int .i64 e.y) ∧ w.cell? ⟨g, 3, none⟩ = some (.int .i64 e.n) ∧ w.cell? ⟨g, 4, none⟩ = some e.tv ∧ w.cell? ⟨g, 5, none⟩ = some e.ev ∧
    StX w (fun b => (base ≤ b ∧ R b) ∧ v.ownBlock ≠ some b) e.tv e.th ∧ StX w (fun b => (base ≤ b ∧ R b) ∧ v.ownBlock ≠ some b) e.ev e.el := by
  obtain ⟨es, rfl, h2, h3⟩ := h
  simp only [List.length_map] at hn
  obtain ⟨e, r, rfl⟩ : ∃ e r, es = e :: r := by
    cases es with
    | nil => simp at hn
    | cons e r => exact ⟨e, r, rfl⟩
  obtain ⟨g, cap, rfl, hb, hlt⟩ := h2.form hn
  have hat : ∀ j, j < 6 → w.cell? ⟨g, j, none⟩ = (seCells (e :: r))[j]? := fun j hj => h2.cellAt _ (by simp; omega)
  exact ⟨g, cap, e, by simp, hb, hlt, rfl, hat 0 (by omega), hat 1 (by omega), hat 2 (by omega), hat 3 (by omega), hat 4 (by omega), hat 5 (by omega), (h3 e (by simp)).1, (h3 e (by simp)).2⟩
theorem seOne {w : World} {b : Nat} {T : TypeId} {fr : Nat × Nat} (e : Se) (h : w.heap[b]? = some (.cells #[.int .i64 e.op, .int .i64 e.x, .int .i64 e.y, .int .i64 e.n, e.tv, e.ev] T fr)) : ∀ j u, (seCells [e])[j]? = some u → w.cell? ((⟨b, 0, none⟩ : Addr).add j) = some u := by
  intro j u hu
  have hc : w.cell? ⟨b, j, none⟩ = some u := by
    rw [cell_of_row _ _ _ _ _ _ h]
    simpa [seCells] using hu
  by_cases hj : j = 0
  · subst hj; simpa [Addr.add] using hc
  · simpa [Addr.add, hj] using hc

theorem OStR.own_ne {w : World} {base b : Nat} {R : Nat → Prop} {v : Value} {l : List St} {cs : Array Value} {T : TypeId} {fr : Nat × Nat} (h : OStR w base R v l) (hr : w.heap[b]? = some (.cells cs T fr)) (hT : T ≠ 87) : v.ownBlock ≠ some b := by
  obtain ⟨es, rfl, h2, _⟩ := h
  rcases h2.2 with ⟨rfl, _⟩ | ⟨g, cap, cur, rfl, _, hh, _⟩
  · simp [Value.ownBlock]
  · intro e
    injection e with e
    have e' : g = b := e
    subst e'
    rw [hr] at hh
    injection hh with hh
    injection hh with _ hT'
    exact hT hT'
theorem OStR.own_ge {w : World} {base g : Nat} {R : Nat → Prop} {v : Value} {l : List St} (h : OStR w base R v l) (e : v.ownBlock = some g) : base ≤ g := by
  obtain ⟨es, rfl, h2, _⟩ := h
  exact (h2.lt g e).1

end Go.Proofs.Ytidlifijgooceaa
