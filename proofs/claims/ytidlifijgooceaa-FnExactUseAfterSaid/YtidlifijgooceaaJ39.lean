import Derived.Test.YtidlifijgooceaaJ31
import Derived.Test.YtidlifijgooceaaJ35
import Derived.Test.YtidlifijgooceaaJ06
set_option linter.unusedVariables false

/- Words for rows of bools that are read, that a call owns, and that stand in rows of rows. -/
namespace Go.Proofs.Ytidlifijgooceaa
open Go.RowKit

/-- only blocks in S have turned -/
structure Onl (S : Nat → Prop) (w w' : World) : Prop where
  os : w'.os = w.os
  tape : w'.tape = w.tape
  output : w'.output = w.output
  size : w.heap.size ≤ w'.heap.size
  block : ∀ k, k < w.heap.size → ¬ S k → w'.heap[k]? = w.heap[k]?
theorem Onl.refl (S : Nat → Prop) (w : World) : Onl S w w := ⟨rfl, rfl, rfl, Nat.le_refl _, fun _ _ _ => rfl⟩
theorem Onl.trans {S : Nat → Prop} {a b c : World} (h : Onl S a b) (k : Onl S b c) : Onl S a c :=
  ⟨k.os.trans h.os, k.tape.trans h.tape, k.output.trans h.output, Nat.le_trans h.size k.size, fun i hi hn => (k.block i (Nat.lt_of_lt_of_le hi h.size) hn).trans (h.block i hi hn)⟩
theorem Onl.set {S : Nat → Prop} (w : World) {g : Nat} (hg : S g) (i : Nat) (u : Value) : Onl S w (w.setCell ⟨g, i, none⟩ u) :=
  ⟨rfl, rfl, rfl, by simp [World.setCell], fun k _ hn => heap_setCell_other w ⟨g, i, none⟩ k u (fun e => hn (by rw [e]; exact hg))⟩
theorem Onl.bel {S : Nat → Prop} {w w' : World} (h : Below w.heap.size w w') : Onl S w w' := ⟨h.os, h.tape, h.output, h.size, fun k hk _ => h.block k hk⟩
theorem Onl.below {S : Nat → Prop} {w w' : World} {B : Nat} (h : Onl S w w') (hB : B ≤ w.heap.size) (hS : ∀ k, S k → B ≤ k) : Below B w w' :=
  ⟨h.os, h.tape, h.output, h.size, fun k hk => h.block k (by omega) (fun hs => by have := hS k hs; omega)⟩
theorem Onl.mono {S S' : Nat → Prop} {w w' : World} (h : Onl S w w') (hs : ∀ k, S k → S' k) : Onl S' w w' := ⟨h.os, h.tape, h.output, h.size, fun k hk hn => h.block k hk fun hh => hn (hs k hh)⟩
theorem RowB.onl {S : Nat → Prop} {w w' : World} {g : Nat} {t : TypeId} {l : List Value} (h : RowB w g t l) (k : Onl S w w') (hg : ¬ S g) : RowB w' g t l := (k.block g h.lt hg).trans h
theorem own_onl {S : Nat → Prop} {w w' : World} {base e size n : Nat} {v : Value} {xs : List Value} (h : w.ownsRow base e size v n xs) (k : Onl S w w') (hg : ∀ g, v.ownBlock = some g → ¬ S g) : w'.ownsRow base e size v n xs := by
  refine ⟨h.1, ?_⟩
  rcases h.2 with h' | ⟨g, cap, cur, rfl, hb, hh, hr⟩
  · exact .inl h'
  · refine .inr ⟨g, cap, cur, rfl, hb, ?_, hr⟩
    have hlt := (h.lt g rfl).2
    exact (k.block g hlt (hg g rfl)).trans hh

/-- the slice v reads as the bools l, its block meets P -/
def BoolX (w : World) (P : Nat → Prop) (v : Value) (l : List Bool) : Prop :=
  ∃ A c, v = .slice A l.length c ∧ l.length ≤ c ∧ l.length ≤ 4194304 ∧ (0 < l.length → ∃ b off, A = some ⟨b, off, none⟩ ∧ P b ∧ b < w.heap.size ∧ ∀ j, j < l.length → w.cell? ⟨b, off + j, none⟩ = some (.bool (l.getD j false)))
theorem BoolX.frame {w w' : World} {P P' : Nat → Prop} {v : Value} {l : List Bool} (h : BoolX w P v l) (hs : w.heap.size ≤ w'.heap.size) (hk : ∀ b, P b → b < w.heap.size → P' b ∧ w'.heap[b]? = w.heap[b]?) : BoolX w' P' v l := by
  obtain ⟨A, c, e, h1, h2, h3⟩ := h
  refine ⟨A, c, e, h1, h2, fun hn => ?_⟩
  obtain ⟨b, off, e, hp, hb, hc⟩ := h3 hn
  have k := hk b hp hb
  exact ⟨b, off, e, k.1, by omega, fun j hj => (World.cell?_of_block (w := w) (a := ⟨b, off + j, none⟩) k.2).trans (hc j hj)⟩
theorem BoolX.bel {w w' : World} {P : Nat → Prop} {v : Value} {l : List Bool} (h : BoolX w P v l) (hb : Below w.heap.size w w') : BoolX w' P v l := h.frame hb.size fun b hp hl => ⟨hp, hb.block b hl⟩
theorem BoolX.imp {w : World} {P P' : Nat → Prop} {v : Value} {l : List Bool} (h : BoolX w P v l) (hp : ∀ b, P b → b < w.heap.size → P' b) : BoolX w P' v l := h.frame (Nat.le_refl _) fun b h1 h2 => ⟨hp b h1 h2, rfl⟩
theorem BoolX.toS {w : World} {P : Nat → Prop} {v : Value} {l : List Bool} (h : BoolX w P v l) : BoolS w w.heap.size v l := by
  obtain ⟨A, c, e, h1, h2, h3⟩ := h
  refine ⟨A, c, e, h1, h2, by simp, fun hn => ?_⟩
  obtain ⟨b, off, e, _, hb, hc⟩ := h3 hn
  refine ⟨b, off, e, hb, fun j u hu => ?_⟩
  have hj : j < l.length := by have := (List.getElem?_eq_some_iff.1 hu).1; simpa using this
  rw [hc j hj, ← hu, List.getElem?_map, List.getElem?_eq_getElem hj, getD_lt hj]; rfl
theorem RowB.toX {w : World} {g c : Nat} {l : List Bool} {P : Nat → Prop} (h : RowB w g 4 (bv l)) (hP : P g) (hl : l.length ≤ 4194304) (hc : l.length ≤ c) : BoolX w P (.slice (some ⟨g, 0, none⟩) l.length c) l :=
  ⟨_, _, rfl, hc, hl, fun _ => ⟨g, 0, rfl, hP, h.lt, fun j hj => by rw [Nat.zero_add, h.cell, bv_get hj]⟩⟩
theorem OBools.toX {w : World} {base : Nat} {v : Value} {l : List Bool} (h : OBools w base v l) (hl : l.length ≤ 4194304) : BoolX w (fun b => base ≤ b) v l := by
  obtain ⟨A, c, rfl, hc⟩ := h.slice
  refine ⟨A, c, rfl, hc, hl, fun hn => ?_⟩
  obtain ⟨g, e, hb, hlt, -⟩ := h.at_ hn
  subst e
  refine ⟨g, 0, rfl, hb, hlt, fun j hj => ?_⟩
  obtain ⟨g', e, -, -, -, hcj, -⟩ := h.at_ hj
  injection e with e
  injection e with e
  subst e
  rw [Nat.zero_add]; exact hcj
theorem BoolX.slice {w : World} {P : Nat → Prop} {v : Value} {l : List Bool} (h : BoolX w P v l) : ∃ A c, v = .slice A l.length c ∧ l.length ≤ c := by
  obtain ⟨A, c, e, h1, _⟩ := h
  exact ⟨A, c, e, h1⟩
theorem BoolX.at_ {w : World} {P : Nat → Prop} {A : Option Addr} {n c : Nat} {l : List Bool} (h : BoolX w P (.slice A n c) l) {k : Nat} (hk : k < l.length) : ∃ b off, A = some ⟨b, off, none⟩ ∧ P b ∧ b < w.heap.size ∧ n = l.length ∧ w.cell? ⟨b, off + k, none⟩ = some (.bool (l.getD k false)) := by
  obtain ⟨A', c', e, h1, h2, h3⟩ := h
  injection e with e1 e2 e3
  subst e1 e2
  obtain ⟨b, off, e, hp, hb, hc⟩ := h3 (by omega)
  exact ⟨b, off, e, hp, hb, rfl, hc k hk⟩

/-- the slice v reads as the rows -/
def RwX (w : World) (P : Nat → Prop) (v : Value) (rows : List (List Bool)) : Prop :=
  ∃ A c, ∃ rv : Nat → Value, v = .slice A rows.length c ∧ rows.length ≤ c ∧ (0 < rows.length → ∃ b off, A = some ⟨b, off, none⟩ ∧ P b ∧ b < w.heap.size ∧ ∀ i, i < rows.length → w.cell? ⟨b, off + i, none⟩ = some (rv i)) ∧
    ∀ i, i < rows.length → BoolX w P (rv i) (rows.getD i [])
theorem RwX.frame {w w' : World} {P P' : Nat → Prop} {v : Value} {l : List (List Bool)} (h : RwX w P v l) (hs : w.heap.size ≤ w'.heap.size) (hk : ∀ b, P b → b < w.heap.size → P' b ∧ w'.heap[b]? = w.heap[b]?) : RwX w' P' v l := by
  obtain ⟨A, c, rv, e, h1, h2, h3⟩ := h
  refine ⟨A, c, rv, e, h1, fun hn => ?_, fun i hi => (h3 i hi).frame hs hk⟩
  obtain ⟨b, off, e, hp, hb, hc⟩ := h2 hn
  have k := hk b hp hb
  exact ⟨b, off, e, k.1, by omega, fun j hj => (World.cell?_of_block (w := w) (a := ⟨b, off + j, none⟩) k.2).trans (hc j hj)⟩
theorem RwX.bel {w w' : World} {P : Nat → Prop} {v : Value} {l : List (List Bool)} (h : RwX w P v l) (hb : Below w.heap.size w w') : RwX w' P v l := h.frame hb.size fun b hp hl => ⟨hp, hb.block b hl⟩
theorem RwX.onl {S : Nat → Prop} {w w' : World} {P : Nat → Prop} {v : Value} {l : List (List Bool)} (h : RwX w P v l) (hb : Onl S w w') (hP : ∀ b, P b → ¬ S b) : RwX w' P v l := h.frame hb.size fun b hp hl => ⟨hp, hb.block b hl (hP b hp)⟩
theorem RwX.slice {w : World} {P : Nat → Prop} {v : Value} {l : List (List Bool)} (h : RwX w P v l) : ∃ A c, v = .slice A l.length c ∧ l.length ≤ c := by
  obtain ⟨A, c, rv, e, h1, _⟩ := h
  exact ⟨A, c, e, h1⟩
theorem RwX.at_ {w : World} {P : Nat → Prop} {A : Option Addr} {n c : Nat} {l : List (List Bool)} (h : RwX w P (.slice A n c) l) {i : Nat} (hi : i < l.length) :
    ∃ b off rv, A = some ⟨b, off, none⟩ ∧ P b ∧ b < w.heap.size ∧ n = l.length ∧ w.cell? ⟨b, off + i, none⟩ = some rv ∧ BoolX w P rv (l.getD i []) := by
  obtain ⟨A', c', rv, e, h1, h2, h3⟩ := h
  injection e with e1 e2 e3
  subst e1 e2
  obtain ⟨b, off, e, hp, hb, hc⟩ := h2 (by omega)
  exact ⟨b, off, rv i, e, hp, hb, rfl, hc i hi, h3 i hi⟩
theorem BRow.toX {w : World} {base m : Nat} {v : Value} {rb : List Nat} {rows : List (List Bool)} (h : BRow w base v rb m rows) (hm : ∀ i, i < rows.length → (rows.getD i []).length = m) (hm2 : m ≤ 4194304) : RwX w (fun b => base ≤ b) v rows := by
  obtain ⟨A, c, rfl, hc⟩ := h.slice
  refine ⟨A, c, fun i => .slice (some ⟨rb.getD i 0, 0, none⟩) m m, rfl, hc, fun hn => ?_, fun i hi => ?_⟩
  · obtain ⟨g, c', e, hb, hlt, -, hcell, -⟩ := h.form hn
    injection e with e1 _ e2
    subst e1 e2
    exact ⟨g, 0, rfl, hb, hlt, fun i hi => by rw [Nat.zero_add]; exact hcell i hi⟩
  · have hr := h.row i hi
    have := RowB.toX (P := fun b => base ≤ b) (c := m) hr.1 hr.2 (by rw [hm i hi]; exact hm2) (by rw [hm i hi]; exact Nat.le_refl _)
    rw [hm i hi] at this
    exact this

/-- rows that a call owns, in whatever slices -/
structure ORw (w : World) (base : Nat) (v : Value) (vs : List Value) (rows : List (List Bool)) : Prop where
  own : w.ownsRow base 88 1 v rows.length vs
  len : vs.length = rows.length
  row : ∀ i, i < rows.length → OBools w base (vs.getD i (.slice none 0 0)) (rows.getD i [])
theorem ORw.empty (w : World) (base : Nat) (hb : base ≤ w.heap.size) : ORw (w.alloc (.cells #[] 88)) base (.slice (some ⟨w.heap.size, 0, none⟩) 0 0) [] [] :=
  ⟨World.ownsRow_lit (base := base) (e := 88) (size := 1) w #[] 0 hb (by simp [maxLen]) rfl, rfl, fun i h => by simp at h⟩
theorem ORw.slice {w : World} {base : Nat} {v : Value} {vs : List Value} {l : List (List Bool)} (h : ORw w base v vs l) : ∃ A c, v = .slice A l.length c ∧ l.length ≤ c := by
  rcases h.own.2 with ⟨rfl, h0⟩ | ⟨g, cap, cur, rfl, _, _, hc, _⟩
  · exact ⟨none, 0, by rw [h0], by omega⟩
  · exact ⟨_, cap, rfl, hc⟩
theorem ORw.bel {w w' : World} {base : Nat} {v : Value} {vs : List Value} {l : List (List Bool)} (h : ORw w base v vs l) (hb : Below w.heap.size w w') : ORw w' base v vs l :=
  ⟨h.own.kept (grown_bel hb (Nat.le_refl _) none) (by cases v.ownBlock <;> simp), h.len, fun i hi => (h.row i hi).bel hb⟩
theorem ORw.at_ {w : World} {base : Nat} {A : Option Addr} {n c : Nat} {vs : List Value} {l : List (List Bool)} (h : ORw w base (.slice A n c) vs l) {k : Nat} (hk : k < l.length) :
    ∃ g, A = some ⟨g, 0, none⟩ ∧ base ≤ g ∧ g < w.heap.size ∧ n = l.length ∧ w.cell? ⟨g, k, none⟩ = some (vs.getD k (.slice none 0 0)) ∧ w.frozen? ⟨g, k, none⟩ = false := by
  obtain ⟨A', c', e, _⟩ := h.slice
  injection e with _ e2 _
  subst e2
  obtain ⟨g, cap, e, hb, hlt⟩ := World.ownsRow.form h.own (by omega)
  injection e with e1 _ e3
  subst e1 e3
  refine ⟨g, rfl, hb, hlt, rfl, ?_, h.own.frozenAt k⟩
  have hkl : k < vs.length := by rw [h.len]; exact hk
  rw [h.own.cellAt k (by omega), List.getElem?_eq_getElem hkl, getD_lt hkl]
theorem ORw.set {w : World} {base g n c k : Nat} {vs : List Value} {l : List (List Bool)} {x : Value} {r : List Bool} (h : ORw w base (.slice (some ⟨g, 0, none⟩) n c) vs l) (hk : k < l.length) (hx : OBools w base x r) : ORw (w.setCell ⟨g, k, none⟩ x) base (.slice (some ⟨g, 0, none⟩) n c) (vs.set k x) (l.set k r) := by
  have hn : n = l.length := by
    obtain ⟨A, c', e, _⟩ := h.slice
    injection e
  subst hn
  have h1 := World.ownsRow.stored h.own k x
  have hev := Evo.grown (T := 88) h.own h1.2
  have hkeep : ∀ {v : Value} {r : List Bool}, OBools w base v r → OBools (w.setCell ⟨g, k, none⟩ x) base v r := fun hv => hev.own hv (by decide)
  refine ⟨by rw [List.length_set]; exact h1.1, by rw [List.length_set, List.length_set, h.len], fun i hi => ?_⟩
  rw [List.length_set] at hi
  rw [getD_setT (by rw [h.len]; exact hk), getD_setT hk]
  by_cases e : i = k
  · rw [if_pos e, if_pos e]; exact hkeep hx
  · rw [if_neg e, if_neg e]; exact hkeep (h.row i hi)
theorem ORw.toX {w : World} {base : Nat} {v : Value} {vs : List Value} {rows : List (List Bool)} (h : ORw w base v vs rows) (hl : ∀ i, i < rows.length → (rows.getD i []).length ≤ 4194304) : RwX w (fun b => base ≤ b) v rows := by
  obtain ⟨A, c, rfl, hc⟩ := h.slice
  refine ⟨A, c, fun i => vs.getD i (.slice none 0 0), rfl, hc, fun hn => ?_, fun i hi => (h.row i hi).toX (hl i hi)⟩
  obtain ⟨g, e, hb, hlt, -⟩ := h.at_ hn
  subst e
  refine ⟨g, 0, rfl, hb, hlt, fun i hi => ?_⟩
  obtain ⟨g', e, -, -, -, hcell, -⟩ := h.at_ hi
  injection e with e
  injection e with e
  subst e
  rw [Nat.zero_add]; exact hcell
end Go.Proofs.Ytidlifijgooceaa

/- impl.graphOf once more: without a graph it answers nil. -/
namespace Go.Proofs.Ytidlifijgooceaa
open Go.RowKit

end Go.Proofs.Ytidlifijgooceaa
