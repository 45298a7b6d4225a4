import Derived.Below
import Derived.WalkKit
import Derived.WalkSpells
import Derived.WalkLawsBesides
import Derived.BigQuiet
import Derived.Deep.QuietTactic
import Derived.Deep.Draws
import Derived.Lib.Hide
import Derived.Test.YtfioaohadanjmaaDoorProg
import Derived.Maps.AppendAt
import Derived.Deep.AppendLies
set_option linter.unusedVariables false

/- Plain functions that say what the small Go functions compute. No program in sight. -/
namespace Go.Proofs.YtfioaohadanjmaaDoor

theorem getD_lt {α : Type} {l : List α} {i : Nat} {d : α} (h : i < l.length) : l.getD i d = l[i] := by simp [List.getD, h]
theorem getD_ge {α : Type} {l : List α} {i : Nat} {d : α} (h : l.length ≤ i) : l.getD i d = d := by simp [List.getD, h]

/-- a point -/
structure Pt where
  op : Int
  x : Int
  y : Int
  n : Int
  next : List Nat
  deriving DecidableEq
/-- a statement -/
inductive St where
  | mk (op x y n : Int) (th el : List St)
def St.op : St → Int | .mk a _ _ _ _ _ => a
def St.x : St → Int | .mk _ a _ _ _ _ => a
def St.y : St → Int | .mk _ _ a _ _ _ => a
def St.n : St → Int | .mk _ _ _ a _ _ => a
def St.th : St → List St | .mk _ _ _ _ a _ => a
def St.el : St → List St | .mk _ _ _ _ _ a => a
mutual
/-- the number of statements of a statement -/
def St.sz : St → Nat
  | .mk _ _ _ _ th el => 1 + szL th + szL el
def szL : List St → Nat
  | [] => 0
  | s :: r => s.sz + szL r
end
theorem szL_append (a b : List St) : szL (a ++ b) = szL a + szL b := by
  induction a with
  | nil => simp [szL]
  | cons s r ih => simp [szL, ih]; omega
theorem szL_mem {l : List St} {k : Nat} (h : k < l.length) : (l[k]).sz ≤ szL l := by
  induction l generalizing k with
  | nil => simp at h
  | cons s r ih =>
    cases k with
    | zero => simp [szL]
    | succ k => simp [szL]; have := ih (k := k) (by simpa using h); omega
theorem St.sz_eq (s : St) : s.sz = 1 + szL s.th + szL s.el := by cases s; simp [St.sz, St.th, St.el]
theorem len_le_szL (l : List St) : l.length ≤ szL l := by
  induction l with
  | nil => simp [szL]
  | cons s r ih => have := s.sz_eq; simp [szL]; omega

def withinP (n lo hi : Int) : Bool := decide (lo ≤ n) && decide (n ≤ hi)
def isRefP (t : Int) : Bool := t == 3 || t == 4
def isHolderP (t : Int) : Bool := t == 2 || isRefP t
def isBranchP (op : Int) : Bool := op == 9 || op == 10
def typeOfP (ts : List Int) (v : Int) : Int := if 0 ≤ v then ts.getD v.toNat 0 else 0
/-- what a point (op x y) does with the variable v -/
def useP (ts : List Int) (op x y v : Int) : Int :=
  if op = 3 then (if v = y then (if typeOfP ts v = 2 ∨ typeOfP ts v = 4 then 2 else 1) else 0)
  else if op = 4 ∨ op = 5 ∨ op = 6 then (if v = y then 3 else 0)
  else if op = 7 then (if v = x then 3 else if v = y then 1 else 0)
  else if op = 8 then (if v = x then 2 else 0)
  else 0
/-- a statement that is no branch is one for variables of these types; its lists are looked at elsewhere -/
def simpleP (ts : List Int) (op x y n : Int) : Bool :=
  if op = 1 then typeOfP ts x == 1 && y == 0 && (decide (0 ≤ n) && decide (n ≤ 9))
  else if op = 2 then typeOfP ts x == 2 && y == 0 && (decide (0 ≤ n) && decide (n ≤ 9))
  else if n ≠ 0 then false
  else if op = 3 then typeOfP ts x == typeOfP ts y && typeOfP ts x != 0 && x != y
  else if op = 4 then typeOfP ts x == 3 && isHolderP (typeOfP ts y) && x != y
  else if op = 5 then typeOfP ts x == 4 && (typeOfP ts y == 2 || typeOfP ts y == 4) && x != y
  else if op = 6 then typeOfP ts x == 1 && isHolderP (typeOfP ts y)
  else if op = 7 then (typeOfP ts x == 2 || typeOfP ts x == 4) && typeOfP ts y == 1
  else if op = 8 then typeOfP ts x == 2 && y == 0
  else false
def tsOkP (ts : List Int) : Bool := decide (ts.length ≤ 6) && ts.all (fun t => decide (1 ≤ t) && decide (t ≤ 4))
theorem typeOf_range {ts : List Int} (h : tsOkP ts = true) (v : Int) : 0 ≤ typeOfP ts v ∧ typeOfP ts v ≤ 4 := by
  unfold typeOfP
  split
  · simp only [tsOkP, Bool.and_eq_true, List.all_eq_true, decide_eq_true_eq] at h
    by_cases hv : v.toNat < ts.length
    · have := h.2 (ts.getD v.toNat 0) (by rw [getD_lt hv]; exact List.getElem_mem hv)
      omega
    · rw [getD_ge (by omega)]; omega
  · omega
theorem holder_ge {t : Int} (h0 : 0 ≤ t) (h1 : t ≤ 4) : isHolderP t = decide (2 ≤ t) := by
  unfold isHolderP isRefP
  rcases (show t = 0 ∨ t = 1 ∨ t = 2 ∨ t = 3 ∨ t = 4 by omega) with h | h | h | h | h <;> subst h <;> rfl
def setsP (op x : Int) : Int := if 1 ≤ op ∧ op ≤ 6 then x else -1

theorem ret_int {k : IntKind} {a b : Int} (h : a = b) : Ending.returned (.int k a) = .returned (.int k b) := by rw [h]
theorem ret_bool {a b : Bool} (h : a = b) : Ending.returned (.bool a) = .returned (.bool b) := by rw [h]

theorem take_succ_get {α : Type} (l : List α) (k : Nat) (h : k < l.length) : l.take (k + 1) = l.take k ++ [l[k]] := by
  rw [List.take_succ_eq_append_getElem h]

end Go.Proofs.YtfioaohadanjmaaDoor

/- Words for memory: a slice that reads as a list of cells; a slice of ints. No program in sight. -/
namespace Go.Proofs.YtfioaohadanjmaaDoor
open Go.RowKit

/-- The slice at A of n elements of 'size' cells each reads as the cells xs, all below block B. -/
def Rd (w : World) (B size : Nat) (A : Option Addr) (n : Nat) (xs : List Value) : Prop :=
  xs.length = n * size ∧ (0 < n → ∃ b off, A = some ⟨b, off, none⟩ ∧ b < B ∧ ∀ j u, xs[j]? = some u → w.cell? ⟨b, off + j, none⟩ = some u)

theorem Rd.nil {w : World} {B size : Nat} {A : Option Addr} : Rd w B size A 0 [] := ⟨by simp, fun h => absurd h (by omega)⟩
theorem Rd.keep {w w' : World} {B size n : Nat} {A : Option Addr} {xs : List Value} (h : Rd w B size A n xs) (hk : ∀ b o, b < B → w'.cell? ⟨b, o, none⟩ = w.cell? ⟨b, o, none⟩) : Rd w' B size A n xs :=
  ⟨h.1, fun hn => by
    obtain ⟨b, off, e, hb, hc⟩ := h.2 hn
    exact ⟨b, off, e, hb, fun j u hu => (hk _ _ hb).trans (hc j u hu)⟩⟩
theorem Rd.more {w : World} {B B' size n : Nat} {A : Option Addr} {xs : List Value} (h : Rd w B size A n xs) (hB : B ≤ B') : Rd w B' size A n xs :=
  ⟨h.1, fun hn => by
    obtain ⟨b, off, e, hb, hc⟩ := h.2 hn
    exact ⟨b, off, e, by omega, hc⟩⟩
theorem Rd.low {w w' : World} {B B' size n : Nat} {A : Option Addr} {xs : List Value} (h : Rd w B size A n xs) (hb : Below B' w w') (hB : B ≤ B') : Rd w' B size A n xs :=
  h.keep fun b o hlt => hb.cell (p := ⟨b, o, none⟩) (by show b < B'; omega)

/-- The slice value v reads as the ints l. -/
def IntS (w : World) (B : Nat) (v : Value) (l : List Int) : Prop :=
  ∃ A c, v = .slice A l.length c ∧ l.length ≤ c ∧ l.length ≤ 4194304 ∧ Rd w B 1 A l.length (l.map (.int .i64))

theorem IntS.low {w w' : World} {B B' : Nat} {v : Value} {l : List Int} (h : IntS w B v l) (hb : Below B' w w') (hB : B ≤ B') : IntS w' B v l := by
  obtain ⟨A, c, e, h1, h2, h3⟩ := h
  exact ⟨A, c, e, h1, h2, h3.low hb hB⟩
theorem IntS.more {w : World} {B B' : Nat} {v : Value} {l : List Int} (h : IntS w B v l) (hB : B ≤ B') : IntS w B' v l := by
  obtain ⟨A, c, e, h1, h2, h3⟩ := h
  exact ⟨A, c, e, h1, h2, h3.more hB⟩
/-- One element, for a walk. -/
theorem Rd.int_at {w : World} {B : Nat} {A : Option Addr} {l : List Int} (h : Rd w B 1 A l.length (l.map (.int .i64))) {k : Nat} (hk : k < l.length) :
    ∃ b off, A = some ⟨b, off, none⟩ ∧ b < B ∧ ∀ j, j < l.length → w.cell? ⟨b, off + j, none⟩ = some (.int .i64 (l.getD j 0)) := by
  obtain ⟨b, off, e, hb, hc⟩ := h.2 (by omega)
  refine ⟨b, off, e, hb, fun j hj => hc j _ ?_⟩
  rw [List.getElem?_map, List.getElem?_eq_getElem hj]
  simp [List.getD, hj]

/-- One element of a slice of ints, at an Int index, for a walk. -/
theorem IntS.get {w : World} {B : Nat} {v : Value} {l : List Int} (h : IntS w B v l) {i : Int} (h0 : 0 ≤ i) (h1 : i < l.length) :
    ∃ b off c, v = .slice (some ⟨b, off, none⟩) l.length c ∧ b < B ∧ l.length ≤ c ∧ l.length ≤ 4194304 ∧ w.cell? ⟨b, off + i.toNat, none⟩ = some (.int .i64 (typeOfP l i)) := by
  obtain ⟨A, c, e, h1', h2, h3⟩ := h
  have hlt : i.toNat < l.length := by omega
  obtain ⟨b, off, rfl, hb, hc⟩ := h3.int_at hlt
  exact ⟨b, off, c, e, hb, h1', h2, by rw [hc _ hlt, typeOfP, if_pos h0]⟩

/-- The slice value v reads as the statements l, at every depth. -/
inductive StS (w : World) (B : Nat) : Value → List St → Prop where
  | mk (A : Option Addr) (c : Nat) (l : List St) (tv ev : Nat → Value) (hc : l.length ≤ c)
      (hr : 0 < l.length → ∃ b off, A = some ⟨b, off, none⟩ ∧ b < B ∧ ∀ i (h : i < l.length),
        w.cell? ⟨b, off + i * 6, none⟩ = some (.int .i64 l[i].op) ∧ w.cell? ⟨b, off + i * 6 + 1, none⟩ = some (.int .i64 l[i].x) ∧
        w.cell? ⟨b, off + i * 6 + 2, none⟩ = some (.int .i64 l[i].y) ∧ w.cell? ⟨b, off + i * 6 + 3, none⟩ = some (.int .i64 l[i].n) ∧
        w.cell? ⟨b, off + i * 6 + 4, none⟩ = some (tv i) ∧ w.cell? ⟨b, off + i * 6 + 5, none⟩ = some (ev i))
      (ht : ∀ i (h : i < l.length), StS w B (tv i) l[i].th) (he : ∀ i (h : i < l.length), StS w B (ev i) l[i].el) : StS w B (.slice A l.length c) l

theorem IntS.drewN {w : World} {B : Nat} {v : Value} {l : List Int} (h : IntS w B v l) (n : Nat) : IntS (w.drewN n) B v l := h
theorem StS.keep {w w' : World} {B : Nat} {v : Value} {l : List St} (h : StS w B v l) (hk : ∀ b o, b < B → w'.cell? ⟨b, o, none⟩ = w.cell? ⟨b, o, none⟩) : StS w' B v l := by
  induction h with
  | mk A c l tv ev hc hr ht he iht ihe =>
    refine .mk A c l tv ev hc (fun hn => ?_) iht ihe
    obtain ⟨b, off, e, hb, hcell⟩ := hr hn
    exact ⟨b, off, e, hb, fun i hi => by simp only [hk _ _ hb]; exact hcell i hi⟩
theorem StS.more {w : World} {B B' : Nat} {v : Value} {l : List St} (h : StS w B v l) (hB : B ≤ B') : StS w B' v l := by
  induction h with
  | mk A c l tv ev hc hr ht he iht ihe =>
    refine .mk A c l tv ev hc (fun hn => ?_) iht ihe
    obtain ⟨b, off, e, hb, hcell⟩ := hr hn
    exact ⟨b, off, e, by omega, hcell⟩
theorem StS.low {w w' : World} {B B' : Nat} {v : Value} {l : List St} (h : StS w B v l) (hb : Below B' w w') (hB : B ≤ B') : StS w' B v l :=
  h.keep fun b o hlt => hb.cell (p := ⟨b, o, none⟩) (by show b < B'; omega)
theorem StS.slice {w : World} {B : Nat} {v : Value} {l : List St} (h : StS w B v l) : ∃ A c, v = .slice A l.length c ∧ l.length ≤ c := by
  cases h with
  | mk A c l tv ev hc hr ht he => exact ⟨A, c, rfl, hc⟩
/-- One statement of a slice, for a walk. -/
theorem StS.get {w : World} {B : Nat} {A : Option Addr} {n c : Nat} {l : List St} (h : StS w B (.slice A n c) l) {k : Nat} (hk : k < l.length) :
    ∃ b off tv ev, A = some ⟨b, off, none⟩ ∧ b < B ∧ StS w B tv l[k].th ∧ StS w B ev l[k].el ∧
        w.cell? ⟨b, off + k * 6, none⟩ = some (.int .i64 l[k].op) ∧ w.cell? ⟨b, off + k * 6 + 1, none⟩ = some (.int .i64 l[k].x) ∧
        w.cell? ⟨b, off + k * 6 + 2, none⟩ = some (.int .i64 l[k].y) ∧ w.cell? ⟨b, off + k * 6 + 3, none⟩ = some (.int .i64 l[k].n) ∧
        w.cell? ⟨b, off + k * 6 + 4, none⟩ = some tv ∧ w.cell? ⟨b, off + k * 6 + 5, none⟩ = some ev := by
  cases h with
  | mk A c l tv ev hc hr ht he =>
    obtain ⟨b, off, e, hb, hcell⟩ := hr (by omega)
    obtain ⟨h0, h1, h2, h3, h4, h5⟩ := hcell k hk
    exact ⟨b, off, tv k, ev k, e, hb, ht k hk, he k hk, h0, h1, h2, h3, h4, h5⟩

theorem quiet_left {P : Program} {f : FuncId} {args : Array Value} {w : World} {n : Nat} {v : Value}
    (h : Calls P f args (w.drewN n) fun e w' => e = .returned v ∧ w.drewN n = w') : Calls P f args (w.drewN n) fun e w'' => e = .returned v ∧ ∃ m, w'' = w.drewN m :=
  h.mono fun _ _ ⟨he, hm⟩ => ⟨he, n, hm.symm⟩
theorem below_of_drewN {w w' : World} (h : ∃ n, w' = w.drewN n) (B : Nat) : Below B w w' := by
  obtain ⟨n, rfl⟩ := h
  exact ⟨rfl, rfl, rfl, Nat.le_refl _, fun _ _ => rfl⟩

theorem Below.drN {B : Nat} {a w : World} (h : Below B a w) (n : Nat) : Below B a (w.drewN n) := h.trans (below_of_drewN ⟨n, rfl⟩ B)
theorem bel_a (w : World) (o : Obj) : Below w.heap.size w (w.alloc o) := (Below.refl _ _).alloc (Nat.le_refl _) o
theorem bel_ad (w : World) (o : Obj) (n : Nat) : Below w.heap.size w ((w.alloc o).drewN n) := Below.drN (bel_a w o) n

end Go.Proofs.YtfioaohadanjmaaDoor

/- More words for memory. No program in sight. -/
namespace Go.Proofs.YtfioaohadanjmaaDoor
open Go.RowKit

/-- A box of the call's own behind a call that leaves old memory alone. -/
theorem box_kept {w w1 : World} {cs : Array Value} {t : TypeId} {B : Nat} (h : Below B (w.alloc (.cells cs t)) w1) (hB : w.heap.size < B) (i : Nat) : w1.cell? ⟨w.heap.size, i, none⟩ = cs[i]? := by
  rw [h.cell (p := ⟨w.heap.size, i, none⟩) hB]
  exact cell_of_row _ _ _ _ _ _ (heap_alloc_new w _)
theorem IntS.keep {w w' : World} {B : Nat} {v : Value} {l : List Int} (h : IntS w B v l) (hk : ∀ b o, b < B → w'.cell? ⟨b, o, none⟩ = w.cell? ⟨b, o, none⟩) : IntS w' B v l := by
  obtain ⟨A, c, e, h1, h2, h3⟩ := h
  exact ⟨A, c, e, h1, h2, h3.keep hk⟩
theorem grown_set (w : World) (g o : Nat) (u : Value) : w.grownBy (w.setCell ⟨g, o, none⟩ u) (some g) :=
  ⟨rfl, rfl, rfl, by simp [World.setCell], fun k _ hne => Below.heap_setCell w ⟨g, o, none⟩ u k (fun e => hne (by rw [e]))⟩
theorem grown_tr {a b c : World} {row : Option Nat} (h : a.grownBy b row) (k : b.grownBy c row) : a.grownBy c row :=
  ⟨k.os.trans h.os, k.tape.trans h.tape, k.output.trans h.output, Nat.le_trans h.size k.size, fun i hi hne => (k.block i (Nat.lt_of_lt_of_le hi h.size) hne).trans (h.block i hi hne)⟩
theorem grown_bel {a w : World} {B : Nat} (h : Below B a w) (hB : a.heap.size ≤ B) (row : Option Nat) : a.grownBy w row :=
  ⟨h.os, h.tape, h.output, h.size, fun k hk _ => h.block k (by omega)⟩
theorem grown_keep {w w' : World} {g B : Nat} (h : w.grownBy w' (some g)) (hB : B ≤ g) (hg : g < w.heap.size) : ∀ b o, b < B → w'.cell? ⟨b, o, none⟩ = w.cell? ⟨b, o, none⟩ :=
  fun b o hb => World.cell?_of_block (w := w) (a := ⟨b, o, none⟩) (h.block b (by omega) (fun e => by injection e with e; omega))
/-- below g all is as it was -/
theorem grown_below {w w' : World} {g : Nat} (h : w.grownBy w' (some g)) (hg : g < w.heap.size) : Below g w w' :=
  ⟨h.os, h.tape, h.output, h.size, fun k hk => h.block k (by omega) (fun e => by injection e with e; omega)⟩

theorem box_grown {w w1 : World} {cs : Array Value} {t : TypeId} {g N : Nat} (h : (w.alloc (.cells cs t)).grownBy w1 (some g)) (hg : g < w.heap.size) (hN : N = w.heap.size) (i : Nat) : w1.cell? ⟨N, i, none⟩ = cs[i]? := by
  subst hN
  rw [World.cell?_of_block (w := w.alloc (.cells cs t)) (a := ⟨w.heap.size, i, none⟩) (h.block w.heap.size (by simp) (fun e => by injection e with e; omega))]
  exact cell_of_row _ _ _ _ _ _ (heap_alloc_new w _)
theorem size_set (w : World) (a : Addr) (u : Value) : (w.setCell a u).heap.size = w.heap.size := by simp [World.setCell]

end Go.Proofs.YtfioaohadanjmaaDoor

/- Plain: when a program is valid. No program in sight. -/
namespace Go.Proofs.YtfioaohadanjmaaDoor

mutual
/-- a statement is right, with at most d branches in each other -/
def stOk (ts : List Int) : Nat → St → Bool
  | d, .mk op x y n th el =>
    if isBranchP op then decide (1 ≤ d) && (x == 0 && y == 0 && n == 0) && (op != 10 || el.isEmpty) && slOk ts (d - 1) th && slOk ts (d - 1) el
    else th.isEmpty && el.isEmpty && simpleP ts op x y n
def slOk (ts : List Int) : Nat → List St → Bool
  | _, [] => true
  | d, s :: r => stOk ts d s && slOk ts d r
end
theorem slOk_append (ts : List Int) (d : Nat) (a b : List St) : slOk ts d (a ++ b) = (slOk ts d a && slOk ts d b) := by
  induction a with
  | nil => simp [slOk]
  | cons s r ih => simp [slOk, ih, Bool.and_assoc]
theorem slOk_mem {ts : List Int} {d : Nat} {l : List St} (h : slOk ts d l = true) {k : Nat} (hk : k < l.length) : stOk ts d l[k] = true := by
  induction l generalizing k with
  | nil => simp at hk
  | cons s r ih =>
    simp only [slOk, Bool.and_eq_true] at h
    cases k with
    | zero => exact h.1
    | succ k => exact ih h.2 (by simpa using hk)
theorem slOk_not {ts : List Int} {d : Nat} {l : List St} {k : Nat} (hk : k < l.length) (h : stOk ts d l[k] = false) : slOk ts d l = false :=
  Bool.eq_false_iff.2 fun hh => by rw [slOk_mem hh hk] at h; cases h
theorem St.eta (s : St) : s = .mk s.op s.x s.y s.n s.th s.el := by cases s; rfl
theorem stOk_eq (ts : List Int) (d : Nat) (s : St) : stOk ts d s = if isBranchP s.op then decide (1 ≤ d) && (s.x == 0 && s.y == 0 && s.n == 0) && (s.op != 10 || s.el.isEmpty) && slOk ts (d - 1) s.th && slOk ts (d - 1) s.el
    else s.th.isEmpty && s.el.isEmpty && simpleP ts s.op s.x s.y s.n := by cases s; simp only [stOk, St.op, St.x, St.y, St.n, St.th, St.el]; rfl
theorem take_all {α : Type} {l : List α} {k : Nat} (h : k = l.length) : l.take k = l := by rw [h, List.take_length]

theorem scan_eq {ts : List Int} {d c : Nat} {s : St} (hd : 1 ≤ d) (ho : s.op = 9 ∨ s.op = 10) (hx : s.x = 0) (hy : s.y = 0) (hn : s.n = 0) (he : s.op = 10 → s.el = []) :
    (stOk ts d s && decide (c + s.sz ≤ 30)) = ((slOk ts (d - 1) s.th && decide (c + 1 + szL s.th ≤ 30)) && (slOk ts (d - 1) s.el && decide (c + 1 + szL s.th + szL s.el ≤ 30))) := by
  have hb : isBranchP s.op = true := by rcases ho with h | h <;> rw [h] <;> rfl
  have he' : (s.op != 10 || s.el.isEmpty) = true := by
    rcases ho with h | h
    · rw [h]; rfl
    · rw [he h]; simp
  rw [stOk_eq, hb, if_pos rfl, hx, hy, hn, he', s.sz_eq, decide_eq_true hd, Bool.eq_iff_iff]
  simp only [Bool.and_eq_true, decide_eq_true_eq, Bool.true_and, beq_self_eq_true]
  constructor
  · rintro ⟨⟨_, h2⟩, h3⟩; simp_all; omega
  · rintro ⟨⟨h1, h2⟩, h3, h4⟩; simp_all; omega
theorem scan_no {ts : List Int} {d c : Nat} {s : St} (ho : s.op = 9 ∨ s.op = 10) (h : ¬ (1 ≤ d ∧ s.x = 0 ∧ s.y = 0 ∧ s.n = 0 ∧ (s.op = 10 → s.el = []))) : (stOk ts d s && decide (c + s.sz ≤ 30)) = false := by
  have hb : isBranchP s.op = true := by rcases ho with h | h <;> rw [h] <;> rfl
  rw [stOk_eq, hb, if_pos rfl, Bool.eq_false_iff]
  intro hh
  simp only [Bool.and_eq_true, decide_eq_true_eq, beq_iff_eq, Bool.or_eq_true, bne_iff_ne, List.isEmpty_iff] at hh
  obtain ⟨⟨⟨⟨⟨h1, ⟨h2, h3⟩, h4⟩, h5⟩, _⟩, _⟩, _⟩ := hh
  exact h ⟨h1, h2, h3, h4, fun e => h5.resolve_left (fun ne => ne e)⟩

/-- the first place at which f says yes, or -1 -/
def idxP (f : Int → Bool) (l : List Int) : Int := if l.any f then (l.findIdx f : Int) else -1
theorem idxP_hit {f : Int → Bool} {l : List Int} {k : Nat} (hk : k < l.length) (hn : ∀ x ∈ l.take k, f x = false) (h : f l[k] = true) : idxP f l = k := by
  have hany : l.any f = true := List.any_eq_true.2 ⟨l[k], List.getElem_mem hk, h⟩
  unfold idxP
  rw [if_pos hany]
  have : l.findIdx f = k := by
    rw [List.findIdx_eq hk]
    refine ⟨h, fun j hj => ?_⟩
    exact hn _ (List.mem_take_iff_getElem.2 ⟨j, by omega, rfl⟩)
  rw [this]
theorem idxP_none {f : Int → Bool} {l : List Int} (hn : ∀ x ∈ l, f x = false) : idxP f l = -1 := by
  unfold idxP
  rw [if_neg]
  intro h
  obtain ⟨x, hx, hf⟩ := List.any_eq_true.1 h
  rw [hn x hx] at hf; cases hf
theorem idxP_ge (f : Int → Bool) (l : List Int) : decide (0 ≤ idxP f l) = l.any f := by
  unfold idxP
  cases h : l.any f
  · rfl
  · simp
/-- a program is valid -/
def validP (ts : List Int) (l : List St) : Bool := tsOkP ts && (slOk ts 4 l && decide (szL l ≤ 30))
/-- what spec.l1Count answers: the number of statements, or more than 'most' -/
def CountR (n most r : Nat) : Prop := (n ≤ most → r = n) ∧ (most < n → most < r ∧ r ≤ n)
theorem CountR.le {n most r : Nat} (h : CountR n most r) : r ≤ n := by
  rcases Nat.lt_or_ge most n with h1 | h1
  · exact (h.2 h1).2
  · rw [h.1 h1]; exact Nat.le_refl _
theorem CountR.dec {n most r : Nat} (h : CountR n most r) : decide (r ≤ most) = decide (n ≤ most) := by
  rcases Nat.lt_or_ge most n with h1 | h1
  · rw [decide_eq_false (by have := (h.2 h1).1; omega), decide_eq_false (by omega)]
  · rw [h.1 h1]
theorem szL_take_succ (l : List St) (k : Nat) (h : k < l.length) : szL (l.take (k + 1)) = szL (l.take k) + (1 + szL l[k].th + szL l[k].el) := by
  rw [take_succ_get l k h, szL_append, ← l[k].sz_eq]; simp [szL]
theorem szL_take_le (l : List St) (k : Nat) : szL (l.take k) ≤ szL l := by
  have := szL_append (l.take k) (l.drop k)
  rw [List.take_append_drop] at this; omega

end Go.Proofs.YtfioaohadanjmaaDoor

/- Plain: the points of a program. No program in sight. -/
namespace Go.Proofs.YtfioaohadanjmaaDoor

mutual
/-- the points of a statement, the first of which has the number 'at' -/
def ptsSt (at_ : Nat) : St → List Pt
  | .mk op x y n th el =>
    if op = 9 then
      ⟨9, 0, 0, 0, [at_ + 1, at_ + 1 + (ptsL (at_ + 1) th).length + 1]⟩ :: (ptsL (at_ + 1) th ++
        ⟨10, 0, 0, 1, [at_ + 1 + (ptsL (at_ + 1) th).length + 1 + (ptsL (at_ + 1 + (ptsL (at_ + 1) th).length + 1) el).length]⟩ :: ptsL (at_ + 1 + (ptsL (at_ + 1) th).length + 1) el)
    else if op = 10 then
      ⟨10, 0, 0, 0, [at_ + 1, at_ + 1 + (ptsL (at_ + 1) th).length + 1]⟩ :: (ptsL (at_ + 1) th ++ [⟨10, 0, 0, 1, [at_]⟩])
    else [⟨op, x, y, n, [at_ + 1]⟩]
def ptsL (at_ : Nat) : List St → List Pt
  | [] => []
  | s :: r => ptsSt at_ s ++ ptsL (at_ + (ptsSt at_ s).length) r
end
theorem ptsL_append (at_ : Nat) (a b : List St) : ptsL at_ (a ++ b) = ptsL at_ a ++ ptsL (at_ + (ptsL at_ a).length) b := by
  induction a generalizing at_ with
  | nil => simp [ptsL]
  | cons s r ih => simp [ptsL, ih, Nat.add_assoc]
theorem ptsL_take_succ (at_ : Nat) (l : List St) (k : Nat) (h : k < l.length) : ptsL at_ (l.take (k + 1)) = ptsL at_ (l.take k) ++ ptsSt (at_ + (ptsL at_ (l.take k)).length) l[k] := by
  rw [take_succ_get l k h, ptsL_append]; simp [ptsL]
theorem ptsSt_eq (at_ : Nat) (s : St) : ptsSt at_ s = if s.op = 9 then
      ⟨9, 0, 0, 0, [at_ + 1, at_ + 1 + (ptsL (at_ + 1) s.th).length + 1]⟩ :: (ptsL (at_ + 1) s.th ++
        ⟨10, 0, 0, 1, [at_ + 1 + (ptsL (at_ + 1) s.th).length + 1 + (ptsL (at_ + 1 + (ptsL (at_ + 1) s.th).length + 1) s.el).length]⟩ :: ptsL (at_ + 1 + (ptsL (at_ + 1) s.th).length + 1) s.el)
    else if s.op = 10 then
      ⟨10, 0, 0, 0, [at_ + 1, at_ + 1 + (ptsL (at_ + 1) s.th).length + 1]⟩ :: (ptsL (at_ + 1) s.th ++ [⟨10, 0, 0, 1, [at_]⟩])
    else [⟨s.op, s.x, s.y, s.n, [at_ + 1]⟩] := by cases s; simp only [ptsSt, St.op, St.x, St.y, St.n, St.th, St.el]; rfl
mutual
theorem ptsSt_le (at_ : Nat) : ∀ s : St, (ptsSt at_ s).length ≤ 2 * s.sz
  | .mk op x y n th el => by
    have h1 := fun a => ptsL_le a th
    have h2 := fun a => ptsL_le a el
    have h3 := h1 (at_ + 1)
    simp only [ptsSt, St.sz]
    split
    · have h4 := h2 (at_ + 1 + (ptsL (at_ + 1) th).length + 1)
      simp; omega
    · split
      · simp <;> omega
      · simp <;> omega
theorem ptsL_le (at_ : Nat) : ∀ l : List St, (ptsL at_ l).length ≤ 2 * szL l
  | [] => by simp [ptsL]
  | s :: r => by
    have h1 := ptsSt_le at_ s
    have h2 := ptsL_le (at_ + (ptsSt at_ s).length) r
    simp [ptsL, szL]; omega
end
/-- the points of a program -/
def ptsP (l : List St) : List Pt := ptsL 0 l ++ [⟨11, 0, 0, 0, []⟩]

theorem set_mid {α : Type} (a b : List α) (x y : α) : (a ++ x :: b).set a.length y = a ++ y :: b := by
  induction a with
  | nil => rfl
  | cons c a ih => simp [ih]
theorem get_mid {α : Type} (a b : List α) (x : α) : (a ++ x :: b)[a.length]? = some x := by simp
theorem patch_loop (cur th : List Pt) (a b x : Pt) : (cur ++ [a] ++ th ++ [b]).set cur.length x = cur ++ (x :: (th ++ [b])) := by
  have e1 : cur ++ [a] ++ th ++ [b] = cur ++ a :: (th ++ [b]) := by simp
  rw [e1, set_mid]
theorem get_if2 (cur th el : List Pt) (a b : Pt) : (cur ++ [a] ++ th ++ [b] ++ el)[cur.length + 1 + th.length]? = some b := by
  have e2 : cur ++ [a] ++ th ++ [b] ++ el = (cur ++ [a] ++ th) ++ b :: el := by simp
  have e3 : cur.length + 1 + th.length = (cur ++ [a] ++ th).length := by simp; omega
  rw [e2, e3, get_mid]
theorem patch_if (cur th el : List Pt) (a b : Pt) (x y : Pt) : ((cur ++ [a] ++ th ++ [b] ++ el).set cur.length x).set (cur.length + 1 + th.length) y = cur ++ (x :: (th ++ y :: el)) := by
  have e1 : cur ++ [a] ++ th ++ [b] ++ el = cur ++ a :: (th ++ b :: el) := by simp
  rw [e1, set_mid]
  have e2 : cur ++ x :: (th ++ b :: el) = (cur ++ [x] ++ th) ++ b :: el := by simp
  have e3 : cur.length + 1 + th.length = (cur ++ [x] ++ th).length := by simp; omega
  rw [e2, e3, set_mid]
  simp
mutual
theorem ptsSt_next (at_ : Nat) : ∀ s : St, ∀ p ∈ ptsSt at_ s, p.next.length ≤ 2 ∧ 1 ≤ p.next.length ∧ ∀ k ∈ p.next, k ≤ at_ + (ptsSt at_ s).length
  | .mk op x y n th el => by
    have h1 := ptsL_next (at_ + 1) th
    have h2 := ptsL_next (at_ + 1 + (ptsL (at_ + 1) th).length + 1) el
    intro p hp
    simp only [ptsSt] at hp ⊢
    split at hp
    · rename_i ho
      rw [if_pos ho]
      simp only [List.mem_cons, List.mem_append] at hp
      simp only [List.length_cons, List.length_append]
      rcases hp with rfl | hp | rfl | hp
      · simp <;> omega
      · have := h1 p hp; exact ⟨this.1, this.2.1, fun k hk => by have := this.2.2 k hk; omega⟩
      · simp <;> omega
      · have := h2 p hp; exact ⟨this.1, this.2.1, fun k hk => by have := this.2.2 k hk; omega⟩
    · rename_i ho
      rw [if_neg ho]
      split at hp
      · rename_i ho2
        rw [if_pos ho2]
        simp only [List.mem_cons, List.mem_append, List.not_mem_nil, or_false] at hp
        simp only [List.length_cons, List.length_append, List.length_nil]
        rcases hp with rfl | hp | rfl
        · simp <;> omega
        · have := h1 p hp; exact ⟨this.1, this.2.1, fun k hk => by have := this.2.2 k hk; omega⟩
        · simp <;> omega
      · rename_i ho2
        rw [if_neg ho2]
        simp only [List.mem_singleton] at hp
        subst hp
        simp
theorem ptsL_next (at_ : Nat) : ∀ l : List St, ∀ p ∈ ptsL at_ l, p.next.length ≤ 2 ∧ 1 ≤ p.next.length ∧ ∀ k ∈ p.next, k ≤ at_ + (ptsL at_ l).length
  | [] => by simp [ptsL]
  | s :: r => by
    have h1 := ptsSt_next at_ s
    have h2 := ptsL_next (at_ + (ptsSt at_ s).length) r
    intro p hp
    simp only [ptsL, List.mem_append] at hp
    simp only [ptsL, List.length_append]
    rcases hp with hp | hp
    · have := h1 p hp; exact ⟨this.1, this.2.1, fun k hk => by have := this.2.2 k hk; omega⟩
    · have := h2 p hp; exact ⟨this.1, this.2.1, fun k hk => by have := this.2.2 k hk; omega⟩
end
theorem ptsP_len (l : List St) : (ptsP l).length = (ptsL 0 l).length + 1 := by simp [ptsP]
theorem ptsP_pos (l : List St) : 0 < (ptsP l).length := by simp [ptsP]
theorem ptsP_next (l : List St) : ∀ p ∈ ptsP l, p.next.length ≤ 2 ∧ ∀ k ∈ p.next, k < (ptsP l).length := by
  intro p hp
  simp only [ptsP, List.mem_append, List.mem_singleton] at hp
  rw [ptsP_len]
  rcases hp with hp | rfl
  · have := ptsL_next 0 l p hp; exact ⟨this.1, fun k hk => by have := this.2.2 k hk; omega⟩
  · simp

end Go.Proofs.YtfioaohadanjmaaDoor

/- Words for points that a call makes: an owned row of points, each with an owned row of next ones; what may turn meanwhile. -/
namespace Go.Proofs.YtfioaohadanjmaaDoor
open Go.RowKit

/-- Below base nothing has turned; from base on only blocks of elements of type T may have, and there may be more blocks. -/
structure Evo (base : Nat) (T : TypeId) (w w' : World) : Prop where
  os : w'.os = w.os
  tape : w'.tape = w.tape
  output : w'.output = w.output
  size : w.heap.size ≤ w'.heap.size
  block : ∀ k, k < w.heap.size → (k < base ∨ ∀ cs fr, w.heap[k]? ≠ some (.cells cs T fr)) → w'.heap[k]? = w.heap[k]?

theorem Evo.refl (base : Nat) (T : TypeId) (w : World) : Evo base T w w := ⟨rfl, rfl, rfl, Nat.le_refl _, fun _ _ _ => rfl⟩
theorem Evo.trans {base : Nat} {T : TypeId} {a b c : World} (h : Evo base T a b) (k : Evo base T b c) : Evo base T a c :=
  ⟨k.os.trans h.os, k.tape.trans h.tape, k.output.trans h.output, Nat.le_trans h.size k.size, fun i hi hn => by
    have e := h.block i hi hn
    exact (k.block i (Nat.lt_of_lt_of_le hi h.size) (hn.imp id fun hn => by rw [e]; exact hn)).trans e⟩
theorem Evo.below {base : Nat} {T : TypeId} {w w' : World} (h : Evo base T w w') (hb : base ≤ w.heap.size) : Below base w w' :=
  ⟨h.os, h.tape, h.output, h.size, fun k hk => h.block k (by omega) (.inl hk)⟩
theorem Evo.of_below {base : Nat} {T : TypeId} {w w' : World} (h : Below w.heap.size w w') : Evo base T w w' :=
  ⟨h.os, h.tape, h.output, h.size, fun k hk _ => h.block k hk⟩
theorem Evo.alloc (base : Nat) (T : TypeId) (w : World) (o : Obj) : Evo base T w (w.alloc o) := .of_below (bel_a w o)
theorem Evo.grown {base : Nat} {T : TypeId} {w w' : World} {size : Nat} {v : Value} {n : Nat} {xs : List Value} (hown : w.ownsRow base T size v n xs) (hg : w.grownBy w' v.ownBlock) : Evo base T w w' :=
  ⟨hg.os, hg.tape, hg.output, hg.size, fun k hk hn => hg.block k hk (fun e => by
    rcases hn with hn | hn
    · have := (hown.lt k e.symm).1; omega
    · rcases hown.2 with ⟨rfl, _⟩ | ⟨g, cap, cur, rfl, _, hh, _⟩
      · simp [Value.ownBlock] at e
      · simp only [Value.ownBlock, Option.some.injEq] at e
        subst e
        exact hn _ _ hh)⟩
theorem Evo.own {base : Nat} {T : TypeId} {w w' : World} (h : Evo base T w w') {b' e : Nat} {size : Nat} {v : Value} {n : Nat} {xs : List Value} (hown : w.ownsRow b' e size v n xs) (hne : e ≠ T) : w'.ownsRow b' e size v n xs := by
  obtain ⟨h1, h2⟩ := hown
  refine ⟨h1, ?_⟩
  rcases h2 with h2 | ⟨g, cap, cur, hv, hb, hh, hr⟩
  · exact .inl h2
  · refine .inr ⟨g, cap, cur, hv, hb, ?_, hr⟩
    have hlt : g < w.heap.size := by
      rcases Nat.lt_or_ge g w.heap.size with hlt | hge
      · exact hlt
      · rw [Array.getElem?_eq_none hge] at hh; cases hh
    rw [h.block g hlt (.inr fun cs fr he => ?_)]
    · exact hh
    · rw [hh] at he; injection he with he; injection he with _ he; exact hne he
/-- a box of another type is kept -/
theorem Evo.box {base : Nat} {T t : TypeId} {w w' : World} {cs : Array Value} (h : Evo base T w w') {g : Nat} (hg : w.heap[g]? = some (.cells cs t (0, 0))) (hne : t ≠ T) : w'.heap[g]? = some (.cells cs t (0, 0)) := by
  have hlt : g < w.heap.size := by
    rcases Nat.lt_or_ge g w.heap.size with hlt | hge
    · exact hlt
    · rw [Array.getElem?_eq_none hge] at hg; cases hg
  rw [h.block g hlt (.inr fun cs' fr he => ?_)]
  · exact hg
  · rw [hg] at he; injection he with he; injection he with _ he; exact hne he

theorem Evo.boxCell {base : Nat} {T t : TypeId} {w w' : World} {cs : Array Value} {g : Nat} (h : Evo base T w w') (hg : w.heap[g]? = some (.cells cs t (0, 0))) (hne : t ≠ T) (i : Nat) : w'.cell? ⟨g, i, none⟩ = cs[i]? :=
  cell_of_row _ _ _ _ _ _ (h.box hg hne)

/-- the cells of points with these values in their Next -/
def ptCells : List Pt → List Value → List Value
  | [], _ => []
  | _ :: _, [] => []
  | p :: ps, nv :: nvs => .int .i64 p.op :: .int .i64 p.x :: .int .i64 p.y :: .int .i64 p.n :: nv :: ptCells ps nvs
theorem ptCells_append {ps : List Pt} {nvs : List Value} (h : nvs.length = ps.length) (ps' : List Pt) (nvs' : List Value) : ptCells (ps ++ ps') (nvs ++ nvs') = ptCells ps nvs ++ ptCells ps' nvs' := by
  induction ps generalizing nvs with
  | nil => cases nvs <;> simp_all [ptCells]
  | cons p ps ih =>
    cases nvs with
    | nil => simp at h
    | cons nv nvs => simp [ptCells, ih (by simpa using h)]
theorem ptCells_at {ps : List Pt} {nvs : List Value} (h : nvs.length = ps.length) {i : Nat} (hi : i < ps.length) :
    (ptCells ps nvs)[i * 5]? = some (.int .i64 ps[i].op) ∧ (ptCells ps nvs)[i * 5 + 1]? = some (.int .i64 ps[i].x) ∧ (ptCells ps nvs)[i * 5 + 2]? = some (.int .i64 ps[i].y) ∧
    (ptCells ps nvs)[i * 5 + 3]? = some (.int .i64 ps[i].n) ∧ (ptCells ps nvs)[i * 5 + 4]? = some (nvs[i]'(by omega)) := by
  induction ps generalizing nvs i with
  | nil => simp at hi
  | cons p ps ih =>
    cases nvs with
    | nil => simp at h
    | cons nv nvs =>
      cases i with
      | zero => simp [ptCells]
      | succ i =>
        have := ih (nvs := nvs) (i := i) (by simpa using h) (by simpa using hi)
        have e : ∀ j, (i + 1) * 5 + j = i * 5 + j + 5 := fun j => by omega
        have e0 : (i + 1) * 5 = i * 5 + 5 := by omega
        simp only [ptCells, e0, List.getElem?_cons_succ, List.getElem_cons_succ]
        exact this
theorem ptCells_set {ps : List Pt} {nvs : List Value} (h : nvs.length = ps.length) {i : Nat} (hi : i < ps.length) (u : Value) (nx : List Nat) :
    (ptCells ps nvs).set (i * 5 + 4) u = ptCells (ps.set i { ps[i] with next := nx }) (nvs.set i u) := by
  induction ps generalizing nvs i with
  | nil => simp at hi
  | cons p ps ih =>
    cases nvs with
    | nil => simp at h
    | cons nv nvs =>
      cases i with
      | zero => simp [ptCells]
      | succ i =>
        have := ih (nvs := nvs) (i := i) (by simpa using h) (by simpa using hi)
        have e : (i + 1) * 5 + 4 = i * 5 + 4 + 5 := by omega
        simp only [ptCells, e, List.set_cons_succ, List.getElem_cons_succ]
        rw [this]

/-- An owned row of points, each with an owned row of the next ones. -/
def PtsO (w : World) (base : Nat) (v : Value) (pts : List Pt) : Prop :=
  ∃ nvs : List Value, nvs.length = pts.length ∧ w.ownsRow base 25 5 v pts.length (ptCells pts nvs) ∧
    ∀ i (h : i < pts.length) (h' : i < nvs.length), w.ownsRow base 3 1 nvs[i] pts[i].next.length (pts[i].next.map fun k => .int .i64 (k : Nat))

theorem Tryd.infoPt : (Tryd.prog.info? 25).map (fun i => (i.zero, i.size, i.bytes)) = some (some (.agg #[.int .i64 0, .int .i64 0, .int .i64 0, .int .i64 0, .slice none 0 0]), 5, 56) := by kernel_rfl
theorem Tryd.infoInt : (Tryd.prog.info? 3).map (fun i => (i.zero, i.size, i.bytes)) = some (some (.int .i64 0), 1, 8) := by kernel_rfl

theorem PtsO.nil (w : World) (base : Nat) : PtsO w base (.slice none 0 0) [] := ⟨[], rfl, World.ownsRow_nil _ _ _ _, fun i h => by simp at h⟩
/-- memory of the call's own elsewhere -/
theorem PtsO.alloc {w : World} {base : Nat} {v : Value} {pts : List Pt} (h : PtsO w base v pts) (o : Obj) : PtsO (w.alloc o) base v pts := by
  obtain ⟨nvs, h1, h2, h3⟩ := h
  exact ⟨nvs, h1, h2.alloc o, fun i hi hi' => (h3 i hi hi').alloc o⟩
theorem PtsO.slice {w : World} {base : Nat} {v : Value} {pts : List Pt} (h : PtsO w base v pts) : ∃ A c, v = .slice A pts.length c ∧ pts.length ≤ c := by
  obtain ⟨nvs, h1, h2, h3⟩ := h
  rcases h2.2 with ⟨rfl, h0⟩ | ⟨g, cap, cur, rfl, _, _, hc, _⟩
  · exact ⟨none, 0, by rw [h0], by omega⟩
  · exact ⟨_, cap, rfl, hc⟩

/-- append(out, Point{..}) -/
theorem wpList_push_pt {ops : Array Oper} {rest : List Oper} {o : Oper} {a : Act} {Q : Exit → Act → World → Prop} {w : World} {base : Nat} {vo : Value} {pts : List Pt} (hgd : o.guard = none) (s x : Operand)
    (ho : o.op = .call { callee := .builtin .append, args := #[s, x], argTypes := #[32, 32] })
    (hP : PtsO w base vo pts) (hb : base ≤ w.heap.size) (hn : pts.length + 1 ≤ 8388608) (op px py pn : Int) (nv : Value) (next : List Nat)
    (hN : w.ownsRow base 3 1 nv next.length (next.map fun k => .int .i64 (k : Nat))) (h1c : nv.oneCell' = true)
    (hs : a.eval s = vo) (hx : a.eval x = .slice (some ⟨w.heap.size, 0, none⟩) 1 1)
    (h : ∀ v' w', PtsO w' base v' (pts ++ [⟨op, px, py, pn, next⟩]) → Evo base 25 (w.alloc (.cells #[.int .i64 op, .int .i64 px, .int .i64 py, .int .i64 pn, nv] 25)) w' → wpList Tryd.prog ops Q rest (a.put o.dst v') w') :
    wpList Tryd.prog ops Q (o :: rest) a (w.alloc (.cells #[.int .i64 op, .int .i64 px, .int .i64 py, .int .i64 pn, nv] 25)) := by
  obtain ⟨i0, hi0, hz0, hz1, hz2⟩ := info_parts Tryd.infoPt
  obtain ⟨nvs, h1, h2, h3⟩ := hP
  have hown := h2.alloc (.cells #[.int .i64 op, .int .i64 px, .int .i64 py, .int .i64 pn, nv] 25)
  refine wpList_append_own_at _ hgd s x 32 ho base 25 i0 _ 5 56 Tryd.underlying32 hi0 hz0 hz1 hz2 rfl (by omega) vo pts.length _ hs hown ⟨w.heap.size, 0, none⟩ 1 1 [.int .i64 op, .int .i64 px, .int .i64 py, .int .i64 pn, nv] hx rfl ?_ ?_ (by simp only [maxLen]; omega) (by omega) (by simp; omega) ?_
  · intro j u hu
    have : (w.alloc (.cells #[.int .i64 op, .int .i64 px, .int .i64 py, .int .i64 pn, nv] 25)).cell? ⟨w.heap.size, j, none⟩ = some u := by
      rw [cell_of_row _ _ _ _ _ _ (heap_alloc_new w _)]
      simpa using hu
    unfold Addr.add
    by_cases hj : j = 0
    · subst hj; simpa using this
    · simpa [hj] using this
  · intro u hu
    simp at hu
    rcases hu with rfl | rfl | rfl | rfl | rfl <;> first | rfl | exact h1c
  · intro v' w' k1 k2 k3 k4
    have hev := Evo.grown hown k2
    refine h v' w' ⟨nvs ++ [nv], by simp [h1], ?_, ?_⟩ hev
    · rw [ptCells_append h1]
      simpa [ptCells] using k1
    · intro i hi hi'
      by_cases hlt : i < pts.length
      · have hlt' : i < nvs.length := by omega
        rw [List.getElem_append_left hlt, List.getElem_append_left hlt']
        exact hev.own ((h3 i hlt hlt').alloc _) (by decide)
      · have e : i = pts.length := by simp at hi; omega
        subst e
        have e1 : (pts ++ [({ op := op, x := px, y := py, n := pn, next := next } : Pt)])[pts.length]'hi = ⟨op, px, py, pn, next⟩ := by simp
        have e2 : (nvs ++ [nv])[pts.length]'hi' = nv := by simp [← h1]
        rw [e1, e2]
        exact hev.own (hN.alloc _) (by decide)

theorem PtsO.form {w : World} {base : Nat} {v : Value} {pts : List Pt} (h : PtsO w base v pts) (hn : 0 < pts.length) : ∃ g cap, v = .slice (some ⟨g, 0, none⟩) pts.length cap ∧ base ≤ g ∧ g < w.heap.size ∧ pts.length ≤ cap := by
  have h' := h
  obtain ⟨nvs, h1, h2, h3⟩ := h
  obtain ⟨g, cap, e, hb, hg⟩ := h2.form hn
  obtain ⟨A, c, e2, hc⟩ := h'.slice
  rw [e] at e2
  injection e2 with _ _ e2
  subst e2
  exact ⟨g, cap, e, hb, hg, hc⟩
theorem PtsO.at {w : World} {base g cap : Nat} {pts : List Pt} (h : PtsO w base (.slice (some ⟨g, 0, none⟩) pts.length cap) pts) {i : Nat} (hi : i < pts.length) :
    ∃ nv, w.cell? ⟨g, i * 5, none⟩ = some (.int .i64 pts[i].op) ∧ w.cell? ⟨g, i * 5 + 1, none⟩ = some (.int .i64 pts[i].x) ∧ w.cell? ⟨g, i * 5 + 2, none⟩ = some (.int .i64 pts[i].y) ∧
      w.cell? ⟨g, i * 5 + 3, none⟩ = some (.int .i64 pts[i].n) ∧ w.cell? ⟨g, i * 5 + 4, none⟩ = some nv ∧ w.frozen? ⟨g, i * 5 + 4, none⟩ = false ∧ w.ownsRow base 3 1 nv pts[i].next.length (pts[i].next.map fun k => .int .i64 (k : Nat)) := by
  obtain ⟨nvs, h1, h2, h3⟩ := h
  obtain ⟨a0, a1, a2, a3, a4⟩ := ptCells_at h1 hi
  exact ⟨_, (h2.cellAt _ (by omega)).trans a0, (h2.cellAt _ (by omega)).trans a1, (h2.cellAt _ (by omega)).trans a2, (h2.cellAt _ (by omega)).trans a3, (h2.cellAt _ (by omega)).trans a4, h2.frozenAt _, h3 i hi (by omega)⟩
theorem PtsO.patch {w : World} {base g cap : Nat} {pts : List Pt} (h : PtsO w base (.slice (some ⟨g, 0, none⟩) pts.length cap) pts) {i : Nat} (hi : i < pts.length) {nv : Value} {next : List Nat}
    (hN : w.ownsRow base 3 1 nv next.length (next.map fun k => .int .i64 (k : Nat))) :
    PtsO (w.setCell ⟨g, i * 5 + 4, none⟩ nv) base (.slice (some ⟨g, 0, none⟩) pts.length cap) (pts.set i { pts[i] with next := next }) ∧ Evo base 25 w (w.setCell ⟨g, i * 5 + 4, none⟩ nv) := by
  obtain ⟨nvs, h1, h2, h3⟩ := h
  obtain ⟨k1, k2⟩ := h2.stored (i * 5 + 4) nv
  have hev := Evo.grown h2 k2
  refine ⟨⟨nvs.set i nv, by simp [h1], ?_, ?_⟩, hev⟩
  · rw [← ptCells_set h1 hi]
    simpa using k1
  · intro j hj hj'
    by_cases e : j = i
    · subst e
      simp only [List.getElem_set_self]
      exact hev.own hN (by decide)
    · simp only [List.getElem_set_ne (Ne.symm e)]
      exact hev.own (h3 j (by simpa using hj) (by simpa using hj')) (by decide)
theorem next_lit0 (w : World) (base : Nat) (l : List Nat) (hb : base ≤ w.heap.size) (hl : l.length ≤ 2) : (w.alloc (.cells ((l.map fun k => Value.int .i64 (k : Nat)).toArray) 3)).ownsRow base 3 1 (.slice (some ⟨w.heap.size, 0, none⟩) l.length l.length) l.length (l.map fun k => .int .i64 (k : Nat)) := by
  simpa using World.ownsRow_lit (base := base) (e := 3) (size := 1) w ((l.map fun k => Value.int .i64 (k : Nat)).toArray) l.length hb (by simp only [maxLen]; omega) (by simp)
/-- the next ones of a point stored, in the walk's own order of words -/
theorem PtsO.patchA {w : World} {base g cap : Nat} {pts : List Pt} (h : PtsO w base (.slice (some ⟨g, 0, none⟩) pts.length cap) pts) (hg : g < w.heap.size) (hb : base ≤ w.heap.size) {i : Nat} {p : Pt} (hp : pts[i]? = some p) (next : List Nat) (hl : next.length ≤ 2) (n : Nat) (hn : n = next.length) :
    PtsO ((w.setCell ⟨g, i * 5 + 4, none⟩ (.slice (some ⟨w.heap.size, 0, none⟩) n n)).alloc (.cells ((next.map fun k => Value.int .i64 (k : Nat)).toArray) 3)) base (.slice (some ⟨g, 0, none⟩) pts.length cap) (pts.set i { p with next := next }) ∧
    Evo base 25 w ((w.setCell ⟨g, i * 5 + 4, none⟩ (.slice (some ⟨w.heap.size, 0, none⟩) n n)).alloc (.cells ((next.map fun k => Value.int .i64 (k : Nat)).toArray) 3)) := by
  subst hn
  have hi : i < pts.length := by
    rcases Nat.lt_or_ge i pts.length with h | h
    · exact h
    · rw [List.getElem?_eq_none h] at hp; cases hp
  have e : pts[i] = p := by rw [List.getElem?_eq_getElem hi] at hp; injection hp
  have h1 := (h.alloc (.cells ((next.map fun k => Value.int .i64 (k : Nat)).toArray) 3)).patch hi (next_lit0 w base next hb hl)
  rw [World.setCell_alloc_past _ _ _ _ hg, e] at h1
  exact ⟨h1.1, (Evo.alloc _ _ _ _).trans h1.2⟩
theorem PtsO.patchL {w : World} {base g cap L : Nat} {pts : List Pt} (h : PtsO w base (.slice (some ⟨g, 0, none⟩) L cap) pts) (hL : L = pts.length) (hg : g < w.heap.size) (hb : base ≤ w.heap.size) {i : Nat} {p : Pt} (hp : pts[i]? = some p) (next : List Nat) (hl : next.length ≤ 2) (n : Nat) (hn : n = next.length) :
    PtsO ((w.setCell ⟨g, i * 5 + 4, none⟩ (.slice (some ⟨w.heap.size, 0, none⟩) n n)).alloc (.cells ((next.map fun k => Value.int .i64 (k : Nat)).toArray) 3)) base (.slice (some ⟨g, 0, none⟩) L cap) (pts.set i { p with next := next }) ∧
    Evo base 25 w ((w.setCell ⟨g, i * 5 + 4, none⟩ (.slice (some ⟨w.heap.size, 0, none⟩) n n)).alloc (.cells ((next.map fun k => Value.int .i64 (k : Nat)).toArray) 3)) := by
  subst hL
  exact h.patchA hg hb hp next hl n hn
/-- a literal row of next ones -/
theorem next_lit (w : World) (base : Nat) (l : List Nat) (hb : base ≤ w.heap.size) (hl : l.length ≤ 2) : (w.alloc (.cells ((l.map fun k => Value.int .i64 (k : Nat)).toArray) 3)).ownsRow base 3 1 (.slice (some ⟨w.heap.size, 0, none⟩) l.length l.length) l.length (l.map fun k => .int .i64 (k : Nat)) := by
  simpa using World.ownsRow_lit (base := base) (e := 3) (size := 1) w ((l.map fun k => Value.int .i64 (k : Nat)).toArray) l.length hb (by simp only [maxLen]; omega) (by simp)
theorem next_nil (w : World) (base : Nat) : w.ownsRow base 3 1 (.slice none 0 0) ([] : List Nat).length (([] : List Nat).map fun k => .int .i64 (k : Nat)) := World.ownsRow_nil _ _ _ _

end Go.Proofs.YtfioaohadanjmaaDoor

namespace Go.Proofs.YtfioaohadanjmaaDoor
open Go.RowKit

set_option maxHeartbeats 400000 in
theorem within_any (n lo hi : Int) (w : World) :
    Calls Tryd.prog 20 #[.int .i64 n, .int .i64 lo, .int .i64 hi] w fun e w' => e = .returned (.bool (withinP n lo hi)) ∧ w = w' := by
  go_enter Tryd.func20, Tryd.ntmps20
  by_cases h : lo ≤ n <;> by_cases h2 : n ≤ hi
  all_goals
    go_wp2
    go_ret
    exact ⟨by simp [withinP, *] <;> omega, rfl⟩

set_option maxHeartbeats 400000 in
theorem isRef_any (t : Int) (w : World) :
    Calls Tryd.prog 67 #[.int .i64 t] w fun e w' => e = .returned (.bool (isRefP t)) ∧ w = w' := by
  go_enter Tryd.func67, Tryd.ntmps67
  go_wp2
  all_goals (go_ret; exact ⟨by simp_all [isRefP], rfl⟩)

set_option maxHeartbeats 400000 in
theorem isBranch_any (t : Int) (w : World) :
    Calls Tryd.prog 53 #[.int .i64 t] w fun e w' => e = .returned (.bool (isBranchP t)) ∧ w = w' := by
  go_enter Tryd.func53, Tryd.ntmps53
  go_wp2
  all_goals (go_ret; exact ⟨by simp_all [isBranchP], rfl⟩)

set_option maxHeartbeats 400000 in
theorem isHolder_any (t : Int) (w : World) :
    Calls Tryd.prog 61 #[.int .i64 t] w fun e w' => e = .returned (.bool (isHolderP t)) ∧ w = w' := by
  go_enter Tryd.func61, Tryd.ntmps61
  by_cases h : t = 2
  · subst h
    go_wp2
    go_ret
    exact ⟨rfl, rfl⟩
  · go_wp2_with (go_at_call 67; refine (isRef_any _ _).mono ?_; rintro e w' ⟨rfl, rfl⟩)
    go_ret
    exact ⟨by simp_all [isHolderP], rfl⟩

end Go.Proofs.YtfioaohadanjmaaDoor

namespace Go.Proofs.YtfioaohadanjmaaDoor
open Go.RowKit

end Go.Proofs.YtfioaohadanjmaaDoor

namespace Go.Proofs.YtfioaohadanjmaaDoor
open Go.RowKit

set_option maxHeartbeats 400000 in
theorem l1Type_any (vt : Value) (ts : List Int) (B : Nat) (v : Int) (w : World) (ht : IntS w B vt ts) :
    Calls Tryd.prog 73 #[vt, .int .i64 v] w fun e w' => e = .returned (.int .i64 (typeOfP ts v)) ∧ w = w' := by
  by_cases h0 : 0 ≤ v
  · by_cases h1 : v < ts.length
    · obtain ⟨b, off, c, rfl, hb, hc, hm, hcell⟩ := ht.get h0 h1
      go_enter Tryd.func73, Tryd.ntmps73
      go_wp2
      go_ret
      exact ⟨rfl, rfl⟩
    · obtain ⟨A, c, rfl, hc, hm, hr⟩ := ht
      go_enter Tryd.func73, Tryd.ntmps73
      go_wp2
      go_ret
      exact ⟨ret_int (by rw [typeOfP, if_pos h0, getD_ge (by omega)]), rfl⟩
  · obtain ⟨A, c, rfl, hc, hm, hr⟩ := ht
    go_enter Tryd.func73, Tryd.ntmps73
    go_wp2
    go_ret
    exact ⟨ret_int (by rw [typeOfP, if_neg (by omega)]), rfl⟩

set_option maxHeartbeats 400000 in
theorem typeOf_any (vt : Value) (ts : List Int) (B : Nat) (v : Int) (w : World) (ht : IntS w B vt ts) :
    Calls Tryd.prog 60 #[vt, .int .i64 v] w fun e w' => e = .returned (.int .i64 (typeOfP ts v)) ∧ w = w' := by
  by_cases h0 : 0 ≤ v ∧ v < ts.length
  · obtain ⟨b, off, c, rfl, hb, hc, hm, hcell⟩ := ht.get h0.1 h0.2
    have hw : withinP v 0 ((ts.length : Int) - 1) = true := by simp [withinP]; omega
    have H := Lib.hid h0
    clear h0
    go_enter Tryd.func60, Tryd.ntmps60
    go_wp2_with (go_at_call 20; refine (within_any _ _ _ _).mono ?_; rintro e w' ⟨rfl, rfl⟩; (have h0 := H.out.1); (have h1 := H.out.2))
    go_ret
    exact ⟨rfl, rfl⟩
  · obtain ⟨A, c, rfl, hc, hm, hr⟩ := ht
    have hw : withinP v 0 ((ts.length : Int) - 1) = false := by simp [withinP]; omega
    have H := Lib.hid h0
    clear h0
    go_enter Tryd.func60, Tryd.ntmps60
    go_wp2_with (go_at_call 20; refine (within_any _ _ _ _).mono ?_; rintro e w' ⟨rfl, rfl⟩)
    go_ret
    refine ⟨ret_int ?_, rfl⟩
    unfold typeOfP
    split
    · rw [getD_ge (by have := H.out; omega)]
    · rfl

end Go.Proofs.YtfioaohadanjmaaDoor
