import Derived.Test.YtfioaohadanjmaaDoorP06
set_option linter.unusedVariables false

/- Words for statements that a call makes: an owned row of statements, each with statements in other blocks. -/
namespace Go.Proofs.YtfioaohadanjmaaDoor
open Go.RowKit

/-- The slice value v reads as the statements l, at every depth, all in blocks of P. -/
inductive StX (w : World) (P : Nat → Prop) : Value → List St → Prop where
  | mk (A : Option Addr) (c : Nat) (l : List St) (tv ev : Nat → Value) (hc : l.length ≤ c)
      (hr : 0 < l.length → ∃ b off, A = some ⟨b, off, none⟩ ∧ P b ∧ b < w.heap.size ∧ ∀ i (h : i < l.length),
        w.cell? ⟨b, off + i * 6, none⟩ = some (.int .i64 l[i].op) ∧ w.cell? ⟨b, off + i * 6 + 1, none⟩ = some (.int .i64 l[i].x) ∧
        w.cell? ⟨b, off + i * 6 + 2, none⟩ = some (.int .i64 l[i].y) ∧ w.cell? ⟨b, off + i * 6 + 3, none⟩ = some (.int .i64 l[i].n) ∧
        w.cell? ⟨b, off + i * 6 + 4, none⟩ = some (tv i) ∧ w.cell? ⟨b, off + i * 6 + 5, none⟩ = some (ev i))
      (ht : ∀ i (h : i < l.length), StX w P (tv i) l[i].th) (he : ∀ i (h : i < l.length), StX w P (ev i) l[i].el) : StX w P (.slice A l.length c) l
theorem StX.nil (w : World) (P : Nat → Prop) : StX w P (.slice none 0 0) [] :=
  .mk none 0 [] (fun _ => .slice none 0 0) (fun _ => .slice none 0 0) (Nat.le_refl _) (fun h => absurd h (by simp)) (fun i h => absurd h (by simp)) (fun i h => absurd h (by simp))
theorem StX.frame {w w' : World} {P P' : Nat → Prop} {v : Value} {l : List St} (h : StX w P v l) (hs : w.heap.size ≤ w'.heap.size) (hk : ∀ b, P b → b < w.heap.size → P' b ∧ w'.heap[b]? = w.heap[b]?) : StX w' P' v l := by
  induction h with
  | mk A c l tv ev hc hr ht he iht ihe =>
    refine .mk A c l tv ev hc (fun hn => ?_) iht ihe
    obtain ⟨b, off, e, hb, hlt, hcell⟩ := hr hn
    obtain ⟨h1, h2⟩ := hk b hb hlt
    have hc' : ∀ o, w'.cell? ⟨b, o, none⟩ = w.cell? ⟨b, o, none⟩ := fun o => World.cell?_of_block (w := w) (a := ⟨b, o, none⟩) h2
    exact ⟨b, off, e, h1, by omega, fun i hi => by simp only [hc']; exact hcell i hi⟩
theorem StX.toS {w : World} {P : Nat → Prop} {v : Value} {l : List St} (h : StX w P v l) : StS w w.heap.size v l := by
  induction h with
  | mk A c l tv ev hc hr ht he iht ihe =>
    refine .mk A c l tv ev hc (fun hn => ?_) iht ihe
    obtain ⟨b, off, e, hb, hlt, hcell⟩ := hr hn
    exact ⟨b, off, e, hlt, hcell⟩
theorem StX.one {w : World} {P : Nat → Prop} {v : Value} {l : List St} (h : StX w P v l) : v.oneCell' = true := by
  cases h; rfl
theorem StX.slice {w : World} {P : Nat → Prop} {v : Value} {l : List St} (h : StX w P v l) : ∃ A c, v = .slice A l.length c ∧ l.length ≤ c := by
  cases h with
  | mk A c l tv ev hc hr ht he => exact ⟨A, c, rfl, hc⟩

/-- a statement with its values in memory -/
structure Se where
  op : Int
  x : Int
  y : Int
  n : Int
  tv : Value
  ev : Value
  th : List St
  el : List St
def Se.st (e : Se) : St := .mk e.op e.x e.y e.n e.th e.el
def seCells : List Se → List Value
  | [] => []
  | e :: r => .int .i64 e.op :: .int .i64 e.x :: .int .i64 e.y :: .int .i64 e.n :: e.tv :: e.ev :: seCells r
theorem seCells_append (a b : List Se) : seCells (a ++ b) = seCells a ++ seCells b := by
  induction a with
  | nil => rfl
  | cons e r ih => simp [seCells, ih]
theorem seCells_len (a : List Se) : (seCells a).length = a.length * 6 := by
  induction a with
  | nil => rfl
  | cons e r ih => simp [seCells, ih]; omega
theorem seCells_at {es : List Se} {i : Nat} (hi : i < es.length) :
    (seCells es)[i * 6]? = some (.int .i64 es[i].op) ∧ (seCells es)[i * 6 + 1]? = some (.int .i64 es[i].x) ∧ (seCells es)[i * 6 + 2]? = some (.int .i64 es[i].y) ∧
    (seCells es)[i * 6 + 3]? = some (.int .i64 es[i].n) ∧ (seCells es)[i * 6 + 4]? = some es[i].tv ∧ (seCells es)[i * 6 + 5]? = some es[i].ev := by
  induction es generalizing i with
  | nil => simp at hi
  | cons e r ih =>
    cases i with
    | zero => simp [seCells]
    | succ i =>
      have := ih (i := i) (by simpa using hi)
      have e1 : ∀ j, (i + 1) * 6 + j = i * 6 + j + 6 := fun j => by omega
      have e0 : (i + 1) * 6 = i * 6 + 6 := by omega
      simp only [seCells, e0, List.getElem?_cons_succ, List.getElem_cons_succ]
      exact this
/-- an owned row of statements -/
def OSt (w : World) (base : Nat) (v : Value) (l : List St) : Prop :=
  ∃ es : List Se, l = es.map Se.st ∧ w.ownsRow base 47 6 v es.length (seCells es) ∧
    ∀ e ∈ es, StX w (fun b => base ≤ b ∧ v.ownBlock ≠ some b) e.tv e.th ∧ StX w (fun b => base ≤ b ∧ v.ownBlock ≠ some b) e.ev e.el
theorem OSt.nil (w : World) (base : Nat) : OSt w base (.slice none 0 0) [] := ⟨[], rfl, World.ownsRow_nil _ _ _ _, fun e h => by simp at h⟩
theorem OSt.slice {w : World} {base : Nat} {v : Value} {l : List St} (h : OSt w base v l) : ∃ A c, v = .slice A l.length c ∧ l.length ≤ c := by
  obtain ⟨es, rfl, h2, h3⟩ := h
  rcases h2.2 with ⟨rfl, h0⟩ | ⟨g, cap, cur, rfl, _, _, hc, _⟩
  · exact ⟨none, 0, by simp [h0], by simp [h0]⟩
  · exact ⟨some ⟨g, 0, none⟩, cap, by simp, by simpa using hc⟩
theorem OSt.toX {w : World} {base : Nat} {v : Value} {l : List St} (h : OSt w base v l) : StX w (fun b => base ≤ b) v l := by
  have hsl := h.slice
  obtain ⟨es, rfl, h2, h3⟩ := h
  obtain ⟨A, c, rfl, hc⟩ := hsl
  refine .mk A c _ (fun i => (es.getD i ⟨0, 0, 0, 0, .slice none 0 0, .slice none 0 0, [], []⟩).tv) (fun i => (es.getD i ⟨0, 0, 0, 0, .slice none 0 0, .slice none 0 0, [], []⟩).ev) hc (fun hn => ?_) (fun i hi => ?_) (fun i hi => ?_)
  · obtain ⟨g, cap, e, hb, hlt⟩ := h2.form (by simpa using hn)
    injection e with e1 e2 e3
    subst e1 e3
    refine ⟨g, 0, rfl, hb, hlt, fun i hi => ?_⟩
    have hi' : i < es.length := by simpa using hi
    obtain ⟨a0, a1, a2, a3, a4, a5⟩ := seCells_at hi'
    have h2' : w.ownsRow base 47 6 (.slice (some ⟨g, 0, none⟩) es.length c) es.length (seCells es) := by simpa using h2
    have hat : ∀ j, j < 6 → w.cell? ⟨g, 0 + i * 6 + j, none⟩ = (seCells es)[i * 6 + j]? := fun j hj => by rw [Nat.zero_add]; exact h2'.cellAt _ (by omega)
    have hat0 : w.cell? ⟨g, 0 + i * 6, none⟩ = (seCells es)[i * 6]? := hat 0 (by omega)
    simp only [hat0, hat 1 (by omega), hat 2 (by omega), hat 3 (by omega), hat 4 (by omega), hat 5 (by omega), a0, a1, a2, a3, a4, a5, List.getElem_map, getD_lt hi']
    simp [Se.st, St.op, St.x, St.y, St.n]
  · have hi' : i < es.length := by simpa using hi
    have := (h3 es[i] (List.getElem_mem hi')).1
    rw [List.getElem_map, getD_lt hi']
    exact this.frame (Nat.le_refl _) fun b hb _ => ⟨hb.1, rfl⟩
  · have hi' : i < es.length := by simpa using hi
    have := (h3 es[i] (List.getElem_mem hi')).2
    rw [List.getElem_map, getD_lt hi']
    exact this.frame (Nat.le_refl _) fun b hb _ => ⟨hb.1, rfl⟩
theorem OSt.grown {w w' : World} {base g : Nat} {v : Value} {l : List St} (h : OSt w base v l) (hg : w.grownBy w' (some g)) (hlt : g < base) : OSt w' base v l := by
  obtain ⟨es, rfl, h2, h3⟩ := h
  refine ⟨es, rfl, h2.kept hg ?_, fun e he => ?_⟩
  · rcases h2.2 with ⟨rfl, _⟩ | ⟨g', cap, cur, rfl, hb, _⟩
    · exact .inl rfl
    · exact .inr (by simp [Value.ownBlock]; omega)
  · obtain ⟨k1, k2⟩ := h3 e he
    have hk : ∀ b, (base ≤ b ∧ v.ownBlock ≠ some b) → b < w.heap.size → (base ≤ b ∧ v.ownBlock ≠ some b) ∧ w'.heap[b]? = w.heap[b]? := fun b hb hl => ⟨hb, hg.block b hl (fun e => by injection e with e; omega)⟩
    exact ⟨k1.frame hg.size hk, k2.frame hg.size hk⟩
theorem OSt.below {w w' : World} {base : Nat} {v : Value} {l : List St} (h : OSt w base v l) (hb : Below w.heap.size w w') : OSt w' base v l := by
  obtain ⟨es, rfl, h2, h3⟩ := h
  have hg : w.grownBy w' none := grown_bel hb (Nat.le_refl _) none
  refine ⟨es, rfl, h2.kept hg ?_, fun e he => ?_⟩
  · cases v.ownBlock <;> simp
  · obtain ⟨k1, k2⟩ := h3 e he
    have hk : ∀ b, (base ≤ b ∧ v.ownBlock ≠ some b) → b < w.heap.size → (base ≤ b ∧ v.ownBlock ≠ some b) ∧ w'.heap[b]? = w.heap[b]? := fun b hb' hl => ⟨hb', hb.block b hl⟩
    exact ⟨k1.frame hb.size hk, k2.frame hb.size hk⟩
theorem OSt.alloc {w : World} {base : Nat} {v : Value} {l : List St} (h : OSt w base v l) (o : Obj) : OSt (w.alloc o) base v l := h.below (bel_a w o)
/-- a literal row of statements -/
theorem OSt.lit (w : World) (base : Nat) (es : List Se) (hb : base ≤ w.heap.size) (hl : es.length ≤ 10) (hx : ∀ e ∈ es, StX w (fun b => base ≤ b) e.tv e.th ∧ StX w (fun b => base ≤ b) e.ev e.el) :
    OSt (w.alloc (.cells (seCells es).toArray 47)) base (.slice (some ⟨w.heap.size, 0, none⟩) es.length es.length) (es.map Se.st) := by
  refine ⟨es, rfl, ?_, fun e he => ?_⟩
  · have := World.ownsRow_lit (base := base) (e := 47) (size := 6) w (seCells es).toArray es.length hb (by simp only [maxLen]; omega) (by simp [seCells_len])
    simpa using this
  · obtain ⟨k1, k2⟩ := hx e he
    have hk : ∀ b, base ≤ b → b < w.heap.size → (base ≤ b ∧ (Value.slice (some ⟨w.heap.size, 0, none⟩) es.length es.length).ownBlock ≠ some b) ∧ (w.alloc (.cells (seCells es).toArray 47)).heap[b]? = w.heap[b]? := fun b hb' hl => ⟨⟨hb', by simp [Value.ownBlock]; omega⟩, (bel_a w _).block b hl⟩
    exact ⟨k1.frame (bel_a w _).size hk, k2.frame (bel_a w _).size hk⟩

theorem Tryd.infoSt : (Tryd.prog.info? 47).map (fun i => (i.zero, i.size, i.bytes)) = some (some (.agg #[.int .i64 0, .int .i64 0, .int .i64 0, .int .i64 0, .slice none 0 0, .slice none 0 0]), 6, 80) := by kernel_rfl

/-- append(out, Stmt{..}) -/
theorem wpList_push_st {ops : Array Oper} {rest : List Oper} {o : Oper} {a : Act} {Q : Exit → Act → World → Prop} {w : World} {base : Nat} {vo : Value} {l : List St} (hgd : o.guard = none) (s x : Operand)
    (ho : o.op = .call { callee := .builtin .append, args := #[s, x], argTypes := #[27, 27] })
    (hP : OSt w base vo l) (hb : base ≤ w.heap.size) (hn : l.length + 1 ≤ 4194304) (op px py pn : Int) (tv ev : Value) (th el : List St)
    (hT : StX w (fun b => base ≤ b ∧ vo.ownBlock ≠ some b) tv th) (hE : StX w (fun b => base ≤ b ∧ vo.ownBlock ≠ some b) ev el)
    (hs : a.eval s = vo) (hx : a.eval x = .slice (some ⟨w.heap.size, 0, none⟩) 1 1)
    (h : ∀ v' w', OSt w' base v' (l ++ [.mk op px py pn th el]) → Below base (w.alloc (.cells #[.int .i64 op, .int .i64 px, .int .i64 py, .int .i64 pn, tv, ev] 47)) w' → wpList Tryd.prog ops Q rest (a.put o.dst v') w') :
    wpList Tryd.prog ops Q (o :: rest) a (w.alloc (.cells #[.int .i64 op, .int .i64 px, .int .i64 py, .int .i64 pn, tv, ev] 47)) := by
  obtain ⟨i0, hi0, hz0, hz1, hz2⟩ := info_parts Tryd.infoSt
  have hP1 := hP.alloc (.cells #[.int .i64 op, .int .i64 px, .int .i64 py, .int .i64 pn, tv, ev] 47)
  have hT1 := hT.frame (w' := w.alloc (.cells #[.int .i64 op, .int .i64 px, .int .i64 py, .int .i64 pn, tv, ev] 47)) (bel_a w _).size fun b hb' hl => ⟨hb', (bel_a w _).block b hl⟩
  have hE1 := hE.frame (w' := w.alloc (.cells #[.int .i64 op, .int .i64 px, .int .i64 py, .int .i64 pn, tv, ev] 47)) (bel_a w _).size fun b hb' hl => ⟨hb', (bel_a w _).block b hl⟩
  have hkeep : ∀ (w' : World) (v' : Value), (w.alloc (.cells #[.int .i64 op, .int .i64 px, .int .i64 py, .int .i64 pn, tv, ev] 47)).grownBy w' vo.ownBlock → (v'.ownBlock = vo.ownBlock ∨ v'.ownBlock = some (w.alloc (.cells #[.int .i64 op, .int .i64 px, .int .i64 py, .int .i64 pn, tv, ev] 47)).heap.size) →
      ∀ b, (base ≤ b ∧ vo.ownBlock ≠ some b) → b < (w.alloc (.cells #[.int .i64 op, .int .i64 px, .int .i64 py, .int .i64 pn, tv, ev] 47)).heap.size → (base ≤ b ∧ v'.ownBlock ≠ some b) ∧ w'.heap[b]? = (w.alloc (.cells #[.int .i64 op, .int .i64 px, .int .i64 py, .int .i64 pn, tv, ev] 47)).heap[b]? := by
    intro w' v' hg hv b hb' hl
    refine ⟨⟨hb'.1, ?_⟩, hg.block b hl (fun e => hb'.2 e.symm)⟩
    rcases hv with hv | hv
    · rw [hv]; exact hb'.2
    · rw [hv]; intro e; injection e with e; omega
  obtain ⟨es, rfl, h2, h3⟩ := hP1
  refine wpList_append_own_at _ hgd s x 27 ho base 47 i0 _ 6 80 Tryd.underlying27 hi0 hz0 hz1 hz2 rfl (by omega) vo es.length _ hs h2 ⟨w.heap.size, 0, none⟩ 1 1 [.int .i64 op, .int .i64 px, .int .i64 py, .int .i64 pn, tv, ev] hx rfl ?_ ?_ (by simp at hn; simp only [maxLen]; omega) (by simp at hn; omega) (by simp; omega) ?_
  · intro j u hu
    have : (w.alloc (.cells #[.int .i64 op, .int .i64 px, .int .i64 py, .int .i64 pn, tv, ev] 47)).cell? ⟨w.heap.size, j, none⟩ = some u := by
      rw [cell_of_row _ _ _ _ _ _ (heap_alloc_new w _)]
      simpa using hu
    unfold Addr.add
    by_cases hj : j = 0
    · subst hj; simpa using this
    · simpa [hj] using this
  · intro u hu
    simp at hu
    rcases hu with rfl | rfl | rfl | rfl | rfl | rfl <;> first | rfl | exact hT.one | exact hE.one
  · intro v' w' k1 k2 k3 k4
    have hk := hkeep w' v' k2 k4
    refine h v' w' ⟨es ++ [⟨op, px, py, pn, tv, ev, th, el⟩], by simp [Se.st], ?_, ?_⟩ ?_
    · rw [seCells_append]
      simpa [seCells] using k1
    · intro e he
      rcases List.mem_append.1 he with he | he
      · obtain ⟨q1, q2⟩ := h3 e he
        exact ⟨q1.frame k2.size hk, q2.frame k2.size hk⟩
      · simp at he
        subst he
        exact ⟨hT1.frame k2.size hk, hE1.frame k2.size hk⟩
    · refine ⟨k2.os, k2.tape, k2.output, k2.size, fun k hlt => k2.block k (by simp; omega) fun e => ?_⟩
      have := h2.lt k e.symm
      omega

end Go.Proofs.YtfioaohadanjmaaDoor

/- l1One, l1Some: some statements are drawn. -/
namespace Go.Proofs.YtfioaohadanjmaaDoor
open Go.RowKit

def kk : Nat → Nat
  | 0 => 6
  | d + 1 => 2 * kk d + 20
def ss : Nat → Nat
  | 0 => 1
  | d + 1 => 2 * ss d + 3
def OneRet (w : World) (g p K S : Nat) (e : Ending) (w' : World) : Prop :=
  ∃ (op x y n : Int) (tv ev : Value) (th el : List St) (p' : Nat), e = .returned (.agg #[.int .i64 op, .int .i64 x, .int .i64 y, .int .i64 n, tv, ev]) ∧
    StX w' (fun b => w.heap.size ≤ b) tv th ∧ StX w' (fun b => w.heap.size ≤ b) ev el ∧ 1 + szL th + szL el ≤ S ∧ p' ≤ p + K ∧ Dr w' g p' ∧ w.grownBy w' (some g)
def SomeRet (w : World) (g p K S : Nat) (e : Ending) (w' : World) : Prop :=
  ∃ (v : Value) (l : List St) (p' : Nat), e = .returned v ∧ OSt w' w.heap.size v l ∧ szL l ≤ S ∧ p' ≤ p + K ∧ Dr w' g p' ∧ w.grownBy w' (some g)
def OneOk (d : Nat) : Prop := ∀ (g p : Nat) (vt : Value) (w : World), Dr w g p → p + kk d ≤ 1000000 →
  Calls Tryd.prog 40 #[.pointer (some ⟨g, 0, none⟩), vt, .int .i64 (d : Nat)] w (OneRet w g p (kk d) (ss d))
def SomeOk (d : Nat) : Prop := ∀ (g p n : Nat) (vt : Value) (w : World), n ≤ 1000 → Dr w g p → p + 1 + n * kk d ≤ 1000000 →
  Calls Tryd.prog 27 #[.pointer (some ⟨g, 0, none⟩), vt, .int .i64 (d : Nat), .int .i64 (n : Nat)] w (SomeRet w g p (1 + n * kk d) (1 + n * ss d))

theorem OSt.fresh {w w2 : World} {base : Nat} {v tv : Value} {l th : List St} (h : OSt w base v l) (hb : base ≤ w.heap.size) (hx : StX w2 (fun b => w.heap.size ≤ b) tv th) : StX w2 (fun b => base ≤ b ∧ v.ownBlock ≠ some b) tv th := by
  obtain ⟨es, rfl, h2, h3⟩ := h
  exact hx.frame (Nat.le_refl _) fun b hb' _ => ⟨⟨by omega, fun e => by have := (h2.lt b e).2; omega⟩, rfl⟩
theorem grown_base {w a b : World} {g : Nat} (h : w.grownBy a (some g)) (hb : Below w.heap.size a b) : w.grownBy b (some g) :=
  ⟨hb.os.trans h.os, hb.tape.trans h.tape, hb.output.trans h.output, Nat.le_trans h.size hb.size, fun k hk hne => (hb.block k hk).trans (h.block k hk hne)⟩

set_option maxHeartbeats 2000000 in
theorem someOk_of (d : Nat) (hd2 : d ≤ 100) (h1 : OneOk d) : SomeOk d := by
  intro g p n vt w hn hd hp
  have HN := Lib.hid hp
  have HD := Lib.hid hd
  have hg := hd.lt
  have hpp : p ≤ 1000000 := by omega
  clear hd hp
  go_enter Tryd.func27, Tryd.ntmps27
  go_wp2_with fail
  refine (pick_any g p _ _ HD.out hpp (by omega) (by omega)).mono ?_
  rintro e w1 ⟨k, rfl, k0, k1, hd1, hg1⟩
  have HD1 := Lib.hid hd1
  have HG1 := Lib.hid hg1
  have hs1 := hg1.size
  clear hd1 hg1 k0 k1
  have hlit : OSt (w1.alloc (.cells #[.int .i64 2, .int .i64 1, .int .i64 0, .int .i64 k, .slice none 0 0, .slice none 0 0] 47)) w.heap.size (.slice (some ⟨w1.heap.size, 0, none⟩) 1 1) [.mk 2 1 0 k [] []] :=
    OSt.lit w1 w.heap.size [⟨2, 1, 0, k, .slice none 0 0, .slice none 0 0, [], []⟩] hs1 (by simp) (fun e he => by simp at he; subst he; exact ⟨StX.nil _ _, StX.nil _ _⟩)
  have hbl := bel_a w1 (.cells #[.int .i64 2, .int .i64 1, .int .i64 0, .int .i64 k, .slice none 0 0, .slice none 0 0] 47)
  have HLIT := Lib.hid hlit
  have HBL := Lib.hid hbl
  clear hlit hbl
  generalize hKd : kk d = Kd at *
  generalize hSd : ss d = Sd at *
  go_wp2_with fail
  go_loopw [9, 10] (fun v i wr => ∃ (j : Nat) (l : List St) (q : Nat), j ≤ n ∧ i = .int .i64 j ∧ (OSt wr w.heap.size v l ∧ l.length ≤ j + 1 ∧ szL l ≤ 1 + j * Sd ∧ q ≤ p + 1 + j * Kd ∧ Dr wr g q ∧ w.grownBy wr (some g))) (fun _ i _ => n - (intOf i).toNat)
  case atStart =>
    exact ⟨0, [.mk 2 1 0 k [] []], p + 1, by omega, rfl, HLIT.out, by simp, by simp [szL, St.sz], by omega, HD1.out.low HBL.out (by omega), grown_base HG1.out (HBL.out.mono hs1)⟩
  case round =>
    obtain ⟨j, l, q, hj, rfl, hos, hll, hsz, hq, hdr, hgr⟩ := hrel
    have HOS := Lib.hid hos
    have HSZ := Lib.hid hsz
    have HQ := Lib.hid hq
    have HDR := Lib.hid hdr
    have HGR := Lib.hid hgr
    have hsr := hgr.size
    clear hos hsz hq hdr hgr
    by_cases hlt : j < n
    · have hKK : Hid (q + kk d ≤ 1000000) := by
        have : q + kk d ≤ 1000000 := by
          have a1 : (j + 1) * Kd ≤ n * Kd := Nat.mul_le_mul_right _ hlt
          rw [Nat.succ_mul] at a1
          have a2 := HQ.out
          have a3 := HN.out
          rw [hKd]; omega
        exact this
      go_wp2_with fail
      refine (h1 g q vt _ HDR.out hKK.out).mono ?_
      rintro e w2 ⟨op, x, y, m, tv, ev, th, el, q2, rfl, hT, hE, hS, hq2, hd2, hg2⟩
      have HT := Lib.hid (HOS.out.fresh hsr hT)
      have HE := Lib.hid (HOS.out.fresh hsr hE)
      have HP := Lib.hid (HOS.out.grown hg2 hg)
      have HS := Lib.hid hS
      have HQ2 := Lib.hid hq2
      have HD2 := Lib.hid hd2
      have HG2 := Lib.hid hg2
      have hs2 := hg2.size
      clear hT hE hS hq2 hd2 hg2
      go_wp2_with (at_builtin; go_must (refine wpList_push_st rfl (.tmp 20) (.tmp 25) rfl HP.out (by omega) (by omega) _ _ _ _ _ _ _ _ HT.out HE.out rfl rfl ?_); intro v' w' hP' hE')
      case roundEnd =>
        refine ⟨⟨j + 1, l ++ [.mk op x y m th el], q2, by omega, rfl, hP', by simp; omega, ?_, ?_, ?_, ?_⟩, by simp [intOf] <;> omega⟩
        · have a1 := HS.out
          have a2 := HSZ.out
          rw [hSd] at a1
          rw [szL_append, Nat.succ_mul]; simp [szL, St.sz]; omega
        · have a1 := HQ2.out
          have a2 := HQ.out
          rw [hKd] at a1
          rw [Nat.succ_mul]; omega
        · exact HD2.out.low ((bel_a w2 _).mono (Nat.le_trans hsr hs2) |>.trans hE') hg
        · exact grown_base (grown_tr HGR.out HG2.out) ((bel_a w2 _).mono (Nat.le_trans hsr hs2) |>.trans hE')
    · have hje : j = n := by omega
      subst hje
      go_wp2_with fail
      go_ret
      exact ⟨_, l, q, rfl, HOS.out, HSZ.out, by have := HQ.out; omega, HDR.out, HGR.out⟩

end Go.Proofs.YtfioaohadanjmaaDoor
