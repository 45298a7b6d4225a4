import Derived.Test.YtidlifijgooceaaGreatG30
import Derived.Test.YtidlifijgooceaaGreatG24
import Derived.Test.YtidlifijgooceaaGreatG28
import Derived.Deep.CutBlock
import Derived.Deep.DeepCutAuto
set_option linter.unusedVariables false

/- Accesses: owned rows of them; impl.graph.accesses, impl.AccessesOf. -/
namespace Go.Proofs.YtidlifijgooceaaGreat
open Go.RowKit

structure Acc where
  vr : Int
  wr : Bool
def axCells : List Acc → List Value
  | [] => []
  | x :: r => .int .i64 x.vr :: .bool x.wr :: axCells r
theorem axCells_append (a b : List Acc) : axCells (a ++ b) = axCells a ++ axCells b := by
  induction a with
  | nil => rfl
  | cons x r ih => simp [axCells, ih]
theorem axCells_len (a : List Acc) : (axCells a).length = a.length * 2 := by
  induction a with
  | nil => rfl
  | cons x r ih => simp [axCells, ih]; omega
theorem axCells_at {ls : List Acc} {i : Nat} (hi : i < ls.length) : (axCells ls)[i * 2]? = some (.int .i64 ls[i].vr) ∧ (axCells ls)[i * 2 + 1]? = some (.bool ls[i].wr) := by
  induction ls generalizing i with
  | nil => simp at hi
  | cons x r ih =>
    cases i with
    | zero => simp [axCells]
    | succ i =>
      have := ih (i := i) (by simpa using hi)
      simp only [axCells, show (i + 1) * 2 = i * 2 + 2 by omega, show i * 2 + 2 + 1 = i * 2 + 1 + 2 by omega, List.getElem?_cons_succ, List.getElem_cons_succ]
      exact this
def OAx (w : World) (base : Nat) (v : Value) (ls : List Acc) : Prop := w.ownsRow base 39 2 v ls.length (axCells ls)
theorem OAx.nil (w : World) (base : Nat) : OAx w base (.slice none 0 0) [] := World.ownsRow_nil _ _ _ _
theorem OAx.slice {w : World} {base : Nat} {v : Value} {l : List Acc} (h : OAx w base v l) : ∃ A c, v = .slice A l.length c ∧ l.length ≤ c := by
  rcases h.2 with ⟨rfl, h0⟩ | ⟨g, cap, cur, rfl, _, _, hc, _⟩
  · exact ⟨none, 0, by rw [h0], by omega⟩
  · exact ⟨_, cap, rfl, hc⟩
theorem OAx.bel {w w' : World} {base : Nat} {v : Value} {l : List Acc} (h : OAx w base v l) (hb : Below w.heap.size w w') : OAx w' base v l :=
  World.ownsRow.kept h (grown_bel hb (Nat.le_refl _) none) (by cases v.ownBlock <;> simp)
/-- the slice v reads as the accesses ls -/
def AxS (w : World) (B : Nat) (v : Value) (ls : List Acc) : Prop :=
  ∃ A c, v = .slice A ls.length c ∧ ls.length ≤ c ∧ ls.length ≤ 100000 ∧ (0 < ls.length → ∃ b off, A = some ⟨b, off, none⟩ ∧ b < B ∧ ∀ i (h : i < ls.length),
    w.cell? ⟨b, off + i * 2, none⟩ = some (.int .i64 ls[i].vr) ∧ w.cell? ⟨b, off + i * 2 + 1, none⟩ = some (.bool ls[i].wr))
theorem AxS.low {w w' : World} {B B' : Nat} {v : Value} {l : List Acc} (h : AxS w B v l) (hb : Below B' w w') (hB : B ≤ B') : AxS w' B v l := by
  obtain ⟨A, c, e, h1, h2, h3⟩ := h
  refine ⟨A, c, e, h1, h2, fun hn => ?_⟩
  obtain ⟨b, off, e, hbb, hc⟩ := h3 hn
  have k : ∀ o, w'.cell? ⟨b, o, none⟩ = w.cell? ⟨b, o, none⟩ := fun o => hb.cell (p := ⟨b, o, none⟩) (by show b < B'; omega)
  exact ⟨b, off, e, hbb, fun i hi => by simp only [k]; exact hc i hi⟩
theorem AxS.bel {w w' : World} {v : Value} {l : List Acc} (h : AxS w w.heap.size v l) (hb : Below w.heap.size w w') : AxS w' w'.heap.size v l := by
  obtain ⟨A, c, e, h1, h2, h3⟩ := h.low hb (Nat.le_refl _)
  refine ⟨A, c, e, h1, h2, fun hn => ?_⟩
  obtain ⟨b, off, e, hbb, hc⟩ := h3 hn
  exact ⟨b, off, e, Nat.lt_of_lt_of_le hbb hb.size, hc⟩
theorem AxS.slice {w : World} {B : Nat} {v : Value} {l : List Acc} (h : AxS w B v l) : ∃ A c, v = .slice A l.length c ∧ l.length ≤ c := by
  obtain ⟨A, c, e, h1, _⟩ := h
  exact ⟨A, c, e, h1⟩
theorem AxS.get {w : World} {B n c : Nat} {A : Option Addr} {l : List Acc} (h : AxS w B (.slice A n c) l) {i : Nat} (hi : i < l.length) : ∃ b off, A = some ⟨b, off, none⟩ ∧ b < B ∧
    w.cell? ⟨b, off + i * 2, none⟩ = some (.int .i64 l[i].vr) ∧ w.cell? ⟨b, off + i * 2 + 1, none⟩ = some (.bool l[i].wr) := by
  obtain ⟨A', c', e, h1, h2, h3⟩ := h
  injection e with e1 _ _
  subst e1
  obtain ⟨b, off, e, hb, hc⟩ := h3 (by omega)
  exact ⟨b, off, e, hb, hc i hi⟩
theorem OAx.toS {w : World} {base : Nat} {v : Value} {l : List Acc} (h : OAx w base v l) (hl : l.length ≤ 100000) : AxS w w.heap.size v l := by
  obtain ⟨A, c, rfl, hc⟩ := h.slice
  refine ⟨A, c, rfl, hc, hl, fun hn => ?_⟩
  obtain ⟨g, cap, e, hb, hlt⟩ := World.ownsRow.form h hn
  injection e with e1 _ e2
  subst e1 e2
  refine ⟨g, 0, rfl, hlt, fun i hi => ?_⟩
  obtain ⟨a0, a1⟩ := axCells_at hi
  simp only [Nat.zero_add]
  exact ⟨(World.ownsRow.cellAt h _ (by omega)).trans a0, (World.ownsRow.cellAt h _ (by omega)).trans a1⟩
theorem Tryz.infoAx : (Tryz.prog.info? 39).map (fun i => (i.zero, i.size, i.bytes)) = some (some (.agg #[.int .i64 0, .bool false]), 2, 16) := by kernel_rfl
/-- append(out, Access{..}) -/
theorem wpList_push_ax {ops : Array Oper} {rest : List Oper} {o : Oper} {a : Act} {Q : Exit → Act → World → Prop} {w : World} {base : Nat} {vo : Value} {ls : List Acc} (hgd : o.guard = none) (s x : Operand)
    (ho : o.op = .call { callee := .builtin .append, args := #[s, x], argTypes := #[36, 36] })
    (hP : OAx w base vo ls) (hb : base ≤ w.heap.size) (hn : ls.length + 1 ≤ 100000) (y : Int) (u : Bool) (hs : a.eval s = vo) (hx : a.eval x = .slice (some ⟨w.heap.size, 0, none⟩) 1 1)
    (h : ∀ v' w', OAx w' base v' (ls ++ [⟨y, u⟩]) → Below base w w' → wpList Tryz.prog ops Q rest (a.put o.dst v') w') :
    wpList Tryz.prog ops Q (o :: rest) a (w.alloc (.cells #[.int .i64 y, .bool u] 39)) := by
  obtain ⟨i0, hi0, hz0, hz1, hz2⟩ := info_parts Tryz.infoAx
  have hown := World.ownsRow.alloc hP (.cells #[.int .i64 y, .bool u] 39)
  refine wpList_append_own_at _ hgd s x 36 ho base 39 i0 _ 2 16 Tryz.underlying36 hi0 hz0 hz1 hz2 rfl (by omega) vo ls.length _ hs hown ⟨w.heap.size, 0, none⟩ 1 1 [.int .i64 y, .bool u] hx rfl ?_ ?_ (by simp only [maxLen]; omega) (by omega) (by simp; omega) ?_
  · intro j u' hu
    have : (w.alloc (.cells #[.int .i64 y, .bool u] 39)).cell? ⟨w.heap.size, j, none⟩ = some u' := by
      rw [cell_of_row _ _ _ _ _ _ (heap_alloc_new w _)]
      simpa using hu
    unfold Addr.add
    by_cases hj : j = 0
    · subst hj; simpa using this
    · simpa [hj] using this
  · intro u' hu
    simp at hu
    rcases hu with rfl | rfl <;> rfl
  · intro v' w' k1 k2 k3 k4
    refine h v' w' ?_ ((((bel_a w _).mono hb)).trans ((Evo.grown (T := 39) hown k2).below (by simp; omega)))
    unfold OAx
    rw [axCells_append]
    simpa [axCells] using k1


theorem OAx.empty (w : World) (base : Nat) (hb : base ≤ w.heap.size) : OAx (w.alloc (.cells #[] 39)) base (.slice (some ⟨w.heap.size, 0, none⟩) 0 0) [] :=
  World.ownsRow_lit (base := base) (e := 39) (size := 2) w #[] 0 hb (by simp [maxLen]) rfl
/-- what a point itself reaches; what it lets go by setting -/
def acc1 (ts : List Int) (op x y : Int) : List Acc :=
  if op = 4 ∨ op = 6 then [⟨y, false⟩] else if op = 5 then [⟨y, true⟩] else if op = 7 ∨ op = 8 then [⟨x, true⟩] else if op = 3 then (if takesP ts y then [⟨y, true⟩] else []) else []
def acc2 (ts : List Int) (op x : Int) (m : Nat → Bool) : List Acc := if 0 ≤ setsP op x ∧ typeOfP ts (setsP op x) = 2 ∧ m (setsP op x).toNat = true then [⟨setsP op x, true⟩] else []
def accL (ts : List Int) (op x y : Int) (m : Nat → Bool) : List Acc := acc1 ts op x y ++ acc2 ts op x m
def AxRet (w : World) (ls : List Acc) (e : Ending) (w' : World) : Prop := ∃ v, e = .returned v ∧ AxS w' w'.heap.size v ls ∧ Below w.heap.size w w'

set_option maxHeartbeats 1000000 in
set_option maxRecDepth 100000 in
theorem accesses_any (vg : Value) (ts : List Int) (pts : List Pt) (B : Nat) (op x y n : Int) (A : Option Addr) (m c mm : Nat) (w : World) (hg : GrS w B vg ts pts) (hB : B ≤ w.heap.size) (hm : mm < 64) (h6 : ts.length ≤ 6) (hs : 0 ≤ setsP op x → setsP op x < ts.length) (hy : op = 3 → 0 ≤ y ∧ y < ts.length) :
    Calls Tryz.prog 38 #[vg, .agg #[.int .i64 op, .int .i64 x, .int .i64 y, .int .i64 n, .slice A m c], .int .i64 (mm : Nat)] w (AxRet w (accL ts op x y mm.testBit)) := by
  have HG := Lib.hid hg
  obtain ⟨g, At, ct, vb, Al, cl, rfl, hgB, -, -, -, -, -, htl, hpl⟩ := hg.open_
  have HS := Lib.hid hs
  have HY := Lib.hid hy
  clear hg hs hy
  go_enter Tryz.func38, Tryz.ntmps38
  go_upto_region 2 with (at_builtin; fail)
  have hbA := bel_a w (.cells #[.int .i64 op, .int .i64 x, .int .i64 y, .int .i64 n, .slice A m c] 72)
  have hRA := heap_alloc_new w (.cells #[.int .i64 op, .int .i64 x, .int .i64 y, .int .i64 n, .slice A m c] 72)
  have hsA : (w.alloc (.cells #[.int .i64 op, .int .i64 x, .int .i64 y, .int .i64 n, .slice A m c] 72)).heap.size = w.heap.size + 1 := by simp
  generalize w.alloc (.cells #[.int .i64 op, .int .i64 x, .int .i64 y, .int .i64 n, .slice A m c] 72) = W0 at *
  obtain ⟨bx, hbx⟩ : ∃ bx, bx = w.heap.size := ⟨_, rfl⟩
  rw [← hbx] at hRA hsA ⊢
  have y0 : W0.cell? ⟨bx, 0, none⟩ = some (.int .i64 op) := by rw [cell_of_row _ _ _ _ _ _ hRA]; rfl
  have y1 : W0.cell? ⟨bx, 1, none⟩ = some (.int .i64 x) := by rw [cell_of_row _ _ _ _ _ _ hRA]; rfl
  have y2 : W0.cell? ⟨bx, 2, none⟩ = some (.int .i64 y) := by rw [cell_of_row _ _ _ _ _ _ hRA]; rfl
  have y3 : W0.cell? ⟨bx, 3, none⟩ = some (.int .i64 n) := by rw [cell_of_row _ _ _ _ _ _ hRA]; rfl
  have y4 : W0.cell? ⟨bx, 4, none⟩ = some (.slice A m c) := by rw [cell_of_row _ _ _ _ _ _ hRA]; rfl
  have HBA := Lib.hid hbA
  have HBX := Lib.hid hbx
  have HON := Lib.hid (OAx.nil W0 (bx + 1))
  have HGW := Lib.hid (HG.out.low hbA hB)
  have hBx : B ≤ bx := by omega
  have HSA := Lib.hid hsA
  have hBW : B ≤ W0.heap.size := by omega
  have hbW : bx + 1 ≤ W0.heap.size := by omega
  clear hRA hbA hbx hB hsA
  rcases (by omega : op = 4 ∨ op = 6 ∨ op = 5 ∨ op = 7 ∨ op = 8 ∨ op = 3 ∨ (op ≠ 3 ∧ op ≠ 4 ∧ op ≠ 5 ∧ op ≠ 6 ∧ op ≠ 7 ∧ op ≠ 8)) with rfl | rfl | rfl | rfl | rfl | rfl | ho
  · have HA1 : Hid (acc1 ts 4 x y = [⟨y, false⟩]) := Lib.hid (by unfold acc1; simp)
    go_wp2_with (at_builtin; go_must (refine wpList_push_ax rfl (.tmp 14) (.tmp 18) rfl HON.out (by omega) (by simp) y false rfl rfl ?_); intro v' w' hP' hE'; (have z0 := (hE'.cell (p := ⟨bx, 0, none⟩) (by show bx < bx + 1; omega)).trans y0); (have z1 := (hE'.cell (p := ⟨bx, 1, none⟩) (by show bx < bx + 1; omega)).trans y1); (have z2 := (hE'.cell (p := ⟨bx, 2, none⟩) (by show bx < bx + 1; omega)).trans y2); (have z3 := (hE'.cell (p := ⟨bx, 3, none⟩) (by show bx < bx + 1; omega)).trans y3); (have z4 := (hE'.cell (p := ⟨bx, 4, none⟩) (by show bx < bx + 1; omega)).trans y4); (have HO := Lib.hid hP'); (have HBE := Lib.hid hE'); clear hP' hE' y0 y1 y2 y3 y4)
    have hsz' := HBE.out.size
    refine (sets_any _ _ _ _ _ _).mono ?_
    rintro e w5 ⟨rfl, hb5⟩
    obtain ⟨s, hs⟩ : ∃ s, s = setsP 4 x := ⟨_, rfl⟩
    have HSS := Lib.hid hs
    have HS2 := HS.out
    rw [← hs] at HS2 ⊢
    have HO5 := Lib.hid (HO.out.bel hb5)
    have HG5 := Lib.hid ((HGW.out.low HBE.out (by omega)).low hb5 (by omega))
    have HB5 := Lib.hid (HBA.out.trans ((HBE.out.mono (by rw [← HBX.out]; omega)).trans (hb5.mono (by rw [← HBX.out]; omega))))
    have hs5 := hb5.size
    clear z0 z1 z2 z3 z4 hs hb5
    by_cases hs0 : 0 ≤ s
    · have hs1 : decide (s ≥ 0) = true := by simpa using hs0
      have hsl := HS2 hs0
      obtain ⟨k, rfl⟩ : ∃ k : Nat, s = k := ⟨s.toNat, by omega⟩
      have hk6 : k < ts.length := by omega
      obtain ⟨g', At', ct', vb', Al', cl', e, -, g0, -, -, ht, -, -, -⟩ := HG5.out.open_
      injection e with e
      injection e with e
      injection e with e7 e8
      subst e7
      obtain ⟨bt, ot, ct2, e, hbt, -, -, hct2⟩ := ht.get (i := (k : Nat)) (by omega) hsl
      injection e with e1 e9 e2
      subst e1 e2
      rw [Int.toNat_natCast] at hct2
      clear e8 e9 hs0 hsl HS2 ht
      by_cases hty : typeOfP ts (k : Nat) = 2
      · rw [hty] at hct2
        obtain ⟨q, hq⟩ : ∃ q : Nat, ((mm : Nat) : Int) / 2 ^ k = q := ⟨mm / 2 ^ k, by simp⟩
        have hq' : q = mm / 2 ^ k := by
          have : ((mm / 2 ^ k : Nat) : Int) = q := by rw [← hq]; simp
          omega
        have hq64 : q ≤ 63 := by rw [hq']; exact Nat.le_trans (Nat.div_le_self _ _) (by omega)
        have hbt2 := bit_test hq' hq64
        clear hq'
        cases hbk : mm.testBit k
        · rw [hbk] at hbt2
          have HL : Hid (accL ts 4 x y mm.testBit = [⟨y, false⟩]) := Lib.hid (by unfold accL acc2; rw [HA1.out, ← HSS.out, if_neg (fun h => by have h3 := h.2.2; rw [Int.toNat_natCast, hbk] at h3; cases h3), List.append_nil])
          clear hbk
          go_wp2_with (at_builtin; fail)
          go_ret
          exact ⟨_, rfl, by rw [HL.out]; exact HO5.out.toS (by simp), HB5.out⟩
        · rw [hbk] at hbt2
          have HL : Hid (accL ts 4 x y mm.testBit = [⟨y, false⟩] ++ [⟨(k : Nat), true⟩]) := Lib.hid (by unfold accL acc2; rw [HA1.out, ← HSS.out, if_pos ⟨by omega, hty, by rw [Int.toNat_natCast]; exact hbk⟩])
          clear hbk
          go_wp2_with (at_builtin; go_must (refine wpList_push_ax rfl (.tmp 71) (.tmp 74) rfl HO5.out (by omega) (by simp) (k : Nat) true rfl rfl ?_); intro v9 w9 hP9 hE9)
          go_ret
          exact ⟨_, rfl, by rw [HL.out]; exact hP9.toS (by simp), HB5.out.trans (hE9.mono (by rw [← HBX.out]; omega))⟩
      · have hty2 : ((typeOfP ts (k : Nat)) == 2) = false := by simpa using hty
        have HL : Hid (accL ts 4 x y mm.testBit = [⟨y, false⟩]) := Lib.hid (by unfold accL acc2; rw [HA1.out, ← HSS.out, if_neg (fun h => hty h.2.1), List.append_nil])
        clear hty
        go_wp2_with (at_builtin; fail)
        go_ret
        exact ⟨_, rfl, by rw [HL.out]; exact HO5.out.toS (by simp), HB5.out⟩
    · have hs1 : decide (s ≥ 0) = false := by simpa using hs0
      have HL : Hid (accL ts 4 x y mm.testBit = [⟨y, false⟩]) := Lib.hid (by unfold accL acc2; rw [HA1.out, ← HSS.out, if_neg (fun h => hs0 h.1), List.append_nil])
      clear hs0 HS2
      go_wp2_with (at_builtin; fail)
      go_ret
      exact ⟨_, rfl, by rw [HL.out]; exact HO5.out.toS (by simp), HB5.out⟩
  · have HA1 : Hid (acc1 ts 6 x y = [⟨y, false⟩]) := Lib.hid (by unfold acc1; simp)
    go_wp2_with (at_builtin; go_must (refine wpList_push_ax rfl (.tmp 14) (.tmp 18) rfl HON.out (by omega) (by simp) y false rfl rfl ?_); intro v' w' hP' hE'; (have z0 := (hE'.cell (p := ⟨bx, 0, none⟩) (by show bx < bx + 1; omega)).trans y0); (have z1 := (hE'.cell (p := ⟨bx, 1, none⟩) (by show bx < bx + 1; omega)).trans y1); (have z2 := (hE'.cell (p := ⟨bx, 2, none⟩) (by show bx < bx + 1; omega)).trans y2); (have z3 := (hE'.cell (p := ⟨bx, 3, none⟩) (by show bx < bx + 1; omega)).trans y3); (have z4 := (hE'.cell (p := ⟨bx, 4, none⟩) (by show bx < bx + 1; omega)).trans y4); (have HO := Lib.hid hP'); (have HBE := Lib.hid hE'); clear hP' hE' y0 y1 y2 y3 y4)
    have hsz' := HBE.out.size
    refine (sets_any _ _ _ _ _ _).mono ?_
    rintro e w5 ⟨rfl, hb5⟩
    obtain ⟨s, hs⟩ : ∃ s, s = setsP 6 x := ⟨_, rfl⟩
    have HSS := Lib.hid hs
    have HS2 := HS.out
    rw [← hs] at HS2 ⊢
    have HO5 := Lib.hid (HO.out.bel hb5)
    have HG5 := Lib.hid ((HGW.out.low HBE.out (by omega)).low hb5 (by omega))
    have HB5 := Lib.hid (HBA.out.trans ((HBE.out.mono (by rw [← HBX.out]; omega)).trans (hb5.mono (by rw [← HBX.out]; omega))))
    have hs5 := hb5.size
    clear z0 z1 z2 z3 z4 hs hb5
    by_cases hs0 : 0 ≤ s
    · have hs1 : decide (s ≥ 0) = true := by simpa using hs0
      have hsl := HS2 hs0
      obtain ⟨k, rfl⟩ : ∃ k : Nat, s = k := ⟨s.toNat, by omega⟩
      have hk6 : k < ts.length := by omega
      obtain ⟨g', At', ct', vb', Al', cl', e, -, g0, -, -, ht, -, -, -⟩ := HG5.out.open_
      injection e with e
      injection e with e
      injection e with e7 e8
      subst e7
      obtain ⟨bt, ot, ct2, e, hbt, -, -, hct2⟩ := ht.get (i := (k : Nat)) (by omega) hsl
      injection e with e1 e9 e2
      subst e1 e2
      rw [Int.toNat_natCast] at hct2
      clear e8 e9 hs0 hsl HS2 ht
      by_cases hty : typeOfP ts (k : Nat) = 2
      · rw [hty] at hct2
        obtain ⟨q, hq⟩ : ∃ q : Nat, ((mm : Nat) : Int) / 2 ^ k = q := ⟨mm / 2 ^ k, by simp⟩
        have hq' : q = mm / 2 ^ k := by
          have : ((mm / 2 ^ k : Nat) : Int) = q := by rw [← hq]; simp
          omega
        have hq64 : q ≤ 63 := by rw [hq']; exact Nat.le_trans (Nat.div_le_self _ _) (by omega)
        have hbt2 := bit_test hq' hq64
        clear hq'
        cases hbk : mm.testBit k
        · rw [hbk] at hbt2
          have HL : Hid (accL ts 6 x y mm.testBit = [⟨y, false⟩]) := Lib.hid (by unfold accL acc2; rw [HA1.out, ← HSS.out, if_neg (fun h => by have h3 := h.2.2; rw [Int.toNat_natCast, hbk] at h3; cases h3), List.append_nil])
          clear hbk
          go_wp2_with (at_builtin; fail)
          go_ret
          exact ⟨_, rfl, by rw [HL.out]; exact HO5.out.toS (by simp), HB5.out⟩
        · rw [hbk] at hbt2
          have HL : Hid (accL ts 6 x y mm.testBit = [⟨y, false⟩] ++ [⟨(k : Nat), true⟩]) := Lib.hid (by unfold accL acc2; rw [HA1.out, ← HSS.out, if_pos ⟨by omega, hty, by rw [Int.toNat_natCast]; exact hbk⟩])
          clear hbk
          go_wp2_with (at_builtin; go_must (refine wpList_push_ax rfl (.tmp 71) (.tmp 74) rfl HO5.out (by omega) (by simp) (k : Nat) true rfl rfl ?_); intro v9 w9 hP9 hE9)
          go_ret
          exact ⟨_, rfl, by rw [HL.out]; exact hP9.toS (by simp), HB5.out.trans (hE9.mono (by rw [← HBX.out]; omega))⟩
      · have hty2 : ((typeOfP ts (k : Nat)) == 2) = false := by simpa using hty
        have HL : Hid (accL ts 6 x y mm.testBit = [⟨y, false⟩]) := Lib.hid (by unfold accL acc2; rw [HA1.out, ← HSS.out, if_neg (fun h => hty h.2.1), List.append_nil])
        clear hty
        go_wp2_with (at_builtin; fail)
        go_ret
        exact ⟨_, rfl, by rw [HL.out]; exact HO5.out.toS (by simp), HB5.out⟩
    · have hs1 : decide (s ≥ 0) = false := by simpa using hs0
      have HL : Hid (accL ts 6 x y mm.testBit = [⟨y, false⟩]) := Lib.hid (by unfold accL acc2; rw [HA1.out, ← HSS.out, if_neg (fun h => hs0 h.1), List.append_nil])
      clear hs0 HS2
      go_wp2_with (at_builtin; fail)
      go_ret
      exact ⟨_, rfl, by rw [HL.out]; exact HO5.out.toS (by simp), HB5.out⟩
  · have HA1 : Hid (acc1 ts 5 x y = [⟨y, true⟩]) := Lib.hid (by unfold acc1; simp)
    go_wp2_with (at_builtin; go_must (refine wpList_push_ax rfl (.tmp 22) (.tmp 26) rfl HON.out (by omega) (by simp) y true rfl rfl ?_); intro v' w' hP' hE'; (have z0 := (hE'.cell (p := ⟨bx, 0, none⟩) (by show bx < bx + 1; omega)).trans y0); (have z1 := (hE'.cell (p := ⟨bx, 1, none⟩) (by show bx < bx + 1; omega)).trans y1); (have z2 := (hE'.cell (p := ⟨bx, 2, none⟩) (by show bx < bx + 1; omega)).trans y2); (have z3 := (hE'.cell (p := ⟨bx, 3, none⟩) (by show bx < bx + 1; omega)).trans y3); (have z4 := (hE'.cell (p := ⟨bx, 4, none⟩) (by show bx < bx + 1; omega)).trans y4); (have HO := Lib.hid hP'); (have HBE := Lib.hid hE'); clear hP' hE' y0 y1 y2 y3 y4)
    have hsz' := HBE.out.size
    refine (sets_any _ _ _ _ _ _).mono ?_
    rintro e w5 ⟨rfl, hb5⟩
    obtain ⟨s, hs⟩ : ∃ s, s = setsP 5 x := ⟨_, rfl⟩
    have HSS := Lib.hid hs
    have HS2 := HS.out
    rw [← hs] at HS2 ⊢
    have HO5 := Lib.hid (HO.out.bel hb5)
    have HG5 := Lib.hid ((HGW.out.low HBE.out (by omega)).low hb5 (by omega))
    have HB5 := Lib.hid (HBA.out.trans ((HBE.out.mono (by rw [← HBX.out]; omega)).trans (hb5.mono (by rw [← HBX.out]; omega))))
    have hs5 := hb5.size
    clear z0 z1 z2 z3 z4 hs hb5
    by_cases hs0 : 0 ≤ s
    · have hs1 : decide (s ≥ 0) = true := by simpa using hs0
      have hsl := HS2 hs0
      obtain ⟨k, rfl⟩ : ∃ k : Nat, s = k := ⟨s.toNat, by omega⟩
      have hk6 : k < ts.length := by omega
      obtain ⟨g', At', ct', vb', Al', cl', e, -, g0, -, -, ht, -, -, -⟩ := HG5.out.open_
      injection e with e
      injection e with e
      injection e with e7 e8
      subst e7
      obtain ⟨bt, ot, ct2, e, hbt, -, -, hct2⟩ := ht.get (i := (k : Nat)) (by omega) hsl
      injection e with e1 e9 e2
      subst e1 e2
      rw [Int.toNat_natCast] at hct2
      clear e8 e9 hs0 hsl HS2 ht
      by_cases hty : typeOfP ts (k : Nat) = 2
      · rw [hty] at hct2
        obtain ⟨q, hq⟩ : ∃ q : Nat, ((mm : Nat) : Int) / 2 ^ k = q := ⟨mm / 2 ^ k, by simp⟩
        have hq' : q = mm / 2 ^ k := by
          have : ((mm / 2 ^ k : Nat) : Int) = q := by rw [← hq]; simp
          omega
        have hq64 : q ≤ 63 := by rw [hq']; exact Nat.le_trans (Nat.div_le_self _ _) (by omega)
        have hbt2 := bit_test hq' hq64
        clear hq'
        cases hbk : mm.testBit k
        · rw [hbk] at hbt2
          have HL : Hid (accL ts 5 x y mm.testBit = [⟨y, true⟩]) := Lib.hid (by unfold accL acc2; rw [HA1.out, ← HSS.out, if_neg (fun h => by have h3 := h.2.2; rw [Int.toNat_natCast, hbk] at h3; cases h3), List.append_nil])
          clear hbk
          go_wp2_with (at_builtin; fail)
          go_ret
          exact ⟨_, rfl, by rw [HL.out]; exact HO5.out.toS (by simp), HB5.out⟩
        · rw [hbk] at hbt2
          have HL : Hid (accL ts 5 x y mm.testBit = [⟨y, true⟩] ++ [⟨(k : Nat), true⟩]) := Lib.hid (by unfold accL acc2; rw [HA1.out, ← HSS.out, if_pos ⟨by omega, hty, by rw [Int.toNat_natCast]; exact hbk⟩])
          clear hbk
          go_wp2_with (at_builtin; go_must (refine wpList_push_ax rfl (.tmp 71) (.tmp 74) rfl HO5.out (by omega) (by simp) (k : Nat) true rfl rfl ?_); intro v9 w9 hP9 hE9)
          go_ret
          exact ⟨_, rfl, by rw [HL.out]; exact hP9.toS (by simp), HB5.out.trans (hE9.mono (by rw [← HBX.out]; omega))⟩
      · have hty2 : ((typeOfP ts (k : Nat)) == 2) = false := by simpa using hty
        have HL : Hid (accL ts 5 x y mm.testBit = [⟨y, true⟩]) := Lib.hid (by unfold accL acc2; rw [HA1.out, ← HSS.out, if_neg (fun h => hty h.2.1), List.append_nil])
        clear hty
        go_wp2_with (at_builtin; fail)
        go_ret
        exact ⟨_, rfl, by rw [HL.out]; exact HO5.out.toS (by simp), HB5.out⟩
    · have hs1 : decide (s ≥ 0) = false := by simpa using hs0
      have HL : Hid (accL ts 5 x y mm.testBit = [⟨y, true⟩]) := Lib.hid (by unfold accL acc2; rw [HA1.out, ← HSS.out, if_neg (fun h => hs0 h.1), List.append_nil])
      clear hs0 HS2
      go_wp2_with (at_builtin; fail)
      go_ret
      exact ⟨_, rfl, by rw [HL.out]; exact HO5.out.toS (by simp), HB5.out⟩
  · have HA1 : Hid (acc1 ts 7 x y = [⟨x, true⟩]) := Lib.hid (by unfold acc1; simp)
    go_wp2_with (at_builtin; go_must (refine wpList_push_ax rfl (.tmp 31) (.tmp 35) rfl HON.out (by omega) (by simp) x true rfl rfl ?_); intro v' w' hP' hE'; (have z0 := (hE'.cell (p := ⟨bx, 0, none⟩) (by show bx < bx + 1; omega)).trans y0); (have z1 := (hE'.cell (p := ⟨bx, 1, none⟩) (by show bx < bx + 1; omega)).trans y1); (have z2 := (hE'.cell (p := ⟨bx, 2, none⟩) (by show bx < bx + 1; omega)).trans y2); (have z3 := (hE'.cell (p := ⟨bx, 3, none⟩) (by show bx < bx + 1; omega)).trans y3); (have z4 := (hE'.cell (p := ⟨bx, 4, none⟩) (by show bx < bx + 1; omega)).trans y4); (have HO := Lib.hid hP'); (have HBE := Lib.hid hE'); clear hP' hE' y0 y1 y2 y3 y4)
    have hsz' := HBE.out.size
    refine (sets_any _ _ _ _ _ _).mono ?_
    rintro e w5 ⟨rfl, hb5⟩
    obtain ⟨s, hs⟩ : ∃ s, s = setsP 7 x := ⟨_, rfl⟩
    have HSS := Lib.hid hs
    have HS2 := HS.out
    rw [← hs] at HS2 ⊢
    have HO5 := Lib.hid (HO.out.bel hb5)
    have HG5 := Lib.hid ((HGW.out.low HBE.out (by omega)).low hb5 (by omega))
    have HB5 := Lib.hid (HBA.out.trans ((HBE.out.mono (by rw [← HBX.out]; omega)).trans (hb5.mono (by rw [← HBX.out]; omega))))
    have hs5 := hb5.size
    clear z0 z1 z2 z3 z4 hs hb5
    by_cases hs0 : 0 ≤ s
    · have hs1 : decide (s ≥ 0) = true := by simpa using hs0
      have hsl := HS2 hs0
      obtain ⟨k, rfl⟩ : ∃ k : Nat, s = k := ⟨s.toNat, by omega⟩
      have hk6 : k < ts.length := by omega
      obtain ⟨g', At', ct', vb', Al', cl', e, -, g0, -, -, ht, -, -, -⟩ := HG5.out.open_
      injection e with e
      injection e with e
      injection e with e7 e8
      subst e7
      obtain ⟨bt, ot, ct2, e, hbt, -, -, hct2⟩ := ht.get (i := (k : Nat)) (by omega) hsl
      injection e with e1 e9 e2
      subst e1 e2
      rw [Int.toNat_natCast] at hct2
      clear e8 e9 hs0 hsl HS2 ht
      by_cases hty : typeOfP ts (k : Nat) = 2
      · rw [hty] at hct2
        obtain ⟨q, hq⟩ : ∃ q : Nat, ((mm : Nat) : Int) / 2 ^ k = q := ⟨mm / 2 ^ k, by simp⟩
        have hq' : q = mm / 2 ^ k := by
          have : ((mm / 2 ^ k : Nat) : Int) = q := by rw [← hq]; simp
          omega
        have hq64 : q ≤ 63 := by rw [hq']; exact Nat.le_trans (Nat.div_le_self _ _) (by omega)
        have hbt2 := bit_test hq' hq64
        clear hq'
        cases hbk : mm.testBit k
        · rw [hbk] at hbt2
          have HL : Hid (accL ts 7 x y mm.testBit = [⟨x, true⟩]) := Lib.hid (by unfold accL acc2; rw [HA1.out, ← HSS.out, if_neg (fun h => by have h3 := h.2.2; rw [Int.toNat_natCast, hbk] at h3; cases h3), List.append_nil])
          clear hbk
          go_wp2_with (at_builtin; fail)
          go_ret
          exact ⟨_, rfl, by rw [HL.out]; exact HO5.out.toS (by simp), HB5.out⟩
        · rw [hbk] at hbt2
          have HL : Hid (accL ts 7 x y mm.testBit = [⟨x, true⟩] ++ [⟨(k : Nat), true⟩]) := Lib.hid (by unfold accL acc2; rw [HA1.out, ← HSS.out, if_pos ⟨by omega, hty, by rw [Int.toNat_natCast]; exact hbk⟩])
          clear hbk
          go_wp2_with (at_builtin; go_must (refine wpList_push_ax rfl (.tmp 71) (.tmp 74) rfl HO5.out (by omega) (by simp) (k : Nat) true rfl rfl ?_); intro v9 w9 hP9 hE9)
          go_ret
          exact ⟨_, rfl, by rw [HL.out]; exact hP9.toS (by simp), HB5.out.trans (hE9.mono (by rw [← HBX.out]; omega))⟩
      · have hty2 : ((typeOfP ts (k : Nat)) == 2) = false := by simpa using hty
        have HL : Hid (accL ts 7 x y mm.testBit = [⟨x, true⟩]) := Lib.hid (by unfold accL acc2; rw [HA1.out, ← HSS.out, if_neg (fun h => hty h.2.1), List.append_nil])
        clear hty
        go_wp2_with (at_builtin; fail)
        go_ret
        exact ⟨_, rfl, by rw [HL.out]; exact HO5.out.toS (by simp), HB5.out⟩
    · have hs1 : decide (s ≥ 0) = false := by simpa using hs0
      have HL : Hid (accL ts 7 x y mm.testBit = [⟨x, true⟩]) := Lib.hid (by unfold accL acc2; rw [HA1.out, ← HSS.out, if_neg (fun h => hs0 h.1), List.append_nil])
      clear hs0 HS2
      go_wp2_with (at_builtin; fail)
      go_ret
      exact ⟨_, rfl, by rw [HL.out]; exact HO5.out.toS (by simp), HB5.out⟩
  · have HA1 : Hid (acc1 ts 8 x y = [⟨x, true⟩]) := Lib.hid (by unfold acc1; simp)
    go_wp2_with (at_builtin; go_must (refine wpList_push_ax rfl (.tmp 31) (.tmp 35) rfl HON.out (by omega) (by simp) x true rfl rfl ?_); intro v' w' hP' hE'; (have z0 := (hE'.cell (p := ⟨bx, 0, none⟩) (by show bx < bx + 1; omega)).trans y0); (have z1 := (hE'.cell (p := ⟨bx, 1, none⟩) (by show bx < bx + 1; omega)).trans y1); (have z2 := (hE'.cell (p := ⟨bx, 2, none⟩) (by show bx < bx + 1; omega)).trans y2); (have z3 := (hE'.cell (p := ⟨bx, 3, none⟩) (by show bx < bx + 1; omega)).trans y3); (have z4 := (hE'.cell (p := ⟨bx, 4, none⟩) (by show bx < bx + 1; omega)).trans y4); (have HO := Lib.hid hP'); (have HBE := Lib.hid hE'); clear hP' hE' y0 y1 y2 y3 y4)
    have hsz' := HBE.out.size
    refine (sets_any _ _ _ _ _ _).mono ?_
    rintro e w5 ⟨rfl, hb5⟩
    obtain ⟨s, hs⟩ : ∃ s, s = setsP 8 x := ⟨_, rfl⟩
    have HSS := Lib.hid hs
    have HS2 := HS.out
    rw [← hs] at HS2 ⊢
    have HO5 := Lib.hid (HO.out.bel hb5)
    have HG5 := Lib.hid ((HGW.out.low HBE.out (by omega)).low hb5 (by omega))
    have HB5 := Lib.hid (HBA.out.trans ((HBE.out.mono (by rw [← HBX.out]; omega)).trans (hb5.mono (by rw [← HBX.out]; omega))))
    have hs5 := hb5.size
    clear z0 z1 z2 z3 z4 hs hb5
    by_cases hs0 : 0 ≤ s
    · have hs1 : decide (s ≥ 0) = true := by simpa using hs0
      have hsl := HS2 hs0
      obtain ⟨k, rfl⟩ : ∃ k : Nat, s = k := ⟨s.toNat, by omega⟩
      have hk6 : k < ts.length := by omega
      obtain ⟨g', At', ct', vb', Al', cl', e, -, g0, -, -, ht, -, -, -⟩ := HG5.out.open_
      injection e with e
      injection e with e
      injection e with e7 e8
      subst e7
      obtain ⟨bt, ot, ct2, e, hbt, -, -, hct2⟩ := ht.get (i := (k : Nat)) (by omega) hsl
      injection e with e1 e9 e2
      subst e1 e2
      rw [Int.toNat_natCast] at hct2
      clear e8 e9 hs0 hsl HS2 ht
      by_cases hty : typeOfP ts (k : Nat) = 2
      · rw [hty] at hct2
        obtain ⟨q, hq⟩ : ∃ q : Nat, ((mm : Nat) : Int) / 2 ^ k = q := ⟨mm / 2 ^ k, by simp⟩
        have hq' : q = mm / 2 ^ k := by
          have : ((mm / 2 ^ k : Nat) : Int) = q := by rw [← hq]; simp
          omega
        have hq64 : q ≤ 63 := by rw [hq']; exact Nat.le_trans (Nat.div_le_self _ _) (by omega)
        have hbt2 := bit_test hq' hq64
        clear hq'
        cases hbk : mm.testBit k
        · rw [hbk] at hbt2
          have HL : Hid (accL ts 8 x y mm.testBit = [⟨x, true⟩]) := Lib.hid (by unfold accL acc2; rw [HA1.out, ← HSS.out, if_neg (fun h => by have h3 := h.2.2; rw [Int.toNat_natCast, hbk] at h3; cases h3), List.append_nil])
          clear hbk
          go_wp2_with (at_builtin; fail)
          go_ret
          exact ⟨_, rfl, by rw [HL.out]; exact HO5.out.toS (by simp), HB5.out⟩
        · rw [hbk] at hbt2
          have HL : Hid (accL ts 8 x y mm.testBit = [⟨x, true⟩] ++ [⟨(k : Nat), true⟩]) := Lib.hid (by unfold accL acc2; rw [HA1.out, ← HSS.out, if_pos ⟨by omega, hty, by rw [Int.toNat_natCast]; exact hbk⟩])
          clear hbk
          go_wp2_with (at_builtin; go_must (refine wpList_push_ax rfl (.tmp 71) (.tmp 74) rfl HO5.out (by omega) (by simp) (k : Nat) true rfl rfl ?_); intro v9 w9 hP9 hE9)
          go_ret
          exact ⟨_, rfl, by rw [HL.out]; exact hP9.toS (by simp), HB5.out.trans (hE9.mono (by rw [← HBX.out]; omega))⟩
      · have hty2 : ((typeOfP ts (k : Nat)) == 2) = false := by simpa using hty
        have HL : Hid (accL ts 8 x y mm.testBit = [⟨x, true⟩]) := Lib.hid (by unfold accL acc2; rw [HA1.out, ← HSS.out, if_neg (fun h => hty h.2.1), List.append_nil])
        clear hty
        go_wp2_with (at_builtin; fail)
        go_ret
        exact ⟨_, rfl, by rw [HL.out]; exact HO5.out.toS (by simp), HB5.out⟩
    · have hs1 : decide (s ≥ 0) = false := by simpa using hs0
      have HL : Hid (accL ts 8 x y mm.testBit = [⟨x, true⟩]) := Lib.hid (by unfold accL acc2; rw [HA1.out, ← HSS.out, if_neg (fun h => hs0 h.1), List.append_nil])
      clear hs0 HS2
      go_wp2_with (at_builtin; fail)
      go_ret
      exact ⟨_, rfl, by rw [HL.out]; exact HO5.out.toS (by simp), HB5.out⟩
  · obtain ⟨hy0, hyl⟩ := HY.out rfl
    go_wp2_with (at_builtin; fail)
    refine (takes_any _ ts pts B y _ HGW.out hy0 hyl).mono ?_
    rintro e w3 ⟨rfl, rfl⟩
    cases htk : takesP ts y
    · have HA1 : Hid (acc1 ts 3 x y = []) := Lib.hid (by unfold acc1; rw [htk]; simp)
      go_wp2_with (at_builtin; fail)
      have z0 := y0
      have z1 := y1
      have z2 := y2
      have z3 := y3
      have z4 := y4
      have HO := HON
      have HBE := Lib.hid (Below.refl (bx + 1) W0)
      clear y0 y1 y2 y3 y4
      obtain ⟨w', rfl⟩ : ∃ w' : World, w' = W0 := ⟨_, rfl⟩
      have hsz' := HBE.out.size
      refine (sets_any _ _ _ _ _ _).mono ?_
      rintro e w5 ⟨rfl, hb5⟩
      obtain ⟨s, hs⟩ : ∃ s, s = setsP 3 x := ⟨_, rfl⟩
      have HSS := Lib.hid hs
      have HS2 := HS.out
      rw [← hs] at HS2 ⊢
      have HO5 := Lib.hid (HO.out.bel hb5)
      have HG5 := Lib.hid ((HGW.out.low HBE.out (by omega)).low hb5 (by omega))
      have HB5 := Lib.hid (HBA.out.trans ((HBE.out.mono (by rw [← HBX.out]; omega)).trans (hb5.mono (by rw [← HBX.out]; omega))))
      have hs5 := hb5.size
      clear z0 z1 z2 z3 z4 hs hb5
      by_cases hs0 : 0 ≤ s
      · have hs1 : decide (s ≥ 0) = true := by simpa using hs0
        have hsl := HS2 hs0
        obtain ⟨k, rfl⟩ : ∃ k : Nat, s = k := ⟨s.toNat, by omega⟩
        have hk6 : k < ts.length := by omega
        obtain ⟨g', At', ct', vb', Al', cl', e, -, g0, -, -, ht, -, -, -⟩ := HG5.out.open_
        injection e with e
        injection e with e
        injection e with e7 e8
        subst e7
        obtain ⟨bt, ot, ct2, e, hbt, -, -, hct2⟩ := ht.get (i := (k : Nat)) (by omega) hsl
        injection e with e1 e9 e2
        subst e1 e2
        rw [Int.toNat_natCast] at hct2
        clear e8 e9 hs0 hsl HS2 ht
        by_cases hty : typeOfP ts (k : Nat) = 2
        · rw [hty] at hct2
          obtain ⟨q, hq⟩ : ∃ q : Nat, ((mm : Nat) : Int) / 2 ^ k = q := ⟨mm / 2 ^ k, by simp⟩
          have hq' : q = mm / 2 ^ k := by
            have : ((mm / 2 ^ k : Nat) : Int) = q := by rw [← hq]; simp
            omega
          have hq64 : q ≤ 63 := by rw [hq']; exact Nat.le_trans (Nat.div_le_self _ _) (by omega)
          have hbt2 := bit_test hq' hq64
          clear hq'
          cases hbk : mm.testBit k
          · rw [hbk] at hbt2
            have HL : Hid (accL ts 3 x y mm.testBit = []) := Lib.hid (by unfold accL acc2; rw [HA1.out, ← HSS.out, if_neg (fun h => by have h3 := h.2.2; rw [Int.toNat_natCast, hbk] at h3; cases h3), List.append_nil])
            clear hbk
            go_wp2_with (at_builtin; fail)
            go_ret
            exact ⟨_, rfl, by rw [HL.out]; exact HO5.out.toS (by simp), HB5.out⟩
          · rw [hbk] at hbt2
            have HL : Hid (accL ts 3 x y mm.testBit = [] ++ [⟨(k : Nat), true⟩]) := Lib.hid (by unfold accL acc2; rw [HA1.out, ← HSS.out, if_pos ⟨by omega, hty, by rw [Int.toNat_natCast]; exact hbk⟩])
            clear hbk
            go_wp2_with (at_builtin; go_must (refine wpList_push_ax rfl (.tmp 71) (.tmp 74) rfl HO5.out (by omega) (by simp) (k : Nat) true rfl rfl ?_); intro v9 w9 hP9 hE9)
            go_ret
            exact ⟨_, rfl, by rw [HL.out]; exact hP9.toS (by simp), HB5.out.trans (hE9.mono (by rw [← HBX.out]; omega))⟩
        · have hty2 : ((typeOfP ts (k : Nat)) == 2) = false := by simpa using hty
          have HL : Hid (accL ts 3 x y mm.testBit = []) := Lib.hid (by unfold accL acc2; rw [HA1.out, ← HSS.out, if_neg (fun h => hty h.2.1), List.append_nil])
          clear hty
          go_wp2_with (at_builtin; fail)
          go_ret
          exact ⟨_, rfl, by rw [HL.out]; exact HO5.out.toS (by simp), HB5.out⟩
      · have hs1 : decide (s ≥ 0) = false := by simpa using hs0
        have HL : Hid (accL ts 3 x y mm.testBit = []) := Lib.hid (by unfold accL acc2; rw [HA1.out, ← HSS.out, if_neg (fun h => hs0 h.1), List.append_nil])
        clear hs0 HS2
        go_wp2_with (at_builtin; fail)
        go_ret
        exact ⟨_, rfl, by rw [HL.out]; exact HO5.out.toS (by simp), HB5.out⟩
    · have HA1 : Hid (acc1 ts 3 x y = [⟨y, true⟩]) := Lib.hid (by unfold acc1; rw [htk]; simp)
      go_wp2_with (at_builtin; go_must (refine wpList_push_ax rfl (.tmp 43) (.tmp 47) rfl HON.out (by omega) (by simp) y true rfl rfl ?_); intro v' w' hP' hE'; (have z0 := (hE'.cell (p := ⟨bx, 0, none⟩) (by show bx < bx + 1; omega)).trans y0); (have z1 := (hE'.cell (p := ⟨bx, 1, none⟩) (by show bx < bx + 1; omega)).trans y1); (have z2 := (hE'.cell (p := ⟨bx, 2, none⟩) (by show bx < bx + 1; omega)).trans y2); (have z3 := (hE'.cell (p := ⟨bx, 3, none⟩) (by show bx < bx + 1; omega)).trans y3); (have z4 := (hE'.cell (p := ⟨bx, 4, none⟩) (by show bx < bx + 1; omega)).trans y4); (have HO := Lib.hid hP'); (have HBE := Lib.hid hE'); clear hP' hE' y0 y1 y2 y3 y4)
      have hsz' := HBE.out.size
      refine (sets_any _ _ _ _ _ _).mono ?_
      rintro e w5 ⟨rfl, hb5⟩
      obtain ⟨s, hs⟩ : ∃ s, s = setsP 3 x := ⟨_, rfl⟩
      have HSS := Lib.hid hs
      have HS2 := HS.out
      rw [← hs] at HS2 ⊢
      have HO5 := Lib.hid (HO.out.bel hb5)
      have HG5 := Lib.hid ((HGW.out.low HBE.out (by omega)).low hb5 (by omega))
      have HB5 := Lib.hid (HBA.out.trans ((HBE.out.mono (by rw [← HBX.out]; omega)).trans (hb5.mono (by rw [← HBX.out]; omega))))
      have hs5 := hb5.size
      clear z0 z1 z2 z3 z4 hs hb5
      by_cases hs0 : 0 ≤ s
      · have hs1 : decide (s ≥ 0) = true := by simpa using hs0
        have hsl := HS2 hs0
        obtain ⟨k, rfl⟩ : ∃ k : Nat, s = k := ⟨s.toNat, by omega⟩
        have hk6 : k < ts.length := by omega
        obtain ⟨g', At', ct', vb', Al', cl', e, -, g0, -, -, ht, -, -, -⟩ := HG5.out.open_
        injection e with e
        injection e with e
        injection e with e7 e8
        subst e7
        obtain ⟨bt, ot, ct2, e, hbt, -, -, hct2⟩ := ht.get (i := (k : Nat)) (by omega) hsl
        injection e with e1 e9 e2
        subst e1 e2
        rw [Int.toNat_natCast] at hct2
        clear e8 e9 hs0 hsl HS2 ht
        by_cases hty : typeOfP ts (k : Nat) = 2
        · rw [hty] at hct2
          obtain ⟨q, hq⟩ : ∃ q : Nat, ((mm : Nat) : Int) / 2 ^ k = q := ⟨mm / 2 ^ k, by simp⟩
          have hq' : q = mm / 2 ^ k := by
            have : ((mm / 2 ^ k : Nat) : Int) = q := by rw [← hq]; simp
            omega
          have hq64 : q ≤ 63 := by rw [hq']; exact Nat.le_trans (Nat.div_le_self _ _) (by omega)
          have hbt2 := bit_test hq' hq64
          clear hq'
          cases hbk : mm.testBit k
          · rw [hbk] at hbt2
            have HL : Hid (accL ts 3 x y mm.testBit = [⟨y, true⟩]) := Lib.hid (by unfold accL acc2; rw [HA1.out, ← HSS.out, if_neg (fun h => by have h3 := h.2.2; rw [Int.toNat_natCast, hbk] at h3; cases h3), List.append_nil])
            clear hbk
            go_wp2_with (at_builtin; fail)
            go_ret
            exact ⟨_, rfl, by rw [HL.out]; exact HO5.out.toS (by simp), HB5.out⟩
          · rw [hbk] at hbt2
            have HL : Hid (accL ts 3 x y mm.testBit = [⟨y, true⟩] ++ [⟨(k : Nat), true⟩]) := Lib.hid (by unfold accL acc2; rw [HA1.out, ← HSS.out, if_pos ⟨by omega, hty, by rw [Int.toNat_natCast]; exact hbk⟩])
            clear hbk
            go_wp2_with (at_builtin; go_must (refine wpList_push_ax rfl (.tmp 71) (.tmp 74) rfl HO5.out (by omega) (by simp) (k : Nat) true rfl rfl ?_); intro v9 w9 hP9 hE9)
            go_ret
            exact ⟨_, rfl, by rw [HL.out]; exact hP9.toS (by simp), HB5.out.trans (hE9.mono (by rw [← HBX.out]; omega))⟩
        · have hty2 : ((typeOfP ts (k : Nat)) == 2) = false := by simpa using hty
          have HL : Hid (accL ts 3 x y mm.testBit = [⟨y, true⟩]) := Lib.hid (by unfold accL acc2; rw [HA1.out, ← HSS.out, if_neg (fun h => hty h.2.1), List.append_nil])
          clear hty
          go_wp2_with (at_builtin; fail)
          go_ret
          exact ⟨_, rfl, by rw [HL.out]; exact HO5.out.toS (by simp), HB5.out⟩
      · have hs1 : decide (s ≥ 0) = false := by simpa using hs0
        have HL : Hid (accL ts 3 x y mm.testBit = [⟨y, true⟩]) := Lib.hid (by unfold accL acc2; rw [HA1.out, ← HSS.out, if_neg (fun h => hs0 h.1), List.append_nil])
        clear hs0 HS2
        go_wp2_with (at_builtin; fail)
        go_ret
        exact ⟨_, rfl, by rw [HL.out]; exact HO5.out.toS (by simp), HB5.out⟩
  · obtain ⟨h3, h4, h5, h6', h7, h8⟩ := ho
    have k3 : (op == 3) = false := by simpa using h3
    have k4 : (op == 4) = false := by simpa using h4
    have k5 : (op == 5) = false := by simpa using h5
    have k6 : (op == 6) = false := by simpa using h6'
    have k7 : (op == 7) = false := by simpa using h7
    have k8 : (op == 8) = false := by simpa using h8
    have HA1 : Hid (acc1 ts op x y = []) := Lib.hid (by unfold acc1; simp [h3, h4, h5, h6', h7, h8])
    clear h3 h4 h5 h6' h7 h8
    go_wp2_with (at_builtin; fail)
    have z0 := y0
    have z1 := y1
    have z2 := y2
    have z3 := y3
    have z4 := y4
    have HO := HON
    have HBE := Lib.hid (Below.refl (bx + 1) W0)
    clear y0 y1 y2 y3 y4
    obtain ⟨w', rfl⟩ : ∃ w' : World, w' = W0 := ⟨_, rfl⟩
    have hsz' := HBE.out.size
    refine (sets_any _ _ _ _ _ _).mono ?_
    rintro e w5 ⟨rfl, hb5⟩
    obtain ⟨s, hs⟩ : ∃ s, s = setsP op x := ⟨_, rfl⟩
    have HSS := Lib.hid hs
    have HS2 := HS.out
    rw [← hs] at HS2 ⊢
    have HO5 := Lib.hid (HO.out.bel hb5)
    have HG5 := Lib.hid ((HGW.out.low HBE.out (by omega)).low hb5 (by omega))
    have HB5 := Lib.hid (HBA.out.trans ((HBE.out.mono (by rw [← HBX.out]; omega)).trans (hb5.mono (by rw [← HBX.out]; omega))))
    have hs5 := hb5.size
    clear z0 z1 z2 z3 z4 hs hb5
    by_cases hs0 : 0 ≤ s
    · have hs1 : decide (s ≥ 0) = true := by simpa using hs0
      have hsl := HS2 hs0
      obtain ⟨k, rfl⟩ : ∃ k : Nat, s = k := ⟨s.toNat, by omega⟩
      have hk6 : k < ts.length := by omega
      obtain ⟨g', At', ct', vb', Al', cl', e, -, g0, -, -, ht, -, -, -⟩ := HG5.out.open_
      injection e with e
      injection e with e
      injection e with e7 e8
      subst e7
      obtain ⟨bt, ot, ct2, e, hbt, -, -, hct2⟩ := ht.get (i := (k : Nat)) (by omega) hsl
      injection e with e1 e9 e2
      subst e1 e2
      rw [Int.toNat_natCast] at hct2
      clear e8 e9 hs0 hsl HS2 ht
      by_cases hty : typeOfP ts (k : Nat) = 2
      · rw [hty] at hct2
        obtain ⟨q, hq⟩ : ∃ q : Nat, ((mm : Nat) : Int) / 2 ^ k = q := ⟨mm / 2 ^ k, by simp⟩
        have hq' : q = mm / 2 ^ k := by
          have : ((mm / 2 ^ k : Nat) : Int) = q := by rw [← hq]; simp
          omega
        have hq64 : q ≤ 63 := by rw [hq']; exact Nat.le_trans (Nat.div_le_self _ _) (by omega)
        have hbt2 := bit_test hq' hq64
        clear hq'
        cases hbk : mm.testBit k
        · rw [hbk] at hbt2
          have HL : Hid (accL ts op x y mm.testBit = []) := Lib.hid (by unfold accL acc2; rw [HA1.out, ← HSS.out, if_neg (fun h => by have h3 := h.2.2; rw [Int.toNat_natCast, hbk] at h3; cases h3), List.append_nil])
          clear hbk
          go_wp2_with (at_builtin; fail)
          go_ret
          exact ⟨_, rfl, by rw [HL.out]; exact HO5.out.toS (by simp), HB5.out⟩
        · rw [hbk] at hbt2
          have HL : Hid (accL ts op x y mm.testBit = [] ++ [⟨(k : Nat), true⟩]) := Lib.hid (by unfold accL acc2; rw [HA1.out, ← HSS.out, if_pos ⟨by omega, hty, by rw [Int.toNat_natCast]; exact hbk⟩])
          clear hbk
          go_wp2_with (at_builtin; go_must (refine wpList_push_ax rfl (.tmp 71) (.tmp 74) rfl HO5.out (by omega) (by simp) (k : Nat) true rfl rfl ?_); intro v9 w9 hP9 hE9)
          go_ret
          exact ⟨_, rfl, by rw [HL.out]; exact hP9.toS (by simp), HB5.out.trans (hE9.mono (by rw [← HBX.out]; omega))⟩
      · have hty2 : ((typeOfP ts (k : Nat)) == 2) = false := by simpa using hty
        have HL : Hid (accL ts op x y mm.testBit = []) := Lib.hid (by unfold accL acc2; rw [HA1.out, ← HSS.out, if_neg (fun h => hty h.2.1), List.append_nil])
        clear hty
        go_wp2_with (at_builtin; fail)
        go_ret
        exact ⟨_, rfl, by rw [HL.out]; exact HO5.out.toS (by simp), HB5.out⟩
    · have hs1 : decide (s ≥ 0) = false := by simpa using hs0
      have HL : Hid (accL ts op x y mm.testBit = []) := Lib.hid (by unfold accL acc2; rw [HA1.out, ← HSS.out, if_neg (fun h => hs0 h.1), List.append_nil])
      clear hs0 HS2
      go_wp2_with (at_builtin; fail)
      go_ret
      exact ⟨_, rfl, by rw [HL.out]; exact HO5.out.toS (by simp), HB5.out⟩

theorem fwdL_len (ev : Bool) (ts : List Int) (pts : List Pt) (first : Nat) : (fwdL ev ts pts first).length = pts.length := by simp [fwdL]
theorem accL_congr {ts : List Int} {op x y : Int} {f h : Nat → Bool} (hs : 0 ≤ setsP op x → setsP op x < ts.length) (e : ∀ v, v < ts.length → f v = h v) : accL ts op x y f = accL ts op x y h := by
  unfold accL acc2
  by_cases h0 : 0 ≤ setsP op x
  · rw [e _ (by have := hs h0; omega)]
  · rw [if_neg (fun h => h0 h.1), if_neg (fun h => h0 h.1)]
noncomputable def accRes (ts : List Int) (l : List St) (a : Int) : List Acc := if graphOk ts l [a] = true then accL ts (ptAt (ptsP l) a).op (ptAt (ptsP l) a).x (ptAt (ptsP l) a).y (fun v => dec (Ac false ts (ptsP l) 0 a.toNat v)) else []
set_option maxHeartbeats 2000000 in
set_option maxRecDepth 100000 in
theorem iAccessesOf_any (vt vb : Value) (ts : List Int) (l : List St) (a : Int) (B : Nat) (w : World) (ht : IntS w B vt ts) (hl : StS w B vb l) (hB : B ≤ w.heap.size) (hsz : szL l ≤ 4194300) :
    Calls Tryz.prog 11 #[.agg #[vt, vb], .int .i64 a] w (AxRet w (accRes ts l a)) := by
  have hb2 : ∀ o o', Below w.heap.size w ((w.alloc o).alloc o') := fun o o' => (bel_a w o).alloc (by simp) o'
  go_enter Tryz.func11, Tryz.ntmps11
  go_wp2_with fail
  refine (graphOf_any vt vb _ ts l [a] (w.heap.size + 2) _ ((ht.low (hb2 _ _) hB).more (by omega)) ((hl.low (hb2 _ _) hB).more (by omega)) (by simpa using ints_lit (w.alloc _) [a] 3 (by simp)) (by simp) hsz).mono ?_
  rintro e w1 ⟨vg, rfl, hgr, hb1⟩
  have hb3 := (hb2 _ _).trans (hb1.mono (by simp; omega))
  cases hok : graphOk ts l [a]
  · have HRES : Hid (accRes ts l a = []) := Lib.hid (by unfold accRes; rw [hok, if_neg (by simp)])
    clear hok hgr
    go_wp2_with fail
    go_ret
    exact ⟨_, rfl, by rw [HRES.out]; exact (OAx.nil w1 0).toS (by simp), hb3⟩
  · obtain ⟨hv, k, rfl, hk⟩ := graphOk_one hok
    have G := Good.of_valid hv
    have hgg := hgr hok
    have HGD := Lib.hid G
    have HH6 := Lib.hid G.h6
    have HSL := Lib.hid (G.ok _ (List.getElem_mem hk)).sets
    have HYL := Lib.hid (fun (ho : (ptsP l)[k].op = 3) => G.y (List.getElem?_eq_getElem hk) (by omega))
    have HML : Hid ((msk (fwdL false ts (ptsP l) 0)).length = (ptsP l).length) := Lib.hid (by rw [msk_len, fwdL_len])
    have HRES : Hid (accRes ts l (k : Nat) = accL ts (ptsP l)[k].op (ptsP l)[k].x (ptsP l)[k].y (fwdM false ts (ptsP l) 0 k).testBit) := Lib.hid (by
      unfold accRes
      rw [if_pos hok, ptAt_nat hk]
      refine accL_congr (fun _ => (G.ok _ (List.getElem_mem hk)).sets) fun v hv => ?_
      unfold fwdM
      rw [bm_bit, decide_eq_true hv, Bool.true_and, Int.toNat_natCast]
      cases dec (Ac false ts (ptsP l) 0 k v) <;> rfl)
    have HFM : Hid ((fwdL false ts (ptsP l) 0).getD k 0 = fwdM false ts (ptsP l) 0 k) := Lib.hid (fwdL_get hk)
    have HMM : Hid (fwdM false ts (ptsP l) 0 k < 64) := Lib.hid (Nat.lt_of_lt_of_le (bm_lt _ _) (Nat.pow_le_pow_right (n := 2) (by omega) G.h6))
    have HGG := Lib.hid hgg
    obtain ⟨g, At, ct, vb', Al, cl, rfl, hgB, g0, g1, g2, ht', hps, htl, hpl⟩ := hgg.open_
    obtain ⟨bp, op, cp, nv, e, hbp, hcp, hlp, hnx, z0, z1, z2, z3, z4⟩ := hps.get hk
    injection e with e1 e9 e2
    subst e1 e2
    obtain ⟨An, cn, rfl, hcn, hln, -⟩ := hnx
    simp only [List.length_map] at z4 hcn hln
    have HB3 := Lib.hid hb3
    generalize (ptsP l)[k] = P at *
    generalize fwdM false ts (ptsP l) 0 k = mm at *
    clear e9 hok hgr hv G g0 g1 hcp hlp ht' hgg hb1 hb3
    have BEL : Hid (∀ w', w'.cell? ⟨g, 2, none⟩ = some (.slice (some ⟨bp, op, none⟩) (ptsP l).length cl) ∧ w'.cell? ⟨bp, op + k * 5, none⟩ = some (.int .i64 P.op) ∧ w'.cell? ⟨bp, op + k * 5 + 1, none⟩ = some (.int .i64 P.x) ∧ w'.cell? ⟨bp, op + k * 5 + 2, none⟩ = some (.int .i64 P.y) ∧ w'.cell? ⟨bp, op + k * 5 + 3, none⟩ = some (.int .i64 P.n) ∧ w'.cell? ⟨bp, op + k * 5 + 4, none⟩ = some (.slice An P.next.length cn) ∧ Below w1.heap.size w1 w' → Below w1.heap.size w1 w') := Lib.hid fun _ h => h.2.2.2.2.2.2
    go_wp2_with fail
    refine wp_region_held_drew (S := (fun w' => w'.cell? ⟨g, 2, none⟩ = some (.slice (some ⟨bp, op, none⟩) (ptsP l).length cl) ∧ w'.cell? ⟨bp, op + k * 5, none⟩ = some (.int .i64 P.op) ∧ w'.cell? ⟨bp, op + k * 5 + 1, none⟩ = some (.int .i64 P.x) ∧ w'.cell? ⟨bp, op + k * 5 + 2, none⟩ = some (.int .i64 P.y) ∧ w'.cell? ⟨bp, op + k * 5 + 3, none⟩ = some (.int .i64 P.n) ∧ w'.cell? ⟨bp, op + k * 5 + 4, none⟩ = some (.slice An P.next.length cn) ∧ Below w1.heap.size w1 w')) (by kernel_rfl) ?_ (fun hHeld => ?_)
    · exact ⟨g2, z0, z1, z2, z3, z4, (Below.refl _ _).drew⟩
    refine wpAnyH_take (i := 0) (oi := ⟨some 16, _, _, _, _, _⟩) (v := ?_) rfl (by kernel_rfl) (by kernel_rfl) (by kernel_rfl) (fun _ _ _ h => h) (Or.inl ⟨by rfl, fun w' hSw => ?_⟩) (by assumption) ?_
    rotate_left
    · (try dsimp only at hSw); go_simp; (try with_reducible rfl)
    (try simp only [Act.put, List.setIfInBounds_toArray, List.set_cons_zero, List.set_cons_succ])
    refine wpAnyH_take (i := 1) (oi := ⟨some 17, _, _, _, _, _⟩) (v := ?_) rfl (by kernel_rfl) (by kernel_rfl) (by kernel_rfl) (fun _ _ _ h => h) (Or.inl ⟨by rfl, fun w' hSw => ?_⟩) (by assumption) ?_
    rotate_left
    · (try dsimp only at hSw); go_simp; (try with_reducible rfl)
    (try simp only [Act.put, List.setIfInBounds_toArray, List.set_cons_zero, List.set_cons_succ])
    refine wpAnyH_take (i := 2) (oi := ⟨some 18, _, _, _, _, _⟩) (v := ?_) rfl (by kernel_rfl) (by kernel_rfl) (by kernel_rfl) (fun _ _ _ h => h) (Or.inl ⟨by rfl, fun w' hSw => ?_⟩) (by assumption) ?_
    rotate_left
    · (try dsimp only at hSw); go_simp; (try with_reducible rfl)
    (try simp only [Act.put, List.setIfInBounds_toArray, List.set_cons_zero, List.set_cons_succ])
    refine wpAnyH_take (i := 3) (oi := ⟨some 19, _, _, _, _, _⟩) (v := ?_) rfl (by kernel_rfl) (by kernel_rfl) (by kernel_rfl) (fun _ _ _ h => h) (Or.inl ⟨by rfl, fun w' hSw => ?_⟩) (by assumption) ?_
    rotate_left
    · (try dsimp only at hSw); go_simp; (try with_reducible rfl)
    (try simp only [Act.put, List.setIfInBounds_toArray, List.set_cons_zero, List.set_cons_succ])
    refine wpAnyH_take (i := 4) (oi := ⟨some 20, _, _, _, _, _⟩) (v := ?_) rfl (by kernel_rfl) (by kernel_rfl) (by kernel_rfl) (fun _ _ _ h => h) (Or.inl ⟨by rfl, fun w' hSw => ?_⟩) (by assumption) ?_
    rotate_left
    · (try dsimp only at hSw); go_simp; (try with_reducible rfl)
    (try simp only [Act.put, List.setIfInBounds_toArray, List.set_cons_zero, List.set_cons_succ])
    refine wpAnyH_take (i := 5) (oi := ⟨some 21, _, _, _, _, _⟩) (v := ?_) rfl (by kernel_rfl) (by kernel_rfl) (by kernel_rfl) (fun _ _ _ h => h) (Or.inl ⟨by rfl, fun w' hSw => ?_⟩) (by assumption) ?_
    rotate_left
    · (try dsimp only at hSw); go_simp; (try with_reducible rfl)
    (try simp only [Act.put, List.setIfInBounds_toArray, List.set_cons_zero, List.set_cons_succ])
    refine wpAnyH_take (i := 6) (oi := ⟨some 22, _, _, _, _, _⟩) (v := ?_) rfl (by kernel_rfl) (by kernel_rfl) (by kernel_rfl) (fun _ _ _ h => h) (Or.inl ⟨by rfl, fun w' hSw => ?_⟩) (by assumption) ?_
    rotate_left
    · (try dsimp only at hSw); go_simp; (try with_reducible rfl)
    (try simp only [Act.put, List.setIfInBounds_toArray, List.set_cons_zero, List.set_cons_succ])
    refine wpAnyH_take (i := 7) (oi := ⟨some 23, _, _, _, _, _⟩) (v := ?_) rfl (by kernel_rfl) (by kernel_rfl) (by kernel_rfl) (fun _ _ _ h => h) (Or.inl ⟨by rfl, fun w' hSw => ?_⟩) (by assumption) ?_
    rotate_left
    · (try dsimp only at hSw); go_simp; (try with_reducible rfl)
    (try simp only [Act.put, List.setIfInBounds_toArray, List.set_cons_zero, List.set_cons_succ])
    refine wpAnyH_take (i := 8) (oi := ⟨some 24, _, _, _, _, _⟩) (v := ?_) rfl (by kernel_rfl) (by kernel_rfl) (by kernel_rfl) (fun _ _ _ h => h) (Or.inl ⟨by rfl, fun w' hSw => ?_⟩) (by assumption) ?_
    rotate_left
    · (try dsimp only at hSw); go_simp; (try with_reducible rfl)
    (try simp only [Act.put, List.setIfInBounds_toArray, List.set_cons_zero, List.set_cons_succ])
    refine wpAnyH_take (i := 10) (oi := ⟨some 26, _, _, _, _, _⟩) (v := ?_) rfl (by kernel_rfl) (by kernel_rfl) (by kernel_rfl) (fun _ _ _ h => h) (Or.inl ⟨by rfl, fun w' hSw => ?_⟩) (by assumption) ?_
    rotate_left
    · (try dsimp only at hSw); go_simp; (try with_reducible rfl)
    (try simp only [Act.put, List.setIfInBounds_toArray, List.set_cons_zero, List.set_cons_succ])
    refine wpAnyH_ready (rs := [9]) (by kernel_rfl) (by simp) ?_
    refine AllReadyH.cons (o := ⟨some 25, _, _, _, _, _⟩) rfl (fun K hK => ?_) AllReadyH.nil
    go_simp
    (refine (maybeSet_any _ ts (ptsP l) _ _ (HGG.out.low (BEL.out _ (by assumption)) (Nat.le_refl _)) (BEL.out _ (by assumption)).size HGD.out).mono ?_)
    (rintro e w7 ⟨v7, rfl, hv7, hb7⟩)
    (have BX7 := Lib.hid ((BEL.out _ (by assumption)).trans (hb7.mono (BEL.out _ (by assumption)).size)))
    (obtain ⟨A7, c7, rfl, hc7, -, hr7⟩ := hv7)
    (rw [HML.out] at hc7 ⊢)
    (obtain ⟨b7, o7, rfl, hb7l, hcell7⟩ := hr7.int_at (k := k) (by rw [HML.out]; exact hk))
    (have d7 := hcell7 k (by rw [HML.out]; exact hk))
    (rw [msk_get (by rw [fwdL_len]; exact hk), HFM.out] at d7)
    clear hcell7 hr7 hb7
    go_simp
    refine hK.out _ _ ?_ (fun hHeld => ?_)
    · exact ⟨belC BX7.out g2 hgB, belC BX7.out z0 hbp, belC BX7.out z1 hbp, belC BX7.out z2 hbp, belC BX7.out z3 hbp, belC BX7.out z4 hbp, BX7.out⟩
    clear hK K
    (try simp only [Act.put, List.setIfInBounds_toArray, List.set_cons_zero, List.set_cons_succ])
    refine wpAnyH_take (i := 11) (oi := ⟨some 27, _, _, _, _, _⟩) (v := ?_) rfl (by kernel_rfl) (by kernel_rfl) (by kernel_rfl) (fun _ _ _ h => h) (Or.inl ⟨by rfl, fun w' hSw => ?_⟩) (by assumption) ?_
    rotate_left
    · (try dsimp only at hSw); go_simp; (try with_reducible rfl)
    (try simp only [Act.put, List.setIfInBounds_toArray, List.set_cons_zero, List.set_cons_succ])
    refine wpAnyH_ready (rs := [12]) (by kernel_rfl) (by simp) ?_
    refine AllReadyH.cons (o := ⟨some 28, _, _, _, _, _⟩) rfl (fun K hK => ?_) AllReadyH.nil
    go_simp
    refine hK.out _ _ ?_ (fun hHeld => ?_)
    · exact ⟨belC BX7.out g2 hgB, belC BX7.out z0 hbp, belC BX7.out z1 hbp, belC BX7.out z2 hbp, belC BX7.out z3 hbp, belC BX7.out z4 hbp, BX7.out⟩
    clear hK K
    (try simp only [Act.put, List.setIfInBounds_toArray, List.set_cons_zero, List.set_cons_succ])
    refine wpAnyH_ready (rs := [13]) (by kernel_rfl) (by simp) ?_
    refine AllReadyH.cons (o := ⟨some 29, _, _, _, _, _⟩) rfl (fun K hK => ?_) AllReadyH.nil
    go_simp
    (refine (accesses_any _ ts (ptsP l) _ P.op P.x P.y P.n An P.next.length cn _ _ (HGG.out.low BX7.out (Nat.le_refl _)) BX7.out.size HMM.out HH6.out (fun _ => HSL.out) HYL.out).mono ?_)
    (rintro e w8 ⟨v8, rfl, hv8, hb8⟩)
    (have HV8 := Lib.hid hv8)
    (have BX8 := Lib.hid (BX7.out.trans (hb8.mono BX7.out.size)))
    clear hv8 hb8
    go_simp
    refine hK.out _ _ ?_ (fun hHeld => ?_)
    · exact ⟨belC BX8.out g2 hgB, belC BX8.out z0 hbp, belC BX8.out z1 hbp, belC BX8.out z2 hbp, belC BX8.out z3 hbp, belC BX8.out z4 hbp, BX8.out⟩
    clear hK K
    (try simp only [Act.put, List.setIfInBounds_toArray, List.set_cons_zero, List.set_cons_succ])
    refine wpAnyH_take (i := 14) (oi := ⟨some 4, _, _, _, _, _⟩) (v := ?_) rfl (by kernel_rfl) (by kernel_rfl) (by kernel_rfl) (fun _ _ _ h => h) (Or.inl ⟨by rfl, fun w' hSw => ?_⟩) (by assumption) ?_
    rotate_left
    · (try dsimp only at hSw); go_simp; (try with_reducible rfl)
    (try simp only [Act.put, List.setIfInBounds_toArray, List.set_cons_zero, List.set_cons_succ])
    refine wpAnyH_done (by kernel_rfl) ?_ _
    go_wp2_with fail
    go_ret
    exact ⟨_, rfl, by rw [HRES.out]; exact HV8.out, HB3.out.trans (BX8.out.mono HB3.out.size)⟩

end Go.Proofs.YtidlifijgooceaaGreat
