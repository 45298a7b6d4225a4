import Derived.Test.YtfioaohadanjmaaC18
import Derived.Test.YtfioaohadanjmaaC19
import Derived.Deep.CutBlock
import Derived.Deep.DeepCutAuto
import Derived.Test.YtfioaohadanjmaaC20
import Derived.Test.YtfioaohadanjmaaC07
set_option linter.unusedVariables false

/- Accesses: owned rows of them; impl.graph.accesses, impl.AccessesOf. -/
namespace Go.Proofs.Ytfioaohadanjmaa
open Go.RowKit

structure Acc where
  vr : Int
  wr : Bool
def axCells : List Acc → List Value
  | [] => []
  | x :: r => .int .i64 x.vr :: .bool x.wr :: axCells r
theorem axCells_append (a b : List Acc) : axCells (a ++ b) = axCells a ++ axCells b := by
  induction a with
  | nil => rfl
  | cons x r ih => simp [axCells, ih]
theorem axCells_at {ls : List Acc} {i : Nat} (hi : i < ls.length) : (axCells ls)[i * 2]? = some (.int .i64 ls[i].vr) ∧ (axCells ls)[i * 2 + 1]? = some (.bool ls[i].wr) := by
  induction ls generalizing i with
  | nil => simp at hi
  | cons x r ih =>
    cases i with
    | zero => simp [axCells]
    | succ i =>
      have := ih (i := i) (by simpa using hi)
      simp only [axCells, show (i + 1) * 2 = i * 2 + 2 by omega, show i * 2 + 2 + 1 = i * 2 + 1 + 2 by omega, List.getElem?_cons_succ, List.getElem_cons_succ]
      exact this
def OAx (w : World) (base : Nat) (v : Value) (ls : List Acc) : Prop := w.ownsRow base 150 2 v ls.length (axCells ls)
theorem OAx.nil (w : World) (base : Nat) : OAx w base (.slice none 0 0) [] := World.ownsRow_nil _ _ _ _
theorem OAx.slice {w : World} {base : Nat} {v : Value} {l : List Acc} (h : OAx w base v l) : ∃ A c, v = .slice A l.length c ∧ l.length ≤ c := by
  rcases h.2 with ⟨rfl, h0⟩ | ⟨g, cap, cur, rfl, _, _, hc, _⟩
  · exact ⟨none, 0, by rw [h0], by omega⟩
  · exact ⟨_, cap, rfl, hc⟩
theorem OAx.bel {w w' : World} {base : Nat} {v : Value} {l : List Acc} (h : OAx w base v l) (hb : Below w.heap.size w w') : OAx w' base v l :=
  World.ownsRow.kept h (grown_bel hb (Nat.le_refl _) none) (by cases v.ownBlock <;> simp)
/-- the slice v reads as the accesses ls -/
def AxS (w : World) (B : Nat) (v : Value) (ls : List Acc) : Prop :=
  ∃ A c, v = .slice A ls.length c ∧ ls.length ≤ c ∧ ls.length ≤ 100000 ∧ (0 < ls.length → ∃ b off, A = some ⟨b, off, none⟩ ∧ b < B ∧ ∀ i (h : i < ls.length),
    w.cell? ⟨b, off + i * 2, none⟩ = some (.int .i64 ls[i].vr) ∧ w.cell? ⟨b, off + i * 2 + 1, none⟩ = some (.bool ls[i].wr))
theorem AxS.low {w w' : World} {B B' : Nat} {v : Value} {l : List Acc} (h : AxS w B v l) (hb : Below B' w w') (hB : B ≤ B') : AxS w' B v l := by
  obtain ⟨A, c, e, h1, h2, h3⟩ := h
  refine ⟨A, c, e, h1, h2, fun hn => ?_⟩
  obtain ⟨b, off, e, hbb, hc⟩ := h3 hn
  have k : ∀ o, w'.cell? ⟨b, o, none⟩ = w.cell? ⟨b, o, none⟩ := fun o => hb.cell (p := ⟨b, o, none⟩) (by show b < B'; omega)
  exact ⟨b, off, e, hbb, fun i hi => by simp only [k]; exact hc i hi⟩
theorem AxS.bel {w w' : World} {v : Value} {l : List Acc} (h : AxS w w.heap.size v l) (hb : Below w.heap.size w w') : AxS w' w'.heap.size v l := by
  obtain ⟨A, c, e, h1, h2, h3⟩ := h.low hb (Nat.le_refl _)
  refine ⟨A, c, e, h1, h2, fun hn => ?_⟩
  obtain ⟨b, off, e, hbb, hc⟩ := h3 hn
  exact ⟨b, off, e, Nat.lt_of_lt_of_le hbb hb.size, hc⟩
theorem AxS.slice {w : World} {B : Nat} {v : Value} {l : List Acc} (h : AxS w B v l) : ∃ A c, v = .slice A l.length c ∧ l.length ≤ c := by
  obtain ⟨A, c, e, h1, _⟩ := h
  exact ⟨A, c, e, h1⟩
theorem AxS.get {w : World} {B n c : Nat} {A : Option Addr} {l : List Acc} (h : AxS w B (.slice A n c) l) {i : Nat} (hi : i < l.length) : ∃ b off, A = some ⟨b, off, none⟩ ∧ b < B ∧
    w.cell? ⟨b, off + i * 2, none⟩ = some (.int .i64 l[i].vr) ∧ w.cell? ⟨b, off + i * 2 + 1, none⟩ = some (.bool l[i].wr) := by
  obtain ⟨A', c', e, h1, h2, h3⟩ := h
  injection e with e1 _ _
  subst e1
  obtain ⟨b, off, e, hb, hc⟩ := h3 (by omega)
  exact ⟨b, off, e, hb, hc i hi⟩
theorem OAx.toS {w : World} {base : Nat} {v : Value} {l : List Acc} (h : OAx w base v l) (hl : l.length ≤ 100000) : AxS w w.heap.size v l := by
  obtain ⟨A, c, rfl, hc⟩ := h.slice
  refine ⟨A, c, rfl, hc, hl, fun hn => ?_⟩
  obtain ⟨g, cap, e, hb, hlt⟩ := World.ownsRow.form h hn
  injection e with e1 _ e2
  subst e1 e2
  refine ⟨g, 0, rfl, hlt, fun i hi => ?_⟩
  obtain ⟨a0, a1⟩ := axCells_at hi
  simp only [Nat.zero_add]
  exact ⟨(World.ownsRow.cellAt h _ (by omega)).trans a0, (World.ownsRow.cellAt h _ (by omega)).trans a1⟩
theorem Try.infoAx : (Try.prog.info? 150).map (fun i => (i.zero, i.size, i.bytes)) = some (some (.agg #[.int .i64 0, .bool false]), 2, 16) := by kernel_rfl
/-- append(out, Access{..}) -/
theorem wpList_push_ax {ops : Array Oper} {rest : List Oper} {o : Oper} {a : Act} {Q : Exit → Act → World → Prop} {w : World} {base : Nat} {vo : Value} {ls : List Acc} (hgd : o.guard = none) (s x : Operand)
    (ho : o.op = .call { callee := .builtin .append, args := #[s, x], argTypes := #[101, 101] })
    (hP : OAx w base vo ls) (hb : base ≤ w.heap.size) (hn : ls.length + 1 ≤ 100000) (y : Int) (u : Bool) (hs : a.eval s = vo) (hx : a.eval x = .slice (some ⟨w.heap.size, 0, none⟩) 1 1)
    (h : ∀ v' w', OAx w' base v' (ls ++ [⟨y, u⟩]) → Below base w w' → wpList Try.prog ops Q rest (a.put o.dst v') w') :
    wpList Try.prog ops Q (o :: rest) a (w.alloc (.cells #[.int .i64 y, .bool u] 150)) := by
  obtain ⟨i0, hi0, hz0, hz1, hz2⟩ := info_parts Try.infoAx
  have hown := World.ownsRow.alloc hP (.cells #[.int .i64 y, .bool u] 150)
  refine wpList_append_own_at _ hgd s x 101 ho base 150 i0 _ 2 16 Try.underlying101 hi0 hz0 hz1 hz2 rfl (by omega) vo ls.length _ hs hown ⟨w.heap.size, 0, none⟩ 1 1 [.int .i64 y, .bool u] hx rfl ?_ ?_ (by simp only [maxLen]; omega) (by omega) (by simp; omega) ?_
  · intro j u' hu
    have : (w.alloc (.cells #[.int .i64 y, .bool u] 150)).cell? ⟨w.heap.size, j, none⟩ = some u' := by
      rw [cell_of_row _ _ _ _ _ _ (heap_alloc_new w _)]
      simpa using hu
    unfold Addr.add
    by_cases hj : j = 0
    · subst hj; simpa using this
    · simpa [hj] using this
  · intro u' hu
    simp at hu
    rcases hu with rfl | rfl <;> rfl
  · intro v' w' k1 k2 k3 k4
    refine h v' w' ?_ ((((bel_a w _).mono hb)).trans ((Evo.grown (T := 150) hown k2).below (by simp; omega)))
    unfold OAx
    rw [axCells_append]
    simpa [axCells] using k1

theorem OAx.empty (w : World) (base : Nat) (hb : base ≤ w.heap.size) : OAx (w.alloc (.cells #[] 150)) base (.slice (some ⟨w.heap.size, 0, none⟩) 0 0) [] :=
  World.ownsRow_lit (base := base) (e := 150) (size := 2) w #[] 0 hb (by simp [maxLen]) rfl
/-- what a point itself reaches; what it lets go by setting -/
def acc1 (ts : List Int) (op x y : Int) : List Acc :=
  if op = 4 ∨ op = 6 then [⟨y, false⟩] else if op = 5 then [⟨y, true⟩] else if op = 7 ∨ op = 8 then [⟨x, true⟩] else if op = 3 then (if takesP ts y then [⟨y, true⟩] else []) else []
def acc2 (ts : List Int) (op x : Int) (m : Nat → Bool) : List Acc := if 0 ≤ setsP op x ∧ typeOfP ts (setsP op x) = 2 ∧ m (setsP op x).toNat = true then [⟨setsP op x, true⟩] else []
def accL (ts : List Int) (op x y : Int) (m : Nat → Bool) : List Acc := acc1 ts op x y ++ acc2 ts op x m
def AxRet (w : World) (ls : List Acc) (e : Ending) (w' : World) : Prop := ∃ v, e = .returned v ∧ AxS w' w'.heap.size v ls ∧ Below w.heap.size w w'

set_option maxHeartbeats 1000000 in
set_option maxRecDepth 100000 in
theorem accesses_any (vg : Value) (ts : List Int) (pts : List Pt) (B : Nat) (op x y n : Int) (A : Option Addr) (m c mm : Nat) (w : World) (hg : GrS w B vg ts pts) (hB : B ≤ w.heap.size) (hm : mm < 64) (h6 : ts.length ≤ 6) (hs : 0 ≤ setsP op x → setsP op x < ts.length) (hy : op = 3 → 0 ≤ y ∧ y < ts.length) :
    Calls Try.prog 119 #[vg, .agg #[.int .i64 op, .int .i64 x, .int .i64 y, .int .i64 n, .slice A m c], .int .i64 (mm : Nat)] w (AxRet w (accL ts op x y mm.testBit)) := by
  have HG := Lib.hid hg
  obtain ⟨g, At, ct, vb, Al, cl, rfl, hgB, -, -, -, -, -, htl, hpl⟩ := hg.open_
  have HS := Lib.hid hs
  have HY := Lib.hid hy
  clear hg hs hy
  go_enter Try.func119, Try.ntmps119
  go_upto_region 2 with (at_builtin; fail)
  have hbA := bel_a w (.cells #[.int .i64 op, .int .i64 x, .int .i64 y, .int .i64 n, .slice A m c] 62)
  have hRA := heap_alloc_new w (.cells #[.int .i64 op, .int .i64 x, .int .i64 y, .int .i64 n, .slice A m c] 62)
  have hsA : (w.alloc (.cells #[.int .i64 op, .int .i64 x, .int .i64 y, .int .i64 n, .slice A m c] 62)).heap.size = w.heap.size + 1 := by simp
  generalize w.alloc (.cells #[.int .i64 op, .int .i64 x, .int .i64 y, .int .i64 n, .slice A m c] 62) = W0 at *
  obtain ⟨bx, hbx⟩ : ∃ bx, bx = w.heap.size := ⟨_, rfl⟩
  rw [← hbx] at hRA hsA ⊢
  have y0 : W0.cell? ⟨bx, 0, none⟩ = some (.int .i64 op) := by rw [cell_of_row _ _ _ _ _ _ hRA]; rfl
  have y1 : W0.cell? ⟨bx, 1, none⟩ = some (.int .i64 x) := by rw [cell_of_row _ _ _ _ _ _ hRA]; rfl
  have y2 : W0.cell? ⟨bx, 2, none⟩ = some (.int .i64 y) := by rw [cell_of_row _ _ _ _ _ _ hRA]; rfl
  have y3 : W0.cell? ⟨bx, 3, none⟩ = some (.int .i64 n) := by rw [cell_of_row _ _ _ _ _ _ hRA]; rfl
  have y4 : W0.cell? ⟨bx, 4, none⟩ = some (.slice A m c) := by rw [cell_of_row _ _ _ _ _ _ hRA]; rfl
  have HBA := Lib.hid hbA
  have HBX := Lib.hid hbx
  have HON := Lib.hid (OAx.nil W0 (bx + 1))
  have HGW := Lib.hid (HG.out.low hbA hB)
  have hBx : B ≤ bx := by omega
  have HSA := Lib.hid hsA
  have hBW : B ≤ W0.heap.size := by omega
  have hbW : bx + 1 ≤ W0.heap.size := by omega
  clear hRA hbA hbx hB hsA
  rcases (by omega : op = 4 ∨ op = 6 ∨ op = 5 ∨ op = 7 ∨ op = 8 ∨ op = 3 ∨ (op ≠ 3 ∧ op ≠ 4 ∧ op ≠ 5 ∧ op ≠ 6 ∧ op ≠ 7 ∧ op ≠ 8)) with rfl | rfl | rfl | rfl | rfl | rfl | ho
  · have HA1 : Hid (acc1 ts 4 x y = [⟨y, false⟩]) := Lib.hid (by unfold acc1; simp)
    go_wp2_with (at_builtin; go_must (refine wpList_push_ax rfl (.tmp 14) (.tmp 18) rfl HON.out (by omega) (by simp) y false rfl rfl ?_); intro v' w' hP' hE'; (have z0 := (hE'.cell (p := ⟨bx, 0, none⟩) (by show bx < bx + 1; omega)).trans y0); (have z1 := (hE'.cell (p := ⟨bx, 1, none⟩) (by show bx < bx + 1; omega)).trans y1); (have z2 := (hE'.cell (p := ⟨bx, 2, none⟩) (by show bx < bx + 1; omega)).trans y2); (have z3 := (hE'.cell (p := ⟨bx, 3, none⟩) (by show bx < bx + 1; omega)).trans y3); (have z4 := (hE'.cell (p := ⟨bx, 4, none⟩) (by show bx < bx + 1; omega)).trans y4); (have HO := Lib.hid hP'); (have HBE := Lib.hid hE'); clear hP' hE' y0 y1 y2 y3 y4)
    have hsz' := HBE.out.size
    refine (sets_any _ _ _ _ _ _).mono ?_
    rintro e w5 ⟨rfl, hb5⟩
    obtain ⟨s, hs⟩ : ∃ s, s = setsP 4 x := ⟨_, rfl⟩
    have HSS := Lib.hid hs
    have HS2 := HS.out
    rw [← hs] at HS2 ⊢
    have HO5 := Lib.hid (HO.out.bel hb5)
    have HG5 := Lib.hid ((HGW.out.low HBE.out (by omega)).low hb5 (by omega))
    have HB5 := Lib.hid (HBA.out.trans ((HBE.out.mono (by rw [← HBX.out]; omega)).trans (hb5.mono (by rw [← HBX.out]; omega))))
    have hs5 := hb5.size
    clear z0 z1 z2 z3 z4 hs hb5
    by_cases hs0 : 0 ≤ s
    · have hs1 : decide (s ≥ 0) = true := by simpa using hs0
      have hsl := HS2 hs0
      obtain ⟨k, rfl⟩ : ∃ k : Nat, s = k := ⟨s.toNat, by omega⟩
      have hk6 : k < ts.length := by omega
      obtain ⟨g', At', ct', vb', Al', cl', e, -, g0, -, -, ht, -, -, -⟩ := HG5.out.open_
      injection e with e
      injection e with e
      injection e with e7 e8
      subst e7
      obtain ⟨bt, ot, ct2, e, hbt, -, -, hct2⟩ := ht.get (i := (k : Nat)) (by omega) hsl
      injection e with e1 e9 e2
      subst e1 e2
      rw [Int.toNat_natCast] at hct2
      clear e8 e9 hs0 hsl HS2 ht
      by_cases hty : typeOfP ts (k : Nat) = 2
      · rw [hty] at hct2
        obtain ⟨q, hq⟩ : ∃ q : Nat, ((mm : Nat) : Int) / 2 ^ k = q := ⟨mm / 2 ^ k, by simp⟩
        have hq' : q = mm / 2 ^ k := by
          have : ((mm / 2 ^ k : Nat) : Int) = q := by rw [← hq]; simp
          omega
        have hq64 : q ≤ 63 := by rw [hq']; exact Nat.le_trans (Nat.div_le_self _ _) (by omega)
        have hbt2 := bit_test hq' hq64
        clear hq'
        cases hbk : mm.testBit k
        · rw [hbk] at hbt2
          have HL : Hid (accL ts 4 x y mm.testBit = [⟨y, false⟩]) := Lib.hid (by unfold accL acc2; rw [HA1.out, ← HSS.out, if_neg (fun h => by have h3 := h.2.2; rw [Int.toNat_natCast, hbk] at h3; cases h3), List.append_nil])
          clear hbk
          go_wp2_with (at_builtin; fail)
          go_ret
          exact ⟨_, rfl, by rw [HL.out]; exact HO5.out.toS (by simp), HB5.out⟩
        · rw [hbk] at hbt2
          have HL : Hid (accL ts 4 x y mm.testBit = [⟨y, false⟩] ++ [⟨(k : Nat), true⟩]) := Lib.hid (by unfold accL acc2; rw [HA1.out, ← HSS.out, if_pos ⟨by omega, hty, by rw [Int.toNat_natCast]; exact hbk⟩])
          clear hbk
          go_wp2_with (at_builtin; go_must (refine wpList_push_ax rfl (.tmp 71) (.tmp 74) rfl HO5.out (by omega) (by simp) (k : Nat) true rfl rfl ?_); intro v9 w9 hP9 hE9)
          go_ret
          exact ⟨_, rfl, by rw [HL.out]; exact hP9.toS (by simp), HB5.out.trans (hE9.mono (by rw [← HBX.out]; omega))⟩
      · have hty2 : ((typeOfP ts (k : Nat)) == 2) = false := by simpa using hty
        have HL : Hid (accL ts 4 x y mm.testBit = [⟨y, false⟩]) := Lib.hid (by unfold accL acc2; rw [HA1.out, ← HSS.out, if_neg (fun h => hty h.2.1), List.append_nil])
        clear hty
        go_wp2_with (at_builtin; fail)
        go_ret
        exact ⟨_, rfl, by rw [HL.out]; exact HO5.out.toS (by simp), HB5.out⟩
    · have hs1 : decide (s ≥ 0) = false := by simpa using hs0
      have HL : Hid (accL ts 4 x y mm.testBit = [⟨y, false⟩]) := Lib.hid (by unfold accL acc2; rw [HA1.out, ← HSS.out, if_neg (fun h => hs0 h.1), List.append_nil])
      clear hs0 HS2
      go_wp2_with (at_builtin; fail)
      go_ret
      exact ⟨_, rfl, by rw [HL.out]; exact HO5.out.toS (by simp), HB5.out⟩
  · have HA1 : Hid (acc1 ts 6 x y = [⟨y, false⟩]) := Lib.hid (by unfold acc1; simp)
    go_wp2_with (at_builtin; go_must (refine wpList_push_ax rfl (.tmp 14) (.tmp 18) rfl HON.out (by omega) (by simp) y false rfl rfl ?_); intro v' w' hP' hE'; (have z0 := (hE'.cell (p := ⟨bx, 0, none⟩) (by show bx < bx + 1; omega)).trans y0); (have z1 := (hE'.cell (p := ⟨bx, 1, none⟩) (by show bx < bx + 1; omega)).trans y1); (have z2 := (hE'.cell (p := ⟨bx, 2, none⟩) (by show bx < bx + 1; omega)).trans y2); (have z3 := (hE'.cell (p := ⟨bx, 3, none⟩) (by show bx < bx + 1; omega)).trans y3); (have z4 := (hE'.cell (p := ⟨bx, 4, none⟩) (by show bx < bx + 1; omega)).trans y4); (have HO := Lib.hid hP'); (have HBE := Lib.hid hE'); clear hP' hE' y0 y1 y2 y3 y4)
    have hsz' := HBE.out.size
    refine (sets_any _ _ _ _ _ _).mono ?_
    rintro e w5 ⟨rfl, hb5⟩
    obtain ⟨s, hs⟩ : ∃ s, s = setsP 6 x := ⟨_, rfl⟩
    have HSS := Lib.hid hs
    have HS2 := HS.out
    rw [← hs] at HS2 ⊢
    have HO5 := Lib.hid (HO.out.bel hb5)
    have HG5 := Lib.hid ((HGW.out.low HBE.out (by omega)).low hb5 (by omega))
    have HB5 := Lib.hid (HBA.out.trans ((HBE.out.mono (by rw [← HBX.out]; omega)).trans (hb5.mono (by rw [← HBX.out]; omega))))
    have hs5 := hb5.size
    clear z0 z1 z2 z3 z4 hs hb5
    by_cases hs0 : 0 ≤ s
    · have hs1 : decide (s ≥ 0) = true := by simpa using hs0
      have hsl := HS2 hs0
      obtain ⟨k, rfl⟩ : ∃ k : Nat, s = k := ⟨s.toNat, by omega⟩
      have hk6 : k < ts.length := by omega
      obtain ⟨g', At', ct', vb', Al', cl', e, -, g0, -, -, ht, -, -, -⟩ := HG5.out.open_
      injection e with e
      injection e with e
      injection e with e7 e8
      subst e7
      obtain ⟨bt, ot, ct2, e, hbt, -, -, hct2⟩ := ht.get (i := (k : Nat)) (by omega) hsl
      injection e with e1 e9 e2
      subst e1 e2
      rw [Int.toNat_natCast] at hct2
      clear e8 e9 hs0 hsl HS2 ht
      by_cases hty : typeOfP ts (k : Nat) = 2
      · rw [hty] at hct2
        obtain ⟨q, hq⟩ : ∃ q : Nat, ((mm : Nat) : Int) / 2 ^ k = q := ⟨mm / 2 ^ k, by simp⟩
        have hq' : q = mm / 2 ^ k := by
          have : ((mm / 2 ^ k : Nat) : Int) = q := by rw [← hq]; simp
          omega
        have hq64 : q ≤ 63 := by rw [hq']; exact Nat.le_trans (Nat.div_le_self _ _) (by omega)
        have hbt2 := bit_test hq' hq64
        clear hq'
        cases hbk : mm.testBit k
        · rw [hbk] at hbt2
          have HL : Hid (accL ts 6 x y mm.testBit = [⟨y, false⟩]) := Lib.hid (by unfold accL acc2; rw [HA1.out, ← HSS.out, if_neg (fun h => by have h3 := h.2.2; rw [Int.toNat_natCast, hbk] at h3; cases h3), List.append_nil])
          clear hbk
          go_wp2_with (at_builtin; fail)
          go_ret
          exact ⟨_, rfl, by rw [HL.out]; exact HO5.out.toS (by simp), HB5.out⟩
        · rw [hbk] at hbt2
          have HL : Hid (accL ts 6 x y mm.testBit = [⟨y, false⟩] ++ [⟨(k : Nat), true⟩]) := Lib.hid (by unfold accL acc2; rw [HA1.out, ← HSS.out, if_pos ⟨by omega, hty, by rw [Int.toNat_natCast]; exact hbk⟩])
          clear hbk
          go_wp2_with (at_builtin; go_must (refine wpList_push_ax rfl (.tmp 71) (.tmp 74) rfl HO5.out (by omega) (by simp) (k : Nat) true rfl rfl ?_); intro v9 w9 hP9 hE9)
          go_ret
          exact ⟨_, rfl, by rw [HL.out]; exact hP9.toS (by simp), HB5.out.trans (hE9.mono (by rw [← HBX.out]; omega))⟩
      · have hty2 : ((typeOfP ts (k : Nat)) == 2) = false := by simpa using hty
        have HL : Hid (accL ts 6 x y mm.testBit = [⟨y, false⟩]) := Lib.hid (by unfold accL acc2; rw [HA1.out, ← HSS.out, if_neg (fun h => hty h.2.1), List.append_nil])
        clear hty
        go_wp2_with (at_builtin; fail)
        go_ret
        exact ⟨_, rfl, by rw [HL.out]; exact HO5.out.toS (by simp), HB5.out⟩
    · have hs1 : decide (s ≥ 0) = false := by simpa using hs0
      have HL : Hid (accL ts 6 x y mm.testBit = [⟨y, false⟩]) := Lib.hid (by unfold accL acc2; rw [HA1.out, ← HSS.out, if_neg (fun h => hs0 h.1), List.append_nil])
      clear hs0 HS2
      go_wp2_with (at_builtin; fail)
      go_ret
      exact ⟨_, rfl, by rw [HL.out]; exact HO5.out.toS (by simp), HB5.out⟩
  · have HA1 : Hid (acc1 ts 5 x y = [⟨y, true⟩]) := Lib.hid (by unfold acc1; simp)
    go_wp2_with (at_builtin; go_must (refine wpList_push_ax rfl (.tmp 22) (.tmp 26) rfl HON.out (by omega) (by simp) y true rfl rfl ?_); intro v' w' hP' hE'; (have z0 := (hE'.cell (p := ⟨bx, 0, none⟩) (by show bx < bx + 1; omega)).trans y0); (have z1 := (hE'.cell (p := ⟨bx, 1, none⟩) (by show bx < bx + 1; omega)).trans y1); (have z2 := (hE'.cell (p := ⟨bx, 2, none⟩) (by show bx < bx + 1; omega)).trans y2); (have z3 := (hE'.cell (p := ⟨bx, 3, none⟩) (by show bx < bx + 1; omega)).trans y3); (have z4 := (hE'.cell (p := ⟨bx, 4, none⟩) (by show bx < bx + 1; omega)).trans y4); (have HO := Lib.hid hP'); (have HBE := Lib.hid hE'); clear hP' hE' y0 y1 y2 y3 y4)
    have hsz' := HBE.out.size
    refine (sets_any _ _ _ _ _ _).mono ?_
    rintro e w5 ⟨rfl, hb5⟩
    obtain ⟨s, hs⟩ : ∃ s, s = setsP 5 x := ⟨_, rfl⟩
    have HSS := Lib.hid hs
    have HS2 := HS.out
    rw [← hs] at HS2 ⊢
    have HO5 := Lib.hid (HO.out.bel hb5)
    have HG5 := Lib.hid ((HGW.out.low HBE.out (by omega)).low hb5 (by omega))
    have HB5 := Lib.hid (HBA.out.trans ((HBE.out.mono (by rw [← HBX.out]; omega)).trans (hb5.mono (by rw [← HBX.out]; omega))))
    have hs5 := hb5.size
    clear z0 z1 z2 z3 z4 hs hb5
    by_cases hs0 : 0 ≤ s
    · have hs1 : decide (s ≥ 0) = true := by simpa using hs0
      have hsl := HS2 hs0
      obtain ⟨k, rfl⟩ : ∃ k : Nat, s = k := ⟨s.toNat, by omega⟩
      have hk6 : k < ts.length := by omega
      obtain ⟨g', At', ct', vb', Al', cl', e, -, g0, -, -, ht, -, -, -⟩ := HG5.out.open_
      injection e with e
      injection e with e
      injection e with e7 e8
      subst e7
      obtain ⟨bt, ot, ct2, e, hbt, -, -, hct2⟩ := ht.get (i := (k : Nat)) (by omega) hsl
      injection e with e1 e9 e2
      subst e1 e2
      rw [Int.toNat_natCast] at hct2
      clear e8 e9 hs0 hsl HS2 ht
      by_cases hty : typeOfP ts (k : Nat) = 2
      · rw [hty] at hct2
        obtain ⟨q, hq⟩ : ∃ q : Nat, ((mm : Nat) : Int) / 2 ^ k = q := ⟨mm / 2 ^ k, by simp⟩
        have hq' : q = mm / 2 ^ k := by
          have : ((mm / 2 ^ k : Nat) : Int) = q := by rw [← hq]; simp
          omega
        have hq64 : q ≤ 63 := by rw [hq']; exact Nat.le_trans (Nat.div_le_self _ _) (by omega)
        have hbt2 := bit_test hq' hq64
        clear hq'
        cases hbk : mm.testBit k
        · rw [hbk] at hbt2
          have HL : Hid (accL ts 5 x y mm.testBit = [⟨y, true⟩]) := Lib.hid (by unfold accL acc2; rw [HA1.out, ← HSS.out, if_neg (fun h => by have h3 := h.2.2; rw [Int.toNat_natCast, hbk] at h3; cases h3), List.append_nil])
          clear hbk
          go_wp2_with (at_builtin; fail)
          go_ret
          exact ⟨_, rfl, by rw [HL.out]; exact HO5.out.toS (by simp), HB5.out⟩
        · rw [hbk] at hbt2
          have HL : Hid (accL ts 5 x y mm.testBit = [⟨y, true⟩] ++ [⟨(k : Nat), true⟩]) := Lib.hid (by unfold accL acc2; rw [HA1.out, ← HSS.out, if_pos ⟨by omega, hty, by rw [Int.toNat_natCast]; exact hbk⟩])
          clear hbk
          go_wp2_with (at_builtin; go_must (refine wpList_push_ax rfl (.tmp 71) (.tmp 74) rfl HO5.out (by omega) (by simp) (k : Nat) true rfl rfl ?_); intro v9 w9 hP9 hE9)
          go_ret
          exact ⟨_, rfl, by rw [HL.out]; exact hP9.toS (by simp), HB5.out.trans (hE9.mono (by rw [← HBX.out]; omega))⟩
      · have hty2 : ((typeOfP ts (k : Nat)) == 2) = false := by simpa using hty
        have HL : Hid (accL ts 5 x y mm.testBit = [⟨y, true⟩]) := Lib.hid (by unfold accL acc2; rw [HA1.out, ← HSS.out, if_neg (fun h => hty h.2.1), List.append_nil])
        clear hty
        go_wp2_with (at_builtin; fail)
        go_ret
        exact ⟨_, rfl, by rw [HL.out]; exact HO5.out.toS (by simp), HB5.out⟩
    · have hs1 : decide (s ≥ 0) = false := by simpa using hs0
      have HL : Hid (accL ts 5 x y mm.testBit = [⟨y, true⟩]) := Lib.hid (by unfold accL acc2; rw [HA1.out, ← HSS.out, if_neg (fun h => hs0 h.1), List.append_nil])
      clear hs0 HS2
      go_wp2_with (at_builtin; fail)
      go_ret
      exact ⟨_, rfl, by rw [HL.out]; exact HO5.out.toS (by simp), HB5.out⟩
  · have HA1 : Hid (acc1 ts 7 x y = [⟨x, true⟩]) := Lib.hid (by unfold acc1; simp)
    go_wp2_with (at_builtin; go_must (refine wpList_push_ax rfl (.tmp 31) (.tmp 35) rfl HON.out (by omega) (by simp) x true rfl rfl ?_); intro v' w' hP' hE'; (have z0 := (hE'.cell (p := ⟨bx, 0, none⟩) (by show bx < bx + 1; omega)).trans y0); (have z1 := (hE'.cell (p := ⟨bx, 1, none⟩) (by show bx < bx + 1; omega)).trans y1); (have z2 := (hE'.cell (p := ⟨bx, 2, none⟩) (by show bx < bx + 1; omega)).trans y2); (have z3 := (hE'.cell (p := ⟨bx, 3, none⟩) (by show bx < bx + 1; omega)).trans y3); (have z4 := (hE'.cell (p := ⟨bx, 4, none⟩) (by show bx < bx + 1; omega)).trans y4); (have HO := Lib.hid hP'); (have HBE := Lib.hid hE'); clear hP' hE' y0 y1 y2 y3 y4)
    have hsz' := HBE.out.size
    refine (sets_any _ _ _ _ _ _).mono ?_
    rintro e w5 ⟨rfl, hb5⟩
    obtain ⟨s, hs⟩ : ∃ s, s = setsP 7 x := ⟨_, rfl⟩
    have HSS := Lib.hid hs
    have HS2 := HS.out
    rw [← hs] at HS2 ⊢
    have HO5 := Lib.hid (HO.out.bel hb5)
    have HG5 := Lib.hid ((HGW.out.low HBE.out (by omega)).low hb5 (by omega))
    have HB5 := Lib.hid (HBA.out.trans ((HBE.out.mono (by rw [← HBX.out]; omega)).trans (hb5.mono (by rw [← HBX.out]; omega))))
    have hs5 := hb5.size
    clear z0 z1 z2 z3 z4 hs hb5
    by_cases hs0 : 0 ≤ s
    · have hs1 : decide (s ≥ 0) = true := by simpa using hs0
      have hsl := HS2 hs0
      obtain ⟨k, rfl⟩ : ∃ k : Nat, s = k := ⟨s.toNat, by omega⟩
      have hk6 : k < ts.length := by omega
      obtain ⟨g', At', ct', vb', Al', cl', e, -, g0, -, -, ht, -, -, -⟩ := HG5.out.open_
      injection e with e
      injection e with e
      injection e with e7 e8
      subst e7
      obtain ⟨bt, ot, ct2, e, hbt, -, -, hct2⟩ := ht.get (i := (k : Nat)) (by omega) hsl
      injection e with e1 e9 e2
      subst e1 e2
      rw [Int.toNat_natCast] at hct2
      clear e8 e9 hs0 hsl HS2 ht
      by_cases hty : typeOfP ts (k : Nat) = 2
      · rw [hty] at hct2
        obtain ⟨q, hq⟩ : ∃ q : Nat, ((mm : Nat) : Int) / 2 ^ k = q := ⟨mm / 2 ^ k, by simp⟩
        have hq' : q = mm / 2 ^ k := by
          have : ((mm / 2 ^ k : Nat) : Int) = q := by rw [← hq]; simp
          omega
        have hq64 : q ≤ 63 := by rw [hq']; exact Nat.le_trans (Nat.div_le_self _ _) (by omega)
        have hbt2 := bit_test hq' hq64
        clear hq'
        cases hbk : mm.testBit k
        · rw [hbk] at hbt2
          have HL : Hid (accL ts 7 x y mm.testBit = [⟨x, true⟩]) := Lib.hid (by unfold accL acc2; rw [HA1.out, ← HSS.out, if_neg (fun h => by have h3 := h.2.2; rw [Int.toNat_natCast, hbk] at h3; cases h3), List.append_nil])
          clear hbk
          go_wp2_with (at_builtin; fail)
          go_ret
          exact ⟨_, rfl, by rw [HL.out]; exact HO5.out.toS (by simp), HB5.out⟩
        · rw [hbk] at hbt2
          have HL : Hid (accL ts 7 x y mm.testBit = [⟨x, true⟩] ++ [⟨(k : Nat), true⟩]) := Lib.hid (by unfold accL acc2; rw [HA1.out, ← HSS.out, if_pos ⟨by omega, hty, by rw [Int.toNat_natCast]; exact hbk⟩])
          clear hbk
          go_wp2_with (at_builtin; go_must (refine wpList_push_ax rfl (.tmp 71) (.tmp 74) rfl HO5.out (by omega) (by simp) (k : Nat) true rfl rfl ?_); intro v9 w9 hP9 hE9)
          go_ret
          exact ⟨_, rfl, by rw [HL.out]; exact hP9.toS (by simp), HB5.out.trans (hE9.mono (by rw [← HBX.out]; omega))⟩
      · have hty2 : ((typeOfP ts (k : Nat)) == 2) = false := by simpa using hty
        have HL : Hid (accL ts 7 x y mm.testBit = [⟨x, true⟩]) := Lib.hid (by unfold accL acc2; rw [HA1.out, ← HSS.out, if_neg (fun h => hty h.2.1), List.append_nil])
        clear hty
        go_wp2_with (at_builtin; fail)
        go_ret
        exact ⟨_, rfl, by rw [HL.out]; exact HO5.out.toS (by simp), HB5.out⟩
    · have hs1 : decide (s ≥ 0) = false := by simpa using hs0
      have HL : Hid (accL ts 7 x y mm.testBit = [⟨x, true⟩]) := Lib.hid (by unfold accL acc2; rw [HA1.out, ← HSS.out, if_neg (fun h => hs0 h.1), List.append_nil])
      clear hs0 HS2
      go_wp2_with (at_builtin; fail)
      go_ret
      exact ⟨_, rfl, by rw [HL.out]; exact HO5.out.toS (by simp), HB5.out⟩
  · have HA1 : Hid (acc1 ts 8 x y = [⟨x, true⟩]) := Lib.hid (by unfold acc1; simp)
    go_wp2_with (at_builtin; go_must (refine wpList_push_ax rfl (.tmp 31) (.tmp 35) rfl HON.out (by omega) (by simp) x true rfl rfl ?_); intro v' w' hP' hE'; (have z0 := (hE'.cell (p := ⟨bx, 0, none⟩) (by show bx < bx + 1; omega)).trans y0); (have z1 := (hE'.cell (p := ⟨bx, 1, none⟩) (by show bx < bx + 1; omega)).trans y1); (have z2 := (hE'.cell (p := ⟨bx, 2, none⟩) (by show bx < bx + 1; omega)).trans y2); (have z3 := (hE'.cell (p := ⟨bx, 3, none⟩) (by show bx < bx + 1; omega)).trans y3); (have z4 := (hE'.cell (p := ⟨bx, 4, none⟩) (by show bx < bx + 1; omega)).trans y4); (have HO := Lib.hid hP'); (have HBE := Lib.hid hE'); clear hP' hE' y0 y1 y2 y3 y4)
    have hsz' := HBE.out.size
    refine (sets_any _ _ _ _ _ _).mono ?_
    rintro e w5 ⟨rfl, hb5⟩
    obtain ⟨s, hs⟩ : ∃ s, s = setsP 8 x := ⟨_, rfl⟩
    have HSS := Lib.hid hs
    have HS2 := HS.out
    rw [← hs] at HS2 ⊢
    have HO5 := Lib.hid (HO.out.bel hb5)
    have HG5 := Lib.hid ((HGW.out.low HBE.out (by omega)).low hb5 (by omega))
    have HB5 := Lib.hid (HBA.out.trans ((HBE.out.mono (by rw [← HBX.out]; omega)).trans (hb5.mono (by rw [← HBX.out]; omega))))
    have hs5 := hb5.size
    clear z0 z1 z2 z3 z4 hs hb5
    by_cases hs0 : 0 ≤ s
    · have hs1 : decide (s ≥ 0) = true := by simpa using hs0
      have hsl := HS2 hs0
      obtain ⟨k, rfl⟩ : ∃ k : Nat, s = k := ⟨s.toNat, by omega⟩
      have hk6 : k < ts.length := by omega
      obtain ⟨g', At', ct', vb', Al', cl', e, -, g0, -, -, ht, -, -, -⟩ := HG5.out.open_
      injection e with e
      injection e with e
      injection e with e7 e8
      subst e7
      obtain ⟨bt, ot, ct2, e, hbt, -, -, hct2⟩ := ht.get (i := (k : Nat)) (by omega) hsl
      injection e with e1 e9 e2
      subst e1 e2
      rw [Int.toNat_natCast] at hct2
      clear e8 e9 hs0 hsl HS2 ht
      by_cases hty : typeOfP ts (k : Nat) = 2
      · rw [hty] at hct2
        obtain ⟨q, hq⟩ : ∃ q : Nat, ((mm : Nat) : Int) / 2 ^ k = q := ⟨mm / 2 ^ k, by simp⟩
        have hq' : q = mm / 2 ^ k := by
          have : ((mm / 2 ^ k : Nat) : Int) = q := by rw [← hq]; simp
          omega
        have hq64 : q ≤ 63 := by rw [hq']; exact Nat.le_trans (Nat.div_le_self _ _) (by omega)
        have hbt2 := bit_test hq' hq64
        clear hq'
        cases hbk : mm.testBit k
        · rw [hbk] at hbt2
          have HL : Hid (accL ts 8 x y mm.testBit = [⟨x, true⟩]) := Lib.hid (by unfold accL acc2; rw [HA1.out, ← HSS.out, if_neg (fun h => by have h3 := h.2.2; rw [Int.toNat_natCast, hbk] at h3; cases h3), List.append_nil])
          clear hbk
          go_wp2_with (at_builtin; fail)
          go_ret
          exact ⟨_, rfl, by rw [HL.out]; exact HO5.out.toS (by simp), HB5.out⟩
        · rw [hbk] at hbt2
          have HL : Hid (accL ts 8 x y mm.testBit = [⟨x, true⟩] ++ [⟨(k : Nat), true⟩]) := Lib.hid (by unfold accL acc2; rw [HA1.out, ← HSS.out, if_pos ⟨by omega, hty, by rw [Int.toNat_natCast]; exact hbk⟩])
          clear hbk
          go_wp2_with (at_builtin; go_must (refine wpList_push_ax rfl (.tmp 71) (.tmp 74) rfl HO5.out (by omega) (by simp) (k : Nat) true rfl rfl ?_); intro v9 w9 hP9 hE9)
          go_ret
          exact ⟨_, rfl, by rw [HL.out]; exact hP9.toS (by simp), HB5.out.trans (hE9.mono (by rw [← HBX.out]; omega))⟩
      · have hty2 : ((typeOfP ts (k : Nat)) == 2) = false := by simpa using hty
        have HL : Hid (accL ts 8 x y mm.testBit = [⟨x, true⟩]) := Lib.hid (by unfold accL acc2; rw [HA1.out, ← HSS.out, if_neg (fun h => hty h.2.1), List.append_nil])
        clear hty
        go_wp2_with (at_builtin; fail)
        go_ret
        exact ⟨_, rfl, by rw [HL.out]; exact HO5.out.toS (by simp), HB5.out⟩
    · have hs1 : decide (s ≥ 0) = false := by simpa using hs0
      have HL : Hid (accL ts 8 x y mm.testBit = [⟨x, true⟩]) := Lib.hid (by unfold accL acc2; rw [HA1.out, ← HSS.out, if_neg (fun h => hs0 h.1), List.append_nil])
      clear hs0 HS2
      go_wp2_with (at_builtin; fail)
      go_ret
      exact ⟨_, rfl, by rw [HL.out]; exact HO5.out.toS (by simp), HB5.out⟩
  · obtain ⟨hy0, hyl⟩ := HY.out rfl
    go_wp2_with (at_builtin; fail)
    refine (takes_any _ ts pts B y _ HGW.out hy0 hyl).mono ?_
    rintro e w3 ⟨rfl, rfl⟩
    cases htk : takesP ts y
    · have HA1 : Hid (acc1 ts 3 x y = []) := Lib.hid (by unfold acc1; rw [htk]; simp)
      go_wp2_with (at_builtin; fail)
      have z0 := y0
      have z1 := y1
      have z2 := y2
      have z3 := y3
      have z4 := y4
      have HO := HON
      have HBE := Lib.hid (Below.refl (bx + 1) W0)
      clear y0 y1 y2 y3 y4
      obtain ⟨w', rfl⟩ : ∃ w' : World, w' = W0 := ⟨_, rfl⟩
      have hsz' := HBE.out.size
      refine (sets_any _ _ _ _ _ _).mono ?_
      rintro e w5 ⟨rfl, hb5⟩
      obtain ⟨s, hs⟩ : ∃ s, s = setsP 3 x := ⟨_, rfl⟩
      have HSS := Lib.hid hs
      have HS2 := HS.out
      rw [← hs] at HS2 ⊢
      have HO5 := Lib.hid (HO.out.bel hb5)
      have HG5 := Lib.hid ((HGW.out.low HBE.out (by omega)).low hb5 (by omega))
      have HB5 := Lib.hid (HBA.out.trans ((HBE.out.mono (by rw [← HBX.out]; omega)).trans (hb5.mono (by rw [← HBX.out]; omega))))
      have hs5 := hb5.size
      clear z0 z1 z2 z3 z4 hs hb5
      by_cases hs0 : 0 ≤ s
      · have hs1 : decide (s ≥ 0) = true := by simpa using hs0
        have hsl := HS2 hs0
        obtain ⟨k, rfl⟩ : ∃ k : Nat, s = k := ⟨s.toNat, by omega⟩
        have hk6 : k < ts.length := by omega
        obtain ⟨g', At', ct', vb', Al', cl', e, -, g0, -, -, ht, -, -, -⟩ := HG5.out.open_
        injection e with e
        injection e with e
        injection e with e7 e8
        subst e7
        obtain ⟨bt, ot, ct2, e, hbt, -, -, hct2⟩ := ht.get (i := (k : Nat)) (by omega) hsl
        injection e with e1 e9 e2
        subst e1 e2
        rw [Int.toNat_natCast] at hct2
        clear e8 e9 hs0 hsl HS2 ht
        by_cases hty : typeOfP ts (k : Nat) = 2
        · rw [hty] at hct2
          obtain ⟨q, hq⟩ : ∃ q : Nat, ((mm : Nat) : Int) / 2 ^ k = q := ⟨mm / 2 ^ k, by simp⟩
          have hq' : q = mm / 2 ^ k := by
            have : ((mm / 2 ^ k : Nat) : Int) = q := by rw [← hq]; simp
            omega
          have hq64 : q ≤ 63 := by rw [hq']; exact Nat.le_trans (Nat.div_le_self _ _) (by omega)
          have hbt2 := bit_test hq' hq64
          clear hq'
          cases hbk : mm.testBit k
          · rw [hbk] at hbt2
            have HL : Hid (accL ts 3 x y mm.testBit = []) := Lib.hid (by unfold accL acc2; rw [HA1.out, ← HSS.out, if_neg (fun h => by have h3 := h.2.2; rw [Int.toNat_natCast, hbk] at h3; cases h3), List.append_nil])
            clear hbk
            go_wp2_with (at_builtin; fail)
            go_ret
            exact ⟨_, rfl, by rw [HL.out]; exact HO5.out.toS (by simp), HB5.out⟩
          · rw [hbk] at hbt2
            have HL : Hid (accL ts 3 x y mm.testBit = [] ++ [⟨(k : Nat), true⟩]) := Lib.hid (by unfold accL acc2; rw [HA1.out, ← HSS.out, if_pos ⟨by omega, hty, by rw [Int.toNat_natCast]; exact hbk⟩])
            clear hbk
            go_wp2_with (at_builtin; go_must (refine wpList_push_ax rfl (.tmp 71) (.tmp 74) rfl HO5.out (by omega) (by simp) (k : Nat) true rfl rfl ?_); intro v9 w9 hP9 hE9)
            go_ret
            exact ⟨_, rfl, by rw [HL.out]; exact hP9.toS (by simp), HB5.out.trans (hE9.mono (by rw [← HBX.out]; omega))⟩
        · have hty2 : ((typeOfP ts (k : Nat)) == 2) = false := by simpa using hty
          have HL : Hid (accL ts 3 x y mm.testBit = []) := Lib.hid (by unfold accL acc2; rw [HA1.out, ← HSS.out, if_neg (fun h => hty h.2.1), List.append_nil])
          clear hty
          go_wp2_with (at_builtin; fail)
          go_ret
          exact ⟨_, rfl, by rw [HL.out]; exact HO5.out.toS (by simp), HB5.out⟩
      · have hs1 : decide (s ≥ 0) = false := by simpa using hs0
        have HL : Hid (accL ts 3 x y mm.testBit = []) := Lib.hid (by unfold accL acc2; rw [HA1.out, ← HSS.out, if_neg (fun h => hs0 h.1), List.append_nil])
        clear hs0 HS2
        go_wp2_with (at_builtin; fail)
        go_ret
        exact ⟨_, rfl, by rw [HL.out]; exact HO5.out.toS (by simp), HB5.out⟩
    · have HA1 : Hid (acc1 ts 3 x y = [⟨y, true⟩]) := Lib.hid (by unfold acc1; rw [htk]; simp)
      go_wp2_with (at_builtin; go_must (refine wpList_push_ax rfl (.tmp 43) (.tmp 47) rfl HON.out (by omega) (by simp) y true rfl rfl ?_); intro v' w' hP' hE'; (have z0 := (hE'.cell (p := ⟨bx, 0, none⟩) (by show bx < bx + 1; omega)).trans y0); (have z1 := (hE'.cell (p := ⟨bx, 1, none⟩) (by show bx < bx + 1; omega)).trans y1); (have z2 := (hE'.cell (p := ⟨bx, 2, none⟩) (by show bx < bx + 1; omega)).trans y2); (have z3 := (hE'.cell (p := ⟨bx, 3, none⟩) (by show bx < bx + 1; omega)).trans y3); (have z4 := (hE'.cell (p := ⟨bx, 4, none⟩) (by show bx < bx + 1; omega)).trans y4); (have HO := Lib.hid hP'); (have HBE := Lib.hid hE'); clear hP' hE' y0 y1 y2 y3 y4)
      have hsz' := HBE.out.size
      refine (sets_any _ _ _ _ _ _).mono ?_
      rintro e w5 ⟨rfl, hb5⟩
      obtain ⟨s, hs⟩ : ∃ s, s = setsP 3 x := ⟨_, rfl⟩
      have HSS := Lib.hid hs
      have HS2 := HS.out
      rw [← hs] at HS2 ⊢
      have HO5 := Lib.hid (HO.out.bel hb5)
      have HG5 := Lib.hid ((HGW.out.low HBE.out (by omega)).low hb5 (by omega))
      have HB5 := Lib.hid (HBA.out.trans ((HBE.out.mono (by rw [← HBX.out]; omega)).trans (hb5.mono (by rw [← HBX.out]; omega))))
      have hs5 := hb5.size
      clear z0 z1 z2 z3 z4 hs hb5
      by_cases hs0 : 0 ≤ s
      · have hs1 : decide (s ≥ 0) = true := by simpa using hs0
        have hsl := HS2 hs0
        obtain ⟨k, rfl⟩ : ∃ k : Nat, s = k := ⟨s.toNat, by omega⟩
        have hk6 : k < ts.length := by omega
        obtain ⟨g', At', ct', vb', Al', cl', e, -, g0, -, -, ht, -, -, -⟩ := HG5.out.open_
        injection e with e
        injection e with e
        injection e with e7 e8
        subst e7
        obtain ⟨bt, ot, ct2, e, hbt, -, -, hct2⟩ := ht.get (i := (k : Nat)) (by omega) hsl
        injection e with e1 e9 e2
        subst e1 e2
        rw [Int.toNat_natCast] at hct2
        clear e8 e9 hs0 hsl HS2 ht
        by_cases hty : typeOfP ts (k : Nat) = 2
        · rw [hty] at hct2
          obtain ⟨q, hq⟩ : ∃ q : Nat, ((mm : Nat) : Int) / 2 ^ k = q := ⟨mm / 2 ^ k, by simp⟩
          have hq' : q = mm / 2 ^ k := by
            have : ((mm / 2 ^ k : Nat) : Int) = q := by rw [← hq]; simp
            omega
          have hq64 : q ≤ 63 := by rw [hq']; exact Nat.le_trans (Nat.div_le_self _ _) (by omega)
          have hbt2 := bit_test hq' hq64
          clear hq'
          cases hbk : mm.testBit k
          · rw [hbk] at hbt2
            have HL : Hid (accL ts 3 x y mm.testBit = [⟨y, true⟩]) := Lib.hid (by unfold accL acc2; rw [HA1.out, ← HSS.out, if_neg (fun h => by have h3 := h.2.2; rw [Int.toNat_natCast, hbk] at h3; cases h3), List.append_nil])
            clear hbk
            go_wp2_with (at_builtin; fail)
            go_ret
            exact ⟨_, rfl, by rw [HL.out]; exact HO5.out.toS (by simp), HB5.out⟩
          · rw [hbk] at hbt2
            have HL : Hid (accL ts 3 x y mm.testBit = [⟨y, true⟩] ++ [⟨(k : Nat), true⟩]) := Lib.hid (by unfold accL acc2; rw [HA1.out, ← HSS.out, if_pos ⟨by omega, hty, by rw [Int.toNat_natCast]; exact hbk⟩])
            clear hbk
            go_wp2_with (at_builtin; go_must (refine wpList_push_ax rfl (.tmp 71) (.tmp 74) rfl HO5.out (by omega) (by simp) (k : Nat) true rfl rfl ?_); intro v9 w9 hP9 hE9)
            go_ret
            exact ⟨_, rfl, by rw [HL.out]; exact hP9.toS (by simp), HB5.out.trans (hE9.mono (by rw [← HBX.out]; omega))⟩
        · have hty2 : ((typeOfP ts (k : Nat)) == 2) = false := by simpa using hty
          have HL : Hid (accL ts 3 x y mm.testBit = [⟨y, true⟩]) := Lib.hid (by unfold accL acc2; rw [HA1.out, ← HSS.out, if_neg (fun h => hty h.2.1), List.append_nil])
          clear hty
          go_wp2_with (at_builtin; fail)
          go_ret
          exact ⟨_, rfl, by rw [HL.out]; exact HO5.out.toS (by simp), HB5.out⟩
      · have hs1 : decide (s ≥ 0) = false := by simpa using hs0
        have HL : Hid (accL ts 3 x y mm.testBit = [⟨y, true⟩]) := Lib.hid (by unfold accL acc2; rw [HA1.out, ← HSS.out, if_neg (fun h => hs0 h.1), List.append_nil])
        clear hs0 HS2
        go_wp2_with (at_builtin; fail)
        go_ret
        exact ⟨_, rfl, by rw [HL.out]; exact HO5.out.toS (by simp), HB5.out⟩
  · obtain ⟨h3, h4, h5, h6', h7, h8⟩ := ho
    have k3 : (op == 3) = false := by simpa using h3
    have k4 : (op == 4) = false := by simpa using h4
    have k5 : (op == 5) = false := by simpa using h5
    have k6 : (op == 6) = false := by simpa using h6'
    have k7 : (op == 7) = false := by simpa using h7
    have k8 : (op == 8) = false := by simpa using h8
    have HA1 : Hid (acc1 ts op x y = []) := Lib.hid (by unfold acc1; simp [h3, h4, h5, h6', h7, h8])
    clear h3 h4 h5 h6' h7 h8
    go_wp2_with (at_builtin; fail)
    have z0 := y0
    have z1 := y1
    have z2 := y2
    have z3 := y3
    have z4 := y4
    have HO := HON
    have HBE := Lib.hid (Below.refl (bx + 1) W0)
    clear y0 y1 y2 y3 y4
    obtain ⟨w', rfl⟩ : ∃ w' : World, w' = W0 := ⟨_, rfl⟩
    have hsz' := HBE.out.size
    refine (sets_any _ _ _ _ _ _).mono ?_
    rintro e w5 ⟨rfl, hb5⟩
    obtain ⟨s, hs⟩ : ∃ s, s = setsP op x := ⟨_, rfl⟩
    have HSS := Lib.hid hs
    have HS2 := HS.out
    rw [← hs] at HS2 ⊢
    have HO5 := Lib.hid (HO.out.bel hb5)
    have HG5 := Lib.hid ((HGW.out.low HBE.out (by omega)).low hb5 (by omega))
    have HB5 := Lib.hid (HBA.out.trans ((HBE.out.mono (by rw [← HBX.out]; omega)).trans (hb5.mono (by rw [← HBX.out]; omega))))
    have hs5 := hb5.size
    clear z0 z1 z2 z3 z4 hs hb5
    by_cases hs0 : 0 ≤ s
    · have hs1 : decide (s ≥ 0) = true := by simpa using hs0
      have hsl := HS2 hs0
      obtain ⟨k, rfl⟩ : ∃ k : Nat, s = k := ⟨s.toNat, by omega⟩
      have hk6 : k < ts.length := by omega
      obtain ⟨g', At', ct', vb', Al', cl', e, -, g0, -, -, ht, -, -, -⟩ := HG5.out.open_
      injection e with e
      injection e with e
      injection e with e7 e8
      subst e7
      obtain ⟨bt, ot, ct2, e, hbt, -, -, hct2⟩ := ht.get (i := (k : Nat)) (by omega) hsl
      injection e with e1 e9 e2
      subst e1 e2
      rw [Int.toNat_natCast] at hct2
      clear e8 e9 hs0 hsl HS2 ht
      by_cases hty : typeOfP ts (k : Nat) = 2
      · rw [hty] at hct2
        obtain ⟨q, hq⟩ : ∃ q : Nat, ((mm : Nat) : Int) / 2 ^ k = q := ⟨mm / 2 ^ k, by simp⟩
        have hq' : q = mm / 2 ^ k := by
          have : ((mm / 2 ^ k : Nat) : Int) = q := by rw [← hq]; simp
          omega
        have hq64 : q ≤ 63 := by rw [hq']; exact Nat.le_trans (Nat.div_le_self _ _) (by omega)
        have hbt2 := bit_test hq' hq64
        clear hq'
        cases hbk : mm.testBit k
        · rw [hbk] at hbt2
          have HL : Hid (accL ts op x y mm.testBit = []) := Lib.hid (by unfold accL acc2; rw [HA1.out, ← HSS.out, if_neg (fun h => by have h3 := h.2.2; rw [Int.toNat_natCast, hbk] at h3; cases h3), List.append_nil])
          clear hbk
          go_wp2_with (at_builtin; fail)
          go_ret
          exact ⟨_, rfl, by rw [HL.out]; exact HO5.out.toS (by simp), HB5.out⟩
        · rw [hbk] at hbt2
          have HL : Hid (accL ts op x y mm.testBit = [] ++ [⟨(k : Nat), true⟩]) := Lib.hid (by unfold accL acc2; rw [HA1.out, ← HSS.out, if_pos ⟨by omega, hty, by rw [Int.toNat_natCast]; exact hbk⟩])
          clear hbk
          go_wp2_with (at_builtin; go_must (refine wpList_push_ax rfl (.tmp 71) (.tmp 74) rfl HO5.out (by omega) (by simp) (k : Nat) true rfl rfl ?_); intro v9 w9 hP9 hE9)
          go_ret
          exact ⟨_, rfl, by rw [HL.out]; exact hP9.toS (by simp), HB5.out.trans (hE9.mono (by rw [← HBX.out]; omega))⟩
      · have hty2 : ((typeOfP ts (k : Nat)) == 2) = false := by simpa using hty
        have HL : Hid (accL ts op x y mm.testBit = []) := Lib.hid (by unfold accL acc2; rw [HA1.out, ← HSS.out, if_neg (fun h => hty h.2.1), List.append_nil])
        clear hty
        go_wp2_with (at_builtin; fail)
        go_ret
        exact ⟨_, rfl, by rw [HL.out]; exact HO5.out.toS (by simp), HB5.out⟩
    · have hs1 : decide (s ≥ 0) = false := by simpa using hs0
      have HL : Hid (accL ts op x y mm.testBit = []) := Lib.hid (by unfold accL acc2; rw [HA1.out, ← HSS.out, if_neg (fun h => hs0 h.1), List.append_nil])
      clear hs0 HS2
      go_wp2_with (at_builtin; fail)
      go_ret
      exact ⟨_, rfl, by rw [HL.out]; exact HO5.out.toS (by simp), HB5.out⟩

theorem fwdL_len (ev : Bool) (ts : List Int) (pts : List Pt) (first : Nat) : (fwdL ev ts pts first).length = pts.length := by simp [fwdL]
theorem accL_congr {ts : List Int} {op x y : Int} {f h : Nat → Bool} (hs : 0 ≤ setsP op x → setsP op x < ts.length) (e : ∀ v, v < ts.length → f v = h v) : accL ts op x y f = accL ts op x y h := by
  unfold accL acc2
  by_cases h0 : 0 ≤ setsP op x
  · rw [e _ (by have := hs h0; omega)]
  · rw [if_neg (fun h => h0 h.1), if_neg (fun h => h0 h.1)]
end Go.Proofs.Ytfioaohadanjmaa

/- Plain: the loans that are in the way of a point. -/
namespace Go.Proofs.Ytfioaohadanjmaa

/-- a loan stands in the way of an access -/
def cndB (pts : List Pt) (a : Acc) (e : Nat) : Bool := a.wr || (ptD pts e).op == 5
def acB (pts : List Pt) (ac : List Acc) (e : Nat) : Bool := ac.any fun a => ofB pts (2 ^ a.vr.toNat) e && cndB pts a e
theorem acB_snoc (pts : List Pt) (ac : List Acc) (a : Acc) (e : Nat) : acB pts (ac ++ [a]) e = (acB pts ac e || (ofB pts (2 ^ a.vr.toNat) e && cndB pts a e)) := by simp [acB]
/-- what an inner round knows -/
def CfI (pts : List Pt) (a : Acc) (t0 : Nat) (L : List Int) (i t : Nat) : Prop := ∀ e : Nat, t.testBit e = (t0.testBit e || (decide (((e : Nat) : Int) ∈ L.take i) && cndB pts a e))
theorem CfI.start {pts : List Pt} {a : Acc} {t0 : Nat} {L : List Int} : CfI pts a t0 L 0 t0 := fun e => by simp
theorem mem_take_succ {L : List Int} {i : Nat} (hi : i < L.length) (x : Int) : x ∈ L.take (i + 1) ↔ x ∈ L.take i ∨ x = L.getD i 0 := by
  rw [take_succ_get L i hi, List.mem_append, List.mem_singleton, getD_lt hi]
theorem CfI.no {pts : List Pt} {a : Acc} {t0 t i e0 : Nat} {L : List Int} (h : CfI pts a t0 L i t) (hi : i < L.length) (he : L.getD i 0 = ((e0 : Nat) : Int)) (hc : cndB pts a e0 = false) : CfI pts a t0 L (i + 1) t := fun e => by
  rw [h e]
  congr 1
  by_cases hee : e = e0
  · subst hee; rw [hc, Bool.and_false, Bool.and_false]
  · congr 1
    rw [decide_eq_decide, mem_take_succ hi, he]
    exact ⟨.inl, fun h => h.resolve_right (by omega)⟩
theorem CfI.yes {pts : List Pt} {a : Acc} {t0 t i e0 : Nat} {L : List Int} (h : CfI pts a t0 L i t) (hi : i < L.length) (he : L.getD i 0 = ((e0 : Nat) : Int)) (hc : cndB pts a e0 = true) : CfI pts a t0 L (i + 1) (t ||| 2 ^ e0) := fun e => by
  rw [Nat.testBit_or, h e, Nat.testBit_two_pow]
  by_cases hee : e = e0
  · subst hee
    rw [hc, decide_eq_true rfl, Bool.or_true, Bool.and_true, decide_eq_true ((mem_take_succ hi _).2 (.inr he.symm)), Bool.or_true]
  · rw [show decide (e0 = e) = false from decide_eq_false (fun h => hee h.symm), Bool.or_false]
    congr 2
    rw [decide_eq_decide, mem_take_succ hi, he]
    exact ⟨.inl, fun h => h.resolve_right (by omega)⟩
/-- what an outer round knows -/
def CfO (pts : List Pt) (ac : List Acc) (s j t : Nat) : Prop := ∀ e : Nat, t.testBit e = (s.testBit e && acB pts (ac.take j) e)
theorem CfO.start {pts : List Pt} {ac : List Acc} {s : Nat} : CfO pts ac s 0 0 := fun e => by simp [acB]
theorem CfI.done {pts : List Pt} {ac : List Acc} {s j t0 t o m : Nat} {L : List Int} {a : Acc} (h0 : CfO pts ac s j t0) (hj : j < ac.length) (ha : ac[j] = a) (hs : s < top64) (ho : ∀ e, o.testBit e = ofB pts (2 ^ a.vr.toNat) e) (hm : ∀ e, m.testBit e = (s.testBit e && o.testBit e)) (hL : L = lst 64 m.testBit) (h : CfI pts a t0 L L.length t) : CfO pts ac s (j + 1) t := fun e => by
  rw [h e, h0 e, take_succ_get ac j hj, ha, acB_snoc, List.take_length]
  have hd : decide (((e : Nat) : Int) ∈ L) = (s.testBit e && ofB pts (2 ^ a.vr.toNat) e) := by
    rw [Bool.eq_iff_iff, decide_eq_true_iff, hL, lst_mem, ← ho e, ← hm e]
    constructor
    · rintro ⟨i, _, h1, h2⟩
      obtain rfl : e = i := by omega
      exact h1
    · intro h1
      refine ⟨e, ?_, h1, rfl⟩
      have h2 : s.testBit e = true := by rw [hm e, Bool.and_eq_true] at h1; exact h1.1
      rcases Nat.lt_or_ge e 64 with h3 | h3
      · exact h3
      · rw [Nat.testBit_lt_two_pow (Nat.lt_of_lt_of_le hs (by unfold top64; exact Nat.pow_le_pow_right (by omega) h3))] at h2; cases h2
  rw [hd]
  cases s.testBit e <;> cases acB pts (ac.take j) e <;> cases ofB pts (2 ^ a.vr.toNat) e <;> cases cndB pts a e <;> rfl
theorem acB_eq {ts : List Int} {pts : List Pt} {ac : List Acc} {e : Nat} {q : Pt} (hq : pts[e]? = some q) (hl : lonB q = true) (hy : 0 ≤ q.y) (ha : ∀ a ∈ ac, 0 ≤ a.vr) : acB pts ac e = ac.any fun a => decide (q.y = a.vr) && cndB pts a e := by
  unfold acB
  rw [Bool.eq_iff_iff, List.any_eq_true, List.any_eq_true]
  refine exists_congr fun a => and_congr_right fun hm => ?_
  have h0 := ha a hm
  rw [show ofB pts (2 ^ a.vr.toNat) e = decide (q.y = a.vr) by
    unfold ofB
    rw [hq]
    simp only [hl, Bool.true_and, Nat.testBit_two_pow]
    rw [decide_eq_decide]
    omega]
end Go.Proofs.Ytfioaohadanjmaa

/- Plain: programs behind each other: their points, and what is known at them. No program in sight. -/
namespace Go.Proofs.Ytfioaohadanjmaa

/-- a point moved on by n -/
def shP (n : Nat) (p : Pt) : Pt := { p with next := p.next.map (· + n) }
mutual
theorem ptsSt_sh (n at_ : Nat) : ∀ s : St, ptsSt (at_ + n) s = (ptsSt at_ s).map (shP n)
  | .mk op x y m th el => by
    have h1 := fun a => ptsL_sh n a th
    have h2 := fun a => ptsL_sh n a el
    have e1 : ∀ a, (ptsL (a + n) th).length = (ptsL a th).length := fun a => by rw [h1]; simp
    have e2 : ∀ a, (ptsL (a + n) el).length = (ptsL a el).length := fun a => by rw [h2]; simp
    simp only [ptsSt]
    have a1 : at_ + n + 1 = at_ + 1 + n := by omega
    rw [a1, e1]
    have a2 : at_ + 1 + n + (ptsL (at_ + 1) th).length + 1 = at_ + 1 + (ptsL (at_ + 1) th).length + 1 + n := by omega
    rw [a2, e2, h1, h2]
    split
    · simp [shP]; omega
    · split
      · simp [shP]
      · simp [shP]
theorem ptsL_sh (n at_ : Nat) : ∀ l : List St, ptsL (at_ + n) l = (ptsL at_ l).map (shP n)
  | [] => by simp [ptsL]
  | s :: r => by
    have h1 := ptsSt_sh n at_ s
    have h2 := fun a => ptsL_sh n a r
    have e1 : (ptsSt (at_ + n) s).length = (ptsSt at_ s).length := by rw [h1]; simp
    have a1 : at_ + n + (ptsSt at_ s).length = at_ + (ptsSt at_ s).length + n := by omega
    simp only [ptsL, List.map_append]
    rw [e1, a1, h1, h2]
end
/-- the number of points ahead of the end -/
def npL (a : List St) : Nat := (ptsL 0 a).length
theorem ptsP_cat (a b : List St) : ptsP (a ++ b) = ptsL 0 a ++ (ptsP b).map (shP (npL a)) := by
  unfold ptsP npL
  rw [ptsL_append, show 0 + (ptsL 0 a).length = 0 + (ptsL 0 a).length from rfl, ptsL_sh]
  simp [shP]
theorem npL_len (a : List St) : (ptsP a).length = npL a + 1 := ptsP_len a
theorem cat_left {a b : List St} {i : Nat} (h : i < npL a) : (ptsP (a ++ b))[i]? = (ptsP a)[i]? := by
  rw [ptsP_cat, List.getElem?_append_left h]
  unfold ptsP
  rw [List.getElem?_append_left h]
theorem cat_right {a b : List St} (j : Nat) : (ptsP (a ++ b))[npL a + j]? = ((ptsP b)[j]?).map (shP (npL a)) := by
  rw [ptsP_cat, List.getElem?_append_right (by show npL a ≤ _; omega), List.getElem?_map]
  congr 2
  show npL a + j - npL a = j
  omega
theorem sh_next {n k : Nat} {p : Pt} (h : k ∈ (shP n p).next) : ∃ j, j ∈ p.next ∧ k = j + n := by
  unfold shP at h
  obtain ⟨j, h1, h2⟩ := List.mem_map.1 h
  exact ⟨j, h1, h2.symm⟩
/-- what is gathered in the whole: in the first part; in the second, begun with what there is at the first one's end -/
theorem Ac.split {ev : Bool} {ts : List Int} {a b : List St} {f f' i v : Nat} (hf : ∀ v, v < ts.length → (accB ev f' v = true ↔ Ac ev ts (ptsP a) f (npL a) v)) (h : Ac ev ts (ptsP (a ++ b)) f i v) :
    (i < npL a → Ac ev ts (ptsP a) f i v) ∧ (∀ j, i = npL a + j → Ac ev ts (ptsP b) f' j v) := by
  induction h with
  | @init v hv h =>
    refine ⟨fun _ => .init hv h, fun j hj => ?_⟩
    obtain rfl : j = 0 := by omega
    have h0 : npL a = 0 := by omega
    refine .init hv ((hf v hv).2 ?_)
    rw [h0]
    exact .init hv h
  | @gen i k v p hp hk hv h =>
    rcases Nat.lt_or_ge i (npL a) with hi | hi
    · rw [cat_left hi] at hp
      have hA : Ac ev ts (ptsP a) f k v := .gen hp hk hv h
      refine ⟨fun _ => hA, fun j hj => ?_⟩
      have hkn := (ptsP_next a p (List.mem_of_getElem? hp)).2 k hk
      rw [npL_len] at hkn
      obtain rfl : j = 0 := by omega
      exact .init hv ((hf v hv).2 (by rw [show npL a = k by omega]; exact hA))
    · obtain ⟨m, rfl⟩ : ∃ m, i = npL a + m := ⟨i - npL a, by omega⟩
      rw [cat_right, Option.map_eq_some_iff] at hp
      obtain ⟨q, hq, rfl⟩ := hp
      obtain ⟨n, hn, rfl⟩ := sh_next hk
      refine ⟨fun h => by omega, fun j hj => ?_⟩
      obtain rfl : j = n := by omega
      exact .gen hq hn hv h
  | @keep i k v p hp hk hi0 h ih =>
    have hv := hi0.lt
    rcases Nat.lt_or_ge i (npL a) with hi | hi
    · rw [cat_left hi] at hp
      have hA : Ac ev ts (ptsP a) f k v := .keep hp hk (ih.1 hi) h
      refine ⟨fun _ => hA, fun j hj => ?_⟩
      have hkn := (ptsP_next a p (List.mem_of_getElem? hp)).2 k hk
      rw [npL_len] at hkn
      obtain rfl : j = 0 := by omega
      exact .init hv ((hf v hv).2 (by rw [show npL a = k by omega]; exact hA))
    · obtain ⟨m, rfl⟩ : ∃ m, i = npL a + m := ⟨i - npL a, by omega⟩
      rw [cat_right, Option.map_eq_some_iff] at hp
      obtain ⟨q, hq, rfl⟩ := hp
      obtain ⟨n, hn, rfl⟩ := sh_next hk
      refine ⟨fun h => by omega, fun j hj => ?_⟩
      obtain rfl : j = n := by omega
      exact .keep hq hn (ih.2 m rfl) h
end Go.Proofs.Ytfioaohadanjmaa

/- Plain: the issues of a program. No program in sight. -/
namespace Go.Proofs.Ytfioaohadanjmaa

/-- an issue -/
structure Iss where
  pt : Int
  kd : Int
  wt : Int
  deriving DecidableEq
/-- is e one of the loans of what counts as live (LV) behind point k? -/
def KpG (ts : List Int) (pts : List Pt) (LV : Nat → Nat → Prop) (k e : Nat) : Prop := ∃ p v, pts[k]? = some p ∧ v < ts.length ∧ LV k v ∧ setsP p.op p.x ≠ (v : Nat) ∧ useP ts p.op p.x p.y (v : Nat) ≠ 2 ∧ Fl ts pts Gloan (Cloan ts) k v e
/-- what is used behind a point; what has a value behind it -/
def LvN (ts : List Int) (pts : List Pt) (k v : Nat) : Prop := ∃ p, pts[k]? = some p ∧ ∃ j ∈ p.next, Nd ts pts j v
noncomputable def unB (ts : List Int) (pts : List Pt) (k v : Nat) : Bool := useP ts (ptD pts k).op (ptD pts k).x (ptD pts k).y (v : Nat) != 0 && dec (Ac true ts pts 0 k v)
noncomputable def unsL (ts : List Int) (pts : List Pt) (k : Nat) : List Int := lst ts.length (unB ts pts k)
def kindP (pts : List Pt) (e : Int) : Int := if (ptD pts e.toNat).op = 5 then 3 else 2
def isU (k : Nat) (L : List Int) : List Iss := L.map fun v => ⟨k, 1, v⟩
def isC (pts : List Pt) (k : Nat) (L : List Int) : List Iss := L.map fun e => ⟨k, kindP pts e, e⟩
theorem isU_len (k : Nat) (L : List Int) : (isU k L).length = L.length := by simp [isU]
theorem isC_len (pts : List Pt) (k : Nat) (L : List Int) : (isC pts k L).length = L.length := by simp [isC]
theorem KpG.mono {ts : List Int} {pts : List Pt} {LV LV' : Nat → Nat → Prop} {k e : Nat} (h : KpG ts pts LV k e) (hm : ∀ v, v < ts.length → LV k v → (∃ p, pts[k]? = some p ∧ useP ts p.op p.x p.y (v : Nat) ≠ 2) → Ac false ts pts 0 k v → LV' k v) : KpG ts pts LV' k e := by
  obtain ⟨p, v, hp, hv, hl, hs, hu, hf⟩ := h
  exact ⟨p, v, hp, hv, hm v hv hl ⟨p, hp, hu⟩ hf.maybe, hs, hu, hf⟩
end Go.Proofs.Ytfioaohadanjmaa
