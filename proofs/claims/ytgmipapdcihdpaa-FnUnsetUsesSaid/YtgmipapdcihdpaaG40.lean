import Derived.Test.YtgmipapdcihdpaaG37
import Derived.Laws.OwnMore
import Derived.StillTailTactics
set_option linter.unusedVariables false

/- Rows of bools that a call owns; spec.l3After. -/
namespace Go.Proofs.Ytgmipapdcihdpaa
open Go.RowKit

def OBools (w : World) (base : Nat) (v : Value) (l : List Bool) : Prop := w.ownsRow base 4 1 v l.length (bv l)
theorem OBools.empty (w : World) (base : Nat) (hb : base ≤ w.heap.size) : OBools (w.alloc (.cells #[] 4)) base (.slice (some ⟨w.heap.size, 0, none⟩) 0 0) [] :=
  World.ownsRow_lit (base := base) (e := 4) (size := 1) w #[] 0 hb (by simp [maxLen]) rfl
theorem OBools.slice {w : World} {base : Nat} {v : Value} {l : List Bool} (h : OBools w base v l) : ∃ A c, v = .slice A l.length c ∧ l.length ≤ c := by
  rcases h.2 with ⟨rfl, h0⟩ | ⟨g, cap, cur, rfl, _, _, hc, _⟩
  · exact ⟨none, 0, by rw [h0], by omega⟩
  · exact ⟨_, cap, rfl, hc⟩
theorem OBools.bel {w w' : World} {base : Nat} {v : Value} {l : List Bool} (h : OBools w base v l) (hb : Below w.heap.size w w') : OBools w' base v l :=
  h.kept (grown_bel hb (Nat.le_refl _) none) (by cases v.ownBlock <;> simp)
theorem OBools.base {w : World} {base base' : Nat} {v : Value} {l : List Bool} (h : OBools w base v l) (hb : base' ≤ base) : OBools w base' v l := by
  refine ⟨h.1, ?_⟩
  rcases h.2 with h' | ⟨g, cap, cur, rfl, hbg, rest⟩
  · exact .inl h'
  · exact .inr ⟨g, cap, cur, rfl, by omega, rest⟩
theorem OBools.at_ {w : World} {base : Nat} {A : Option Addr} {n c : Nat} {l : List Bool} (h : OBools w base (.slice A n c) l) {k : Nat} (hk : k < l.length) :
    ∃ g, A = some ⟨g, 0, none⟩ ∧ base ≤ g ∧ g < w.heap.size ∧ n = l.length ∧ w.cell? ⟨g, k, none⟩ = some (.bool (l.getD k false)) ∧ w.frozen? ⟨g, k, none⟩ = false := by
  obtain ⟨A', c', e, _⟩ := h.slice
  injection e with _ e2 _
  subst e2
  obtain ⟨g, cap, e, hb, hlt⟩ := h.form (by omega)
  injection e with e1 _ e3
  subst e1 e3
  exact ⟨g, rfl, hb, hlt, rfl, by rw [h.cellAt k (by omega), bv_get hk], h.frozenAt k⟩
theorem OBools.toS {w : World} {base : Nat} {v : Value} {l : List Bool} (h : OBools w base v l) (hl : l.length ≤ 4194304) : BoolS w w.heap.size v l := by
  obtain ⟨A, c, rfl, hc⟩ := h.slice
  refine ⟨A, c, rfl, hc, hl, by simp, fun hn => ?_⟩
  obtain ⟨g, cap, e, hb, hlt⟩ := h.form hn
  injection e with e1 _ e2
  subst e1 e2
  refine ⟨g, 0, rfl, hlt, fun j u hu => ?_⟩
  rw [Nat.zero_add, h.cellAt j (by have := (List.getElem?_eq_some_iff.1 hu).1; simp at this; omega)]
  exact hu
theorem OBools.set {w : World} {base g n c : Nat} {l : List Bool} (h : OBools w base (.slice (some ⟨g, 0, none⟩) n c) l) (k : Nat) (b : Bool) : OBools (w.setCell ⟨g, k, none⟩ (.bool b)) base (.slice (some ⟨g, 0, none⟩) n c) (l.set k b) := by
  have hn : n = l.length := by
    obtain ⟨A, c', e, _⟩ := h.slice
    injection e
  subst hn
  have := (World.ownsRow.stored h k (.bool b)).1
  unfold OBools
  rw [List.length_set, ← bv_set]
  exact this
theorem run_appb_nil (w : World) (base : Nat) (ty : TypeId) (v : Value) (l : List Bool) (hP : OBools w base v l) (c : Nat) : (Builtin.append_ #[52, 52] ty #[v, .slice none 0 c]).run Try.prog w = .ok v w := by
  obtain ⟨i0, hi0, hz0, hz1, hz2⟩ := info_parts Try.infoBool
  rcases hP.2 with ⟨rfl, h0⟩ | ⟨g, cap, cur, rfl, _, _, hnc, _⟩
  · simp [Builtin.append_, run_underlying Try.underlying52, sizeOf, typeInfo, hi0, Builtin.lenOf, Builtin.firstCells]
  · simp [Builtin.append_, run_underlying Try.underlying52, sizeOf, typeInfo, hi0, Builtin.lenOf, Builtin.firstCells, hnc, storeCells]
theorem run_app_bools (w : World) (base : Nat) (ty : TypeId) (v : Value) (l : List Bool) (hP : OBools w base v l) (B : Nat) (vs : Value) (ts : List Bool) (hr : BoolS w B vs ts) (hb : base ≤ w.heap.size) (hn : l.length + ts.length ≤ 8388608) :
    ∃ v' w', (Builtin.append_ #[52, 52] ty #[v, vs]).run Try.prog w = .ok v' w' ∧ OBools w' base v' (l ++ ts) ∧ w.grownBy w' v.ownBlock ∧ (v'.ownBlock = v.ownBlock ∨ v'.ownBlock = some w.heap.size) := by
  obtain ⟨A, c, rfl, hc, hm, hrd⟩ := hr
  rcases Nat.eq_zero_or_pos ts.length with h0 | h0
  · have hts : ts = [] := List.length_eq_zero_iff.1 h0
    subst hts
    rcases A with _ | ad
    · exact ⟨v, w, run_appb_nil w base ty v l hP c, by simpa using hP, World.grownBy.refl w _, .inl rfl⟩
    · obtain ⟨i0, hi0, hz0, hz1, hz2⟩ := info_parts Try.infoBool
      obtain ⟨v', w', hrun, h2, h3, _, h5⟩ := run_append_own_at (P := Try.prog) w base 52 ty 4 i0 _ 1 1 Try.underlying52 hi0 hz0 hz1 hz2 rfl (by omega) v l.length _ hP ad 0 c [] rfl (fun j u h => by simp at h) (fun u h => by simp at h) (by simp only [maxLen]; omega) (by omega) hb
      exact ⟨v', w', hrun, by simpa [OBools] using h2, h3, h5⟩
  · obtain ⟨b, off, rfl, hbl, hcell⟩ := hrd.2 h0
    obtain ⟨i0, hi0, hz0, hz1, hz2⟩ := info_parts Try.infoBool
    obtain ⟨v', w', hrun, h2, h3, _, h5⟩ := run_append_own_at (P := Try.prog) w base 52 ty 4 i0 _ 1 1 Try.underlying52 hi0 hz0 hz1 hz2 rfl (by omega) v l.length _ hP ⟨b, off, none⟩ ts.length c (ts.map .bool) (by simp)
      (fun j u h => by
        rcases Nat.eq_zero_or_pos j with hj | hj
        · subst hj; simpa [Addr.add] using hcell 0 u h
        · have := hcell j u h
          have hj0 : j ≠ 0 := by omega
          simpa [Addr.add, hj0] using this)
      (fun u h => by obtain ⟨x, _, rfl⟩ := List.mem_map.1 h; rfl) (by simp only [maxLen]; omega) (by omega) hb
    exact ⟨v', w', hrun, by simpa [OBools, bv] using h2, h3, h5⟩
theorem wpList_app_bools {ops : Array Oper} {rest : List Oper} {o : Oper} {a : Act} {Q : Exit → Act → World → Prop} {w : World} (hgd : o.guard = none) (s x : Operand)
    (ho : o.op = .call { callee := .builtin .append, args := #[s, x], argTypes := #[52, 52] })
    (base : Nat) (v : Value) (l : List Bool) (hs : a.eval s = v) (hP : OBools w base v l) (B : Nat) (vs : Value) (ts : List Bool) (hx : a.eval x = vs) (hr : BoolS w B vs ts) (hb : base ≤ w.heap.size) (hn : l.length + ts.length ≤ 8388608)
    (h : ∀ v' w', OBools w' base v' (l ++ ts) → w.grownBy w' v.ownBlock → (v'.ownBlock = v.ownBlock ∨ v'.ownBlock = some w.heap.size) → wpList Try.prog ops Q rest (a.put o.dst v') w') : wpList Try.prog ops Q (o :: rest) a w := by
  refine wpList_plain hgd fun K hK => ?_
  obtain ⟨v', w', hrun, h2, h3, h4⟩ := run_app_bools w base o.type v l hP B vs ts hr hb hn
  unfold Oper.wp execOp
  simp only [ho, resolve, invoke, builtin, Sem.run_bind, Sem.run_pure, Result.andThen_ok, List.map_toArray, List.map_cons, List.map_nil, hs, hx, hrun]
  exact hK _ _ (h v' w' h2 h3 h4)

/-- what v's place reads behind a point, b being what it read before -/
def vlB (ts : List Int) (p : Pt) (b : Bool) (v : Nat) : Bool := (b && !(useP ts p.op p.x p.y (v : Nat) == 2)) || decide (setsP p.op p.x = (v : Nat))
def AftRet (w : World) (ts : List Int) (p : Pt) (bf : List Bool) (e : Ending) (w' : World) : Prop :=
  ∃ v r, e = .returned v ∧ OBools w' w.heap.size v r ∧ r.length = bf.length ∧ (∀ u, u < bf.length → r.getD u false = vlB ts p (bf.getD u false) u) ∧ Below w.heap.size w w'

set_option maxHeartbeats 4000000
set_option maxRecDepth 100000
theorem l3After_any (vt vf nv : Value) (ts : List Int) (bf : List Bool) (p : Pt) (B B' : Nat) (w : World) (ht : IntS w B vt ts) (hf : BoolS w B' vf bf) (hB : B ≤ w.heap.size) (hB' : B' ≤ w.heap.size) (hlen : bf.length = ts.length) (h6 : ts.length ≤ 1000) (hs : setsP p.op p.x < ts.length) :
    Calls Try.prog 95 #[vt, .agg #[.int .i64 p.op, .int .i64 p.x, .int .i64 p.y, .int .i64 p.n, nv], vf] w (AftRet w ts p bf) := by
  have HT := Lib.hid ht
  have HF := Lib.hid hf
  have HLEN := Lib.hid hlen
  have hlen1 : bf.length ≤ ts.length := by omega
  have hlen2 : ts.length ≤ bf.length := by omega
  clear hlen
  obtain ⟨Af, cf, rfl, hcf, -, -⟩ := hf
  clear ht
  have HA := Lib.hid (bel_a w (.cells #[.int .i64 p.op, .int .i64 p.x, .int .i64 p.y, .int .i64 p.n, nv] 40))
  have HR := Lib.hid (heap_alloc_new w (.cells #[.int .i64 p.op, .int .i64 p.x, .int .i64 p.y, .int .i64 p.n, nv] 40))
  have hsA : (w.alloc (.cells #[.int .i64 p.op, .int .i64 p.x, .int .i64 p.y, .int .i64 p.n, nv] 40)).heap.size = w.heap.size + 1 := by simp
  have HE := Lib.hid (OBools.empty (w.alloc (.cells #[.int .i64 p.op, .int .i64 p.x, .int .i64 p.y, .int .i64 p.n, nv] 40)) (w.heap.size + 1) (by omega))
  have HB := Lib.hid (bel_a (w.alloc (.cells #[.int .i64 p.op, .int .i64 p.x, .int .i64 p.y, .int .i64 p.n, nv] 40)) (.cells #[] 4))
  rw [hsA] at HE
  clear hsA
  go_enter Try.func95, Try.ntmps95
  go_wp2_with (at_builtin; go_must (refine wpList_app_bools rfl (.tmp 10) (.tmp 11) rfl (w.heap.size + 1) _ [] rfl HE.out B' _ bf rfl ((HF.out.low HA.out hB').low HB.out (by simp <;> omega)) (by simp <;> omega) (by simp <;> omega) ?_); intro v' w1 hP' hG' hO')
  have hs2 : ((w.alloc (.cells #[.int .i64 p.op, .int .i64 p.x, .int .i64 p.y, .int .i64 p.n, nv] 40)).alloc (.cells #[] 4)).heap.size = w.heap.size + 2 := by simp
  have HBW := Lib.hid (grown_new (HA.out.trans (HB.out.mono HA.out.size)) (g := w.heap.size + 1) (by omega) hG')
  have hrow : w1.heap[w.heap.size]? = some (.cells #[.int .i64 p.op, .int .i64 p.x, .int .i64 p.y, .int .i64 p.n, nv] 40 (0, 0)) :=
    (hG'.block w.heap.size (by omega) (fun e => by have e' : w.heap.size = w.heap.size + 1 := Option.some.inj e; omega)).trans (row_below HR.out HB.out)
  have HROW := Lib.hid hrow
  have HO := Lib.hid hP'
  obtain ⟨A', c', rfl, hc'⟩ := hP'.slice
  simp only [List.nil_append] at hc' HO ⊢
  clear hG' hO' hP' hrow hs2
  go_loopw [8] (fun i wr => ∃ (k : Nat) (r : List Bool), k ≤ bf.length ∧ i = .int .i64 k ∧ OBools wr (w.heap.size + 1) (.slice A' bf.length c') r ∧ r.length = bf.length ∧ (∀ u, u < bf.length → r.getD u false = if u < k then (bf.getD u false && !(useP ts p.op p.x p.y (u : Nat) == 2)) else bf.getD u false) ∧ Below w.heap.size w wr ∧ wr.heap[w.heap.size]? = some (.cells #[.int .i64 p.op, .int .i64 p.x, .int .i64 p.y, .int .i64 p.n, nv] 40 (0, 0))) (fun i _ => bf.length - (intOf i).toNat)
  case atStart => exact ⟨0, bf, by omega, rfl, HO.out, rfl, fun u _ => by simp, HBW.out, HROW.out⟩
  case round =>
    obtain ⟨k, r, hk, rfl, hO, hrl, hr, hbw, hrow⟩ := hrel
    have HOR := Lib.hid hO
    have HRL := Lib.hid hrl
    have HRR := Lib.hid hr
    have HBR := Lib.hid hbw
    have HRW := Lib.hid hrow
    have d0 : wr.cell? ⟨w.heap.size, 0, none⟩ = some (.int .i64 p.op) := by rw [cell_of_row _ _ _ _ _ _ hrow]; rfl
    have d1 : wr.cell? ⟨w.heap.size, 1, none⟩ = some (.int .i64 p.x) := by rw [cell_of_row _ _ _ _ _ _ hrow]; rfl
    have d2 : wr.cell? ⟨w.heap.size, 2, none⟩ = some (.int .i64 p.y) := by rw [cell_of_row _ _ _ _ _ _ hrow]; rfl
    have d3 : wr.cell? ⟨w.heap.size, 3, none⟩ = some (.int .i64 p.n) := by rw [cell_of_row _ _ _ _ _ _ hrow]; rfl
    have d4 : wr.cell? ⟨w.heap.size, 4, none⟩ = some nv := by rw [cell_of_row _ _ _ _ _ _ hrow]; rfl
    clear hO hrl hr hbw hrow
    by_cases hlt : k < bf.length
    · go_wp2_with (at_builtin; fail)
      refine (l3Use_any _ ts B _ _ _ _ _ _ _ (HT.out.low HBR.out hB) (by have := HBR.out.size; omega) (by omega) (by omega)).mono ?_
      rintro e w2 ⟨rfl, hb2⟩
      have HO2 := Lib.hid (HOR.out.bel hb2)
      have HB2 := Lib.hid (HBR.out.trans (hb2.mono HBR.out.size))
      have HR2 := Lib.hid (row_below HRW.out hb2)
      clear hb2 d0 d1 d2 d3 d4
      cases hu : (useP ts p.op p.x p.y (k : Nat) == 2)
      · have HU := Lib.hid hu
        go_wp2_with (at_builtin; fail)
        refine ⟨⟨k + 1, r, by omega, by go_num, HO2.out, HRL.out, fun u hu => ?_, HB2.out, HR2.out⟩, by simp [intOf] <;> omega⟩
        rw [HRR.out u hu]
        by_cases huk : u = k
        · rw [huk, if_neg (by omega), if_pos (by omega), HU.out]; simp
        · by_cases h1 : u < k
          · rw [if_pos h1, if_pos (by omega)]
          · rw [if_neg h1, if_neg (by omega)]
      · have HU := Lib.hid hu
        obtain ⟨g, rfl, hbg, hgl, -, hcg, hfg⟩ := HO2.out.at_ (k := k) (by rw [HRL.out]; omega)
        go_wp2_with (at_builtin; fail)
        refine ⟨⟨k + 1, r.set k false, by omega, by go_num, HO2.out.set k false, by rw [List.length_set]; exact HRL.out, fun u hu => ?_, HB2.out.setCell (p := ⟨g, k, none⟩) (by show w.heap.size ≤ g; omega) _, ?_⟩, by simp [intOf] <;> omega⟩
        · rw [getD_setB (by rw [HRL.out]; omega)]
          by_cases huk : u = k
          · rw [huk, if_pos rfl, if_pos (by omega), HU.out]; simp
          · rw [if_neg huk, HRR.out u hu]
            by_cases h1 : u < k
            · rw [if_pos h1, if_pos (by omega)]
            · rw [if_neg h1, if_neg (by omega)]
        · exact (heap_setCell_other w2 ⟨g, k, none⟩ w.heap.size _ (by show w.heap.size ≠ g; omega)).trans HR2.out
    · have hke : k = bf.length := by omega
      go_wp2_with (at_builtin; fail)
      refine (l3Set_any _ _ _ _ _ _).mono ?_
      rintro e w2 ⟨rfl, hb2⟩
      have HO2 := Lib.hid (HOR.out.bel hb2)
      have HB2 := Lib.hid (HBR.out.trans (hb2.mono HBR.out.size))
      have HFIN : Hid (∀ u, u < bf.length → r.getD u false = (bf.getD u false && !(useP ts p.op p.x p.y (u : Nat) == 2))) := Lib.hid fun u hu => by rw [HRR.out u hu, if_pos (by omega)]
      clear hb2 d0 d1 d2 d3 d4 hke
      by_cases h0 : 0 ≤ setsP p.op p.x
      · obtain ⟨j, hj⟩ := Int.eq_ofNat_of_zero_le h0
        have hjl : j < bf.length := by omega
        have HJ := Lib.hid hj
        rw [hj] at h0 hs ⊢
        obtain ⟨g, rfl, hbg, hgl, -, hcg, hfg⟩ := HO2.out.at_ (k := j) (by rw [HRL.out]; omega)
        clear hj
        go_wp2_with (at_builtin; fail)
        go_ret
        refine ⟨_, r.set j true, rfl, OBools.base (base' := w.heap.size) (HO2.out.set j true) (by omega), by rw [List.length_set]; exact HRL.out, fun u hu => ?_, HB2.out.setCell (p := ⟨g, j, none⟩) (by show w.heap.size ≤ g; omega) _⟩
        rw [getD_setB (by rw [HRL.out]; omega)]
        unfold vlB
        by_cases huj : u = j
        · rw [huj, if_pos rfl, HJ.out]; simp
        · rw [if_neg huj, HFIN.out u hu, HJ.out, decide_eq_false (by omega), Bool.or_false]
      · go_wp2_with (at_builtin; fail)
        go_ret
        refine ⟨_, r, rfl, OBools.base (base' := w.heap.size) HO2.out (by omega), HRL.out, fun u hu => ?_, HB2.out⟩
        unfold vlB
        rw [HFIN.out u hu, decide_eq_false (by omega), Bool.or_false]

end Go.Proofs.Ytgmipapdcihdpaa

/- Plain: rows of bools that say what always has a value. No program in sight. -/
namespace Go.Proofs.Ytgmipapdcihdpaa

/-- how many places of the rows are set -/
def muT (rows : List (List Bool)) : Nat := (rows.map fun r => (r.filter fun b => b).length).sum
theorem filter_clr_lt {l : List Bool} {v : Nat} (hv : v < l.length) (h : l.getD v false = true) : ((l.set v false).filter fun b => b).length < (l.filter fun b => b).length := by
  induction l generalizing v with
  | nil => simp at hv
  | cons a r ih =>
    cases v with
    | zero => simp [List.getD] at h; subst h; simp
    | succ v =>
      have := ih (v := v) (by simpa using hv) (by simpa [List.getD] using h)
      cases a <;> simp <;> omega
theorem muT_set {rows : List (List Bool)} {i v : Nat} (hi : i < rows.length) (hv : v < (rows.getD i []).length) (h : rget rows i v = true) : muT (rset rows i v false) < muT rows := by
  refine sum_set_ltL (f := fun r : List Bool => (r.filter fun b => b).length) hi ?_
  rw [getD_lt hi] at hv
  unfold rget at h
  rw [getD_lt hi] at h ⊢
  exact filter_clr_lt hv h

structure FdI (ts : List Int) (pts : List Pt) (gv : Nat) (rows : List (List Bool)) : Prop where
  len : rows.length = pts.length
  row : ∀ i, i < rows.length → (rows.getD i []).length = ts.length
  sound : ∀ i v, i < rows.length → v < ts.length → rget rows i v = false → Ac true ts pts gv i v
  init : ∀ v, v < ts.length → gv.testBit v = false → rget rows 0 v = false
theorem vl_tr {ts : List Int} {p : Pt} {b : Bool} {v : Nat} (hv : v < ts.length) : vlB ts p b v = !trB true ts p (!b) v := by
  unfold vlB trB
  have h1 : (takenP ts p.op p.x p.y).testBit v = (useP ts p.op p.x p.y (v : Nat) == 2) := by unfold takenP; rw [bm_bit, decide_eq_true hv, Bool.true_and]
  rw [h1, setBit_bit]
  cases b <;> cases (useP ts p.op p.x p.y (v : Nat) == 2) <;> cases decide (setsP p.op p.x = (v : Nat)) <;> rfl
/-- what is not there behind a point is lacked at each Next -/
theorem FdI.aft {ts : List Int} {pts : List Pt} {gv : Nat} {rows : List (List Bool)} (h : FdI ts pts gv rows) {i v : Nat} {p : Pt} (hp : pts[i]? = some p) (hi : i < rows.length) (hv : v < ts.length) (ha : vlB ts p (rget rows i v) v = false) : ∀ k ∈ p.next, Ac true ts pts gv k v := by
  intro k hk
  rw [vl_tr hv, Bool.not_eq_false'] at ha
  cases hb : rget rows i v
  · rw [hb] at ha; exact .keep hp hk (h.sound i v hi hv hb) ha
  · rw [hb] at ha; exact .gen hp hk hv ha
theorem FdI.upd {ts : List Int} {pts : List Pt} {gv : Nat} {rows : List (List Bool)} (h : FdI ts pts gv rows) {n v : Nat} (hn : n < rows.length) (hv : v < ts.length) (ha : Ac true ts pts gv n v) : FdI ts pts gv (rset rows n v false) := by
  refine ⟨by rw [rset_len, h.len], fun j hj => by rw [rset_row hn, h.row j (by simpa [rset_len] using hj)], fun j u hj hu hr => ?_, fun u hu hg => ?_⟩
  · rw [rget_rset hn (by rw [h.row n hn]; exact hv)] at hr
    split at hr
    · rename_i e; obtain ⟨rfl, rfl⟩ := e; exact ha
    · exact h.sound j u (by simpa [rset_len] using hj) hu hr
  · rw [rget_rset hn (by rw [h.row n hn]; exact hv)]
    split
    · rfl
    · exact h.init u hu hg
/-- the rows r0 are closed along the edge from i to n for the first u variables -/
def FdV (ts : List Int) (r0 : List (List Bool)) (p : Pt) (i n u : Nat) : Prop := ∀ v, v < u → rget r0 n v = true → vlB ts p (rget r0 i v) v = true
def FdE (ts : List Int) (pts : List Pt) (r0 : List (List Bool)) (i k : Nat) : Prop := ∀ p, pts[i]? = some p → ∀ n ∈ p.next.take k, FdV ts r0 p i n ts.length
def FdC (ts : List Int) (pts : List Pt) (r0 : List (List Bool)) (k : Nat) : Prop := ∀ i p, i < k → pts[i]? = some p → ∀ n ∈ p.next, FdV ts r0 p i n ts.length
theorem FdI.done {ts : List Int} {pts : List Pt} {gv : Nat} {rows : List (List Bool)} (h : FdI ts pts gv rows) (hpos : 0 < pts.length) (hnx : ∀ p ∈ pts, ∀ k ∈ p.next, k < pts.length) (hc : FdC ts pts rows pts.length) {i v : Nat} (hi : i < pts.length) (hv : v < ts.length) :
    rget rows i v = !dec (Ac true ts pts gv i v) := by
  have hac : ∀ i v, Ac true ts pts gv i v → i < pts.length ∧ rget rows i v = false := by
    intro i v ha
    induction ha with
    | init hv h1 => exact ⟨hpos, h.init _ hv (by simpa [accB] using h1)⟩
    | @gen i k v p hp hk hv h1 =>
      have hi : i < pts.length := by
        rcases Nat.lt_or_ge i pts.length with h | h
        · exact h
        · rw [List.getElem?_eq_none h] at hp; cases hp
      refine ⟨hnx p (List.mem_of_getElem? hp) k hk, ?_⟩
      cases hr : rget rows k v
      · rfl
      · have := hc i p hi hp k hk v hv hr
        rw [vl_tr hv, trB_mono, h1] at this
        simp at this
    | @keep i k v p hp hk ha h1 ih =>
      have hi := ih.1
      refine ⟨hnx p (List.mem_of_getElem? hp) k hk, ?_⟩
      cases hr : rget rows k v
      · rfl
      · have := hc i p hi hp k hk v ha.lt hr
        rw [vl_tr ha.lt, ih.2, Bool.not_false, h1] at this
        simp at this
  cases hr : rget rows i v
  · rw [dec_true (h.sound i v (by rw [h.len]; exact hi) hv hr)]; rfl
  · rw [dec_false fun ha => by rw [(hac i v ha).2] at hr; cases hr]; rfl
/-- the rows within one pass -/
def FdP (ts : List Int) (pts : List Pt) (gv : Nat) (r0 : List (List Bool)) (b : Bool) (rows : List (List Bool)) : Prop :=
  FdI ts pts gv rows ∧ muT rows ≤ muT r0 ∧ (b = true → muT rows < muT r0) ∧ (b = false → rows = r0)
/-- the first rows -/
def row0 (ts : List Int) (gv : Nat) (i : Nat) : List Bool := (List.range ts.length).map fun v => decide (0 < i) || gv.testBit v
theorem row0_get {ts : List Int} {gv i v : Nat} (hv : v < ts.length) : (row0 ts gv i).getD v false = (decide (0 < i) || gv.testBit v) := by
  unfold row0; rw [getD_lt (by simpa using hv)]; simp
theorem row0_len (ts : List Int) (gv i : Nat) : (row0 ts gv i).length = ts.length := by simp [row0]
theorem FdI.first (ts : List Int) (pts : List Pt) (gv : Nat) (hpos : 0 < pts.length) : FdI ts pts gv ((List.range pts.length).map (row0 ts gv)) := by
  have hg : ∀ i, i < pts.length → ((List.range pts.length).map (row0 ts gv)).getD i [] = row0 ts gv i := fun i hi => by rw [getD_lt (by simpa using hi)]; simp
  refine ⟨by simp, fun i hi => by rw [hg i (by simpa using hi), row0_len], fun i v hi hv hr => ?_, fun v hv hgv => ?_⟩
  · unfold rget at hr
    rw [hg i (by simpa using hi), row0_get hv, Bool.or_eq_false_iff] at hr
    have h0 : i = 0 := by have := hr.1; simp at this; exact this
    subst h0
    exact .init hv (by simp [accB, hr.2])
  · unfold rget
    rw [hg 0 hpos, row0_get hv, hgv]; rfl

end Go.Proofs.Ytgmipapdcihdpaa

/- More words for rows of bools: a row that was filled before it is appended. -/
namespace Go.Proofs.Ytgmipapdcihdpaa
open Go.RowKit

theorem OBools.other {w : World} {base g : Nat} {v : Value} {l : List Bool} (h : OBools w base v l) (hg : g < base) (i : Nat) (u : Value) : OBools (w.setCell ⟨g, i, none⟩ u) base v l :=
  h.kept (grown_set w g i u) (.inr (by
    cases e : v.ownBlock with
    | none => simp
    | some k => intro e'; injection e' with e'; have := (World.ownsRow.lt h k e).1; omega))
/-- append(out, row) where the row lies in block g -/
theorem wpList_push_row2 {ops : Array Oper} {rest : List Oper} {o : Oper} {a : Act} {Q : Exit → Act → World → Prop} {w : World} {base m g : Nat} {vo : Value} {rb : List Nat} {rows : List (List Bool)} (hgd : o.guard = none) (s x : Operand)
    (ho : o.op = .call { callee := .builtin .append, args := #[s, x], argTypes := #[61, 61] })
    (hP : BRow w base vo rb m rows) (hb : base ≤ w.heap.size) (hn : rows.length + 1 ≤ 100000) (row : List Bool) (hr : RowB w g 4 (bv row)) (hbg : base ≤ g) (hne : ∀ i, i < rows.length → rb.getD i 0 ≠ g)
    (hs : a.eval s = vo) (hx : a.eval x = .slice (some ⟨w.heap.size, 0, none⟩) 1 1)
    (h : ∀ v' w', BRow w' base v' (rb ++ [g]) m (rows ++ [row]) → Below base w w' → wpList Try.prog ops Q rest (a.put o.dst v') w') :
    wpList Try.prog ops Q (o :: rest) a (w.alloc (.cells #[.slice (some ⟨g, 0, none⟩) m m] 52)) := by
  obtain ⟨i0, hi0, hz0, hz1, hz2⟩ := info_parts Try.infoBs
  have hb2 := bel_a w (.cells #[.slice (some ⟨g, 0, none⟩) m m] 52)
  have hr1 : RowB (w.alloc (.cells #[.slice (some ⟨g, 0, none⟩) m m] 52)) g 4 (bv row) := hr.alloc _
  have hr2 := heap_alloc_new w (.cells #[.slice (some ⟨g, 0, none⟩) m m] 52)
  have hP2 := hP.low hb2
  have hsz : (w.alloc (.cells #[.slice (some ⟨g, 0, none⟩) m m] 52)).heap.size = w.heap.size + 1 := by simp
  generalize w.alloc (.cells #[.slice (some ⟨g, 0, none⟩) m m] 52) = W at *
  refine wpList_append_own_at _ hgd s x 61 ho base 52 i0 _ 1 24 Try.underlying61 hi0 hz0 hz1 hz2 rfl (by omega) vo rows.length _ hs hP2.own ⟨w.heap.size, 0, none⟩ 1 1 [.slice (some ⟨g, 0, none⟩) m m] hx rfl ?_ ?_ (by simp only [maxLen]; omega) (by omega) (by omega) ?_
  · intro j u hu
    have hj : j = 0 := by
      rcases Nat.eq_zero_or_pos j with h | h
      · exact h
      · rw [List.getElem?_eq_none (by simp; omega)] at hu; cases hu
    subst hj
    have : W.cell? ⟨w.heap.size, 0, none⟩ = some u := by
      rw [cell_of_row _ _ _ _ _ _ hr2]
      simpa using hu
    simpa [Addr.add] using this
  · intro u hu
    simp at hu
    subst hu; rfl
  · intro v' w' k1 k2 k3 k4
    have hownT : ∀ (b : Nat) (T : TypeId) (cs : Array Value), W.heap[b]? = some (Obj.cells cs T (0, 0)) → T ≠ 52 → w'.heap[b]? = some (Obj.cells cs T (0, 0)) := by
      intro b T cs hr hT
      refine (k2.block b ?_ fun e => ?_).trans hr
      · rcases Nat.lt_or_ge b W.heap.size with h' | h'
        · exact h'
        · rw [Array.getElem?_eq_none h'] at hr; cases hr
      · rcases hP2.own.2 with ⟨rfl, _⟩ | ⟨g, cap, cur, rfl, _, hh, _⟩
        · cases e
        · injection e with e
          have e' : b = g := e
          subst e'
          rw [hr] at hh
          injection hh with hh
          injection hh with _ hT'
          exact hT hT'
    have hgl : ∀ i, i < (rows ++ [row]).length → (rb ++ [g]).getD i 0 = if i < rows.length then rb.getD i 0 else g := by
      intro i hi
      by_cases h : i < rows.length
      · rw [if_pos h, getD_lt (by rw [List.length_append, hP.len]; omega), getD_lt (by rw [hP.len]; exact h), List.getElem_append_left]
      · have hi' : i = rows.length := by simp at hi; omega
        rw [if_neg h, getD_lt (by simp [hP.len, hi'])]
        rw [List.getElem_append_right (by rw [hP.len]; omega)]; simp
    refine h v' w' ⟨?_, by simp [hP.len], fun i hi => ?_, fun i j hi hj he => ?_⟩ ?_
    · rw [List.map_append, List.length_append]; exact k1
    · rw [hgl i hi]
      by_cases hil : i < rows.length
      · rw [if_pos hil, getD_lt hi, List.getElem_append_left hil]
        refine ⟨?_, (hP.row i hil).2⟩
        have := hownT _ _ _ (hP2.row i hil).1 (by decide)
        rw [getD_lt hil] at this
        exact this
      · have hi' : i = rows.length := by simp at hi; omega
        rw [if_neg hil, getD_lt hi, List.getElem_append_right (by omega)]
        refine ⟨?_, hbg⟩
        have e := hownT _ _ _ hr1 (by decide)
        simpa [RowB] using e
    · rw [hgl i hi, hgl j hj] at he
      simp at hi hj
      split at he <;> split at he
      · exact hP.inj i j (by assumption) (by assumption) he
      · exact absurd he (hne i (by assumption))
      · exact absurd he.symm (hne j (by assumption))
      · omega
    · refine (hb2.mono hb).trans ⟨k2.os, k2.tape, k2.output, k2.size, fun k hk => k2.block k (by omega) fun e => ?_⟩
      have := (hP2.own.lt k e.symm).1
      omega

end Go.Proofs.Ytgmipapdcihdpaa

/- spec.l14Forward. -/
namespace Go.Proofs.Ytgmipapdcihdpaa
open Go.RowKit

/-- what spec.l14Forward answers -/
def FwRet (w : World) (ts : List Int) (pts : List Pt) (gv : Nat) (e : Ending) (w' : World) : Prop :=
  ∃ v rb rows base, e = .returned v ∧ w.heap.size ≤ base ∧ BRow w' base v rb ts.length rows ∧ rows.length = pts.length ∧ (∀ i, i < rows.length → (rows.getD i []).length = ts.length) ∧
    (∀ i v, i < pts.length → v < ts.length → rget rows i v = !dec (Ac true ts pts gv i v)) ∧ Below w.heap.size w w'

set_option maxHeartbeats 8000000
set_option maxRecDepth 100000
theorem l14Forward_any (vt vb vf : Value) (ts : List Int) (l : List St) (fl : List Bool) (gv B : Nat) (w : World) (ht : IntS w B vt ts) (hl : StS w B vb l) (hf : BoolS w B vf fl) (hB : B ≤ w.heap.size) (hv : validP ts l = true) (hfl : fl.length = ts.length) (hgv : ∀ v, v < ts.length → gv.testBit v = fl.getD v false) :
    Calls Try.prog 75 #[.agg #[vt, vb], vf] w (FwRet w ts (ptsP l) gv) := by
  have G := Good.of_valid hv
  have hsz : szL l ≤ 4194300 := by have := (valid_parts hv).2.2; omega
  have h6 := G.h6
  have hlen := G.len
  have HG := Lib.hid G
  have HGV := Lib.hid hgv
  have hfl1 : fl.length ≤ ts.length := by omega
  have hfl2 : ts.length ≤ fl.length := by omega
  have HF := Lib.hid hf
  clear G hv hfl hgv
  obtain ⟨Af, cf, rfl, hcf, -, -⟩ := hf
  have ht0 := ht
  obtain ⟨At, ct, rfl, hct, -, -⟩ := ht0
  go_enter Try.func75, Try.ntmps75
  go_wp2_with fail
  refine (l2Points_any _ vb l B _ (hl.low (bel_a _ _) hB) (by simp; omega) hsz).mono ?_
  rintro e w1 ⟨vp, rfl, hps, hb1⟩
  have hs1 : w.heap.size < w1.heap.size := by have := hb1.size; simp at this; omega
  have c0 : w1.cell? ⟨w.heap.size, 0, none⟩ = some (.slice At ts.length ct) := box_kept hb1 (by simp) 0
  have HT1 := Lib.hid ((ht.low (bel_a w _) hB).low hb1 (by simp; omega))
  have HF1 := Lib.hid ((HF.out.low (bel_a w _) hB).low hb1 (by simp; omega))
  have HB1 := Lib.hid ((bel_a w _).trans (hb1.mono (by simp)))
  have HPS := Lib.hid hps
  obtain ⟨Ap, cp, rfl, hcp, -⟩ := hps.slice
  have hpos := HG.out.pos
  generalize hpts : ptsP l = pts at *
  clear hpts hps hb1 ht hl
  have hmk := make_bools ts.length (by omega)
  go_wp2_with fail
  have HB0 : Hid (BRow (w1.alloc (.cells #[] 52)) w1.heap.size (.slice (some ⟨w1.heap.size, 0, none⟩) 0 0) [] ts.length ((List.range 0).map (row0 ts gv))) := Lib.hid (BRow.empty w1 w1.heap.size ts.length (Nat.le_refl _))
  go_loopw [6, 7] (fun v i wr => ∃ (k : Nat) (rb : List Nat), k ≤ pts.length ∧ i = .int .i64 k ∧ BRow wr w1.heap.size v rb ts.length ((List.range k).map (row0 ts gv)) ∧ Below w1.heap.size w1 wr) (fun _ i _ => pts.length - (intOf i).toNat)
  case atStart => exact ⟨0, [], Nat.zero_le _, rfl, HB0.out, bel_a w1 _⟩
  case round =>
    obtain ⟨k, rb, hk, rfl, hbr, hbw⟩ := hrel
    have HBR := Lib.hid hbr
    have HBW := Lib.hid hbw
    have hsr := hbw.size
    obtain ⟨A4, c4, rfl, hc4⟩ := hbr.slice
    have d0 := (hbw.cell (p := ⟨w.heap.size, 0, none⟩) hs1).trans c0
    clear hbr hbw
    by_cases hlt : k < pts.length
    · have HRL : Hid (((List.range k).map (row0 ts gv)).length = k) := Lib.hid (by simp)
      have HRS : Hid ((List.range (k + 1)).map (row0 ts gv) = (List.range k).map (row0 ts gv) ++ [row0 ts gv k]) := Lib.hid (by rw [List.range_succ, List.map_append]; rfl)
      generalize (List.range k).map (row0 ts gv) = rws at *
      have hrl : rws.length ≤ 61 := by rw [HRL.out]; omega
      have hrl2 : rws.length = k := HRL.out
      have HRN : Hid (RowB (wr.alloc (.cells (bv (List.replicate ts.length false)).toArray 4)) wr.heap.size 4 (bv (List.replicate ts.length false))) := Lib.hid (RowB.new _ _ _)
      have HBN := Lib.hid (bel_a wr (.cells (bv (List.replicate ts.length false)).toArray 4))
      have HR0 : Hid ((List.replicate ts.length false).length = ts.length) := Lib.hid (by simp)
      clear hrl2
      obtain ⟨wo, rfl⟩ : ∃ wo : World, wo = wr := ⟨_, rfl⟩
      generalize List.replicate ts.length false = rz at *
      go_wp2_with (at_builtin; fail)
      go_loopw [9] (fun i wy => ∃ (j : Nat) (r : List Bool), j ≤ ts.length ∧ i = .int .i64 j ∧ RowB wy wo.heap.size 4 (bv r) ∧ r.length = ts.length ∧ (∀ u, u < ts.length → u < j → r.getD u false = (row0 ts gv k).getD u false) ∧ Below wo.heap.size wo wy) (fun i _ => ts.length - (intOf i).toNat)
      case atStart => exact ⟨0, rz, Nat.zero_le _, rfl, HRN.out, HR0.out, fun u _ h => by omega, HBN.out⟩
      case round =>
        obtain ⟨j, r, hj, rfl, hry, hrl2, hrr, hby⟩ := hrel
        have HRY := Lib.hid hry
        have HRL2 := Lib.hid hrl2
        have HRR := Lib.hid hrr
        have HBY := Lib.hid hby
        have hsy := hby.size
        have hwol : wo.heap.size < wr.heap.size := hry.lt
        clear hry hrl2 hrr hby
        by_cases hjl : j < ts.length
        · obtain ⟨A, c, e, _, _, hrd⟩ := (HF1.out.low (HBW.out.trans (HBY.out.mono hsr)) (by omega))
          injection e with e1 _ e2
          subst e1 e2
          obtain ⟨bf, of, rfl, hbf, hcell⟩ := hrd.bool_at (k := j) (by omega)
          have hcj := hcell j (by omega)
          obtain ⟨bj, hbj⟩ : ∃ bj, bj = fl.getD j false := ⟨_, rfl⟩
          rw [← hbj] at hcj
          have HBJ := Lib.hid hbj
          clear hbj
          have hcy : wr.cell? ⟨wo.heap.size, j, none⟩ = some (.bool (r.getD j false)) := by rw [HRY.out.cell, bv_get (by rw [HRL2.out]; exact hjl)]
          have hfy := HRY.out.frozen j
          clear hcell hrd
          by_cases hk0 : 0 < k
          · have hk1 : (0 : Int) < (k : Int) := by omega
            have HDK : Hid ((decide (0 < k) || bj) = true) := Lib.hid (by simp [hk0])
            go_wp2_with (at_builtin; fail)
            refine ⟨⟨j + 1, r.set j (row0 ts gv k |>.getD j false), by omega, by go_num, ?_, by rw [List.length_set]; exact HRL2.out, fun u hu huj => ?_, HBY.out.setCell (p := ⟨wo.heap.size, j, none⟩) (Nat.le_refl _) _⟩, by simp [intOf] <;> omega⟩
            · rw [row0_get hjl, HGV.out j hjl, ← HBJ.out, HDK.out, ← bv_set]
              exact HRY.out.set_ j _
            · rw [getD_setB (by rw [HRL2.out]; exact hjl)]
              by_cases he : u = j
              · rw [if_pos he, he]
              · rw [if_neg he]; exact HRR.out u hu (by omega)
          · have hk1 : ¬ (0 : Int) < (k : Int) := by omega
            have hk2 : decide ((0 : Int) < (k : Int)) = false := by simp; omega
            have hk3 : decide (0 < k) = false := by simp; omega
            have HDK : Hid ((decide (0 < k) || bj) = bj) := Lib.hid (by rw [hk3]; rfl)
            clear hk0
            go_wp2_with (at_builtin; fail)
            refine ⟨⟨j + 1, r.set j (row0 ts gv k |>.getD j false), by omega, by go_num, ?_, by rw [List.length_set]; exact HRL2.out, fun u hu huj => ?_, HBY.out.setCell (p := ⟨wo.heap.size, j, none⟩) (Nat.le_refl _) _⟩, by simp [intOf] <;> omega⟩
            · rw [row0_get hjl, HGV.out j hjl, ← HBJ.out, HDK.out, ← bv_set]
              exact HRY.out.set_ j _
            · rw [getD_setB (by rw [HRL2.out]; exact hjl)]
              by_cases he : u = j
              · rw [if_pos he, he]
              · rw [if_neg he]; exact HRR.out u hu (by omega)
        · have hje : j = ts.length := by omega
          have HEQ : Hid (r = row0 ts gv k) := Lib.hid (by
            apply List.ext_getElem
            · rw [HRL2.out, row0_len]
            · intro u h1 h2
              have hu : u < ts.length := by rw [← HRL2.out]; exact h1
              have := HRR.out u hu (by omega)
              rw [getD_lt h1, getD_lt h2] at this
              exact this)
          have HBR2 := Lib.hid (HBR.out.low HBY.out)
          have HNE : Hid (∀ i, i < rws.length → rb.getD i 0 ≠ wo.heap.size) := Lib.hid fun i hi => Nat.ne_of_lt (HBR.out.row i hi).1.lt
          clear hje
          go_wp2_with (at_builtin; go_must (refine wpList_push_row2 rfl (.tmp 46) (.tmp 48) rfl HBR2.out (by omega) (by omega) r HRY.out hsr HNE.out rfl rfl ?_); intro v' w' hP' hE')
          case roundEnd =>
            refine ⟨⟨k + 1, rb ++ [wo.heap.size], by omega, by go_num, ?_, (HBW.out.trans (HBY.out.mono hsr)).trans hE'⟩, by simp [intOf] <;> omega⟩
            rw [HRS.out, ← HEQ.out]
            exact hP'
    · have hkl : k = pts.length := by omega
      have HLI : Hid (FdI ts pts gv ((List.range k).map (row0 ts gv))) := Lib.hid (by rw [hkl]; exact FdI.first ts pts gv hpos)
      clear hkl
      generalize (List.range k).map (row0 ts gv) = rows0 at *
      obtain ⟨wo, rfl⟩ : ∃ wo : World, wo = wr := ⟨_, rfl⟩
      go_wp2_with (at_builtin; fail)
      go_loopg [10] (1 + muT rows0) (fun gk c wr => ∃ (b : Bool) (rows : List (List Bool)), c = .bool b ∧ BRow wr w1.heap.size (.slice A4 rows0.length c4) rb ts.length rows ∧ rows.length = rows0.length ∧ FdI ts pts gv rows ∧ (b = true → muT rows < gk) ∧ (b = false → FdC ts pts rows pts.length) ∧ Below w1.heap.size w1 wr)
      case atStart => exact ⟨true, rows0, rfl, HBR.out, rfl, HLI.out, fun _ => by omega, fun h => (by cases h), HBW.out⟩
      case round =>
        obtain ⟨b, rows, rfl, hbr, hlr, hli, hmu, hcl, hbw⟩ := hrel
        have HBR2 := Lib.hid hbr
        have HLR := Lib.hid hlr
        have HLI2 := Lib.hid hli
        have HMU := Lib.hid hmu
        have HCL := Lib.hid hcl
        have HBW2 := Lib.hid hbw
        clear hbr hlr hli hmu hcl hbw
        cases b
        · go_wp2_with (at_builtin; fail)
          go_ret
          exact ⟨_, rb, rows, w1.heap.size, rfl, by omega, HBR2.out, by rw [HLR.out]; exact HLI.out.len, HLI2.out.row, fun i v hi hv => HLI2.out.done hpos HG.out.next (HCL.out (by simp)) hi hv, HB1.out.trans (HBW2.out.mono (by omega))⟩
        · go_wp2_with (at_builtin; fail)
          go_loopw [10, 11] (fun c i wx => ∃ (b : Bool) (k : Nat) (rs : List (List Bool)), c = .bool b ∧ i = .int .i64 k ∧ k ≤ pts.length ∧ (BRow wx w1.heap.size (.slice A4 rows0.length c4) rb ts.length rs ∧ rs.length = rows0.length) ∧ FdP ts pts gv rows b rs ∧ (b = false → FdC ts pts rows k) ∧ Below w1.heap.size w1 wx) (fun _ i _ => pts.length - (intOf i).toNat)
          case atStart => exact ⟨false, 0, rows, rfl, rfl, by omega, ⟨HBR2.out, HLR.out⟩, ⟨HLI2.out, Nat.le_refl _, fun h => (by cases h), fun _ => rfl⟩, (fun _ i p hi hp => by omega), HBW2.out⟩
          case round =>
            obtain ⟨b, k, rs, rfl, rfl, hk, hbr, hpp, hcl, hbx⟩ := hrel
            have HBRX := Lib.hid hbr
            have HPP := Lib.hid hpp
            have HCX := Lib.hid hcl
            have HBX := Lib.hid hbx
            have hsx := hbx.size
            clear hbr hpp hcl hbx
            by_cases hlt : k < pts.length
            · obtain ⟨bp, op, cp', nv, e, hbp, hcp', hlp, hnx, p0, p1, p2, p3, p4⟩ := HPS.out.get hlt
              injection e with e1 _ e2
              subst e1 e2
              obtain ⟨An, cn, rfl, hcn, hln, hrn⟩ := hnx
              have HNI : Hid (IntS w1 w1.heap.size (.slice An pts[k].next.length cn) (pts[k].next.map fun j => ((j : Nat) : Int))) := Lib.hid ⟨An, cn, by simp, by simpa using hcn, by simpa using hln, hrn⟩
              simp only [List.length_map] at hcn hln p4
              have HPG : Hid (pts[k]? = some pts[k]) := Lib.hid (List.getElem?_eq_getElem hlt)
              have HNX := Lib.hid (HG.out.next _ (List.getElem_mem hlt))
              have hn2 := HG.out.next2 _ (List.getElem_mem hlt)
              have hsk := (HG.out.ok _ (List.getElem_mem hlt)).sets
              generalize hP : pts[k] = P at *
              have HP := Lib.hid hP
              have HP4 := Lib.hid p4
              have hr0 : rs.length = pts.length := HPP.out.1.len
              obtain ⟨go, c4', ego, hgo, hgo2, hgo3, hgc, -⟩ := HBRX.out.1.form (by omega)
              injection ego with e1 e9 e2
              subst e1 e2
              clear e9
              have hgk := hgc k (by omega)
              have hrk := (HBRX.out.1.row k (by omega)).1
              have hlk : (rs.getD k []).length = ts.length := HPP.out.1.row k (by omega)
              have HRKS : Hid (BoolS wr wr.heap.size (.slice (some ⟨rb.getD k 0, 0, none⟩) ts.length ts.length) (rs.getD k [])) := Lib.hid (by
                have := hrk.bools (c := ts.length) (by omega) (by omega)
                rw [hlk] at this
                exact this)
              have hkr : ((k : Nat) : Int) < (rows0.length : Int) := by have := HBRX.out.2; omega
              have hkr2 : k < rows0.length := by omega
              have q0 := (HBX.out.cell (p := ⟨bp, op + k * 5, none⟩) hbp).trans p0
              have q1 := (HBX.out.cell (p := ⟨bp, op + k * 5 + 1, none⟩) hbp).trans p1
              have q2 := (HBX.out.cell (p := ⟨bp, op + k * 5 + 2, none⟩) hbp).trans p2
              have q3 := (HBX.out.cell (p := ⟨bp, op + k * 5 + 3, none⟩) hbp).trans p3
              have q4 := (HBX.out.cell (p := ⟨bp, op + k * 5 + 4, none⟩) hbp).trans p4
              have g0 := (HBX.out.cell (p := ⟨w.heap.size, 0, none⟩) hs1).trans c0
              have HLK := Lib.hid hlk
              have HR0 := Lib.hid hr0
              clear hgc hrk hlk hr0 p0 p1 p2 p3 p4 hrn hP
              go_wp2_with (at_builtin; fail)
              go_still_tail 10, (by kernel_rfl)
              change wpList _ _ _ _ _ wr.drew
              have hbd := (Below.refl wr.heap.size wr).drew
              have hsd := hbd.size
              generalize wr.drew = w2 at *
              go_wp2_with (at_builtin; fail)
              refine (l3After_any _ _ _ ts (rs.getD k []) P B wr.heap.size w2 ((HT1.out.low (HBX.out.trans (hbd.mono hsx)) (by omega))) (HRKS.out.low hbd (Nat.le_refl _)) (by omega) hsd HLK.out (by omega) hsk).mono ?_
              rintro e w3 ⟨vaf, af, rfl, hoa, hal, hag, hb3⟩
              have HBD := Lib.hid (hbd.trans (hb3.mono hsd))
              have HAF := Lib.hid hoa
              have HALL : Hid (af.length = ts.length) := Lib.hid (by rw [hal]; exact HLK.out)
              have HAG : Hid (∀ u, u < ts.length → af.getD u false = vlB ts P (rget rs k u) u) := Lib.hid fun u hu => hag u (by rw [HLK.out]; exact hu)
              have hs3 := HBD.out.size
              have HB3 := Lib.hid (HBX.out.trans (HBD.out.mono hsx))
              have HBR3 := Lib.hid (HBRX.out.1.low HBD.out)
              have HRBL : Hid (∀ i, i < rs.length → rb.getD i 0 < w2.heap.size) := Lib.hid fun i hi => by have := (HBRX.out.1.row i hi).1.lt; omega
              have HSND : Hid (∀ u, u < ts.length → af.getD u false = false → ∀ n ∈ P.next, Ac true ts pts gv n u) := Lib.hid fun u hu ha => HPP.out.1.aft HPG.out (by have := HR0.out; omega) hu (by rw [← HAG.out u hu]; exact ha)
              obtain ⟨Aa, ca, rfl, hca⟩ := hoa.slice
              have hal1 : af.length ≤ ts.length := by have := HALL.out; omega
              have hal2 : ts.length ≤ af.length := by have := HALL.out; omega
              clear hoa hal hag hb3 hbd q0 q1 q2 q3 q4 g0 hgk
              generalize hnxt : P.next = nx at *
              have HNXT := Lib.hid hnxt
              clear hnxt
              obtain ⟨wo2, rfl⟩ : ∃ wo2 : World, wo2 = wr := ⟨_, rfl⟩
              go_wp2_with (at_builtin; fail)
              go_loopw [10, 13] (fun c i wy => ∃ (b2 : Bool) (j : Nat) (rs2 : List (List Bool)), c = .bool b2 ∧ i = .int .i64 j ∧ j ≤ nx.length ∧ (BRow wy w1.heap.size (.slice (some ⟨go, 0, none⟩) rows0.length c4) rb ts.length rs2 ∧ rs2.length = rows0.length) ∧ FdP ts pts gv rows b2 rs2 ∧ (b2 = false → b = false ∧ FdC ts pts rows k ∧ FdE ts pts rows k j) ∧ OBools wy w2.heap.size (.slice Aa af.length ca) af ∧ Below w1.heap.size w1 wy) (fun _ i _ => nx.length - (intOf i).toNat)
              case atStart => exact ⟨b, 0, rs, rfl, rfl, Nat.zero_le _, ⟨HBR3.out, HBRX.out.2⟩, HPP.out, fun h => ⟨h, HCX.out h, fun p hp n hn => by simp at hn⟩, HAF.out, HB3.out⟩
              case round =>
                obtain ⟨b2, j, rs2, rfl, rfl, hj, hbr, hpp, hcl, hoa, hby⟩ := hrel
                have HBRY := Lib.hid hbr
                have HPY := Lib.hid hpp
                have HCY := Lib.hid hcl
                have HOY := Lib.hid hoa
                have HBY := Lib.hid hby
                have hsy := hby.size
                have q4 := (hby.cell (p := ⟨bp, op + k * 5 + 4, none⟩) hbp).trans HP4.out
                clear hbr hpp hcl hoa hby
                by_cases hjl : j < nx.length
                · obtain ⟨An', cn', en, _, _, hrd⟩ := HNI.out.low HBY.out (Nat.le_refl _)
                  simp only [List.length_map] at en
                  injection en with e1 e9 e2
                  subst e1 e2
                  clear e9
                  obtain ⟨bn, on, rfl, hbn, hcn2⟩ := hrd.int_at (k := j) (by simpa using hjl)
                  have hcj := hcn2 j (by simpa using hjl)
                  rw [getD_lt (by simpa using hjl), List.getElem_map] at hcj
                  have hmem : nx[j] ∈ nx := List.getElem_mem hjl
                  have HTK := Lib.hid (take_succ_get nx j hjl)
                  generalize hnn : nx[j] = n at *
                  have hnl : n < pts.length := HNX.out n hmem
                  have HMEM := Lib.hid hmem
                  clear hnn hmem hcn2 hrd
                  have hr2 : rs2.length = pts.length := HPY.out.1.len
                  obtain ⟨go', c5, ego, hgo', hgo2', hgo3', hgc, -⟩ := HBRY.out.1.form (by omega)
                  injection ego with e1 e9 e2
                  injection e1 with e1
                  injection e1 with e1
                  subst e1 e2
                  clear e9
                  have hgn := hgc n (by omega)
                  have hnr : ((n : Nat) : Int) < (rows0.length : Int) := by have := HBRY.out.2; omega
                  have hnr2 : n < rows0.length := by have := HBRY.out.2; omega
                  obtain ⟨rn, ern⟩ : ∃ rn, rn = rb.getD n 0 := ⟨_, rfl⟩
                  rw [← ern] at hgn
                  have HRN := Lib.hid ern
                  have HR2 := Lib.hid hr2
                  clear hgc hr2 ern
                  obtain ⟨wo3, rfl⟩ : ∃ wo3 : World, wo3 = wr := ⟨_, rfl⟩
                  go_wp2_with (at_builtin; fail)
                  go_loopw [10, 15] (fun c i wz => ∃ (b3 : Bool) (u : Nat) (rs3 : List (List Bool)), c = .bool b3 ∧ i = .int .i64 u ∧ u ≤ ts.length ∧ (BRow wz w1.heap.size (.slice (some ⟨go, 0, none⟩) rows0.length c4) rb ts.length rs3 ∧ rs3.length = rows0.length) ∧ FdP ts pts gv rows b3 rs3 ∧ (b3 = false → (b = false ∧ FdC ts pts rows k ∧ FdE ts pts rows k j) ∧ FdV ts rows P k n u) ∧ OBools wz w2.heap.size (.slice Aa af.length ca) af ∧ Below w1.heap.size w1 wz) (fun _ i _ => ts.length - (intOf i).toNat)
                  case atStart => exact ⟨b2, 0, rs2, rfl, rfl, Nat.zero_le _, HBRY.out, HPY.out, fun h => ⟨HCY.out h, fun v hv => by omega⟩, HOY.out, HBY.out⟩
                  case round =>
                    obtain ⟨b3, u, rs3, rfl, rfl, hu, hbr, hpp, hcl, hoa, hbz⟩ := hrel
                    have HBRZ := Lib.hid hbr
                    have HPZ := Lib.hid hpp
                    have HCZ := Lib.hid hcl
                    have HOZ := Lib.hid hoa
                    have HBZ := Lib.hid hbz
                    clear hbr hpp hcl hoa hbz
                    by_cases hul : u < ts.length
                    · have hr3 : rs3.length = pts.length := HPZ.out.1.len
                      have hrow := HBRZ.out.1.row n (by omega)
                      rw [← HRN.out] at hrow
                      have hln : (rs3.getD n []).length = ts.length := HPZ.out.1.row n (by omega)
                      have hcn' : wr.cell? ⟨rn, u, none⟩ = some (.bool (rget rs3 n u)) := by rw [hrow.1.cell, bv_get (by omega)]; rfl
                      have hfn := hrow.1.frozen u
                      have hrnl := hrow.1.lt
                      have HRNB : Hid (w1.heap.size ≤ rn) := Lib.hid hrow.2
                      have hrn2 : rn < w2.heap.size := by rw [HRN.out]; exact HRBL.out n (by have := HR0.out; omega)
                      obtain ⟨ga, rfl, hga, hgal, -, hca', -⟩ := HOZ.out.at_ (k := u) (by omega)
                      have hual : u < af.length := by omega
                      obtain ⟨bnu, hbnu⟩ : ∃ bnu, bnu = rget rs3 n u := ⟨_, rfl⟩
                      obtain ⟨bau, hbau⟩ : ∃ bau, bau = af.getD u false := ⟨_, rfl⟩
                      rw [← hbnu] at hcn'
                      rw [← hbau] at hca'
                      have HBNU := Lib.hid hbnu
                      have HBAU := Lib.hid hbau
                      have HLN := Lib.hid hln
                      have HR3 := Lib.hid hr3
                      clear hrow hbnu hbau hln hr3
                      cases bnu
                      · go_wp2_with (at_builtin; fail)
                        refine ⟨⟨b3, u + 1, rs3, rfl, by go_num, by omega, HBRZ.out, HPZ.out, fun h => ⟨(HCZ.out h).1, fun v hv hr => ?_⟩, HOZ.out, HBZ.out⟩, by simp [intOf] <;> omega⟩
                        by_cases hvu : v = u
                        · rw [hvu, ← HPZ.out.2.2.2 h, ← HBNU.out] at hr; cases hr
                        · exact (HCZ.out h).2 v (by omega) hr
                      · cases bau
                        · go_wp2_with (at_builtin; fail)
                          case roundEnd =>
                            have hset := HBRZ.out.1.set (i := n) (u := u) (by have := HR3.out; omega) false
                            rw [← HRN.out] at hset
                            have hmu := muT_set (rows := rs3) (i := n) (v := u) (by have := HR3.out; omega) (by rw [HLN.out]; exact hul) HBNU.out.symm
                            refine ⟨⟨true, u + 1, _, rfl, by go_num, by omega, ⟨hset, by rw [rset_len]; exact HBRZ.out.2⟩, ⟨HPZ.out.1.upd (by have := HR3.out; omega) hul (HSND.out u hul HBAU.out.symm n (by first | exact HMEM.out | (rw [HNXT.out]; exact HMEM.out))), by have := HPZ.out.2.1; omega, fun _ => by have := HPZ.out.2.1; omega, fun h => (by cases h)⟩, fun h => (by cases h), HOZ.out.other hrn2 _ _, ?_⟩, by simp [intOf] <;> omega⟩
                            exact HBZ.out.setCell (p := ⟨rn, u, none⟩) (by show w1.heap.size ≤ rn; exact HRNB.out) _
                        · go_wp2_with (at_builtin; fail)
                          refine ⟨⟨b3, u + 1, rs3, rfl, by go_num, by omega, HBRZ.out, HPZ.out, fun h => ⟨(HCZ.out h).1, fun v hv hr => ?_⟩, HOZ.out, HBZ.out⟩, by simp [intOf] <;> omega⟩
                          by_cases hvu : v = u
                          · have hb0 := (HCZ.out h).1.1
                            rw [hvu, ← HPP.out.2.2.2 hb0, ← HAG.out u hul]
                            exact HBAU.out.symm
                          · exact (HCZ.out h).2 v (by omega) hr
                    · have hue : u = ts.length := by omega
                      have HE : Hid (b3 = false → b = false ∧ FdC ts pts rows k ∧ FdE ts pts rows k (j + 1)) := Lib.hid fun h => by
                        obtain ⟨⟨e0, e1, e2⟩, e3⟩ := HCZ.out h
                        refine ⟨e0, e1, fun p hp n' hn => ?_⟩
                        rw [HPG.out] at hp
                        injection hp with hp
                        subst hp
                        rw [HNXT.out, HTK.out, List.mem_append, List.mem_singleton] at hn
                        rcases hn with hn | hn
                        · exact e2 _ HPG.out n' (by rw [HNXT.out]; exact hn)
                        · subst hn; rw [← hue]; exact e3
                      clear hue
                      go_wp2_with (at_builtin; fail)
                      exact ⟨⟨b3, j + 1, rs3, rfl, by go_num, by omega, HBRZ.out, HPZ.out, HE.out, HOZ.out, HBZ.out⟩, by simp [intOf] <;> omega⟩
                · have hje : j = nx.length := by omega
                  have HE : Hid (b2 = false → FdC ts pts rows (k + 1)) := Lib.hid fun h => by
                    obtain ⟨e0, e1, e2⟩ := HCY.out h
                    intro i p hi hp n hn
                    by_cases hik : i = k
                    · subst hik
                      refine e2 p hp n ?_
                      rw [HPG.out] at hp
                      injection hp with hp
                      subst hp
                      rw [HNXT.out, hje, List.take_length, ← HNXT.out]
                      exact hn
                    · exact e1 i p (by omega) hp n hn
                  clear hje
                  go_wp2_with (at_builtin; fail)
                  exact ⟨⟨b2, k + 1, rs2, rfl, by go_num, by omega, HBRY.out, HPY.out, HE.out, HBY.out⟩, by simp [intOf] <;> omega⟩
            · have hke : k = pts.length := by omega
              have HCE : Hid (b = false → FdC ts pts rows pts.length) := Lib.hid (by rw [← hke]; exact HCX.out)
              clear hke
              go_wp2_with (at_builtin; fail)
              cases b
              · go_roundg 0
                case measure => have := HMU.out (by simp); omega
                case rel => exact ⟨false, rs, rfl, HBRX.out.1, HBRX.out.2, HPP.out.1, fun h => (by cases h), fun _ => by rw [HPP.out.2.2.2 (by simp)]; exact HCE.out (by simp), HBX.out⟩
              · go_roundg (muT rs + 1)
                case measure => have := HMU.out (by simp); have := HPP.out.2.2.1 (by simp); omega
                case rel => exact ⟨true, rs, rfl, HBRX.out.1, HBRX.out.2, HPP.out.1, fun _ => by omega, fun h => (by cases h), HBX.out⟩

end Go.Proofs.Ytgmipapdcihdpaa
