import Derived.Test.YteibhhecgcipiaaGreatG33
import Derived.Test.YteibhhecgcipiaaGreatG47
import Derived.Test.YteibhhecgcipiaaGreatG21
set_option linter.unusedVariables false

/- Words: rows of bools, states of loans, points, beside a growing slice of issues. -/
namespace Go.Proofs.YteibhhecgcipiaaGreat
open Go.RowKit

theorem PtS.imp {w w' : World} {B : Nat} {v : Value} {pts : List Pt} (h : PtS w B v pts) (hk : Kp w w') : PtS w' B v pts := by
  obtain ⟨A, c, nv, e, h1, h2, h3, h4⟩ := h
  refine ⟨A, c, nv, e, h1, h2, fun hn => ?_, fun i hi => (h4 i hi).imp hk⟩
  obtain ⟨b, off, e, hb, hc⟩ := h3 hn
  refine ⟨b, off, e, hb, fun i hi => ?_⟩
  obtain ⟨a0, a1, a2, a3, a4⟩ := hc i hi
  exact ⟨hk.1 _ _ _ a0, hk.1 _ _ _ a1, hk.1 _ _ _ a2, hk.1 _ _ _ a3, hk.1 _ _ _ a4⟩
abbrev Any : Nat → Prop := fun _ => True
theorem BoolS.toX {w : World} {B : Nat} {v : Value} {l : List Bool} (h : BoolS w B v l) : BoolX w Any v l := by
  obtain ⟨A, c, e, h1, h2, h3⟩ := h
  refine ⟨A, c, e, h1, h2, fun hn => ?_⟩
  obtain ⟨b, off, e, hb, hc⟩ := h3.2 hn
  have hcell : ∀ j, j < l.length → w.cell? ⟨b, off + j, none⟩ = some (.bool (l.getD j false)) := fun j hj => hc j _ (by rw [List.getElem?_map, List.getElem?_eq_getElem hj, getD_lt hj]; rfl)
  exact ⟨b, off, e, trivial, cell_lt (hcell 0 hn), hcell⟩
theorem BoolX.kp {w w' : World} {P : Nat → Prop} {v : Value} {l : List Bool} (h : BoolX w P v l) (hk : Kp w w') : BoolX w' Any v l := by
  obtain ⟨A, c, e, h1, h2, h3⟩ := h
  refine ⟨A, c, e, h1, h2, fun hn => ?_⟩
  obtain ⟨b, off, e, _, hb, hc⟩ := h3 hn
  exact ⟨b, off, e, trivial, Nat.lt_of_lt_of_le hb hk.2, fun j hj => hk.1 _ _ _ (hc j hj)⟩
theorem RwX.kp {w w' : World} {P : Nat → Prop} {v : Value} {l : List (List Bool)} (h : RwX w P v l) (hk : Kp w w') : RwX w' Any v l := by
  obtain ⟨A, c, rv, e, h1, h2, h3⟩ := h
  refine ⟨A, c, rv, e, h1, fun hn => ?_, fun i hi => (h3 i hi).kp hk⟩
  obtain ⟨b, off, e, _, hb, hc⟩ := h2 hn
  exact ⟨b, off, e, trivial, Nat.lt_of_lt_of_le hb hk.2, fun j hj => hk.1 _ _ _ (hc j hj)⟩
theorem FQ.toR {W : World} {G S : Nat} {rows : List (List Bool)} {seen : List Bool} {vs : List Value} {vq : Value} {q : List Nat} (h : FQ W G S rows seen vs vq q) (h6 : ∀ i, i < rows.length → (rows.getD i []).length ≤ 1000) : RwX W Any (.slice (some ⟨G, 0, none⟩) rows.length rows.length) rows := by
  have hG := h.out.lt
  refine ⟨_, _, fun i => vs.getD i (.slice none 0 0), rfl, Nat.le_refl _, fun hn => ⟨G, 0, rfl, trivial, hG, fun i hi => ?_⟩, fun i hi => ?_⟩
  · obtain ⟨A, c, e, -⟩ := (h.row i hi).slice
    show W.cell? ⟨G, 0 + i, none⟩ = some (vs.getD i (.slice none 0 0))
    rw [e, Nat.zero_add]
    exact h.cellG hi e
  · have := (h.row i hi).toS (by have := h6 i hi; omega)
    exact BoolS.toX this
/-- the slice v reads as states, one for each point -/
def S4 (w : World) (v : Value) (n m : Nat) (R : List (List (List Bool))) (Q : List (List Bool)) : Prop :=
  ∃ A c, v = .slice A n c ∧ n ≤ c ∧ ∀ k, k < n → ∃ g Av cv pk, A = some ⟨g, 0, none⟩ ∧ g < w.heap.size ∧ w.cell? ⟨g, k * 2, none⟩ = some (.slice Av m cv) ∧ w.cell? ⟨g, k * 2 + 1, none⟩ = some (.slice (some ⟨pk, 0, none⟩) n n) ∧ m ≤ cv ∧
    RwX w Any (.slice Av m cv) (R.getD k []) ∧ BoolX w Any (.slice (some ⟨pk, 0, none⟩) n n) (Q.getD k [])
theorem S4.kp {w w' : World} {v : Value} {n m : Nat} {R : List (List (List Bool))} {Q : List (List Bool)} (h : S4 w v n m R Q) (hk : Kp w w') : S4 w' v n m R Q := by
  obtain ⟨A, c, e, h1, h2⟩ := h
  refine ⟨A, c, e, h1, fun k hkn => ?_⟩
  obtain ⟨g, Av, cv, pk, e1, hg, c0, c1, hcv, hr, hq⟩ := h2 k hkn
  exact ⟨g, Av, cv, pk, e1, Nat.lt_of_lt_of_le hg hk.2, hk.1 _ _ _ c0, hk.1 _ _ _ c1, hcv, hr.kp hk, hq.kp hk⟩
theorem B4.toS4 {w : World} {base m : Nat} {vo : Value} {ps : List (Value × Nat)} {rbs : List (List Nat)} {R : List (List (List Bool))} {Q : List (List Bool)} {ts : List Int} {pts : List Pt} (h : B4 w base vo ps rbs pts.length R Q) (hi : R4I ts pts R Q) (hm : ts.length = m) (hn : pts.length ≤ 1000) : S4 w vo pts.length m R Q := by
  subst hm
  obtain ⟨A, c, rfl, hc⟩ := h.slice
  rw [hi.len] at hc ⊢
  refine ⟨A, c, rfl, hc, fun k hk => ?_⟩
  have hkR : k < R.length := by rw [hi.len]; exact hk
  have hrk := hi.row k hk
  obtain ⟨g, ea, hg, hgl, -, hgk, hgk2⟩ := h.at_ hkR
  have hx := (h.mid k hkR).toX (fun i hi' => hi.inn k i hk (by rw [← hrk]; exact hi')) (by omega)
  have hp := (h.plc k hkR).1
  obtain ⟨Av, cv, e, hcv⟩ := hx.slice
  rw [hrk] at hcv e
  rw [e] at hgk hx
  refine ⟨g, Av, cv, _, ea, hgl, hgk, hgk2, hcv, hx.kp (Kp.refl _), ?_⟩
  have hq := hi.innQ k hk
  have := hp.bools (c := pts.length) (by rw [hq]; omega) (by rw [hq]; exact Nat.le_refl _)
  rw [hq] at this
  exact this.toX
/-- a slice of issues that grows beside other memory -/
def OutS (w0 w : World) (base : Nat) (v : Value) (l : List Iss) : Prop := Out w0 w base 68 3 v l.length (isCells l)
theorem wpList_push_outS {ops : Array Oper} {rest : List Oper} {o : Oper} {a : Act} {Q : Exit → Act → World → Prop} {w0 w : World} {base : Nat} {vo : Value} {ls : List Iss} (hgd : o.guard = none) (s x : Operand)
    (ho : o.op = .call { callee := .builtin .append, args := #[s, x], argTypes := #[28, 28] })
    (hP : OutS w0 w base vo ls) (hn : ls.length ≤ 100000) (p u y : Int) (hs : a.eval s = vo) (hx : a.eval x = .slice (some ⟨w.heap.size, 0, none⟩) 1 1)
    (h : ∀ (v' : Value) (w' : World), OutS w0 w' base v' (ls ++ [⟨p, u, y⟩]) → (∀ (b : Nat) (cs : Array Value) (T : TypeId), w.heap[b]? = some (Obj.cells cs T (0, 0)) → T ≠ 68 → w'.heap[b]? = some (Obj.cells cs T (0, 0))) → wpList Tryz.prog ops Q rest (a.put o.dst v') w') :
    wpList Tryz.prog ops Q (o :: rest) a (w.alloc (.cells #[.int .i64 p, .int .i64 u, .int .i64 y] 68)) :=
  wpList_push_outK hgd s x ho Tryz.underlying28 Tryz.infoisCells rfl (by omega) (by omega) hP hn [.int .i64 p, .int .i64 u, .int .i64 y] rfl (by simp [Value.oneCell']) hs hx fun v' w' h' hk => h v' w' (by
    unfold OutS
    rw [isCells_append, List.length_append]
    exact h') hk
theorem OutS.own {w0 w : World} {base : Nat} {v : Value} {l : List Iss} (h : OutS w0 w base v l) : OIs w base v l := Out.own h
theorem OutS.slice {w0 w : World} {base : Nat} {v : Value} {l : List Iss} (h : OutS w0 w base v l) : ∃ A c, v = .slice A l.length c ∧ l.length ≤ c := Out.lenc h
theorem lvA_kpg {ts : List Int} {pts : List Pt} {LV : Nat → Nat → Prop} {k : Nat} {p : Pt} {F : List (List Bool)} {LR : List Bool} {e : Nat} (hp : pts[k]? = some p) (hF : ∀ v e, (F.getD v []).getD e false = true ↔ Fl ts pts Gloan (Cloan ts) k v e) (hL : ∀ v, v < ts.length → (LR.getD v false = true ↔ LV k v)) : lvA ts p.op p.x p.y F LR ts.length e = dec (KpG ts pts LV k e) := by
  rw [Bool.eq_iff_iff, dec_iff]
  unfold lvA
  simp only [List.any_eq_true, List.mem_range, lvB, Bool.and_eq_true, decide_eq_true_eq]
  constructor
  · rintro ⟨v, hv, h1, h2, h3, h4⟩
    exact ⟨p, v, hp, hv, (hL v hv).1 h1, fun h => h2 h.symm, h3, (hF v e).1 h4⟩
  · rintro ⟨p', v, hp', hv, hn, h2, h3, h4⟩
    rw [hp] at hp'
    injection hp' with hp'
    subst hp'
    exact ⟨v, hv, (hL v hv).2 hn, fun h => h2 h.symm, h3, (hF v e).2 h4⟩
theorem cfS_cfB {ts : List Int} {pts : List Pt} {LV : Nat → Nat → Prop} {k : Nat} {L Q : List Bool} (g : Good ts pts) (hk : k < pts.length) (hL : ∀ e, e < pts.length → L.getD e false = dec (KpG ts pts LV k e)) (hQ : ∀ e, Q.getD e false = true ↔ Pld ts pts k e) {e : Nat} (he : e < pts.length) : cfS pts L Q (accL ts pts[k].op pts[k].x pts[k].y fun v => dec (Ac false ts pts 0 k v)) e = cfB ts pts LV k e := by
  have ha : ∀ a ∈ accL ts pts[k].op pts[k].x pts[k].y (fun v => dec (Ac false ts pts 0 k v)), 0 ≤ a.vr := fun a ha => (acc_range g hk ha).1
  unfold cfB
  rw [ptD_get hk]
  generalize (accL ts pts[k].op pts[k].x pts[k].y fun v => dec (Ac false ts pts 0 k v)) = ac at *
  have hq : Q.getD e false = dec (Pld ts pts k e) := by rw [Bool.eq_iff_iff, dec_iff]; exact hQ e
  unfold cfS nearB
  rw [hL e he, hq]
  cases hp : dec (Pld ts pts k e)
  · simp
  · obtain ⟨⟨q, hq1, hql⟩, -⟩ := (dec_iff.1 hp).loan
    have hy := (g.y hq1 (by rcases lonB_iff.1 hql with h | h <;> omega)).1
    rw [acB_eq (ts := ts) hq1 hql hy ha]
    have hqd : ptD pts e = q := by unfold ptD; rw [List.getD_eq_getElem?_getD, hq1]; rfl
    rw [hqd]
    cases dec (KpG ts pts LV k e)
    · simp
    · simp only [Bool.true_and, Bool.and_true]
      rfl

end Go.Proofs.YteibhhecgcipiaaGreat
