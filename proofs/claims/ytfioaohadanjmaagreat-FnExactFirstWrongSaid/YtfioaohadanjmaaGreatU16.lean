import Derived.Test.YtfioaohadanjmaaGreatU15
import Derived.Test.YtfioaohadanjmaaGreatU08
import Derived.Deep.RegionLaw
set_option linter.unusedVariables false

/- append of a whole slice to an owned row, whatever the elements; rows of tags and cells read so. -/
namespace Go.Proofs.YtfioaohadanjmaaGreat
open Go.RowKit

/-- v is a slice of m elements of size cells each, which read as news -/
def RdN (w : World) (size : Nat) (v : Value) (m : Nat) (news : List Value) : Prop :=
  ∃ A c, v = .slice A m c ∧ news.length = m * size ∧ (0 < m → ∃ b off, A = some ⟨b, off, none⟩ ∧ ∀ j u, news[j]? = some u → w.cell? ⟨b, off + j, none⟩ = some u)
theorem run_app_any_nil {P : Program} {ST T : TypeId} {size bytes : Nat} {z : Value} (hu : P.underlying ST = some (.slice T)) (hi : (P.info? T).map (fun i => (i.zero, i.size, i.bytes)) = some (some z, size, bytes))
    (w : World) (base : Nat) (ty : TypeId) (v : Value) (n : Nat) (xs : List Value) (hP : w.ownsRow base T size v n xs) (c : Nat) : (Builtin.append_ #[ST, ST] ty #[v, .slice none 0 c]).run P w = .ok v w := by
  obtain ⟨i0, hi0, hz0, hz1, hz2⟩ := info_parts hi
  rcases hP.2 with ⟨rfl, h0⟩ | ⟨g, cap, cur, rfl, _, _, hnc, _⟩
  · simp [Builtin.append_, run_underlying hu, sizeOf, typeInfo, hi0, Builtin.lenOf, Builtin.firstCells]
  · simp [Builtin.append_, run_underlying hu, sizeOf, typeInfo, hi0, Builtin.lenOf, Builtin.firstCells, hnc, storeCells]
theorem run_app_any {P : Program} {ST T : TypeId} {size bytes : Nat} {z : Value} (hu : P.underlying ST = some (.slice T)) (hi : (P.info? T).map (fun i => (i.zero, i.size, i.bytes)) = some (some z, size, bytes)) (hzs : z.cells.size = size) (hsz : 0 < size) (hby : bytes ≤ 1000)
    (w : World) (base : Nat) (ty : TypeId) (v : Value) (n : Nat) (xs : List Value) (hP : w.ownsRow base T size v n xs) (vs : Value) (m : Nat) (news : List Value) (hr : RdN w size vs m news) (h1 : ∀ u ∈ news, u.oneCell' = true) (hb : base ≤ w.heap.size) (hn : n + m ≤ 4194304) :
    ∃ v' w', (Builtin.append_ #[ST, ST] ty #[v, vs]).run P w = .ok v' w' ∧ w'.ownsRow base T size v' (n + m) (xs ++ news) ∧ w.grownBy w' v.ownBlock ∧ (v'.ownBlock = v.ownBlock ∨ v'.ownBlock = some w.heap.size) := by
  obtain ⟨A, c, rfl, hl, hrd⟩ := hr
  have hbytes : (n + m) * bytes ≤ 140737488355328 := by
    have : (n + m) * bytes ≤ 4194304 * 1000 := Nat.mul_le_mul hn hby
    omega
  rcases Nat.eq_zero_or_pos m with h0 | h0
  · subst h0
    have hne : news = [] := List.length_eq_zero_iff.1 (by omega)
    subst hne
    rcases A with _ | ad
    · exact ⟨v, w, run_app_any_nil hu hi w base ty v n xs hP c, by simpa using hP, World.grownBy.refl w _, .inl rfl⟩
    · obtain ⟨i0, hi0, hz0, hz1, hz2⟩ := info_parts hi
      obtain ⟨v', w', hrun, h2, h3, _, h5⟩ := run_append_own_at (P := P) w base ST ty T i0 _ size bytes hu hi0 hz0 hz1 hz2 hzs hsz v n _ hP ad 0 c [] (by simp) (fun j u h => by simp at h) (fun u h => by simp at h) (by simp only [maxLen]; omega) hbytes hb
      exact ⟨v', w', hrun, h2, h3, h5⟩
  · obtain ⟨b, off, rfl, hcell⟩ := hrd h0
    obtain ⟨i0, hi0, hz0, hz1, hz2⟩ := info_parts hi
    obtain ⟨v', w', hrun, h2, h3, _, h5⟩ := run_append_own_at (P := P) w base ST ty T i0 _ size bytes hu hi0 hz0 hz1 hz2 hzs hsz v n _ hP ⟨b, off, none⟩ m c news hl
      (fun j u h => by
        rcases Nat.eq_zero_or_pos j with hj | hj
        · subst hj; simpa [Addr.add] using hcell 0 u h
        · have := hcell j u h
          have hj0 : j ≠ 0 := by omega
          simpa [Addr.add, hj0] using this) h1 (by simp only [maxLen]; omega) hbytes hb
    exact ⟨v', w', hrun, h2, h3, h5⟩
theorem wp_app_any {P : Program} {ST T : TypeId} {size bytes : Nat} {z : Value} (hu : P.underlying ST = some (.slice T)) (hi : (P.info? T).map (fun i => (i.zero, i.size, i.bytes)) = some (some z, size, bytes)) (hzs : z.cells.size = size) (hsz : 0 < size) (hby : bytes ≤ 1000)
    {o : Oper} {a : Act} {K : Act → World → Prop} {Q : Exit → Act → World → Prop} {w : World} (s x : Operand) (ho : o.op = .call { callee := .builtin .append, args := #[s, x], argTypes := #[ST, ST] })
    (base : Nat) (v : Value) (n : Nat) (xs : List Value) (hs : a.eval s = v) (hP : w.ownsRow base T size v n xs) (vs : Value) (m : Nat) (news : List Value) (hx : a.eval x = vs) (hr : RdN w size vs m news) (h1 : ∀ u ∈ news, u.oneCell' = true) (hb : base ≤ w.heap.size) (hn : n + m ≤ 4194304)
    (h : ∀ v' w', w'.ownsRow base T size v' (n + m) (xs ++ news) → w.grownBy w' v.ownBlock → (v'.ownBlock = v.ownBlock ∨ v'.ownBlock = some w.heap.size) → K (a.put o.dst v') w') : o.wp P a w K Q := by
  obtain ⟨v', w', hrun, h2, h3, h4⟩ := run_app_any hu hi hzs hsz hby w base o.type v n xs hP vs m news hr h1 hb hn
  unfold Oper.wp execOp
  simp only [ho, resolve, invoke, builtin, Sem.run_bind, Sem.run_pure, Result.andThen_ok, List.map_toArray, List.map_cons, List.map_nil, hs, hx, hrun]
  exact h v' w' h2 h3 h4
theorem wpList_app_any {P : Program} {ST T : TypeId} {size bytes : Nat} {z : Value} (hu : P.underlying ST = some (.slice T)) (hi : (P.info? T).map (fun i => (i.zero, i.size, i.bytes)) = some (some z, size, bytes)) (hzs : z.cells.size = size) (hsz : 0 < size) (hby : bytes ≤ 1000)
    {ops : Array Oper} {rest : List Oper} {o : Oper} {a : Act} {Q : Exit → Act → World → Prop} {w : World} (hgd : o.guard = none) (s x : Operand) (ho : o.op = .call { callee := .builtin .append, args := #[s, x], argTypes := #[ST, ST] })
    (base : Nat) (v : Value) (n : Nat) (xs : List Value) (hs : a.eval s = v) (hP : w.ownsRow base T size v n xs) (vs : Value) (m : Nat) (news : List Value) (hx : a.eval x = vs) (hr : RdN w size vs m news) (h1 : ∀ u ∈ news, u.oneCell' = true) (hb : base ≤ w.heap.size) (hn : n + m ≤ 4194304)
    (h : ∀ v' w', w'.ownsRow base T size v' (n + m) (xs ++ news) → w.grownBy w' v.ownBlock → (v'.ownBlock = v.ownBlock ∨ v'.ownBlock = some w.heap.size) → wpList P ops Q rest (a.put o.dst v') w') : wpList P ops Q (o :: rest) a w :=
  wpList_plain hgd fun _ hK => wp_app_any hu hi hzs hsz hby s x ho base v n xs hs hP vs m news hx hr h1 hb hn fun v' w' h1 h2 h3 => hK _ _ (h v' w' h1 h2 h3)
theorem step_app_any {P : Program} {ST T : TypeId} {size bytes : Nat} {z : Value} (hu : P.underlying ST = some (.slice T)) (hi : (P.info? T).map (fun i => (i.zero, i.size, i.bytes)) = some (some z, size, bytes)) (hzs : z.cells.size = size) (hsz : 0 < size) (hby : bytes ≤ 1000)
    {ops : Array Oper} {o : Oper} {a : Act} {K : Act → World → Prop} {Q : Exit → Act → World → Prop} {E : Prop} {w : World} (hgd : o.guard = none) (s x : Operand) (ho : o.op = .call { callee := .builtin .append, args := #[s, x], argTypes := #[ST, ST] })
    (base : Nat) (v : Value) (n : Nat) (xs : List Value) (hs : a.eval s = v) (hP : w.ownsRow base T size v n xs) (vs : Value) (m : Nat) (news : List Value) (hx : a.eval x = vs) (hr : RdN w size vs m news) (h1 : ∀ u ∈ news, u.oneCell' = true) (hb : base ≤ w.heap.size) (hn : n + m ≤ 4194304)
    (h : ∀ v' w', w'.ownsRow base T size v' (n + m) (xs ++ news) → w.grownBy w' v.ownBlock → (v'.ownBlock = v.ownBlock ∨ v'.ownBlock = some w.heap.size) → K (a.put o.dst v') w') :
    if Region.wanted o (yielded ops a.tmps) = true then Oper.wp P o a w K Q else E := by
  have hw : Region.wanted o (yielded ops a.tmps) = true := by simp [Region.wanted, hgd]
  rw [if_pos hw]
  exact wp_app_any hu hi hzs hsz hby s x ho base v n xs hs hP vs m news hx hr h1 hb hn h

theorem tg_one (l : List Tg) : ∀ u ∈ tgCells l, u.oneCell' = true := by
  induction l with
  | nil => intro u h; cases h
  | cons x r ih =>
    intro u h
    simp only [tgCells, List.mem_cons] at h
    rcases h with rfl | rfl | h
    · rfl
    · rfl
    · exact ih u h
theorem tgCells_two {l : List Tg} {j : Nat} {u : Value} (h : (tgCells l)[j]? = some u) : ∃ i d, ∃ hi : i < l.length, j = i * 2 + d ∧ ((d = 0 ∧ u = .int .i64 (l[i].id : Nat)) ∨ (d = 1 ∧ u = .bool l[i].un)) := by
  have hj : j < l.length * 2 := by rw [← tgCells_len]; exact (List.getElem?_eq_some_iff.1 h).1
  have hi : j / 2 < l.length := by omega
  obtain ⟨h0, h1⟩ := tgCells_at hi
  rcases Nat.mod_two_eq_zero_or_one j with e | e
  · refine ⟨j / 2, 0, hi, by omega, .inl ⟨rfl, ?_⟩⟩
    rw [show j = j / 2 * 2 by omega, h0] at h
    injection h with h
    rw [← h]
  · refine ⟨j / 2, 1, hi, by omega, .inr ⟨rfl, ?_⟩⟩
    rw [show j = j / 2 * 2 + 1 by omega, h1] at h
    injection h with h
    rw [← h]
theorem TgS.rd {w : World} {B : Nat} {v : Value} {l : List Tg} (h : TgS w B v l) : RdN w 2 v l.length (tgCells l) := by
  obtain ⟨A, c, e, h1, h2, h3⟩ := h
  refine ⟨A, c, e, tgCells_len l, fun hn => ?_⟩
  obtain ⟨b, off, e, hb, hc⟩ := h3 hn
  refine ⟨b, off, e, fun j u hu => ?_⟩
  obtain ⟨i, d, hi, rfl, ⟨rfl, rfl⟩ | ⟨rfl, rfl⟩⟩ := tgCells_two hu
  · exact (hc i hi).1
  · exact (hc i hi).2
theorem TgS.take {w : World} {B n c m : Nat} {A : Option Addr} {l : List Tg} (h : TgS w B (.slice A n c) l) (hm : m ≤ l.length) : TgS w B (.slice A m c) (l.take m) := by
  obtain ⟨A', c', e, h1, h2, h3⟩ := h
  injection e with e1 e2 e3
  subst e1 e3
  have hl : (l.take m).length = m := by simp; omega
  refine ⟨A, c, by rw [hl], by omega, by omega, fun hn => ?_⟩
  obtain ⟨b, off, e, hb, hc⟩ := h3 (by omega)
  exact ⟨b, off, e, hb, fun i hi => by rw [List.getElem_take]; exact hc i (by omega)⟩
theorem OCe.rd {w : World} {base : Nat} {v : Value} {ps : List (Cl × Value)} (h : OCe w base v ps) : RdN w 4 v ps.length (ceCells ps) := by
  obtain ⟨A, c, rfl, hc⟩ := h.slice
  refine ⟨A, c, rfl, ceCells_len ps, fun hn => ?_⟩
  obtain ⟨g, e, -⟩ := h.at_ hn
  subst e
  refine ⟨g, 0, rfl, fun j u hu => ?_⟩
  rw [Nat.zero_add]
  exact (World.ownsRow.cellAt h.own j (by rw [← ceCells_len]; exact (List.getElem?_eq_some_iff.1 hu).1)).trans hu
theorem OCe.one {w : World} {base : Nat} {v : Value} {ps : List (Cl × Value)} (h : OCe w base v ps) : ∀ u ∈ ceCells ps, u.oneCell' = true := by
  have key : ∀ qs : List (Cl × Value), (∀ p ∈ qs, p.2.oneCell' = true) → ∀ u ∈ ceCells qs, u.oneCell' = true := by
    intro qs
    induction qs with
    | nil => intro _ u h; cases h
    | cons x r ih =>
      intro hq u hu
      simp only [ceCells, List.mem_cons] at hu
      rcases hu with rfl | rfl | rfl | rfl | hu
      · rfl
      · rfl
      · rfl
      · exact hq x (by simp)
      · exact ih (fun p hp => hq p (by simp [hp])) u hu
  refine key ps fun p hp => ?_
  obtain ⟨i, hi, rfl⟩ := List.getElem_of_mem hp
  obtain ⟨A, c, e, -⟩ := (h.row i hi).slice
  rw [e]; rfl
/-- append(x, tags...) -/
theorem wpList_app_tags {ops : Array Oper} {rest : List Oper} {o : Oper} {a : Act} {Q : Exit → Act → World → Prop} {w : World} (hgd : o.guard = none) (s x : Operand) (ho : o.op = .call { callee := .builtin .append, args := #[s, x], argTypes := #[82, 82] })
    (base : Nat) (v : Value) (l : List Tg) (hs : a.eval s = v) (hP : OTg w base v l) (B : Nat) (vs : Value) (l2 : List Tg) (hx : a.eval x = vs) (hr : TgS w B vs l2) (hb : base ≤ w.heap.size) (hn : l.length + l2.length ≤ 4194304)
    (h : ∀ v' w', OTg w' base v' (l ++ l2) → w.grownBy w' v.ownBlock → (v'.ownBlock = v.ownBlock ∨ v'.ownBlock = some w.heap.size) → wpList Tryz.prog ops Q rest (a.put o.dst v') w') : wpList Tryz.prog ops Q (o :: rest) a w :=
  wpList_app_any Tryz.underlying82 Tryz.infotgCells rfl (by decide) (by decide) hgd s x ho base v l.length _ hs hP vs l2.length (tgCells l2) hx hr.rd (tg_one l2) hb hn fun v' w' h1 h2 h3 => h v' w' (by unfold OTg; rw [List.length_append, tgCells_append]; exact h1) h2 h3
theorem step_app_tags {ops : Array Oper} {o : Oper} {a : Act} {K : Act → World → Prop} {Q : Exit → Act → World → Prop} {E : Prop} {w : World} (hgd : o.guard = none) (s x : Operand) (ho : o.op = .call { callee := .builtin .append, args := #[s, x], argTypes := #[82, 82] })
    (base : Nat) (v : Value) (l : List Tg) (hs : a.eval s = v) (hP : OTg w base v l) (B : Nat) (vs : Value) (l2 : List Tg) (hx : a.eval x = vs) (hr : TgS w B vs l2) (hb : base ≤ w.heap.size) (hn : l.length + l2.length ≤ 4194304)
    (h : ∀ v' w', OTg w' base v' (l ++ l2) → w.grownBy w' v.ownBlock → (v'.ownBlock = v.ownBlock ∨ v'.ownBlock = some w.heap.size) → K (a.put o.dst v') w') :
    if Region.wanted o (yielded ops a.tmps) = true then Oper.wp Tryz.prog o a w K Q else E :=
  step_app_any Tryz.underlying82 Tryz.infotgCells rfl (by decide) (by decide) hgd s x ho base v l.length _ hs hP vs l2.length (tgCells l2) hx hr.rd (tg_one l2) hb hn fun v' w' h1 h2 h3 => h v' w' (by unfold OTg; rw [List.length_append, tgCells_append]; exact h1) h2 h3
/-- growth of a row that a later call owns leaves what was there -/
theorem grown_bel_own {w w' : World} {base : Nat} {v : Value} {l : List Tg} (h : OTg w base v l) (hg : w.grownBy w' v.ownBlock) (hb : base ≤ w.heap.size) : Below base w w' := (Evo.grown (T := 116) (size := 2) (xs := tgCells l) (n := l.length) h hg).below hb

end Go.Proofs.YtfioaohadanjmaaGreat

/- spec.l6Copy. -/
namespace Go.Proofs.YtfioaohadanjmaaGreat
open Go.RowKit

/-- the slice v is a memory that reads as m, all of it from block base on -/
def MeS (w : World) (base : Nat) (v : Value) (m : List Cl) : Prop := ∃ ps : List (Cl × Value), ps.map (·.1) = m ∧ OCe w base v ps
theorem MeS.bel {w w' : World} {base : Nat} {v : Value} {m : List Cl} (h : MeS w base v m) (hb : Below w.heap.size w w') : MeS w' base v m := by
  obtain ⟨ps, e, h⟩ := h
  exact ⟨ps, e, h.bel hb⟩
theorem MeS.base {w : World} {base base' : Nat} {v : Value} {m : List Cl} (h : MeS w base v m) (hb : base' ≤ base) : MeS w base' v m := by
  obtain ⟨ps, e, h⟩ := h
  exact ⟨ps, e, h.base hb⟩
theorem MeS.slice {w : World} {base : Nat} {v : Value} {m : List Cl} (h : MeS w base v m) : ∃ A c, v = .slice A m.length c ∧ m.length ≤ c := by
  obtain ⟨ps, rfl, h⟩ := h
  rw [List.length_map]
  exact h.slice
theorem MeS.keepT {w w' : World} {base : Nat} {v : Value} {m : List Cl} (h : MeS w base v m) {T : TypeId} (hk : KpT T w w') (h1 : 84 ≠ T) (h2 : 116 ≠ T) : MeS w' base v m := by
  obtain ⟨ps, e, h⟩ := h
  exact ⟨ps, e, h.keepT hk h1 h2⟩
theorem MeS.nil (w : World) (base : Nat) : MeS w base (.slice none 0 0) [] := ⟨[], rfl, OCe.nil _ _⟩
theorem MeS.empty (w : World) (base : Nat) (hb : base ≤ w.heap.size) : MeS (w.alloc (.cells #[] 84)) base (.slice (some ⟨w.heap.size, 0, none⟩) 0 0) [] := ⟨[], rfl, OCe.empty _ _ hb⟩
/-- a call answers a memory of its own -/
def MeRet (w : World) (m : List Cl) (e : Ending) (w' : World) : Prop := ∃ v, e = .returned v ∧ MeS w' w.heap.size v m ∧ Below w.heap.size w w'
theorem okM.len {m : List Cl} (h : okM m) : m.length ≤ 200 := h.1
set_option maxHeartbeats 4000000 in
set_option maxRecDepth 100000 in
theorem l6Copy_any (v : Value) (m : List Cl) (base : Nat) (w : World) (h : MeS w base v m) (hok : okM m) :
    Calls Tryz.prog 52 #[v] w (MeRet w m) := by
  obtain ⟨ps, rfl, h⟩ := h
  have hl : ps.length ≤ 200 := by simpa using hok.1
  have OK := Lib.hid (fun i (hi : i < ps.length) => hok.2 ps[i].1 (List.mem_map.2 ⟨ps[i], List.getElem_mem hi, rfl⟩))
  have H := Lib.hid h
  have HB0 := Lib.hid (bel_a w (.cells #[] 84))
  have HE0 := Lib.hid (OCe.empty w w.heap.size (Nat.le_refl _))
  obtain ⟨A, c, rfl, hc⟩ := h.slice
  clear h hok
  go_enter Tryz.func52, Tryz.ntmps52
  go_wp2_with (at_builtin; fail)
  generalize hW : w.alloc (.cells #[] 84) = W at *
  clear hW
  go_loopw [3, 4] (fun v i wr => ∃ (k : Nat) (qs : List (Cl × Value)), k ≤ ps.length ∧ i = .int .i64 k ∧ qs.map (·.1) = (ps.take k).map (·.1) ∧ OCe wr w.heap.size v qs ∧ Below w.heap.size w wr) (fun _ i _ => ps.length - (intOf i).toNat)
  case atStart => exact ⟨0, [], Nat.zero_le _, rfl, rfl, HE0.out, HB0.out⟩
  case round =>
    obtain ⟨k, qs, hk, rfl, hq, ho, hbw⟩ := hrel
    have HQ := Lib.hid hq
    have HO := Lib.hid ho
    have HBW := Lib.hid hbw
    have hsw := hbw.size
    have hql : qs.length = k := by
      have := congrArg List.length hq
      simp at this
      omega
    have HQL := Lib.hid hql
    have HW := Lib.hid (H.out.bel hbw)
    obtain ⟨Aq, cq, rfl, hcq⟩ := ho.slice
    rw [hql] at HO hcq ⊢
    clear ho hq
    by_cases hlt : k < ps.length
    · obtain ⟨g, rfl, hgb, hgl, -, d0, d1, d2, d3, -⟩ := HW.out.at_ hlt
      have HTG := Lib.hid ((HW.out.row k hlt).toS (by have := (OK.out k hlt).l1; omega))
      have HST := Lib.hid (OK.out k hlt).l1
      have HNE : Hid ((ps.take (k + 1)).map (·.1) = qs.map (·.1) ++ [ps[k].1]) := Lib.hid (by rw [take_succ_get ps k hlt, List.map_append, HQ.out]; rfl)
      generalize ps[k] = p at *
      obtain ⟨cl, tv⟩ := p
      simp only at d0 d1 d2 d3 HTG HST HNE
      obtain ⟨At, ct, rfl, -⟩ := HTG.out.slice
      have HC1 := Lib.hid (bel_a wr (.cells #[.int .i64 cl.val, .bool cl.al, .int .i64 (cl.nx : Nat), .slice At cl.st.length ct] 84))
      have HR1 := Lib.hid ((RowB.new wr [.int .i64 cl.val, .bool cl.al, .int .i64 (cl.nx : Nat), .slice At cl.st.length ct] 84).alloc (.cells #[] 116))
      have HE1 := Lib.hid (OTg.empty (wr.alloc (.cells #[.int .i64 cl.val, .bool cl.al, .int .i64 (cl.nx : Nat), .slice At cl.st.length ct] 84)) (wr.heap.size + 1) (by simp))
      have hz1 : (wr.alloc (.cells #[.int .i64 cl.val, .bool cl.al, .int .i64 (cl.nx : Nat), .slice At cl.st.length ct] 84)).heap.size = wr.heap.size + 1 := by simp
      rw [hz1] at HE1
      have HC2 := Lib.hid (HC1.out.alloc (by simp) (.cells #[] 116))
      have HT2 := Lib.hid (HTG.out.low HC2.out (Nat.le_refl _))
      clear hz1
      go_upto_region 6 with (at_builtin; fail)
      have q3 : (wr.alloc (.cells #[.int .i64 cl.val, .bool cl.al, .int .i64 (cl.nx : Nat), .slice At cl.st.length ct] 84)).cell? ⟨wr.heap.size, 3, none⟩ = some (.slice At cl.st.length ct) := cell_of_row _ _ _ _ _ _ (heap_alloc_new wr _)
      generalize hV : wr.alloc (.cells #[.int .i64 cl.val, .bool cl.al, .int .i64 (cl.nx : Nat), .slice At cl.st.length ct] 84) = V at *
      have HV : Hid (V.heap.size = wr.heap.size + 1) := Lib.hid (by rw [← hV]; simp)
      obtain ⟨bx, hbx⟩ : ∃ bx, bx = wr.heap.size := ⟨_, rfl⟩
      rw [← hbx] at q3 HR1 HE1 ⊢
      have HBX := Lib.hid hbx
      clear hV hbx
      have hvs := HV.out
      rw [← HBX.out] at hvs
      have hsl := HST.out
      go_upto_region 7 with (at_builtin; go_must (refine wpList_app_tags rfl (.tmp 17) (.tmp 19) rfl (bx + 1) _ [] rfl HE1.out wr.heap.size _ cl.st rfl HT2.out (by simp; omega) (by simp; omega) ?_); intro v' w' hP' hG' hL'; (obtain ⟨A', c', rfl, hc'⟩ := OTg.slice hP'); (have HP' := Lib.hid hP'); (have HBG := Lib.hid (grown_bel_own HE1.out hG' (by simp; omega))); (have HR2 := Lib.hid (HR1.out.low HBG.out (by omega))); (have r3 := HR2.out.cell 3); (have f3 := HR2.out.frozen 3); (simp only [List.getElem?_cons_zero, List.getElem?_cons_succ] at r3); clear hP' hG' hL')

      have HR3 := Lib.hid (HR2.out.set_ 3 (.slice A' ([] ++ cl.st).length c'))
      have HB3 := Lib.hid ((HC2.out.trans (HBG.out.mono (by have := HBX.out; omega))).setCell (p := ⟨bx, 3, none⟩) (by show wr.heap.size ≤ bx; rw [HBX.out]; exact Nat.le_refl _) (.slice A' ([] ++ cl.st).length c'))
      have HO3 := Lib.hid (HO.out.bel HB3.out)
      have HT3 : Hid (OTg (w'.setCell ⟨bx, 3, none⟩ (.slice A' ([] ++ cl.st).length c')) (bx + 1) (.slice A' ([] ++ cl.st).length c') cl.st) := Lib.hid (own_same HP'.out fun b hb => heap_setCell_other w' ⟨bx, 3, none⟩ b _ (fun e => by have := (HP'.out.own_lt hb).1; have e' : b = bx := e; omega))
      simp only [List.nil_append] at HR3 HB3 HO3 HT3 ⊢
      generalize hw3 : w'.setCell ⟨bx, 3, none⟩ (.slice A' cl.st.length c') = w3 at *
      clear hw3 q3 r3 f3 HR2 HBG HP' HE1 HR1 HC2 HC1 HT2 hvs HV
      have y0 := HR3.out.cell 0
      have y1 := HR3.out.cell 1
      have y2 := HR3.out.cell 2
      have y3 := HR3.out.cell 3
      simp only [List.set_cons_zero, List.set_cons_succ, List.getElem?_cons_zero, List.getElem?_cons_succ] at y0 y1 y2 y3
      have hbb : w.heap.size ≤ w3.heap.size := by have := HB3.out.size; omega
      have HXN : Hid (∀ i (h : i < qs.length), ∀ b, qs[i].2.ownBlock = some b → (Value.slice A' cl.st.length c').ownBlock ≠ some b) := Lib.hid fun i hi b hb e => by
        have h1 := ((HO.out.row i hi).own_lt hb).2
        have h2 := (HT3.out.own_lt e).1
        have := HBX.out
        omega
      go_wp2_with (at_builtin; go_must (refine wpList_push_ceCells rfl (.tmp 22) (.tmp 24) rfl HO3.out hbb (by omega) cl _ (HT3.out.base (by have := HBX.out; omega)) HXN.out rfl rfl ?_); intro v' w' hP' hE' hK')
      exact ⟨⟨k + 1, _, by omega, by go_num, by rw [List.map_append, HNE.out]; rfl, hP', (HBW.out.trans (HB3.out.mono hsw)).trans hE'⟩, by simp [intOf] <;> omega⟩
    · have hke : k = ps.length := by omega
      subst hke
      go_wp2_with (at_builtin; fail)
      go_ret
      exact ⟨_, rfl, ⟨qs, by rw [HQ.out, List.take_length], HO.out⟩, HBW.out⟩

end Go.Proofs.YtfioaohadanjmaaGreat

/- spec.l6Place, l6Read. -/
namespace Go.Proofs.YtfioaohadanjmaaGreat
open Go.RowKit

theorem clAt_map {ps : List (Cl × Value)} {i : Nat} (h : i < ps.length) : clAt (ps.map (·.1)) i = ps[i].1 := by
  unfold clAt
  rw [List.getD_eq_getElem?_getD, List.getElem?_map, List.getElem?_eq_getElem h]; rfl
/-- what is kept by reading at place k, up to place j -/
def rdJ (st : List Tg) (k j : Nat) : List Tg := st.take (k + 1) ++ ((st.drop (k + 1)).take (j - (k + 1))).filter fun t => !t.un
theorem rdJ_start (st : List Tg) (k : Nat) : rdJ st k (k + 1) = st.take (k + 1) := by simp [rdJ]
theorem rdJ_end (st : List Tg) (k : Nat) : rdJ st k st.length = rdSt st k := by
  have e : (st.drop (k + 1)).take (st.length - (k + 1)) = st.drop (k + 1) := List.take_of_length_le (by rw [List.length_drop]; exact Nat.le_refl _)
  unfold rdJ rdSt
  rw [e]
theorem rdJ_yes {st : List Tg} {k j : Nat} (hk : k + 1 ≤ j) (hj : j < st.length) (h : st[j].un = false) : rdJ st k (j + 1) = rdJ st k j ++ [st[j]] := by
  unfold rdJ
  rw [show j + 1 - (k + 1) = (j - (k + 1)) + 1 by omega, take_succ_get (st.drop (k + 1)) (j - (k + 1)) (by rw [List.length_drop]; omega), List.filter_append, List.getElem_drop, List.append_assoc]
  simp only [show k + 1 + (j - (k + 1)) = j by omega]
  simp [h]
theorem rdJ_no {st : List Tg} {k j : Nat} (hk : k + 1 ≤ j) (hj : j < st.length) (h : st[j].un = true) : rdJ st k (j + 1) = rdJ st k j := by
  unfold rdJ
  rw [show j + 1 - (k + 1) = (j - (k + 1)) + 1 by omega, take_succ_get (st.drop (k + 1)) (j - (k + 1)) (by rw [List.length_drop]; omega), List.filter_append, List.getElem_drop]
  simp only [show k + 1 + (j - (k + 1)) = j by omega]
  simp [h]
theorem rdJ_len (st : List Tg) (k j : Nat) : (rdJ st k j).length ≤ st.length := by
  unfold rdJ
  rw [List.length_append]
  have h1 := List.length_filter_le (fun t : Tg => !t.un) ((st.drop (k + 1)).take (j - (k + 1)))
  have h2 : ((st.drop (k + 1)).take (j - (k + 1))).length ≤ st.length - (k + 1) := by rw [List.length_take, List.length_drop]; omega
  have h3 : (st.take (k + 1)).length = min (k + 1) st.length := List.length_take
  omega
set_option maxHeartbeats 4000000 in
set_option maxRecDepth 100000 in
theorem l6Place_any (v : Value) (m : List Cl) (pc pt base : Nat) (w : World) (h : MeS w base v m) (hok : okM m) :
    Calls Tryz.prog 111 #[v, .agg #[.int .i64 (pc : Nat), .int .i64 (pt : Nat)]] w fun e w' => e = .returned (.tuple #[.int .i64 ((placeP m pc pt).1 : Nat), .int .i64 (placeP m pc pt).2]) ∧ Below w.heap.size w w' := by
  obtain ⟨ps, rfl, h⟩ := h
  have hl : ps.length ≤ 200 := by simpa using hok.1
  have OK := Lib.hid hok
  have H := Lib.hid h
  obtain ⟨A, c, rfl, hc⟩ := h.slice
  clear h hok
  have HX := Lib.hid (RowB.new w [.int .i64 (pc : Nat), .int .i64 (pt : Nat)] 77)
  have HB0 := Lib.hid (bel_a w (.cells #[.int .i64 (pc : Nat), .int .i64 (pt : Nat)] 77))
  go_enter Tryz.func111, Tryz.ntmps111
  go_upto_region 1 with (at_builtin; fail)
  generalize w.alloc (.cells #[.int .i64 (pc : Nat), .int .i64 (pt : Nat)] 77) = W at *
  obtain ⟨bx, hbx⟩ : ∃ bx, bx = w.heap.size := ⟨_, rfl⟩
  rw [← hbx] at HX ⊢
  have hxl := HX.out.lt
  have hs0 := HB0.out.size
  have HBX := Lib.hid hbx
  clear hbx
  have H1 := Lib.hid (H.out.bel HB0.out)
  have HCV := Lib.hid (sCellsValid_any _ ps base W H1.out OK.out)
  go_wp2_with (at_builtin; fail)
  refine HCV.out.mono ?_
  rintro e w1 ⟨rfl, hb1⟩
  have HB1 := Lib.hid (HB0.out.trans (hb1.mono hs0))
  have HX1 := Lib.hid (HX.out.low hb1 hxl)
  have H2 := Lib.hid (H1.out.bel hb1)
  have x0 := HX1.out.cell 0
  have x1 := HX1.out.cell 1
  simp only [List.getElem?_cons_zero, List.getElem?_cons_succ] at x0 x1
  have hxl1 := HX1.out.lt
  have q0 : decide (((pc : Nat) : Int) < 0) = false := decide_eq_false (by omega)
  clear hb1 HCV
  by_cases hpc : pc < ps.length
  · have q1 : decide (((pc : Nat) : Int) ≥ ((ps.length : Nat) : Int)) = false := decide_eq_false (by omega)
    have q1b : decide (ps.length ≤ pc) = false := decide_eq_false (by omega)
    obtain ⟨g, rfl, hgb, hgl, -, d0, d1, d2, d3, -⟩ := H2.out.at_ hpc
    have HTG := Lib.hid ((H2.out.row pc hpc).toS (by have := (OK.out.2 ps[pc].1 (List.mem_map.2 ⟨ps[pc], List.getElem_mem hpc, rfl⟩)).l1; omega))
    have HCL := Lib.hid (clAt_map hpc)
    have HNL : Hid (¬ (ps.map (·.1)).length ≤ pc) := Lib.hid (by rw [List.length_map]; omega)
    generalize ps[pc] = p at *
    obtain ⟨cl, tv⟩ := p
    simp only at d0 d1 d2 d3 HTG HCL
    obtain ⟨At, ct, rfl, -⟩ := HTG.out.slice
    obtain ⟨al, hal⟩ : ∃ al, al = cl.al := ⟨_, rfl⟩
    rw [← hal] at d1
    have HAL := Lib.hid hal
    clear hal
    cases al
    · have HR : Hid (placeP (ps.map (·.1)) pc pt = (0, 1)) := Lib.hid (by unfold placeP; rw [if_neg HNL.out, HCL.out, if_pos HAL.out.symm])
      go_wp2_with (at_builtin; fail)
      go_ret2
      exact ⟨by rw [HR.out]; rfl, HB1.out⟩
    · have HR : Hid (placeP (ps.map (·.1)) pc pt = match tagAt cl.st pt with | none => (0, 2) | some k => (k, 0)) := Lib.hid (by unfold placeP; rw [if_neg HNL.out, HCL.out, if_neg (by rw [← HAL.out]; decide)]; cases tagAt cl.st pt <;> rfl)
      go_wp2_with (at_builtin; fail)
      have BEL : Hid (∀ w', w'.cell? ⟨bx, 0, none⟩ = some (.int .i64 (pc : Nat)) ∧ w'.cell? ⟨bx, 1, none⟩ = some (.int .i64 (pt : Nat)) ∧ w'.cell? ⟨g, pc * 4 + 3, none⟩ = some (.slice At cl.st.length ct) ∧ Below w1.heap.size w1 w' → Below w1.heap.size w1 w') := Lib.hid fun _ h => h.2.2.2
      refine wp_region_held_drew (S := (fun w' => w'.cell? ⟨bx, 0, none⟩ = some (.int .i64 (pc : Nat)) ∧ w'.cell? ⟨bx, 1, none⟩ = some (.int .i64 (pt : Nat)) ∧ w'.cell? ⟨g, pc * 4 + 3, none⟩ = some (.slice At cl.st.length ct) ∧ Below w1.heap.size w1 w')) (by kernel_rfl) ?_ (fun hHeld => ?_)
      · exact ⟨x0, x1, d3, (Below.refl _ _).drew⟩
      refine wpAnyH_take (i := 0) (oi := ⟨some 29, _, _, _, _, _⟩) (v := ?_) rfl (by kernel_rfl) (by kernel_rfl) (by kernel_rfl) (fun _ _ _ h => h) (Or.inl ⟨by rfl, fun w' hSw => ?_⟩) (by assumption) ?_
      rotate_left
      · (try dsimp only at hSw); go_simp; (try with_reducible rfl)
      (try simp only [Act.put, List.setIfInBounds_toArray, List.set_cons_zero, List.set_cons_succ])
      refine wpAnyH_take (i := 1) (oi := ⟨some 30, _, _, _, _, _⟩) (v := ?_) rfl (by kernel_rfl) (by kernel_rfl) (by kernel_rfl) (fun _ _ _ h => h) (Or.inl ⟨by rfl, fun w' hSw => ?_⟩) (by assumption) ?_
      rotate_left
      · (try dsimp only at hSw); go_simp; (try with_reducible rfl)
      (try simp only [Act.put, List.setIfInBounds_toArray, List.set_cons_zero, List.set_cons_succ])
      refine wpAnyH_take (i := 2) (oi := ⟨some 31, _, _, _, _, _⟩) (v := ?_) rfl (by kernel_rfl) (by kernel_rfl) (by kernel_rfl) (fun _ _ _ h => h) (Or.inl ⟨by rfl, fun w' hSw => ?_⟩) (by assumption) ?_
      rotate_left
      · (try dsimp only at hSw); go_simp; (try with_reducible rfl)
      (try simp only [Act.put, List.setIfInBounds_toArray, List.set_cons_zero, List.set_cons_succ])
      refine wpAnyH_take (i := 3) (oi := ⟨some 32, _, _, _, _, _⟩) (v := ?_) rfl (by kernel_rfl) (by kernel_rfl) (by kernel_rfl) (fun _ _ _ h => h) (Or.inl ⟨by rfl, fun w' hSw => ?_⟩) (by assumption) ?_
      rotate_left
      · (try dsimp only at hSw); go_simp; (try with_reducible rfl)
      (try simp only [Act.put, List.setIfInBounds_toArray, List.set_cons_zero, List.set_cons_succ])
      refine wpAnyH_take (i := 4) (oi := ⟨some 33, _, _, _, _, _⟩) (v := ?_) rfl (by kernel_rfl) (by kernel_rfl) (by kernel_rfl) (fun _ _ _ h => h) (Or.inl ⟨by rfl, fun w' hSw => ?_⟩) (by assumption) ?_
      rotate_left
      · (try dsimp only at hSw); go_simp; (try with_reducible rfl)
      (try simp only [Act.put, List.setIfInBounds_toArray, List.set_cons_zero, List.set_cons_succ])
      refine wpAnyH_take (i := 5) (oi := ⟨some 34, _, _, _, _, _⟩) (v := ?_) rfl (by kernel_rfl) (by kernel_rfl) (by kernel_rfl) (fun _ _ _ h => h) (Or.inl ⟨by rfl, fun w' hSw => ?_⟩) (by assumption) ?_
      rotate_left
      · (try dsimp only at hSw); go_simp; (try with_reducible rfl)
      (try simp only [Act.put, List.setIfInBounds_toArray, List.set_cons_zero, List.set_cons_succ])
      refine wpAnyH_take (i := 6) (oi := ⟨some 35, _, _, _, _, _⟩) (v := ?_) rfl (by kernel_rfl) (by kernel_rfl) (by kernel_rfl) (fun _ _ _ h => h) (Or.inl ⟨by rfl, fun w' hSw => ?_⟩) (by assumption) ?_
      rotate_left
      · (try dsimp only at hSw); go_simp; (try with_reducible rfl)
      (try simp only [Act.put, List.setIfInBounds_toArray, List.set_cons_zero, List.set_cons_succ])
      refine wpAnyH_take (i := 7) (oi := ⟨some 36, _, _, _, _, _⟩) (v := ?_) rfl (by kernel_rfl) (by kernel_rfl) (by kernel_rfl) (fun _ _ _ h => h) (Or.inl ⟨by rfl, fun w' hSw => ?_⟩) (by assumption) ?_
      rotate_left
      · (try dsimp only at hSw); go_simp; (try with_reducible rfl)
      (try simp only [Act.put, List.setIfInBounds_toArray, List.set_cons_zero, List.set_cons_succ])
      refine wpAnyH_ready (rs := [8]) (by kernel_rfl) (by simp) ?_
      refine AllReadyH.cons (o := ⟨some 37, _, _, _, _, _⟩) rfl (fun K hK => ?_) AllReadyH.nil
      go_simp
      (have BY := (BEL.out _ (by assumption)))
      (refine (l6Tag_any _ cl.st pt w1.heap.size _ (HTG.out.low BY (Nat.le_refl _))).mono ?_)
      (rintro e w9 ⟨rfl, rfl⟩)
      (have BX9 := Lib.hid BY)
      go_simp
      refine hK.out _ _ ?_ (fun hHeld => ?_)
      · exact ⟨(BX9.out.cell (p := ⟨bx, 0, none⟩) hxl1).trans x0, (BX9.out.cell (p := ⟨bx, 1, none⟩) hxl1).trans x1, (BX9.out.cell (p := ⟨g, pc * 4 + 3, none⟩) hgl).trans d3, BX9.out⟩
      clear hK K
      (try simp only [Act.put, List.setIfInBounds_toArray, List.set_cons_zero, List.set_cons_succ])
      refine wpAnyH_take (i := 9) (oi := ⟨some 6, _, _, _, _, _⟩) (v := ?_) rfl (by kernel_rfl) (by kernel_rfl) (by kernel_rfl) (fun _ _ _ h => h) (Or.inl ⟨by rfl, fun w' hSw => ?_⟩) (by assumption) ?_
      rotate_left
      · (try dsimp only at hSw); go_simp; (try with_reducible rfl)
      (try simp only [Act.put, List.setIfInBounds_toArray, List.set_cons_zero, List.set_cons_succ])
      refine wpAnyH_done (by kernel_rfl) ?_ _
      clear x0 x1 d0 d1 d2 d3 BEL
      cases hta : tagAt cl.st pt with
      | none =>
        rw [tagI_none hta] at *
        have HR2 : Hid (placeP (ps.map (·.1)) pc pt = (0, 2)) := Lib.hid (by rw [HR.out, hta])
        clear hta
        go_wp2_with (at_builtin; fail)
        go_ret2
        exact ⟨by rw [HR2.out]; rfl, HB1.out.trans (BX9.out.mono HB1.out.size)⟩
      | some k =>
        rw [tagI_some hta] at *
        have HR2 : Hid (placeP (ps.map (·.1)) pc pt = (k, 0)) := Lib.hid (by rw [HR.out, hta])
        have hk := tagAt_lt hta
        have q9 : decide (((k : Nat) : Int) < 0) = false := decide_eq_false (by omega)
        clear hta
        go_wp2_with (at_builtin; fail)
        go_ret2
        exact ⟨by rw [HR2.out]; rfl, HB1.out.trans (BX9.out.mono HB1.out.size)⟩
  · have q1 : decide (((pc : Nat) : Int) ≥ ((ps.length : Nat) : Int)) = true := decide_eq_true (by omega)
    have q1b : decide (ps.length ≤ pc) = true := decide_eq_true (by omega)
    have HR : Hid (placeP (ps.map (·.1)) pc pt = (0, 4)) := Lib.hid (by unfold placeP; rw [if_pos (by rw [List.length_map]; omega)])
    go_wp2_with (at_builtin; fail)
    go_ret2
    exact ⟨by rw [HR.out]; rfl, HB1.out⟩
set_option maxHeartbeats 4000000 in
set_option maxRecDepth 100000 in
theorem l6Read_any (v : Value) (st : List Tg) (k B : Nat) (w : World) (h : TgS w B v st) (hB : B ≤ w.heap.size) (hk : k < st.length) (hl : st.length ≤ 200) :
    Calls Tryz.prog 112 #[v, .int .i64 (k : Nat)] w fun e w' => ∃ v', e = .returned v' ∧ OTg w' w.heap.size v' (rdSt st k) ∧ Below w.heap.size w w' := by
  have H := Lib.hid h
  obtain ⟨A, c, rfl, hc⟩ := h.slice
  have HE0 := Lib.hid (OTg.empty w w.heap.size (Nat.le_refl _))
  have HB0 := Lib.hid (bel_a w (.cells #[] 116))
  have HT0 := Lib.hid ((H.out.low HB0.out hB).take (m := k + 1) (by omega))
  have q1 : (0 : Int) ≤ ((k : Nat) : Int) + 1 := by omega
  have q2 : ((k : Nat) : Int) + 1 ≤ ((c : Nat) : Int) := by omega
  clear h
  go_enter Tryz.func112, Tryz.ntmps112
  have hz : (w.alloc (.cells #[] 116)).heap.size = w.heap.size + 1 := by simp
  have hbz : w.heap.size ≤ (w.alloc (.cells #[] 116)).heap.size := by omega
  clear hz
  go_upto_region 2 with (at_builtin; go_must (refine wpList_app_tags rfl (.tmp 7) (.tmp 11) rfl w.heap.size _ [] rfl HE0.out B _ (st.take (k + 1)) (by simp [Act.eval]) HT0.out hbz (by simp; omega) ?_); intro v' w' hP' hG' hL'; (obtain ⟨A', c', rfl, hc'⟩ := OTg.slice hP'); (have HP' := Lib.hid hP'); (have HBG := Lib.hid (grown_bel_own HE0.out hG' hbz)); clear hP' hG' hL')
  have HB1 := Lib.hid (HB0.out.trans HBG.out)
  have HP1 : Hid (OTg w' w.heap.size (.slice A' ([] ++ st.take (k + 1)).length c') (rdJ st k (k + 1))) := Lib.hid (by rw [rdJ_start]; exact HP'.out)
  have hmin : min (k + 1) st.length = k + 1 := by omega
  simp only [List.nil_append, List.length_take, hmin] at HP1 ⊢
  clear HP' HBG HE0 HT0 q1 q2 hc' hmin
  go_wp2_with (at_builtin; fail)
  go_loopw [5, 6] (fun v i wr => ∃ j : Nat, k + 1 ≤ j ∧ j ≤ st.length ∧ i = .int .i64 j ∧ OTg wr w.heap.size v (rdJ st k j) ∧ Below w.heap.size w wr) (fun _ i _ => st.length - (intOf i).toNat)
  case atStart => exact ⟨k + 1, Nat.le_refl _, hk, by simp, HP1.out, HB1.out⟩
  case round =>
    obtain ⟨j, hkj, hj, rfl, ho, hbw⟩ := hrel
    have HO := Lib.hid ho
    have HBW := Lib.hid hbw
    have hsw := hbw.size
    obtain ⟨Ao, co, rfl, hco⟩ := ho.slice
    have hol := rdJ_len st k j
    clear ho
    by_cases hlt : j < st.length
    · obtain ⟨b, off, rfl, hbb, d0, d1⟩ := (H.out.low hbw hB).get hlt
      clear hbw
      cases hun : st[j].un
      · rw [hun] at d1
        have HY := Lib.hid (rdJ_yes hkj hlt hun)
        have HE : Hid (st[j] = ⟨st[j].id, false⟩) := Lib.hid (by rw [← hun])
        rw [HE.out] at HY
        generalize st[j].id = z at *
        clear hun HE
        generalize rdJ st k j = L at *
        go_wp2_with (at_builtin; go_must (refine wpList_push_tgCells rfl (.tmp 27) (.tmp 32) rfl HO.out hsw (by omega) z false rfl rfl ?_); intro v' w' hP' hE' hK')
        exact ⟨⟨j + 1, by omega, by omega, by go_num, by rw [HY.out]; exact hP', HBW.out.trans hE'⟩, by simp [intOf] <;> omega⟩
      · rw [hun] at d1
        have HN := Lib.hid (rdJ_no hkj hlt hun)
        clear hun
        generalize rdJ st k j = L at *
        go_wp2_with (at_builtin; fail)
        exact ⟨⟨j + 1, by omega, by omega, by go_num, by rw [HN.out]; exact HO.out, HBW.out⟩, by simp [intOf] <;> omega⟩
    · have hje : j = st.length := by omega
      have HR : Hid (rdJ st k j = rdSt st k) := Lib.hid (by rw [hje]; exact rdJ_end st k)
      generalize rdJ st k j = L at *
      clear hbw
      go_wp2_with (at_builtin; fail)
      go_ret
      exact ⟨_, rfl, by rw [← HR.out]; exact HO.out, HBW.out⟩

end Go.Proofs.YtfioaohadanjmaaGreat

/- spec.l6Write, ReadCell, WriteCell, FreeCell. -/
namespace Go.Proofs.YtfioaohadanjmaaGreat
open Go.RowKit

theorem map_set_fst {ps : List (Cl × Value)} {i : Nat} {c : Cl} {tv : Value} : (ps.set i (c, tv)).map (·.1) = (ps.map (·.1)).set i c := by rw [List.map_set]
theorem map_at {ps : List (Cl × Value)} {m : List Cl} (h : ps.map (·.1) = m) {i : Nat} (hi : i < ps.length) : ps[i].1 = clAt m i := by rw [← h]; exact (clAt_map hi).symm
theorem MeS.len {w : World} {base : Nat} {v : Value} {ps : List (Cl × Value)} {m : List Cl} (h : ps.map (·.1) = m) : ps.length = m.length := by rw [← h, List.length_map]
/-- a memory of a call's own, and a code -/
def McRet (w : World) (r : List Cl × Int) (e : Ending) (w' : World) : Prop := ∃ v, e = .returned (.tuple #[v, .int .i64 r.2]) ∧ MeS w' w.heap.size v r.1 ∧ Below w.heap.size w w'
theorem touchP_no {m : List Cl} {pc pt k : Nat} {wr : Bool} {code : Int} (h : placeP m pc pt = (k, code)) (hc : code ≠ 0) : touchP m pc pt wr = (m, code) := by
  unfold touchP; rw [h]; exact if_pos hc
theorem touchP_ro {m : List Cl} {pc pt k : Nat} (h : placeP m pc pt = (k, 0)) (hu : ((clAt m pc).st.getD k tgD).un = false) : touchP m pc pt true = (m, 3) := by
  unfold touchP; rw [h, if_neg (by simp), if_pos rfl, if_neg (by rw [hu]; decide)]
theorem touchP_wr {m : List Cl} {pc pt k : Nat} (h : placeP m pc pt = (k, 0)) (hu : ((clAt m pc).st.getD k tgD).un = true) : touchP m pc pt true = (m.set pc { clAt m pc with st := wrSt (clAt m pc).st k }, 0) := by
  unfold touchP; rw [h, if_neg (by simp), if_pos rfl, if_pos hu]
theorem touchP_rd {m : List Cl} {pc pt k : Nat} (h : placeP m pc pt = (k, 0)) : touchP m pc pt false = (m.set pc { clAt m pc with st := rdSt (clAt m pc).st k }, 0) := by
  unfold touchP; rw [h, if_neg (by simp), if_neg (by decide)]
set_option maxHeartbeats 4000000 in
set_option maxRecDepth 100000 in
theorem l6Write_any (v : Value) (m : List Cl) (pc pt base : Nat) (w : World) (h : MeS w base v m) (hok : okM m) :
    Calls Tryz.prog 107 #[v, .agg #[.int .i64 (pc : Nat), .int .i64 (pt : Nat)]] w (McRet w (touchP m pc pt true)) := by
  have hl := hok.len
  have OK := Lib.hid hok
  have H := Lib.hid h
  have HX := Lib.hid (RowB.new w [.int .i64 (pc : Nat), .int .i64 (pt : Nat)] 77)
  have HB0 := Lib.hid (bel_a w (.cells #[.int .i64 (pc : Nat), .int .i64 (pt : Nat)] 77))
  obtain ⟨A, c, rfl, hc⟩ := h.slice
  clear h hok
  go_enter Tryz.func107, Tryz.ntmps107
  go_upto_region 1 with (at_builtin; fail)
  generalize w.alloc (.cells #[.int .i64 (pc : Nat), .int .i64 (pt : Nat)] 77) = W at *
  obtain ⟨bx, hbx⟩ : ∃ bx, bx = w.heap.size := ⟨_, rfl⟩
  rw [← hbx] at HX ⊢
  have hs0 := HB0.out.size
  have HBX := Lib.hid hbx
  clear hbx
  have HCP := Lib.hid (l6Copy_any _ m base W (H.out.bel HB0.out) OK.out)
  go_wp2_with (at_builtin; fail)
  refine HCP.out.mono ?_
  rintro e w1 ⟨v1, rfl, hv1, hb1⟩
  have HO1 := Lib.hid (hv1.base hs0)
  have HB1 := Lib.hid (HB0.out.trans (hb1.mono hs0))
  have HX1 := Lib.hid (HX.out.low hb1 HX.out.lt)
  obtain ⟨A1, c1, rfl, hc1⟩ := hv1.slice
  have x0 := HX1.out.cell 0
  have x1 := HX1.out.cell 1
  simp only [List.getElem?_cons_zero, List.getElem?_cons_succ] at x0 x1
  have HPL := Lib.hid (l6Place_any _ m pc pt base w1 (H.out.bel HB1.out) OK.out)
  clear hb1 hv1 HCP
  have hs1 := HB1.out.size
  obtain ⟨k, code, hpl⟩ : ∃ k code, placeP m pc pt = (k, code) := ⟨_, _, rfl⟩
  rw [hpl] at HPL
  have HPE := Lib.hid hpl
  clear hpl
  go_wp2_with (at_builtin; fail)
  refine HPL.out.mono ?_
  rintro e w2 ⟨rfl, hb2⟩
  have HO2 := Lib.hid (HO1.out.bel hb2)
  have HB2 := Lib.hid (HB1.out.trans (hb2.mono hs1))
  have HX2 := Lib.hid (HX1.out.low hb2 HX1.out.lt)
  have hs2 := HB2.out.size
  have hxl := HX2.out.lt
  clear hb2 HPL x0 x1 HO1 HX1 HB1
  by_cases hcode : code = 0
  · subst hcode
    have x0 := HX2.out.cell 0
    simp only [List.getElem?_cons_zero] at x0
    obtain ⟨hpcl, -, htg⟩ := placeP_ok (m := m) (pc := pc) (pt := pt) (by rw [HPE.out])
    rw [HPE.out] at htg
    have hkl := tagAt_lt htg
    obtain ⟨ps, hps, hO⟩ := H.out.bel HB2.out
    have hpl := MeS.len (w := w) (base := base) (v := .slice A m.length c) hps
    have HPS := Lib.hid hO
    obtain ⟨g, rfl, hgb, hgl, -, d0, d1, d2, d3, -⟩ := hO.at_ (i := pc) (by omega)
    have hce := map_at hps (i := pc) (by omega)
    have hst1 := (OK.out.2 (clAt m pc) (clAt_mem hpcl)).l1
    have hrw := hO.row pc (by omega)
    rw [hce] at d0 d1 d2 hrw
    have HTG := Lib.hid (hrw.toS (by omega))
    generalize ps[pc].2 = tv at *
    obtain ⟨At, ct, rfl, hct⟩ := HTG.out.slice
    obtain ⟨bt, ot, rfl, hbt, t0, t1⟩ := HTG.out.get (i := k) hkl
    have HUN : Hid (((clAt m pc).st.getD k tgD) = (clAt m pc).st[k]) := Lib.hid (by rw [List.getD_eq_getElem?_getD, List.getElem?_eq_getElem hkl]; rfl)
    obtain ⟨un, hun⟩ : ∃ un, un = (clAt m pc).st[k].un := ⟨_, rfl⟩
    rw [← hun] at t1
    have HUE : Hid (((clAt m pc).st.getD k tgD).un = un) := Lib.hid (by rw [HUN.out, hun])
    clear hO hrw hce hpl hun htg d0 d1 d2 t0
    cases un
    · have HR := Lib.hid (touchP_ro HPE.out HUE.out)
      go_wp2_with (at_builtin; fail)
      go_ret2
      exact ⟨_, by rw [HR.out]; rfl, by rw [HR.out]; exact HO2.out, HB2.out⟩
    · have HR := Lib.hid (touchP_wr HPE.out HUE.out)
      have q1 : (0 : Int) ≤ ((k : Nat) : Int) + 1 := by omega
      have q2 : ((k : Nat) : Int) + 1 ≤ ((ct : Nat) : Int) := by omega
      obtain ⟨qs, hqs, hQ⟩ := HO2.out
      have hql := MeS.len (w := w) (base := base) (v := .slice A1 m.length c1) hqs
      have HQ := Lib.hid hQ
      have HQS := Lib.hid hqs
      have HQC := Lib.hid (map_at hqs (i := pc) (by omega))
      obtain ⟨go, rfl, hgo, hgol, -, -, -, -, e3, fz⟩ := hQ.at_ (i := pc) (by omega)
      generalize qs[pc].2 = tv2 at *
      have HE := Lib.hid (show OTg (w2.alloc (.cells #[] 116)).drew w2.heap.size (.slice (some ⟨w2.heap.size, 0, none⟩) 0 0) [] from OTg.empty w2 w2.heap.size (Nat.le_refl _))
      have HBE := Lib.hid (show Below w2.heap.size w2 (w2.alloc (.cells #[] 116)).drew from (bel_a w2 (.cells #[] 116)).drew)
      have HTK := Lib.hid ((HTG.out.low HBE.out (Nat.le_refl _)).take (m := k + 1) (by omega))
      have hza := HBE.out.size
      have hwk : IntKind.i64.wrap (((k : Nat) : Int) + 1) = ((k : Nat) : Int) + 1 := IntWalk.i64_in _ (by omega)
      clear hQ hqs HO2
      have hmin : min (k + 1) (clAt m pc).st.length = k + 1 := by omega
      have FIN : Hid (∀ (w' : World) (A' : Option Addr) (c' : Nat), Below w2.heap.size w2 w' → OTg w' w2.heap.size (.slice A' ([] ++ (clAt m pc).st.take (k + 1)).length c') ([] ++ (clAt m pc).st.take (k + 1)) →
          MeS (w'.setCell ⟨go, pc * 4 + 3, none⟩ (.slice A' (k + 1) c')) w.heap.size (.slice (some ⟨go, 0, none⟩) m.length c1) (m.set pc { clAt m pc with st := wrSt (clAt m pc).st k }) ∧ Below w.heap.size w (w'.setCell ⟨go, pc * 4 + 3, none⟩ (.slice A' (k + 1) c'))) := Lib.hid fun w' A' c' hb ht => by
        simp only [List.nil_append, List.length_take, hmin] at ht
        refine ⟨⟨_, ?_, HQ.out.setSt hql.symm (i := pc) (by omega) (ht.base hs2) (fun j hj hji b hb' e => ?_) (hb.block go hgol) (fun j hj hji b hb' => hb.block b ((HQ.out.row j hj).own_lt hb').2)⟩, HB2.out.trans ((hb.mono hs2).setCell (p := ⟨go, _, none⟩) hgo _)⟩
        · rw [map_set_fst, HQS.out, HQC.out]; rfl
        · have h1 := ((HQ.out.row j hj).own_lt hb').2
          have h2 := (ht.own_lt e).1
          omega
      have tok1 : True := trivial
      go_wp2_with (at_builtin; fail)
      clear t1
      go_region_law (first
        | ((have _t := tok1); clear tok1 _t; (refine step_app_tags (by rfl) (.tmp 36) (.tmp 45) (by rfl) w2.heap.size (.slice (some ⟨w2.heap.size, 0, none⟩) 0 0) [] (by simp [Act.eval, Act.put]) HE.out w2.heap.size (.slice (some ⟨bt, ot, none⟩) (k + 1) ct) ((clAt m pc).st.take (k + 1)) (by simp [Act.eval, Act.put]) HTK.out hza (by simp; omega) ?_); intro v' w' hP' hG' hL'; (obtain ⟨A', c', rfl, hc'⟩ := OTg.slice hP'); (have HP' := Lib.hid hP'); (have HBG := Lib.hid (HBE.out.trans (grown_bel_own HE.out hG' hza))); (have y0 := (HBG.out.cell (p := ⟨bx, 0, none⟩) hxl).trans x0); (have y3 := (HBG.out.cell (p := ⟨go, pc * 4 + 3, none⟩) hgol).trans e3); (have yf := (HBG.out.frozen (p := ⟨go, pc * 4 + 3, none⟩) hgol).trans (fz (pc * 4 + 3))); clear hP' hG' hL')
        | fail)
      all_goals
        go_wp2_with (at_builtin; fail)
        go_ret2
        have hf := FIN.out _ _ _ HBG.out HP'.out
        exact ⟨_, by rw [HR.out]; rfl, by rw [HR.out]; exact hf.1, hf.2⟩
  · have HR := Lib.hid (touchP_no (wr := true) HPE.out hcode)
    have hq : (code != 0) = true := by simpa using hcode
    clear hcode
    go_wp2_with (at_builtin; fail)
    go_ret2
    exact ⟨_, by rw [HR.out]; rfl, by rw [HR.out]; exact HO2.out, HB2.out⟩

end Go.Proofs.YtfioaohadanjmaaGreat
