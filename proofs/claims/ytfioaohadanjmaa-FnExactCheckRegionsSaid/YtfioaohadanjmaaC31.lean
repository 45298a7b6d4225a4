import Derived.Test.YtfioaohadanjmaaC30
import Derived.Test.YtfioaohadanjmaaC19
import Derived.StillTailTactics
set_option linter.unusedVariables false

/- spec.l4Flow. -/
namespace Go.Proofs.Ytfioaohadanjmaa
open Go.RowKit

/-- what l4Flow answers -/
def Flo4Ret (w : World) (ts : List Int) (pts : List Pt) (e : Ending) (w' : World) : Prop :=
  ∃ v ps rbs R Q base, e = .returned v ∧ w.heap.size ≤ base ∧ B4 w' base v ps rbs pts.length R Q ∧ R4I ts pts R Q ∧ (∀ i v e, get3 R i v e = true ↔ Fl ts pts Gloan (Cloan ts) i v e) ∧ (∀ i e, qget Q i e = true ↔ Pld ts pts i e) ∧ Below w.heap.size w w'
/-- what lies behind the call of l4After and the store of what it answers -/
def AfS (w0 wx : World) (ts : List Int) (pts : List Pt) (k : Nat) (P : Pt) (F : List (List Bool)) (q : List Bool) (s8 : Value) : Prop :=
  ∃ (t : Nat) (Aa : Option Addr) (ca : Nat) (Aq : Option Addr) (cq : Nat) (af : List (List Bool)) (aq : List Bool), s8 = .pointer (some ⟨t, 0, none⟩) ∧ wx.heap[t]? = some (.cells #[.slice Aa af.length ca, .slice Aq aq.length cq] 99 (0, 0)) ∧ RwX wx (fun b => w0.heap.size ≤ b) (.slice Aa af.length ca) af ∧ BoolX wx (fun b => w0.heap.size ≤ b) (.slice Aq aq.length cq) aq ∧ AfR ts Gloan (Cloan ts) pts.length k P F af ∧ aq.length = pts.length ∧ (∀ e, e < pts.length → aq.getD e false = aftP ts pts k P (fun e => q.getD e false) e) ∧ w0.heap.size ≤ t ∧ Below w0.heap.size w0 wx
theorem AfS.alloc {w0 wc w3 : World} {ts : List Int} {pts : List Pt} {k : Nat} {P : Pt} {F : List (List Bool)} {q : List Bool} {Aa Aq : Option Addr} {ca cq : Nat} {af : List (List Bool)} {aq : List Bool} (hb : Below wc.heap.size wc w3) (hc : Below w0.heap.size w0 wc)
    (hx : RwX w3 (fun b => wc.heap.size ≤ b) (.slice Aa af.length ca) af) (hy : BoolX w3 (fun b => wc.heap.size ≤ b) (.slice Aq aq.length cq) aq) (har : AfR ts Gloan (Cloan ts) pts.length k P F af) (hal : aq.length = pts.length) (hap : ∀ e, e < pts.length → aq.getD e false = aftP ts pts k P (fun e => q.getD e false) e) :
    AfS w0 (w3.alloc (.cells #[.slice Aa af.length ca, .slice Aq aq.length cq] 99)) ts pts k P F q (.pointer (some ⟨w3.heap.size, 0, none⟩)) := by
  have hs := hc.size
  have hb3 := bel_a w3 (.cells #[.slice Aa af.length ca, .slice Aq aq.length cq] 99)
  have h0 := hc.trans (hb.mono hs)
  exact ⟨_, Aa, ca, Aq, cq, af, aq, rfl, heap_alloc_new w3 _, hx.frame hb3.size fun b hb' hl => ⟨Nat.le_trans hs hb', hb3.block b hl⟩, hy.frame hb3.size fun b hb' hl => ⟨Nat.le_trans hs hb', hb3.block b hl⟩, har, hal, hap, h0.size, h0.trans (hb3.mono h0.size)⟩
theorem AfS.store {w0 wc w3 : World} {t : Nat} {ts : List Int} {pts : List Pt} {k : Nat} {P : Pt} {F : List (List Bool)} {q : List Bool} {Aa Aq : Option Addr} {ca cq : Nat} {af : List (List Bool)} {aq : List Bool} (hb : Below wc.heap.size wc w3) (hc : Below w0.heap.size w0 wc) (ht : w0.heap.size ≤ t) (ht2 : t < wc.heap.size)
    (hz : w3.heap[t]? = some (.cells #[.slice none 0 0, .slice none 0 0] 99 (0, 0)))
    (hx : RwX w3 (fun b => wc.heap.size ≤ b) (.slice Aa af.length ca) af) (hy : BoolX w3 (fun b => wc.heap.size ≤ b) (.slice Aq aq.length cq) aq) (har : AfR ts Gloan (Cloan ts) pts.length k P F af) (hal : aq.length = pts.length) (hap : ∀ e, e < pts.length → aq.getD e false = aftP ts pts k P (fun e => q.getD e false) e) :
    AfS w0 ((w3.setCell ⟨t, 0, none⟩ (.slice Aa af.length ca)).setCell ⟨t, 1, none⟩ (.slice Aq aq.length cq)) ts pts k P F q (.pointer (some ⟨t, 0, none⟩)) := by
  have hs := hc.size
  have h0 := hc.trans (hb.mono hs)
  have hg := box2 hz (.slice Aa af.length ca) (.slice Aq aq.length cq)
  exact ⟨_, Aa, ca, Aq, cq, af, aq, rfl, hg.1, hx.frame hg.2.size fun b hb' hl => ⟨Nat.le_trans hs hb', hg.2.block b hl (fun e => by injection e with e; have hb'' : wc.heap.size ≤ b := hb'; omega)⟩, hy.frame hg.2.size fun b hb' hl => ⟨Nat.le_trans hs hb', hg.2.block b hl (fun e => by injection e with e; have hb'' : wc.heap.size ≤ b := hb'; omega)⟩, har, hal, hap, ht, h0.trans ((grown_below hg.2 (by have := hb.size; omega)).mono ht)⟩
def rep4 (n m s : Nat) : List (List (List Bool)) := List.replicate n (List.replicate m (List.replicate s false))
def repQ (n s : Nat) : List (List Bool) := List.replicate n (List.replicate s false)
set_option maxHeartbeats 8000000 in
set_option maxRecDepth 100000 in
theorem l4Flow_any (vt vb : Value) (ts : List Int) (l : List St) (B : Nat) (w : World) (ht : IntS w B vt ts) (hl : StS w B vb l) (hB : B ≤ w.heap.size) (hv : validP ts l = true) :
    Calls Try.prog 58 #[.agg #[vt, vb]] w (Flo4Ret w ts (ptsP l)) := by
  have GD := Good.of_valid hv
  have hsz : szL l ≤ 4194300 := by have := (valid_parts hv).2.2; omega
  have h6 := GD.h6
  have hlen := GD.len
  have hpos := GD.pos
  have HG := Lib.hid GD
  clear GD hv
  have ht0 := ht
  obtain ⟨At, ct, rfl, hct, -, -⟩ := ht0
  have H1 := Lib.hid (RowB.new w [.slice At ts.length ct, vb] 30)
  go_enter Try.func58, Try.ntmps58
  go_wp2_with fail
  refine (l2Points_any _ vb l B _ (hl.low (bel_a _ _) hB) (by simp; omega) hsz).mono ?_
  rintro e w1 ⟨vp, rfl, hps, hb1⟩
  have hs1 : w.heap.size < w1.heap.size := by have := hb1.size; simp at this; omega
  have c0 : w1.cell? ⟨w.heap.size, 0, none⟩ = some (.slice At ts.length ct) := box_kept hb1 (by simp) 0
  have HT1 := Lib.hid ((ht.low (bel_a w _) hB).low hb1 (by simp; omega))
  have HB1 := Lib.hid ((bel_a w _).trans (hb1.mono (by simp)))
  have HPS := Lib.hid hps
  have HT1X := Lib.hid (HT1.out.more (show B ≤ w1.heap.size by omega))
  obtain ⟨Ap, cp, rfl, hcp, -⟩ := hps.slice
  generalize hpts : ptsP l = pts at *
  clear hpts hps hb1 ht hl
  have HB0 : Hid (B4 (w1.alloc (.cells #[] 99)) w1.heap.size (.slice (some ⟨w1.heap.size, 0, none⟩) 0 0) [] [] pts.length (rep4 0 ts.length pts.length) (repQ 0 pts.length)) := Lib.hid (B4.empty w1 w1.heap.size pts.length (Nat.le_refl _))
  go_wp2_with (at_builtin; fail)
  go_loopw [4, 5] (fun v i wr => ∃ (k : Nat) (ps : List (Value × Nat)) (rbs : List (List Nat)), k ≤ pts.length ∧ i = .int .i64 k ∧ B4 wr w1.heap.size v ps rbs pts.length (rep4 k ts.length pts.length) (repQ k pts.length) ∧ Below w1.heap.size w1 wr) (fun _ i _ => pts.length - (intOf i).toNat)
  case atStart => exact ⟨0, [], [], Nat.zero_le _, rfl, HB0.out, bel_a w1 _⟩
  case round =>
    obtain ⟨k, ps, rbs, hk, rfl, hbr, hbw⟩ := hrel
    have HBR := Lib.hid hbr
    have HBW := Lib.hid hbw
    have hsr := hbw.size
    obtain ⟨A4, c4, rfl, hc4⟩ := hbr.slice
    have HRL : Hid ((rep4 k ts.length pts.length).length = k) := Lib.hid (by simp [rep4])
    have d0 := (hbw.cell (p := ⟨w.heap.size, 0, none⟩) hs1).trans c0
    clear hbr hbw
    by_cases hlt : k < pts.length
    · have HRS : Hid (rep4 (k + 1) ts.length pts.length = rep4 k ts.length pts.length ++ [List.replicate ts.length (List.replicate pts.length false)]) := Lib.hid (by simp [rep4, List.replicate_succ'])
      have HQS : Hid (repQ (k + 1) pts.length = repQ k pts.length ++ [List.replicate pts.length false]) := Lib.hid (by simp [repQ, List.replicate_succ'])
      have HLOW : Hid (∀ i u, i < (rep4 k ts.length pts.length).length → u < ((rep4 k ts.length pts.length).getD i []).length → (rbs.getD i []).getD u 0 < wr.heap.size) := Lib.hid fun i u hi hu => ((HBR.out.mid i hi).row u hu).1.lt
      have HLOWP : Hid (∀ i, i < (rep4 k ts.length pts.length).length → (ps.getD i dq).2 < wr.heap.size) := Lib.hid fun i hi => (HBR.out.plc i hi).1.lt
      have hrl2 : (rep4 k ts.length pts.length).length ≤ 61 := by rw [HRL.out]; omega
      generalize rep4 k ts.length pts.length = R0 at *
      generalize repQ k pts.length = Q0 at *
      go_wp2_with (at_builtin; fail)
      refine (l4Start_any ts.length pts.length (by omega) (by omega) wr).mono ?_
      rintro e w2 ⟨v2, rb2, rfl, hbr2, hpr2, hb2⟩
      have HBR2 := Lib.hid hbr2
      have HPR2 := Lib.hid hpr2
      have HB4 := Lib.hid (HBR.out.low hb2)
      have HBW2 := Lib.hid (HBW.out.trans (hb2.mono hsr))
      have hs2 := hb2.size
      obtain ⟨A5, c5, rfl, hc5⟩ := hbr2.slice
      clear hbr2 hpr2 hb2
      generalize List.replicate ts.length (List.replicate pts.length false) = rwt at *
      generalize List.replicate pts.length false = rzt at *
      go_wp2_with (at_builtin; go_must (refine wpList_push_b4 rfl (.tmp 21) (.tmp 28) rfl HB4.out (by omega) (by omega) _ rb2 rwt rzt HBR2.out HPR2.out (by omega) (by omega) (fun i u hi hu => by have := HLOW.out i u hi hu; omega) (fun i hi => by have := HLOWP.out i hi; omega) rfl rfl ?_); intro v' w' hP' hE')
      exact ⟨⟨k + 1, _, _, by omega, by go_num, by rw [HRS.out, HQS.out]; exact hP', HBW2.out.trans hE'⟩, by simp [intOf] <;> omega⟩
    · have hkl : k = pts.length := by omega
      have HLI : Hid (R4I ts pts (rep4 k ts.length pts.length) (repQ k pts.length)) := Lib.hid (by rw [hkl]; exact R4I.init ts pts)
      clear hkl
      generalize rep4 k ts.length pts.length = R0 at *
      generalize repQ k pts.length = Q0 at *
      obtain ⟨wo, rfl⟩ : ∃ wo : World, wo = wr := ⟨_, rfl⟩
      go_wp2_with (at_builtin; fail)
      go_loopg [6] (1 + mu4 ts pts R0 Q0) (fun gk c wr => ∃ (b : Bool) (R : List (List (List Bool))) (Q : List (List Bool)), c = .bool b ∧ B4 wr w1.heap.size (.slice A4 R0.length c4) ps rbs pts.length R Q ∧ R.length = R0.length ∧ R4I ts pts R Q ∧ (b = true → mu4 ts pts R Q < gk) ∧ (b = false → ∀ i, i < pts.length → ClR4 ts pts R Q i) ∧ Below w1.heap.size w1 wr)
      case atStart => exact ⟨true, R0, Q0, rfl, HBR.out, rfl, HLI.out, fun _ => by omega, fun h => (by cases h), HBW.out⟩
      case round =>
        obtain ⟨b, R, Q, rfl, hbr, hlr, hli, hmu, hcl, hbw⟩ := hrel
        have HBR2 := Lib.hid hbr
        have HLR := Lib.hid hlr
        have HLI2 := Lib.hid hli
        have HMU := Lib.hid hmu
        have HCL := Lib.hid hcl
        have HBW2 := Lib.hid hbw
        clear hbr hlr hli hmu hcl hbw
        cases b
        · go_wp2_with (at_builtin; fail)
          go_ret
          have hd := HLI2.out.done (HCL.out (by simp))
          exact ⟨_, ps, rbs, R, Q, w1.heap.size, rfl, by omega, HBR2.out, HLI2.out, hd.1, hd.2, HB1.out.trans (HBW2.out.mono (by omega))⟩
        · go_wp2_with (at_builtin; fail)
          go_loopw [6, 7] (fun c i wx => ∃ (b : Bool) (k : Nat) (rs : List (List (List Bool))) (qs : List (List Bool)), c = .bool b ∧ i = .int .i64 k ∧ k ≤ pts.length ∧ (B4 wx w1.heap.size (.slice A4 R0.length c4) ps rbs pts.length rs qs ∧ rs.length = R0.length) ∧ R4I ts pts rs qs ∧ (b = true → mu4 ts pts rs qs < mu4 ts pts R Q) ∧ (b = false → (rs = R ∧ qs = Q) ∧ ∀ i, i < k → ClR4 ts pts R Q i) ∧ Below w1.heap.size w1 wx) (fun _ i _ => pts.length - (intOf i).toNat)
          case atStart => exact ⟨false, 0, R, Q, rfl, rfl, by omega, ⟨HBR2.out, HLR.out⟩, HLI2.out, fun h => (by cases h), fun _ => ⟨⟨rfl, rfl⟩, fun i hi => by omega⟩, HBW2.out⟩
          case round =>
            obtain ⟨b, k, rs, qs, rfl, rfl, hk, hbr, hpp, hmu, hcl, hbx⟩ := hrel
            have HBRX := Lib.hid hbr
            have HPP := Lib.hid hpp
            have HMX := Lib.hid hmu
            have HCX := Lib.hid hcl
            have HBX := Lib.hid hbx
            have hsx := hbx.size
            clear hbr hpp hmu hcl hbx
            by_cases hlt : k < pts.length
            · obtain ⟨bp, op, cp', nv, e, hbp, hcp', hlp, hnx, p0, p1, p2, p3, p4⟩ := HPS.out.get hlt
              injection e with e1 e9 e2
              subst e1 e2
              clear e9
              have HNI := Lib.hid hnx
              obtain ⟨An, cn, rfl, hcn, hln, -⟩ := hnx
              simp only [List.length_map] at hcn hln p4 HNI
              have HPG : Hid (pts[k]? = some pts[k]) := Lib.hid (List.getElem?_eq_getElem hlt)
              have HNX := Lib.hid (HG.out.next _ (List.getElem_mem hlt))
              have HP4 := Lib.hid p4
              have hr0 : rs.length = pts.length := HPP.out.len
              obtain ⟨go, ego, hgo, hgl, e9, hgk, hgk1⟩ := HBRX.out.1.at_ (k := k) (by omega)
              subst ego
              have hmid := HBRX.out.1.mid k (by omega)
              have hrk : (rs.getD k []).length = ts.length := HPP.out.row k hlt
              have hri : ∀ v, v < ts.length → ((rs.getD k []).getD v []).length = pts.length := fun v hv => HPP.out.inn k v hlt hv
              have hqk : (qs.getD k []).length = pts.length := HPP.out.innQ k hlt
              have HMX2 := Lib.hid (hmid.toX (fun i hi => hri i (by omega)) (by omega))
              have HQX2 : Hid (BoolX wr (fun b => w1.heap.size ≤ b) (.slice (some ⟨(ps.getD k dq).2, 0, none⟩) pts.length pts.length) (qs.getD k [])) := Lib.hid (by
                have hpl := HBRX.out.1.plc k (by omega)
                have := RowB.toX (P := fun b => w1.heap.size ≤ b) (c := pts.length) hpl.1 hpl.2 (by omega) (by omega)
                rwa [hqk] at this)
              have HRK := Lib.hid hrk
              have HRI := Lib.hid hri
              have HQK := Lib.hid hqk
              obtain ⟨Am, cm, em, hcm⟩ := hmid.slice
              rw [em] at hgk HMX2
              rw [hrk] at hgk HMX2 hcm
              have hkr : ((k : Nat) : Int) < (R0.length : Int) := by have := HBRX.out.2; omega
              have hkr2 : k < R0.length := by have := HBRX.out.2; omega
              have g0 := (HBX.out.cell (p := ⟨w.heap.size, 0, none⟩) hs1).trans c0
              have HRBL : Hid (∀ i u, i < rs.length → u < (rs.getD i []).length → (rbs.getD i []).getD u 0 < wr.heap.size) := Lib.hid fun i u hi hu => ((HBRX.out.1.mid i hi).row u hu).1.lt
              have HPBL : Hid (∀ i, i < rs.length → (ps.getD i dq).2 < wr.heap.size) := Lib.hid fun i hi => (HBRX.out.1.plc i hi).1.lt
              have HR0 := Lib.hid hr0
              obtain ⟨pk, hpk⟩ : ∃ pk, pk = (ps.getD k dq).2 := ⟨_, rfl⟩
              rw [← hpk] at hgk1 HQX2
              have HAFT : Hid (∀ w', Below wr.heap.size wr w' → Calls Try.prog 101 #[.slice At ts.length ct, .slice (some ⟨bp, op, none⟩) pts.length cp, .int .i64 (k : Nat), .agg #[.slice Am ts.length cm, .slice (some ⟨pk, 0, none⟩) pts.length pts.length]] w' (Af4Ret w' ts pts k pts[k] (rs.getD k []) (qs.getD k []))) := Lib.hid fun w' hw => l4After_any _ _ _ _ ts pts k w1.heap.size _ _ _ w' (HT1X.out.low (HBX.out.trans (hw.mono hsx)) (Nat.le_refl _)) (HPS.out.low (HBX.out.trans (hw.mono hsx)) (Nat.le_refl _)) (by have := hw.size; omega) HG.out hlt (HMX2.out.bel hw) (HQX2.out.bel hw) HRK.out HRI.out HQK.out
              generalize hP : pts[k] = P at *
              clear hmid hrk hri hqk em p0 p1 p2 p3 p4 e9 hr0 hP hpk
              go_upto_region 13 with (at_builtin; fail)
              have hwl : w.heap.size < wr.heap.size := by omega
              have HBA : Hid (Below wr.heap.size wr wr.drew) := Lib.hid (Below.refl _ _).drew
              have HBB : Hid (Below wr.heap.size wr (wr.alloc (.cells #[.slice none 0 0, .slice none 0 0] 99)).drew) := Lib.hid (bel_a wr _).drew
              have HZN : Hid ((wr.alloc (.cells #[.slice none 0 0, .slice none 0 0] 99)).drew.heap[wr.heap.size]? = some (.cells #[.slice none 0 0, .slice none 0 0] 99)) := Lib.hid (heap_alloc_new wr _)
              go_cut [8] from 31 to 99 (fun s8 wx => AfS wr wx ts pts k P (rs.getD k []) (qs.getD k []) s8)
              case first =>
                go_region_with (go_at_call 101; (with_reducible refine (HAFT.out _ (by first | exact HBA.out | exact HBB.out)).mono ?_); (rintro e w3 ⟨va, qa, af, aq, rfl, hax, hqx, har, hal, hap, hb3⟩); (obtain ⟨Aa, ca, rfl, hca⟩ := hax.slice); (obtain ⟨Aq, cq, rfl, hcq⟩ := hqx.slice); (have HAX := Lib.hid hax); (have HQX := Lib.hid hqx); (have HAR := Lib.hid har); (have HAL := Lib.hid hal); (have HAP := Lib.hid hap); (have HB3 := Lib.hid hb3); (first | ((have HZ3 := Lib.hid ((hb3.block wr.heap.size (by simp)).trans HZN.out)); (have z0 : w3.cell? ⟨wr.heap.size, 0, none⟩ = some (.slice none 0 0) := by (rw [cell_of_row _ _ _ _ _ _ HZ3.out]; rfl)); (have z1 : w3.cell? ⟨wr.heap.size, 1, none⟩ = some (.slice none 0 0) := by (rw [cell_of_row _ _ _ _ _ _ HZ3.out]; rfl)); (have f0 := frozen_of_row w3 wr.heap.size 0 _ _ HZ3.out); (have f1 := frozen_of_row w3 wr.heap.size 1 _ _ HZ3.out)) | skip); clear hax hqx har hal hap hb3)
                all_goals
                  go_wp2_with (at_builtin; fail)
                  go_meet
                  first
                    | exact AfS.alloc HB3.out HBA.out HAX.out HQX.out HAR.out HAL.out HAP.out
                    | exact AfS.store HB3.out HBB.out (Nat.le_refl _) (by simp) HZ3.out HAX.out HQX.out HAR.out HAL.out HAP.out
                    | fail
              case rest =>
                obtain ⟨t, Aa, ca, Aq, cq, af, aq, rfl, hrt, hax, hqx, har, hal, hap, htl, hbc⟩ := hcut
                have HRT := Lib.hid hrt
                have HAX := Lib.hid hax
                have HQX := Lib.hid hqx
                have HAR := Lib.hid har
                have HAL := Lib.hid hal
                have HAP := Lib.hid hap
                have HBR3 := Lib.hid (HBRX.out.1.low hbc)
                have HB3 := Lib.hid (HBX.out.trans (hbc.mono hsx))
                have hs3 := hbc.size
                have HSND : Hid (∀ n ∈ P.next, ∀ v e, v < ts.length → e < pts.length → rget af v e = true → Fl ts pts Gloan (Cloan ts) n v e) := Lib.hid fun n hn v e hv he ha => Fl.aft (fun u f hf => HPP.out.sndR k u f hf) HPG.out hn hv (by rw [har.get v e hv he] at ha; exact ha)
                have HSNP : Hid (∀ n ∈ P.next, ∀ e, e < pts.length → aq.getD e false = true → Pld ts pts n e) := Lib.hid fun n hn e he ha => Pld.aft (b := fun e => (qs.getD k []).getD e false) (fun e he => HPP.out.sndQ k e he) HPG.out hn (by rw [← hap e he]; exact ha)
                have hal1 : af.length ≤ ts.length := by have := har.len; omega
                have hal2 : ts.length ≤ af.length := by have := har.len; omega
                clear hrt hax hqx har hal hap hbc HAFT HBA HBB HZN HMX2 HQX2 g0 hgk hgk1
                generalize hnxt : P.next = nx at *
                have HNXT := Lib.hid hnxt
                clear hnxt
                obtain ⟨wo2, rfl⟩ : ∃ wo2 : World, wo2 = wr := ⟨_, rfl⟩
                go_wp2_with (at_builtin; fail)
                go_loopw [6, 9] (fun c i wy => ∃ (d : Bool) (j : Nat) (rs2 : List (List (List Bool))) (qs2 : List (List Bool)), c = .bool d ∧ i = .int .i64 j ∧ j ≤ nx.length ∧ (B4 wy w1.heap.size (.slice (some ⟨go, 0, none⟩) R0.length c4) ps rbs pts.length rs2 qs2 ∧ rs2.length = R0.length) ∧ R4I ts pts rs2 qs2 ∧ (d = true → mu4 ts pts rs2 qs2 < mu4 ts pts R Q) ∧ (d = false → (b = false ∧ rs2 = rs ∧ qs2 = qs) ∧ ∀ n ∈ nx.take j, ClE4 ts pts rs qs k P n) ∧ (RwX wy (fun b => wo2.heap.size ≤ b) (.slice Aa af.length ca) af ∧ BoolX wy (fun b => wo2.heap.size ≤ b) (.slice Aq aq.length cq) aq ∧ wy.heap[t]? = some (.cells #[.slice Aa af.length ca, .slice Aq aq.length cq] 99 (0, 0))) ∧ Below w1.heap.size w1 wy) (fun _ i _ => nx.length - (intOf i).toNat)
                case atStart => exact ⟨b, 0, rs, qs, rfl, rfl, Nat.zero_le _, ⟨HBR3.out, HBRX.out.2⟩, HPP.out, HMX.out, fun h => ⟨⟨h, rfl, rfl⟩, fun n hn => by simp at hn⟩, ⟨HAX.out, HQX.out, HRT.out⟩, HB3.out⟩
                case round =>
                  obtain ⟨d, j, rs2, qs2, rfl, rfl, hj, hbr, hpp, hmu, hcl, hax, hby⟩ := hrel
                  have HBRY := Lib.hid hbr
                  have HPY := Lib.hid hpp
                  have HMY := Lib.hid hmu
                  have HCY := Lib.hid hcl
                  have HAY := Lib.hid hax
                  have HBY := Lib.hid hby
                  have hsy := hby.size
                  have q4 := (hby.cell (p := ⟨bp, op + k * 5 + 4, none⟩) hbp).trans HP4.out
                  clear hbr hpp hmu hcl hax hby
                  by_cases hjl : j < nx.length
                  · obtain ⟨An', cn', en, -, -, hrd⟩ := HNI.out.low HBY.out (Nat.le_refl _)
                    simp only [List.length_map] at en
                    injection en with e1 e9 e2
                    subst e1 e2
                    clear e9
                    obtain ⟨bn, on, rfl, hbn, hcn2⟩ := hrd.int_at (k := j) (by simpa using hjl)
                    have hcj := hcn2 j (by simpa using hjl)
                    rw [getD_lt (by simpa using hjl), List.getElem_map] at hcj
                    have hmem : nx[j] ∈ nx := List.getElem_mem hjl
                    have HTK := Lib.hid (take_succ_get nx j hjl)
                    generalize hnn : nx[j] = n at *
                    have hnl : n < pts.length := HNX.out n hmem
                    have HMEM := Lib.hid hmem
                    clear hnn hmem hcn2 hrd
                    have hr2 : rs2.length = pts.length := HPY.out.len
                    obtain ⟨go', ego, hgo', hgl', e9, hgn, hgn1⟩ := HBRY.out.1.at_ (k := n) (by omega)
                    injection ego with e1
                    injection e1 with e1
                    subst e1
                    clear e9
                    have hmid := HBRY.out.1.mid n (by omega)
                    have hrn : (rs2.getD n []).length = ts.length := HPY.out.row n hnl
                    have hri : ∀ v, v < ts.length → ((rs2.getD n []).getD v []).length = pts.length := fun v hv => HPY.out.inn n v hnl hv
                    have hqn : (qs2.getD n []).length = pts.length := HPY.out.innQ n hnl
                    have hpl := HBRY.out.1.plc n (by omega)
                    obtain ⟨Am2, cm2, em, hcm2⟩ := hmid.slice
                    rw [em, hrn] at hgn
                    rw [hrn] at hcm2
                    obtain ⟨pn, hpn⟩ : ∃ pn, pn = (ps.getD n dq).2 := ⟨_, rfl⟩
                    have HMX2 := Lib.hid (hmid.toX (fun i hi => hri i (by omega)) (by omega))
                    rw [em, hrn] at HMX2
                    have HQX2 : Hid (BoolX wr (fun b => w1.heap.size ≤ b) (.slice (some ⟨pn, 0, none⟩) pts.length pts.length) (qs2.getD n [])) := Lib.hid (by
                      have := RowB.toX (P := fun b => w1.heap.size ≤ b) (c := pts.length) hpl.1 hpl.2 (by omega) (by omega)
                      rw [hqn] at this
                      rw [hpn]; exact this)
                    rw [← hpn] at hgn1 hpl
                    have HPN := Lib.hid hpn
                    have HPL := Lib.hid hpl
                    have HEM := Lib.hid em
                    have HRN := Lib.hid hrn
                    have HRI := Lib.hid hri
                    have HQN := Lib.hid hqn
                    have HR2 := Lib.hid hr2
                    have hpn2 : pn < wo2.heap.size := by rw [hpn]; exact HPBL.out n (by have := HR0.out; omega)
                    have t0 : wr.cell? ⟨t, 0, none⟩ = some (.slice Aa af.length ca) := by rw [cell_of_row _ _ _ _ _ _ HAY.out.2.2]; rfl
                    have t1 : wr.cell? ⟨t, 1, none⟩ = some (.slice Aq aq.length cq) := by rw [cell_of_row _ _ _ _ _ _ HAY.out.2.2]; rfl
                    have hnr : ((n : Nat) : Int) < (R0.length : Int) := by have := HBRY.out.2; omega
                    have hnr2 : n < R0.length := by have := HBRY.out.2; omega
                    have HWI : Hid (∀ w', Below wr.heap.size wr w' → Calls Try.prog 102 #[.agg #[.slice Aa af.length ca, .slice Aq aq.length cq], .agg #[.slice Am2 ts.length cm2, .slice (some ⟨pn, 0, none⟩) pts.length pts.length]] w' (WinRet w' ts.length pts.length af aq (rs2.getD n []) (qs2.getD n []))) := Lib.hid fun w' hw => l4Within_any _ _ _ _ ts.length pts.length af aq (rs2.getD n []) (qs2.getD n []) _ _ w' (HAY.out.1.bel hw) (HAY.out.2.1.bel hw) (HMX2.out.bel hw) (HQX2.out.bel hw) HAR.out.len HRN.out HAL.out HQN.out HAR.out.inn HRI.out (by omega) (by omega)
                    clear hmid hrn hri hqn em hr2 hpn hpl
                    go_wp2_with (at_builtin; fail)
                    go_still_tail 5, (by kernel_rfl)
                    change wpList _ _ _ _ _ wr.drew
                    have hbd := (Below.refl wr.heap.size wr).drew
                    have hsd := hbd.size
                    have HWI2 := Lib.hid (HWI.out _ hbd)
                    generalize wr.drew = w2 at *
                    go_wp2_with (at_builtin; fail)
                    refine HWI2.out.mono ?_
                    rintro e w5 ⟨c, rfl, hyes, hno, hb5⟩
                    have HYES := Lib.hid hyes
                    have HNO := Lib.hid hno
                    have HB5 := Lib.hid (hbd.trans (hb5.mono hsd))
                    have hs5 := HB5.out.size
                    have HBR5 := Lib.hid (HBRY.out.1.low HB5.out)
                    have HLB5 := Lib.hid (HBY.out.trans (HB5.out.mono hsy))
                    have HAX5 := Lib.hid (HAY.out.1.bel HB5.out)
                    have HAQ5 := Lib.hid (HAY.out.2.1.bel HB5.out)
                    have HRT5 := Lib.hid (row_below HAY.out.2.2 HB5.out)
                    clear hyes hno hb5 hbd hsd q4 t0 t1 HWI HWI2
                    cases c
                    · have HNW := Lib.hid (HNO.out rfl)
                      obtain ⟨go', ego, -, -, e9, hgn5, hgn6⟩ := HBR5.out.at_ (k := n) (by have := HR2.out; omega)
                      injection ego with e1
                      injection e1 with e1
                      subst e1
                      rw [HEM.out, HRN.out] at hgn5
                      rw [← HPN.out] at hgn6
                      clear e9
                      have t1 : w5.cell? ⟨t, 1, none⟩ = some (.slice Aq aq.length cq) := by rw [cell_of_row _ _ _ _ _ _ HRT5.out]; rfl
                      have HPL5 := Lib.hid (HPL.out.1.low HB5.out HPL.out.1.lt)
                      have hbd := (Below.refl w5.heap.size w5).drew
                      have HAD := Lib.hid (l4Add_any pn pts.length pts.length (.slice Aq aq.length cq) (qs2.getD n []) aq w5.drew (HPL5.out.low hbd HPL5.out.lt) (HAQ5.out.frame hbd.size fun b hb hl => ⟨by have hb' : wo2.heap.size ≤ b := hb; show b ≠ pn; omega, hbd.block b hl⟩) HQN.out.symm (by rw [HQN.out, HAL.out]; exact Nat.le_refl _) (by rw [HQN.out]; omega))
                      go_wp2_with (at_builtin; fail)
                      go_still_tail 7, (by kernel_rfl)
                      change wpList _ _ _ _ _ w5.drew
                      have HBD := Lib.hid hbd
                      clear hbd
                      generalize w5.drew = w6 at *
                      go_wp2_with (at_builtin; fail)
                      refine HAD.out.mono ?_
                      rintro e w7 ⟨rfl, q', hq', hql, hq1, -, hon⟩
                      have HQ' : Hid (MrQ pts.length (qs2.getD n []) aq q') := Lib.hid ⟨hql.trans HQN.out, fun e he => hq1 e (by rw [HAL.out]; exact he)⟩
                      have HB7 : Hid (B4 w7 w1.heap.size (.slice (some ⟨go, 0, none⟩) R0.length c4) ps rbs pts.length rs2 (qs2.set n q')) := Lib.hid ((HBR5.out.low HBD.out).setP (by have := HR2.out; omega) (by rw [← HPN.out]; exact hq') (by rw [← HPN.out]; exact hon))
                      have HLB7 := Lib.hid ((HLB5.out.trans (HBD.out.mono HLB5.out.size)).trans (hon.below (by have := HLB5.out.size; have := HBD.out.size; omega) (fun b e => by have e' : b = pn := e; have := HPL.out.2; omega)))
                      have HON7 : Hid (Onl (fun b => b = pn) w5 w7) := Lib.hid ((Onl.bel HBD.out).trans hon)
                      have HAX7 := Lib.hid (HAX5.out.onl HON7.out (fun b hb e => by have hb' : wo2.heap.size ≤ b := hb; have e' : b = pn := e; omega))
                      have HAQ7 := Lib.hid (HAQ5.out.frame HON7.out.size fun b hb hl => ⟨hb, HON7.out.block b hl (fun e => by have hb' : wo2.heap.size ≤ b := hb; have e' : b = pn := e; omega)⟩)
                      have HRT7 := Lib.hid ((HON7.out.block t (row_lt HRT5.out) (fun e => by have e' : t = pn := e; omega)).trans HRT5.out)
                      have hs7 := HON7.out.size
                      clear hq' hql hq1 hon hgn5 hgn6 t1 HAD HBR5 HAX5 HAQ5 HRT5 HPL5
                      go_wp2_with (at_builtin; fail)
                      go_loopw [11] (fun i wz => ∃ (u : Nat) (rr : List (List Bool)), u ≤ af.length ∧ i = .int .i64 u ∧ B4 wz w1.heap.size (.slice (some ⟨go, 0, none⟩) R0.length c4) ps rbs pts.length (rs2.set n rr) (qs2.set n q') ∧ rr.length = ts.length ∧ (∀ v, v < ts.length → (rr.getD v []).length = pts.length) ∧ (∀ v e, v < ts.length → e < pts.length → rget rr v e = if v < u then (rget (rs2.getD n []) v e || rget af v e) else rget (rs2.getD n []) v e) ∧ (RwX wz (fun b => wo2.heap.size ≤ b) (.slice Aa af.length ca) af ∧ BoolX wz (fun b => wo2.heap.size ≤ b) (.slice Aq aq.length cq) aq ∧ wz.heap[t]? = some (.cells #[.slice Aa af.length ca, .slice Aq aq.length cq] 99 (0, 0))) ∧ Below w1.heap.size w1 wz) (fun i _ => af.length - (intOf i).toNat)
                      case atStart =>
                        refine ⟨0, rs2.getD n [], Nat.zero_le _, rfl, ?_, HRN.out, HRI.out, fun v e _ _ => by rw [if_neg (by omega)], ⟨HAX7.out, HAQ7.out, HRT7.out⟩, HLB7.out⟩
                        have hn2 : n < rs2.length := by have := HR2.out; omega
                        rw [getD_lt hn2, List.set_getElem_self hn2]
                        exact HB7.out
                      case round =>
                        obtain ⟨u, rr, hu, rfl, hb8, hrl, hri, hrg, hax, hlb⟩ := hrel
                        have HB8 := Lib.hid hb8
                        have HRL8 := Lib.hid hrl
                        have HRI8 := Lib.hid hri
                        have HRG8 := Lib.hid hrg
                        have HAX8 := Lib.hid hax
                        have HLB8 := Lib.hid hlb
                        have hs8 := hlb.size
                        have t0 : wr.cell? ⟨t, 0, none⟩ = some (.slice Aa af.length ca) := by rw [cell_of_row _ _ _ _ _ _ HAX8.out.2.2]; rfl
                        clear hb8 hrl hri hrg hax hlb
                        have hn2 : n < rs2.length := by have := HR2.out; omega
                        have HSN : Hid ((rs2.set n rr).getD n [] = rr) := Lib.hid (by rw [getD_setT hn2, if_pos rfl])
                        by_cases hul : u < af.length
                        · have hut : u < ts.length := by omega
                          obtain ⟨go', ego, -, -, -, hgn5, -⟩ := HB8.out.at_ (k := n) (by rw [List.length_set]; exact hn2)
                          injection ego with e1
                          injection e1 with e1
                          subst e1
                          have hm := HB8.out.mid n (by rw [List.length_set]; exact hn2)
                          rw [HSN.out] at hm
                          obtain ⟨gf, cf', egf, hgf1, hgf2, hgf3, hgfc, -⟩ := hm.form (by have := HRL8.out; omega)
                          have hgu := hgfc u (by have := HRL8.out; omega)
                          have hrow := hm.row u (by have := HRL8.out; omega)
                          have HRW := Lib.hid hrow.1
                          have hem := HEM.out
                          rw [egf, HRL8.out] at hem
                          injection hem with hem1 hem2 hem3
                          rw [egf, HRL8.out] at hgn5
                          obtain ⟨gu, hgu2⟩ : ∃ gu, gu = (rbs.getD n []).getD u 0 := ⟨_, rfl⟩
                          rw [← hgu2] at hgu HRW
                          have HGU := Lib.hid hgu2
                          have hgul : gu < wo2.heap.size := by rw [hgu2]; exact HRBL.out n u (by have := HR0.out; omega) (by rw [HPP.out.row n hnl]; exact hut)
                          have hgub : w1.heap.size ≤ gu := by rw [hgu2]; exact hrow.2
                          obtain ⟨b6, o6, rv6, ea6, -, hb6l, e9, hca6, hra6⟩ := HAX8.out.1.at_ (i := u) hul
                          subst ea6
                          obtain ⟨A6, c6, rfl, hc6⟩ := hra6.slice
                          have hal6 := HAR.out.inn u hut
                          have hrl6 := HRI8.out u hut
                          have HGA : Hid (∀ e, rget af u e = (af.getD u []).getD e false) := Lib.hid fun e => rfl
                          have HGR : Hid (∀ e, rget rr u e = (rr.getD u []).getD e false) := Lib.hid fun e => rfl
                          have hbd := (Below.refl wr.heap.size wr).drew
                          have HAD := Lib.hid (l4Add_any gu pts.length pts.length (.slice A6 (af.getD u []).length c6) (rr.getD u []) (af.getD u []) wr.drew (HRW.out.low hbd HRW.out.lt) (hra6.frame hbd.size fun b hb hl => ⟨by have hb' : wo2.heap.size ≤ b := hb; show b ≠ gu; omega, hbd.block b hl⟩) hrl6.symm (by rw [hrl6, hal6]; exact Nat.le_refl _) (by rw [hrl6]; omega))
                          have HAL6 := Lib.hid hal6
                          have HRL6 := Lib.hid hrl6
                          generalize af.getD u [] = au at *
                          clear hm hgfc hrow e9 hem1 hem2 hem3 egf hgu2 hra6 hal6 hrl6
                          go_wp2_with (at_builtin; fail)
                          go_still_tail 13, (by kernel_rfl)
                          change wpList _ _ _ _ _ wr.drew
                          have HBD8 := Lib.hid hbd
                          clear hbd
                          generalize hw9 : wr.drew = w9 at *
                          clear hw9
                          go_wp2_with (at_builtin; fail)
                          refine HAD.out.mono ?_
                          rintro e w10 ⟨rfl, r', hr', hrl', hr1, -, hon⟩
                          have HON : Hid (Onl (fun b => b = gu) wr w10) := Lib.hid ((Onl.bel HBD8.out).trans hon)
                          have HB10 : Hid (B4 w10 w1.heap.size (.slice (some ⟨go, 0, none⟩) R0.length c4) ps rbs pts.length (rs2.set n (rr.set u r')) (qs2.set n q')) := Lib.hid (by
                            have h := HB8.out.setR (v := u) (r := r') (by rw [List.length_set]; exact hn2) (by rw [HSN.out, HRL8.out]; exact hut) (by rw [← HGU.out]; exact hr') (by rw [← HGU.out]; exact HON.out)
                            rwa [HSN.out, List.set_set] at h)
                          have HRR : Hid (r'.length = pts.length) := Lib.hid (hrl'.trans HRL6.out)
                          have HR1 : Hid (∀ e, e < pts.length → r'.getD e false = (rget rr u e || rget af u e)) := Lib.hid fun e he => by rw [hr1 e (by rw [HAL6.out]; exact he), HGR.out, HGA.out]
                          have huR : u < rr.length := by rw [HRL8.out]; exact hut
                          have HAXN : Hid (RwX w10 (fun b => wo2.heap.size ≤ b) (.slice (some ⟨b6, o6, none⟩) af.length ca) af ∧ BoolX w10 (fun b => wo2.heap.size ≤ b) (.slice Aq aq.length cq) aq ∧ w10.heap[t]? = some (.cells #[.slice (some ⟨b6, o6, none⟩) af.length ca, .slice Aq aq.length cq] 99 (0, 0))) := Lib.hid ⟨HAX8.out.1.onl HON.out (fun b hb e => by have hb' : wo2.heap.size ≤ b := hb; have e' : b = gu := e; omega), HAX8.out.2.1.frame HON.out.size (fun b hb hl => ⟨hb, HON.out.block b hl (fun e => by have hb' : wo2.heap.size ≤ b := hb; have e' : b = gu := e; omega)⟩), (HON.out.block t (row_lt HAX8.out.2.2) (fun e => by have e' : t = gu := e; omega)).trans HAX8.out.2.2⟩
                          have HLB10 := Lib.hid (HLB8.out.trans (HON.out.below hs8 (fun b e => by have e' : b = gu := e; omega)))
                          clear hr' hrl' hr1 hon hca6 hgu hgn5 t0
                          go_wp2_with (at_builtin; fail)
                          refine ⟨⟨u + 1, rr.set u r', by omega, by go_num, HB10.out, by rw [List.length_set]; exact HRL8.out, fun v hv => ?_, fun v e hv he => ?_, HAXN.out, HLB10.out⟩, by simp [intOf] <;> omega⟩
                          · rw [getD_setT huR]; split
                            · exact HRR.out
                            · exact HRI8.out v hv
                          · unfold rget
                            rw [getD_setT huR]
                            by_cases h2 : v = u
                            · subst h2
                              rw [if_pos rfl, if_pos (by omega), HR1.out e he, HRG8.out v e hv he, if_neg (by omega)]; rfl
                            · rw [if_neg h2]
                              have h3 := HRG8.out v e hv he
                              unfold rget at h3
                              rw [h3]
                              by_cases h4 : v < u
                              · rw [if_pos h4, if_pos (by omega)]
                              · rw [if_neg h4, if_neg (by omega)]
                        · have hue : u = ts.length := by omega
                          have HMG : Hid (Mrg ts.length pts.length (rs2.getD n []) af rr) := Lib.hid ⟨HRL8.out, HRI8.out, fun v e hv he => by rw [HRG8.out v e hv he, if_pos (by omega)]⟩
                          have HUP := Lib.hid (HPY.out.upd hnl HMG.out HQ'.out (fun v e hv he ha => HSND.out n (by first | exact HMEM.out | (rw [HNXT.out]; exact HMEM.out)) v e hv he ha) (fun e he ha => HSNP.out n (by first | exact HMEM.out | (rw [HNXT.out]; exact HMEM.out)) e he ha))
                          have HMU1 : Hid (mu4 ts pts (rs2.set n rr) (qs2.set n q') < mu4 ts pts rs2 qs2) := Lib.hid (HPY.out.mu hnl HMG.out HQ'.out HNW.out)
                          clear hue
                          go_wp2_with (at_builtin; fail)
                          refine ⟨⟨true, j + 1, rs2.set n rr, qs2.set n q', rfl, by go_num, by omega, ⟨HB8.out, by rw [List.length_set]; exact HBRY.out.2⟩, HUP.out, fun _ => ?_, fun h => (by cases h), HAX8.out, HLB8.out⟩, by simp [intOf] <;> omega⟩
                          cases d
                          · obtain ⟨⟨e0, e1, e1'⟩, _⟩ := HCY.out rfl
                            obtain ⟨e3, e3'⟩ := (HCX.out e0).1
                            rw [← e3, ← e3', ← e1, ← e1']; exact HMU1.out
                          · exact Nat.lt_trans HMU1.out (HMY.out rfl)
                    · have HY := Lib.hid (HYES.out rfl)
                      go_wp2_with (at_builtin; fail)
                      refine ⟨⟨d, j + 1, rs2, qs2, rfl, by go_num, by omega, ⟨HBR5.out, HBRY.out.2⟩, HPY.out, HMY.out, fun h => ⟨(HCY.out h).1, fun n' hn' => ?_⟩, ⟨HAX5.out, HAQ5.out, HRT5.out⟩, HLB5.out⟩, by simp [intOf] <;> omega⟩
                      obtain ⟨⟨e0, e1, e2⟩, e3⟩ := HCY.out h
                      rw [HTK.out, List.mem_append, List.mem_singleton] at hn'
                      rcases hn' with hn' | hn'
                      · exact e3 n' hn'
                      · subst hn'
                        refine ⟨fun v e hv he ha => ?_, fun e he ha => ?_⟩
                        · rw [← HAR.out.get v e hv he] at ha
                          have := HY.out.2 v e hv he ha
                          rw [e1] at this
                          exact this
                        · rw [← HAP.out e he] at ha
                          have := HY.out.1 e he ha
                          rw [e2] at this
                          exact this
                  · have hje : j = nx.length := by omega
                    have HE : Hid (d = false → (rs2 = R ∧ qs2 = Q) ∧ ∀ i, i < k + 1 → ClR4 ts pts R Q i) := Lib.hid fun h => by
                      obtain ⟨⟨e0, e1, e1'⟩, e2⟩ := HCY.out h
                      obtain ⟨⟨e3, e3'⟩, e4⟩ := HCX.out e0
                      refine ⟨⟨e1.trans e3, e1'.trans e3'⟩, fun i hi => ?_⟩
                      by_cases hik : i = k
                      · subst hik
                        intro p hp n hn
                        rw [HPG.out] at hp
                        injection hp with hp
                        subst hp
                        rw [HNXT.out] at hn
                        rw [hje, List.take_length] at e2
                        rw [← e3, ← e3']
                        exact e2 n hn
                      · exact e4 i (by omega)
                    clear hje
                    go_wp2_with (at_builtin; fail)
                    exact ⟨⟨d, k + 1, rs2, qs2, rfl, by go_num, by omega, HBRY.out, HPY.out, HMY.out, HE.out, HBY.out⟩, by simp [intOf] <;> omega⟩
            · have hke : k = pts.length := by omega
              have HCE : Hid (b = false → (rs = R ∧ qs = Q) ∧ ∀ i, i < pts.length → ClR4 ts pts R Q i) := Lib.hid (by rw [← hke]; exact HCX.out)
              clear hke
              go_wp2_with (at_builtin; fail)
              cases b
              · obtain ⟨⟨e1, e1'⟩, e2⟩ := HCE.out rfl
                go_roundg 0
                case measure => have := HMU.out (by simp); omega
                case rel => exact ⟨false, rs, qs, rfl, HBRX.out.1, HBRX.out.2, HPP.out, fun h => (by cases h), fun _ => (by rw [e1, e1']; exact e2), HBX.out⟩
              · go_roundg (mu4 ts pts rs qs + 1)
                case measure => have := HMU.out (by simp); have := HMX.out rfl; omega
                case rel => exact ⟨true, rs, qs, rfl, HBRX.out.1, HBRX.out.2, HPP.out, fun _ => (by omega), fun h => (by cases h), HBX.out⟩

end Go.Proofs.Ytfioaohadanjmaa
