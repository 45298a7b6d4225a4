import Derived.Test.YtmaaaiccmllnlaaG24
import Derived.Test.YtmaaaiccmllnlaaG30
import Derived.Test.YtmaaaiccmllnlaaG39
import Derived.Test.YtmaaaiccmllnlaaG41
import Derived.Test.YtmaaaiccmllnlaaG09
import Derived.Test.YtmaaaiccmllnlaaG10
import Derived.Test.YtmaaaiccmllnlaaG32
import Derived.Test.YtmaaaiccmllnlaaG44
import Derived.Test.YtmaaaiccmllnlaaG38
set_option linter.unusedVariables false

/- FnSettersOf: the plain law, the walk. -/
namespace Go.Proofs.Ytmaaaiccmllnlaa
open Go.RowKit

theorem graphOk_at {ts : List Int} {l : List St} {k : Nat} (hv : validP ts l = true) (hk : k < (ptsP l).length) : graphOk ts l [((k : Nat) : Int)] = true := by
  simp only [graphOk, hv, Bool.true_and, List.all_cons, List.all_nil, Bool.and_true, withinP, Bool.and_eq_true, decide_eq_true_eq]; omega
theorem setters_of {ts : List Int} {l : List St} {a v : Int} {j : Nat} (hj : j < (flRes ts l Gset Cset a v).length) : setRes ts l ((flRes ts l Gset Cset a v).getD j 0) = v ∧ hasP (toRes l ts a) ((flRes ts l Gset Cset a v).getD j 0) = true := by
  have hm : (flRes ts l Gset Cset a v).getD j 0 ∈ flRes ts l Gset Cset a v := by rw [getD_lt hj]; exact List.getElem_mem hj
  generalize (flRes ts l Gset Cset a v).getD j 0 = y at *
  unfold flRes at hm
  split at hm
  · rename_i hok
    have hv : 0 ≤ v ∧ v < ts.length := by have := hok.2; simp [withinP] at this; omega
    have hval := (graphOk_one hok.1).1
    unfold flS at hm
    obtain ⟨k, hk, hf, rfl⟩ := lst_mem.1 hm
    obtain ⟨⟨p, hp, hs⟩, hl⟩ := (dec_iff.1 hf).setter
    constructor
    · unfold setRes
      rw [if_pos (graphOk_at hval hk), ptAt_nat hk]
      rw [List.getElem?_eq_getElem hk] at hp
      injection hp with hp
      rw [hp]; omega
    · unfold toRes
      rw [if_pos hok.1, lst_has, decide_eq_true hk, Bool.true_and]
      exact dec_true hl
  · simp at hm
theorem setters_len (ts : List Int) (l : List St) (a v : Int) : hasP (maybeRes ts l a) v = decide ((0 : Int) < (flRes ts l Gset Cset a v).length) := by
  rw [Bool.eq_iff_iff, decide_eq_true_eq]
  constructor
  · intro h
    unfold maybeRes at h
    split at h
    · rename_i hok
      have hval := (graphOk_one hok).1
      unfold maybeAt at h
      obtain ⟨x, hx, hf, rfl⟩ := lst_mem.1 ((hasP_iff _ _).1 h)
      obtain ⟨e, he⟩ := maybe_Fl (dec_iff.1 hf)
      obtain ⟨⟨p, hp, -⟩, -⟩ := he.setter
      have hel : e < (ptsP l).length := (List.getElem?_eq_some_iff.1 hp).1
      have hmem : ((e : Nat) : Int) ∈ flRes ts l Gset Cset a (x : Nat) := by
        unfold flRes
        rw [if_pos ⟨hok, by simp [withinP]; omega⟩]
        unfold flS
        exact lst_mem.2 ⟨e, hel, dec_true (by simpa using he), rfl⟩
      have := List.length_pos_of_mem hmem
      omega
    · simp [hasP] at h
  · intro h
    obtain ⟨y, hm⟩ := List.exists_mem_of_length_pos (show 0 < (flRes ts l Gset Cset a v).length by omega)
    unfold flRes at hm
    split at hm
    · rename_i hok
      have hv : 0 ≤ v ∧ v < ts.length := by have := hok.2; simp [withinP] at this; omega
      unfold flS at hm
      obtain ⟨e, he, hf, rfl⟩ := lst_mem.1 hm
      have := (dec_iff.1 hf).maybe
      unfold maybeRes maybeAt
      rw [if_pos hok.1, show v = ((v.toNat : Nat) : Int) by omega, lst_has, decide_eq_true (by omega), Bool.true_and]
      exact dec_true this
    · simp at hm

set_option maxHeartbeats 8000000
set_option maxRecDepth 100000

end Go.Proofs.Ytmaaaiccmllnlaa
