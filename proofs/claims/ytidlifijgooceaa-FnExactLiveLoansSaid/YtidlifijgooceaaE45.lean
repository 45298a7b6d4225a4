import Derived.Test.YtidlifijgooceaaE44
import Derived.Test.YtidlifijgooceaaE29
import Derived.Test.YtidlifijgooceaaE32
set_option linter.unusedVariables false

/- spec.l3Point, CellsOf, SettersOf, NumbersOf, MayAlias, UsersOf. -/
namespace Go.Proofs.Ytidlifijgooceaa
open Go.RowKit

/-- the row of a point and a variable in a flow -/
theorem B3.get {w : World} {base s n c k v m : Nat} {A : Option Addr} {mv : List Value} {rbs : List (List Nat)} {R : List (List (List Bool))} (h : B3 w base (.slice A n c) mv rbs s R) (hk : k < R.length) (hm : (R.getD k []).length = m) (hv : v < m) (hl : ((R.getD k []).getD v []).length = s) (hs : s ≤ 100) :
    ∃ g g2 r c2, A = some ⟨g, 0, none⟩ ∧ n = R.length ∧ w.cell? ⟨g, k, none⟩ = some (.slice (some ⟨g2, 0, none⟩) m c2) ∧ m ≤ c2 ∧ w.cell? ⟨g2, v, none⟩ = some (.slice (some ⟨r, 0, none⟩) s s) ∧ RowB w r 4 (bv ((R.getD k []).getD v [])) := by
  obtain ⟨g, e, _, _, hn, hc⟩ := h.at_ hk
  have hb := h.mid k hk
  obtain ⟨g2, c2, e2, _, _, hc2, hcell, _⟩ := hb.form (by omega)
  rw [e2, hm] at hc
  exact ⟨g, g2, (rbs.getD k []).getD v 0, c2, e, hn, hc, by omega, hcell v (by omega), (hb.row v (by omega)).1⟩
end Go.Proofs.Ytidlifijgooceaa
