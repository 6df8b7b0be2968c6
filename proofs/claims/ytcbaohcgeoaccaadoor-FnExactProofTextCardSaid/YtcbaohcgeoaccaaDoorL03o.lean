/- Contracts: terms over variables, and whether they hold in a state. -/
import Derived.Test.YtcbaohcgeoaccaaDoorL03
import Derived.Test.YtcbaohcgeoaccaaDoorL02s
import Derived.Test.YtcbaohcgeoaccaaDoorL02v
import Derived.Test.YtcbaohcgeoaccaaDoorL07c
namespace Go.Proofs.YtcbaohcgeoaccaaDoor
open Go.RowKit

def overT (t : Term) : Bool := validTerm t && decide (t.2.length ≤ 4)
def areOverF (ts : List Term) (most : Int) : Bool := decide ((ts.length : Int) ≤ most) && ts.all overT
def holdsF (ts : List Term) (vs : List Int) : Bool := ts.all fun t => decide (0 ≤ evalT t vs)
def holdsInF (ts : List Term) (s : St) : Bool × Bool := if areOverF ts 14 && validState s then (holdsF ts s.1, true) else (false, false)
theorem areOverF_iff {ts : List Term} {most : Int} (h : areOverF ts most = true) : ∀ t ∈ ts, validTerm t = true ∧ t.2.length ≤ 4 := by
  simp only [areOverF, Bool.and_eq_true, List.all_eq_true] at h
  intro t ht
  have := h.2 t ht
  simpa [overT] using this
theorem validState_iff {s : St} (h : validState s = true) : s.1.length = 4 ∧ s.2.length = 8 ∧ (∀ v ∈ s.1, Big v) ∧ (∀ v ∈ s.2, Big v) := by
  simp only [validState, numsOk, Bool.and_eq_true, decide_eq_true_eq] at h
  exact ⟨h.1.1, h.2.1, big_of h.1.2, big_of h.2.2⟩
end Go.Proofs.YtcbaohcgeoaccaaDoor
