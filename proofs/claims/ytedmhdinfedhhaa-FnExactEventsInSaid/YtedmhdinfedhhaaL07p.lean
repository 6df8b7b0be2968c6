/- Plain: what valid code is. -/
import Derived.Test.YtedmhdinfedhhaaL07b
namespace Go.Proofs.Ytedmhdinfedhhaa
theorem validCode_iff {xs : List Instr} (h : validCode xs = true) : 1 ≤ xs.length ∧ xs.length ≤ 80 ∧ ∀ x ∈ xs, validI x = true := by
  simp only [validCode, Bool.and_eq_true, List.all_eq_true] at h
  have := inB_iff.1 h.1
  exact ⟨by omega, by omega, h.2⟩
end Go.Proofs.Ytedmhdinfedhhaa
