/- Contracts of chapter 2: values of terms. -/
import Derived.Test.YtcbaohcgeoaccaaDoorL02s
import Derived.Test.YtcbaohcgeoaccaaDoorHlp
namespace Go.Proofs.YtcbaohcgeoaccaaDoor
open Go.RowKit

def dotK (zs vs : List Int) : Nat → Int
  | 0 => 0
  | k + 1 => dotK zs vs k + zs.getD k 0 * vs.getD k 0
def evalT (t : Term) (vs : List Int) : Int := t.1 + dotK t.2 vs t.2.length
def Mid (z : Int) : Prop := -1000000 ≤ z ∧ z ≤ 1000000
def Big (z : Int) : Prop := -1000000000 ≤ z ∧ z ≤ 1000000000
theorem mul_bd {z v : Int} (hz : Mid z) (hv : Big v) : -1000000000000000 ≤ z * v ∧ z * v ≤ 1000000000000000 := by
  obtain ⟨a, b⟩ := hz
  obtain ⟨c, d⟩ := hv
  have h : (z * v).natAbs ≤ 1000000 * 1000000000 := by rw [Int.natAbs_mul]; exact Nat.mul_le_mul (by omega) (by omega)
  omega
theorem dotK_bd {zs vs : List Int} (hz : ∀ z ∈ zs, Mid z) (hv : ∀ v ∈ vs, Big v) : ∀ k : Nat, -(1000000000000000 * (k : Int)) ≤ dotK zs vs k ∧ dotK zs vs k ≤ 1000000000000000 * (k : Int) := by
  intro k
  induction k with
  | zero => simp [dotK]
  | succ k ih =>
    have h1 : Mid (zs.getD k 0) := by
      rw [List.getD_eq_getElem?_getD]
      cases h : zs[k]? with
      | none => simp [Mid]
      | some z => exact hz z (List.mem_of_getElem? h)
    have h2 : Big (vs.getD k 0) := by
      rw [List.getD_eq_getElem?_getD]
      cases h : vs[k]? with
      | none => simp [Big]
      | some z => exact hv z (List.mem_of_getElem? h)
    have := mul_bd h1 h2
    simp only [dotK]
    omega
theorem dotK_succ {zs vs : List Int} {k : Nat} {z v : Int} (h1 : zs[k]? = some z) (h2 : vs[k]? = some v) : dotK zs vs (k + 1) = dotK zs vs k + z * v := by
  simp only [dotK, List.getD_eq_getElem?_getD, h1, h2, Option.getD_some]
theorem mid_of {zs : List Int} (h : allIn zs (-1000000) 1000000 = true) : ∀ z ∈ zs, Mid z := fun z hz => inB_iff.1 (List.all_eq_true.1 h z hz)
theorem big_of {zs : List Int} (h : allIn zs (-1000000000) 1000000000 = true) : ∀ z ∈ zs, Big z := fun z hz => inB_iff.1 (List.all_eq_true.1 h z hz)
theorem validTerm_iff {t : Term} (h : validTerm t = true) : t.2.length ≤ 10 ∧ Mid t.1 ∧ (∀ z ∈ t.2, Mid z) ∧ lastOk t.2 = true := by
  simp only [validTerm, Bool.and_eq_true, decide_eq_true_eq] at h
  exact ⟨h.1.1.1, inB_iff.1 h.1.1.2, mid_of h.1.2, h.2⟩
def valuesOk (vs : List Int) : Bool := decide (vs.length = 10) && allIn vs (-1000000000) 1000000000
def evalF (t : Term) (vs : List Int) : Int × Bool := if validTerm t && valuesOk vs then (evalT t vs, true) else (0, false)

end Go.Proofs.YtcbaohcgeoaccaaDoor
