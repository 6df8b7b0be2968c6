/- Contracts: the program's ValidCode, whose test is a function value. -/
import Derived.Test.YtkckhnpdodbffaaL07b
namespace Go.Proofs.Ytkckhnpdodbffaa
open Go.RowKit

/-- What a search hands back: the first place that passes the test, or -1. -/
def IdxOk {α : Type} (p : α → Bool) (xs : List α) (r : Int) : Prop := (r = -1 ∧ xs.all (fun x => !p x) = true) ∨ ∃ (k : Nat) (x : α), r = k ∧ xs[k]? = some x ∧ p x = true ∧ (xs.take k).all (fun x => !p x) = true
def RetIdx {α : Type} (p : α → Bool) (xs : List α) (w : World) (e : Ending) (w' : World) : Prop := ∃ r, e = .returned (.int .i64 r) ∧ IdxOk p xs r ∧ Below w.heap.size w w'
theorem IdxOk.all {α : Type} {p : α → Bool} {xs : List α} {r : Int} (h : IdxOk p xs r) : decide (0 ≤ r) = !(xs.all fun x => !p x) := by
  rcases h with ⟨rfl, h⟩ | ⟨k, x, rfl, h1, h2, _⟩
  · rw [h]; rfl
  · have : xs.all (fun x => !p x) = false := all_false h1 (by simp [h2])
    rw [this]; simp
end Go.Proofs.Ytkckhnpdodbffaa
