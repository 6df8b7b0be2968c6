/- Contracts of chapter 7's functions: instructions and code. -/
import Derived.Test.YtkckhnpdodbffaaL02
import Derived.Test.YtkckhnpdodbffaaHlp
namespace Go.Proofs.Ytkckhnpdodbffaa
open Go.RowKit

def validI (x : Instr) : Bool :=
  if x.1 = 0 ∨ x.1 = 4 then inB x.2 (-1000000) 1000000
  else if x.1 = 1 ∨ x.1 = 2 then inB x.2 0 3
  else if x.1 = 5 ∨ x.1 = 6 then inB x.2 0 79
  else if x.1 = 9 then inB x.2 0 3
  else if x.1 = 3 ∨ x.1 = 7 ∨ x.1 = 8 ∨ x.1 = 10 ∨ x.1 = 11 then x.2 == 0
  else false
theorem op_cases (op : Int) : (op = 0 ∨ op = 1 ∨ op = 2 ∨ op = 3 ∨ op = 4 ∨ op = 5 ∨ op = 6 ∨ op = 7 ∨ op = 8 ∨ op = 9 ∨ op = 10 ∨ op = 11) ∨ (op < 0 ∨ 11 < op) := by omega
theorem validI_out {op arg : Int} (h : op < 0 ∨ 11 < op) : validI (op, arg) = false := by
  unfold validI
  simp only
  rw [if_neg (by omega), if_neg (by omega), if_neg (by omega), if_neg (by omega), if_neg (by omega)]
theorem ne_out {op k : Int} (h : op < 0 ∨ 11 < op) (h0 : 0 ≤ k) (h1 : k ≤ 11) : (op == k) = false := by simp; omega

theorem c7_isCoeff (n : Int) (w : World) : Calls Try.prog 48 #[.int .i64 n] w fun e w' => e = .returned (.bool (inB n (-1000000) 1000000)) ∧ w = w' := c_isCoeff n w
theorem c7_l02Number (n : Int) (w : World) :
    Calls Try.prog 44 #[.int .i64 n] w fun e w' => e = .returned (.bool (inB n (-1000000) 1000000)) ∧ w = w' := by
  go_enter Try.func44, Try.ntmps44
  go_wp2_with (go_at_call 53; refine (c_l00In _ _ _ _).mono ?_; rintro e w' ⟨rfl, rfl⟩)
  go_ret
  exact ⟨rfl, rfl⟩
end Go.Proofs.Ytkckhnpdodbffaa
