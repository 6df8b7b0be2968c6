/- Contracts of chapter 1's functions, program and reference. -/
import Derived.Test.YtkckhnpdodbffaaProg
import Derived.Test.YtkckhnpdodbffaaBase
import Derived.Test.YtkckhnpdodbffaaL01p
import Derived.Deep.QuietTactic
import Derived.BigQuiet
namespace Go.Proofs.Ytkckhnpdodbffaa
open Go.RowKit

theorem c_within (n lo hi : Int) (w : World) :
    Calls Try.prog 55 #[.int .i64 n, .int .i64 lo, .int .i64 hi] w fun e w' => e = .returned (.bool (inB n lo hi)) ∧ w = w' := by
  go_enter Try.func55, Try.ntmps55
  go_wp2
  all_goals
    go_ret
    exact ⟨ret_bool (by simp [inB]; try omega), rfl⟩
theorem c_l00In (n lo hi : Int) (w : World) :
    Calls Try.prog 53 #[.int .i64 n, .int .i64 lo, .int .i64 hi] w fun e w' => e = .returned (.bool (inB n lo hi)) ∧ w = w' := by
  go_enter Try.func53, Try.ntmps53
  go_wp2
  all_goals
    go_ret
    exact ⟨ret_bool (by simp [inB]; try omega), rfl⟩
theorem c_divFloor (a b : Int) (ha : -1000000000000000 ≤ a) (ha' : a ≤ 1000000000000000) (hb : 1 ≤ b) (w : World) :
    Calls Try.prog 41 #[.int .i64 a, .int .i64 b] w fun e w' => e = .returned (.int .i64 (divFl a b)) ∧ w = w' := by
  have h1 := tdiv_bd a b ha ha' hb
  obtain ⟨h2, h3⟩ := h1
  by_cases hc : a.tmod b < 0
  all_goals
    go_enter Try.func41, Try.ntmps41
    go_wp2
    go_ret
    exact ⟨ret_int (by unfold divFl; split <;> omega), rfl⟩
end Go.Proofs.Ytkckhnpdodbffaa
