/- Contracts of chapter 1's functions, program and reference. -/
import Derived.Test.YtmpanchappoejaaProg
import Derived.Test.YtmpanchappoejaaBase
import Derived.Test.YtmpanchappoejaaL01p
import Derived.Deep.QuietTactic
import Derived.BigQuiet
namespace Go.Proofs.Ytmpanchappoejaa
open Go.RowKit

theorem slU8 : SlT Try.prog 22 5 (.int .u8 0) 1 1 := ⟨Try.underlying22, by kernel_rfl, rfl, by decide, by decide⟩
theorem c_within (n lo hi : Int) (w : World) :
    Calls Try.prog 73 #[.int .i64 n, .int .i64 lo, .int .i64 hi] w fun e w' => e = .returned (.bool (inB n lo hi)) ∧ w = w' := by
  go_enter Try.func73, Try.ntmps73
  go_wp2
  all_goals
    go_ret
    exact ⟨ret_bool (by simp [inB]; try omega), rfl⟩
theorem c_l00In (n lo hi : Int) (w : World) :
    Calls Try.prog 90 #[.int .i64 n, .int .i64 lo, .int .i64 hi] w fun e w' => e = .returned (.bool (inB n lo hi)) ∧ w = w' := by
  go_enter Try.func90, Try.ntmps90
  go_wp2
  all_goals
    go_ret
    exact ⟨ret_bool (by simp [inB]; try omega), rfl⟩
theorem c_size (n : Int) (w : World) :
    Calls Try.prog 82 #[.int .i64 n] w fun e w' => e = .returned (.int .i64 n) ∧ w = w' := by
  go_enter Try.func82, Try.ntmps82
  go_wp2
  go_ret
  exact ⟨rfl, rfl⟩
theorem c_l01Number (n : Int) (w : World) :
    Calls Try.prog 133 #[.int .i64 n] w fun e w' => e = .returned (.bool (inB n (-1000000000000000) 1000000000000000)) ∧ w = w' := by
  go_enter Try.func133, Try.ntmps133
  go_wp2_with (go_at_call 90; refine (c_l00In _ _ _ _).mono ?_; rintro e w' ⟨rfl, rfl⟩)
  go_ret
  exact ⟨rfl, rfl⟩
theorem c_isCoded (n : Int) (w : World) :
    Calls Try.prog 72 #[.int .i64 n] w fun e w' => e = .returned (.bool (inB n (-1000000000000000) 1000000000000000)) ∧ w = w' := by
  go_enter Try.func72, Try.ntmps72
  go_wp2_with (go_at_call 73; refine (c_within _ _ _ _).mono ?_; rintro e w' ⟨rfl, rfl⟩)
  go_ret
  exact ⟨rfl, rfl⟩
theorem c_divFloor (a b : Int) (ha : -1000000000000000 ≤ a) (ha' : a ≤ 1000000000000000) (hb : 1 ≤ b) (w : World) :
    Calls Try.prog 74 #[.int .i64 a, .int .i64 b] w fun e w' => e = .returned (.int .i64 (divFl a b)) ∧ w = w' := by
  have h1 := tdiv_bd a b ha ha' hb
  obtain ⟨h2, h3⟩ := h1
  by_cases hc : a.tmod b < 0
  all_goals
    go_enter Try.func74, Try.ntmps74
    go_wp2
    go_ret
    exact ⟨ret_int (by unfold divFl; split <;> omega), rfl⟩
theorem c_DivFloor (a b : Int) (w : World) :
    Calls Try.prog 18 #[.int .i64 a, .int .i64 b] w fun e w' => e = .returned (.tuple #[.int .i64 (divFloorF a b).1, .bool (divFloorF a b).2]) ∧ w = w' := by
  by_cases h1 : inB a (-1000000000000000) 1000000000000000 = true
  · by_cases h2 : inB b 1 1000000000000000 = true
    · have HF : Hid (divFloorF a b = (divFl a b, true)) := by unfold Hid; simp [divFloorF, h1, h2]
      have h1' := inB_iff.1 h1
      have h2' := inB_iff.1 h2
      obtain ⟨a1, a2⟩ := h1'
      obtain ⟨b1, b2⟩ := h2'
      go_enter Try.func18, Try.ntmps18
      go_wp2_with (first | (go_at_call 72; refine (c_isCoded _ _).mono ?_; rintro e w' ⟨rfl, rfl⟩) | (go_at_call 73; refine (c_within _ _ _ _).mono ?_; rintro e w' ⟨rfl, rfl⟩) | (go_at_call 74; refine (c_divFloor _ _ a1 a2 b1 _).mono ?_; rintro e w' ⟨rfl, rfl⟩))
      go_ret2
      exact ⟨by rw [HF.out]; rfl, rfl⟩
    · have HF : Hid (divFloorF a b = (0, false)) := by unfold Hid; simp [divFloorF, h2]
      have h2' : inB b 1 1000000000000000 = false := by simpa using h2
      go_enter Try.func18, Try.ntmps18
      go_wp2_with (first | (go_at_call 72; refine (c_isCoded _ _).mono ?_; rintro e w' ⟨rfl, rfl⟩) | (go_at_call 73; refine (c_within _ _ _ _).mono ?_; rintro e w' ⟨rfl, rfl⟩))
      go_ret2
      exact ⟨by rw [HF.out]; rfl, rfl⟩
  · have HF : Hid (divFloorF a b = (0, false)) := by unfold Hid; simp [divFloorF, h1]
    have h1' : inB a (-1000000000000000) 1000000000000000 = false := by simpa using h1
    go_enter Try.func18, Try.ntmps18
    go_wp2_with (go_at_call 72; refine (c_isCoded _ _).mono ?_; rintro e w' ⟨rfl, rfl⟩)
    go_ret2
    exact ⟨by rw [HF.out]; rfl, rfl⟩
end Go.Proofs.Ytmpanchappoejaa
