/- Contracts of chapter 1's functions, program and reference. -/
import Derived.Test.YtcbaohcgeoaccaaDoorProg
import Derived.Test.YtcbaohcgeoaccaaDoorBase
import Derived.Test.YtcbaohcgeoaccaaDoorL01p
import Derived.Deep.QuietTactic
import Derived.BigQuiet
namespace Go.Proofs.YtcbaohcgeoaccaaDoor
open Go.RowKit

theorem slU8 : SlT Tryd.prog 80 5 (.int .u8 0) 1 1 := ⟨Tryd.underlying80, by kernel_rfl, rfl, by decide, by decide⟩
theorem c_within (n lo hi : Int) (w : World) :
    Calls Tryd.prog 90 #[.int .i64 n, .int .i64 lo, .int .i64 hi] w fun e w' => e = .returned (.bool (inB n lo hi)) ∧ w = w' := by
  go_enter Tryd.func90, Tryd.ntmps90
  go_wp2
  all_goals
    go_ret
    exact ⟨ret_bool (by simp [inB]; try omega), rfl⟩
theorem c_l00In (n lo hi : Int) (w : World) :
    Calls Tryd.prog 110 #[.int .i64 n, .int .i64 lo, .int .i64 hi] w fun e w' => e = .returned (.bool (inB n lo hi)) ∧ w = w' := by
  go_enter Tryd.func110, Tryd.ntmps110
  go_wp2
  all_goals
    go_ret
    exact ⟨ret_bool (by simp [inB]; try omega), rfl⟩
theorem c_size (n : Int) (w : World) :
    Calls Tryd.prog 120 #[.int .i64 n] w fun e w' => e = .returned (.int .i64 n) ∧ w = w' := by
  go_enter Tryd.func120, Tryd.ntmps120
  go_wp2
  go_ret
  exact ⟨rfl, rfl⟩
theorem c_CheckOf (s : ByteArray) (w : World) (hs : s.size ≤ maxLen) :
    Calls Tryd.prog 60 #[.string s] w fun e w' => e = .returned (.int .i64 (ckOf s.data.toList)) ∧ w = w' := by
  unfold maxLen at hs
  go_enter Tryd.func60, Tryd.ntmps60
  go_wp2
  go_loop [3, 4, 5] (fun a b i => ∃ k : Nat, k ≤ s.size ∧ i = .int .i64 k ∧ a = .int .i64 (ckPair (s.data.toList.take k)).1 ∧ b = .int .i64 (ckPair (s.data.toList.take k)).2) (fun _ _ i => s.size - (intOf i).toNat)
  case atStart => exact ⟨0, Nat.zero_le _, rfl, rfl, rfl⟩
  case round =>
    obtain ⟨k, hk, rfl, rfl, rfl⟩ := hrel
    obtain ⟨h1, h2, h3, h4⟩ := ck_bd (s.data.toList.take k)
    by_cases hlt : k < s.size
    · have HS : Hid (ckPair (s.data.toList.take (k + 1)) = ckStep (ckPair (s.data.toList.take k)) s[k]) := by rw [take_snoc s k hlt]; exact ck_snoc _ _
      have hb : (s[k].toNat : Int) ≤ 255 := by have := s[k].toNat_lt; omega
      go_wp2
      go_round
      case rel => exact ⟨k + 1, by omega, by go_num, by rw [HS.out]; simp [ckStep], by rw [HS.out]; simp [ckStep]⟩
      case measure => simp [intOf]; omega
    · go_wp2
      go_ret
      exact ⟨ret_int (by rw [take_size s k (by omega)]; rfl), rfl⟩
end Go.Proofs.YtcbaohcgeoaccaaDoor
