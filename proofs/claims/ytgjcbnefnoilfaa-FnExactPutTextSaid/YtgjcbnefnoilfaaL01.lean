/- Contracts of chapter 1's functions, program and reference. -/
import Derived.Test.YtgjcbnefnoilfaaProg
import Derived.Test.YtgjcbnefnoilfaaBase
import Derived.Test.YtgjcbnefnoilfaaL01p
import Derived.Deep.QuietTactic
import Derived.BigQuiet
namespace Go.Proofs.Ytgjcbnefnoilfaa
open Go.RowKit

theorem slU8 : SlT Try.prog 33 5 (.int .u8 0) 1 1 := ⟨Try.underlying33, by kernel_rfl, rfl, by decide, by decide⟩
theorem c_within (n lo hi : Int) (w : World) :
    Calls Try.prog 21 #[.int .i64 n, .int .i64 lo, .int .i64 hi] w fun e w' => e = .returned (.bool (inB n lo hi)) ∧ w = w' := by
  go_enter Try.func21, Try.ntmps21
  go_wp2
  all_goals
    go_ret
    exact ⟨ret_bool (by simp [inB]; try omega), rfl⟩
theorem c_l00In (n lo hi : Int) (w : World) :
    Calls Try.prog 25 #[.int .i64 n, .int .i64 lo, .int .i64 hi] w fun e w' => e = .returned (.bool (inB n lo hi)) ∧ w = w' := by
  go_enter Try.func25, Try.ntmps25
  go_wp2
  all_goals
    go_ret
    exact ⟨ret_bool (by simp [inB]; try omega), rfl⟩
theorem c_size (n : Int) (w : World) :
    Calls Try.prog 22 #[.int .i64 n] w fun e w' => e = .returned (.int .i64 n) ∧ w = w' := by
  go_enter Try.func22, Try.ntmps22
  go_wp2
  go_ret
  exact ⟨rfl, rfl⟩
theorem c_CheckOf (s : ByteArray) (w : World) (hs : s.size ≤ maxLen) :
    Calls Try.prog 10 #[.string s] w fun e w' => e = .returned (.int .i64 (ckOf s.data.toList)) ∧ w = w' := by
  unfold maxLen at hs
  go_enter Try.func10, Try.ntmps10
  go_wp2
  go_loop [3, 4, 5] (fun a b i => ∃ k : Nat, k ≤ s.size ∧ i = .int .i64 k ∧ a = .int .i64 (ckPair (s.data.toList.take k)).1 ∧ b = .int .i64 (ckPair (s.data.toList.take k)).2) (fun _ _ i => s.size - (intOf i).toNat)
  case atStart => exact ⟨0, Nat.zero_le _, rfl, rfl, rfl⟩
  case round =>
    obtain ⟨k, hk, rfl, rfl, rfl⟩ := hrel
    obtain ⟨h1, h2, h3, h4⟩ := ck_bd (s.data.toList.take k)
    by_cases hlt : k < s.size
    · have HS : Hid (ckPair (s.data.toList.take (k + 1)) = ckStep (ckPair (s.data.toList.take k)) s[k]) := by rw [take_snoc s k hlt]; exact ck_snoc _ _
      have hb : (s[k].toNat : Int) ≤ 255 := by have := s[k].toNat_lt; omega
      go_wp2
      go_round
      case rel => exact ⟨k + 1, by omega, by go_num, by rw [HS.out]; simp [ckStep], by rw [HS.out]; simp [ckStep]⟩
      case measure => simp [intOf]; omega
    · go_wp2
      go_ret
      exact ⟨ret_int (by rw [take_size s k (by omega)]; rfl), rfl⟩
theorem c_l01Check (s : ByteArray) (w : World) (hs : s.size ≤ maxLen) :
    Calls Try.prog 19 #[.string s] w fun e w' => e = .returned (.int .i64 (ckOf s.data.toList)) ∧ w = w' := by
  unfold maxLen at hs
  go_enter Try.func19, Try.ntmps19
  go_wp2
  go_loop [3, 4, 5] (fun a b i => ∃ k : Nat, k ≤ s.size ∧ i = .int .i64 k ∧ a = .int .i64 (ckPair (s.data.toList.take k)).1 ∧ b = .int .i64 (ckPair (s.data.toList.take k)).2) (fun _ _ i => s.size - (intOf i).toNat)
  case atStart => exact ⟨0, Nat.zero_le _, rfl, rfl, rfl⟩
  case round =>
    obtain ⟨k, hk, rfl, rfl, rfl⟩ := hrel
    obtain ⟨h1, h2, h3, h4⟩ := ck_bd (s.data.toList.take k)
    by_cases hlt : k < s.size
    · have HS : Hid (ckPair (s.data.toList.take (k + 1)) = ckStep (ckPair (s.data.toList.take k)) s[k]) := by rw [take_snoc s k hlt]; exact ck_snoc _ _
      have hb : (s[k].toNat : Int) ≤ 255 := by have := s[k].toNat_lt; omega
      go_wp2
      go_round
      case rel => exact ⟨k + 1, by omega, by go_num, by rw [HS.out]; simp [ckStep], by rw [HS.out]; simp [ckStep]⟩
      case measure => simp [intOf]; omega
    · go_wp2
      go_ret
      exact ⟨ret_int (by rw [take_size s k (by omega)]; rfl), rfl⟩
theorem c_sCheckOf (s : ByteArray) (w : World) (hs : s.size ≤ maxLen) :
    Calls Try.prog 9 #[.string s] w fun e w' => e = .returned (.int .i64 (ckOf s.data.toList)) ∧ w = w' := by
  go_enter Try.func9, Try.ntmps9
  go_wp2_with (go_at_call 19; refine (c_l01Check _ _ hs).mono ?_; rintro e w' ⟨rfl, rfl⟩)
  go_ret
  exact ⟨rfl, rfl⟩
theorem c_IsName (s : ByteArray) (w : World) (hs : s.size ≤ maxLen) :
    Calls Try.prog 12 #[.string s] w fun e w' => e = .returned (.bool (isName s.data.toList)) ∧ w = w' := by
  have hs' := hs
  unfold maxLen at hs
  by_cases hin : 1 ≤ s.size ∧ s.size ≤ 10
  · have hI : inB s.size 1 10 = true := by simp [inB]; omega
    obtain ⟨hi1, hi2⟩ := hin
    go_enter Try.func12, Try.ntmps12
    go_wp2_with (first | (go_at_call 22; refine (c_size _ _).mono ?_; rintro e w' ⟨rfl, rfl⟩) | (go_at_call 21; refine (c_within _ _ _ _).mono ?_; rintro e w' ⟨rfl, rfl⟩))
    go_loop [3] (fun i => ∃ k : Nat, k ≤ s.size ∧ i = .int .i64 k ∧ (s.data.toList.take k).all lowB = true) (fun i => s.size - (intOf i).toNat)
    case atStart => exact ⟨0, Nat.zero_le _, rfl, rfl⟩
    case round =>
      obtain ⟨k, hk, rfl, hall⟩ := hrel
      have HA := hid hall
      clear hall hI
      by_cases hlt : k < s.size
      · have HS : Hid ((s.data.toList.take (k + 1)).all lowB = lowB s[k]) := by unfold Hid; rw [take_snoc s k hlt]; simp [HA.out]
        have HF : Hid (lowB s[k] = false → isName s.data.toList = false) := by
          intro h
          have : s.data.toList.all lowB = false := by
            rw [List.all_eq_false]; exact ⟨s[k], by simp [ByteArray.getElem_eq_getElem_data], by simp [h]⟩
          simp [isName, this]
        by_cases h1 : (s[k].toNat : Int) < 97
        · go_wp2
          go_ret
          exact ⟨ret_bool (HF.out (by simp [lowB]; omega)).symm, rfl⟩
        · by_cases h2 : (122 : Int) < s[k].toNat
          · go_wp2
            go_ret
            exact ⟨ret_bool (HF.out (by simp [lowB]; omega)).symm, rfl⟩
          · go_wp2
            go_round
            case rel => exact ⟨k + 1, by omega, by go_num, by rw [HS.out]; simp [lowB]; omega⟩
            case measure => simp [intOf]; omega
      · go_wp2
        go_ret
        refine ⟨ret_bool ?_, rfl⟩
        have := HA.out
        rw [take_size s k (by omega)] at this
        simp [isName, this]; omega
  · have hI : inB s.size 1 10 = false := by simp [inB]; omega
    go_enter Try.func12, Try.ntmps12
    go_wp2_with (first | (go_at_call 22; refine (c_size _ _).mono ?_; rintro e w' ⟨rfl, rfl⟩) | (go_at_call 21; refine (c_within _ _ _ _).mono ?_; rintro e w' ⟨rfl, rfl⟩))
    go_ret
    exact ⟨ret_bool (by simp [isName]; omega), rfl⟩
theorem c_l01Name (s : ByteArray) (w : World) (hs : s.size ≤ maxLen) :
    Calls Try.prog 20 #[.string s] w fun e w' => e = .returned (.bool (isName s.data.toList)) ∧ w = w' := by
  unfold maxLen at hs
  go_enter Try.func20, Try.ntmps20
  go_wp2
  go_loop [3] (fun i => ∃ k : Nat, k ≤ s.size ∧ i = .int .i64 k ∧ (s.data.toList.take k).all lowB = true) (fun i => s.size - (intOf i).toNat)
  case atStart => exact ⟨0, Nat.zero_le _, rfl, rfl⟩
  case round =>
    obtain ⟨k, hk, rfl, hall⟩ := hrel
    have HA := hid hall
    clear hall
    by_cases hlt : k < s.size
    · have HS : Hid ((s.data.toList.take (k + 1)).all lowB = lowB s[k]) := by unfold Hid; rw [take_snoc s k hlt]; simp [HA.out]
      have HF : Hid (lowB s[k] = false → isName s.data.toList = false) := by
        intro h
        have : s.data.toList.all lowB = false := by
          rw [List.all_eq_false]; exact ⟨s[k], by simp [ByteArray.getElem_eq_getElem_data], by simp [h]⟩
        simp [isName, this]
      by_cases h1 : (s[k].toNat : Int) < 97
      · go_wp2
        go_ret
        exact ⟨ret_bool (HF.out (by simp [lowB]; omega)).symm, rfl⟩
      · by_cases h2 : (122 : Int) < s[k].toNat
        · go_wp2
          go_ret
          exact ⟨ret_bool (HF.out (by simp [lowB]; omega)).symm, rfl⟩
        · go_wp2
          go_round
          case rel => exact ⟨k + 1, by omega, by go_num, by rw [HS.out]; simp [lowB]; omega⟩
          case measure => simp [intOf]; omega
    · have HB : Hid (isName s.data.toList = (decide (1 ≤ s.size) && decide (s.size ≤ 10))) := by
        have := HA.out
        rw [take_size s k (by omega)] at this
        unfold Hid; simp [isName, this]
      by_cases h1 : 1 ≤ s.size
      all_goals
        go_wp2
        go_ret
        refine ⟨ret_bool ?_, rfl⟩
        rw [HB.out]
        first | (rw [Bool.eq_iff_iff]; simp; omega) | (simp; omega)
theorem c_sIsName (s : ByteArray) (w : World) (hs : s.size ≤ maxLen) :
    Calls Try.prog 11 #[.string s] w fun e w' => e = .returned (.bool (isName s.data.toList)) ∧ w = w' := by
  go_enter Try.func11, Try.ntmps11
  go_wp2_with (go_at_call 20; refine (c_l01Name _ _ hs).mono ?_; rintro e w' ⟨rfl, rfl⟩)
  go_ret
  exact ⟨rfl, rfl⟩
theorem c_l01Number (n : Int) (w : World) :
    Calls Try.prog 24 #[.int .i64 n] w fun e w' => e = .returned (.bool (inB n (-1000000000000000) 1000000000000000)) ∧ w = w' := by
  go_enter Try.func24, Try.ntmps24
  go_wp2_with (go_at_call 25; refine (c_l00In _ _ _ _).mono ?_; rintro e w' ⟨rfl, rfl⟩)
  go_ret
  exact ⟨rfl, rfl⟩
theorem c_isCoded (n : Int) (w : World) :
    Calls Try.prog 27 #[.int .i64 n] w fun e w' => e = .returned (.bool (inB n (-1000000000000000) 1000000000000000)) ∧ w = w' := by
  go_enter Try.func27, Try.ntmps27
  go_wp2_with (go_at_call 21; refine (c_within _ _ _ _).mono ?_; rintro e w' ⟨rfl, rfl⟩)
  go_ret
  exact ⟨rfl, rfl⟩
theorem c_divFloor (a b : Int) (ha : -1000000000000000 ≤ a) (ha' : a ≤ 1000000000000000) (hb : 1 ≤ b) (w : World) :
    Calls Try.prog 28 #[.int .i64 a, .int .i64 b] w fun e w' => e = .returned (.int .i64 (divFl a b)) ∧ w = w' := by
  have h1 := tdiv_bd a b ha ha' hb
  obtain ⟨h2, h3⟩ := h1
  by_cases hc : a.tmod b < 0
  all_goals
    go_enter Try.func28, Try.ntmps28
    go_wp2
    go_ret
    exact ⟨ret_int (by unfold divFl; split <;> omega), rfl⟩
theorem c_l01Floor (a b : Int) (ha : -1000000000000000 ≤ a) (ha' : a ≤ 1000000000000000) (hb : 1 ≤ b) (w : World) :
    Calls Try.prog 26 #[.int .i64 a, .int .i64 b] w fun e w' => e = .returned (.int .i64 (divFl a b)) ∧ w = w' := by
  have h1 := tdiv_bd a b ha ha' hb
  obtain ⟨h2, h3⟩ := h1
  by_cases hc : a.tmod b < 0
  all_goals
    go_enter Try.func26, Try.ntmps26
    go_wp2
    go_ret
    exact ⟨ret_int (by unfold divFl; split <;> omega), rfl⟩
theorem c_sDivFloor (a b : Int) (w : World) :
    Calls Try.prog 15 #[.int .i64 a, .int .i64 b] w fun e w' => e = .returned (.tuple #[.int .i64 (divFloorF a b).1, .bool (divFloorF a b).2]) ∧ w = w' := by
  by_cases h1 : inB a (-1000000000000000) 1000000000000000 = true
  · by_cases h2 : inB b 1 1000000000000000 = true
    · have HF : Hid (divFloorF a b = (divFl a b, true)) := by unfold Hid; simp [divFloorF, h1, h2]
      have h1' := inB_iff.1 h1
      have h2' := inB_iff.1 h2
      obtain ⟨a1, a2⟩ := h1'
      obtain ⟨b1, b2⟩ := h2'
      go_enter Try.func15, Try.ntmps15
      go_wp2_with (first | (go_at_call 24; refine (c_l01Number _ _).mono ?_; rintro e w' ⟨rfl, rfl⟩) | (go_at_call 25; refine (c_l00In _ _ _ _).mono ?_; rintro e w' ⟨rfl, rfl⟩) | (go_at_call 26; refine (c_l01Floor _ _ a1 a2 b1 _).mono ?_; rintro e w' ⟨rfl, rfl⟩))
      go_ret2
      exact ⟨by rw [HF.out]; rfl, rfl⟩
    · have HF : Hid (divFloorF a b = (0, false)) := by unfold Hid; simp [divFloorF, h2]
      have h2' : inB b 1 1000000000000000 = false := by simpa using h2
      go_enter Try.func15, Try.ntmps15
      go_wp2_with (first | (go_at_call 24; refine (c_l01Number _ _).mono ?_; rintro e w' ⟨rfl, rfl⟩) | (go_at_call 25; refine (c_l00In _ _ _ _).mono ?_; rintro e w' ⟨rfl, rfl⟩))
      go_ret2
      exact ⟨by rw [HF.out]; rfl, rfl⟩
  · have HF : Hid (divFloorF a b = (0, false)) := by unfold Hid; simp [divFloorF, h1]
    have h1' : inB a (-1000000000000000) 1000000000000000 = false := by simpa using h1
    go_enter Try.func15, Try.ntmps15
    go_wp2_with (go_at_call 24; refine (c_l01Number _ _).mono ?_; rintro e w' ⟨rfl, rfl⟩)
    go_ret2
    exact ⟨by rw [HF.out]; rfl, rfl⟩
theorem c_DivFloor (a b : Int) (w : World) :
    Calls Try.prog 16 #[.int .i64 a, .int .i64 b] w fun e w' => e = .returned (.tuple #[.int .i64 (divFloorF a b).1, .bool (divFloorF a b).2]) ∧ w = w' := by
  by_cases h1 : inB a (-1000000000000000) 1000000000000000 = true
  · by_cases h2 : inB b 1 1000000000000000 = true
    · have HF : Hid (divFloorF a b = (divFl a b, true)) := by unfold Hid; simp [divFloorF, h1, h2]
      have h1' := inB_iff.1 h1
      have h2' := inB_iff.1 h2
      obtain ⟨a1, a2⟩ := h1'
      obtain ⟨b1, b2⟩ := h2'
      go_enter Try.func16, Try.ntmps16
      go_wp2_with (first | (go_at_call 27; refine (c_isCoded _ _).mono ?_; rintro e w' ⟨rfl, rfl⟩) | (go_at_call 21; refine (c_within _ _ _ _).mono ?_; rintro e w' ⟨rfl, rfl⟩) | (go_at_call 28; refine (c_divFloor _ _ a1 a2 b1 _).mono ?_; rintro e w' ⟨rfl, rfl⟩))
      go_ret2
      exact ⟨by rw [HF.out]; rfl, rfl⟩
    · have HF : Hid (divFloorF a b = (0, false)) := by unfold Hid; simp [divFloorF, h2]
      have h2' : inB b 1 1000000000000000 = false := by simpa using h2
      go_enter Try.func16, Try.ntmps16
      go_wp2_with (first | (go_at_call 27; refine (c_isCoded _ _).mono ?_; rintro e w' ⟨rfl, rfl⟩) | (go_at_call 21; refine (c_within _ _ _ _).mono ?_; rintro e w' ⟨rfl, rfl⟩))
      go_ret2
      exact ⟨by rw [HF.out]; rfl, rfl⟩
  · have HF : Hid (divFloorF a b = (0, false)) := by unfold Hid; simp [divFloorF, h1]
    have h1' : inB a (-1000000000000000) 1000000000000000 = false := by simpa using h1
    go_enter Try.func16, Try.ntmps16
    go_wp2_with (go_at_call 27; refine (c_isCoded _ _).mono ?_; rintro e w' ⟨rfl, rfl⟩)
    go_ret2
    exact ⟨by rw [HF.out]; rfl, rfl⟩
end Go.Proofs.Ytgjcbnefnoilfaa
