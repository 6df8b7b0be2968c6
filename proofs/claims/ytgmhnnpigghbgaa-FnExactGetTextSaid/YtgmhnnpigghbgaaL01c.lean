/- Contracts: codes of numbers and texts. -/
import Derived.Test.YtgmhnnpigghbgaaL01
namespace Go.Proofs.Ytgmhnnpigghbgaa
open Go.RowKit

set_option maxRecDepth 100000 in
theorem c_putNumber (n : Int) (w : World) (h1 : -1000000000000000 ≤ n) (h2 : n ≤ 1000000000000000) :
    Calls Try.prog 66 #[.int .i64 n] w fun e w' => e = .returned (strOf (putN n)) ∧ Below w.heap.size w w' := by
  obtain ⟨z, HZ⟩ : ∃ z : Nat, Hid (zig n = z) := ⟨_, rfl⟩
  have hz : z ≤ 2000000000000000 := by rw [← HZ.out]; exact zig_le n h1 h2
  have HL := hid (putN_len n h1 h2)
  by_cases hn : n < 0
  all_goals
    have HN : Hid ((z : Int) = if n < 0 then -2 * n - 1 else 2 * n) := by unfold Hid; rw [← HZ.out]; first | (rw [if_pos hn]; exact zig_neg hn) | (rw [if_neg hn]; exact zig_pos (by omega))
    go_enter Try.func66, Try.ntmps66
    go_wp2
    go_loopw [3, 4] (fun v u wr => ∃ (m : Nat) (l : List UInt8), m ≤ z ∧ v = .int .i64 m ∧ wr.ownsRow w.heap.size 5 1 u l.length (l.map u8v) ∧ l ++ putM m = putN n ∧ Below w.heap.size w wr) (fun v _ _ => (intOf v).toNat)
    case atStart => exact ⟨z, [], Nat.le_refl _, by (have := HN.out; congr 1; split at this <;> omega), World.ownsRow_nil _ _ _ _, by rw [putN, HZ.out]; rfl, Below.refl _ _⟩
    case round =>
      obtain ⟨m, l, hm, rfl, hown, hl, hbe⟩ := hrel
      have hsz := hbe.size
      have HK := hid hl
      clear hl
      have hll : l.length ≤ 8 := by have := HL.out; rw [← HK.out] at this; simp at this; omega
      by_cases hlt : 128 ≤ m
      · have hb1 : 0 ≤ (m : Int) % 128 := by omega
        have hb2 : (m : Int) % 128 < 128 := by omega
        go_wp2_with (at_builtin; refine app_lit rfl (.tmp 16) (.tmp 21) _ rfl slU8 rfl hown rfl rfl (by simp [Value.oneCell']) (by omega) hsz ?_; intro v1 w1 hown1 hg1 _)
        go_roundw
        case rel =>
          refine ⟨m / 128, l ++ [UInt8.ofNat (m % 128 + 128)], by omega, by go_num, ?_, ?_, hbe.trans (below_of_grown hown hg1 (Nat.le_refl _) hsz)⟩
          · rw [List.map_append, List.map_singleton, u8v_cont]; simpa using hown1
          · have := HK.out; rw [putM_big hlt] at this; simpa using this
        case measure => simp [intOf]; omega
      · have HF : Hid (putN n = l ++ [UInt8.ofNat m]) := by have := HK.out; rw [putM_small (by omega)] at this; exact this.symm
        go_wp2_with (at_builtin; refine app_lit rfl (.tmp 23) (.tmp 26) _ rfl slU8 rfl hown rfl rfl (by simp [Value.oneCell']) (by omega) hsz ?_; intro v1 w1 hown1 hg1 _; have hc : (convert 77 9 v1).run Try.prog w1 = .ok (strOf (putN n)) w1 := by (rw [HF.out]; refine conv_own Try.underlying77 Try.underlying5 Try.underlying9 (base := w.heap.size) (n := l.length + 1) _ ?_; simpa [u8v_last m (by omega)] using hown1))
        go_ret
        exact ⟨rfl, hbe.trans (below_of_grown hown hg1 (Nat.le_refl _) hsz)⟩
set_option maxRecDepth 100000 in
theorem c_l01Put (n : Int) (w : World) (h1 : -1000000000000000 ≤ n) (h2 : n ≤ 1000000000000000) :
    Calls Try.prog 97 #[.int .i64 n] w fun e w' => e = .returned (strOf (putN n)) ∧ Below w.heap.size w w' := by
  obtain ⟨z, HZ⟩ : ∃ z : Nat, Hid (zig n = z) := ⟨_, rfl⟩
  have hz : z ≤ 2000000000000000 := by rw [← HZ.out]; exact zig_le n h1 h2
  have HL := hid (putN_len n h1 h2)
  by_cases hn : n < 0
  all_goals
    have HN : Hid ((z : Int) = if n < 0 then -2 * n - 1 else 2 * n) := by unfold Hid; rw [← HZ.out]; first | (rw [if_pos hn]; exact zig_neg hn) | (rw [if_neg hn]; exact zig_pos (by omega))
    go_enter Try.func97, Try.ntmps97
    go_wp2
    go_loopw [3, 4] (fun v u wr => ∃ (m : Nat) (l : List UInt8), m ≤ z ∧ v = .int .i64 m ∧ wr.ownsRow w.heap.size 5 1 u l.length (l.map u8v) ∧ l ++ putM m = putN n ∧ Below w.heap.size w wr) (fun v _ _ => (intOf v).toNat)
    case atStart => exact ⟨z, [], Nat.le_refl _, by (have := HN.out; congr 1; split at this <;> omega), World.ownsRow_made _ _ _ (Nat.le_refl _) (by decide) rfl, by rw [putN, HZ.out]; rfl, (Below.refl _ _).alloc (Nat.le_refl _) _⟩
    case round =>
      obtain ⟨m, l, hm, rfl, hown, hl, hbe⟩ := hrel
      have hsz := hbe.size
      have HK := hid hl
      clear hl
      have hll : l.length ≤ 8 := by have := HL.out; rw [← HK.out] at this; simp at this; omega
      by_cases hlt : 128 ≤ m
      · have hb1 : 0 ≤ (m : Int) % 128 := by omega
        have hb2 : (m : Int) % 128 < 128 := by omega
        go_wp2_with (at_builtin; refine app_lit rfl (.tmp 15) (.tmp 20) _ rfl slU8 rfl hown rfl rfl (by simp [Value.oneCell']) (by omega) hsz ?_; intro v1 w1 hown1 hg1 _)
        go_roundw
        case rel =>
          refine ⟨m / 128, l ++ [UInt8.ofNat (m % 128 + 128)], by omega, by go_num, ?_, ?_, hbe.trans (below_of_grown hown hg1 (Nat.le_refl _) hsz)⟩
          · rw [List.map_append, List.map_singleton, u8v_cont]; simpa using hown1
          · have := HK.out; rw [putM_big hlt] at this; simpa using this
        case measure => simp [intOf]; omega
      · have HF : Hid (putN n = l ++ [UInt8.ofNat m]) := by have := HK.out; rw [putM_small (by omega)] at this; exact this.symm
        go_wp2_with (at_builtin; refine app_lit rfl (.tmp 24) (.tmp 27) _ rfl slU8 rfl hown rfl rfl (by simp [Value.oneCell']) (by omega) hsz ?_; intro v1 w1 hown1 hg1 _; have hc : (convert 77 9 v1).run Try.prog w1 = .ok (strOf (putN n)) w1 := by (rw [HF.out]; refine conv_own Try.underlying77 Try.underlying5 Try.underlying9 (base := w.heap.size) (n := l.length + 1) _ ?_; simpa [u8v_last m (by omega)] using hown1))
        go_ret
        exact ⟨rfl, hbe.trans (below_of_grown hown hg1 (Nat.le_refl _) hsz)⟩
end Go.Proofs.Ytgmhnnpigghbgaa
