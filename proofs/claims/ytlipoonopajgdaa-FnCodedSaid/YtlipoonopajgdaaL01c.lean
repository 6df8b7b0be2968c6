/- Contracts: codes of numbers and texts. -/
import Derived.Test.YtlipoonopajgdaaL01
namespace Go.Proofs.Ytlipoonopajgdaa
open Go.RowKit

set_option maxRecDepth 100000 in
theorem c_putNumber (n : Int) (w : World) (h1 : -1000000000000000 ≤ n) (h2 : n ≤ 1000000000000000) :
    Calls Try.prog 79 #[.int .i64 n] w fun e w' => e = .returned (strOf (putN n)) ∧ Below w.heap.size w w' := by
  obtain ⟨z, HZ⟩ : ∃ z : Nat, Hid (zig n = z) := ⟨_, rfl⟩
  have hz : z ≤ 2000000000000000 := by rw [← HZ.out]; exact zig_le n h1 h2
  have HL := hid (putN_len n h1 h2)
  by_cases hn : n < 0
  all_goals
    have HN : Hid ((z : Int) = if n < 0 then -2 * n - 1 else 2 * n) := by unfold Hid; rw [← HZ.out]; first | (rw [if_pos hn]; exact zig_neg hn) | (rw [if_neg hn]; exact zig_pos (by omega))
    go_enter Try.func79, Try.ntmps79
    go_wp2
    go_loopw [3, 4] (fun v u wr => ∃ (m : Nat) (l : List UInt8), m ≤ z ∧ v = .int .i64 m ∧ wr.ownsRow w.heap.size 5 1 u l.length (l.map u8v) ∧ l ++ putM m = putN n ∧ Below w.heap.size w wr) (fun v _ _ => (intOf v).toNat)
    case atStart => exact ⟨z, [], Nat.le_refl _, by (have := HN.out; congr 1; split at this <;> omega), World.ownsRow_nil _ _ _ _, by rw [putN, HZ.out]; rfl, Below.refl _ _⟩
    case round =>
      obtain ⟨m, l, hm, rfl, hown, hl, hbe⟩ := hrel
      have hsz := hbe.size
      have HK := hid hl
      clear hl
      have hll : l.length ≤ 8 := by have := HL.out; rw [← HK.out] at this; simp at this; omega
      by_cases hlt : 128 ≤ m
      · have hb1 : 0 ≤ (m : Int) % 128 := by omega
        have hb2 : (m : Int) % 128 < 128 := by omega
        go_wp2_with (at_builtin; refine app_lit rfl (.tmp 16) (.tmp 21) _ rfl slU8 rfl hown rfl rfl (by simp [Value.oneCell']) (by omega) hsz ?_; intro v1 w1 hown1 hg1 _)
        go_roundw
        case rel =>
          refine ⟨m / 128, l ++ [UInt8.ofNat (m % 128 + 128)], by omega, by go_num, ?_, ?_, hbe.trans (below_of_grown hown hg1 (Nat.le_refl _) hsz)⟩
          · rw [List.map_append, List.map_singleton, u8v_cont]; simpa using hown1
          · have := HK.out; rw [putM_big hlt] at this; simpa using this
        case measure => simp [intOf]; omega
      · have HF : Hid (putN n = l ++ [UInt8.ofNat m]) := by have := HK.out; rw [putM_small (by omega)] at this; exact this.symm
        go_wp2_with (at_builtin; refine app_lit rfl (.tmp 23) (.tmp 26) _ rfl slU8 rfl hown rfl rfl (by simp [Value.oneCell']) (by omega) hsz ?_; intro v1 w1 hown1 hg1 _; have hc : (convert 22 9 v1).run Try.prog w1 = .ok (strOf (putN n)) w1 := by (rw [HF.out]; refine conv_own Try.underlying22 Try.underlying5 Try.underlying9 (base := w.heap.size) (n := l.length + 1) _ ?_; simpa [u8v_last m (by omega)] using hown1))
        go_ret
        exact ⟨rfl, hbe.trans (below_of_grown hown hg1 (Nat.le_refl _) hsz)⟩
theorem c_PutNumber (n : Int) (w : World) :
    Calls Try.prog 23 #[.int .i64 n] w fun e w' => e = .returned (.tuple #[strOf (putF n).1, .bool (putF n).2]) ∧ Below w.heap.size w w' := by
  by_cases h : inB n (-1000000000000000) 1000000000000000 = true
  · have HF : Hid (putF n = (putN n, true)) := by unfold Hid; simp [putF, h]
    obtain ⟨a1, a2⟩ := inB_iff.1 h
    go_enter Try.func23, Try.ntmps23
    go_wp2_with (first | (go_at_call 82; refine (c_isCoded _ _).mono ?_; rintro e w' ⟨rfl, rfl⟩) | (go_at_call 79; refine (c_putNumber _ _ a1 a2).mono ?_; rintro e w' ⟨rfl, hb⟩))
    go_ret2
    exact ⟨by rw [HF.out]; rfl, hb⟩
  · have HF : Hid (putF n = ([], false)) := by unfold Hid; simp [putF, h]
    have h' : inB n (-1000000000000000) 1000000000000000 = false := by simpa using h
    go_enter Try.func23, Try.ntmps23
    go_wp2_with (go_at_call 82; refine (c_isCoded _ _).mono ?_; rintro e w' ⟨rfl, rfl⟩)
    go_ret2
    exact ⟨by rw [HF.out]; rfl, Below.refl _ _⟩
theorem c_PutText (s : ByteArray) (w : World) (hs : s.size ≤ 1048576) :
    Calls Try.prog 19 #[.string s] w fun e w' => e = .returned (.tuple #[strOf (putTextF s.data.toList).1, .bool (putTextF s.data.toList).2]) ∧ Below w.heap.size w w' := by
  by_cases h : s.size ≤ 40000
  · have HF : Hid (putTextF s.data.toList = (putN s.size ++ s.data.toList, true)) := by unfold Hid; simp [putTextF, h]
    have hl := putN_len (s.size : Int) (by omega) (by omega)
    go_enter Try.func19, Try.ntmps19
    go_wp2_with (first | (go_at_call 80; refine (c_size _ _).mono ?_; rintro e w' ⟨rfl, rfl⟩) | (go_at_call 79; refine (c_putNumber _ _ (by omega) (by omega)).mono ?_; rintro e w' ⟨rfl, hb⟩; unfold strOf))
    go_ret2
    exact ⟨by rw [HF.out]; congr 3, hb⟩
  · have HF : Hid (putTextF s.data.toList = ([], false)) := by unfold Hid; simp [putTextF, h]
    go_enter Try.func19, Try.ntmps19
    go_wp2
    go_ret2
    exact ⟨by rw [HF.out]; rfl, Below.refl _ _⟩
end Go.Proofs.Ytlipoonopajgdaa
