/- Contracts: hexadecimal digits. -/
import Derived.Test.YtgmhnnpigghbgaaL01
import Derived.Deep.RegionLaw
namespace Go.Proofs.Ytgmhnnpigghbgaa
open Go.RowKit

set_option maxRecDepth 100000 in
theorem c_l01Hex (s : ByteArray) (w : World) (hs : s.size ≤ 1048576) :
    Calls Try.prog 91 #[.string s] w fun e w' => e = .returned (strOf (hexOf s.data.toList)) ∧ Below w.heap.size w w' := by
  go_enter Try.func91, Try.ntmps91
  go_wp2
  go_loopw [4, 5] (fun v i wr => ∃ k : Nat, k ≤ s.size ∧ i = .int .i64 k ∧ wr.ownsRow w.heap.size 5 1 v (2 * k) ((hexOf (s.data.toList.take k)).map u8v) ∧ Below w.heap.size w wr) (fun _ i _ => s.size - (intOf i).toNat)
  case atStart => exact ⟨0, Nat.zero_le _, rfl, World.ownsRow_made _ _ _ (Nat.le_refl _) (by decide) rfl, (Below.refl _ _).alloc (Nat.le_refl _) _⟩
  case round =>
    obtain ⟨k, hk, rfl, hown, hbe⟩ := hrel
    have hsz := hbe.size
    by_cases hlt : k < s.size
    · have HS : Hid (hexOf (s.data.toList.take (k + 1)) = hexOf (s.data.toList.take k) ++ [hexD (s[k].toNat / 16)] ++ [hexD (s[k].toNat % 16)]) := by rw [take_snoc s k hlt]; exact hexOf_snoc _ _
      have hb : (s[k].toNat : Int) ≤ 255 := by have := s[k].toNat_lt; omega
      have hb1 : s[k].toNat / 16 < 16 := by omega
      have hb2 : s[k].toNat % 16 < 16 := by omega
      go_wp2_with (first
        | (at_builtin; refine app_lit rfl (.tmp 13) (.tmp 20) _ rfl slU8 rfl hown rfl rfl (by simp [Value.oneCell']) (by omega) hsz ?_; intro v1 w1 hown1 hg1 _; have hsz1 := hg1.size)
        | (at_builtin; refine app_lit rfl (.tmp 22) (.tmp 29) _ rfl slU8 rfl hown1 rfl rfl (by simp [Value.oneCell']) (by omega) (by omega) ?_; intro v2 w2 hown2 hg2 _))
      go_roundw
      case rel =>
        refine ⟨k + 1, by omega, by go_num, ?_, (hbe.trans (below_of_grown hown hg1 (Nat.le_refl _) hsz)).trans (below_of_grown hown1 hg2 (Nat.le_refl _) (by omega))⟩
        rw [HS.out]
        simpa [u8v, hexT _ hb1, hexT _ hb2, Nat.mul_add] using hown2
      case measure => simp [intOf]; omega
    · have hc : (convert 77 9 u4).run Try.prog wr = .ok (strOf (hexOf s.data.toList)) wr := by
        rw [take_size s k (by omega)] at hown
        exact conv_own Try.underlying77 Try.underlying5 Try.underlying9 _ hown
      go_wp2
      go_ret
      exact ⟨rfl, hbe⟩
end Go.Proofs.Ytgmhnnpigghbgaa
