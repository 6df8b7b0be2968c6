/- Contracts: hexadecimal digits. -/
import Derived.Test.YtcbaohcgeoaccaaDoorL01
import Derived.Deep.RegionLaw
namespace Go.Proofs.YtcbaohcgeoaccaaDoor
open Go.RowKit

set_option maxRecDepth 100000 in
theorem c_HexOf (s : ByteArray) (w : World) (hs : s.size ≤ 1048576) :
    Calls Tryd.prog 58 #[.string s] w fun e w' => e = .returned (.tuple #[strOf (hexOfF s.data.toList).1, .bool (hexOfF s.data.toList).2]) ∧ Below w.heap.size w w' := by
  by_cases h : s.size ≤ 40000
  · have HF : Hid (hexOfF s.data.toList = (hexOf s.data.toList, true)) := by unfold Hid; simp [hexOfF, h]
    go_enter Tryd.func58, Tryd.ntmps58
    go_wp2
    go_loopw [4, 5] (fun v i wr => ∃ k : Nat, k ≤ s.size ∧ i = .int .i64 k ∧ wr.ownsRow w.heap.size 5 1 v (2 * k) ((hexOf (s.data.toList.take k)).map u8v) ∧ Below w.heap.size w wr) (fun _ i _ => s.size - (intOf i).toNat)
    case atStart => exact ⟨0, Nat.zero_le _, rfl, World.ownsRow_nil _ _ _ _, Below.refl _ _⟩
    case round =>
      obtain ⟨k, hk, rfl, hown, hbe⟩ := hrel
      have hsz := hbe.size
      by_cases hlt : k < s.size
      · have HS : Hid (hexOf (s.data.toList.take (k + 1)) = hexOf (s.data.toList.take k) ++ [hexD (s[k].toNat / 16)] ++ [hexD (s[k].toNat % 16)]) := by rw [take_snoc s k hlt]; exact hexOf_snoc _ _
        have hb : (s[k].toNat : Int) ≤ 255 := by have := s[k].toNat_lt; omega
        have hb1 : s[k].toNat / 16 < 16 := by omega
        have hb2 : s[k].toNat % 16 < 16 := by omega
        go_wp2
        have hi1 : 0 ≤ (s[k].toNat : Int) / 16 := by omega
        have hi2 : (s[k].toNat : Int) / 16 < 16 := by omega
        have hi3 : 0 ≤ (s[k].toNat : Int) % 16 := by omega
        have hbit := and15 s[k]
        have hi4 : (s[k].toNat : Int) % 16 < 16 := by omega
        go_region_law (refine step_app rfl (.tmp 15) (.tmp 26) _ rfl slU8 rfl ((hown.alloc _).drew) rfl (heap_new_drew _ _) rfl (by simp [Value.oneCell']) (by omega) (by show _ ≤ (wr.alloc _).heap.size; rw [World.size_alloc]; omega) ?_; intro v1 w1 hown1 hg1 _)
        all_goals
          go_wp2
          go_roundw
          case rel =>
            refine ⟨k + 1, by omega, by go_num, ?_, hbe.trans ((((Below.refl _ _).alloc hsz _).drew).trans (below_of_grown ((hown.alloc _).drew) hg1 (Nat.le_refl _) (by show _ ≤ (wr.alloc _).heap.size; rw [World.size_alloc]; omega)))⟩
            rw [HS.out]
            simpa [u8v, hexT _ hb1, hexT _ hb2, hexZ, hexZ', Nat.mul_add] using hown1
          case measure => simp [intOf]; omega
      · have hc : (convert 80 9 u4).run Tryd.prog wr = .ok (strOf (hexOf s.data.toList)) wr := by
          rw [take_size s k (by omega)] at hown
          exact conv_own Tryd.underlying80 Tryd.underlying5 Tryd.underlying9 _ hown
        go_wp2
        go_ret2
        exact ⟨by rw [HF.out]; rfl, hbe⟩
  · have HF : Hid (hexOfF s.data.toList = ([], false)) := by unfold Hid; simp [hexOfF, h]
    go_enter Tryd.func58, Tryd.ntmps58
    go_wp2
    go_ret2
    exact ⟨by rw [HF.out]; rfl, Below.refl _ _⟩
end Go.Proofs.YtcbaohcgeoaccaaDoor
