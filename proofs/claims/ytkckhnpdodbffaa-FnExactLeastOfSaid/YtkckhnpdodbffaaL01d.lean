/- Contracts: the greatest common divisor. -/
import Derived.Test.YtkckhnpdodbffaaL02
import Derived.Deep.QuietTactic
import Derived.BigQuiet
namespace Go.Proofs.Ytkckhnpdodbffaa
open Go.RowKit

def gcdL (zs : List Int) : Nat := zs.foldl (fun g z => Nat.gcd g z.natAbs) 0
def Small (z : Int) : Prop := -1000000000000000 ≤ z ∧ z ≤ 1000000000000000
theorem gcd_le {a b M : Nat} (ha : a ≤ M) (hb : b ≤ M) : Nat.gcd a b ≤ M := by
  rcases Nat.eq_zero_or_pos b with rfl | h
  · simpa using ha
  · exact Nat.le_trans (Nat.le_of_dvd h (Nat.gcd_dvd_right a b)) hb
theorem gcdL_le : ∀ (zs : List Int) (g : Nat), g ≤ 1000000000000000 → (∀ z ∈ zs, Small z) → zs.foldl (fun g z => Nat.gcd g z.natAbs) g ≤ 1000000000000000 := by
  intro zs
  induction zs with
  | nil => intro g h _; exact h
  | cons z zs ih =>
    intro g h hz
    have := hz z (by simp)
    exact ih _ (gcd_le h (by unfold Small at this; omega)) fun x hx => hz x (by simp [hx])
theorem gcdL_take {zs : List Int} {k : Nat} {z : Int} (h : zs[k]? = some z) : gcdL (zs.take (k + 1)) = Nat.gcd (gcdL (zs.take k)) z.natAbs := by
  unfold gcdL; rw [List.take_add_one, h]; simp
theorem small_of {zs : List Int} (h : allIn zs (-1000000000000000) 1000000000000000 = true) : ∀ z ∈ zs, Small z := by
  intro z hz
  exact inB_iff.1 (List.all_eq_true.1 h z hz)
theorem imodc (p q : Nat) : ((p : Int) % (q : Int)) = ((p % q : Nat) : Int) := by omega
theorem gcd_step (p q : Nat) : Nat.gcd q (p % q) = Nat.gcd p q := by rw [Nat.gcd_comm p q, Nat.gcd_rec q p, Nat.gcd_comm]

theorem c_absolute (n : Int) (w : World) (h1 : -9223372036854775807 ≤ n) (h2 : n ≤ 9223372036854775807) :
    Calls Try.prog 56 #[.int .i64 n] w fun e w' => e = .returned (.int .i64 (n.natAbs : Int)) ∧ w = w' := by
  by_cases h : n < 0
  · go_enter Try.func56, Try.ntmps56
    go_wp2
    go_ret
    exact ⟨ret_int (by omega), rfl⟩
  · go_enter Try.func56, Try.ntmps56
    go_wp2
    go_ret
    exact ⟨ret_int (by omega), rfl⟩
theorem c_l00Max (a b : Int) (w : World) :
    Calls Try.prog 57 #[.int .i64 a, .int .i64 b] w fun e w' => e = .returned (.int .i64 (max a b)) ∧ w = w' := by
  by_cases h : b < a
  · go_enter Try.func57, Try.ntmps57
    go_wp2
    go_ret
    exact ⟨ret_int (by omega), rfl⟩
  · go_enter Try.func57, Try.ntmps57
    go_wp2
    go_ret
    exact ⟨ret_int (by omega), rfl⟩
theorem c_gcd {S : Nat → Prop} (a : Option Addr) (cap : Nat) (zs : List Int) (w : World) (h : SlRd cInt S w a cap zs) (hz : ∀ z ∈ zs, Small z) :
    Calls Try.prog 52 #[.slice a zs.length cap] w fun e w' => e = .returned (.int .i64 (gcdL zs)) ∧ Below w.heap.size w w' := by
  have hl := h.len_le
  have H := hid h
  have HZS := hid hz
  clear h hz
  go_enter Try.func52, Try.ntmps52
  go_wp2
  go_loopw [3, 10] (fun g i wr => ∃ k : Nat, k ≤ zs.length ∧ i = .int .i64 k ∧ g = .int .i64 (gcdL (zs.take k)) ∧ Below w.heap.size w wr) (fun _ i _ => zs.length - (intOf i).toNat)
  case atStart => exact ⟨0, Nat.zero_le _, rfl, rfl, Below.refl _ _⟩
  case round =>
    obtain ⟨k, hk, rfl, rfl, hbe⟩ := hrel
    obtain ⟨wo, rfl⟩ : ∃ wo : World, wo = wr := ⟨_, rfl⟩
    by_cases hlt : k < zs.length
    · obtain ⟨b, off, rfl⟩ := H.out.some_of hlt
      obtain ⟨z, hzk, hz2, hc, hb⟩ := (H.out.below (Nat.le_refl _) hbe).int_at k hlt
      have hs := HZS.out z (List.mem_of_getElem? hzk)
      obtain ⟨hs1, hs2⟩ := hs
      have hg : gcdL (zs.take k) ≤ 1000000000000000 := gcdL_le _ _ (by omega) fun x hx => HZS.out x (List.mem_of_mem_take hx)
      obtain ⟨g, hgg⟩ : ∃ g, gcdL (zs.take k) = g := ⟨_, rfl⟩
      obtain ⟨m, hmm⟩ : ∃ m, z.natAbs = m := ⟨_, rfl⟩
      rw [hgg] at hg ⊢
      have hm : m ≤ 1000000000000000 := by omega
      have HS : Hid (gcdL (zs.take (k + 1)) = Nat.gcd g m) := by unfold Hid; rw [gcdL_take hzk, hgg, hmm]
      have HM := hid hmm
      clear hgg hmm hzk
      go_wp2_with (go_at_call 56; refine (c_absolute _ _ (by omega) (by omega)).mono ?_; rintro e w' ⟨rfl, rfl⟩; rw [HM.out])
      go_loopw [6, 7] (fun x y wr => ∃ p q : Nat, x = .int .i64 p ∧ y = .int .i64 q ∧ p ≤ 1000000000000000 ∧ q ≤ 1000000000000000 ∧ Hid (Nat.gcd p q = Nat.gcd g m) ∧ Below w.heap.size w wr) (fun _ y _ => (intOf y).toNat)
      case atStart => exact ⟨g, m, rfl, rfl, hg, hm, rfl, hbe⟩
      case round =>
        obtain ⟨p, q, rfl, rfl, hp, hq, HG, hbi⟩ := hrel
        by_cases hq0 : q = 0
        · have h0 : ((q : Int) != 0) = false := by simp [hq0]
          have HP : Hid (p = Nat.gcd g m) := by unfold Hid; rw [← HG.out, hq0]; simp
          clear hq0
          go_wp2
          go_roundw
          case rel => exact ⟨k + 1, by omega, by go_num, by rw [HS.out, ← HP.out], hbi⟩
          case measure => simp [intOf]; omega
        · have h0 : ((q : Int) != 0) = true := by simp [hq0]
          have hq1 : 1 ≤ q := by omega
          clear hq0
          go_wp2
          go_quiet (fail)
          go_wp2
          go_roundw
          case rel => exact ⟨q, p % q, rfl, by rw [imodc], hq, by have := Nat.mod_lt p (show q > 0 by omega); omega, by unfold Hid; rw [gcd_step]; exact HG.out, hbi.trans (below_drewN _ _ _)⟩
          case measure => simp only [intOf]; have := Nat.mod_lt p (show q > 0 by omega); have := imodc p q; omega
    · go_wp2
      go_ret
      exact ⟨ret_int (by rw [List.take_of_length_le (by omega)]), hbe⟩
def codedL (zs : List Int) : Bool := decide (zs.length ≤ 100) && allIn zs (-1000000000000000) 1000000000000000
def gcdF (zs : List Int) : Int × Bool := if codedL zs then ((gcdL zs : Int), true) else (0, false)
end Go.Proofs.Ytkckhnpdodbffaa
