/- Contracts: the greatest common divisor. -/
import Derived.Test.YtcbaohcgeoaccaaDoorL02
import Derived.Deep.QuietTactic
import Derived.BigQuiet
namespace Go.Proofs.YtcbaohcgeoaccaaDoor
open Go.RowKit

def gcdL (zs : List Int) : Nat := zs.foldl (fun g z => Nat.gcd g z.natAbs) 0
def Small (z : Int) : Prop := -1000000000000000 ≤ z ∧ z ≤ 1000000000000000
theorem gcd_le {a b M : Nat} (ha : a ≤ M) (hb : b ≤ M) : Nat.gcd a b ≤ M := by
  rcases Nat.eq_zero_or_pos b with rfl | h
  · simpa using ha
  · exact Nat.le_trans (Nat.le_of_dvd h (Nat.gcd_dvd_right a b)) hb
theorem gcdL_le : ∀ (zs : List Int) (g : Nat), g ≤ 1000000000000000 → (∀ z ∈ zs, Small z) → zs.foldl (fun g z => Nat.gcd g z.natAbs) g ≤ 1000000000000000 := by
  intro zs
  induction zs with
  | nil => intro g h _; exact h
  | cons z zs ih =>
    intro g h hz
    have := hz z (by simp)
    exact ih _ (gcd_le h (by unfold Small at this; omega)) fun x hx => hz x (by simp [hx])
theorem gcdL_take {zs : List Int} {k : Nat} {z : Int} (h : zs[k]? = some z) : gcdL (zs.take (k + 1)) = Nat.gcd (gcdL (zs.take k)) z.natAbs := by
  unfold gcdL; rw [List.take_add_one, h]; simp
theorem small_of {zs : List Int} (h : allIn zs (-1000000000000000) 1000000000000000 = true) : ∀ z ∈ zs, Small z := by
  intro z hz
  exact inB_iff.1 (List.all_eq_true.1 h z hz)
theorem imodc (p q : Nat) : ((p : Int) % (q : Int)) = ((p % q : Nat) : Int) := by omega
theorem gcd_step (p q : Nat) : Nat.gcd q (p % q) = Nat.gcd p q := by rw [Nat.gcd_comm p q, Nat.gcd_rec q p, Nat.gcd_comm]

theorem c_absolute (n : Int) (w : World) (h1 : -9223372036854775807 ≤ n) (h2 : n ≤ 9223372036854775807) :
    Calls Tryd.prog 119 #[.int .i64 n] w fun e w' => e = .returned (.int .i64 (n.natAbs : Int)) ∧ w = w' := by
  by_cases h : n < 0
  · go_enter Tryd.func119, Tryd.ntmps119
    go_wp2
    go_ret
    exact ⟨ret_int (by omega), rfl⟩
  · go_enter Tryd.func119, Tryd.ntmps119
    go_wp2
    go_ret
    exact ⟨ret_int (by omega), rfl⟩
def codedL (zs : List Int) : Bool := decide (zs.length ≤ 100) && allIn zs (-1000000000000000) 1000000000000000
def gcdF (zs : List Int) : Int × Bool := if codedL zs then ((gcdL zs : Int), true) else (0, false)
end Go.Proofs.YtcbaohcgeoaccaaDoor
