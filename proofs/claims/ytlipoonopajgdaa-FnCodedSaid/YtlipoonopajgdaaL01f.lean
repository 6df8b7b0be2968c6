/- Contracts: the reference reads codes back; lists and texts. -/
import Derived.Test.YtlipoonopajgdaaL01e
import Derived.Test.YtlipoonopajgdaaOwn
import Derived.Test.YtlipoonopajgdaaL01d
namespace Go.Proofs.Ytlipoonopajgdaa
open Go.RowKit

theorem prodS_le (c : UInt8) (U : Nat) (h : U ≤ 562949953421312) (hc : 128 ≤ c.toNat) : (U : Int) * ((c.toNat : Int) - 128) = ((c.toNat % 128 * U : Nat) : Int) := by
  have h2 := c.toNat_lt
  rw [show (c.toNat : Int) - 128 = ((c.toNat % 128 : Nat) : Int) by omega, Int.natCast_mul, Int.mul_comm]
theorem prodT_le (c : UInt8) (U : Nat) (hc : c.toNat < 128) : (U : Int) * (c.toNat : Int) = ((c.toNat % 128 * U : Nat) : Int) := by
  rw [show c.toNat % 128 = c.toNat by omega, Int.natCast_mul, Int.mul_comm]
theorem prodN_le (c : UInt8) (U : Nat) (h : U ≤ 562949953421312) : c.toNat % 128 * U ≤ 72057594037927936 := by
  have : c.toNat % 128 * U ≤ 128 * 562949953421312 := Nat.mul_le_mul (by omega) h
  omega
theorem neg_tdiv2 (V : Nat) : (-(V : Int)).tdiv 2 = -((V : Int) / 2) := by rw [Int.neg_tdiv, Int.tdiv_eq_ediv_of_nonneg (by omega)]

end Go.Proofs.Ytlipoonopajgdaa
