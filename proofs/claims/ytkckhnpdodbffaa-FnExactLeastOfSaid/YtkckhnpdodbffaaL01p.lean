/- Plain mathematics of chapter 1: checks, codes of numbers, digits. No program in sight. -/
import Derived.WalkKit
import Derived.Test.YtkckhnpdodbffaaBase
namespace Go.Proofs.Ytkckhnpdodbffaa

def ckStep (ab : Int × Int) (c : UInt8) : Int × Int := ((ab.1 + c.toNat) % 65521, (ab.2 + (ab.1 + c.toNat) % 65521) % 65521)
def ckPair (l : List UInt8) : Int × Int := l.foldl ckStep (1, 0)
theorem ck_bd (l : List UInt8) : 0 ≤ (ckPair l).1 ∧ (ckPair l).1 ≤ 65521 ∧ 0 ≤ (ckPair l).2 ∧ (ckPair l).2 ≤ 65521 := by
  suffices h : ∀ (l : List UInt8) (p : Int × Int), (0 ≤ p.1 ∧ p.1 ≤ 65521 ∧ 0 ≤ p.2 ∧ p.2 ≤ 65521) →
      (0 ≤ (l.foldl ckStep p).1 ∧ (l.foldl ckStep p).1 ≤ 65521 ∧ 0 ≤ (l.foldl ckStep p).2 ∧ (l.foldl ckStep p).2 ≤ 65521) from h l (1, 0) (by decide)
  intro l
  induction l with
  | nil => intro p h; exact h
  | cons c l ih => intro p h; exact ih _ (by simp only [ckStep]; omega)
theorem ck_snoc (l : List UInt8) (c : UInt8) : ckPair (l ++ [c]) = ckStep (ckPair l) c := by simp [ckPair]
def ckOf (l : List UInt8) : Int := (ckPair l).1 + 65521 * (ckPair l).2

/-- All bytes are small letters. -/
def lowB (c : UInt8) : Bool := decide (97 ≤ (c.toNat : Int)) && decide ((c.toNat : Int) ≤ 122)
def isName (l : List UInt8) : Bool := (decide (1 ≤ l.length) && decide (l.length ≤ 10)) && l.all lowB

/-- The code of a number without sign. -/
def putM (m : Nat) : List UInt8 := if m < 128 then [UInt8.ofNat m] else UInt8.ofNat (m % 128 + 128) :: putM (m / 128)
decreasing_by omega
theorem putM_small {m : Nat} (h : m < 128) : putM m = [UInt8.ofNat m] := by rw [putM, if_pos h]
theorem putM_big {m : Nat} (h : 128 ≤ m) : putM m = UInt8.ofNat (m % 128 + 128) :: putM (m / 128) := by rw [putM, if_neg (by omega)]
def zig (n : Int) : Nat := if n < 0 then (-2 * n - 1).toNat else (2 * n).toNat
def putN (n : Int) : List UInt8 := putM (zig n)

theorem putM_len : ∀ (k m : Nat), m < 128 ^ (k + 1) → (putM m).length ≤ k + 1 := by
  intro k
  induction k with
  | zero => intro m h; rw [putM_small (by simpa using h)]; simp
  | succ k ih =>
    intro m h
    by_cases hs : m < 128
    · rw [putM_small hs]; simp
    · rw [putM_big (by omega)]
      have := ih (m / 128) (by rw [Nat.pow_succ] at h; exact Nat.div_lt_of_lt_mul (by rw [Nat.mul_comm]; exact h))
      simp only [List.length_cons]; omega
theorem zig_le (n : Int) (h1 : -1000000000000000 ≤ n) (h2 : n ≤ 1000000000000000) : zig n ≤ 2000000000000000 := by unfold zig; split <;> omega
theorem putN_len (n : Int) (h1 : -1000000000000000 ≤ n) (h2 : n ≤ 1000000000000000) : (putN n).length ≤ 8 := putM_len 7 _ (by have := zig_le n h1 h2; exact Nat.lt_of_le_of_lt this (by decide))
theorem zig_neg {n : Int} (h : n < 0) : ((zig n : Nat) : Int) = -2 * n - 1 := by unfold zig; rw [if_pos h]; omega
theorem zig_pos {n : Int} (h : 0 ≤ n) : ((zig n : Nat) : Int) = 2 * n := by unfold zig; rw [if_neg (by omega)]; omega
theorem u8v_cont (m : Nat) : u8v (UInt8.ofNat (m % 128 + 128)) = .int .u8 ((m : Int) % 128 + 128) := by
  simp [u8v]; omega
theorem u8v_last (m : Nat) (h : m < 128) : u8v (UInt8.ofNat m) = .int .u8 (m : Int) := by
  simp [u8v]; omega
/-- Digits. -/
def hexD (n : Nat) : UInt8 := if n < 10 then UInt8.ofNat (48 + n) else UInt8.ofNat (87 + n)
theorem hexT (n : Nat) (h : n < 16) : (ByteArray.mk #[48, 49, 50, 51, 52, 53, 54, 55, 56, 57, 97, 98, 99, 100, 101, 102])[n] = hexD n := by
  revert h
  have : ∀ n : Fin 16, (ByteArray.mk #[48, 49, 50, 51, 52, 53, 54, 55, 56, 57, 97, 98, 99, 100, 101, 102])[n.1] = hexD n.1 := by decide +kernel
  intro h; exact this ⟨n, h⟩
theorem hexZ (n : Nat) : ((n : Int) / 16).toNat = n / 16 := by omega
theorem hexZ' (n : Nat) : ((n : Int) % 16).toNat = n % 16 := by omega
theorem and15 (c : UInt8) : bits BinOp.and IntKind.u8 (c.toNat : Int) 15 = (c.toNat : Int) % 16 := by
  have : ∀ n : Fin 256, bits BinOp.and IntKind.u8 (n.1 : Int) 15 = (n.1 : Int) % 16 := by decide +kernel
  exact this ⟨c.toNat, c.toNat_lt⟩
def hexOf (l : List UInt8) : List UInt8 := l.flatMap fun c => [hexD (c.toNat / 16), hexD (c.toNat % 16)]
theorem hexOf_snoc (l : List UInt8) (c : UInt8) : hexOf (l ++ [c]) = hexOf l ++ [hexD (c.toNat / 16)] ++ [hexD (c.toNat % 16)] := by simp [hexOf]
theorem hexOf_length (l : List UInt8) : (hexOf l).length = 2 * l.length := by
  induction l with
  | nil => rfl
  | cons c l ih => simp only [hexOf, List.flatMap_cons, List.length_append] at ih ⊢; simp at ih ⊢; omega

def hexOfF (l : List UInt8) : List UInt8 × Bool := if l.length ≤ 40000 then (hexOf l, true) else ([], false)
def putF (n : Int) : List UInt8 × Bool := if inB n (-1000000000000000) 1000000000000000 then (putN n, true) else ([], false)
def putTextF (l : List UInt8) : List UInt8 × Bool := if l.length ≤ 40000 then (putN l.length ++ l, true) else ([], false)
def divFl (a b : Int) : Int := if a.tmod b < 0 then a.tdiv b - 1 else a.tdiv b
def divFloorF (a b : Int) : Int × Bool := if inB a (-1000000000000000) 1000000000000000 && inB b 1 1000000000000000 then (divFl a b, true) else (0, false)
theorem tdiv_bd (a b : Int) (ha : -1000000000000000 ≤ a) (ha' : a ≤ 1000000000000000) (_hb : 1 ≤ b) : -1000000000000000 ≤ a.tdiv b ∧ a.tdiv b ≤ 1000000000000000 := by
  have h := Int.natAbs_tdiv_le_natAbs a b
  omega
end Go.Proofs.Ytkckhnpdodbffaa
