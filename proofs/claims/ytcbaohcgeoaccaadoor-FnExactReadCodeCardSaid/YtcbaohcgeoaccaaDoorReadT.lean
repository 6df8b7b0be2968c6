/- Plain: numbers read from their decimal numerals. No program in sight. -/
import Derived.Test.YtcbaohcgeoaccaaDoorTxt
import Derived.Lib.ParseIntB
namespace Go.Proofs.YtcbaohcgeoaccaaDoor
open Go.RowKit

theorem parseM_append (M : Nat) : ∀ (a b : List UInt8) (acc u : Nat), Lib.parseUintM M acc a = .ok u → Lib.parseUintM M acc (a ++ b) = Lib.parseUintM M u b := by
  intro a
  induction a with
  | nil => intro b acc u h; simp [Lib.parseUintM] at h; subst h; rfl
  | cons c a ih =>
    intro b acc u h
    rw [List.cons_append]
    unfold Lib.parseUintM at h
    conv => lhs; unfold Lib.parseUintM
    by_cases h1 : 48 ≤ c.toNat ∧ c.toNat ≤ 57
    · rw [if_pos h1] at h ⊢
      by_cases h2 : 1844674407370955162 ≤ acc
      · rw [if_pos h2] at h; cases h
      · rw [if_neg h2] at h ⊢
        by_cases h3 : M < acc * 10 + (c.toNat - 48)
        · rw [if_pos h3] at h; cases h
        · rw [if_neg h3] at h ⊢
          exact ih b _ u h
    · rw [if_neg h1] at h; cases h
theorem dig_nat (d : Nat) (h : d < 10) : (UInt8.ofNat (48 + d)).toNat = 48 + d := by rw [UInt8.toNat_ofNat_of_lt' (by simp [UInt8.size]; omega)]
theorem parseM_dec (u : Nat) (h : u ≤ 18446744073709551615) : Lib.parseUintM 18446744073709551615 0 (Lib.decDigits u) = .ok u := by
  induction u using Nat.strongRecOn with
  | _ u ih =>
    by_cases h10 : u < 10
    · rw [Lib.decDigits_one h10]
      unfold Lib.parseUintM
      rw [dig_nat u h10, if_pos (by omega), if_neg (by omega), if_neg (by omega)]
      simp [Lib.parseUintM]
    · rw [Lib.decDigits, dif_neg h10, parseM_append _ _ _ _ _ (ih (u / 10) (by omega) (by omega))]
      unfold Lib.parseUintM
      rw [dig_nat (u % 10) (by omega), if_pos (by omega), if_neg (by omega), if_neg (by omega)]
      simp [Lib.parseUintM]; omega
theorem dec_ne (u : Nat) : ∃ d r, Lib.decDigits u = UInt8.ofNat (48 + d) :: r ∧ d < 10 := by
  induction u using Nat.strongRecOn with
  | _ u ih =>
    by_cases h10 : u < 10
    · exact ⟨u, [], Lib.decDigits_one h10, h10⟩
    · obtain ⟨d, r, e, hd⟩ := ih (u / 10) (by omega)
      exact ⟨d, r ++ [UInt8.ofNat (48 + u % 10)], by rw [Lib.decDigits, dif_neg h10, e]; rfl, hd⟩
theorem parse_itoa (n : Int) (h1 : -9223372036854775808 ≤ n) (h2 : n ≤ 9223372036854775807) : Lib.parseIntB 64 (Lib.itoa n) = .ok n := by
  by_cases hn : n < 0
  · obtain ⟨d, r, e, hd⟩ := dec_ne n.natAbs
    have hp := parseM_dec n.natAbs (by omega)
    unfold Lib.itoa
    rw [if_pos hn]
    unfold Lib.parseIntB
    simp only
    have h45 : (45 : UInt8).toNat = 45 := rfl
    rw [if_pos (.inr h45)]
    unfold Lib.parseUintB
    rw [if_neg (by rw [e]; simp), show 2 ^ 64 - 1 = 18446744073709551615 from rfl, hp]
    simp only
    rw [if_neg (by simp [h45]), if_neg (by rw [show 2 ^ (64 - 1) = 9223372036854775808 from rfl]; omega), if_pos h45]
    congr 1; omega
  · obtain ⟨d, r, e, hd⟩ := dec_ne n.toNat
    have hp := parseM_dec n.toNat (by omega)
    unfold Lib.itoa
    rw [if_neg hn]
    have hd1 := dig_nat d hd
    rw [e] at hp ⊢
    unfold Lib.parseIntB
    simp only
    rw [if_neg (by omega)]
    unfold Lib.parseUintB
    rw [if_neg (by simp), show 2 ^ 64 - 1 = 18446744073709551615 from rfl, hp]
    simp only
    rw [if_neg (by rw [show 2 ^ (64 - 1) = 9223372036854775808 from rfl]; omega), if_neg (by omega), if_neg (by omega)]
    congr 1; omega
/-- The digits of a text, read as a number; other bytes are passed over. -/
def isDig (c : UInt8) : Bool := decide (48 ≤ c.toNat) && decide (c.toNat ≤ 57)
def dstep (a : Nat) (c : UInt8) : Nat := if isDig c then 10 * a + (c.toNat - 48) else a
def dval (l : List UInt8) : Nat := l.foldl dstep 0
theorem dval_snoc (l : List UInt8) (c : UInt8) : dval (l ++ [c]) = dstep (dval l) c := by simp [dval]
theorem dstep_le (a : Nat) (c : UInt8) : dstep a c + 1 ≤ (a + 1) * 10 := by
  unfold dstep
  split
  · rename_i h
    simp only [isDig, Bool.and_eq_true, decide_eq_true_eq] at h
    omega
  · omega
theorem dfold_le (l : List UInt8) : ∀ a, l.foldl dstep a + 1 ≤ (a + 1) * 10 ^ l.length := by
  induction l with
  | nil => intro a; simp
  | cons c l ih =>
    intro a
    rw [List.foldl_cons, List.length_cons, Nat.pow_succ, Nat.mul_comm (10 ^ l.length) 10, ← Nat.mul_assoc]
    exact Nat.le_trans (ih _) (Nat.mul_le_mul_right _ (dstep_le a c))
theorem dval_le (l : List UInt8) : dval l < 10 ^ l.length := by have := dfold_le l 0; unfold dval; omega
theorem dstep_dig (a d : Nat) (h : d < 10) : dstep a (UInt8.ofNat (48 + d)) = 10 * a + d := by
  unfold dstep isDig
  rw [dig_nat d h]
  simp; omega
theorem dval_dec (u : Nat) : dval (Lib.decDigits u) = u := by
  induction u using Nat.strongRecOn with
  | _ u ih =>
    by_cases h10 : u < 10
    · rw [Lib.decDigits_one h10]
      show dstep 0 _ = u
      rw [dstep_dig 0 u h10]; omega
    · rw [Lib.decDigits, dif_neg h10, dval_snoc, ih (u / 10) (by omega)]
      rw [dstep_dig _ _ (by omega)]; omega
def valI (s : List UInt8) : Int := if s.head? = some 45 then -(dval s : Int) else dval s
theorem valI_itoa (n : Int) : valI (Lib.itoa n) = n := by
  unfold Lib.itoa
  by_cases hn : n < 0
  · rw [if_pos hn]
    unfold valI
    rw [if_pos (show (45 :: Lib.decDigits n.natAbs).head? = some 45 from rfl)]
    have : dval (45 :: Lib.decDigits n.natAbs) = dval (Lib.decDigits n.natAbs) := by simp [dval, dstep, isDig]
    rw [this, dval_dec]; omega
  · rw [if_neg hn]
    obtain ⟨d, r, e, hd⟩ := dec_ne n.toNat
    unfold valI
    rw [if_neg, dval_dec]
    · omega
    · rw [e]; simp only [List.head?_cons, Option.some.injEq]
      intro h
      have := congrArg UInt8.toNat h
      rw [dig_nat d hd] at this
      simp at this
      omega
theorem digs_short (k u : Nat) (h : u < 10 ^ k) : (digs u).length ≤ k := by
  induction k generalizing u with
  | zero => have : u = 0 := by simpa using h
            subst this; simp [digs_zero]
  | succ k ih =>
    by_cases h0 : 0 < u
    · rw [digs_pos h0, List.length_append, List.length_singleton]
      have := ih (u / 10) (by rw [Nat.pow_succ] at h; omega)
      omega
    · rw [show u = 0 by omega, digs_zero]; simp
theorem itoa_short (n : Int) (h : inB n (-1000000000) 1000000000 = true) : (Lib.itoa n).length ≤ 11 := by
  have hn := inB_iff.1 h
  rcases Int.lt_trichotomy n 0 with h0 | h0 | h0
  · rw [itoa_neg' h0, List.length_cons]
    have := digs_short 10 n.natAbs (by simp; omega)
    omega
  · subst h0; rw [itoa_zero]; simp
  · rw [itoa_pos h0]
    have := digs_short 10 n.natAbs (by simp; omega)
    omega
def readF (s : List UInt8) : Int × Bool := if s.length ≤ 11 ∧ inB (valI s) (-1000000000) 1000000000 = true ∧ Lib.itoa (valI s) = s then (valI s, true) else (0, false)
theorem readF_ok {s : List UInt8} {v : Int} (hp : Lib.parseIntB 64 s = .ok v) : readF s = if inB v (-1000000000) 1000000000 = true ∧ Lib.itoa v = s then (v, true) else (0, false) := by
  unfold readF
  by_cases hc : s.length ≤ 11 ∧ inB (valI s) (-1000000000) 1000000000 = true ∧ Lib.itoa (valI s) = s
  · have hb := inB_iff.1 hc.2.1
    have h1 := parse_itoa (valI s) (by omega) (by omega)
    rw [hc.2.2, hp] at h1
    have hv : v = valI s := by injection h1
    rw [if_pos hc, hv, if_pos hc.2]
  · rw [if_neg hc, if_neg]
    rintro ⟨h1, h2⟩
    refine hc ?_
    have h3 := valI_itoa v
    rw [h2] at h3
    rw [h3]
    exact ⟨by rw [← h2]; exact itoa_short v h1, h1, h2⟩
theorem readF_no {s : List UInt8} (hp : ∀ v, Lib.parseIntB 64 s ≠ .ok v) : readF s = (0, false) := by
  unfold readF
  rw [if_neg]
  rintro ⟨_, h2, h3⟩
  have hb := inB_iff.1 h2
  have h1 := parse_itoa (valI s) (by omega) (by omega)
  rw [h3] at h1
  exact hp _ h1
end Go.Proofs.YtcbaohcgeoaccaaDoor
