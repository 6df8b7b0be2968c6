/- Plain mathematics: a number's code read back. No program in sight. -/
import Derived.Test.YtlipoonopajgdaaL01p
namespace Go.Proofs.Ytlipoonopajgdaa

def contB (c : UInt8) : Bool := decide (128 ≤ c.toNat)
def valM : List UInt8 → Nat
  | [] => 0
  | c :: l => c.toNat % 128 + 128 * valM l
def unzig (m : Nat) : Int := if m % 2 = 1 then -((m / 2 : Nat) : Int) - 1 else ((m / 2 : Nat) : Int)
theorem zig_unzig (m : Nat) : zig (unzig m) = m := by unfold zig unzig; split <;> split <;> omega
theorem unzig_zig (n : Int) : unzig (zig n) = n := by unfold zig unzig; split <;> split <;> omega
theorem valM_snoc (p : List UInt8) (c : UInt8) : valM (p ++ [c]) = valM p + 128 ^ p.length * (c.toNat % 128) := by
  induction p with
  | nil => simp [valM]
  | cons d p ih =>
    simp only [List.cons_append, valM, ih, List.length_cons, Nat.pow_succ, Nat.mul_add]
    rw [Nat.mul_comm (128 ^ p.length) 128, Nat.mul_assoc]; omega
theorem valM_lt (p : List UInt8) : valM p < 128 ^ p.length := by
  induction p with
  | nil => simp [valM]
  | cons d p ih => simp only [valM, List.length_cons, Nat.pow_succ]; omega
/-- Put gives a code back just where no byte is idle. -/
theorem put_val (p : List UInt8) (c : UInt8) (hp : p.all contB = true) (hc : c.toNat < 128) : putM (valM (p ++ [c])) = p ++ [c] ↔ (c ≠ 0 ∨ p = []) := by
  induction p with
  | nil =>
    simp only [List.nil_append, valM, Nat.mul_zero, Nat.add_zero, or_true, iff_true]
    rw [Nat.mod_eq_of_lt hc, putM_small hc]; simp
  | cons d p ih =>
    simp only [List.all_cons, Bool.and_eq_true] at hp
    have hd : 128 ≤ d.toNat := by simpa [contB] using hp.1
    have hd2 := d.toNat_lt
    simp only [List.cons_append, valM]
    by_cases h0 : valM (p ++ [c]) = 0
    · have hcz : c = 0 := by
        have := valM_snoc p c
        rw [h0, Nat.mod_eq_of_lt hc] at this
        have h1 : 0 < 128 ^ p.length := Nat.pow_pos (by decide)
        have : c.toNat = 0 := by
          rcases Nat.eq_zero_or_pos c.toNat with h | h
          · exact h
          · have := Nat.mul_pos h1 h; omega
        exact UInt8.toNat_inj.1 (by simpa using this)
      rw [h0, putM_small (by omega)]
      constructor
      · intro e
        have := congrArg List.length e
        simp at this
      · rintro (h | h)
        · exact absurd hcz h
        · cases h
    · have hm : (d.toNat % 128 + 128 * valM (p ++ [c])) % 128 + 128 = d.toNat := by omega
      have hq : (d.toNat % 128 + 128 * valM (p ++ [c])) / 128 = valM (p ++ [c]) := by omega
      rw [putM_big (by omega), hm, hq]
      have hdd : UInt8.ofNat d.toNat = d := by simp
      rw [hdd]
      constructor
      · intro e
        have e' := (List.cons.inj e).2
        rcases (ih hp.2).1 e' with h | h
        · exact .inl h
        · left; rintro rfl; subst h; simp [valM] at h0
      · rintro (h | h)
        · rw [(ih hp.2).2 (.inl h)]
        · cases h

/-- The number whose code begins here, and how many bytes it takes. -/
def getF (l : List UInt8) : Option (Int × Nat) :=
  let p := l.takeWhile contB
  if p.length < 8 then
    match l[p.length]? with
    | some c => if inB (unzig (valM (p ++ [c]))) (-1000000000000000) 1000000000000000 && (decide (c ≠ 0) || decide (p.length = 0)) then some (unzig (valM (p ++ [c])), p.length + 1) else none
    | none => none
  else none
def getRes (at_ : Int) : Option (Int × Nat) → Int × Int × Bool
  | some (n, c) => (n, at_ + c, true)
  | none => (0, 0, false)
def getNumF (l : List UInt8) (at_ : Int) : Int × Int × Bool := if inB at_ 0 l.length then getRes at_ (getF (l.drop at_.toNat)) else (0, 0, false)
theorem takeWhile_len {l : List UInt8} {j : Nat} {c : UInt8} (h : (l.take j).all contB = true) (hc : l[j]? = some c) (h1 : contB c = false) : l.takeWhile contB = l.take j := by
  induction l generalizing j with
  | nil => simp at hc
  | cons d l ih =>
    cases j with
    | zero => simp at hc; subst hc; simp [h1]
    | succ j =>
      simp only [List.take_succ_cons, List.all_cons, Bool.and_eq_true] at h
      simp only [List.getElem?_cons_succ] at hc
      rw [List.takeWhile_cons, if_pos h.1, ih h.2 hc, List.take_succ_cons]
theorem takeWhile_ge {l : List UInt8} {j : Nat} (h : (l.take j).all contB = true) (hj : j ≤ l.length) : j ≤ (l.takeWhile contB).length := by
  induction l generalizing j with
  | nil => simpa using hj
  | cons d l ih =>
    cases j with
    | zero => omega
    | succ j =>
      simp only [List.take_succ_cons, List.all_cons, Bool.and_eq_true] at h
      rw [List.takeWhile_cons, if_pos h.1]
      have := ih h.2 (by simpa using hj)
      simp; omega
/-- A byte that ends the code at place j. -/
theorem getF_end {l : List UInt8} {j : Nat} {c : UInt8} (h : (l.take j).all contB = true) (hc : l[j]? = some c) (h1 : contB c = false) (hj : j < 8) :
    getF l = if inB (unzig (valM (l.take (j + 1)))) (-1000000000000000) 1000000000000000 && (decide (c ≠ 0) || decide (j = 0)) then some (unzig (valM (l.take (j + 1))), j + 1) else none := by
  have hlt := (List.getElem?_eq_some_iff.1 hc).1
  have htw := takeWhile_len h hc h1
  have hlen : (l.take j).length = j := by simp; omega
  have hsn : l.take (j + 1) = l.take j ++ [c] := by rw [List.take_add_one, hc]; rfl
  unfold getF
  simp only [htw, hlen, if_pos hj, hc, hsn]
theorem getF_long {l : List UInt8} (h : (l.take 8).all contB = true) (h8 : 8 ≤ l.length) : getF l = none := by
  have := takeWhile_ge h h8
  unfold getF; simp only; rw [if_neg (by omega)]
theorem getF_short {l : List UInt8} (h : l.all contB = true) : getF l = none := by
  have hw : ∀ l : List UInt8, l.all contB = true → l.takeWhile contB = l := by
    intro l
    induction l with
    | nil => intro _; rfl
    | cons d l ih =>
      intro h
      simp only [List.all_cons, Bool.and_eq_true] at h
      rw [List.takeWhile_cons, if_pos h.1, ih h.2]
  have := hw l h
  unfold getF; simp [this]
/-- What the program asks: that Put of the number gives these bytes. -/
theorem putN_iff {l : List UInt8} {j : Nat} {c : UInt8} (h : (l.take j).all contB = true) (hc : l[j]? = some c) (h1 : contB c = false) :
    (putN (unzig (valM (l.take (j + 1)))) = l.take (j + 1)) ↔ (c ≠ 0 ∨ j = 0) := by
  have hlt := (List.getElem?_eq_some_iff.1 hc).1
  have hsn : l.take (j + 1) = l.take j ++ [c] := by rw [List.take_add_one, hc]; rfl
  rw [putN, zig_unzig, hsn, put_val _ _ h (by simpa [contB] using h1)]
  constructor
  · rintro (h | h)
    · exact .inl h
    · right
      have := congrArg List.length h
      rw [List.length_take] at this
      simp only [List.length_nil] at this
      omega
  · rintro (h | h)
    · exact .inl h
    · right; simp [h]
theorem valM_take {l : List UInt8} {j : Nat} {c : UInt8} (hc : l[j]? = some c) : valM (l.take (j + 1)) = valM (l.take j) + 128 ^ j * (c.toNat % 128) := by
  have hlt := (List.getElem?_eq_some_iff.1 hc).1
  have hsn : l.take (j + 1) = l.take j ++ [c] := by rw [List.take_add_one, hc]; rfl
  rw [hsn, valM_snoc]; congr 3; simp; omega
theorem pow128_le {j : Nat} (h : j < 8) : 128 ^ j ≤ 562949953421312 := by
  have : 128 ^ j ≤ 128 ^ 7 := Nat.pow_le_pow_right (by decide) (by omega)
  simpa using this
theorem valM_le (l : List UInt8) (j : Nat) (h : j ≤ 8) : valM (l.take j) < 72057594037927936 := by
  have h1 := valM_lt (l.take j)
  have h2 : (l.take j).length ≤ 8 := by simp; omega
  have : 128 ^ (l.take j).length ≤ 128 ^ 8 := Nat.pow_le_pow_right (by decide) h2
  have h3 : (128 : Nat) ^ 8 = 72057594037927936 := by decide
  omega
end Go.Proofs.Ytlipoonopajgdaa
