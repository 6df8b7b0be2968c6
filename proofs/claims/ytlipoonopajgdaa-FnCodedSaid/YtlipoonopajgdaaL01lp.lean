/- Plain mathematics of chapter 1: lists of numbers read back from their codes. No program in sight. -/
import Derived.Test.YtlipoonopajgdaaL01ep
namespace Go.Proofs.Ytlipoonopajgdaa

theorem getF_ok {l : List UInt8} {v : Int} {c : Nat} (h : getF l = some (v, c)) : c ≤ l.length ∧ 1 ≤ c ∧ -1000000000000000 ≤ v ∧ v ≤ 1000000000000000 := by
  unfold getF at h
  simp only at h
  split at h
  · split at h
    · rename_i d hd
      have hlt := (List.getElem?_eq_some_iff.1 hd).1
      split at h
      · rename_i hb
        cases h
        rw [Bool.and_eq_true] at hb
        have := inB_iff.1 hb.1
        exact ⟨by omega, by omega, this.1, this.2⟩
      · cases h
    · cases h
  · cases h
/-- n numbers from place q on, and the place behind them. -/
def getNs : Nat → List UInt8 → Nat → Option (List Int × Nat)
  | 0, _, q => some ([], q)
  | n + 1, l, q => match getF (l.drop q) with
    | none => none
    | some (v, c) => (getNs n l (q + c)).map fun r => (v :: r.1, r.2)
theorem getNs_add : ∀ (n m : Nat) (l : List UInt8) (q : Nat), getNs (n + m) l q = match getNs n l q with
    | none => none
    | some (vs, p) => (getNs m l p).map fun r => (vs ++ r.1, r.2)
  | 0, m, l, q => by
    simp only [getNs, Nat.zero_add, List.nil_append]
    cases getNs m l q <;> rfl
  | n + 1, m, l, q => by
    rw [show n + 1 + m = (n + m) + 1 by omega]
    simp only [getNs]
    cases h : getF (l.drop q) with
    | none => rfl
    | some r =>
      obtain ⟨v, c⟩ := r
      simp only
      rw [getNs_add n m l (q + c)]
      cases getNs n l (q + c) with
      | none => rfl
      | some r =>
        obtain ⟨vs, p⟩ := r
        simp only [Option.map_some]
        cases getNs m l p <;> rfl
theorem getNs_next {k : Nat} {l : List UInt8} {q p : Nat} {vs : List Int} {v : Int} {c : Nat} (h : getNs k l q = some (vs, p)) (hf : getF (l.drop p) = some (v, c)) : getNs (k + 1) l q = some (vs ++ [v], p + c) := by
  rw [getNs_add k 1, h]; simp [getNs, hf]
theorem getNs_stop {k n : Nat} {l : List UInt8} {q p : Nat} {vs : List Int} (h : getNs k l q = some (vs, p)) (hf : getF (l.drop p) = none) (hkn : k < n) : getNs n l q = none := by
  obtain ⟨d, rfl⟩ : ∃ d, n = k + (d + 1) := ⟨n - k - 1, by omega⟩
  rw [getNs_add k (d + 1), h]; simp [getNs, hf]
theorem getNs_len : ∀ {n : Nat} {l : List UInt8} {q p : Nat} {vs : List Int}, getNs n l q = some (vs, p) → vs.length = n ∧ q ≤ p ∧ (q ≤ l.length → p ≤ l.length)
  | 0, l, q, p, vs, h => by simp only [getNs] at h; cases h; exact ⟨rfl, Nat.le_refl _, id⟩
  | n + 1, l, q, p, vs, h => by
    simp only [getNs] at h
    cases hf : getF (l.drop q) with
    | none => rw [hf] at h; cases h
    | some r =>
      obtain ⟨v, c⟩ := r
      rw [hf] at h
      simp only at h
      cases hr : getNs n l (q + c) with
      | none => rw [hr] at h; cases h
      | some r =>
        obtain ⟨ws, p'⟩ := r
        rw [hr] at h
        cases h
        have ih := getNs_len hr
        have hc := getF_ok hf
        rw [List.length_drop] at hc
        exact ⟨by simp [ih.1], by omega, fun hq => ih.2.2 (by omega)⟩
def listF (l : List UInt8) (q : Nat) : Option (List Int × Nat) :=
  match getF (l.drop q) with
  | none => none
  | some (n, c) => if inB n 0 100 then getNs n.toNat l (q + c) else none
def listRes : Option (List Int × Nat) → List Int × Int × Bool
  | some (vs, p) => (vs, p, true)
  | none => ([], 0, false)
def getListF (l : List UInt8) (at_ : Int) : List Int × Int × Bool := if inB at_ 0 l.length then listRes (listF l at_.toNat) else ([], 0, false)
theorem getListF_le (l : List UInt8) (at_ : Int) : (getListF l at_).1.length ≤ 100 := by
  unfold getListF
  split
  · cases h : listF l at_.toNat with
    | none => simp [listRes]
    | some r =>
      obtain ⟨vs, p⟩ := r
      unfold listF at h
      split at h
      · cases h
      · split at h
        · rename_i hb
          have h1 := (getNs_len h).1
          have h2 := inB_iff.1 hb
          simp only [listRes]
          omega
        · cases h
  · simp
end Go.Proofs.Ytlipoonopajgdaa
