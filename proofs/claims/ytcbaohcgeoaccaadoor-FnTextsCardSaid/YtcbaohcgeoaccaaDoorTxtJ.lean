/- Plain: texts cut at a byte and put together again, digits read back, check numbers. -/
import Derived.Test.YtcbaohcgeoaccaaDoorD04
import Derived.Test.YtcbaohcgeoaccaaDoorL01b
import Derived.Test.YtcbaohcgeoaccaaDoorL01h
namespace Go.Proofs.YtcbaohcgeoaccaaDoor
open Go.RowKit

def jr (c : UInt8) : List (List UInt8) → List UInt8
  | [] => []
  | z :: r => c :: (z ++ jr c r)
theorem jr_cut (c : UInt8) : ∀ (n : Nat) (l : List UInt8), l.length ≤ n → jr c (cutL c l) = c :: l := by
  intro n
  induction n with
  | zero => intro l h; obtain rfl : l = [] := List.eq_nil_of_length_eq_zero (by omega); simp [cutL, jr]
  | succ n ih =>
    intro l h
    by_cases hm : c ∈ l
    · obtain ⟨a, b, rfl, ha⟩ := List.eq_append_cons_of_mem hm
      rw [cutL_hit c a b ha]
      simp only [jr]
      rw [ih b (by simp at h; omega)]
    · rw [cutL_none c l hm]; simp [jr]
theorem no_mark (c : UInt8) : ∀ (n : Nat) (l : List UInt8), l.length ≤ n → ∀ p ∈ cutL c l, c ∉ p := by
  intro n
  induction n with
  | zero => intro l h; obtain rfl : l = [] := List.eq_nil_of_length_eq_zero (by omega); simp [cutL]
  | succ n ih =>
    intro l h
    by_cases hm : c ∈ l
    · obtain ⟨a, b, rfl, ha⟩ := List.eq_append_cons_of_mem hm
      rw [cutL_hit c a b ha]
      intro p hp
      rcases List.mem_cons.1 hp with rfl | hp
      · exact ha
      · exact ih b (by simp at h; omega) p hp
    · rw [cutL_none c l hm]
      intro p hp
      rw [List.mem_singleton.1 hp]; exact hm
theorem cut_end (c : UInt8) : ∀ (n : Nat) (l : List UInt8), l.length ≤ n → cutL c (l ++ [c]) = cutL c l ++ [[]] := by
  intro n
  induction n with
  | zero =>
    intro l h; obtain rfl : l = [] := List.eq_nil_of_length_eq_zero (by omega)
    have := cutL_hit c [] [] (by simp)
    simp only [List.nil_append] at this ⊢
    rw [this, cutL_none c [] (by simp)]; rfl
  | succ n ih =>
    intro l h
    by_cases hm : c ∈ l
    · obtain ⟨a, b, rfl, ha⟩ := List.eq_append_cons_of_mem hm
      rw [List.append_assoc, List.cons_append, cutL_hit c a _ ha, cutL_hit c a b ha, ih b (by simp at h; omega), List.cons_append]
    · rw [cutL_none c l hm, cutL_hit c l [] hm, cutL_none c [] (by simp)]; rfl
theorem lines_end (l : List UInt8) (h : l.length ≤ 30000) : linesF (l ++ [10]) = (cutL 10 l, true) := by
  have h1 := cut_end 10 _ l (Nat.le_refl _)
  unfold linesF
  rw [if_pos ⟨by simp; omega, by rw [h1]; simp⟩, h1]
  simp
def nlS (zs : List (List UInt8)) : List UInt8 := (zs.map fun l => l ++ [10]).flatten
theorem nlS_take {zs : List (List UInt8)} {k : Nat} {z : List UInt8} (h : zs[k]? = some z) : nlS (zs.take (k + 1)) = nlS (zs.take k) ++ (z ++ [10]) := by
  have hk := (List.getElem?_eq_some_iff.1 h).1
  rw [List.take_succ_eq_append_getElem hk]
  rw [List.getElem?_eq_getElem hk] at h
  rw [Option.some.inj h]; simp [nlS]
theorem nlS_le (zs : List (List UInt8)) (k : Nat) : (nlS (zs.take k)).length ≤ (nlS zs).length := by
  have h : nlS zs = nlS (zs.take k) ++ nlS (zs.drop k) := by unfold nlS; rw [← List.flatten_append, ← List.map_append, List.take_append_drop]
  rw [h, List.length_append]; omega
theorem nlS_jr : ∀ zs : List (List UInt8), 10 :: nlS zs = jr 10 zs ++ [10]
  | [] => rfl
  | z :: r => by
    have h := nlS_jr r
    have e : nlS (z :: r) = z ++ 10 :: nlS r := by simp [nlS]
    rw [e, h]; simp [jr]
theorem nlS_cut (l : List UInt8) : nlS (cutL 10 l) = l ++ [10] := by
  have h := nlS_jr (cutL 10 l)
  rw [jr_cut 10 _ l (Nat.le_refl _)] at h
  simpa using h
theorem dg_hex : ∀ n, n < 16 → dg (hexD n) = n := by decide +kernel
theorem hexOf_cons (c : UInt8) (l : List UInt8) : hexOf (c :: l) = hexD (c.toNat / 16) :: hexD (c.toNat % 16) :: hexOf l := rfl
theorem sp_hex : ∀ l : List UInt8, sp (hexOf l) = l
  | [] => rfl
  | c :: l => by
    have hc := c.toNat_lt
    rw [hexOf_cons]
    simp only [sp]
    rw [sp_hex l, dg_hex _ (by omega), dg_hex _ (by omega), Nat.div_add_mod]
    simp
theorem readF_hex (l : List UInt8) (h : l.length ≤ 40000) : readF (hexOf l) = (l, true) := by
  have hl := hexOf_length l
  unfold readF
  rw [if_neg (by omega), if_pos ((good_iff _ (by omega)).2 (by rw [sp_hex])), sp_hex]
theorem ck_run : ∀ (l : List UInt8) (p : Int × Int), 1 ≤ p.1 → p.1 + 255 * l.length ≤ 65520 → 0 ≤ p.2 → p.2 ≤ 65520 →
    1 ≤ (l.foldl ckStep p).1 ∧ (l.foldl ckStep p).1 ≤ 65520 ∧ 0 ≤ (l.foldl ckStep p).2 ∧ (l.foldl ckStep p).2 ≤ 65520 := by
  intro l
  induction l with
  | nil => intro p h1 h2 h3 h4; exact ⟨h1, by simpa using h2, h3, h4⟩
  | cons c l ih =>
    intro p h1 h2 h3 h4
    have hc := c.toNat_lt
    simp only [List.length_cons] at h2
    refine ih (ckStep p c) ?_ ?_ ?_ ?_ <;> simp only [ckStep] <;> omega
theorem ck_good (l : List UInt8) (h : l.length ≤ 200) : 0 < ckOf l ∧ ckOf l < 4293001441 := by
  have := ck_run l (1, 0) (by simp) (by simp; omega) (by simp) (by simp)
  unfold ckOf ckPair; omega
end Go.Proofs.YtcbaohcgeoaccaaDoor
