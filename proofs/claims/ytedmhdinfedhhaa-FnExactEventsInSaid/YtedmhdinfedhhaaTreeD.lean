/- Plain: the depth of trees in preorder, counted by the trees that are open at an element. No program in sight. -/
import Derived.Test.YtedmhdinfedhhaaTree
namespace Go.Proofs.Ytedmhdinfedhhaa

theorem walkT_in {ar : Nat → Option Nat} {n : Nat} : ∀ (m c k e : Nat), n - k ≤ m → walkT ar n c k = some e → ∀ i, k ≤ i → i < e → ∃ e', walkT ar n 1 i = some e' ∧ e' ≤ e := by
  intro m
  induction m with
  | zero =>
    intro c k e h h1 i hi hie
    rcases c with _ | c
    · rw [walkT_zero] at h1; cases h1; omega
    · rw [walkT_out (by omega)] at h1; cases h1
  | succ m ih =>
    intro c k e h h1 i hi hie
    rcases c with _ | c
    · rw [walkT_zero] at h1; cases h1; omega
    · by_cases hk : k < n
      · cases ha : ar k with
        | none => rw [walkT_bad ha] at h1; cases h1
        | some a =>
          rcases Nat.lt_or_ge k i with h2 | h2
          · rw [walkT_go hk ha] at h1
            exact ih _ _ _ (by omega) h1 i (by omega) hie
          · have : i = k := by omega
            subst this
            rw [walkT_step] at h1
            cases h3 : walkT ar n 1 i with
            | none => rw [h3] at h1; cases h1
            | some e1 =>
              rw [h3] at h1
              have h1 : walkT ar n c e1 = some e := h1
              exact ⟨e1, rfl, by have := walkT_ge _ c e1 e (Nat.le_refl _) h1; omega⟩
      · rw [walkT_out (by omega)] at h1; cases h1
/-- How many trees that begin at i0 or behind it are open at j. -/
def lev (E : Nat → Nat) (j i0 : Nat) : Nat := (List.range' i0 (j + 1 - i0)).countP (fun i => decide (j < E i))
theorem lev_out {E : Nat → Nat} {j i0 : Nat} (h : j < i0) : lev E j i0 = 0 := by
  unfold lev; rw [show j + 1 - i0 = 0 by omega]; rfl
theorem lev_cons {E : Nat → Nat} {j i0 : Nat} (h : i0 ≤ j) : lev E j i0 = (if j < E i0 then 1 else 0) + lev E j (i0 + 1) := by
  unfold lev
  rw [show j + 1 - i0 = (j + 1 - (i0 + 1)) + 1 by omega, List.range'_succ, List.countP_cons]
  simp only [decide_eq_true_eq]
  omega
theorem lev_skip {E : Nat → Nat} {j : Nat} : ∀ (m i0 i1 : Nat), i1 - i0 ≤ m → i0 ≤ i1 → i1 ≤ j + 1 → (∀ i, i0 ≤ i → i < i1 → E i ≤ j) → lev E j i0 = lev E j i1 := by
  intro m
  induction m with
  | zero => intro i0 i1 h h1 h2 h3; rw [show i0 = i1 by omega]
  | succ m ih =>
    intro i0 i1 h h1 h2 h3
    rcases Nat.lt_or_ge i0 i1 with h4 | h4
    · rw [lev_cons (by omega), if_neg (by have := h3 i0 (Nat.le_refl _) h4; omega), Nat.zero_add]
      exact ih _ _ (by omega) (by omega) h2 fun i hi hi' => h3 i (by omega) hi'
    · rw [show i0 = i1 by omega]
theorem lev_same {E : Nat → Nat} {j p : Nat} : ∀ (m i0 : Nat), p + 1 - i0 ≤ m → p ≤ j → (∀ i, i0 ≤ i → i ≤ p → (j < E i ↔ p < E i)) → (∀ i, p < i → i ≤ j → E i ≤ j) → lev E j i0 = if i0 ≤ p then lev E p i0 else lev E j i0 := by
  intro m
  induction m with
  | zero => intro i0 h _ _ _; rw [if_neg (by omega)]
  | succ m ih =>
    intro i0 h hp h1 h2
    rcases Nat.lt_or_ge p i0 with h4 | h4
    · rw [if_neg (by omega)]
    · rw [if_pos h4, lev_cons (by omega), lev_cons h4]
      have h5 := ih (i0 + 1) (by omega) hp (fun i hi hi' => h1 i (by omega) hi') h2
      have h6 : lev E j (i0 + 1) = lev E p (i0 + 1) := by
        rcases Nat.lt_or_ge p (i0 + 1) with h7 | h7
        · rw [lev_out h7]
          rw [lev_skip _ (i0 + 1) (j + 1) (Nat.le_refl _) (by omega) (Nat.le_refl _) fun i hi hi' => h2 i (by omega) (by omega)]
          exact lev_out (by omega)
        · rw [h5, if_pos h7]
      rw [h6]
      have h7 := h1 i0 (Nat.le_refl _) h4
      by_cases h8 : p < E i0
      · rw [if_pos h8, if_pos (h7.2 h8)]
      · rw [if_neg h8, if_neg (fun h9 => h8 (h7.1 h9))]
def endE (ar : Nat → Option Nat) (n : Nat) (i : Nat) : Nat := (walkT ar n 1 i).getD 0
theorem endE_of {ar : Nat → Option Nat} {n i e : Nat} (h : walkT ar n 1 i = some e) : endE ar n i = e := by unfold endE; rw [h]; rfl
/-- D is the greatest number of trees that are open at an element from k to e. -/
def IsMax (E : Nat → Nat) (k e D : Nat) : Prop := (∀ j, k ≤ j → j < e → lev E j k ≤ D) ∧ ((k = e ∧ D = 0) ∨ ∃ j, k ≤ j ∧ j < e ∧ lev E j k = D)
theorem deep_max {ar : Nat → Option Nat} {n : Nat} : ∀ (m c k e : Nat), n - k ≤ m → walkT ar n c k = some e → IsMax (endE ar n) k e (deepT ar n c k) := by
  intro m
  induction m with
  | zero =>
    intro c k e h h1
    rcases c with _ | c
    · rw [walkT_zero] at h1; cases h1; rw [deepT_zero]; exact ⟨fun j h2 h3 => by omega, .inl ⟨rfl, rfl⟩⟩
    · rw [walkT_out (by omega)] at h1; cases h1
  | succ m ih =>
    intro c k e h h1
    rcases c with _ | c
    · rw [walkT_zero] at h1; cases h1; rw [deepT_zero]; exact ⟨fun j h2 h3 => by omega, .inl ⟨rfl, rfl⟩⟩
    · by_cases hk : k < n
      · cases ha : ar k with
        | none => rw [walkT_bad ha] at h1; cases h1
        | some a =>
          rw [walkT_step] at h1
          cases h3 : walkT ar n 1 k with
          | none => rw [h3] at h1; cases h1
          | some e1 =>
            rw [h3] at h1
            have h1 : walkT ar n c e1 = some e := h1
            have h4 : walkT ar n a (k + 1) = some e1 := (walkT_one hk ha).symm.trans h3
            have g1 := walkT_ge _ 1 k e1 (Nat.le_refl _) h3
            have g2 := walkT_ge _ c e1 e (Nat.le_refl _) h1
            rw [deepT_go hk ha h4]
            obtain ⟨a1, a2⟩ := ih a (k + 1) e1 (by omega) h4
            obtain ⟨b1, b2⟩ := ih c e1 e (by omega) h1
            have hE := endE_of h3
            have l1 : ∀ j, k ≤ j → j < e1 → lev (endE ar n) j k = lev (endE ar n) j (k + 1) + 1 := fun j hj hj' => by
              rw [lev_cons hj, if_pos (by omega)]; omega
            have l2 : ∀ j, e1 ≤ j → lev (endE ar n) j k = lev (endE ar n) j e1 := fun j hj =>
              lev_skip _ k e1 (Nat.le_refl _) (by omega) (by omega) fun i hi hi' => by
                obtain ⟨e', he', hle⟩ := walkT_in _ 1 k e1 (Nat.le_refl _) h3 i hi hi'
                rw [endE_of he']; omega
            refine ⟨fun j hj hj' => ?_, .inr ?_⟩
            · rcases Nat.lt_or_ge j e1 with h5 | h5
              · rw [l1 j hj h5]
                rcases Nat.lt_or_ge k j with h6 | h6
                · have := a1 j (by omega) h5; omega
                · rw [lev_out (show j < k + 1 by omega)]; omega
              · rw [l2 j h5]; have := b1 j h5 hj'; omega
            · rcases Nat.le_total (deepT ar n c e1) (deepT ar n a (k + 1) + 1) with h5 | h5
              · rw [Nat.max_eq_left h5]
                rcases a2 with ⟨h6, h7⟩ | ⟨j, h6, h7, h8⟩
                · exact ⟨k, Nat.le_refl _, by omega, by rw [l1 k (Nat.le_refl _) (by omega), lev_out (Nat.lt_succ_self k), h7]⟩
                · exact ⟨j, by omega, by omega, by rw [l1 j (by omega) h7, h8]⟩
              · rw [Nat.max_eq_right h5]
                rcases b2 with ⟨h6, h7⟩ | ⟨j, h6, h7, h8⟩
                · omega
                · exact ⟨j, by omega, h7, by rw [l2 j h6, h8]⟩
      · rw [walkT_out (by omega)] at h1; cases h1
/-- The tree around k: p. -/
theorem lev_parent {ar : Nat → Option Nat} {n k p : Nat} (h0 : walkT ar n 1 0 = some n) (hk : k < n) (hp : p < k) (h1 : k < endE ar n p) (h2 : ∀ i, p < i → i < k → endE ar n i ≤ k) : lev (endE ar n) k 0 = lev (endE ar n) p 0 + 1 := by
  have hE : ∀ i, i < n → ∃ e, walkT ar n 1 i = some e ∧ i < e := fun i hi => by
    obtain ⟨e, he, _⟩ := walkT_in _ 1 0 n (Nat.le_refl _) h0 i (Nat.zero_le _) hi
    exact ⟨e, he, by have := walkT_ge _ 1 i e (Nat.le_refl _) he; omega⟩
  have hnest : ∀ i, i ≤ p → p < endE ar n i → k < endE ar n i := fun i hi hpi => by
    obtain ⟨e, he, _⟩ := hE i (by omega)
    rw [endE_of he] at hpi ⊢
    obtain ⟨e', he', hle⟩ := walkT_in _ 1 i e (Nat.le_refl _) he p hi hpi
    rw [endE_of he'] at h1
    omega
  obtain ⟨ek, hek, hlt⟩ := hE k hk
  have e1 : ∀ j i0, j = k → lev (endE ar n) j i0 = lev (endE ar n) k i0 := fun j i0 h => by rw [h]
  -- the count up to k, the last one apart
  have hlast : lev (endE ar n) k 0 = (List.range k).countP (fun i => decide (k < endE ar n i)) + 1 := by
    unfold lev
    rw [Nat.sub_zero, ← List.range_eq_range', List.range_succ, List.countP_append]
    simp [endE_of hek, hlt]
  have hcut : (List.range k).countP (fun i => decide (k < endE ar n i)) = (List.range (p + 1)).countP (fun i => decide (p < endE ar n i)) := by
    have h3 : List.range k = List.range (p + 1) ++ List.range' (p + 1) (k - (p + 1)) := by
      rw [List.range_eq_range', List.range_eq_range', show k = (p + 1) + (k - (p + 1)) by omega, ← List.range'_append_1]
      simp
    rw [h3, List.countP_append]
    have h4 : (List.range' (p + 1) (k - (p + 1))).countP (fun i => decide (k < endE ar n i)) = 0 := by
      rw [List.countP_eq_zero]
      intro i hi
      rw [List.mem_range'_1] at hi
      have := h2 i (by omega) (by omega)
      simp; omega
    rw [h4, Nat.add_zero]
    refine List.countP_congr fun i hi => ?_
    have hi := List.mem_range.1 hi
    simp only [decide_eq_true_eq]
    exact ⟨fun h => by omega, fun h => hnest i (by omega) h⟩
  rw [hlast, hcut]
  unfold lev
  rw [Nat.sub_zero, ← List.range_eq_range']
theorem lev_root {ar : Nat → Option Nat} {n k : Nat} (h0 : walkT ar n 1 0 = some n) (hk : k < n) (h2 : ∀ i, i < k → endE ar n i ≤ k) : lev (endE ar n) k 0 = 1 := by
  obtain ⟨e, he, _⟩ := walkT_in _ 1 0 n (Nat.le_refl _) h0 k (Nat.zero_le _) hk
  have hlt := walkT_ge _ 1 k e (Nat.le_refl _) he
  unfold lev
  rw [Nat.sub_zero, ← List.range_eq_range', List.range_succ, List.countP_append]
  have h4 : (List.range k).countP (fun i => decide (k < endE ar n i)) = 0 := by
    rw [List.countP_eq_zero]
    intro i hi
    have := h2 i (List.mem_range.1 hi)
    simp; omega
  rw [h4]
  simp [endE_of he]; omega
theorem lev_le {E : Nat → Nat} {j i0 : Nat} : lev E j i0 ≤ j + 1 := by
  unfold lev
  refine Nat.le_trans List.countP_le_length ?_
  rw [List.length_range']; omega
theorem max_unique {E : Nat → Nat} {n D : Nat} (hn : 1 ≤ n) (h : IsMax E 0 n D) {M : Nat} (h1 : ∀ j, j < n → lev E j 0 ≤ M) (h2 : M = 0 ∨ ∃ j, j < n ∧ lev E j 0 = M) : M = D := by
  obtain ⟨a, b⟩ := h
  rcases b with ⟨b1, b2⟩ | ⟨j, _, hj, hD⟩
  · omega
  · have c1 := h1 j hj
    rcases h2 with h2 | ⟨i, hi, hM⟩
    · omega
    · have := a i (Nat.zero_le _) hi; omega
end Go.Proofs.Ytedmhdinfedhhaa
