/- Plain: statements of trees in preorder. 'ar' tells of each element how many subtrees follow behind it (none: not as it should be). No program in sight. -/
import Derived.Test.YtcbaohcgeoaccaaDoorProg
namespace Go.Proofs.YtcbaohcgeoaccaaDoor

/-- The index behind c trees that begin with element k, of n elements. -/
def walkT (ar : Nat → Option Nat) (n : Nat) (c k : Nat) : Option Nat :=
  match c with
  | 0 => some k
  | c + 1 => if _h : k < n then (match ar k with | none => none | some a => walkT ar n (c + a) (k + 1)) else none
termination_by n - k

theorem walkT_zero {ar : Nat → Option Nat} {n k : Nat} : walkT ar n 0 k = some k := by unfold walkT; rfl
theorem walkT_out {ar : Nat → Option Nat} {n c k : Nat} (h : n ≤ k) : walkT ar n (c + 1) k = none := by
  unfold walkT; rw [dif_neg (by omega)]
theorem walkT_bad {ar : Nat → Option Nat} {n c k : Nat} (ha : ar k = none) : walkT ar n (c + 1) k = none := by
  unfold walkT; split
  · rw [ha]
  · rfl
theorem walkT_go {ar : Nat → Option Nat} {n c k a : Nat} (h : k < n) (ha : ar k = some a) : walkT ar n (c + 1) k = walkT ar n (c + a) (k + 1) := by
  conv => lhs; unfold walkT
  rw [dif_pos h, ha]
theorem walkT_add {ar : Nat → Option Nat} {n : Nat} : ∀ (m c d k : Nat), n - k ≤ m → walkT ar n (c + d) k = (walkT ar n c k).bind (walkT ar n d) := by
  intro m
  induction m with
  | zero =>
    intro c d k h
    rcases c with _ | c
    · rw [Nat.zero_add, walkT_zero]; rfl
    · rw [show c + 1 + d = (c + d) + 1 by omega, walkT_out (by omega), walkT_out (by omega)]; rfl
  | succ m ih =>
    intro c d k h
    rcases c with _ | c
    · rw [Nat.zero_add, walkT_zero]; rfl
    · rw [show c + 1 + d = (c + d) + 1 by omega]
      by_cases hk : k < n
      · cases ha : ar k with
        | none => rw [walkT_bad ha, walkT_bad ha]; rfl
        | some a => rw [walkT_go hk ha, walkT_go hk ha, show c + d + a = (c + a) + d by omega, ih _ _ _ (by omega)]
      · rw [walkT_out (by omega), walkT_out (by omega)]; rfl
theorem walkT_ge {ar : Nat → Option Nat} {n : Nat} : ∀ (m c k e : Nat), n - k ≤ m → walkT ar n c k = some e → k + c ≤ e ∧ (k ≤ n → e ≤ n) := by
  intro m
  induction m with
  | zero =>
    intro c k e h h1
    rcases c with _ | c
    · rw [walkT_zero] at h1; cases h1; omega
    · rw [walkT_out (by omega)] at h1; cases h1
  | succ m ih =>
    intro c k e h h1
    rcases c with _ | c
    · rw [walkT_zero] at h1; cases h1; omega
    · by_cases hk : k < n
      · cases ha : ar k with
        | none => rw [walkT_bad ha] at h1; cases h1
        | some a =>
          rw [walkT_go hk ha] at h1
          have := ih _ _ _ (by omega) h1
          omega
      · rw [walkT_out (by omega)] at h1; cases h1
theorem walkT_seen {ar : Nat → Option Nat} {n : Nat} : ∀ (m c k e : Nat), n - k ≤ m → walkT ar n c k = some e → ∀ i, k ≤ i → i < e → ∃ a, ar i = some a := by
  intro m
  induction m with
  | zero =>
    intro c k e h h1 i hi hie
    rcases c with _ | c
    · rw [walkT_zero] at h1; cases h1; omega
    · rw [walkT_out (by omega)] at h1; cases h1
  | succ m ih =>
    intro c k e h h1 i hi hie
    rcases c with _ | c
    · rw [walkT_zero] at h1; cases h1; omega
    · by_cases hk : k < n
      · cases ha : ar k with
        | none => rw [walkT_bad ha] at h1; cases h1
        | some a =>
          rw [walkT_go hk ha] at h1
          rcases Nat.lt_or_ge k i with h2 | h2
          · exact ih _ _ _ (by omega) h1 i (by omega) hie
          · have : i = k := by omega
            subst this; exact ⟨a, ha⟩
      · rw [walkT_out (by omega)] at h1; cases h1
theorem walkT_congr {ar br : Nat → Option Nat} {n : Nat} : ∀ (m c k : Nat), n - k ≤ m → (∀ i, i < n → k ≤ i → ar i = br i) → walkT ar n c k = walkT br n c k := by
  intro m
  induction m with
  | zero =>
    intro c k h _
    rcases c with _ | c
    · rw [walkT_zero, walkT_zero]
    · rw [walkT_out (by omega), walkT_out (by omega)]
  | succ m ih =>
    intro c k h he
    rcases c with _ | c
    · rw [walkT_zero, walkT_zero]
    · by_cases hk : k < n
      · have h1 := he k hk (Nat.le_refl _)
        cases ha : ar k with
        | none => rw [walkT_bad ha, walkT_bad (h1 ▸ ha)]
        | some a => rw [walkT_go hk ha, walkT_go hk (h1 ▸ ha), ih _ _ (by omega) fun i hi hi' => he i hi (by omega)]
      · rw [walkT_out (by omega), walkT_out (by omega)]
/-- One tree of all the elements: every element as it should be, and the trees as their elements alone tell. -/
def treeB (ar : Nat → Option Nat) (n : Nat) : Bool := decide (walkT ar n 1 0 = some n)
theorem tree_split (ar : Nat → Option Nat) (be : Nat → Nat) (n : Nat) (h : ∀ i a, ar i = some a → a = be i) :
    treeB ar n = ((List.range n).all (fun i => (ar i).isSome) && treeB (fun i => some (be i)) n) := by
  have hall : (List.range n).all (fun i => (ar i).isSome) = true → walkT ar n 1 0 = walkT (fun i => some (be i)) n 1 0 := by
    intro h1
    rw [List.all_eq_true] at h1
    refine walkT_congr n 1 0 (by omega) fun i hi _ => ?_
    have := h1 i (List.mem_range.2 hi)
    cases ha : ar i with
    | none => rw [ha] at this; cases this
    | some a => rw [h i a ha]
  rw [Bool.eq_iff_iff, Bool.and_eq_true]
  unfold treeB
  simp only [decide_eq_true_eq]
  constructor
  · intro h1
    have h2 : (List.range n).all (fun i => (ar i).isSome) = true := by
      rw [List.all_eq_true]
      intro i hi
      obtain ⟨a, ha⟩ := walkT_seen n 1 0 n (by omega) h1 i (Nat.zero_le _) (List.mem_range.1 hi)
      rw [ha]; rfl
    exact ⟨h2, (hall h2) ▸ h1⟩
  · rintro ⟨h1, h2⟩
    rw [hall h1]; exact h2
theorem treeB_pos {ar : Nat → Option Nat} {n : Nat} (h : treeB ar n = true) : 1 ≤ n := by
  unfold treeB at h
  rw [decide_eq_true_eq] at h
  have := walkT_ge n 1 0 n (by omega) h
  omega
theorem walkT_one {ar : Nat → Option Nat} {n k a : Nat} (h : k < n) (ha : ar k = some a) : walkT ar n 1 k = walkT ar n a (k + 1) := by
  have := walkT_go (c := 0) h ha
  rw [Nat.zero_add a] at this
  exact this
theorem walkT_step {ar : Nat → Option Nat} {n c k : Nat} : walkT ar n (c + 1) k = (walkT ar n 1 k).bind (walkT ar n c) := by
  rw [show c + 1 = 1 + c by omega]; exact walkT_add n 1 c k (by omega)
/-- The depth of the deepest of c trees. -/
def deepT (ar : Nat → Option Nat) (n : Nat) (c k : Nat) : Nat :=
  match c with
  | 0 => 0
  | c + 1 => if _h : k < n then (match ar k with
    | none => 0
    | some a => match walkT ar n a (k + 1) with
      | none => 0
      | some e => max (deepT ar n a (k + 1) + 1) (deepT ar n c (max e (k + 1)))) else 0
termination_by n - k
theorem deepT_zero {ar : Nat → Option Nat} {n k : Nat} : deepT ar n 0 k = 0 := by unfold deepT; rfl
theorem deepT_go {ar : Nat → Option Nat} {n c k a e : Nat} (h : k < n) (ha : ar k = some a) (he : walkT ar n a (k + 1) = some e) : deepT ar n (c + 1) k = max (deepT ar n a (k + 1) + 1) (deepT ar n c e) := by
  conv => lhs; unfold deepT
  rw [dif_pos h, ha]
  simp only
  rw [he]
  simp only
  have := walkT_ge n a (k + 1) e (by omega) he
  rw [show max e (k + 1) = e by omega]
theorem deepT_le {ar : Nat → Option Nat} {n : Nat} : ∀ (m c k : Nat), n - k ≤ m → deepT ar n c k ≤ n - k := by
  intro m
  induction m with
  | zero =>
    intro c k h
    unfold deepT
    split
    · omega
    · rw [dif_neg (by omega)]; omega
  | succ m ih =>
    intro c k h
    unfold deepT
    split
    · omega
    · split
      · split
        · omega
        · split
          · omega
          · exact Nat.max_le.2 ⟨Nat.le_trans (Nat.add_le_add_right (ih _ _ (by omega)) 1) (by omega), Nat.le_trans (ih _ _ (by omega)) (by omega)⟩
      · omega
theorem deepT_one {ar : Nat → Option Nat} {n k a e : Nat} (h : k < n) (ha : ar k = some a) (he : walkT ar n a (k + 1) = some e) : deepT ar n 1 k = deepT ar n a (k + 1) + 1 := by
  rw [deepT_go h ha he, deepT_zero]; omega
theorem deepT_step {ar : Nat → Option Nat} {n c k e : Nat} (he : walkT ar n 1 k = some e) : deepT ar n (c + 1) k = max (deepT ar n 1 k) (deepT ar n c e) := by
  by_cases h : k < n
  · cases ha : ar k with
    | none => rw [show (1 : Nat) = 0 + 1 from rfl, walkT_bad ha] at he; cases he
    | some a =>
      rw [walkT_one h ha] at he
      rw [deepT_go h ha he, deepT_one h ha he]
  · rw [show (1 : Nat) = 0 + 1 from rfl, walkT_out (by omega)] at he; cases he
/-- The index behind the tree at k, its depth, and whether there is one. -/
def behR (ar : Nat → Option Nat) (n k : Nat) : Nat × Nat × Bool := match walkT ar n 1 k with
  | none => (0, 0, false)
  | some e => (e, deepT ar n 1 k, true)
theorem behR_none {ar : Nat → Option Nat} {n k : Nat} (h : walkT ar n 1 k = none) : behR ar n k = (0, 0, false) := by unfold behR; rw [h]
theorem behR_some {ar : Nat → Option Nat} {n k e : Nat} (h : walkT ar n 1 k = some e) : behR ar n k = (e, deepT ar n 1 k, true) := by unfold behR; rw [h]
end Go.Proofs.YtcbaohcgeoaccaaDoor
