/- Plain: decimal numerals, and texts cut at a byte. No program in sight. -/
import Derived.Test.YtcbaohcgeoaccaaDoorBase
import Derived.Lib.ItoaMem
import Derived.Lib.ItoaLen
import Derived.Lib.SplitLaws
namespace Go.Proofs.YtcbaohcgeoaccaaDoor
open Go.RowKit

theorem strOf_add (a b : List UInt8) : Value.string (⟨a.toArray⟩ ++ ⟨b.toArray⟩ : ByteArray) = strOf (a ++ b) := by
  unfold strOf
  congr 1
theorem badd (a b : List UInt8) : (⟨a.toArray⟩ ++ ⟨b.toArray⟩ : ByteArray) = ⟨(a ++ b).toArray⟩ := Value.string.inj (strOf_add a b)
/-- The digits of u, none for 0. -/
def digs (u : Nat) : List UInt8 := if h : u = 0 then [] else digs (u / 10) ++ [UInt8.ofNat (48 + u % 10)]
termination_by u
decreasing_by omega
theorem digs_zero : digs 0 = [] := by rw [digs, dif_pos rfl]
theorem digs_pos {u : Nat} (h : 0 < u) : digs u = digs (u / 10) ++ [UInt8.ofNat (48 + u % 10)] := by rw [digs, dif_neg (by omega)]
theorem digs_eq (u : Nat) (h : 0 < u) : digs u = Lib.decDigits u := by
  induction u using Nat.strongRecOn with
  | _ u ih =>
    rw [digs_pos h]
    by_cases h10 : u < 10
    · rw [Lib.decDigits_one h10, show u / 10 = 0 by omega, digs_zero, Nat.mod_eq_of_lt h10]; rfl
    · rw [Lib.decDigits, dif_neg h10, ih (u / 10) (by omega) (by omega)]
theorem digs_len (u : Nat) (h : u ≤ 9223372036854775808) : (digs u).length ≤ 20 := by
  by_cases h0 : 0 < u
  · rw [digs_eq u h0, Lib.decDigits_length]; exact Lib.nDigits_le20 u (by omega)
  · rw [show u = 0 by omega, digs_zero]; simp
theorem itoa_zero : Lib.itoa 0 = [48] := by rw [Lib.itoa, if_neg (by omega)]; simp [Lib.decDigits_one]
theorem itoa_pos {n : Int} (h : 0 < n) : Lib.itoa n = digs n.natAbs := by
  rw [Lib.itoa, if_neg (by omega), show n.toNat = n.natAbs by omega, digs_eq _ (by omega)]
theorem itoa_neg' {n : Int} (h : n < 0) : Lib.itoa n = 45 :: digs n.natAbs := by
  rw [Lib.itoa, if_pos h, digs_eq _ (by omega)]
theorem tmod_neg_ten (u : Nat) : (-(u : Int)).tmod 10 = -((u % 10 : Nat) : Int) := by rw [Int.neg_tmod, Int.tmod_eq_emod_of_nonneg (by omega)]; simp
theorem tdiv_neg_ten (u : Nat) : (-(u : Int)).tdiv 10 = -((u / 10 : Nat) : Int) := by rw [Int.neg_tdiv, Int.tdiv_eq_ediv_of_nonneg (by omega)]; simp

/-- A text cut at each byte c. -/
def cutL (c : UInt8) : List UInt8 → List (List UInt8)
  | [] => [[]]
  | b :: l => if b = c then [] :: cutL c l else
    match cutL c l with
    | [] => [[b]]
    | p :: ps => (b :: p) :: ps
theorem cutL_ne (c : UInt8) (l : List UInt8) : cutL c l ≠ [] := by
  cases l with
  | nil => simp [cutL]
  | cons b l => unfold cutL; split; · simp
                · split <;> simp
theorem cutL_hit (c : UInt8) (a b : List UInt8) (h : c ∉ a) : cutL c (a ++ c :: b) = a :: cutL c b := by
  induction a with
  | nil => simp [cutL]
  | cons x a ih =>
    simp only [List.mem_cons, not_or] at h
    rw [List.cons_append, cutL, if_neg (Ne.symm h.1), ih h.2]
theorem cutL_none (c : UInt8) (a : List UInt8) (h : c ∉ a) : cutL c a = [a] := by
  induction a with
  | nil => simp [cutL]
  | cons x a ih =>
    simp only [List.mem_cons, not_or] at h
    rw [cutL, if_neg (Ne.symm h.1), ih h.2]
theorem cutL_len (c : UInt8) (l : List UInt8) : (cutL c l).length = l.count c + 1 := by
  induction l with
  | nil => simp [cutL]
  | cons b l ih =>
    unfold cutL
    split
    · rename_i h; subst h; simp [ih]
    · rename_i h
      rw [List.count_cons_of_ne (by simpa using h)]
      split
      · rename_i e; exact absurd e (cutL_ne _ _)
      · rename_i p ps e; rw [e] at ih; simpa using ih
theorem cutL_piece (c : UInt8) (l : List UInt8) : ∀ p ∈ cutL c l, p.length ≤ l.length := by
  induction l with
  | nil => simp [cutL]
  | cons b l ih =>
    unfold cutL
    split
    · intro p hp
      rcases List.mem_cons.1 hp with rfl | hp
      · simp
      · have := ih p hp; simp; omega
    · split
      · intro p hp; simp at hp; subst hp; simp
      · rename_i q qs e
        rw [e] at ih
        intro p hp
        rcases List.mem_cons.1 hp with rfl | hp
        · have := ih q (by simp); simp; omega
        · have := ih p (by simp [hp]); simp; omega
theorem index_at (c : UInt8) (a b : List UInt8) (h : c ∉ a) : Lib.index (a ++ c :: b) [c] = (a.length : Int) := by
  induction a with
  | nil => simp [Lib.index]
  | cons x a ih =>
    simp only [List.mem_cons, not_or] at h
    have e := ih h.2
    rw [List.cons_append, Lib.index]
    have hp : ([c] : List UInt8).isPrefixOf (x :: (a ++ c :: b)) = false := by simp [List.isPrefixOf, h.1]
    rw [hp, e]
    have hn : (((a.length : Int)) == -1) = false := by simp
    simp [hn]
theorem splitK_cut (c : UInt8) : ∀ (n : Nat) (l : List UInt8), l.length ≤ n → Lib.splitK [c] 0 (l.count c) l = cutL c l := by
  intro n
  induction n with
  | zero => intro l h; obtain rfl : l = [] := List.eq_nil_of_length_eq_zero (by omega); rfl
  | succ n ih =>
    intro l h
    by_cases hm : c ∈ l
    · obtain ⟨a, b, rfl, ha⟩ := List.eq_append_cons_of_mem hm
      have hk : (a ++ c :: b).count c = b.count c + 1 := by
        rw [List.count_append, List.count_eq_zero.2 ha, List.count_cons_self]; omega
      rw [hk, Lib.splitK, index_at c a b ha, cutL_hit c a b ha]
      have hn : (((a.length : Int)) == -1) = false := by simp
      simp only [hn, Bool.false_eq_true, if_false, Int.toNat_natCast, Nat.add_zero, List.length_singleton]
      simp at h
      rw [List.take_left, List.drop_append, show a.length + 1 - a.length = 1 by omega, List.drop_of_length_le (by omega)]
      simp [ih b (by omega)]
    · rw [cutL_none c l hm, List.count_eq_zero.2 hm]; rfl
/-- strings.Split at one byte. -/
theorem split_cut (c : UInt8) (s : ByteArray) : (Lib.splitB ⟨#[c]⟩ 0 (Lib.countB s ⟨#[c]⟩) s).map (·.data.toList) = cutL c s.data.toList := by
  rw [Lib.splitB_data]
  show Lib.splitK [c] 0 (Lib.count s.data.toList [c]) s.data.toList = _
  rw [Lib.count_one]
  exact splitK_cut c _ _ (Nat.le_refl _)
theorem cut_at (c : UInt8) (l : List UInt8) : (c ∉ l ∧ Lib.cut l [c] = (l, [], false) ∧ cutL c l = [l]) ∨ ∃ a b, l = a ++ c :: b ∧ c ∉ a ∧ Lib.cut l [c] = (a, b, true) ∧ cutL c l = a :: cutL c b := by
  by_cases hm : c ∈ l
  · obtain ⟨a, b, rfl, ha⟩ := List.eq_append_cons_of_mem hm
    refine .inr ⟨a, b, rfl, ha, ?_, cutL_hit c a b ha⟩
    unfold Lib.cut
    rw [index_at c a b ha, if_pos (by omega)]
    rw [Int.toNat_natCast, List.take_left, List.drop_append, List.drop_of_length_le (by simp)]
    simp
  · refine .inl ⟨hm, ?_, cutL_none c l hm⟩
    unfold Lib.cut
    have : Lib.index l [c] = -1 := by
      induction l with
      | nil => simp [Lib.index]
      | cons x l ih =>
        simp only [List.mem_cons, not_or] at hm
        rw [Lib.index, show ([c] : List UInt8).isPrefixOf (x :: l) = false by simp [List.isPrefixOf, hm.1], ih hm.2]
        simp
    rw [this, if_neg (by omega)]
/-- The list of pieces while a text is cut from the left: what is done, and what begins at 'from'. -/
theorem cut_step (c : UInt8) (l : List UInt8) (done : List (List UInt8)) (f i : Nat) (hf : f ≤ i) (hi : l[i]? = some c) (hno : c ∉ (l.take i).drop f) (h : done ++ cutL c (l.drop f) = cutL c l) :
    (done ++ [(l.take i).drop f]) ++ cutL c (l.drop (i + 1)) = cutL c l := by
  have hl := (List.getElem?_eq_some_iff.1 hi).1
  have e : l.drop f = (l.take i).drop f ++ c :: l.drop (i + 1) := by
    have h1 : l.drop i = c :: l.drop (i + 1) := by
      rw [List.drop_eq_getElem_cons hl]; congr 1
      rw [List.getElem?_eq_getElem hl] at hi; exact Option.some.inj hi
    rw [← h1, List.drop_take]
    conv => lhs; rw [← List.take_append_drop (i - f) (l.drop f)]
    rw [List.drop_drop, show f + (i - f) = i by omega]
  rw [e, cutL_hit _ _ _ hno] at h
  rw [← h]; simp
theorem cut_more (c : UInt8) (l : List UInt8) (f i : Nat) (hf : f ≤ i) {b : UInt8} (hi : l[i]? = some b) (hb : b ≠ c) (hno : c ∉ (l.take i).drop f) : c ∉ (l.take (i + 1)).drop f := by
  have hl := (List.getElem?_eq_some_iff.1 hi).1
  rw [List.take_succ_eq_append_getElem hl, List.drop_append, List.mem_append, not_or]
  refine ⟨hno, fun hm => ?_⟩
  have := List.mem_of_mem_drop hm
  simp at this
  rw [List.getElem?_eq_getElem hl] at hi
  exact hb ((Option.some.inj hi).symm.trans this.symm)
end Go.Proofs.YtcbaohcgeoaccaaDoor
