/- Plain mathematics: the symbols of terms; numbers put to their places among rising ones. No program in sight. -/
import Derived.Test.YtkckhnpdodbffaaL02
namespace Go.Proofs.Ytkckhnpdodbffaa

def coefAt (t : Term) (k : Nat) : Int := t.2.getD k 0
def hasSym (ts : List Term) (k : Nat) : Bool := ts.any fun t => coefAt t k != 0
def symK (ts : List Term) (k : Nat) : List Int := ((List.range k).filter (hasSym ts)).map fun j : Nat => (j : Int)
def symF (ts : List Term) : List Int := symK ts 10
def symbolsF (ts : List Term) : List Int × Bool := if areTerms ts 14 then (symF ts, true) else ([], false)
theorem symK_succ (ts : List Term) (k : Nat) : symK ts (k + 1) = symK ts k ++ if hasSym ts k then [(k : Int)] else [] := by
  unfold symK
  rw [List.range_succ, List.filter_append, List.map_append]
  congr 1
  by_cases h : hasSym ts k = true
  · simp [h]
  · simp [h]
theorem symK_len (ts : List Term) (k : Nat) : (symK ts k).length ≤ k := by
  unfold symK
  rw [List.length_map]
  exact Nat.le_trans (List.length_filter_le _ _) (by simp)
theorem symbolsF_len (ts : List Term) : (symbolsF ts).1.length ≤ 1048576 := by
  unfold symbolsF
  split
  · have := symK_len ts 10; simp only [symF]; omega
  · simp
/-- A number put to its place among rising ones, once. -/
def putL : List Int → Int → List Int
  | [], n => [n]
  | x :: xs, n => if n ≤ x then (if n < x then n :: x :: xs else x :: xs) else x :: putL xs n
theorem putL_take {l : List Int} {n : Int} {k : Nat} (h : ∀ x ∈ l.take k, x < n) : putL l n = l.take k ++ putL (l.drop k) n := by
  induction l generalizing k with
  | nil => simp
  | cons x xs ih =>
    cases k with
    | zero => simp
    | succ k =>
      have h1 := h x (by simp)
      simp only [putL, List.take_succ_cons, List.drop_succ_cons, List.cons_append]
      rw [if_neg (by omega), ih (k := k) fun y hy => h y (by simp [hy])]
def Srt (l : List Int) : Prop := l.Pairwise (· < ·)
theorem mem_putL {l : List Int} {n x : Int} : x ∈ putL l n ↔ x = n ∨ x ∈ l := by
  induction l with
  | nil => simp [putL]
  | cons y ys ih =>
    simp only [putL]
    split
    · split
      · simp
      · have : n = y := by omega
        subst this; simp
    · simp [ih]
      constructor
      · rintro (h | h | h) <;> simp [h]
      · rintro (h | h | h) <;> simp [h]
theorem putL_len {l : List Int} {n : Int} : (putL l n).length ≤ l.length + 1 := by
  induction l with
  | nil => simp [putL]
  | cons y ys ih =>
    simp only [putL]
    split
    · split <;> simp
    · simp; omega
theorem putL_srt {l : List Int} {n : Int} (h : Srt l) : Srt (putL l n) := by
  induction l with
  | nil => simp [putL, Srt]
  | cons y ys ih =>
    unfold Srt at h ih ⊢
    rw [List.pairwise_cons] at h
    simp only [putL]
    split
    · split
      · rw [List.pairwise_cons, List.pairwise_cons]
        refine ⟨fun z hz => ?_, h⟩
        rcases List.mem_cons.1 hz with rfl | hz
        · assumption
        · have := h.1 z hz; omega
      · rw [List.pairwise_cons]; exact h
    · rw [List.pairwise_cons]
      refine ⟨fun z hz => ?_, ih h.2⟩
      rcases mem_putL.1 hz with rfl | hz
      · omega
      · exact h.1 z hz
theorem srt_ext : ∀ {l m : List Int}, Srt l → Srt m → (∀ x, x ∈ l ↔ x ∈ m) → l = m
  | [], [], _, _, _ => rfl
  | [], y :: ys, _, _, h => by have := (h y).2 (by simp); simp at this
  | x :: xs, [], _, _, h => by have := (h x).1 (by simp); simp at this
  | x :: xs, y :: ys, h1, h2, h => by
    unfold Srt at h1 h2
    rw [List.pairwise_cons] at h1 h2
    have hxy : x = y := by
      have a := (h x).1 (by simp)
      have b := (h y).2 (by simp)
      rcases List.mem_cons.1 a with a | a
      · exact a
      · rcases List.mem_cons.1 b with b | b
        · exact b.symm
        · have := h1.1 y b; have := h2.1 x a; omega
    subst hxy
    rw [srt_ext h1.2 h2.2 fun z => ?_]
    constructor
    · intro hz
      have := (h z).1 (by simp [hz])
      rcases List.mem_cons.1 this with rfl | this
      · have := h1.1 z hz; omega
      · exact this
    · intro hz
      have := (h z).2 (by simp [hz])
      rcases List.mem_cons.1 this with rfl | this
      · have := h2.1 z hz; omega
      · exact this
theorem srt_len : ∀ {l : List Int} {a b : Int}, Srt l → (∀ x ∈ l, a ≤ x ∧ x < b) → (l.length : Int) ≤ max 0 (b - a)
  | [], a, b, _, _ => by simp; omega
  | x :: xs, a, b, h, hm => by
    unfold Srt at h
    rw [List.pairwise_cons] at h
    have h0 := hm x (by simp)
    have := srt_len (a := x + 1) (b := b) h.2 fun y hy => ⟨by have := h.1 y hy; omega, (hm y (by simp [hy])).2⟩
    simp only [List.length_cons]; omega
theorem symK_srt (ts : List Term) (k : Nat) : Srt (symK ts k) := by
  unfold Srt symK
  rw [List.pairwise_map]
  exact (List.Pairwise.filter _ List.pairwise_lt_range).imp fun h => by omega
theorem mem_symK {ts : List Term} {k : Nat} {x : Int} : x ∈ symK ts k ↔ ∃ j : Nat, x = j ∧ j < k ∧ hasSym ts j = true := by
  unfold symK
  simp only [List.mem_map, List.mem_filter, List.mem_range]
  constructor
  · rintro ⟨j, ⟨h1, h2⟩, rfl⟩; exact ⟨j, rfl, h1, h2⟩
  · rintro ⟨j, rfl, h1, h2⟩; exact ⟨j, ⟨h1, h2⟩, rfl⟩
/-- What has been collected behind i terms and j coefficients of the next one. -/
def SymAt (ts : List Term) (i j : Nat) (out : List Int) : Prop :=
  Srt out ∧ ∀ x, x ∈ out ↔ ∃ k : Nat, x = k ∧ ((∃ t ∈ ts.take i, coefAt t k ≠ 0) ∨ ∃ t, ts[i]? = some t ∧ k < j ∧ coefAt t k ≠ 0)
theorem symAt_start (ts : List Term) : SymAt ts 0 0 [] := ⟨by simp [Srt], by simp⟩
theorem symAt_zero {ts : List Term} {i j : Nat} {out : List Int} {t : Term} (h : SymAt ts i j out) (ht : ts[i]? = some t) (hc : coefAt t j = 0) : SymAt ts i (j + 1) out := by
  refine ⟨h.1, fun x => (h.2 x).trans ?_⟩
  constructor
  · rintro ⟨k, rfl, h1 | ⟨t', h2, h3, h4⟩⟩
    · exact ⟨k, rfl, .inl h1⟩
    · exact ⟨k, rfl, .inr ⟨t', h2, by omega, h4⟩⟩
  · rintro ⟨k, rfl, h1 | ⟨t', h2, h3, h4⟩⟩
    · exact ⟨k, rfl, .inl h1⟩
    · rw [ht] at h2; cases h2
      have : k ≠ j := by rintro rfl; exact h4 hc
      exact ⟨k, rfl, .inr ⟨t, ht, by omega, h4⟩⟩
theorem symAt_put {ts : List Term} {i j : Nat} {out : List Int} {t : Term} (h : SymAt ts i j out) (ht : ts[i]? = some t) (hc : coefAt t j ≠ 0) : SymAt ts i (j + 1) (putL out j) := by
  refine ⟨putL_srt h.1, fun x => ?_⟩
  rw [mem_putL, h.2 x]
  constructor
  · rintro (rfl | ⟨k, rfl, h1 | ⟨t', h2, h3, h4⟩⟩)
    · exact ⟨j, rfl, .inr ⟨t, ht, by omega, hc⟩⟩
    · exact ⟨k, rfl, .inl h1⟩
    · exact ⟨k, rfl, .inr ⟨t', h2, by omega, h4⟩⟩
  · rintro ⟨k, rfl, h1 | ⟨t', h2, h3, h4⟩⟩
    · exact .inr ⟨k, rfl, .inl h1⟩
    · by_cases hk : k = j
      · exact .inl (by rw [hk])
      · exact .inr ⟨k, rfl, .inr ⟨t', h2, by omega, h4⟩⟩
theorem symAt_next {ts : List Term} {i : Nat} {out : List Int} {t : Term} (h : SymAt ts i t.2.length out) (ht : ts[i]? = some t) : SymAt ts (i + 1) 0 out := by
  refine ⟨h.1, fun x => (h.2 x).trans ?_⟩
  have hk : ts.take (i + 1) = ts.take i ++ [t] := by rw [List.take_add_one, ht]; rfl
  constructor
  · rintro ⟨k, rfl, ⟨t', h1, h2⟩ | ⟨t', h2, h3, h4⟩⟩
    · exact ⟨k, rfl, .inl ⟨t', by rw [hk]; simp [h1], h2⟩⟩
    · rw [ht] at h2; cases h2
      exact ⟨k, rfl, .inl ⟨t, by rw [hk]; simp, h4⟩⟩
  · rintro ⟨k, rfl, ⟨t', h1, h2⟩ | ⟨t', h2, h3, h4⟩⟩
    · rw [hk] at h1
      rcases List.mem_append.1 h1 with h1 | h1
      · exact ⟨k, rfl, .inl ⟨t', h1, h2⟩⟩
      · simp at h1; subst h1
        refine ⟨k, rfl, .inr ⟨t', ht, ?_, h2⟩⟩
        rcases Nat.lt_or_ge k t'.2.length with h3 | h3
        · exact h3
        · exfalso; apply h2; unfold coefAt; rw [List.getD_eq_getElem?_getD, List.getElem?_eq_none h3]; rfl
    · omega
theorem symAt_end {ts : List Term} {out : List Int} {i : Nat} (h : SymAt ts i 0 out) (hi : ts.length ≤ i) (hv : ∀ t ∈ ts, t.2.length ≤ 10) : out = symF ts := by
  refine srt_ext h.1 (symK_srt _ _) fun x => (h.2 x).trans ?_
  rw [List.take_of_length_le hi, symF, mem_symK]
  constructor
  · rintro ⟨k, rfl, ⟨t, h1, h2⟩ | ⟨t', h2, h3, h4⟩⟩
    · refine ⟨k, rfl, ?_, by unfold hasSym; rw [List.any_eq_true]; exact ⟨t, h1, by simp [h2]⟩⟩
      have := hv t h1
      rcases Nat.lt_or_ge k t.2.length with h3 | h3
      · omega
      · exfalso; apply h2; unfold coefAt; rw [List.getD_eq_getElem?_getD, List.getElem?_eq_none h3]; rfl
    · omega
  · rintro ⟨k, rfl, h1, h2⟩
    unfold hasSym at h2
    rw [List.any_eq_true] at h2
    obtain ⟨t, h3, h4⟩ := h2
    exact ⟨k, rfl, .inl ⟨t, h3, by simpa using h4⟩⟩
theorem symAt_len {ts : List Term} {out : List Int} {i j : Nat} (h : SymAt ts i j out) (hv : ∀ t ∈ ts, t.2.length ≤ 10) : out.length ≤ 10 := by
  have := srt_len (a := 0) (b := 10) h.1 fun x hx => by
    obtain ⟨k, rfl, hk⟩ := (h.2 x).1 hx
    have hk10 : ∀ t ∈ ts, coefAt t k ≠ 0 → k < 10 := fun t ht hc => by
      have := hv t ht
      rcases Nat.lt_or_ge k t.2.length with h3 | h3
      · omega
      · exfalso; apply hc; unfold coefAt; rw [List.getD_eq_getElem?_getD, List.getElem?_eq_none h3]; rfl
    rcases hk with ⟨t, h1, h2⟩ | ⟨t, h1, h2, h3⟩
    · have := hk10 t (List.mem_of_mem_take h1) h2; omega
    · have := hk10 t (List.mem_of_getElem? h1) h3; omega
  omega
end Go.Proofs.Ytkckhnpdodbffaa
