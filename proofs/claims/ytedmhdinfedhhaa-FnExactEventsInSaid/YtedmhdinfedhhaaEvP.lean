/- Plain: rising numbers, each once: by sorting and leaving out, or by putting one after another. No program in sight. -/
import Derived.Test.YtedmhdinfedhhaaL02yp
import Derived.Lib.SlicesCompact
namespace Go.Proofs.Ytedmhdinfedhhaa
open Go.Lib

theorem put_fold (es : List Int) : ∀ acc, Srt acc → Srt (es.foldl putL acc) ∧ ∀ x, x ∈ es.foldl putL acc ↔ x ∈ acc ∨ x ∈ es := by
  induction es with
  | nil => intro acc h; exact ⟨h, fun x => by simp⟩
  | cons e es ih =>
    intro acc h
    obtain ⟨h1, h2⟩ := ih (putL acc e) (putL_srt h)
    refine ⟨h1, fun x => ?_⟩
    rw [List.foldl_cons, h2, mem_putL, List.mem_cons]
    constructor
    · rintro ((h | h) | h)
      · exact .inr (.inl h)
      · exact .inl h
      · exact .inr (.inr h)
    · rintro (h | h | h)
      · exact .inl (.inr h)
      · exact .inl (.inl h)
      · exact .inr h
def setF (es : List Int) : List Int := es.foldl putL []
theorem setF_srt (es : List Int) : Srt (setF es) := (put_fold es [] List.Pairwise.nil).1
theorem mem_setF {es : List Int} {x : Int} : x ∈ setF es ↔ x ∈ es := by rw [setF, (put_fold es [] List.Pairwise.nil).2]; simp
theorem setF_take {es : List Int} {k : Nat} {e : Int} (h : es[k]? = some e) : setF (es.take (k + 1)) = putL (setF (es.take k)) e := by
  unfold setF; rw [List.take_add_one, h, List.foldl_append]; rfl
theorem setF_snoc (es : List Int) (e : Int) : setF (es ++ [e]) = putL (setF es) e := by unfold setF; rw [List.foldl_append]; rfl
theorem setF_len (es : List Int) : (setF es).length ≤ es.length := by
  have key : ∀ (es acc : List Int), (es.foldl putL acc).length ≤ acc.length + es.length := by
    intro es
    induction es with
    | nil => intro acc; simp
    | cons e es ih =>
      intro acc
      have h1 := ih (putL acc e)
      have h2 := putL_len (l := acc) (n := e)
      simp only [List.foldl_cons, List.length_cons]; omega
  have := key es []
  simpa [setF] using this
theorem compact_srt (d : Array Int) (hs : ∀ i j, i ≤ j → j < d.size → d[i]! ≤ d[j]!) : ∀ m, m ≤ d.size → Srt (compactUpTo d m) ∧ (∀ x, x ∈ compactUpTo d m ↔ ∃ j, j < m ∧ d[j]! = x) ∧ (∀ x ∈ compactUpTo d m, x ≤ d[m - 1]!) := by
  intro m
  induction m with
  | zero => intro _; simp [compactUpTo, Srt]
  | succ m ih =>
    intro hm
    obtain ⟨h1, h2, h3⟩ := ih (by omega)
    rw [compactUpTo_succ]
    have hmem : ∀ x, (∃ j, j < m + 1 ∧ d[j]! = x) ↔ (∃ j, j < m ∧ d[j]! = x) ∨ d[m]! = x := fun x => by
      constructor
      · rintro ⟨j, hj, e⟩
        rcases Nat.lt_or_eq_of_le (Nat.le_of_lt_succ hj) with g | g
        · exact .inl ⟨j, g, e⟩
        · subst g; exact .inr e
      · rintro (⟨j, hj, e⟩ | e)
        · exact ⟨j, by omega, e⟩
        · exact ⟨m, by omega, e⟩
    by_cases hk : keeps d m = true
    · rw [hk, if_pos rfl]
      refine ⟨?_, fun x => ?_, fun x hx => ?_⟩
      · unfold Srt at h1 ⊢
        rw [List.pairwise_append]
        refine ⟨h1, by simp, fun a ha b hb => ?_⟩
        simp at hb; subst hb
        have g1 := h3 a ha
        obtain ⟨j, hj, _⟩ := (h2 a).1 ha
        have g2 := hs (m - 1) m (by omega) (by omega)
        have g3 : d[m]! ≠ d[m - 1]! := by
          unfold keeps at hk
          have := of_decide_eq_true hk
          rcases this with g | g
          · omega
          · exact g
        omega
      · rw [List.mem_append, h2, hmem]; simp [eq_comm]
      · rw [Nat.add_sub_cancel]
        rcases List.mem_append.1 hx with g | g
        · obtain ⟨j, hj, rfl⟩ := (h2 x).1 g
          exact hs j m (by omega) (by omega)
        · simp at g; rw [g]; exact Int.le_refl _
    · rw [if_neg hk, List.append_nil]
      have g3 : ¬ (m = 0 ∨ d[m]! ≠ d[m - 1]!) := by
        unfold keeps at hk; simpa using hk
      have hm0 : m ≠ 0 := fun e => g3 (.inl e)
      have he : d[m]! = d[m - 1]! := Decidable.byContradiction fun e => g3 (.inr e)
      refine ⟨h1, fun x => ?_, fun x hx => ?_⟩
      · rw [h2, hmem]
        constructor
        · exact fun h => .inl h
        · rintro (h | h)
          · exact h
          · exact ⟨m - 1, by omega, by rw [← he]; exact h⟩
      · rw [Nat.add_sub_cancel, he]; exact h3 x hx
theorem compact_sort (es : List Int) : compact (es.mergeSort fun x y => decide (x ≤ y)) = setF es := by
  obtain ⟨zs, hz⟩ : ∃ zs, (es.mergeSort fun x y => decide (x ≤ y)) = zs := ⟨_, rfl⟩
  have hp : zs.Pairwise fun x y => decide (x ≤ y) = true := by
    rw [← hz]
    exact List.pairwise_mergeSort (fun a b c h1 h2 => by simp at *; omega) (fun a b => by simp; omega) es
  have hm : ∀ x, x ∈ zs ↔ x ∈ es := fun x => by rw [← hz]; exact List.mem_mergeSort
  rw [hz]
  have hg : ∀ i (h : i < zs.length), zs.toArray[i]! = zs[i] := fun i h => by simp [h]
  have hsz : zs.toArray.size = zs.length := by simp
  obtain ⟨h1, h2, _⟩ := compact_srt zs.toArray (fun i j hij hj => by
    rw [hsz] at hj
    rw [hg i (by omega), hg j hj]
    rcases Nat.lt_or_eq_of_le hij with g | g
    · have := (List.pairwise_iff_getElem.1 hp) i j (by omega) hj g
      simpa using this
    · subst g; exact Int.le_refl _) zs.length (by simp)
  refine srt_ext h1 (setF_srt es) fun x => ?_
  rw [mem_setF, ← hm]
  show x ∈ compactUpTo zs.toArray zs.length ↔ _
  rw [h2]
  constructor
  · rintro ⟨j, hj, rfl⟩
    rw [hg j hj]; exact List.getElem_mem hj
  · intro hx
    obtain ⟨j, hj, rfl⟩ := List.mem_iff_getElem.1 hx
    exact ⟨j, hj, hg j hj⟩
end Go.Proofs.Ytedmhdinfedhhaa
