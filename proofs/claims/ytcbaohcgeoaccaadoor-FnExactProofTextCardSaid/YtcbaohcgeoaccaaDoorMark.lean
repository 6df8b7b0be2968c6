/- Contracts of the laws' helpers that write marks into numbers and look whether they hold. -/
import Derived.Test.YtcbaohcgeoaccaaDoorHlp
import Derived.Test.YtcbaohcgeoaccaaDoorTurn
namespace Go.Proofs.YtcbaohcgeoaccaaDoor
open Go.RowKit

theorem SlRd.store_int {S : Nat → Prop} {w : World} {b off cap : Nat} {zs : List Int} (h : SlRd cInt S w (some ⟨b, off, none⟩) cap zs) (k : Nat) (hk : k < zs.length) (z : Int) (hz : I64 z) :
    SlRd cInt S (w.setCell ⟨b, off + k, none⟩ (.int .i64 z)) (some ⟨b, off, none⟩) cap (zs.set k z) := by
  refine ⟨by simpa using h.1, h.2.1, h.2.2.1, ?_⟩
  rintro x ⟨⟩ i d hi
  have hil : i < zs.length := by
    have := (List.getElem?_eq_some_iff.1 hi).1; simpa using this
  obtain ⟨⟨h5, h6, h7⟩, cs, ⟨rfl, hd⟩, hc⟩ := h.2.2.2 _ rfl i zs[i] (by simp [hil])
  have hc0 := hc 0 _ rfl
  simp only [cInt, Nat.mul_one, Nat.add_zero] at hc0 h7 h6
  refine ⟨⟨rfl, h6, by show b < (w.setCell _ _).heap.size; simpa [World.setCell] using h7⟩, [.int .i64 d], ?_, ?_⟩
  · refine ⟨rfl, ?_⟩
    rw [List.getElem?_set] at hi
    split at hi
    · cases hi; exact hz
    · rw [List.getElem?_eq_getElem hil] at hi; cases hi; exact hd
  · intro j u hj
    cases j with
    | succ j => simp at hj
    | zero =>
      simp at hj; subst hj
      simp only [cInt, Nat.mul_one, Nat.add_zero]
      rw [List.getElem?_set] at hi
      by_cases hki : k = i
      · subst hki
        rw [if_pos rfl, if_pos hk] at hi
        cases hi
        simp [go_sem, hc0]
      · rw [if_neg hki, List.getElem?_eq_getElem hil] at hi
        cases hi
        have hne : off + i ≠ off + k := by omega
        simp [go_sem, hc0]
        try omega
/-- m, m + 1, .. -/
def upFrom (m : Int) (ys : List Int) : Prop := ∀ j : Nat, j < ys.length → ys[j]? = some (m + j)
def RetMarked (n : Nat) (m : Int) (S : Nat → Prop) (a : Option Addr) (cap : Nat) (w : World) (e : Ending) (w' : World) : Prop :=
  e = .returned (.int .i64 (m + n)) ∧ (∃ ys : List Int, ys.length = n ∧ upFrom m ys ∧ SlRd cInt S w' a cap ys) ∧ Turned S w w'
end Go.Proofs.YtcbaohcgeoaccaaDoor
