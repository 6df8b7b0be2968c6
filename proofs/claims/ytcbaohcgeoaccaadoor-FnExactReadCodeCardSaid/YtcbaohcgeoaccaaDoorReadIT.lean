/- Plain: instructions read from their texts. -/
import Derived.Test.YtcbaohcgeoaccaaDoorReadT
import Derived.Test.YtcbaohcgeoaccaaDoorD07
namespace Go.Proofs.YtcbaohcgeoaccaaDoor
open Go.RowKit

def fin (s : List UInt8) (x : Instr) : Instr × Bool := if validI x = true ∧ lineF x = s then (x, true) else ((0, 0), false)
def readIF (s : List UInt8) : Instr × Bool :=
  let op := idxF opW (Lib.cut s [32]).1 0
  fin s (op, if argB op then (readF (Lib.cut s [32]).2.1).1 else 0)
def opK (a : List UInt8) : Nat → Int
  | 0 => -1
  | k + 1 => if wordF k == a then (k : Int) else opK a k
def readIS (s : List UInt8) : Instr × Bool :=
  if (cutL 32 s).length = 2 then
    if (readF ((cutL 32 s)[1]?.getD [])).2 then fin s (opK ((cutL 32 s)[0]?.getD []) 12, (readF ((cutL 32 s)[1]?.getD [])).1) else ((0, 0), false)
  else fin s (opK ((cutL 32 s)[0]?.getD []) 12, 0)
theorem opw_facts : ∀ q : Fin 12, 32 ∉ wordF (q.val : Nat) ∧ idxF opW (wordF (q.val : Nat)) 0 = (q.val : Nat) ∧ opK (wordF (q.val : Nat)) 12 = (q.val : Nat) := by decide +kernel
theorem digs_no32 (u : Nat) : (32 : UInt8) ∉ digs u := by
  induction u using Nat.strongRecOn with
  | _ u ih =>
    by_cases h : 0 < u
    · rw [digs_pos h, List.mem_append, not_or]
      refine ⟨ih _ (by omega), ?_⟩
      intro hm
      have := congrArg UInt8.toNat (List.mem_singleton.1 hm)
      rw [dig_nat (u % 10) (by omega)] at this
      simp at this; omega
    · rw [show u = 0 by omega, digs_zero]; simp
theorem itoa_no32 (n : Int) : (32 : UInt8) ∉ Lib.itoa n := by
  rcases Int.lt_trichotomy n 0 with h0 | h0 | h0
  · rw [itoa_neg' h0, List.mem_cons, not_or]; exact ⟨by decide, digs_no32 _⟩
  · subst h0; rw [itoa_zero]; decide
  · rw [itoa_pos h0]; exact digs_no32 _
theorem readF_itoa (n : Int) (h : inB n (-1000000000) 1000000000 = true) : readF (Lib.itoa n) = (n, true) := by
  have hn := inB_iff.1 h
  rw [readF_ok (parse_itoa n (by omega) (by omega)), if_pos ⟨h, rfl⟩]
theorem validI_arg {x : Instr} (h : validI x = true) : (argB x.1 = true ∧ inB x.2 (-1000000000) 1000000000 = true) ∨ (argB x.1 = false ∧ x.2 = 0) := by
  obtain ⟨op, arg⟩ := x
  unfold validI at h
  simp only at h ⊢
  have hin : ∀ lo hi : Int, -1000000000 ≤ lo → hi ≤ 1000000000 → inB arg lo hi = true → inB arg (-1000000000) 1000000000 = true := fun lo hi h1 h2 h3 => by
    have := inB_iff.1 h3; exact inB_iff.2 ⟨by omega, by omega⟩
  split at h
  · exact .inl ⟨by unfold argB; rename_i e; rcases e with rfl | rfl <;> rfl, hin _ _ (by omega) (by omega) h⟩
  · split at h
    · exact .inl ⟨by unfold argB; rename_i e; rcases e with rfl | rfl <;> rfl, hin _ _ (by omega) (by omega) h⟩
    · split at h
      · exact .inl ⟨by unfold argB; rename_i e; rcases e with rfl | rfl <;> rfl, hin _ _ (by omega) (by omega) h⟩
      · split at h
        · exact .inl ⟨by unfold argB; rename_i e; subst e; rfl, hin _ _ (by omega) (by omega) h⟩
        · split at h
          · refine .inr ⟨?_, by simpa using h⟩
            unfold argB
            simp
            omega
          · cases h
theorem fin_ok {s : List UInt8} {x y : Instr} (h : fin s x = (y, true)) : validI y = true ∧ lineF y = s := by
  unfold fin at h
  split at h
  · rename_i hc
    cases h; exact hc
  · cases h
theorem fin_no {s : List UInt8} {x y : Instr} (h : fin s x = (y, false)) : y = (0, 0) := by
  unfold fin at h
  split at h
  · cases h
  · cases h; rfl
theorem readIF_of {s : List UInt8} {x : Instr} (hv : validI x = true) (hs : lineF x = s) : readIF s = (x, true) := by
  obtain ⟨h0, h1⟩ := validI_op hv
  obtain ⟨op, arg⟩ := x
  simp only at h0 h1
  obtain ⟨k, rfl⟩ := Int.eq_ofNat_of_zero_le h0
  obtain ⟨f1, f2, _⟩ := opw_facts ⟨k, by omega⟩
  simp only at f1 f2
  have hx : (idxF opW (Lib.cut s [32]).1 0, if argB (idxF opW (Lib.cut s [32]).1 0) then (readF (Lib.cut s [32]).2.1).1 else 0) = ((k : Int), arg) := by
    rcases validI_arg hv with ⟨ha, hb⟩ | ⟨ha, hb⟩
    · simp only at ha hb
      have e : s = wordF k ++ 32 :: Lib.itoa arg := by rw [← hs, line_yes ha]
      have hc : Lib.cut s [32] = (wordF k, Lib.itoa arg, true) := by
        unfold Lib.cut
        rw [e, index_at 32 _ _ f1, if_pos (by omega), Int.toNat_natCast, List.take_left, List.drop_append, List.drop_of_length_le (by simp)]
        simp
      rw [hc]; simp only; rw [f2, if_pos ha, readF_itoa arg hb]
    · simp only at ha hb
      subst hb
      have e : s = wordF k := by rw [← hs, line_no ha]
      rcases cut_at 32 s with ⟨_, hc, _⟩ | ⟨a, b, he, _, _⟩
      · rw [hc, e]; simp only; rw [f2, if_neg (by simp [ha])]
      · exfalso; rw [e] at he; exact f1 (by rw [he]; simp)
  unfold readIF
  simp only
  rw [hx]
  unfold fin
  rw [if_pos ⟨hv, hs⟩]
theorem readIS_of {s : List UInt8} {x : Instr} (hv : validI x = true) (hs : lineF x = s) : readIS s = (x, true) := by
  obtain ⟨h0, h1⟩ := validI_op hv
  obtain ⟨op, arg⟩ := x
  simp only at h0 h1
  obtain ⟨k, rfl⟩ := Int.eq_ofNat_of_zero_le h0
  obtain ⟨f1, _, f3⟩ := opw_facts ⟨k, by omega⟩
  simp only at f1 f3
  rcases validI_arg hv with ⟨ha, hb⟩ | ⟨ha, hb⟩
  · simp only at ha hb
    have e : s = wordF k ++ 32 :: Lib.itoa arg := by rw [← hs, line_yes ha]
    have hc : cutL 32 s = [wordF k, Lib.itoa arg] := by rw [e, cutL_hit 32 _ _ f1, cutL_none 32 _ (itoa_no32 arg)]
    unfold readIS
    rw [hc]
    simp only [List.length_cons, List.length_nil, List.getElem?_cons_zero, List.getElem?_cons_succ, Option.getD_some, Nat.zero_add, if_true]
    rw [readF_itoa arg hb, f3]
    simp only [if_true]
    unfold fin
    rw [if_pos ⟨hv, hs⟩]
  · simp only at ha hb
    subst hb
    have e : s = wordF k := by rw [← hs, line_no ha]
    have hc : cutL 32 s = [wordF k] := by rw [e, cutL_none 32 _ f1]
    unfold readIS
    rw [hc]
    simp only [List.length_cons, List.length_nil, List.getElem?_cons_zero, Option.getD_some]
    rw [if_neg (by omega), f3]
    unfold fin
    rw [if_pos ⟨hv, hs⟩]
theorem readIS_cases (s : List UInt8) : (∃ x, readIS s = (x, true) ∧ validI x = true ∧ lineF x = s) ∨ readIS s = ((0, 0), false) := by
  obtain ⟨⟨x, b⟩, hx⟩ : ∃ q, readIS s = q := ⟨_, rfl⟩
  rw [hx]
  unfold readIS at hx
  split at hx
  · split at hx
    · cases b
      · right; rw [fin_no hx]
      · left; exact ⟨x, rfl, fin_ok hx⟩
    · right; exact hx.symm
  · cases b
    · right; rw [fin_no hx]
    · left; exact ⟨x, rfl, fin_ok hx⟩
theorem readIF_cases (s : List UInt8) : (∃ x, readIF s = (x, true) ∧ validI x = true ∧ lineF x = s) ∨ readIF s = ((0, 0), false) := by
  obtain ⟨⟨x, b⟩, hx⟩ : ∃ q, readIF s = q := ⟨_, rfl⟩
  rw [hx]
  unfold readIF at hx
  simp only at hx
  cases b
  · right; rw [fin_no hx]
  · left; exact ⟨x, rfl, fin_ok hx⟩
theorem readIS_eq (s : List UInt8) : readIS s = readIF s := by
  rcases readIS_cases s with ⟨x, h1, h2, h3⟩ | h1
  · rw [h1, readIF_of h2 h3]
  · rcases readIF_cases s with ⟨x, h4, h2, h3⟩ | h4
    · rw [readIS_of h2 h3] at h1; cases h1
    · rw [h1, h4]
end Go.Proofs.YtcbaohcgeoaccaaDoor
