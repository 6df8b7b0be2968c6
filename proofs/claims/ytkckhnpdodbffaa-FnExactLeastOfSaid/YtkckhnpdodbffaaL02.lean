/- Contracts of chapter 2's functions, program and reference. -/
import Derived.Test.YtkckhnpdodbffaaL01
import Derived.Test.YtkckhnpdodbffaaMem
namespace Go.Proofs.Ytkckhnpdodbffaa
open Go.RowKit

def allIn (zs : List Int) (lo hi : Int) : Bool := zs.all fun z => inB z lo hi
def lastOk (zs : List Int) : Bool := match zs.getLast? with | some z => z != 0 | none => true
def validTerm (t : Term) : Bool := decide (t.2.length ≤ 10) && inB t.1 (-1000000) 1000000 && allIn t.2 (-1000000) 1000000 && lastOk t.2
def areTerms (ts : List Term) (most : Int) : Bool := decide ((ts.length : Int) ≤ most) && ts.all validTerm
theorem all_take {α : Type} {p : α → Bool} {l : List α} {k : Nat} {x : α} (h : (l.take k).all p = true) (hx : l[k]? = some x) : (l.take (k + 1)).all p = p x := by
  rw [List.take_add_one, hx, List.all_append, h]; simp
theorem all_false {α : Type} {p : α → Bool} {l : List α} {k : Nat} {x : α} (hx : l[k]? = some x) (h : p x = false) : l.all p = false := by
  rw [List.all_eq_false]; exact ⟨x, List.mem_of_getElem? hx, by simp [h]⟩
theorem all_end {α : Type} {p : α → Bool} {l : List α} {k : Nat} (h : (l.take k).all p = true) (hk : l.length ≤ k) : l.all p = true := by
  rwa [List.take_of_length_le hk] at h

theorem c_allWithin {S : Nat → Prop} (a : Option Addr) (cap : Nat) (zs : List Int) (lo hi : Int) (w : World) (h : SlRd cInt S w a cap zs) :
    Calls Try.prog 49 #[.slice a zs.length cap, .int .i64 lo, .int .i64 hi] w fun e w' => e = .returned (.bool (allIn zs lo hi)) ∧ w = w' := by
  have hl := h.len_le
  have H := hid h
  clear h
  go_enter Try.func49, Try.ntmps49
  go_wp2
  go_loop [11] (fun i => ∃ k : Nat, k ≤ zs.length ∧ i = .int .i64 k ∧ Hid ((zs.take k).all (fun z => inB z lo hi) = true)) (fun i => zs.length - (intOf i).toNat)
  case atStart => exact ⟨0, Nat.zero_le _, rfl, rfl⟩
  case round =>
    obtain ⟨k, hk, rfl, HA⟩ := hrel
    by_cases hlt : k < zs.length
    · obtain ⟨b, off, rfl⟩ := H.out.some_of hlt
      obtain ⟨z, hz, hz2, hc, hb⟩ := H.out.int_at k hlt
      have HZ := hid hz
      clear hz
      by_cases hin : inB z lo hi = true
      · go_wp2_with (go_at_call 55; refine (c_within _ _ _ _).mono ?_; rintro e w' ⟨rfl, rfl⟩)
        go_round
        case rel => exact ⟨k + 1, by omega, by go_num, (all_take HA.out HZ.out).trans hin⟩
        case measure => simp [intOf]; omega
      · have hin' : inB z lo hi = false := by simpa using hin
        go_wp2_with (go_at_call 55; refine (c_within _ _ _ _).mono ?_; rintro e w' ⟨rfl, rfl⟩)
        go_ret
        exact ⟨ret_bool (all_false HZ.out hin').symm, rfl⟩
    · go_wp2
      go_ret
      exact ⟨ret_bool (all_end HA.out (by omega)).symm, rfl⟩
theorem c_isCoeff (n : Int) (w : World) :
    Calls Try.prog 48 #[.int .i64 n] w fun e w' => e = .returned (.bool (inB n (-1000000) 1000000)) ∧ w = w' := by
  go_enter Try.func48, Try.ntmps48
  go_wp2_with (go_at_call 55; refine (c_within _ _ _ _).mono ?_; rintro e w' ⟨rfl, rfl⟩)
  go_ret
  exact ⟨rfl, rfl⟩
theorem c_ValidTerm {S : Nat → Prop} (c : Int) (a : Option Addr) (cap : Nat) (zs : List Int) (w : World) (h : SlRd cInt S w a cap zs) :
    Calls Try.prog 36 #[.agg #[.int .i64 c, .slice a zs.length cap]] w fun e w' => e = .returned (.bool (validTerm (c, zs))) ∧ Below w.heap.size w w' := by
  have hl := h.len_le
  have hb0 : Below w.heap.size w (w.alloc (.cells #[.int .i64 c, .slice a zs.length cap] 39)) := (Below.refl _ _).alloc (Nat.le_refl _) _
  have H0 := hid (h.below (Nat.le_refl _) hb0)
  have H := hid h
  clear h
  by_cases h1 : zs.length ≤ 10
  · by_cases h2 : inB c (-1000000) 1000000 = true
    · by_cases h3 : allIn zs (-1000000) 1000000 = true
      · by_cases h4 : zs.length = 0
        · have h4' : ((zs.length : Int) == 0) = true := by simp [h4]
          have HF : Hid (validTerm (c, zs) = true) := by unfold Hid; obtain rfl := List.eq_nil_of_length_eq_zero h4; simp [validTerm, h2, allIn, lastOk]
          clear h4
          go_enter Try.func36, Try.ntmps36
          go_wp2_with (first | (go_at_call 48; refine (c_isCoeff _ _).mono ?_; rintro e w' ⟨rfl, rfl⟩) | (go_at_call 49; refine (c_allWithin _ _ _ _ _ _ H0.out).mono ?_; rintro e w' ⟨rfl, rfl⟩))
          go_ret
          exact ⟨ret_bool HF.out.symm, hb0⟩
        · have h4' : ((zs.length : Int) == 0) = false := by simp; simpa using h4
          obtain ⟨b, off, rfl⟩ := H.out.some_of (k := 0) (by omega)
          obtain ⟨z, hz, hz2, hc, hb⟩ := H.out.int_at (zs.length - 1) (by omega)
          have HF : Hid (validTerm (c, zs) = (z != 0)) := by unfold Hid; simp [validTerm, h1, h2, h3, lastOk, List.getLast?_eq_getElem?, hz]
          clear hz
          have h5 : 1 ≤ zs.length := by omega
          clear h4
          go_enter Try.func36, Try.ntmps36
          go_wp2_with (first | (go_at_call 48; refine (c_isCoeff _ _).mono ?_; rintro e w' ⟨rfl, rfl⟩) | (go_at_call 49; refine (c_allWithin _ _ _ _ _ _ H0.out).mono ?_; rintro e w' ⟨rfl, rfl⟩))
          go_ret
          exact ⟨ret_bool HF.out.symm, hb0⟩
      · have h3' : allIn zs (-1000000) 1000000 = false := by simpa using h3
        have HF : Hid (validTerm (c, zs) = false) := by unfold Hid; simp [validTerm, h3']
        clear h3
        go_enter Try.func36, Try.ntmps36
        go_wp2_with (first | (go_at_call 48; refine (c_isCoeff _ _).mono ?_; rintro e w' ⟨rfl, rfl⟩) | (go_at_call 49; refine (c_allWithin _ _ _ _ _ _ H0.out).mono ?_; rintro e w' ⟨rfl, rfl⟩))
        go_ret
        exact ⟨ret_bool HF.out.symm, hb0⟩
    · have h2' : inB c (-1000000) 1000000 = false := by simpa using h2
      have HF : Hid (validTerm (c, zs) = false) := by unfold Hid; simp [validTerm, h2']
      clear h2
      go_enter Try.func36, Try.ntmps36
      go_wp2_with (go_at_call 48; refine (c_isCoeff _ _).mono ?_; rintro e w' ⟨rfl, rfl⟩)
      go_ret
      exact ⟨ret_bool HF.out.symm, hb0⟩
  · have HF : Hid (validTerm (c, zs) = false) := by unfold Hid; simp [validTerm, h1]
    go_enter Try.func36, Try.ntmps36
    go_wp2
    go_ret
    exact ⟨ret_bool HF.out.symm, hb0⟩
theorem c_areTerms {S : Nat → Prop} (a : Option Addr) (cap : Nat) (ts : List Term) (most : Int) (w : World) (h : SlRd cTerm S w a cap ts) :
    Calls Try.prog 35 #[.slice a ts.length cap, .int .i64 most] w fun e w' => e = .returned (.bool (areTerms ts most)) ∧ Below w.heap.size w w' := by
  have hl := h.len_le
  have H := hid h
  clear h
  by_cases h1 : (ts.length : Int) ≤ most
  · go_enter Try.func35, Try.ntmps35
    go_wp2
    go_loopw [13] (fun i wr => ∃ k : Nat, k ≤ ts.length ∧ i = .int .i64 k ∧ Hid ((ts.take k).all validTerm = true) ∧ Below w.heap.size w wr) (fun i _ => ts.length - (intOf i).toNat)
    case atStart => exact ⟨0, Nat.zero_le _, rfl, rfl, Below.refl _ _⟩
    case round =>
      obtain ⟨k, hk, rfl, HA, hbe⟩ := hrel
      have hsz := hbe.size
      by_cases hlt : k < ts.length
      · obtain ⟨b, off, rfl⟩ := H.out.some_of hlt
        obtain ⟨c, zs, a', cap', hz, hc1, hsl, hc, hc', hb⟩ := (H.out.below (Nat.le_refl _) hbe).term_at k hlt
        have HZ := hid hz
        have HS := hid hsl
        clear hz hsl
        by_cases hin : validTerm (c, zs) = true
        · go_wp2_with (go_at_call 36; refine (c_ValidTerm _ _ _ _ _ (HS.out.alloc _)).mono ?_; rintro e w' ⟨rfl, hb1⟩)
          go_roundw
          case rel => exact ⟨k + 1, by omega, by go_num, (all_take HA.out HZ.out).trans hin, bel_box hbe hsz hb1⟩
          case measure => simp [intOf]; omega
        · have hin' : validTerm (c, zs) = false := by simpa using hin
          go_wp2_with (go_at_call 36; refine (c_ValidTerm _ _ _ _ _ (HS.out.alloc _)).mono ?_; rintro e w' ⟨rfl, hb1⟩)
          go_ret
          exact ⟨ret_bool (by simp [areTerms, all_false HZ.out hin']), bel_box hbe hsz hb1⟩
      · go_wp2
        go_ret
        exact ⟨ret_bool (by simp [areTerms, h1, all_end HA.out (by omega)]), hbe⟩
  · go_enter Try.func35, Try.ntmps35
    go_wp2
    go_ret
    exact ⟨ret_bool (by simp [areTerms]; omega), Below.refl _ _⟩
end Go.Proofs.Ytkckhnpdodbffaa
