/- Contracts: the program's ValidCode, whose test is a function value. -/
import Derived.Test.YtcbaohcgeoaccaaDoorL07b
namespace Go.Proofs.YtcbaohcgeoaccaaDoor
open Go.RowKit

/-- What a search hands back: the first place that passes the test, or -1. -/
def IdxOk {α : Type} (p : α → Bool) (xs : List α) (r : Int) : Prop := (r = -1 ∧ xs.all (fun x => !p x) = true) ∨ ∃ (k : Nat) (x : α), r = k ∧ xs[k]? = some x ∧ p x = true ∧ (xs.take k).all (fun x => !p x) = true
def RetIdx {α : Type} (p : α → Bool) (xs : List α) (w : World) (e : Ending) (w' : World) : Prop := ∃ r, e = .returned (.int .i64 r) ∧ IdxOk p xs r ∧ Below w.heap.size w w'
theorem IdxOk.all {α : Type} {p : α → Bool} {xs : List α} {r : Int} (h : IdxOk p xs r) : decide (0 ≤ r) = !(xs.all fun x => !p x) := by
  rcases h with ⟨rfl, h⟩ | ⟨k, x, rfl, h1, h2, _⟩
  · rw [h]; rfl
  · have : xs.all (fun x => !p x) = false := all_false h1 (by simp [h2])
    rw [this]; simp
theorem c_ValidCode1 (op arg : Int) (w : World) :
    Calls Tryd.prog 122 #[.agg #[.int .i64 op, .int .i64 arg]] w fun e w' => e = .returned (.bool (!validI (op, arg))) ∧ Below w.heap.size w w' := by
  obtain ⟨r, hr⟩ : ∃ r, validI (op, arg) = r := ⟨_, rfl⟩
  have HR := hid hr
  clear hr
  go_enter Tryd.func122, Tryd.ntmps122
  go_wp2_with (go_at_call 69; refine (c_ValidInstr _ _ _).mono ?_; rintro e w1 ⟨rfl, hb1⟩; rw [HR.out])
  go_ret
  exact ⟨ret_bool (by rw [HR.out]), bel_box (Below.refl _ _) (Nat.le_refl _) hb1⟩
theorem c_idxInvalid {S : Nat → Prop} (a : Option Addr) (cap : Nat) (xs : List Instr) (w : World) (h : SlRd cInstr S w a cap xs) :
    Calls Tryd.prog 148 #[.slice a xs.length cap, .func (.func 122) #[] #[]] w (RetIdx (fun x => !validI x) xs w) := by
  have hl := h.len_le
  have H := hid h
  clear h
  go_enter Tryd.func148, Tryd.ntmps148
  go_wp2
  go_loopw [8] (fun i wr => ∃ k : Nat, k ≤ xs.length ∧ i = .int .i64 k ∧ Hid ((xs.take k).all (fun x => !!validI x) = true) ∧ Below w.heap.size w wr) (fun i _ => xs.length - (intOf i).toNat)
  case atStart => exact ⟨0, Nat.zero_le _, rfl, rfl, Below.refl _ _⟩
  case round =>
    obtain ⟨k, hk, rfl, HA, hbe⟩ := hrel
    have hsz := hbe.size
    by_cases hlt : k < xs.length
    · obtain ⟨b, off, rfl⟩ := H.out.some_of hlt
      obtain ⟨op, arg, hz, _, _, hc, hc', hb⟩ := (H.out.below (Nat.le_refl _) hbe).instr_at k hlt
      have HZ := hid hz
      clear hz
      obtain ⟨r, hr⟩ : ∃ r, validI (op, arg) = r := ⟨_, rfl⟩
      have HR := hid hr
      clear hr
      cases r
      · go_wp2_with (go_at_call 122; refine (c_ValidCode1 _ _ _).mono ?_; rintro e w1 ⟨rfl, hb1⟩; rw [HR.out])
        go_ret
        exact ⟨k, rfl, .inr ⟨k, _, rfl, HZ.out, by simp [HR.out], HA.out⟩, bel_next hbe hsz hb1⟩
      · go_wp2_with (go_at_call 122; refine (c_ValidCode1 _ _ _).mono ?_; rintro e w1 ⟨rfl, hb1⟩; rw [HR.out])
        go_roundw
        case rel => exact ⟨k + 1, by omega, by go_num, (all_take HA.out HZ.out).trans (by simp [HR.out]), bel_next hbe hsz hb1⟩
        case measure => simp [intOf]; omega
    · have HE := hid (all_end HA.out (Nat.le_of_not_lt hlt))
      go_wp2
      go_ret
      exact ⟨-1, rfl, .inl ⟨rfl, HE.out⟩, hbe⟩
theorem c_ValidCode {S : Nat → Prop} (a : Option Addr) (cap : Nat) (xs : List Instr) (w : World) (h : SlRd cInstr S w a cap xs) :
    Calls Tryd.prog 80 #[.slice a xs.length cap] w fun e w' => e = .returned (.bool (validCode xs)) ∧ Below w.heap.size w w' := by
  have H := hid h
  clear h
  by_cases h1 : inB xs.length 1 80 = true
  · have HF : Hid (validCode xs = xs.all validI) := by unfold Hid; simp [validCode, h1]
    go_enter Tryd.func80, Tryd.ntmps80
    go_wp2_with (first | (go_at_call 120; refine (c_size _ _).mono ?_; rintro e w' ⟨rfl, rfl⟩) | (go_at_call 90; refine (c_within _ _ _ _).mono ?_; rintro e w' ⟨rfl, rfl⟩) | (go_at_call 148; refine (c_idxInvalid _ _ _ _ H.out).mono ?_; rintro e w1 ⟨r, rfl, hok, hb1⟩; have hd := hok.all; have HD := hid hd; clear hd hok) | go_in)
    go_ret
    exact ⟨ret_bool (by rw [HF.out, HD.out]; simp), hb1⟩
  · have h1' : inB xs.length 1 80 = false := by simpa using h1
    have HF : Hid (validCode xs = false) := by unfold Hid; simp [validCode, h1']
    clear h1
    go_enter Tryd.func80, Tryd.ntmps80
    go_wp2_with (first | (go_at_call 120; refine (c_size _ _).mono ?_; rintro e w' ⟨rfl, rfl⟩) | (go_at_call 90; refine (c_within _ _ _ _).mono ?_; rintro e w' ⟨rfl, rfl⟩))
    go_ret
    exact ⟨ret_bool HF.out.symm, Below.refl _ _⟩
end Go.Proofs.YtcbaohcgeoaccaaDoor
