/- Contracts of chapter 7's functions: instructions and code. -/
import Derived.Test.YtcbaohcgeoaccaaDoorL02
import Derived.Test.YtcbaohcgeoaccaaDoorHlp
namespace Go.Proofs.YtcbaohcgeoaccaaDoor
open Go.RowKit

def validI (x : Instr) : Bool :=
  if x.1 = 0 ∨ x.1 = 4 then inB x.2 (-1000000) 1000000
  else if x.1 = 1 ∨ x.1 = 2 then inB x.2 0 3
  else if x.1 = 5 ∨ x.1 = 6 then inB x.2 0 79
  else if x.1 = 9 then inB x.2 0 3
  else if x.1 = 3 ∨ x.1 = 7 ∨ x.1 = 8 ∨ x.1 = 10 ∨ x.1 = 11 then x.2 == 0
  else false
theorem op_cases (op : Int) : (op = 0 ∨ op = 1 ∨ op = 2 ∨ op = 3 ∨ op = 4 ∨ op = 5 ∨ op = 6 ∨ op = 7 ∨ op = 8 ∨ op = 9 ∨ op = 10 ∨ op = 11) ∨ (op < 0 ∨ 11 < op) := by omega
theorem validI_out {op arg : Int} (h : op < 0 ∨ 11 < op) : validI (op, arg) = false := by
  unfold validI
  simp only
  rw [if_neg (by omega), if_neg (by omega), if_neg (by omega), if_neg (by omega), if_neg (by omega)]
theorem ne_out {op k : Int} (h : op < 0 ∨ 11 < op) (h0 : 0 ≤ k) (h1 : k ≤ 11) : (op == k) = false := by simp; omega

theorem c7_isCoeff (n : Int) (w : World) : Calls Tryd.prog 113 #[.int .i64 n] w fun e w' => e = .returned (.bool (inB n (-1000000) 1000000)) ∧ w = w' := c_isCoeff n w
theorem c_isVar (n : Int) (w : World) : Calls Tryd.prog 114 #[.int .i64 n] w fun e w' => e = .returned (.bool (inB n 0 3)) ∧ w = w' := by
  go_enter Tryd.func114, Tryd.ntmps114
  go_wp2_with (go_at_call 90; refine (c_within _ _ _ _).mono ?_; rintro e w' ⟨rfl, rfl⟩)
  go_ret
  exact ⟨rfl, rfl⟩
theorem c_isEvent (n : Int) (w : World) : Calls Tryd.prog 116 #[.int .i64 n] w fun e w' => e = .returned (.bool (inB n 0 3)) ∧ w = w' := by
  go_enter Tryd.func116, Tryd.ntmps116
  go_wp2_with (go_at_call 90; refine (c_within _ _ _ _).mono ?_; rintro e w' ⟨rfl, rfl⟩)
  go_ret
  exact ⟨rfl, rfl⟩
theorem c_isPlace (n : Int) (w : World) : Calls Tryd.prog 115 #[.int .i64 n] w fun e w' => e = .returned (.bool (inB n 0 79)) ∧ w = w' := by
  go_enter Tryd.func115, Tryd.ntmps115
  go_wp2_with (go_at_call 90; refine (c_within _ _ _ _).mono ?_; rintro e w' ⟨rfl, rfl⟩)
  go_ret
  exact ⟨rfl, rfl⟩
set_option maxHeartbeats 1000000 in
theorem c_ValidInstr (op arg : Int) (w : World) :
    Calls Tryd.prog 69 #[.agg #[.int .i64 op, .int .i64 arg]] w fun e w' => e = .returned (.bool (validI (op, arg))) ∧ Below w.heap.size w w' := by
  rcases op_cases op with h | h
  · rcases h with rfl | rfl | rfl | rfl | rfl | rfl | rfl | rfl | rfl | rfl | rfl | rfl
    all_goals
      go_enter Tryd.func69, Tryd.ntmps69
      go_wp2_with (first | (go_at_call 113; refine (c_isCoeff _ _).mono ?_; rintro e w' ⟨rfl, rfl⟩) | (go_at_call 114; refine (c_isVar _ _).mono ?_; rintro e w' ⟨rfl, rfl⟩) | (go_at_call 115; refine (c_isPlace _ _).mono ?_; rintro e w' ⟨rfl, rfl⟩) | (go_at_call 116; refine (c_isEvent _ _).mono ?_; rintro e w' ⟨rfl, rfl⟩))
      go_ret
      exact ⟨ret_bool (by simp [validI]), (Below.refl _ _).alloc (Nat.le_refl _) _⟩
  · have h0 := ne_out h (show (0 : Int) ≤ 0 by omega) (by omega)
    have h1 := ne_out h (show (0 : Int) ≤ 1 by omega) (by omega)
    have h2 := ne_out h (show (0 : Int) ≤ 2 by omega) (by omega)
    have h3 := ne_out h (show (0 : Int) ≤ 3 by omega) (by omega)
    have h4 := ne_out h (show (0 : Int) ≤ 4 by omega) (by omega)
    have h5 := ne_out h (show (0 : Int) ≤ 5 by omega) (by omega)
    have h6 := ne_out h (show (0 : Int) ≤ 6 by omega) (by omega)
    have h7 := ne_out h (show (0 : Int) ≤ 7 by omega) (by omega)
    have h8 := ne_out h (show (0 : Int) ≤ 8 by omega) (by omega)
    have h9 := ne_out h (show (0 : Int) ≤ 9 by omega) (by omega)
    have h10 := ne_out h (show (0 : Int) ≤ 10 by omega) (by omega)
    have h11 := ne_out h (show (0 : Int) ≤ 11 by omega) (by omega)
    have HF := hid (validI_out (arg := arg) h)
    clear h
    go_enter Tryd.func69, Tryd.ntmps69
    go_wp2
    go_ret
    exact ⟨ret_bool HF.out.symm, (Below.refl _ _).alloc (Nat.le_refl _) _⟩
theorem c7_l02Number (n : Int) (w : World) :
    Calls Tryd.prog 109 #[.int .i64 n] w fun e w' => e = .returned (.bool (inB n (-1000000) 1000000)) ∧ w = w' := by
  go_enter Tryd.func109, Tryd.ntmps109
  go_wp2_with (go_at_call 110; refine (c_l00In _ _ _ _).mono ?_; rintro e w' ⟨rfl, rfl⟩)
  go_ret
  exact ⟨rfl, rfl⟩
set_option maxHeartbeats 1000000 in
theorem c_l07Instr (op arg : Int) (w : World) :
    Calls Tryd.prog 67 #[.agg #[.int .i64 op, .int .i64 arg]] w fun e w' => e = .returned (.bool (validI (op, arg))) ∧ Below w.heap.size w w' := by
  rcases op_cases op with h | h
  · rcases h with rfl | rfl | rfl | rfl | rfl | rfl | rfl | rfl | rfl | rfl | rfl | rfl
    all_goals
      go_enter Tryd.func67, Tryd.ntmps67
      go_wp2_with (first | (go_at_call 109; refine (c7_l02Number _ _).mono ?_; rintro e w' ⟨rfl, rfl⟩) | (go_at_call 110; refine (c_l00In _ _ _ _).mono ?_; rintro e w' ⟨rfl, rfl⟩))
      go_ret
      exact ⟨ret_bool (by simp [validI]), (Below.refl _ _).alloc (Nat.le_refl _) _⟩
  · have h0 := ne_out h (show (0 : Int) ≤ 0 by omega) (by omega)
    have h1 := ne_out h (show (0 : Int) ≤ 1 by omega) (by omega)
    have h2 := ne_out h (show (0 : Int) ≤ 2 by omega) (by omega)
    have h3 := ne_out h (show (0 : Int) ≤ 3 by omega) (by omega)
    have h4 := ne_out h (show (0 : Int) ≤ 4 by omega) (by omega)
    have h5 := ne_out h (show (0 : Int) ≤ 5 by omega) (by omega)
    have h6 := ne_out h (show (0 : Int) ≤ 6 by omega) (by omega)
    have h7 := ne_out h (show (0 : Int) ≤ 7 by omega) (by omega)
    have h8 := ne_out h (show (0 : Int) ≤ 8 by omega) (by omega)
    have h9 := ne_out h (show (0 : Int) ≤ 9 by omega) (by omega)
    have h10 := ne_out h (show (0 : Int) ≤ 10 by omega) (by omega)
    have h11 := ne_out h (show (0 : Int) ≤ 11 by omega) (by omega)
    have HF := hid (validI_out (arg := arg) h)
    clear h
    go_enter Tryd.func67, Tryd.ntmps67
    go_wp2
    go_ret
    exact ⟨ret_bool HF.out.symm, (Below.refl _ _).alloc (Nat.le_refl _) _⟩
theorem c_toInstr (op arg : Int) (w : World) :
    Calls Tryd.prog 25 #[.agg #[.int .i64 op, .int .i64 arg]] w fun e w' => e = .returned (.agg #[.int .i64 op, .int .i64 arg]) ∧ Below w.heap.size w w' := by
  go_enter Tryd.func25, Tryd.ntmps25
  go_wp2
  refine bodyPost_ret (v := .agg #[.int .i64 op, .int .i64 arg]) (by simp [results, Tryd.results25, go_sem]) rfl ⟨rfl, ?_⟩
  repeat' (first | exact Below.refl _ _ | refine Below.setCell ?_ ?_ _ | refine Below.alloc ?_ ?_ _)
  all_goals (simp [World.setCell]; try omega)
end Go.Proofs.YtcbaohcgeoaccaaDoor
