/- Contracts of chapter 2's reference: validity. -/
import Derived.Test.YtkckhnpdodbffaaL02
import Derived.Test.YtkckhnpdodbffaaOwn
import Derived.Deep.QuietTactic
import Derived.BigQuiet
import Derived.StillTailTactics
namespace Go.Proofs.Ytkckhnpdodbffaa
open Go.RowKit

theorem c_l02Number (n : Int) (w : World) :
    Calls Try.prog 44 #[.int .i64 n] w fun e w' => e = .returned (.bool (inB n (-1000000) 1000000)) ∧ w = w' := by
  go_enter Try.func44, Try.ntmps44
  go_wp2_with (go_at_call 53; refine (c_l00In _ _ _ _).mono ?_; rintro e w' ⟨rfl, rfl⟩)
  go_ret
  exact ⟨rfl, rfl⟩
theorem c_l02Is {S : Nat → Prop} (b off : Nat) (c : Int) (a : Option Addr) (cap : Nat) (zs : List Int) (w : World) (hc : w.cell? ⟨b, off, none⟩ = some (.int .i64 c)) (hc' : w.cell? ⟨b, off + 1, none⟩ = some (.slice a zs.length cap)) (h : SlRd cInt S w a cap zs) :
    Calls Try.prog 27 #[.pointer (some ⟨b, off, none⟩)] w fun e w' => e = .returned (.bool (validTerm (c, zs))) ∧ w = w' := by
  have hl := h.len_le
  have H := hid h
  clear h
  by_cases h2 : inB c (-1000000) 1000000 = true
  · by_cases h1 : zs.length ≤ 10
    · by_cases h4 : zs.length = 0
      · have HF : Hid (validTerm (c, zs) = true) := by unfold Hid; obtain rfl := List.eq_nil_of_length_eq_zero h4; simp [validTerm, h2, allIn, lastOk]
        have h5 : (zs.length : Int) ≤ 0 := by omega
        clear h4
        go_enter Try.func27, Try.ntmps27
        go_wp2_with (go_at_call 44; refine (c_l02Number _ _).mono ?_; rintro e w' ⟨rfl, rfl⟩)
        go_loop [4] (fun i => i = .int .i64 0) (fun i => 0)
        case atStart => rfl
        case round =>
          obtain rfl := hrel
          go_wp2
          go_ret
          exact ⟨ret_bool HF.out.symm, rfl⟩
      · obtain ⟨b1, off1, rfl⟩ := H.out.some_of (k := 0) (by omega)
        obtain ⟨z, hz, hz2, hcz, hb⟩ := H.out.int_at (zs.length - 1) (by omega)
        have hg : zs.getLast? = some z := by rw [List.getLast?_eq_getElem?, hz]
        have h5 : 1 ≤ zs.length := by omega
        clear h4 hz
        by_cases hz0 : z = 0
        · have hz1 : (z == 0) = true := by simp [hz0]
          have HF : Hid (validTerm (c, zs) = false) := by unfold Hid; simp [validTerm, lastOk, hg, hz0]
          clear hg hz0
          go_enter Try.func27, Try.ntmps27
          go_wp2_with (go_at_call 44; refine (c_l02Number _ _).mono ?_; rintro e w' ⟨rfl, rfl⟩)
          go_ret
          exact ⟨ret_bool HF.out.symm, rfl⟩
        · have hz1 : (z == 0) = false := by simp [hz0]
          have HF : Hid (validTerm (c, zs) = allIn zs (-1000000) 1000000) := by unfold Hid; simp [validTerm, h1, h2, lastOk, hg, hz0]
          clear hg hz0
          go_enter Try.func27, Try.ntmps27
          go_wp2_with (go_at_call 44; refine (c_l02Number _ _).mono ?_; rintro e w' ⟨rfl, rfl⟩)
          go_loop [4] (fun i => ∃ k : Nat, k ≤ zs.length ∧ i = .int .i64 k ∧ Hid ((zs.take k).all (fun z => inB z (-1000000) 1000000) = true)) (fun i => zs.length - (intOf i).toNat)
          case atStart => exact ⟨0, Nat.zero_le _, rfl, rfl⟩
          case round =>
            obtain ⟨k, hk, rfl, HA⟩ := hrel
            by_cases hlt : k < zs.length
            · obtain ⟨z', hz', _, hcz', _⟩ := H.out.int_at k hlt
              have HZ := hid hz'
              clear hz'
              by_cases hin : inB z' (-1000000) 1000000 = true
              · go_wp2_with (go_at_call 44; refine (c_l02Number _ _).mono ?_; rintro e w' ⟨rfl, rfl⟩)
                go_round
                case rel => exact ⟨k + 1, by omega, by go_num, (all_take HA.out HZ.out).trans hin⟩
                case measure => simp [intOf]; omega
              · have hin' : inB z' (-1000000) 1000000 = false := by simpa using hin
                go_wp2_with (go_at_call 44; refine (c_l02Number _ _).mono ?_; rintro e w' ⟨rfl, rfl⟩)
                go_ret
                exact ⟨ret_bool (HF.out.trans (all_false HZ.out hin')).symm, rfl⟩
            · go_wp2
              go_ret
              exact ⟨ret_bool (HF.out.trans (all_end HA.out (by omega))).symm, rfl⟩
    · have HF : Hid (validTerm (c, zs) = false) := by unfold Hid; simp [validTerm, h1]
      go_enter Try.func27, Try.ntmps27
      go_wp2_with (go_at_call 44; refine (c_l02Number _ _).mono ?_; rintro e w' ⟨rfl, rfl⟩)
      go_ret
      exact ⟨ret_bool HF.out.symm, rfl⟩
  · have h2' : inB c (-1000000) 1000000 = false := by simpa using h2
    have HF : Hid (validTerm (c, zs) = false) := by unfold Hid; simp [validTerm, h2']
    clear h2
    go_enter Try.func27, Try.ntmps27
    go_wp2_with (go_at_call 44; refine (c_l02Number _ _).mono ?_; rintro e w' ⟨rfl, rfl⟩)
    go_ret
    exact ⟨ret_bool HF.out.symm, rfl⟩
theorem c_l02All {S : Nat → Prop} (a : Option Addr) (cap : Nat) (ts : List Term) (most : Int) (w : World) (h : SlRd cTerm S w a cap ts) :
    Calls Try.prog 19 #[.slice a ts.length cap, .int .i64 most] w fun e w' => e = .returned (.bool (areTerms ts most)) ∧ w = w' := by
  have hl := h.len_le
  have H := hid h
  clear h
  go_enter Try.func19, Try.ntmps19
  go_wp2
  go_loop [5] (fun i => ∃ k : Nat, k ≤ ts.length ∧ i = .int .i64 k ∧ Hid ((ts.take k).all validTerm = true)) (fun i => ts.length - (intOf i).toNat)
  case atStart => exact ⟨0, Nat.zero_le _, rfl, rfl⟩
  case round =>
    obtain ⟨k, hk, rfl, HA⟩ := hrel
    by_cases hlt : k < ts.length
    · obtain ⟨b, off, rfl⟩ := H.out.some_of hlt
      obtain ⟨c, zs, a', cap', hz, hc1, hsl, hc, hc', hb⟩ := H.out.term_at k hlt
      have HZ := hid hz
      clear hz
      by_cases hin : validTerm (c, zs) = true
      · go_wp2_with (go_at_call 27; refine (c_l02Is _ _ _ _ _ _ _ hc hc' hsl).mono ?_; rintro e w' ⟨rfl, rfl⟩)
        go_round
        case rel => exact ⟨k + 1, by omega, by go_num, (all_take HA.out HZ.out).trans hin⟩
        case measure => simp [intOf]; omega
      · have hin' : validTerm (c, zs) = false := by simpa using hin
        go_wp2_with (go_at_call 27; refine (c_l02Is _ _ _ _ _ _ _ hc hc' hsl).mono ?_; rintro e w' ⟨rfl, rfl⟩)
        go_ret
        exact ⟨ret_bool (by simp [areTerms, all_false HZ.out hin']), rfl⟩
    · go_wp2
      go_ret
      exact ⟨ret_bool (by simp [areTerms, all_end HA.out (by omega)]), rfl⟩
theorem c_ValidFacts {S : Nat → Prop} (a : Option Addr) (cap : Nat) (ts : List Term) (w : World) (h : SlRd cTerm S w a cap ts) :
    Calls Try.prog 22 #[.slice a ts.length cap] w fun e w' => e = .returned (.bool (areTerms ts 14)) ∧ Below w.heap.size w w' := by
  go_enter Try.func22, Try.ntmps22
  go_wp2_with (go_at_call 35; refine (c_areTerms _ _ _ _ _ h).mono ?_; rintro e w' ⟨rfl, hb⟩)
  go_ret
  exact ⟨rfl, hb⟩
end Go.Proofs.Ytkckhnpdodbffaa
