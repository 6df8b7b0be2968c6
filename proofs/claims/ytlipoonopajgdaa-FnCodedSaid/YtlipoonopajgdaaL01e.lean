/- Contracts: codes read back. -/
import Derived.Test.YtlipoonopajgdaaL01c
import Derived.Test.YtlipoonopajgdaaL01ep
import Derived.Test.YtlipoonopajgdaaL02
import Derived.Deep.QuietTactic
import Derived.BigQuiet
import Derived.Deep.RegionHeld3
namespace Go.Proofs.Ytlipoonopajgdaa
open Go.RowKit

theorem drop_get (s : ByteArray) (q k : Nat) (h : q ≤ k) (hk : k < s.size) : (s.data.toList.drop q)[k - q]? = some s[k] := by
  rw [List.getElem?_drop, show q + (k - q) = k by omega]
  simp [ByteArray.getElem_eq_getElem_data]
theorem prod_le (c : UInt8) (U : Nat) (h : U ≤ 562949953421312) : 0 ≤ (c.toNat : Int) % 128 * (U : Int) ∧ (c.toNat : Int) % 128 * (U : Int) ≤ 72057594037927936 := by
  have h1 : (c.toNat % 128) * U ≤ 128 * 562949953421312 := Nat.mul_le_mul (by omega) h
  have h2 : (c.toNat : Int) % 128 * (U : Int) = ((c.toNat % 128 * U : Nat) : Int) := by rw [Int.natCast_mul]; rfl
  omega
theorem unzig_odd {V : Nat} (h : V % 2 = 1) : unzig V = -((V : Int) / 2) - 1 := by unfold unzig; rw [if_pos h]; omega
theorem unzig_even {V : Nat} (h : ¬ V % 2 = 1) : unzig V = (V : Int) / 2 := by unfold unzig; rw [if_neg h]; omega
theorem unzig_bd {V : Nat} (h : V < 72057594037927936) : -72057594037927936 ≤ unzig V ∧ unzig V ≤ 72057594037927936 := by unfold unzig; split <;> omega
theorem ext_take (s : ByteArray) (q k : Nat) (hq : q ≤ k) : (s.extract q (k + 1)).toList = (s.data.toList.drop q).take (k - q + 1) := by
  rw [ByteArray.toList_eq]
  have : (s.extract q (k + 1)).data.toList = (s.data.toList.drop q).take (k + 1 - q) := by simp [List.drop_take]
  rw [this]; congr 1; omega

/-- What the round knows at place k. -/
structure GetSt (s : ByteArray) (q k M U : Nat) : Prop where
  cont : ((s.data.toList.drop q).take (k - q)).all contB = true
  m : valM ((s.data.toList.drop q).take (k - q)) = M
  u : 128 ^ (k - q) = U
theorem GetSt.next {s : ByteArray} {q k M U : Nat} (h : GetSt s q k M U) (hq : q ≤ k) (hk : k < s.size) (hc : 128 ≤ s[k].toNat) : GetSt s q (k + 1) (M + s[k].toNat % 128 * U) (U * 128) := by
  have hg := drop_get s q k hq hk
  have e : k + 1 - q = k - q + 1 := by omega
  refine ⟨?_, ?_, ?_⟩
  · rw [e, all_take h.cont hg]; simp [contB, hc]
  · rw [e, valM_take hg, h.m, h.u, Nat.mul_comm U]
  · rw [e, Nat.pow_succ, h.u]

set_option maxRecDepth 100000 in
theorem c_GetNumber (s : ByteArray) (at_ : Int) (w : World) (hs : s.size ≤ 1099511627776) :
    Calls Try.prog 24 #[.string s, .int .i64 at_] w fun e w' => e = .returned (.tuple #[.int .i64 (getNumF s.data.toList at_).1, .int .i64 (getNumF s.data.toList at_).2.1, .bool (getNumF s.data.toList at_).2.2]) ∧ Below w.heap.size w w' := by
  by_cases hin : inB at_ 0 s.size = true
  · obtain ⟨h0, h1⟩ := inB_iff.1 hin
    obtain ⟨q, rfl⟩ := Int.eq_ofNat_of_zero_le h0
    have hq : q ≤ s.size := by omega
    obtain ⟨r, hr⟩ : ∃ r, getF (s.data.toList.drop q) = r := ⟨_, rfl⟩
    have HF : Hid (getNumF s.data.toList (q : Int) = getRes q r) := by
      unfold Hid getNumF
      rw [if_pos (by simpa using hin), Int.toNat_natCast, hr]
    have HR := hid hr
    clear hr h0 h1
    go_enter Try.func24, Try.ntmps24
    go_wp2_with (first | (go_at_call 80; refine (c_size _ _).mono ?_; rintro e w' ⟨rfl, rfl⟩) | (go_at_call 81; refine (c_within _ _ _ _).mono ?_; rintro e w' ⟨rfl, rfl⟩))
    go_loopw [7, 8, 9] (fun m u i wr => ∃ k M U : Nat, q ≤ k ∧ k ≤ s.size ∧ k ≤ q + 8 ∧ i = .int .i64 k ∧ m = .int .i64 M ∧ u = .int .i64 U ∧ GetSt s q k M U ∧ w = wr) (fun _ _ i _ => s.size - (intOf i).toNat)
    case atStart => exact ⟨q, 0, 1, Nat.le_refl _, hq, by omega, rfl, rfl, rfl, ⟨by simp, by simp [valM], by simp⟩, rfl⟩
    case round =>
      obtain ⟨k, M, U, hqk, hk, hk8, rfl, rfl, rfl, hst, rfl⟩ := hrel
      by_cases hlt : k < s.size
      · by_cases hlt8 : k < q + 8
        · have hU : U ≤ 562949953421312 := by rw [← hst.u]; exact pow128_le (by omega)
          have hM : M < 72057594037927936 := by rw [← hst.m]; exact valM_le _ _ (by omega)
          obtain ⟨hp0, hp1⟩ := prod_le s[k] U hU
          have hb : (s[k].toNat : Int) ≤ 255 := by have := s[k].toNat_lt; omega
          have HST := hid hst
          have hi1 : (k : Int) < (q : Int) + 8 := by omega
          by_cases hc : 128 ≤ s[k].toNat
          · go_wp2_with (go_at_call 80; refine (c_size _ _).mono ?_; rintro e w' ⟨rfl, rfl⟩)
            go_roundw
            case rel =>
              refine ⟨k + 1, _, _, by omega, by omega, by omega, by go_num, ?_, ?_, HST.out.next hqk hlt hc, by trivial⟩
              · simp
              · simp
            case measure => simp [intOf]; omega
          · have hg := drop_get s q k hqk hlt
            have h1 : contB s[k] = false := by simp [contB]; omega
            obtain ⟨V, hV⟩ : ∃ V, valM ((s.data.toList.drop q).take (k - q + 1)) = V := ⟨_, rfl⟩
            have hV0 := valM_take hg
            rw [hV, hst.m, hst.u] at hV0
            have hVl : V < 72057594037927936 := by rw [← hV]; exact valM_le _ _ (by omega)
            obtain ⟨N, hN⟩ : ∃ N, unzig V = N := ⟨_, rfl⟩
            have hr0 := getF_end hst.cont hg h1 (by omega)
            rw [hV, hN] at hr0
            have hp0' := putN_iff hst.cont hg h1
            rw [hV, hN] at hp0'
            have hNb := unzig_bd hVl
            rw [hN] at hNb
            obtain ⟨hN1, hN2⟩ := hNb
            have HR0 : Hid (r = if inB N (-1000000000000000) 1000000000000000 && (decide (s[k] ≠ 0) || decide (k - q = 0)) then some (N, k - q + 1) else none) := by unfold Hid; rw [← HR.out]; exact hr0
            have HPI := hid hp0'
            have hVe : (M : Int) + (s[k].toNat : Int) % 128 * (U : Int) = (V : Int) := by rw [hV0]; simp [Int.mul_comm]
            clear hr0 hp0' hV0 hg hV hst
            by_cases hodd : V % 2 = 1
            · have hNe : -((V : Int) / 2) - 1 = N := by rw [← hN, unzig_odd hodd]
              have ho1 : ((V : Int) % 2 == 1) = true := by simp; omega
              clear hodd hN
              go_wp2_with (go_at_call 80; refine (c_size _ _).mono ?_; rintro e w' ⟨rfl, rfl⟩)
              by_cases hcod : inB N (-1000000000000000) 1000000000000000 = true
              · obtain ⟨hN3, hN4⟩ := inB_iff.1 hcod
                have hx1 : (q : Int) ≤ (k : Int) + 1 := by omega
                have hx2 : (k : Int) + 1 ≤ (s.size : Int) := by omega
                have hwr : IntKind.i64.wrap ((k : Int) + 1) = (k : Int) + 1 := wrap_in _ (by omega) (by omega)
                have hnn : 0 ≤ (k : Int) + 1 := by omega
                have htn : ((k : Int) + 1).toNat = k + 1 := by omega
                by_cases hput : s[k] ≠ 0 ∨ k - q = 0
                · have hne : (putN N == (s.extract q (k + 1)).toList) = true := by rw [ext_take s q k hqk]; simpa using HPI.out.2 hput
                  have HF2 : Hid (r = some (N, k - q + 1)) := by
                    unfold Hid; rw [HR0.out, hcod, if_pos]
                    rcases hput with h | h <;> simp [h]
                  have HFN : Hid (getNumF s.data.toList (q : Int) = (N, (k : Int) + 1, true)) := by
                    unfold Hid; rw [HF.out, HF2.out]; simp only [getRes]; congr 2; omega
                  clear hput
                  go_region_held3 (fun _ => True) (exact trivial) (first | (go_at_call 82; refine (c_isCoded _ _).mono ?_; rintro e w' ⟨rfl, rfl⟩) | (go_at_call 79; refine (c_putNumber _ _ hN3 hN4).mono ?_; rintro e w1 ⟨rfl, hb1⟩; unfold strOf))
                  go_wp2
                  go_ret3
                  exact ⟨by rw [HFN.out]; rfl, (Below.refl _ w).drew.trans hb1⟩
                · have hne : (putN N == (s.extract q (k + 1)).toList) = false := by
                    rw [ext_take s q k hqk]; simpa using fun e => hput (HPI.out.1 e)
                  have HF2 : Hid (r = none) := by
                    unfold Hid; rw [HR0.out, hcod, if_neg]
                    simp at hput ⊢; exact hput
                  clear hput
                  go_region_held3 (fun _ => True) (exact trivial) (first | (go_at_call 82; refine (c_isCoded _ _).mono ?_; rintro e w' ⟨rfl, rfl⟩) | (go_at_call 79; refine (c_putNumber _ _ hN3 hN4).mono ?_; rintro e w1 ⟨rfl, hb1⟩; unfold strOf))
                  go_wp2
                  go_ret3
                  exact ⟨by rw [HF.out, HF2.out]; rfl, (Below.refl _ w).drew.trans hb1⟩
              · have hcod' : inB N (-1000000000000000) 1000000000000000 = false := by simpa using hcod
                have HF2 : Hid (r = none) := by unfold Hid; rw [HR0.out, hcod']; rfl
                clear hcod
                have HC : ∀ w, Calls Try.prog 82 #[.int .i64 N] w fun e w' => e = .returned (.bool false) ∧ w = w' := fun w => by have h := c_isCoded N w; rw [hcod'] at h; exact h
                have HC' := hid HC
                clear HC
                go_quiet ((go_at_call 82; exact quiet_same HC'.out))
                go_wp2
                go_ret3
                exact ⟨by rw [HF.out, HF2.out]; rfl, below_drewN _ _ _⟩
            · have hNe : (V : Int) / 2 = N := by rw [← hN, unzig_even hodd]
              have ho1 : ((V : Int) % 2 == 1) = false := by simp; omega
              clear hodd hN
              go_wp2_with (go_at_call 80; refine (c_size _ _).mono ?_; rintro e w' ⟨rfl, rfl⟩)
              by_cases hcod : inB N (-1000000000000000) 1000000000000000 = true
              · obtain ⟨hN3, hN4⟩ := inB_iff.1 hcod
                have hx1 : (q : Int) ≤ (k : Int) + 1 := by omega
                have hx2 : (k : Int) + 1 ≤ (s.size : Int) := by omega
                have hwr : IntKind.i64.wrap ((k : Int) + 1) = (k : Int) + 1 := wrap_in _ (by omega) (by omega)
                have hnn : 0 ≤ (k : Int) + 1 := by omega
                have htn : ((k : Int) + 1).toNat = k + 1 := by omega
                by_cases hput : s[k] ≠ 0 ∨ k - q = 0
                · have hne : (putN N == (s.extract q (k + 1)).toList) = true := by rw [ext_take s q k hqk]; simpa using HPI.out.2 hput
                  have HF2 : Hid (r = some (N, k - q + 1)) := by
                    unfold Hid; rw [HR0.out, hcod, if_pos]
                    rcases hput with h | h <;> simp [h]
                  have HFN : Hid (getNumF s.data.toList (q : Int) = (N, (k : Int) + 1, true)) := by
                    unfold Hid; rw [HF.out, HF2.out]; simp only [getRes]; congr 2; omega
                  clear hput
                  go_region_held3 (fun _ => True) (exact trivial) (first | (go_at_call 82; refine (c_isCoded _ _).mono ?_; rintro e w' ⟨rfl, rfl⟩) | (go_at_call 79; refine (c_putNumber _ _ hN3 hN4).mono ?_; rintro e w1 ⟨rfl, hb1⟩; unfold strOf))
                  go_wp2
                  go_ret3
                  exact ⟨by rw [HFN.out]; rfl, (Below.refl _ w).drew.trans hb1⟩
                · have hne : (putN N == (s.extract q (k + 1)).toList) = false := by
                    rw [ext_take s q k hqk]; simpa using fun e => hput (HPI.out.1 e)
                  have HF2 : Hid (r = none) := by
                    unfold Hid; rw [HR0.out, hcod, if_neg]
                    simp at hput ⊢; exact hput
                  clear hput
                  go_region_held3 (fun _ => True) (exact trivial) (first | (go_at_call 82; refine (c_isCoded _ _).mono ?_; rintro e w' ⟨rfl, rfl⟩) | (go_at_call 79; refine (c_putNumber _ _ hN3 hN4).mono ?_; rintro e w1 ⟨rfl, hb1⟩; unfold strOf))
                  go_wp2
                  go_ret3
                  exact ⟨by rw [HF.out, HF2.out]; rfl, (Below.refl _ w).drew.trans hb1⟩
              · have hcod' : inB N (-1000000000000000) 1000000000000000 = false := by simpa using hcod
                have HF2 : Hid (r = none) := by unfold Hid; rw [HR0.out, hcod']; rfl
                clear hcod
                have HC : ∀ w, Calls Try.prog 82 #[.int .i64 N] w fun e w' => e = .returned (.bool false) ∧ w = w' := fun w => by have h := c_isCoded N w; rw [hcod'] at h; exact h
                have HC' := hid HC
                clear HC
                go_quiet ((go_at_call 82; exact quiet_same HC'.out))
                go_wp2
                go_ret3
                exact ⟨by rw [HF.out, HF2.out]; rfl, below_drewN _ _ _⟩
        · have HF2 : Hid (r = none) := by
            unfold Hid; rw [← HR.out]
            have e8 : k - q = 8 := by omega
            have := hst.cont
            rw [e8] at this
            exact getF_long this (by simp; omega)
          have hi1 : ¬ (k : Int) < (q : Int) + 8 := by omega
          clear hst
          go_wp2_with (go_at_call 80; refine (c_size _ _).mono ?_; rintro e w' ⟨rfl, rfl⟩)
          go_ret3
          exact ⟨by rw [HF.out, HF2.out]; rfl, Below.refl _ _⟩
      · have HF2 : Hid (r = none) := by
          unfold Hid; rw [← HR.out]
          have := hst.cont
          rw [List.take_of_length_le (by simp; omega)] at this
          exact getF_short this
        clear hst
        go_wp2_with (go_at_call 80; refine (c_size _ _).mono ?_; rintro e w' ⟨rfl, rfl⟩)
        go_ret3
        exact ⟨by rw [HF.out, HF2.out]; rfl, Below.refl _ _⟩
  · have HF : Hid (getNumF s.data.toList at_ = (0, 0, false)) := by unfold Hid getNumF; rw [if_neg (by simpa using hin)]
    have hin' : inB at_ 0 s.size = false := by simpa using hin
    go_enter Try.func24, Try.ntmps24
    go_wp2_with (first | (go_at_call 80; refine (c_size _ _).mono ?_; rintro e w' ⟨rfl, rfl⟩) | (go_at_call 81; refine (c_within _ _ _ _).mono ?_; rintro e w' ⟨rfl, rfl⟩))
    go_ret3
    exact ⟨by rw [HF.out]; rfl, Below.refl _ _⟩
end Go.Proofs.Ytlipoonopajgdaa
