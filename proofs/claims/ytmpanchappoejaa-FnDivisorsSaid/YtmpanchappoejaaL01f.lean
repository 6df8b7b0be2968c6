/- Contracts: the reference reads codes back; lists and texts. -/
import Derived.Test.YtmpanchappoejaaL01e
import Derived.Test.YtmpanchappoejaaOwn
import Derived.Test.YtmpanchappoejaaL01d
namespace Go.Proofs.Ytmpanchappoejaa
open Go.RowKit

theorem prodS_le (c : UInt8) (U : Nat) (h : U ≤ 562949953421312) (hc : 128 ≤ c.toNat) : (U : Int) * ((c.toNat : Int) - 128) = ((c.toNat % 128 * U : Nat) : Int) := by
  have h2 := c.toNat_lt
  rw [show (c.toNat : Int) - 128 = ((c.toNat % 128 : Nat) : Int) by omega, Int.natCast_mul, Int.mul_comm]
theorem prodT_le (c : UInt8) (U : Nat) (hc : c.toNat < 128) : (U : Int) * (c.toNat : Int) = ((c.toNat % 128 * U : Nat) : Int) := by
  rw [show c.toNat % 128 = c.toNat by omega, Int.natCast_mul, Int.mul_comm]
theorem prodN_le (c : UInt8) (U : Nat) (h : U ≤ 562949953421312) : c.toNat % 128 * U ≤ 72057594037927936 := by
  have : c.toNat % 128 * U ≤ 128 * 562949953421312 := Nat.mul_le_mul (by omega) h
  omega
theorem neg_tdiv2 (V : Nat) : (-(V : Int)).tdiv 2 = -((V : Int) / 2) := by rw [Int.neg_tdiv, Int.tdiv_eq_ediv_of_nonneg (by omega)]

set_option maxRecDepth 100000 in
set_option maxHeartbeats 4000000 in
theorem c_l01Get (s : ByteArray) (q : Nat) (w : World) (hs : s.size ≤ 1099511627776) (hq : q ≤ s.size) :
    Calls Try.prog 118 #[.string s, .int .i64 q] w fun e w' => e = .returned (.tuple #[.int .i64 (getRes q (getF (s.data.toList.drop q))).1, .int .i64 (getRes q (getF (s.data.toList.drop q))).2.1, .bool (getRes q (getF (s.data.toList.drop q))).2.2]) ∧ w = w' := by
  obtain ⟨r, hr⟩ : ∃ r, getF (s.data.toList.drop q) = r := ⟨_, rfl⟩
  have HR := hid hr
  rw [hr]
  clear hr
  go_enter Try.func118, Try.ntmps118
  go_wp2
  go_loop [7, 8, 9] (fun m u i => ∃ k M U : Nat, q ≤ k ∧ k ≤ s.size ∧ k ≤ q + 8 ∧ i = .int .i64 k ∧ m = .int .i64 M ∧ u = .int .i64 U ∧ GetSt s q k M U) (fun _ _ i => s.size - (intOf i).toNat)
  case atStart => exact ⟨q, 0, 1, Nat.le_refl _, hq, by omega, rfl, rfl, rfl, ⟨by simp, by simp [valM], by simp⟩⟩
  case round =>
    obtain ⟨k, M, U, hqk, hk, hk8, rfl, rfl, rfl, hst⟩ := hrel
    by_cases hlt : k < s.size
    · by_cases hlt8 : k < q + 8
      · have hU : U ≤ 562949953421312 := by rw [← hst.u]; exact pow128_le (by omega)
        have hM : M < 72057594037927936 := by rw [← hst.m]; exact valM_le _ _ (by omega)
        have hp1 := prodN_le s[k] U hU
        have hb : (s[k].toNat : Int) ≤ 255 := by have := s[k].toNat_lt; omega
        have HST := hid hst
        have hi1 : (k : Int) < (q : Int) + 8 := by omega
        obtain ⟨Z, hZ⟩ : ∃ Z : Nat, s[k].toNat % 128 * U = Z := ⟨_, rfl⟩
        rw [hZ] at hp1
        by_cases hc : 128 ≤ s[k].toNat
        · have hpe : (U : Int) * ((s[k].toNat : Int) - 128) = (Z : Int) := by rw [prodS_le s[k] U hU hc, hZ]
          have HZ := hid hZ
          clear hZ
          go_wp2
          go_round
          case rel =>
            have h3 := HST.out.next hqk hlt hc
            rw [HZ.out] at h3
            exact ⟨k + 1, _, _, by omega, by omega, by omega, by go_num, by simp, by simp, h3⟩
          case measure => simp [intOf]; omega
        · have hpe : (U : Int) * (s[k].toNat : Int) = (Z : Int) := by rw [prodT_le s[k] U (by omega), hZ]
          have hg := drop_get s q k hqk hlt
          have h1 : contB s[k] = false := by simp [contB]; omega
          obtain ⟨V, hV⟩ : ∃ V, valM ((s.data.toList.drop q).take (k - q + 1)) = V := ⟨_, rfl⟩
          have hV0 := valM_take hg
          rw [hV, hst.m, hst.u, Nat.mul_comm, hZ] at hV0
          have hVl : V < 72057594037927936 := by rw [← hV]; exact valM_le _ _ (by omega)
          obtain ⟨N, hN⟩ : ∃ N, unzig V = N := ⟨_, rfl⟩
          have hr0 := getF_end hst.cont hg h1 (by omega)
          rw [hV, hN] at hr0
          have hNb := unzig_bd hVl
          rw [hN] at hNb
          obtain ⟨hN1, hN2⟩ := hNb
          have HR0 : Hid (r = if inB N (-1000000000000000) 1000000000000000 && (decide (s[k] ≠ 0) || decide (k - q = 0)) then some (N, k - q + 1) else none) := by unfold Hid; rw [← HR.out]; exact hr0
          have hVe : (M : Int) + (Z : Int) = (V : Int) := by omega
          clear hr0 hV0 hg hV hst hZ
          have hgood : (s[k] ≠ 0 ∨ k - q = 0) ∨ (s[k] = 0 ∧ k - q ≠ 0) := by
            by_cases h : s[k] = 0
            · by_cases h2 : k - q = 0
              · exact .inl (.inr h2)
              · exact .inr ⟨h, h2⟩
            · exact .inl (.inl h)
          rcases hgood with hput | ⟨hz0, hkq⟩
          · have hz : ((s[k].toNat : Int) == 0) = false ∨ (k : Int) ≤ (q : Int) := by
              rcases hput with h | h
              · left; simp; intro e; exact h (UInt8.toNat_inj.1 (by simpa using e))
              · right; omega
            by_cases hcod : inB N (-1000000000000000) 1000000000000000 = true
            · have HF2 : Hid (r = some (N, k - q + 1)) := by
                unfold Hid; rw [HR0.out, hcod, if_pos]
                rcases hput with h | h <;> simp [h]
              have HFN : Hid (getRes (q : Int) r = (N, (k : Int) + 1, true)) := by
                unfold Hid; rw [HF2.out]; simp only [getRes]; congr 2; omega
              clear hput
              by_cases hodd : V % 2 = 1
              · have hNe : -((V : Int) / 2) - 1 = N := by rw [← hN, unzig_odd hodd]
                have hng := neg_tdiv2 V
                have ho1 : ((V : Int) % 2 == 1) = true := by simp; omega
                clear hodd hN
                rcases hz with hz | hz
                all_goals
                  go_wp2_with (go_at_call 133; refine (c_l01Number _ _).mono ?_; rintro e w' ⟨rfl, rfl⟩)
                  all_goals
                    go_ret3
                    exact ⟨by rw [HFN.out]; rfl, rfl⟩
              · have hNe : (V : Int) / 2 = N := by rw [← hN, unzig_even hodd]
                have ho1 : ((V : Int) % 2 == 1) = false := by simp; omega
                clear hodd hN
                rcases hz with hz | hz
                all_goals
                  go_wp2_with (go_at_call 133; refine (c_l01Number _ _).mono ?_; rintro e w' ⟨rfl, rfl⟩)
                  all_goals
                    go_ret3
                    exact ⟨by rw [HFN.out]; rfl, rfl⟩
            · have hcod' : inB N (-1000000000000000) 1000000000000000 = false := by simpa using hcod
              have HF2 : Hid (r = none) := by unfold Hid; rw [HR0.out, hcod']; rfl
              clear hput hcod
              by_cases hodd : V % 2 = 1
              · have hNe : -((V : Int) / 2) - 1 = N := by rw [← hN, unzig_odd hodd]
                have hng := neg_tdiv2 V
                have ho1 : ((V : Int) % 2 == 1) = true := by simp; omega
                clear hodd hN
                rcases hz with hz | hz
                all_goals
                  go_wp2_with (go_at_call 133; refine (c_l01Number _ _).mono ?_; rintro e w' ⟨rfl, rfl⟩)
                  all_goals
                    go_ret3
                    exact ⟨by rw [HF2.out]; rfl, rfl⟩
              · have hNe : (V : Int) / 2 = N := by rw [← hN, unzig_even hodd]
                have ho1 : ((V : Int) % 2 == 1) = false := by simp; omega
                clear hodd hN
                rcases hz with hz | hz
                all_goals
                  go_wp2_with (go_at_call 133; refine (c_l01Number _ _).mono ?_; rintro e w' ⟨rfl, rfl⟩)
                  all_goals
                    go_ret3
                    exact ⟨by rw [HF2.out]; rfl, rfl⟩
          · have hz1 : ((s[k].toNat : Int) == 0) = true := by rw [hz0]; rfl
            have hkq' : (q : Int) < (k : Int) := by omega
            have HF2 : Hid (r = none) := by unfold Hid; rw [HR0.out, if_neg]; simp [hz0, hkq]
            clear hz0 hkq
            by_cases hodd : V % 2 = 1
            · have hNe : -((V : Int) / 2) - 1 = N := by rw [← hN, unzig_odd hodd]
              have hng := neg_tdiv2 V
              have ho1 : ((V : Int) % 2 == 1) = true := by simp; omega
              clear hodd hN
              go_wp2
              go_ret3
              exact ⟨by rw [HF2.out]; rfl, rfl⟩
            · have hNe : (V : Int) / 2 = N := by rw [← hN, unzig_even hodd]
              have ho1 : ((V : Int) % 2 == 1) = false := by simp; omega
              clear hodd hN
              go_wp2
              go_ret3
              exact ⟨by rw [HF2.out]; rfl, rfl⟩
      · have HF2 : Hid (r = none) := by
          unfold Hid; rw [← HR.out]
          have e8 : k - q = 8 := by omega
          have := hst.cont
          rw [e8] at this
          exact getF_long this (by simp; omega)
        have hi1 : ¬ (k : Int) < (q : Int) + 8 := by omega
        clear hst
        go_wp2
        go_ret3
        exact ⟨by rw [HF2.out]; rfl, rfl⟩
    · have HF2 : Hid (r = none) := by
        unfold Hid; rw [← HR.out]
        have := hst.cont
        rw [List.take_of_length_le (by simp; omega)] at this
        exact getF_short this
      clear hst
      go_wp2
      go_ret3
      exact ⟨by rw [HF2.out]; rfl, rfl⟩
theorem c_l01At (s : ByteArray) (at_ : Int) (w : World) (hs : s.size ≤ 1099511627776) :
    Calls Try.prog 75 #[.string s, .int .i64 at_] w fun e w' => e = .returned (.bool (inB at_ 0 s.size)) ∧ w = w' := by
  go_enter Try.func75, Try.ntmps75
  go_wp2_with (go_at_call 90; refine (c_l00In _ _ _ _).mono ?_; rintro e w' ⟨rfl, rfl⟩)
  go_ret
  exact ⟨rfl, rfl⟩
end Go.Proofs.Ytmpanchappoejaa
