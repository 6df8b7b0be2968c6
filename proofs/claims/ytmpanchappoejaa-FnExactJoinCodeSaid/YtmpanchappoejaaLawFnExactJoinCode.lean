/- For every two codes the law FnExactJoinCode returns true: the program's JoinCode returns what the reference's returns, in memory of its own, and leaves both as they were. No condition. -/
import Derived.Test.YtmpanchappoejaaRows
import Derived.Test.YtmpanchappoejaaOpn
import Derived.Test.YtmpanchappoejaaLawAid
import Derived.Test.YtmpanchappoejaaL07j
import Derived.Test.YtmpanchappoejaaMarkI
import Derived.Deep.RegionHeld3
import Derived.ProofKit
import Derived.OpenShut
import Derived.ChangeOld
namespace Go.Proofs.Ytmpanchappoejaa.fnExactJoinCode
open Go.ChangeShapes Go.WideShapes Go.ChangeAt Go.RowKit
open Go.ChangeMaps (open_string shut_string)
set_option linter.unusedVariables false

set_option maxHeartbeats 4000000 in
set_option maxRecDepth 100000 in
theorem walk (ax0d0 : Option Addr) (px0d0 : Nat) (x0d0 : List _) (ax1d0 : Option Addr) (px1d0 : Nat) (x1d0 : List _) (w : World) (hx0d0 : SlRd cInstr (fun _ => True) w ax0d0 px0d0 x0d0) (hx1d0 : SlRd cInstr (fun _ => True) w ax1d0 px1d0 x1d0) : Calls Try.prog 9 #[.slice ax0d0 x0d0.length px0d0, .slice ax1d0 x1d0.length px1d0] w fun e w' => e = .returned (.bool true) ∧ Below w.heap.size w w' := by
  have hbnd : (joinF x0d0 x1d0).1.length ≤ 1048576 := joinF_len _ _
  obtain ⟨⟨q0, q1⟩, hq⟩ : ∃ q, joinF x0d0 x1d0 = q := ⟨_, rfl⟩
  rw [hq] at hbnd
  simp only at hbnd
  have HQ := hid hq
  clear hq
  have hlx0d0 := hx0d0.len_le
  have hlx1d0 := hx1d0.len_le
  have HB_0 : Hid (Below w.heap.size w w) := Below.refl _ _
  obtain ⟨β0, hβe⟩ : ∃ B, B = w.heap.size := ⟨_, rfl⟩
  have HZ_0 : Hid (β0 ≤ w.heap.size) := Nat.le_of_eq hβe
  have β0_le : w.heap.size + 0 ≤ β0 := by rw [hβe]; simp
  clear hβe
  have hx0d0 : SlRd cInstr (fun b => Btw 0 β0 b ∧ True) w ax0d0 px0d0 x0d0 := hx0d0.keep fun b _ hl => ⟨⟨⟨Nat.zero_le _, by omega⟩, trivial⟩, rfl⟩
  have Rx0d0_0 : Hid (SlRd cInstr (fun b => Btw 0 β0 b ∧ True) w ax0d0 px0d0 x0d0) := hx0d0
  clear hx0d0
  have hx1d0 : SlRd cInstr (fun b => Btw 0 β0 b ∧ True) w ax1d0 px1d0 x1d0 := hx1d0.keep fun b _ hl => ⟨⟨⟨Nat.zero_le _, by omega⟩, trivial⟩, rfl⟩
  have Rx1d0_0 : Hid (SlRd cInstr (fun b => Btw 0 β0 b ∧ True) w ax1d0 px1d0 x1d0) := hx1d0
  clear hx1d0
  obtain ⟨r0, hr⟩ : ∃ r, szR 1048576 ((x0d0.length : Nat) : Int) = r := ⟨_, rfl⟩
  have HR0 := hid hr
  clear hr
  by_cases hneg0 : r0 < 0
  · skip
    go_enter Try.func9, Try.ntmps9
    go_wp2_with fail
    refine (u_szInstrS Rx0d0_0.out (by omega) (by omega)).mono ?_
    rintro e w_1 ⟨rfl, hb⟩
    rw [HR0.out]
    have Rx0d0_1 := hid (Rx0d0_0.out.below (Nat.le_refl _) hb)
    have Rx1d0_1 := hid (Rx1d0_0.out.below (Nat.le_refl _) hb)
    have HB_1 := hid (bel_next HB_0.out HB_0.out.size hb)
    have HZ_1 := hid (Nat.le_trans HZ_0.out hb.size)
    clear Rx0d0_0 Rx1d0_0 HB_0 HZ_0
    clear hb
    go_wp2_with fail
    go_wp2
    go_ret
    exact ⟨rfl, HB_1.out⟩
  have hle := (szR_ge (left := 1048576) (n := x0d0.length) (by rw [HR0.out]; omega))
  rw [HR0.out] at hle
  obtain ⟨hle, hle'⟩ := hle
  have hsz0 : x0d0.length ≤ 1048576 := by omega
  have hlr0 : r0 ≤ 1048576 := by omega
  clear hle hle'
  obtain ⟨r1, hr⟩ : ∃ r, szR r0 ((x1d0.length : Nat) : Int) = r := ⟨_, rfl⟩
  have HR1 := hid hr
  clear hr
  by_cases hneg1 : r1 < 0
  · skip
    go_enter Try.func9, Try.ntmps9
    go_wp2_with fail
    refine (u_szInstrS Rx0d0_0.out (by omega) (by omega)).mono ?_
    rintro e w_1 ⟨rfl, hb⟩
    rw [HR0.out]
    have Rx0d0_1 := hid (Rx0d0_0.out.below (Nat.le_refl _) hb)
    have Rx1d0_1 := hid (Rx1d0_0.out.below (Nat.le_refl _) hb)
    have HB_1 := hid (bel_next HB_0.out HB_0.out.size hb)
    have HZ_1 := hid (Nat.le_trans HZ_0.out hb.size)
    clear Rx0d0_0 Rx1d0_0 HB_0 HZ_0
    clear hb
    go_wp2_with fail
    refine (u_szInstrS Rx1d0_1.out (by omega) (by omega)).mono ?_
    rintro e w_2 ⟨rfl, hb⟩
    rw [HR1.out]
    have Rx0d0_2 := hid (Rx0d0_1.out.below (Nat.le_refl _) hb)
    have Rx1d0_2 := hid (Rx1d0_1.out.below (Nat.le_refl _) hb)
    have HB_2 := hid (bel_next HB_1.out HB_1.out.size hb)
    have HZ_2 := hid (Nat.le_trans HZ_1.out hb.size)
    clear Rx0d0_1 Rx1d0_1 HB_1 HZ_1
    clear hb
    go_wp2_with fail
    go_wp2
    go_ret
    exact ⟨rfl, HB_2.out⟩
  have hle := (szR_ge (left := r0) (n := x1d0.length) (by rw [HR1.out]; omega))
  rw [HR1.out] at hle
  obtain ⟨hle, hle'⟩ := hle
  have hsz1 : x1d0.length ≤ 1048576 := by omega
  have hlr1 : r1 ≤ 1048576 := by omega
  clear hle hle'
  go_enter Try.func9, Try.ntmps9
  go_wp2_with fail
  refine (u_szInstrS Rx0d0_0.out (by omega) (by omega)).mono ?_
  rintro e w_1 ⟨rfl, hb⟩
  rw [HR0.out]
  have Rx0d0_1 := hid (Rx0d0_0.out.below (Nat.le_refl _) hb)
  have Rx1d0_1 := hid (Rx1d0_0.out.below (Nat.le_refl _) hb)
  have HB_1 := hid (bel_next HB_0.out HB_0.out.size hb)
  have HZ_1 := hid (Nat.le_trans HZ_0.out hb.size)
  clear Rx0d0_0 Rx1d0_0 HB_0 HZ_0
  clear hb
  go_wp2_with fail
  refine (u_szInstrS Rx1d0_1.out (by omega) (by omega)).mono ?_
  rintro e w_2 ⟨rfl, hb⟩
  rw [HR1.out]
  have Rx0d0_2 := hid (Rx0d0_1.out.below (Nat.le_refl _) hb)
  have Rx1d0_2 := hid (Rx1d0_1.out.below (Nat.le_refl _) hb)
  have HB_2 := hid (bel_next HB_1.out HB_1.out.size hb)
  have HZ_2 := hid (Nat.le_trans HZ_1.out hb.size)
  clear Rx0d0_1 Rx1d0_1 HB_1 HZ_1
  clear hb
  go_wp2_with fail
  refine (u_toInstrS Rx0d0_2.out (by omega)).mono ?_
  rintro e w_3 ⟨aVx0d0, pVx0d0, rfl, hsx0d0, hb⟩
  have za := HZ_2.out
  have Rx0d0_3 := hid (Rx0d0_2.out.below (Nat.le_refl _) hb)
  have Rx1d0_3 := hid (Rx1d0_2.out.below (Nat.le_refl _) hb)
  have HB_3 := hid (bel_next HB_2.out HB_2.out.size hb)
  have HZ_3 := hid (Nat.le_trans HZ_2.out hb.size)
  clear Rx0d0_2 Rx1d0_2 HB_2 HZ_2
  clear hb
  obtain ⟨β1, hβe⟩ : ∃ B, B = w_3.heap.size := ⟨_, rfl⟩
  have β1_le : β0 ≤ β1 := by rw [hβe]; exact HZ_3.out
  have Vx0d0_3 := hid (hsx0d0.mk (lo := β0) (hi := β1) za (Nat.le_of_eq hβe.symm))
  have HZ_3 := hid (Nat.le_of_eq hβe)
  clear hβe hsx0d0
  clear za
  go_wp2_with fail
  refine (u_toInstrS Rx1d0_3.out (by omega)).mono ?_
  rintro e w_4 ⟨aVx1d0, pVx1d0, rfl, hsx1d0, hb⟩
  have za := HZ_3.out
  have Rx0d0_4 := hid (Rx0d0_3.out.below (Nat.le_refl _) hb)
  have Rx1d0_4 := hid (Rx1d0_3.out.below (Nat.le_refl _) hb)
  have Vx0d0_4 := hid (Vx0d0_3.out.below (Nat.le_refl _) hb)
  have HB_4 := hid (bel_next HB_3.out HB_3.out.size hb)
  have HZ_4 := hid (Nat.le_trans HZ_3.out hb.size)
  clear Rx0d0_3 Rx1d0_3 Vx0d0_3 HB_3 HZ_3
  clear hb
  obtain ⟨β2, hβe⟩ : ∃ B, B = w_4.heap.size := ⟨_, rfl⟩
  have β2_le : β1 ≤ β2 := by rw [hβe]; exact HZ_4.out
  have Vx1d0_4 := hid (hsx1d0.mk (lo := β1) (hi := β2) za (Nat.le_of_eq hβe.symm))
  have HZ_4 := hid (Nat.le_of_eq hβe)
  clear hβe hsx1d0
  clear za
  go_wp2_with fail
  refine (c_sJoinCode Vx0d0_4.out Vx1d0_4.out).mono ?_
  rw [HQ.out]
  rintro e w_5 ⟨aW, pW, rfl, hW, hb⟩
  simp only
  have za := HZ_4.out
  have Rx0d0_5 := hid (Rx0d0_4.out.below (Nat.le_refl _) hb)
  have Rx1d0_5 := hid (Rx1d0_4.out.below (Nat.le_refl _) hb)
  have Vx0d0_5 := hid (Vx0d0_4.out.below (Nat.le_refl _) hb)
  have Vx1d0_5 := hid (Vx1d0_4.out.below (Nat.le_refl _) hb)
  have HB_5 := hid (bel_next HB_4.out HB_4.out.size hb)
  have HZ_5 := hid (Nat.le_trans HZ_4.out hb.size)
  clear Rx0d0_4 Rx1d0_4 Vx0d0_4 Vx1d0_4 HB_4 HZ_4
  clear hb
  obtain ⟨β3, hβe⟩ : ∃ B, B = w_5.heap.size := ⟨_, rfl⟩
  have β3_le : β2 ≤ β3 := by rw [hβe]; exact HZ_5.out
  have W_5 := hid (hW.mk (lo := β2) (hi := β3) za (Nat.le_of_eq hβe.symm))
  have HZ_5 := hid (Nat.le_of_eq hβe)
  clear hβe hW
  clear za
  go_wp2_with fail
  clear Vx0d0_5
  clear Vx1d0_5
  refine (u_toInstrS Rx0d0_5.out (by omega)).mono ?_
  rintro e w_6 ⟨aXx0d0, pXx0d0, rfl, hsx0d0, hb⟩
  have za := HZ_5.out
  have Rx0d0_6 := hid (Rx0d0_5.out.below (Nat.le_refl _) hb)
  have Rx1d0_6 := hid (Rx1d0_5.out.below (Nat.le_refl _) hb)
  have W_6 := hid (W_5.out.below (Nat.le_refl _) hb)
  have HB_6 := hid (bel_next HB_5.out HB_5.out.size hb)
  have HZ_6 := hid (Nat.le_trans HZ_5.out hb.size)
  clear Rx0d0_5 Rx1d0_5 W_5 HB_5 HZ_5
  clear hb
  obtain ⟨β4, hβe⟩ : ∃ B, B = w_6.heap.size := ⟨_, rfl⟩
  have β4_le : β3 ≤ β4 := by rw [hβe]; exact HZ_6.out
  have Xx0d0_6 := hid (hsx0d0.mk (lo := β3) (hi := β4) za (Nat.le_of_eq hβe.symm))
  have TH4_6 : Hid (∀ b, (Btw β3 β4 b ∧ Thawed w_6 b) → Thawed w_6 b) := fun b hb => hb.2
  have HZ_6 := hid (Nat.le_of_eq hβe)
  clear hβe hsx0d0
  clear za
  go_wp2_with fail
  refine (u_toInstrS Rx1d0_6.out (by omega)).mono ?_
  rintro e w_7 ⟨aXx1d0, pXx1d0, rfl, hsx1d0, hb⟩
  have za := HZ_6.out
  have Rx0d0_7 := hid (Rx0d0_6.out.below (Nat.le_refl _) hb)
  have Rx1d0_7 := hid (Rx1d0_6.out.below (Nat.le_refl _) hb)
  have W_7 := hid (W_6.out.below (Nat.le_refl _) hb)
  have Xx0d0_7 := hid (Xx0d0_6.out.below (Nat.le_refl _) hb)
  have TH4_7 := hid (thaw_below TH4_6.out hb)
  have HB_7 := hid (bel_next HB_6.out HB_6.out.size hb)
  have HZ_7 := hid (Nat.le_trans HZ_6.out hb.size)
  clear Rx0d0_6 Rx1d0_6 W_6 Xx0d0_6 TH4_6 HB_6 HZ_6
  clear hb
  obtain ⟨β5, hβe⟩ : ∃ B, B = w_7.heap.size := ⟨_, rfl⟩
  have β5_le : β4 ≤ β5 := by rw [hβe]; exact HZ_7.out
  have Xx1d0_7 := hid (hsx1d0.mk (lo := β4) (hi := β5) za (Nat.le_of_eq hβe.symm))
  have TH5_7 : Hid (∀ b, (Btw β4 β5 b ∧ Thawed w_7 b) → Thawed w_7 b) := fun b hb => hb.2
  have HZ_7 := hid (Nat.le_of_eq hβe)
  clear hβe hsx1d0
  clear za
  go_wp2_with fail
  refine (c_JoinCode Xx0d0_7.out Xx1d0_7.out).mono ?_
  rw [HQ.out]
  rintro e w_8 ⟨aG, pG, rfl, hG, hb⟩
  simp only
  have za := HZ_7.out
  have Rx0d0_8 := hid (Rx0d0_7.out.below (Nat.le_refl _) hb)
  have Rx1d0_8 := hid (Rx1d0_7.out.below (Nat.le_refl _) hb)
  have W_8 := hid (W_7.out.below (Nat.le_refl _) hb)
  have Xx0d0_8 := hid (Xx0d0_7.out.below (Nat.le_refl _) hb)
  have Xx1d0_8 := hid (Xx1d0_7.out.below (Nat.le_refl _) hb)
  have TH4_8 := hid (thaw_below TH4_7.out hb)
  have TH5_8 := hid (thaw_below TH5_7.out hb)
  have HB_8 := hid (bel_next HB_7.out HB_7.out.size hb)
  have HZ_8 := hid (Nat.le_trans HZ_7.out hb.size)
  clear Rx0d0_7 Rx1d0_7 W_7 Xx0d0_7 Xx1d0_7 TH4_7 TH5_7 HB_7 HZ_7
  clear hb
  obtain ⟨β6, hβe⟩ : ∃ B, B = w_8.heap.size := ⟨_, rfl⟩
  have β6_le : β5 ≤ β6 := by rw [hβe]; exact HZ_8.out
  have G_8 := hid (hG.mk (lo := β5) (hi := β6) za (Nat.le_of_eq hβe.symm))
  have TH6_8 : Hid (∀ b, (Btw β5 β6 b ∧ Thawed w_8 b) → Thawed w_8 b) := fun b hb => hb.2
  have HZ_8 := hid (Nat.le_of_eq hβe)
  clear hβe hG
  clear za
  have hne1 : (q1 != q1) = false := by simp
  have hkk : ((1 : Int) + (2 * q0.length : Int) != 1 + (2 * q0.length : Int)) = false := by simp
  go_wp2_with fail
  refine (u_eqInstrS G_8.out W_8.out).mono ?_
  rintro e w_9 ⟨rfl, hb⟩
  rw [show decide (q0 = q0) = true from by simp]
  have Rx0d0_9 := hid (Rx0d0_8.out.below (Nat.le_refl _) hb)
  have Rx1d0_9 := hid (Rx1d0_8.out.below (Nat.le_refl _) hb)
  have W_9 := hid (W_8.out.below (Nat.le_refl _) hb)
  have Xx0d0_9 := hid (Xx0d0_8.out.below (Nat.le_refl _) hb)
  have Xx1d0_9 := hid (Xx1d0_8.out.below (Nat.le_refl _) hb)
  have G_9 := hid (G_8.out.below (Nat.le_refl _) hb)
  have TH4_9 := hid (thaw_below TH4_8.out hb)
  have TH5_9 := hid (thaw_below TH5_8.out hb)
  have TH6_9 := hid (thaw_below TH6_8.out hb)
  have HB_9 := hid (bel_next HB_8.out HB_8.out.size hb)
  have HZ_9 := hid (Nat.le_trans HZ_8.out hb.size)
  clear Rx0d0_8 Rx1d0_8 W_8 Xx0d0_8 Xx1d0_8 G_8 TH4_8 TH5_8 TH6_8 HB_8 HZ_8
  clear hb
  go_wp2_with fail
  refine (u_toInstrS Rx0d0_9.out (by omega)).mono ?_
  rintro e w_10 ⟨aYx0d0, pYx0d0, rfl, hsx0d0, hb⟩
  have za := HZ_9.out
  have Rx0d0_10 := hid (Rx0d0_9.out.below (Nat.le_refl _) hb)
  have Rx1d0_10 := hid (Rx1d0_9.out.below (Nat.le_refl _) hb)
  have W_10 := hid (W_9.out.below (Nat.le_refl _) hb)
  have Xx0d0_10 := hid (Xx0d0_9.out.below (Nat.le_refl _) hb)
  have Xx1d0_10 := hid (Xx1d0_9.out.below (Nat.le_refl _) hb)
  have G_10 := hid (G_9.out.below (Nat.le_refl _) hb)
  have TH4_10 := hid (thaw_below TH4_9.out hb)
  have TH5_10 := hid (thaw_below TH5_9.out hb)
  have TH6_10 := hid (thaw_below TH6_9.out hb)
  have HB_10 := hid (bel_next HB_9.out HB_9.out.size hb)
  have HZ_10 := hid (Nat.le_trans HZ_9.out hb.size)
  clear Rx0d0_9 Rx1d0_9 W_9 Xx0d0_9 Xx1d0_9 G_9 TH4_9 TH5_9 TH6_9 HB_9 HZ_9
  clear hb
  obtain ⟨β7, hβe⟩ : ∃ B, B = w_10.heap.size := ⟨_, rfl⟩
  have β7_le : β6 ≤ β7 := by rw [hβe]; exact HZ_10.out
  have Yx0d0_10 := hid (hsx0d0.mk (lo := β6) (hi := β7) za (Nat.le_of_eq hβe.symm))
  have HZ_10 := hid (Nat.le_of_eq hβe)
  clear hβe hsx0d0
  clear za
  go_wp2_with fail
  refine (u_eqInstrS Xx0d0_10.out Yx0d0_10.out).mono ?_
  rintro e w_11 ⟨rfl, hb⟩
  rw [show decide (x0d0 = x0d0) = true from by simp]
  have Rx0d0_11 := hid (Rx0d0_10.out.below (Nat.le_refl _) hb)
  have Rx1d0_11 := hid (Rx1d0_10.out.below (Nat.le_refl _) hb)
  have W_11 := hid (W_10.out.below (Nat.le_refl _) hb)
  have Xx0d0_11 := hid (Xx0d0_10.out.below (Nat.le_refl _) hb)
  have Xx1d0_11 := hid (Xx1d0_10.out.below (Nat.le_refl _) hb)
  have G_11 := hid (G_10.out.below (Nat.le_refl _) hb)
  have Yx0d0_11 := hid (Yx0d0_10.out.below (Nat.le_refl _) hb)
  have TH4_11 := hid (thaw_below TH4_10.out hb)
  have TH5_11 := hid (thaw_below TH5_10.out hb)
  have TH6_11 := hid (thaw_below TH6_10.out hb)
  have HB_11 := hid (bel_next HB_10.out HB_10.out.size hb)
  have HZ_11 := hid (Nat.le_trans HZ_10.out hb.size)
  clear Rx0d0_10 Rx1d0_10 W_10 Xx0d0_10 Xx1d0_10 G_10 Yx0d0_10 TH4_10 TH5_10 TH6_10 HB_10 HZ_10
  clear hb
  go_wp2_with fail
  clear Yx0d0_11
  refine (u_toInstrS Rx1d0_11.out (by omega)).mono ?_
  rintro e w_12 ⟨aYx1d0, pYx1d0, rfl, hsx1d0, hb⟩
  have za := HZ_11.out
  have Rx0d0_12 := hid (Rx0d0_11.out.below (Nat.le_refl _) hb)
  have Rx1d0_12 := hid (Rx1d0_11.out.below (Nat.le_refl _) hb)
  have W_12 := hid (W_11.out.below (Nat.le_refl _) hb)
  have Xx0d0_12 := hid (Xx0d0_11.out.below (Nat.le_refl _) hb)
  have Xx1d0_12 := hid (Xx1d0_11.out.below (Nat.le_refl _) hb)
  have G_12 := hid (G_11.out.below (Nat.le_refl _) hb)
  have TH4_12 := hid (thaw_below TH4_11.out hb)
  have TH5_12 := hid (thaw_below TH5_11.out hb)
  have TH6_12 := hid (thaw_below TH6_11.out hb)
  have HB_12 := hid (bel_next HB_11.out HB_11.out.size hb)
  have HZ_12 := hid (Nat.le_trans HZ_11.out hb.size)
  clear Rx0d0_11 Rx1d0_11 W_11 Xx0d0_11 Xx1d0_11 G_11 TH4_11 TH5_11 TH6_11 HB_11 HZ_11
  clear hb
  obtain ⟨β8, hβe⟩ : ∃ B, B = w_12.heap.size := ⟨_, rfl⟩
  have β8_le : β7 ≤ β8 := by rw [hβe]; exact HZ_12.out
  have Yx1d0_12 := hid (hsx1d0.mk (lo := β7) (hi := β8) za (Nat.le_of_eq hβe.symm))
  have HZ_12 := hid (Nat.le_of_eq hβe)
  clear hβe hsx1d0
  clear za
  go_wp2_with fail
  refine (u_eqInstrS Xx1d0_12.out Yx1d0_12.out).mono ?_
  rintro e w_13 ⟨rfl, hb⟩
  rw [show decide (x1d0 = x1d0) = true from by simp]
  have Rx0d0_13 := hid (Rx0d0_12.out.below (Nat.le_refl _) hb)
  have Rx1d0_13 := hid (Rx1d0_12.out.below (Nat.le_refl _) hb)
  have W_13 := hid (W_12.out.below (Nat.le_refl _) hb)
  have Xx0d0_13 := hid (Xx0d0_12.out.below (Nat.le_refl _) hb)
  have Xx1d0_13 := hid (Xx1d0_12.out.below (Nat.le_refl _) hb)
  have G_13 := hid (G_12.out.below (Nat.le_refl _) hb)
  have Yx1d0_13 := hid (Yx1d0_12.out.below (Nat.le_refl _) hb)
  have TH4_13 := hid (thaw_below TH4_12.out hb)
  have TH5_13 := hid (thaw_below TH5_12.out hb)
  have TH6_13 := hid (thaw_below TH6_12.out hb)
  have HB_13 := hid (bel_next HB_12.out HB_12.out.size hb)
  have HZ_13 := hid (Nat.le_trans HZ_12.out hb.size)
  clear Rx0d0_12 Rx1d0_12 W_12 Xx0d0_12 Xx1d0_12 G_12 Yx1d0_12 TH4_12 TH5_12 TH6_12 HB_12 HZ_12
  clear hb
  go_wp2_with fail
  clear Yx1d0_13
  refine (u_markInstrS Xx0d0_13.out TH4_13.out (by omega) (by omega)).mono ?_
  rintro e w_14 ⟨rfl, ht⟩
  clear TH4_13
  clear Xx0d0_13
  have Rx0d0_14 := hid (Rx0d0_13.out.sep ht (by omega))
  have Rx1d0_14 := hid (Rx1d0_13.out.sep ht (by omega))
  have W_14 := hid (W_13.out.sep ht (by omega))
  have Xx1d0_14 := hid (Xx1d0_13.out.sep ht (by omega))
  have G_14 := hid (G_13.out.sep ht (by omega))
  have TH5_14 := hid fun b hb => ht.thaw b (TH5_13.out b hb)
  have TH6_14 := hid fun b hb => ht.thaw b (TH6_13.out b hb)
  have HB_14 := hid (HB_13.out.trans (ht.bel HB_13.out.size fun b hb => by have := hb.1.1; omega))
  have HZ_14 := hid (Nat.le_trans HZ_13.out ht.size)
  clear Rx0d0_13 Rx1d0_13 W_13 Xx1d0_13 G_13 TH5_13 TH6_13 HB_13 HZ_13 ht
  go_wp2_with fail
  refine (u_markInstrS Xx1d0_14.out TH5_14.out (by omega) (by omega)).mono ?_
  rintro e w_15 ⟨rfl, ht⟩
  clear TH5_14
  clear Xx1d0_14
  have Rx0d0_15 := hid (Rx0d0_14.out.sep ht (by omega))
  have Rx1d0_15 := hid (Rx1d0_14.out.sep ht (by omega))
  have W_15 := hid (W_14.out.sep ht (by omega))
  have G_15 := hid (G_14.out.sep ht (by omega))
  have TH6_15 := hid fun b hb => ht.thaw b (TH6_14.out b hb)
  have HB_15 := hid (HB_14.out.trans (ht.bel HB_14.out.size fun b hb => by have := hb.1.1; omega))
  have HZ_15 := hid (Nat.le_trans HZ_14.out ht.size)
  clear Rx0d0_14 Rx1d0_14 W_14 G_14 TH6_14 HB_14 HZ_14 ht
  go_wp2_with fail
  refine (u_eqInstrS G_15.out W_15.out).mono ?_
  rintro e w_16 ⟨rfl, hb⟩
  rw [show decide (q0 = q0) = true from by simp]
  have Rx0d0_16 := hid (Rx0d0_15.out.below (Nat.le_refl _) hb)
  have Rx1d0_16 := hid (Rx1d0_15.out.below (Nat.le_refl _) hb)
  have W_16 := hid (W_15.out.below (Nat.le_refl _) hb)
  have G_16 := hid (G_15.out.below (Nat.le_refl _) hb)
  have TH6_16 := hid (thaw_below TH6_15.out hb)
  have HB_16 := hid (bel_next HB_15.out HB_15.out.size hb)
  have HZ_16 := hid (Nat.le_trans HZ_15.out hb.size)
  clear Rx0d0_15 Rx1d0_15 W_15 G_15 TH6_15 HB_15 HZ_15
  clear hb
  go_wp2_with fail
  refine (c_markInstrS _ _ _ _ _ _ G_16.out rfl TH6_16.out (by omega) (by omega)).mono ?_
  rintro e w_17 ⟨rfl, ⟨ys, hl, hu, hG⟩, ht⟩
  clear TH6_16
  clear G_16
  have Rx0d0_17 := hid (Rx0d0_16.out.sep ht (by omega))
  have Rx1d0_17 := hid (Rx1d0_16.out.sep ht (by omega))
  have W_17 := hid (W_16.out.sep ht (by omega))
  have HB_17 := hid (HB_16.out.trans (ht.bel HB_16.out.size fun b hb => by have := hb.1.1; omega))
  have HZ_17 := hid (Nat.le_trans HZ_16.out ht.size)
  clear Rx0d0_16 Rx1d0_16 W_16 HB_16 HZ_16 ht
  have G_17 := hid hG
  have HLY := hid hl
  have HU := hid hu
  clear hG hl hu
  go_wp2_with fail
  refine (c_heldInstrS _ _ _ _ _ _ G_17.out HLY.out HU.out (by omega) (by omega)).mono ?_
  rintro e w' ⟨rfl, rfl⟩
  go_wp2_with fail
  refine (u_toInstrS Rx0d0_17.out (by omega)).mono ?_
  rintro e w_18 ⟨aZx0d0, pZx0d0, rfl, hsx0d0, hb⟩
  have za := HZ_17.out
  have Rx0d0_18 := hid (Rx0d0_17.out.below (Nat.le_refl _) hb)
  have Rx1d0_18 := hid (Rx1d0_17.out.below (Nat.le_refl _) hb)
  have W_18 := hid (W_17.out.below (Nat.le_refl _) hb)
  have G_18 := hid (G_17.out.below (Nat.le_refl _) hb)
  have HB_18 := hid (bel_next HB_17.out HB_17.out.size hb)
  have HZ_18 := hid (Nat.le_trans HZ_17.out hb.size)
  clear Rx0d0_17 Rx1d0_17 W_17 G_17 HB_17 HZ_17
  clear hb
  obtain ⟨β9, hβe⟩ : ∃ B, B = w_18.heap.size := ⟨_, rfl⟩
  have β9_le : β8 ≤ β9 := by rw [hβe]; exact HZ_18.out
  have Zx0d0_18 := hid (hsx0d0.mk (lo := β8) (hi := β9) za (Nat.le_of_eq hβe.symm))
  have HZ_18 := hid (Nat.le_of_eq hβe)
  clear hβe hsx0d0
  clear za
  go_wp2_with fail
  refine (u_toInstrS Rx1d0_18.out (by omega)).mono ?_
  rintro e w_19 ⟨aZx1d0, pZx1d0, rfl, hsx1d0, hb⟩
  have za := HZ_18.out
  have Rx0d0_19 := hid (Rx0d0_18.out.below (Nat.le_refl _) hb)
  have Rx1d0_19 := hid (Rx1d0_18.out.below (Nat.le_refl _) hb)
  have W_19 := hid (W_18.out.below (Nat.le_refl _) hb)
  have G_19 := hid (G_18.out.below (Nat.le_refl _) hb)
  have Zx0d0_19 := hid (Zx0d0_18.out.below (Nat.le_refl _) hb)
  have HB_19 := hid (bel_next HB_18.out HB_18.out.size hb)
  have HZ_19 := hid (Nat.le_trans HZ_18.out hb.size)
  clear Rx0d0_18 Rx1d0_18 W_18 G_18 Zx0d0_18 HB_18 HZ_18
  clear hb
  obtain ⟨β10, hβe⟩ : ∃ B, B = w_19.heap.size := ⟨_, rfl⟩
  have β10_le : β9 ≤ β10 := by rw [hβe]; exact HZ_19.out
  have Zx1d0_19 := hid (hsx1d0.mk (lo := β9) (hi := β10) za (Nat.le_of_eq hβe.symm))
  have HZ_19 := hid (Nat.le_of_eq hβe)
  clear hβe hsx1d0
  clear za
  go_wp2_with fail
  refine (c_JoinCode Zx0d0_19.out Zx1d0_19.out).mono ?_
  rw [HQ.out]
  rintro e w_20 ⟨aH, pH, rfl, hH, hb⟩
  simp only
  have za := HZ_19.out
  have Rx0d0_20 := hid (Rx0d0_19.out.below (Nat.le_refl _) hb)
  have Rx1d0_20 := hid (Rx1d0_19.out.below (Nat.le_refl _) hb)
  have W_20 := hid (W_19.out.below (Nat.le_refl _) hb)
  have G_20 := hid (G_19.out.below (Nat.le_refl _) hb)
  have Zx0d0_20 := hid (Zx0d0_19.out.below (Nat.le_refl _) hb)
  have Zx1d0_20 := hid (Zx1d0_19.out.below (Nat.le_refl _) hb)
  have HB_20 := hid (bel_next HB_19.out HB_19.out.size hb)
  have HZ_20 := hid (Nat.le_trans HZ_19.out hb.size)
  clear Rx0d0_19 Rx1d0_19 W_19 G_19 Zx0d0_19 Zx1d0_19 HB_19 HZ_19
  clear hb
  obtain ⟨β11, hβe⟩ : ∃ B, B = w_20.heap.size := ⟨_, rfl⟩
  have β11_le : β10 ≤ β11 := by rw [hβe]; exact HZ_20.out
  have H_20 := hid (hH.mk (lo := β10) (hi := β11) za (Nat.le_of_eq hβe.symm))
  have HZ_20 := hid (Nat.le_of_eq hβe)
  clear hβe hH
  clear za
  go_wp2_with fail
  clear Zx0d0_20
  clear Zx1d0_20
  refine (u_eqInstrS H_20.out W_20.out).mono ?_
  rintro e w_21 ⟨rfl, hb⟩
  rw [show decide (q0 = q0) = true from by simp]
  have Rx0d0_21 := hid (Rx0d0_20.out.below (Nat.le_refl _) hb)
  have Rx1d0_21 := hid (Rx1d0_20.out.below (Nat.le_refl _) hb)
  have W_21 := hid (W_20.out.below (Nat.le_refl _) hb)
  have G_21 := hid (G_20.out.below (Nat.le_refl _) hb)
  have H_21 := hid (H_20.out.below (Nat.le_refl _) hb)
  have HB_21 := hid (bel_next HB_20.out HB_20.out.size hb)
  have HZ_21 := hid (Nat.le_trans HZ_20.out hb.size)
  clear Rx0d0_20 Rx1d0_20 W_20 G_20 H_20 HB_20 HZ_20
  clear hb
  go_wp2_with fail
  refine (c_heldInstrS _ _ _ _ _ _ G_21.out HLY.out HU.out (by omega) (by omega)).mono ?_
  rintro e w' ⟨rfl, rfl⟩
  try go_wp2
  go_ret
  exact ⟨rfl, HB_21.out⟩

theorem own : ownKnob Try.prog.godebug = none := by kernel_rfl
theorem laidOut : laidOutB Try.prog = true := by kernel_rfl
set_option maxRecDepth 100000 in
theorem lifted (os : Os) (started : os.Started) (H : Type) (enc : TypeId × Value → H) :
    ReturnsInHanded {} Try.checked os 9 .any (Rows.fnExactJoinCodeSpec.pre6 enc Try.prog Try.f9 Rows.fnExactJoinCodeRow.domain false) (Rows.fnExactJoinCodeSpec.post enc Try.prog Try.f9 false true false false) := by
  refine returnsInHanded_of_change (C := Try.checked) own started (by kernel_rfl) Try.func9
    (ChangeSpec.witness6 (enc := enc) (C := Try.checked) false ⟨#[], #[.slice none 0 0, .slice none 0 0], []⟩ 8 (by kernel_rfl) (by kernel_rfl) (by kernel_rfl) (by kernel_rfl)) ?_
  intro W base args ds gs before hval0 hW hcnd _
  have hval : ∀ (j : Nat) t v, Try.f9.params[j]? = some t → args[j]? = some v → Value.okWide Try.prog W .any base t v := hval0
  have hW' := hW
  obtain ⟨p, q, hA0, hV, rfl, hfz, hnd⟩ := hW
  have hA : DataW.TrodAll enc Try.prog W 0 (fun _ => true) true Try.f9.params.toList args.toList ds p := hA0
  rw [Try.params9] at hA hval
  obtain ⟨v0, vs0, d0, ds0, p0, q0, hargs, rfl, rfl, h0, r0⟩ := trodAll_cons hA
  obtain ⟨v1, vs1, d1, ds1, p1, q1, hargs1, rfl, rfl, h1, r1⟩ := trodAll_cons r0
  obtain ⟨rfl, rfl, rfl⟩ := trodAll_nil r1
  subst hargs1
  obtain rfl : args = #[v0, v1] := by cases args; simp_all
  obtain ⟨rfl, rfl⟩ := trodVars_none hV
  have k0 := h0
  have lt0 : ∀ x ∈ p0, x.block < W.heap.size := by obtain ⟨m, hm⟩ := k0; exact DataW.trod_lt m _ _ _ hm
  obtain ⟨a0, cap0, as0, rfl, s0⟩ := arg_sl Try.underlying68 op_Code (hval 0 68 v0 rfl rfl) h0
  have k1 := h1
  have lt1 : ∀ x ∈ p1, x.block < W.heap.size := by obtain ⟨m, hm⟩ := k1; exact DataW.trod_lt m _ _ _ hm
  obtain ⟨a1, cap1, as1, rfl, s1⟩ := arg_sl Try.underlying68 op_Code (hval 1 68 v1 rfl rfl) h1
  clear hA0 hval0
  refine (walk a0 cap0 as0 a1 cap1 as1 W s0 s1).mono fun e W' ⟨he, bel⟩ => ?_
  subst he
  exact ⟨_, rfl, _, _, _, [], _, [], hW', trodAll_mk1 (shut_bool Try.underlying4 _), (trodAll_cons_mk (Below.trod laidOut (by kernel_rfl) (of_decide_eq_true (by kernel_rfl)) k0 bel lt0) (trodAll_cons_mk (Below.trod laidOut (by kernel_rfl) (of_decide_eq_true (by kernel_rfl)) k1 bel lt1) trodAll_mk0)), rfl, bel.frame _, fun h => by cases h⟩

theorem over : Rows.fnExactJoinCodeRow.holds Try.pinned (OpenSpec.ofChange Rows.fnExactJoinCodeSpec) :=
  OpenClaim.holds_of_wide 9 Try.f9 rfl rfl rfl rfl rfl rfl rfl ⟨rfl, rfl, rfl, rfl, rfl⟩ rfl rfl rfl rfl rfl (by kernel_rfl) Try.func9 (by kernel_rfl)
    (of_decide_eq_true (by kernel_rfl)) (by unfold Func.isWrapper; first | (rw [if_pos (by decide +kernel)]; kernel_rfl) | (rw [if_neg (by decide +kernel)]; exact ⟨rfl, rfl⟩))
    (fun os started H enc _ => lifted os started H enc)

theorem proved : Rows.FnExactJoinCodeSaid := over
#print axioms proved
end Go.Proofs.Ytmpanchappoejaa.fnExactJoinCode
