/- For every list of terms the law FnExactRefuteFacts returns true: the program's RefuteFacts returns what the reference's returns, in memory of its own, and leaves the list as it was. No condition. -/
import Derived.Test.YtkckhnpdodbffaaRows
import Derived.Test.YtkckhnpdodbffaaOpn
import Derived.Test.YtkckhnpdodbffaaLawAid
import Derived.Test.YtkckhnpdodbffaaEl4
import Derived.Test.YtkckhnpdodbffaaElS4
import Derived.Deep.RegionHeld3
import Derived.ProofKit
import Derived.OpenShut
import Derived.ChangeOld
namespace Go.Proofs.Ytkckhnpdodbffaa.fnExactRefuteFacts
open Go.ChangeShapes Go.WideShapes Go.ChangeAt Go.RowKit
open Go.ChangeMaps (open_string shut_string)
set_option linter.unusedVariables false

set_option maxHeartbeats 4000000 in
set_option maxRecDepth 100000 in
theorem walk (ax0d0 : Option Addr) (px0d0 : Nat) (x0d0 : List _) (w : World) (hx0d0 : SlRd cTerm (fun _ => True) w ax0d0 px0d0 x0d0) : Calls Try.prog 3 #[.slice ax0d0 x0d0.length px0d0] w fun e w' => e = .returned (.bool true) ∧ Below w.heap.size w w' := by
  have hbnd : (refuteF x0d0).1.length ≤ 1048576 := refuteF_len _
  obtain ⟨⟨q0, q1⟩, hq⟩ : ∃ q, refuteF x0d0 = q := ⟨_, rfl⟩
  rw [hq] at hbnd
  simp only at hbnd
  have HQ := hid hq
  clear hq
  have hlx0d0 := hx0d0.len_le
  have HB_0 : Hid (Below w.heap.size w w) := Below.refl _ _
  obtain ⟨β0, hβe⟩ : ∃ B, B = w.heap.size := ⟨_, rfl⟩
  have HZ_0 : Hid (β0 ≤ w.heap.size) := Nat.le_of_eq hβe
  have β0_le : w.heap.size + 0 ≤ β0 := by rw [hβe]; simp
  clear hβe
  have hx0d0 : SlRd cTerm (fun b => Btw 0 β0 b ∧ True) w ax0d0 px0d0 x0d0 := hx0d0.keep fun b _ hl => ⟨⟨⟨Nat.zero_le _, by omega⟩, trivial⟩, rfl⟩
  have Rx0d0_0 : Hid (SlRd cTerm (fun b => Btw 0 β0 b ∧ True) w ax0d0 px0d0 x0d0) := hx0d0
  clear hx0d0
  obtain ⟨r0, hr⟩ : ∃ r, szR 1048576 ((szTs x0d0 : Nat) : Int) = r := ⟨_, rfl⟩
  have HR0 := hid hr
  clear hr
  by_cases hneg0 : r0 < 0
  · skip
    go_enter Try.func3, Try.ntmps3
    go_wp2_with fail
    refine (u_szTermS Rx0d0_0.out (by omega) (by omega)).mono ?_
    rintro e w_1 ⟨rfl, hb⟩
    rw [HR0.out]
    have Rx0d0_1 := hid (Rx0d0_0.out.below (Nat.le_refl _) hb)
    have HB_1 := hid (bel_next HB_0.out HB_0.out.size hb)
    have HZ_1 := hid (Nat.le_trans HZ_0.out hb.size)
    clear Rx0d0_0 HB_0 HZ_0
    clear hb
    go_wp2_with fail
    go_wp2
    go_ret
    exact ⟨rfl, HB_1.out⟩
  have hle := (szR_ge (left := 1048576) (n := szTs x0d0) (by rw [HR0.out]; omega))
  rw [HR0.out] at hle
  obtain ⟨hle, hle'⟩ := hle
  have hsz0 : szTs x0d0 ≤ 1048576 := by omega
  have hlr0 : r0 ≤ 1048576 := by omega
  clear hle hle'
  go_enter Try.func3, Try.ntmps3
  go_wp2_with fail
  refine (u_szTermS Rx0d0_0.out (by omega) (by omega)).mono ?_
  rintro e w_1 ⟨rfl, hb⟩
  rw [HR0.out]
  have Rx0d0_1 := hid (Rx0d0_0.out.below (Nat.le_refl _) hb)
  have HB_1 := hid (bel_next HB_0.out HB_0.out.size hb)
  have HZ_1 := hid (Nat.le_trans HZ_0.out hb.size)
  clear Rx0d0_0 HB_0 HZ_0
  clear hb
  go_wp2_with fail
  refine (u_toTermS Rx0d0_1.out (by omega)).mono ?_
  rintro e w_2 ⟨aVx0d0, pVx0d0, rfl, hsx0d0, hb⟩
  have za := HZ_1.out
  have Rx0d0_2 := hid (Rx0d0_1.out.below (Nat.le_refl _) hb)
  have HB_2 := hid (bel_next HB_1.out HB_1.out.size hb)
  have HZ_2 := hid (Nat.le_trans HZ_1.out hb.size)
  clear Rx0d0_1 HB_1 HZ_1
  clear hb
  obtain ⟨β1, hβe⟩ : ∃ B, B = w_2.heap.size := ⟨_, rfl⟩
  have β1_le : β0 ≤ β1 := by rw [hβe]; exact HZ_2.out
  have Vx0d0_2 := hid (hsx0d0.mk (lo := β0) (hi := β1) za (Nat.le_of_eq hβe.symm))
  have HZ_2 := hid (Nat.le_of_eq hβe)
  clear hβe hsx0d0
  clear za
  go_wp2_with fail
  refine (c_sRefuteFacts Vx0d0_2.out).mono ?_
  rw [HQ.out]
  rintro e w_3 ⟨aW, pW, rfl, hW, hb⟩
  simp only
  have za := HZ_2.out
  have Rx0d0_3 := hid (Rx0d0_2.out.below (Nat.le_refl _) hb)
  have Vx0d0_3 := hid (Vx0d0_2.out.below (Nat.le_refl _) hb)
  have HB_3 := hid (bel_next HB_2.out HB_2.out.size hb)
  have HZ_3 := hid (Nat.le_trans HZ_2.out hb.size)
  clear Rx0d0_2 Vx0d0_2 HB_2 HZ_2
  clear hb
  obtain ⟨β2, hβe⟩ : ∃ B, B = w_3.heap.size := ⟨_, rfl⟩
  have β2_le : β1 ≤ β2 := by rw [hβe]; exact HZ_3.out
  have W_3 := hid (hW.mk (lo := β1) (hi := β2) za (Nat.le_of_eq hβe.symm))
  have HZ_3 := hid (Nat.le_of_eq hβe)
  clear hβe hW
  clear za
  go_wp2_with fail
  clear Vx0d0_3
  refine (u_toTermS Rx0d0_3.out (by omega)).mono ?_
  rintro e w_4 ⟨aXx0d0, pXx0d0, rfl, hsx0d0, hb⟩
  have za := HZ_3.out
  have Rx0d0_4 := hid (Rx0d0_3.out.below (Nat.le_refl _) hb)
  have W_4 := hid (W_3.out.below (Nat.le_refl _) hb)
  have HB_4 := hid (bel_next HB_3.out HB_3.out.size hb)
  have HZ_4 := hid (Nat.le_trans HZ_3.out hb.size)
  clear Rx0d0_3 W_3 HB_3 HZ_3
  clear hb
  obtain ⟨β3, hβe⟩ : ∃ B, B = w_4.heap.size := ⟨_, rfl⟩
  have β3_le : β2 ≤ β3 := by rw [hβe]; exact HZ_4.out
  have Xx0d0_4 := hid (hsx0d0.mk (lo := β2) (hi := β3) za (Nat.le_of_eq hβe.symm))
  have TH3_4 : Hid (∀ b, (Btw β2 β3 b ∧ Thawed w_4 b) → Thawed w_4 b) := fun b hb => hb.2
  have HZ_4 := hid (Nat.le_of_eq hβe)
  clear hβe hsx0d0
  clear za
  go_wp2_with fail
  refine (c_RefuteFacts Xx0d0_4.out).mono ?_
  rw [HQ.out]
  rintro e w_5 ⟨aG, pG, rfl, hG, hb⟩
  simp only
  have za := HZ_4.out
  have Rx0d0_5 := hid (Rx0d0_4.out.below (Nat.le_refl _) hb)
  have W_5 := hid (W_4.out.below (Nat.le_refl _) hb)
  have Xx0d0_5 := hid (Xx0d0_4.out.below (Nat.le_refl _) hb)
  have TH3_5 := hid (thaw_below TH3_4.out hb)
  have HB_5 := hid (bel_next HB_4.out HB_4.out.size hb)
  have HZ_5 := hid (Nat.le_trans HZ_4.out hb.size)
  clear Rx0d0_4 W_4 Xx0d0_4 TH3_4 HB_4 HZ_4
  clear hb
  obtain ⟨β4, hβe⟩ : ∃ B, B = w_5.heap.size := ⟨_, rfl⟩
  have β4_le : β3 ≤ β4 := by rw [hβe]; exact HZ_5.out
  have G_5 := hid (hG.mk (lo := β3) (hi := β4) za (Nat.le_of_eq hβe.symm))
  have TH4_5 : Hid (∀ b, (Btw β3 β4 b ∧ Thawed w_5 b) → Thawed w_5 b) := fun b hb => hb.2
  have HZ_5 := hid (Nat.le_of_eq hβe)
  clear hβe hG
  clear za
  have hne1 : (q1 != q1) = false := by simp
  have hkk : ((1 : Int) + (q0.length : Int) != 1 + (q0.length : Int)) = false := by simp
  go_wp2_with fail
  refine (u_eqInt64S G_5.out W_5.out).mono ?_
  rintro e w_6 ⟨rfl, hb⟩
  rw [show decide (q0 = q0) = true from by simp]
  have Rx0d0_6 := hid (Rx0d0_5.out.below (Nat.le_refl _) hb)
  have W_6 := hid (W_5.out.below (Nat.le_refl _) hb)
  have Xx0d0_6 := hid (Xx0d0_5.out.below (Nat.le_refl _) hb)
  have G_6 := hid (G_5.out.below (Nat.le_refl _) hb)
  have TH3_6 := hid (thaw_below TH3_5.out hb)
  have TH4_6 := hid (thaw_below TH4_5.out hb)
  have HB_6 := hid (bel_next HB_5.out HB_5.out.size hb)
  have HZ_6 := hid (Nat.le_trans HZ_5.out hb.size)
  clear Rx0d0_5 W_5 Xx0d0_5 G_5 TH3_5 TH4_5 HB_5 HZ_5
  clear hb
  go_wp2_with fail
  refine (u_toTermS Rx0d0_6.out (by omega)).mono ?_
  rintro e w_7 ⟨aYx0d0, pYx0d0, rfl, hsx0d0, hb⟩
  have za := HZ_6.out
  have Rx0d0_7 := hid (Rx0d0_6.out.below (Nat.le_refl _) hb)
  have W_7 := hid (W_6.out.below (Nat.le_refl _) hb)
  have Xx0d0_7 := hid (Xx0d0_6.out.below (Nat.le_refl _) hb)
  have G_7 := hid (G_6.out.below (Nat.le_refl _) hb)
  have TH3_7 := hid (thaw_below TH3_6.out hb)
  have TH4_7 := hid (thaw_below TH4_6.out hb)
  have HB_7 := hid (bel_next HB_6.out HB_6.out.size hb)
  have HZ_7 := hid (Nat.le_trans HZ_6.out hb.size)
  clear Rx0d0_6 W_6 Xx0d0_6 G_6 TH3_6 TH4_6 HB_6 HZ_6
  clear hb
  obtain ⟨β5, hβe⟩ : ∃ B, B = w_7.heap.size := ⟨_, rfl⟩
  have β5_le : β4 ≤ β5 := by rw [hβe]; exact HZ_7.out
  have Yx0d0_7 := hid (hsx0d0.mk (lo := β4) (hi := β5) za (Nat.le_of_eq hβe.symm))
  have HZ_7 := hid (Nat.le_of_eq hβe)
  clear hβe hsx0d0
  clear za
  go_wp2_with fail
  refine (u_eqTermS Xx0d0_7.out Yx0d0_7.out).mono ?_
  rintro e w_8 ⟨rfl, hb⟩
  rw [show decide (x0d0 = x0d0) = true from by simp]
  have Rx0d0_8 := hid (Rx0d0_7.out.below (Nat.le_refl _) hb)
  have W_8 := hid (W_7.out.below (Nat.le_refl _) hb)
  have Xx0d0_8 := hid (Xx0d0_7.out.below (Nat.le_refl _) hb)
  have G_8 := hid (G_7.out.below (Nat.le_refl _) hb)
  have Yx0d0_8 := hid (Yx0d0_7.out.below (Nat.le_refl _) hb)
  have TH3_8 := hid (thaw_below TH3_7.out hb)
  have TH4_8 := hid (thaw_below TH4_7.out hb)
  have HB_8 := hid (bel_next HB_7.out HB_7.out.size hb)
  have HZ_8 := hid (Nat.le_trans HZ_7.out hb.size)
  clear Rx0d0_7 W_7 Xx0d0_7 G_7 Yx0d0_7 TH3_7 TH4_7 HB_7 HZ_7
  clear hb
  go_wp2_with fail
  clear Yx0d0_8
  refine (u_markTermS Xx0d0_8.out TH3_8.out (by omega) (by omega)).mono ?_
  rintro e w_9 ⟨rfl, ht⟩
  clear TH3_8
  clear Xx0d0_8
  have Rx0d0_9 := hid (Rx0d0_8.out.sep ht (by omega))
  have W_9 := hid (W_8.out.sep ht (by omega))
  have G_9 := hid (G_8.out.sep ht (by omega))
  have TH4_9 := hid fun b hb => ht.thaw b (TH4_8.out b hb)
  have HB_9 := hid (HB_8.out.trans (ht.bel HB_8.out.size fun b hb => by have := hb.1.1; omega))
  have HZ_9 := hid (Nat.le_trans HZ_8.out ht.size)
  clear Rx0d0_8 W_8 G_8 TH4_8 HB_8 HZ_8 ht
  go_wp2_with fail
  refine (u_eqInt64S G_9.out W_9.out).mono ?_
  rintro e w_10 ⟨rfl, hb⟩
  rw [show decide (q0 = q0) = true from by simp]
  have Rx0d0_10 := hid (Rx0d0_9.out.below (Nat.le_refl _) hb)
  have W_10 := hid (W_9.out.below (Nat.le_refl _) hb)
  have G_10 := hid (G_9.out.below (Nat.le_refl _) hb)
  have TH4_10 := hid (thaw_below TH4_9.out hb)
  have HB_10 := hid (bel_next HB_9.out HB_9.out.size hb)
  have HZ_10 := hid (Nat.le_trans HZ_9.out hb.size)
  clear Rx0d0_9 W_9 G_9 TH4_9 HB_9 HZ_9
  clear hb
  go_wp2_with fail
  refine (c_markInt64S _ _ _ _ _ _ G_10.out rfl TH4_10.out (by omega) (by omega)).mono ?_
  rintro e w_11 ⟨rfl, ⟨ys, hl, hu, hG⟩, ht⟩
  clear TH4_10
  clear G_10
  have Rx0d0_11 := hid (Rx0d0_10.out.sep ht (by omega))
  have W_11 := hid (W_10.out.sep ht (by omega))
  have HB_11 := hid (HB_10.out.trans (ht.bel HB_10.out.size fun b hb => by have := hb.1.1; omega))
  have HZ_11 := hid (Nat.le_trans HZ_10.out ht.size)
  clear Rx0d0_10 W_10 HB_10 HZ_10 ht
  have G_11 := hid hG
  have HLY := hid hl
  have HU := hid hu
  clear hG hl hu
  go_wp2_with fail
  refine (c_heldInt64S _ _ _ _ _ _ G_11.out HLY.out HU.out (by omega) (by omega)).mono ?_
  rintro e w' ⟨rfl, rfl⟩
  go_wp2_with fail
  refine (u_toTermS Rx0d0_11.out (by omega)).mono ?_
  rintro e w_12 ⟨aZx0d0, pZx0d0, rfl, hsx0d0, hb⟩
  have za := HZ_11.out
  have Rx0d0_12 := hid (Rx0d0_11.out.below (Nat.le_refl _) hb)
  have W_12 := hid (W_11.out.below (Nat.le_refl _) hb)
  have G_12 := hid (G_11.out.below (Nat.le_refl _) hb)
  have HB_12 := hid (bel_next HB_11.out HB_11.out.size hb)
  have HZ_12 := hid (Nat.le_trans HZ_11.out hb.size)
  clear Rx0d0_11 W_11 G_11 HB_11 HZ_11
  clear hb
  obtain ⟨β6, hβe⟩ : ∃ B, B = w_12.heap.size := ⟨_, rfl⟩
  have β6_le : β5 ≤ β6 := by rw [hβe]; exact HZ_12.out
  have Zx0d0_12 := hid (hsx0d0.mk (lo := β5) (hi := β6) za (Nat.le_of_eq hβe.symm))
  have HZ_12 := hid (Nat.le_of_eq hβe)
  clear hβe hsx0d0
  clear za
  go_wp2_with fail
  refine (c_RefuteFacts Zx0d0_12.out).mono ?_
  rw [HQ.out]
  rintro e w_13 ⟨aH, pH, rfl, hH, hb⟩
  simp only
  have za := HZ_12.out
  have Rx0d0_13 := hid (Rx0d0_12.out.below (Nat.le_refl _) hb)
  have W_13 := hid (W_12.out.below (Nat.le_refl _) hb)
  have G_13 := hid (G_12.out.below (Nat.le_refl _) hb)
  have Zx0d0_13 := hid (Zx0d0_12.out.below (Nat.le_refl _) hb)
  have HB_13 := hid (bel_next HB_12.out HB_12.out.size hb)
  have HZ_13 := hid (Nat.le_trans HZ_12.out hb.size)
  clear Rx0d0_12 W_12 G_12 Zx0d0_12 HB_12 HZ_12
  clear hb
  obtain ⟨β7, hβe⟩ : ∃ B, B = w_13.heap.size := ⟨_, rfl⟩
  have β7_le : β6 ≤ β7 := by rw [hβe]; exact HZ_13.out
  have H_13 := hid (hH.mk (lo := β6) (hi := β7) za (Nat.le_of_eq hβe.symm))
  have HZ_13 := hid (Nat.le_of_eq hβe)
  clear hβe hH
  clear za
  go_wp2_with fail
  clear Zx0d0_13
  refine (u_eqInt64S H_13.out W_13.out).mono ?_
  rintro e w_14 ⟨rfl, hb⟩
  rw [show decide (q0 = q0) = true from by simp]
  have Rx0d0_14 := hid (Rx0d0_13.out.below (Nat.le_refl _) hb)
  have W_14 := hid (W_13.out.below (Nat.le_refl _) hb)
  have G_14 := hid (G_13.out.below (Nat.le_refl _) hb)
  have H_14 := hid (H_13.out.below (Nat.le_refl _) hb)
  have HB_14 := hid (bel_next HB_13.out HB_13.out.size hb)
  have HZ_14 := hid (Nat.le_trans HZ_13.out hb.size)
  clear Rx0d0_13 W_13 G_13 H_13 HB_13 HZ_13
  clear hb
  go_wp2_with fail
  refine (c_heldInt64S _ _ _ _ _ _ G_14.out HLY.out HU.out (by omega) (by omega)).mono ?_
  rintro e w' ⟨rfl, rfl⟩
  try go_wp2
  go_ret
  exact ⟨rfl, HB_14.out⟩

theorem own : ownKnob Try.prog.godebug = none := by kernel_rfl
theorem laidOut : laidOutB Try.prog = true := by kernel_rfl
set_option maxRecDepth 100000 in
theorem lifted (os : Os) (started : os.Started) (H : Type) (enc : TypeId × Value → H) :
    ReturnsInHanded {} Try.checked os 3 .any (Rows.fnExactRefuteFactsSpec.pre6 enc Try.prog Try.f3 Rows.fnExactRefuteFactsRow.domain false) (Rows.fnExactRefuteFactsSpec.post enc Try.prog Try.f3 false true false false) := by
  refine returnsInHanded_of_change (C := Try.checked) own started (by kernel_rfl) Try.func3
    (ChangeSpec.witness6 (enc := enc) (C := Try.checked) false ⟨#[], #[.slice none 0 0], []⟩ 8 (by kernel_rfl) (by kernel_rfl) (by kernel_rfl) (by kernel_rfl)) ?_
  intro W base args ds gs before hval0 hW hcnd _
  have hval : ∀ (j : Nat) t v, Try.f3.params[j]? = some t → args[j]? = some v → Value.okWide Try.prog W .any base t v := hval0
  have hW' := hW
  obtain ⟨p, q, hA0, hV, rfl, hfz, hnd⟩ := hW
  have hA : DataW.TrodAll enc Try.prog W 0 (fun _ => true) true Try.f3.params.toList args.toList ds p := hA0
  rw [Try.params3] at hA hval
  obtain ⟨v0, vs0, d0, ds0, p0, q0, hargs, rfl, rfl, h0, r0⟩ := trodAll_cons hA
  obtain ⟨rfl, rfl, rfl⟩ := trodAll_nil r0
  obtain rfl : args = #[v0] := by cases args; simp_all
  obtain ⟨rfl, rfl⟩ := trodVars_none hV
  have k0 := h0
  have lt0 : ∀ x ∈ p0, x.block < W.heap.size := by obtain ⟨m, hm⟩ := k0; exact DataW.trod_lt m _ _ _ hm
  obtain ⟨a0, cap0, as0, rfl, s0⟩ := arg_sl Try.underlying22 op_Terms (hval 0 22 v0 rfl rfl) h0
  clear hA0 hval0
  refine (walk a0 cap0 as0 W s0).mono fun e W' ⟨he, bel⟩ => ?_
  subst he
  exact ⟨_, rfl, _, _, _, [], _, [], hW', trodAll_mk1 (shut_bool Try.underlying4 _), (trodAll_cons_mk (Below.trod laidOut (by kernel_rfl) (of_decide_eq_true (by kernel_rfl)) k0 bel lt0) trodAll_mk0), rfl, bel.frame _, fun h => by cases h⟩

theorem over : Rows.fnExactRefuteFactsRow.holds Try.pinned (OpenSpec.ofChange Rows.fnExactRefuteFactsSpec) :=
  OpenClaim.holds_of_wide 3 Try.f3 rfl rfl rfl rfl rfl rfl rfl ⟨rfl, rfl, rfl, rfl, rfl⟩ rfl rfl rfl rfl rfl (by kernel_rfl) Try.func3 (by kernel_rfl)
    (of_decide_eq_true (by kernel_rfl)) (by unfold Func.isWrapper; first | (rw [if_pos (by decide +kernel)]; kernel_rfl) | (rw [if_neg (by decide +kernel)]; exact ⟨rfl, rfl⟩))
    (fun os started H enc _ => lifted os started H enc)

theorem proved : Rows.FnExactRefuteFactsSaid := over
#print axioms proved
end Go.Proofs.Ytkckhnpdodbffaa.fnExactRefuteFacts
