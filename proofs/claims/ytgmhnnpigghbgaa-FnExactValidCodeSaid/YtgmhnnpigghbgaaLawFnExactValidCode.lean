/- For every code the law FnExactValidCode returns true: the program's ValidCode returns what the reference's returns, and leaves the code as it was. No condition. -/
import Derived.Test.YtgmhnnpigghbgaaRows
import Derived.Test.YtgmhnnpigghbgaaOpn
import Derived.Test.YtgmhnnpigghbgaaHlp
import Derived.Test.YtgmhnnpigghbgaaL07c
import Derived.Deep.RegionHeld3
import Derived.ProofKit
import Derived.OpenShut
import Derived.ChangeOld
namespace Go.Proofs.Ytgmhnnpigghbgaa.fnExactValidCode
open Go.ChangeShapes Go.WideShapes Go.ChangeAt Go.RowKit
open Go.ChangeMaps (open_string shut_string)
set_option linter.unusedVariables false

set_option maxHeartbeats 2000000 in
set_option maxRecDepth 100000 in
theorem walk (a_xs0 : Option Addr) (p_xs0 : Nat) (xs0 : List _) (w : World) (h0 : SlRd cInstr (fun _ => True) w a_xs0 p_xs0 xs0) : Calls Try.prog 12 #[.slice a_xs0 xs0.length p_xs0] w fun e w' => e = .returned (.bool true) ∧ Below w.heap.size w w' := by
  have hrxs0 := h0
  clear h0
  have hl_xs0 := hrxs0.len_le
  have Rxs0_0 := hid hrxs0
  clear hrxs0
  have HB_0 := hid (Below.refl w.heap.size w)
  obtain ⟨q0, hq⟩ : ∃ q, validCode xs0 = q := ⟨_, rfl⟩
  have HQ := hid hq
  clear hq
  obtain ⟨r0, hr⟩ : ∃ r, szR 1048576 (xs0.length : Nat) = r := ⟨_, rfl⟩
  have HR0 := hid hr
  clear hr
  by_cases hneg0 : r0 < 0
  · skip
    go_enter Try.func12, Try.ntmps12
    go_wp2_with fail
    refine (c_szInstrS _ _ _ _ _ hl_xs0 (by omega) (by omega)).mono ?_
    rintro e w_1 ⟨rfl, hb⟩
    rw [HR0.out]
    have Rxs0_1 := hid (Rxs0_0.out.below (Nat.le_refl _) hb)
    have HB_1 := hid (bel_next HB_0.out HB_0.out.size hb)
    clear Rxs0_0 HB_0
    clear hb
    go_wp2_with fail
    go_wp2
    go_ret
    exact ⟨rfl, HB_1.out⟩
  · skip
    have hle := (szR_ge (left := 1048576) (n := xs0.length) (by rw [HR0.out]; omega))
    rw [HR0.out] at hle
    obtain ⟨hle, hle'⟩ := hle
    have hn0 : xs0.length ≤ 1048576 := by omega
    have hle0 : r0 ≤ 1048576 := by omega
    clear hle hle'
    go_enter Try.func12, Try.ntmps12
    go_wp2_with fail
    refine (c_szInstrS _ _ _ _ _ hl_xs0 (by omega) (by omega)).mono ?_
    rintro e w_1 ⟨rfl, hb⟩
    rw [HR0.out]
    have Rxs0_1 := hid (Rxs0_0.out.below (Nat.le_refl _) hb)
    have HB_1 := hid (bel_next HB_0.out HB_0.out.size hb)
    clear Rxs0_0 HB_0
    clear hb
    go_wp2_with fail
    refine (c_toInstrS _ _ _ _ Rxs0_1.out hn0).mono ?_
    rintro e w_2 ⟨a_xs0V, p_xs0V, rfl, hs_xs, hb⟩
    have Rxs0_2 := hid (Rxs0_1.out.below (Nat.le_refl _) hb)
    have Vxs0_2 := hid hs_xs
    have HB_2 := hid (bel_next HB_1.out HB_1.out.size hb)
    clear Rxs0_1 hs_xs HB_1
    clear hb
    go_wp2_with fail
    refine (c_sValidCode _ _ _ _ Vxs0_2.out).mono ?_
    rintro e w_3 ⟨rfl, hb⟩
    rw [HQ.out]
    have Rxs0_3 := hid (Rxs0_2.out.below (Nat.le_refl _) hb)
    have Vxs0_3 := hid (Vxs0_2.out.below (Nat.le_refl _) hb)
    have HB_3 := hid (bel_next HB_2.out HB_2.out.size hb)
    clear Rxs0_2 Vxs0_2 HB_2
    clear hb
    go_wp2_with fail
    clear Vxs0_3
    refine (c_toInstrS _ _ _ _ Rxs0_3.out hn0).mono ?_
    rintro e w_4 ⟨a_xs0X, p_xs0X, rfl, hs_xs, hb⟩
    have Rxs0_4 := hid (Rxs0_3.out.below (Nat.le_refl _) hb)
    have Xxs0_4 := hid hs_xs
    have HB_4 := hid (bel_next HB_3.out HB_3.out.size hb)
    clear Rxs0_3 hs_xs HB_3
    clear hb
    go_wp2_with fail
    refine (c_ValidCode _ _ _ _ Xxs0_4.out).mono ?_
    rintro e w_5 ⟨rfl, hb⟩
    rw [HQ.out]
    have Rxs0_5 := hid (Rxs0_4.out.below (Nat.le_refl _) hb)
    have Xxs0_5 := hid (Xxs0_4.out.below (Nat.le_refl _) hb)
    have HB_5 := hid (bel_next HB_4.out HB_4.out.size hb)
    clear Rxs0_4 Xxs0_4 HB_4
    clear hb
    have hne0 : (q0 != q0) = false := by simp
    go_wp2_with fail
    refine (c_toInstrS _ _ _ _ Rxs0_5.out hn0).mono ?_
    rintro e w_6 ⟨a_xs0Y, p_xs0Y, rfl, hs_xs, hb⟩
    have Rxs0_6 := hid (Rxs0_5.out.below (Nat.le_refl _) hb)
    have Xxs0_6 := hid (Xxs0_5.out.below (Nat.le_refl _) hb)
    have Yxs0_6 := hid hs_xs
    have HB_6 := hid (bel_next HB_5.out HB_5.out.size hb)
    clear Rxs0_5 Xxs0_5 hs_xs HB_5
    clear hb
    go_wp2_with fail
    refine (c_eqInstrS _ _ _ _ _ _ _ Xxs0_6.out Yxs0_6.out).mono ?_
    rintro e w_7 ⟨rfl, hb⟩
    rw [show decide (xs0 = xs0) = true from by simp]
    have Rxs0_7 := hid (Rxs0_6.out.below (Nat.le_refl _) hb)
    have Xxs0_7 := hid (Xxs0_6.out.below (Nat.le_refl _) hb)
    have Yxs0_7 := hid (Yxs0_6.out.below (Nat.le_refl _) hb)
    have HB_7 := hid (bel_next HB_6.out HB_6.out.size hb)
    clear Rxs0_6 Xxs0_6 Yxs0_6 HB_6
    clear hb
    go_wp2_with fail
    clear Yxs0_7
    try go_wp2
    go_ret
    exact ⟨rfl, HB_7.out⟩

theorem own : ownKnob Try.prog.godebug = none := by kernel_rfl
theorem laidOut : laidOutB Try.prog = true := by kernel_rfl
set_option maxRecDepth 100000 in
theorem lifted (os : Os) (started : os.Started) (H : Type) (enc : TypeId × Value → H) :
    ReturnsInHanded {} Try.checked os 12 .any (Rows.fnExactValidCodeSpec.pre6 enc Try.prog Try.f12 Rows.fnExactValidCodeRow.domain false) (Rows.fnExactValidCodeSpec.post enc Try.prog Try.f12 false true false false) := by
  refine returnsInHanded_of_change (C := Try.checked) own started (by kernel_rfl) Try.func12
    (ChangeSpec.witness6 (enc := enc) (C := Try.checked) false ⟨#[], #[.slice none 0 0], []⟩ 8 (by kernel_rfl) (by kernel_rfl) (by kernel_rfl) (by kernel_rfl)) ?_
  intro W base args ds gs before hval0 hW hcnd _
  have hval : ∀ (j : Nat) t v, Try.f12.params[j]? = some t → args[j]? = some v → Value.okWide Try.prog W .any base t v := hval0
  have hW' := hW
  obtain ⟨p, q, hA0, hV, rfl, hfz, hnd⟩ := hW
  have hA : DataW.TrodAll enc Try.prog W 0 (fun _ => true) true Try.f12.params.toList args.toList ds p := hA0
  rw [Try.params12] at hA hval
  obtain ⟨v0, vs0, d0, ds0, p0, q0, hargs, rfl, rfl, h0, r0⟩ := trodAll_cons hA
  obtain ⟨rfl, rfl, rfl⟩ := trodAll_nil r0
  obtain rfl : args = #[v0] := by cases args; simp_all
  obtain ⟨rfl, rfl⟩ := trodVars_none hV
  have k0 := h0
  have lt0 : ∀ x ∈ p0, x.block < W.heap.size := by obtain ⟨m, hm⟩ := k0; exact DataW.trod_lt m _ _ _ hm
  obtain ⟨a0, cap0, as0, rfl, s0⟩ := arg_sl Try.underlying60 op_Code (hval 0 60 v0 rfl rfl) h0
  clear hA0 hval0
  refine (walk a0 cap0 as0 W s0).mono fun e W' ⟨he, bel⟩ => ?_
  subst he
  exact ⟨_, rfl, _, _, _, [], _, [], hW', trodAll_mk1 (shut_bool Try.underlying4 _), (trodAll_cons_mk (Below.trod laidOut (by kernel_rfl) (of_decide_eq_true (by kernel_rfl)) k0 bel lt0) trodAll_mk0), rfl, bel.frame _, fun h => by cases h⟩

theorem over : Rows.fnExactValidCodeRow.holds Try.pinned (OpenSpec.ofChange Rows.fnExactValidCodeSpec) :=
  OpenClaim.holds_of_wide 12 Try.f12 rfl rfl rfl rfl rfl rfl rfl ⟨rfl, rfl, rfl, rfl, rfl⟩ rfl rfl rfl rfl rfl (by kernel_rfl) Try.func12 (by kernel_rfl)
    (of_decide_eq_true (by kernel_rfl)) (by unfold Func.isWrapper; first | (rw [if_pos (by decide +kernel)]; kernel_rfl) | (rw [if_neg (by decide +kernel)]; exact ⟨rfl, rfl⟩))
    (fun os started H enc _ => lifted os started H enc)

theorem proved : Rows.FnExactValidCodeSaid := over
#print axioms proved
end Go.Proofs.Ytgmhnnpigghbgaa.fnExactValidCode
