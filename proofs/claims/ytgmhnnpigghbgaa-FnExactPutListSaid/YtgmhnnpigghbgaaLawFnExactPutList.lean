/- For every list of numbers the law FnExactPutList returns true: the program's PutList returns what the reference's returns, and leaves the list as it was. No condition. -/
import Derived.Test.YtgmhnnpigghbgaaRows
import Derived.Test.YtgmhnnpigghbgaaOpn
import Derived.Test.YtgmhnnpigghbgaaHlp
import Derived.Test.YtgmhnnpigghbgaaL01g
import Derived.Deep.RegionHeld3
import Derived.ProofKit
import Derived.OpenShut
import Derived.ChangeOld
namespace Go.Proofs.Ytgmhnnpigghbgaa.fnExactPutList
open Go.ChangeShapes Go.WideShapes Go.ChangeAt Go.RowKit
open Go.ChangeMaps (open_string shut_string)
set_option linter.unusedVariables false

set_option maxHeartbeats 2000000 in
set_option maxRecDepth 100000 in
theorem walk (a_zs0 : Option Addr) (p_zs0 : Nat) (zs0 : List _) (w : World) (h0 : SlRd cInt (fun _ => True) w a_zs0 p_zs0 zs0) : Calls Try.prog 10 #[.slice a_zs0 zs0.length p_zs0] w fun e w' => e = .returned (.bool true) ∧ Below w.heap.size w w' := by
  have hrzs0 := h0
  clear h0
  have hl_zs0 := hrzs0.len_le
  have Rzs0_0 := hid hrzs0
  clear hrzs0
  have HB_0 := hid (Below.refl w.heap.size w)
  obtain ⟨⟨q0, q1⟩, hq⟩ : ∃ q, putLF zs0 = q := ⟨_, rfl⟩
  have HQ := hid hq
  clear hq
  by_cases hsz0 : zs0.length ≤ 1048576
  · skip
    have hn0 := hsz0
    go_enter Try.func10, Try.ntmps10
    go_wp2_with fail
    refine (c_toInt64S _ _ _ _ Rzs0_0.out hn0).mono ?_
    rintro e w_1 ⟨a_zs0V, p_zs0V, rfl, hs_zs, hb⟩
    have Rzs0_1 := hid (Rzs0_0.out.below (Nat.le_refl _) hb)
    have Vzs0_1 := hid hs_zs
    have HB_1 := hid (bel_next HB_0.out HB_0.out.size hb)
    clear Rzs0_0 hs_zs HB_0
    clear hb
    go_wp2_with fail
    refine (c_sPutList _ _ _ _ Vzs0_1.out).mono ?_
    rintro e w_2 ⟨rfl, hb⟩
    rw [HQ.out]; unfold strOf
    have Rzs0_2 := hid (Rzs0_1.out.below (Nat.le_refl _) hb)
    have Vzs0_2 := hid (Vzs0_1.out.below (Nat.le_refl _) hb)
    have HB_2 := hid (bel_next HB_1.out HB_1.out.size hb)
    clear Rzs0_1 Vzs0_1 HB_1
    clear hb
    go_wp2_with fail
    clear Vzs0_2
    refine (c_toInt64S _ _ _ _ Rzs0_2.out hn0).mono ?_
    rintro e w_3 ⟨a_zs0X, p_zs0X, rfl, hs_zs, hb⟩
    have Rzs0_3 := hid (Rzs0_2.out.below (Nat.le_refl _) hb)
    have Xzs0_3 := hid hs_zs
    have HB_3 := hid (bel_next HB_2.out HB_2.out.size hb)
    clear Rzs0_2 hs_zs HB_2
    clear hb
    go_wp2_with fail
    refine (c_PutList _ _ _ _ Xzs0_3.out).mono ?_
    rintro e w_4 ⟨rfl, hb⟩
    rw [HQ.out]; unfold strOf
    have Rzs0_4 := hid (Rzs0_3.out.below (Nat.le_refl _) hb)
    have Xzs0_4 := hid (Xzs0_3.out.below (Nat.le_refl _) hb)
    have HB_4 := hid (bel_next HB_3.out HB_3.out.size hb)
    clear Rzs0_3 Xzs0_3 HB_3
    clear hb
    have hne0 : (q0 == q0) = true := by simp
    have hne1 : (q1 != q1) = false := by simp
    go_wp2_with fail
    refine (c_toInt64S _ _ _ _ Rzs0_4.out hn0).mono ?_
    rintro e w_5 ⟨a_zs0Y, p_zs0Y, rfl, hs_zs, hb⟩
    have Rzs0_5 := hid (Rzs0_4.out.below (Nat.le_refl _) hb)
    have Xzs0_5 := hid (Xzs0_4.out.below (Nat.le_refl _) hb)
    have Yzs0_5 := hid hs_zs
    have HB_5 := hid (bel_next HB_4.out HB_4.out.size hb)
    clear Rzs0_4 Xzs0_4 hs_zs HB_4
    clear hb
    go_wp2_with fail
    refine (c_eqInt64S _ _ _ _ _ _ _ Xzs0_5.out Yzs0_5.out).mono ?_
    rintro e w_6 ⟨rfl, hb⟩
    rw [show decide (zs0 = zs0) = true from by simp]
    have Rzs0_6 := hid (Rzs0_5.out.below (Nat.le_refl _) hb)
    have Xzs0_6 := hid (Xzs0_5.out.below (Nat.le_refl _) hb)
    have Yzs0_6 := hid (Yzs0_5.out.below (Nat.le_refl _) hb)
    have HB_6 := hid (bel_next HB_5.out HB_5.out.size hb)
    clear Rzs0_5 Xzs0_5 Yzs0_5 HB_5
    clear hb
    go_wp2_with fail
    clear Yzs0_6
    try go_wp2
    go_ret
    exact ⟨rfl, HB_6.out⟩
  · skip
    go_enter Try.func10, Try.ntmps10
    go_wp2_with fail
    go_wp2
    go_ret
    exact ⟨rfl, HB_0.out⟩

theorem own : ownKnob Try.prog.godebug = none := by kernel_rfl
theorem laidOut : laidOutB Try.prog = true := by kernel_rfl
set_option maxRecDepth 100000 in
theorem lifted (os : Os) (started : os.Started) (H : Type) (enc : TypeId × Value → H) :
    ReturnsInHanded {} Try.checked os 10 .any (Rows.fnExactPutListSpec.pre6 enc Try.prog Try.f10 Rows.fnExactPutListRow.domain false) (Rows.fnExactPutListSpec.post enc Try.prog Try.f10 false true false false) := by
  refine returnsInHanded_of_change (C := Try.checked) own started (by kernel_rfl) Try.func10
    (ChangeSpec.witness6 (enc := enc) (C := Try.checked) false ⟨#[], #[.slice none 0 0], []⟩ 8 (by kernel_rfl) (by kernel_rfl) (by kernel_rfl) (by kernel_rfl)) ?_
  intro W base args ds gs before hval0 hW hcnd _
  have hval : ∀ (j : Nat) t v, Try.f10.params[j]? = some t → args[j]? = some v → Value.okWide Try.prog W .any base t v := hval0
  have hW' := hW
  obtain ⟨p, q, hA0, hV, rfl, hfz, hnd⟩ := hW
  have hA : DataW.TrodAll enc Try.prog W 0 (fun _ => true) true Try.f10.params.toList args.toList ds p := hA0
  rw [Try.params10] at hA hval
  obtain ⟨v0, vs0, d0, ds0, p0, q0, hargs, rfl, rfl, h0, r0⟩ := trodAll_cons hA
  obtain ⟨rfl, rfl, rfl⟩ := trodAll_nil r0
  obtain rfl : args = #[v0] := by cases args; simp_all
  obtain ⟨rfl, rfl⟩ := trodVars_none hV
  have k0 := h0
  have lt0 : ∀ x ∈ p0, x.block < W.heap.size := by obtain ⟨m, hm⟩ := k0; exact DataW.trod_lt m _ _ _ hm
  obtain ⟨a0, cap0, as0, rfl, s0⟩ := arg_sl Try.underlying34 op_ints (hval 0 34 v0 rfl rfl) h0
  clear hA0 hval0
  refine (walk a0 cap0 as0 W s0).mono fun e W' ⟨he, bel⟩ => ?_
  subst he
  exact ⟨_, rfl, _, _, _, [], _, [], hW', trodAll_mk1 (shut_bool Try.underlying4 _), (trodAll_cons_mk (Below.trod laidOut (by kernel_rfl) (of_decide_eq_true (by kernel_rfl)) k0 bel lt0) trodAll_mk0), rfl, bel.frame _, fun h => by cases h⟩

theorem over : Rows.fnExactPutListRow.holds Try.pinned (OpenSpec.ofChange Rows.fnExactPutListSpec) :=
  OpenClaim.holds_of_wide 10 Try.f10 rfl rfl rfl rfl rfl rfl rfl ⟨rfl, rfl, rfl, rfl, rfl⟩ rfl rfl rfl rfl rfl (by kernel_rfl) Try.func10 (by kernel_rfl)
    (of_decide_eq_true (by kernel_rfl)) (by unfold Func.isWrapper; first | (rw [if_pos (by decide +kernel)]; kernel_rfl) | (rw [if_neg (by decide +kernel)]; exact ⟨rfl, rfl⟩))
    (fun os started H enc _ => lifted os started H enc)

theorem proved : Rows.FnExactPutListSaid := over
#print axioms proved
end Go.Proofs.Ytgmhnnpigghbgaa.fnExactPutList
