/- For every list of numbers the law FnExactGcdOf returns true: the program's GcdOf returns what the reference's returns, and leaves the list as it was. No condition. -/
import Derived.Test.YtgmhnnpigghbgaaRows
import Derived.Test.YtgmhnnpigghbgaaOpn
import Derived.Test.YtgmhnnpigghbgaaL01d
import Derived.Test.YtgmhnnpigghbgaaHlp
import Derived.ProofKit
import Derived.OpenShut
import Derived.ChangeOld
namespace Go.Proofs.Ytgmhnnpigghbgaa.fnExactGcdOf
open Go.ChangeShapes Go.WideShapes Go.ChangeAt Go.RowKit
open Go.ChangeMaps (open_string shut_string)
set_option linter.unusedVariables false

theorem walk (a : Option Addr) (cap : Nat) (zs : List Int) (w : World) (h : SlRd cInt (fun _ => True) w a cap zs) : Calls Try.prog 9 #[.slice a zs.length cap] w fun e w' => e = .returned (.bool true) ∧ Below w.heap.size w w' := by
  have hl := h.len_le
  have H := hid h
  clear h
  by_cases hn : zs.length ≤ 1048576
  · obtain ⟨r, hr⟩ : ∃ r, gcdF zs = r := ⟨_, rfl⟩
    have HR := hid hr
    clear hr
    obtain ⟨n, b⟩ := r
    go_enter Try.func9, Try.ntmps9
    go_wp2_with fail
    refine (c_toInt64S _ _ _ _ H.out hn).mono ?_
    rintro e w1 ⟨a1, cap1, rfl, hs1, hb1⟩
    have HS1 := hid hs1
    have HB1 := hid hb1
    clear hs1 hb1
    go_wp2_with fail
    refine (c_sGcdOf _ _ _ _ HS1.out).mono ?_
    rintro e w1' ⟨rfl, rfl⟩
    rw [HR.out]
    go_wp2_with fail
    refine (c_toInt64S _ _ _ _ (H.out.below (Nat.le_refl _) HB1.out) hn).mono ?_
    rintro e w2 ⟨a2, cap2, rfl, hs2, hb2⟩
    have HS2 := hid hs2
    have HB2 := hid (bel_next HB1.out HB1.out.size hb2)
    clear hs2 hb2
    go_wp2_with fail
    refine (c_GcdOf _ _ _ _ HS2.out).mono ?_
    rintro e w3 ⟨rfl, hb3⟩
    rw [HR.out]
    have HS3 := hid (HS2.out.below (Nat.le_refl _) hb3)
    have HB3 := hid (bel_next HB2.out HB2.out.size hb3)
    clear hb3
    have hnn : (n != n) = false := by simp
    have hbb : (b != b) = false := by simp
    go_wp2_with fail
    refine (c_toInt64S _ _ _ _ (H.out.below (Nat.le_refl _) HB3.out) hn).mono ?_
    rintro e w4 ⟨a4, cap4, rfl, hs4, hb4⟩
    have HS4 := hid hs4
    have HS34 := hid (HS3.out.below (Nat.le_refl _) hb4)
    have HB4 := hid (bel_next HB3.out HB3.out.size hb4)
    clear hs4 hb4
    go_wp2_with fail
    refine (c_eqInt64S _ _ _ _ _ _ _ HS34.out HS4.out).mono ?_
    rintro e w5 ⟨rfl, hb5⟩
    have hdd : decide (zs = zs) = true := by simp
    rw [hdd]
    have HB5 := hid (bel_next HB4.out HB4.out.size hb5)
    clear hb5
    go_wp2
    go_ret
    exact ⟨rfl, HB5.out⟩
  · go_enter Try.func9, Try.ntmps9
    go_wp2
    go_ret
    exact ⟨rfl, Below.refl _ _⟩

theorem own : ownKnob Try.prog.godebug = none := by kernel_rfl
theorem laidOut : laidOutB Try.prog = true := by kernel_rfl
set_option maxRecDepth 100000 in
theorem lifted (os : Os) (started : os.Started) (H : Type) (enc : TypeId × Value → H) :
    ReturnsInHanded {} Try.checked os 9 .any (Rows.fnExactGcdOfSpec.pre6 enc Try.prog Try.f9 Rows.fnExactGcdOfRow.domain false) (Rows.fnExactGcdOfSpec.post enc Try.prog Try.f9 false true false false) := by
  refine returnsInHanded_of_change (C := Try.checked) own started (by kernel_rfl) Try.func9
    (ChangeSpec.witness6 (enc := enc) (C := Try.checked) false ⟨#[], #[.slice none 0 0], []⟩ 8 (by kernel_rfl) (by kernel_rfl) (by kernel_rfl) (by kernel_rfl)) ?_
  intro W base args ds gs before hval0 hW hcnd _
  have hval : ∀ (j : Nat) t v, Try.f9.params[j]? = some t → args[j]? = some v → Value.okWide Try.prog W .any base t v := hval0
  have hW' := hW
  obtain ⟨p, q, hA0, hV, rfl, hfz, hnd⟩ := hW
  have hA : DataW.TrodAll enc Try.prog W 0 (fun _ => true) true Try.f9.params.toList args.toList ds p := hA0
  rw [Try.params9] at hA hval
  obtain ⟨v0, vs0, d0, ds0, p0, q0, hargs, rfl, rfl, h0, r0⟩ := trodAll_cons hA
  obtain ⟨rfl, rfl, rfl⟩ := trodAll_nil r0
  obtain rfl : args = #[v0] := by cases args; simp_all
  obtain ⟨rfl, rfl⟩ := trodVars_none hV
  have k0 := h0
  have lt0 : ∀ x ∈ p0, x.block < W.heap.size := by obtain ⟨m, hm⟩ := k0; exact DataW.trod_lt m _ _ _ hm
  obtain ⟨a0, cap0, as0, rfl, s0⟩ := arg_sl Try.underlying34 op_ints (hval 0 34 v0 rfl rfl) h0
  clear hA0 hval0
  refine (walk a0 cap0 as0 W s0).mono fun e W' ⟨he, bel⟩ => ?_
  subst he
  exact ⟨_, rfl, _, _, _, [], _, [], hW', trodAll_mk1 (shut_bool Try.underlying4 _), (trodAll_cons_mk (Below.trod laidOut (by kernel_rfl) (of_decide_eq_true (by kernel_rfl)) k0 bel lt0) trodAll_mk0), rfl, bel.frame _, fun h => by cases h⟩

theorem over : Rows.fnExactGcdOfRow.holds Try.pinned (OpenSpec.ofChange Rows.fnExactGcdOfSpec) :=
  OpenClaim.holds_of_wide 9 Try.f9 rfl rfl rfl rfl rfl rfl rfl ⟨rfl, rfl, rfl, rfl, rfl⟩ rfl rfl rfl rfl rfl (by kernel_rfl) Try.func9 (by kernel_rfl)
    (of_decide_eq_true (by kernel_rfl)) (by unfold Func.isWrapper; first | (rw [if_pos (by decide +kernel)]; kernel_rfl) | (rw [if_neg (by decide +kernel)]; exact ⟨rfl, rfl⟩))
    (fun os started H enc _ => lifted os started H enc)

theorem proved : Rows.FnExactGcdOfSaid := over
#print axioms proved
end Go.Proofs.Ytgmhnnpigghbgaa.fnExactGcdOf
