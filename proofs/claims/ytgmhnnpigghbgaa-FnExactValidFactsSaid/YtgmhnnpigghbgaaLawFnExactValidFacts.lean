/- For every list of terms the law FnExactValidFacts returns true: the program's ValidFacts returns what the reference's returns, and leaves the list as it was. No condition. -/
import Derived.Test.YtgmhnnpigghbgaaRows
import Derived.Test.YtgmhnnpigghbgaaOpn
import Derived.Test.YtgmhnnpigghbgaaHlp
import Derived.Test.YtgmhnnpigghbgaaL02
import Derived.Test.YtgmhnnpigghbgaaL02s
import Derived.ProofKit
import Derived.OpenShut
import Derived.ChangeOld
namespace Go.Proofs.Ytgmhnnpigghbgaa.fnExactValidFacts
open Go.ChangeShapes Go.WideShapes Go.ChangeAt Go.RowKit
open Go.ChangeMaps (open_string shut_string)
set_option linter.unusedVariables false

theorem walk (a : Option Addr) (cap : Nat) (ts : List Term) (w : World) (h : SlRd cTerm (fun _ => True) w a cap ts) : Calls Try.prog 14 #[.slice a ts.length cap] w fun e w' => e = .returned (.bool true) ∧ Below w.heap.size w w' := by
  obtain ⟨r, hr⟩ : ∃ r, szR 1048576 (szTs ts) = r := ⟨_, rfl⟩
  have HR := hid hr
  have H := hid h
  clear hr h
  by_cases hneg : r < 0
  · go_enter Try.func14, Try.ntmps14
    go_wp2_with (go_at_call 49; refine (c_szTermS _ _ _ _ _ H.out (by omega) (by omega)).mono ?_; rintro e w1 ⟨rfl, hb1⟩; rw [HR.out])
    go_ret
    exact ⟨rfl, hb1⟩
  · have hle := szR_ge (left := 1048576) (n := szTs ts) (by rw [HR.out]; omega)
    have hn : ts.length ≤ 1048576 := by have := hle.1; unfold szTs at this; omega
    have HN : Hid (∀ t ∈ ts, t.2.length ≤ 1048576) := fun t ht => by have := szTs_le ht; have := hle.1; omega
    clear hle
    obtain ⟨q, hq⟩ : ∃ q, areTerms ts 14 = q := ⟨_, rfl⟩
    have HQ := hid hq
    clear hq
    go_enter Try.func14, Try.ntmps14
    go_wp2_with (go_at_call 49; refine (c_szTermS _ _ _ _ _ H.out (by omega) (by omega)).mono ?_; rintro e w1 ⟨rfl, hb1⟩; rw [HR.out]; have HB1 := hid hb1; clear hb1)
    refine (c_toTermS _ _ _ _ (H.out.below (Nat.le_refl _) HB1.out) hn HN.out).mono ?_
    rintro e w2 ⟨a2, cap2, rfl, hs2, hb2⟩
    have HS2 := hid hs2
    have HB2 := hid (bel_next HB1.out HB1.out.size hb2)
    clear hs2 hb2
    go_wp2_with fail
    refine (c_sValidFacts _ _ _ _ HS2.out).mono ?_
    rintro e w2' ⟨rfl, rfl⟩
    rw [HQ.out]
    go_wp2_with fail
    refine (c_toTermS _ _ _ _ (H.out.below (Nat.le_refl _) HB2.out) hn HN.out).mono ?_
    rintro e w3 ⟨a3, cap3, rfl, hs3, hb3⟩
    have HS3 := hid hs3
    have HB3 := hid (bel_next HB2.out HB2.out.size hb3)
    clear hs3 hb3
    go_wp2_with fail
    refine (c_ValidFacts _ _ _ _ HS3.out).mono ?_
    rintro e w4 ⟨rfl, hb4⟩
    rw [HQ.out]
    have HS4 := hid (HS3.out.below (Nat.le_refl _) hb4)
    have HB4 := hid (bel_next HB3.out HB3.out.size hb4)
    clear hb4
    have hqq : (q != q) = false := by simp
    go_wp2_with fail
    refine (c_toTermS _ _ _ _ (H.out.below (Nat.le_refl _) HB4.out) hn HN.out).mono ?_
    rintro e w5 ⟨a5, cap5, rfl, hs5, hb5⟩
    have HS5 := hid hs5
    have HS45 := hid (HS4.out.below (Nat.le_refl _) hb5)
    have HB5 := hid (bel_next HB4.out HB4.out.size hb5)
    clear hs5 hb5
    go_wp2_with fail
    refine (c_eqTermS _ _ _ _ _ _ _ HS45.out HS5.out).mono ?_
    rintro e w6 ⟨rfl, hb6⟩
    have hdd : decide (ts = ts) = true := by simp
    rw [hdd]
    have HB6 := hid (bel_next HB5.out HB5.out.size hb6)
    clear hb6
    go_wp2
    go_ret
    exact ⟨rfl, HB6.out⟩

theorem own : ownKnob Try.prog.godebug = none := by kernel_rfl
theorem laidOut : laidOutB Try.prog = true := by kernel_rfl
set_option maxRecDepth 100000 in
theorem lifted (os : Os) (started : os.Started) (H : Type) (enc : TypeId × Value → H) :
    ReturnsInHanded {} Try.checked os 14 .any (Rows.fnExactValidFactsSpec.pre6 enc Try.prog Try.f14 Rows.fnExactValidFactsRow.domain false) (Rows.fnExactValidFactsSpec.post enc Try.prog Try.f14 false true false false) := by
  refine returnsInHanded_of_change (C := Try.checked) own started (by kernel_rfl) Try.func14
    (ChangeSpec.witness6 (enc := enc) (C := Try.checked) false ⟨#[], #[.slice none 0 0], []⟩ 8 (by kernel_rfl) (by kernel_rfl) (by kernel_rfl) (by kernel_rfl)) ?_
  intro W base args ds gs before hval0 hW hcnd _
  have hval : ∀ (j : Nat) t v, Try.f14.params[j]? = some t → args[j]? = some v → Value.okWide Try.prog W .any base t v := hval0
  have hW' := hW
  obtain ⟨p, q, hA0, hV, rfl, hfz, hnd⟩ := hW
  have hA : DataW.TrodAll enc Try.prog W 0 (fun _ => true) true Try.f14.params.toList args.toList ds p := hA0
  rw [Try.params14] at hA hval
  obtain ⟨v0, vs0, d0, ds0, p0, q0, hargs, rfl, rfl, h0, r0⟩ := trodAll_cons hA
  obtain ⟨rfl, rfl, rfl⟩ := trodAll_nil r0
  obtain rfl : args = #[v0] := by cases args; simp_all
  obtain ⟨rfl, rfl⟩ := trodVars_none hV
  have k0 := h0
  have lt0 : ∀ x ∈ p0, x.block < W.heap.size := by obtain ⟨m, hm⟩ := k0; exact DataW.trod_lt m _ _ _ hm
  obtain ⟨a0, cap0, as0, rfl, s0⟩ := arg_sl Try.underlying69 op_Terms (hval 0 69 v0 rfl rfl) h0
  clear hA0 hval0
  refine (walk a0 cap0 as0 W s0).mono fun e W' ⟨he, bel⟩ => ?_
  subst he
  exact ⟨_, rfl, _, _, _, [], _, [], hW', trodAll_mk1 (shut_bool Try.underlying4 _), (trodAll_cons_mk (Below.trod laidOut (by kernel_rfl) (of_decide_eq_true (by kernel_rfl)) k0 bel lt0) trodAll_mk0), rfl, bel.frame _, fun h => by cases h⟩

theorem over : Rows.fnExactValidFactsRow.holds Try.pinned (OpenSpec.ofChange Rows.fnExactValidFactsSpec) :=
  OpenClaim.holds_of_wide 14 Try.f14 rfl rfl rfl rfl rfl rfl rfl ⟨rfl, rfl, rfl, rfl, rfl⟩ rfl rfl rfl rfl rfl (by kernel_rfl) Try.func14 (by kernel_rfl)
    (of_decide_eq_true (by kernel_rfl)) (by unfold Func.isWrapper; first | (rw [if_pos (by decide +kernel)]; kernel_rfl) | (rw [if_neg (by decide +kernel)]; exact ⟨rfl, rfl⟩))
    (fun os started H enc _ => lifted os started H enc)

theorem proved : Rows.FnExactValidFactsSaid := over
#print axioms proved
end Go.Proofs.Ytgmhnnpigghbgaa.fnExactValidFacts
