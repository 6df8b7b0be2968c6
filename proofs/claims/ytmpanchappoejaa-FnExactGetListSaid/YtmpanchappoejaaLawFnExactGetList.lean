/- For every string and number the law FnExactGetList returns true: the program's GetList returns what the reference's returns, in memory of its own. No condition. -/
import Derived.Test.YtmpanchappoejaaRows
import Derived.Test.YtmpanchappoejaaOpn
import Derived.Test.YtmpanchappoejaaL01l
import Derived.Test.YtmpanchappoejaaMark
import Derived.ProofKit
import Derived.OpenShut
import Derived.ChangeOld
namespace Go.Proofs.Ytmpanchappoejaa.fnExactGetList
open Go.ChangeShapes Go.WideShapes Go.ChangeAt Go.RowKit
open Go.ChangeMaps (open_string shut_string)
set_option linter.unusedVariables false

set_option maxHeartbeats 2000000 in
set_option maxRecDepth 100000 in
theorem walk (s : ByteArray) (hs : s.size ≤ maxLen) (at_ : Int) (_ : (Lit.int .i64 at_).wf = true) (w : World) : Calls Try.prog 4 #[.string s, .int .i64 at_] w fun e w' => e = .returned (.bool true) ∧ Below w.heap.size w w' := by
  unfold maxLen at hs
  by_cases h : s.size ≤ 1048576
  · obtain ⟨r, hr⟩ : ∃ r, getListF s.data.toList at_ = r := ⟨_, rfl⟩
    have HL : Hid (r.1.length ≤ 100) := by
      unfold Hid
      rw [← hr]
      exact getListF_le _ _
    have HR := hid hr
    clear hr
    obtain ⟨vs, m, b⟩ := r
    have hlen : vs.length ≤ 100 := HL.out
    have hmm : (m != m) = false := by simp
    have hbb : (b != b) = false := by simp
    have hkk : ((1 : Int) + vs.length != 1 + vs.length) = false := by simp
    go_enter Try.func4, Try.ntmps4
    go_wp2_with fail
    refine (c_sGetList _ _ _ (by omega)).mono ?_
    rw [HR.out]
    rintro e w1 ⟨aV, cV, rfl, hV, hb⟩
    have V1 := hid hV
    have HB1 := hid hb
    clear hV hb
    simp only
    go_wp2_with fail
    refine (c_GetList _ _ _ (by omega)).mono ?_
    rw [HR.out]
    rintro e w2 ⟨aG, cG, rfl, hG, hb⟩
    have G2 := hid hG
    have V2 := hid (V1.out.below (Nat.le_refl _) hb)
    have B2 := hid hb
    clear hG hb
    simp only
    go_wp2_with fail
    refine (c_eqInt64S _ _ _ _ _ _ _ G2.out V2.out).mono ?_
    rintro e w3 ⟨rfl, hb⟩
    rw [show decide (vs = vs) = true from by simp]
    have G3 := hid (G2.out.btw hb (Nat.le_refl _))
    have B3 := hid (bel_next B2.out B2.out.size hb)
    clear hb
    go_wp2_with fail
    refine (c_markInt64S _ _ _ _ _ _ G3.out rfl (fun b hb => hb.2) (by omega) (by omega)).mono ?_
    rintro e w4 ⟨rfl, ⟨ys, hl, hu, hG⟩, ht⟩
    have B4 := hid (B3.out.trans (ht.bel B3.out.size fun b hb => hb.1.1))
    have G4 := hid hG
    have HU := hid hu
    have HLY := hid hl
    clear hl hu hG ht
    go_wp2_with fail
    refine (c_heldInt64S _ _ _ _ _ _ G4.out HLY.out HU.out (by omega) (by omega)).mono ?_
    rintro e w' ⟨rfl, rfl⟩
    go_wp2_with fail
    refine (c_GetList _ _ _ (by omega)).mono ?_
    rw [HR.out]
    rintro e w5 ⟨aH, cH, rfl, hH, hb⟩
    have H5 := hid hH
    have B5 := hid (bel_next B4.out B4.out.size hb)
    have V5 := hid (V1.out.below (Nat.le_refl _) B5.out)
    have G5 := hid (G4.out.below (Nat.le_refl _) hb)
    clear hH hb
    simp only
    go_wp2_with fail
    refine (c_eqInt64S _ _ _ _ _ _ _ H5.out V5.out).mono ?_
    rintro e w6 ⟨rfl, hb⟩
    rw [show decide (vs = vs) = true from by simp]
    have B6 := hid (bel_next B5.out B5.out.size hb)
    have G6 := hid (G5.out.below (Nat.le_refl _) hb)
    clear hb
    go_wp2_with fail
    refine (c_heldInt64S _ _ _ _ _ _ G6.out HLY.out HU.out (by omega) (by omega)).mono ?_
    rintro e w' ⟨rfl, rfl⟩
    go_wp2
    go_ret
    exact ⟨rfl, bel_next HB1.out HB1.out.size B6.out⟩
  · go_enter Try.func4, Try.ntmps4
    go_wp2
    go_ret
    exact ⟨rfl, Below.refl _ _⟩

theorem own : ownKnob Try.prog.godebug = none := by kernel_rfl
theorem laidOut : laidOutB Try.prog = true := by kernel_rfl
set_option maxRecDepth 100000 in
theorem lifted (os : Os) (started : os.Started) (H : Type) (enc : TypeId × Value → H) :
    ReturnsInHanded {} Try.checked os 4 .any (Rows.fnExactGetListSpec.pre6 enc Try.prog Try.f4 Rows.fnExactGetListRow.domain false) (Rows.fnExactGetListSpec.post enc Try.prog Try.f4 false true false false) := by
  refine returnsInHanded_of_change (C := Try.checked) own started (by kernel_rfl) Try.func4
    (ChangeSpec.witness6 (enc := enc) (C := Try.checked) false ⟨#[], #[.string ByteArray.empty, .int .i64 0], []⟩ 8 (by kernel_rfl) (by kernel_rfl) (by kernel_rfl) (by kernel_rfl)) ?_
  intro W base args ds gs before hval0 hW hcnd _
  have hval : ∀ (j : Nat) t v, Try.f4.params[j]? = some t → args[j]? = some v → Value.okWide Try.prog W .any base t v := hval0
  have hW' := hW
  obtain ⟨p, q, hA0, hV, rfl, hfz, hnd⟩ := hW
  have hA : DataW.TrodAll enc Try.prog W 0 (fun _ => true) true Try.f4.params.toList args.toList ds p := hA0
  rw [Try.params4] at hA hval
  obtain ⟨v0, vs0, d0, ds0, p0, q0, hargs, rfl, rfl, h0, r0⟩ := trodAll_cons hA
  obtain ⟨v1, vs1, d1, ds1, p1, q1, hargs1, rfl, rfl, h1, r1⟩ := trodAll_cons r0
  obtain ⟨rfl, rfl, rfl⟩ := trodAll_nil r1
  subst hargs1
  obtain rfl : args = #[v0, v1] := by cases args; simp_all
  obtain ⟨rfl, rfl⟩ := trodVars_none hV
  have k0 := h0
  have lt0 : ∀ x ∈ p0, x.block < W.heap.size := by obtain ⟨m, hm⟩ := k0; exact DataW.trod_lt m _ _ _ hm
  obtain ⟨a0, rfl, rfl, rfl, w0⟩ := open_string Try.underlying9 (hval 0 9 v0 rfl rfl) h0
  have k1 := h1
  have lt1 : ∀ x ∈ p1, x.block < W.heap.size := by obtain ⟨m, hm⟩ := k1; exact DataW.trod_lt m _ _ _ hm
  obtain ⟨a1, rfl, rfl, rfl, w1⟩ := open_int Try.underlying2 (hval 1 2 v1 rfl rfl) h1
  clear hA0 hval0
  refine (walk a0 w0 a1 w1 W ).mono fun e W' ⟨he, bel⟩ => ?_
  subst he
  exact ⟨_, rfl, _, _, _, [], _, [], hW', trodAll_mk1 (shut_bool Try.underlying4 _), (trodAll_cons_mk (Below.trod laidOut (by kernel_rfl) (of_decide_eq_true (by kernel_rfl)) k0 bel lt0) (trodAll_cons_mk (Below.trod laidOut (by kernel_rfl) (of_decide_eq_true (by kernel_rfl)) k1 bel lt1) trodAll_mk0)), rfl, bel.frame _, fun h => by cases h⟩

theorem over : Rows.fnExactGetListRow.holds Try.pinned (OpenSpec.ofChange Rows.fnExactGetListSpec) :=
  OpenClaim.holds_of_wide 4 Try.f4 rfl rfl rfl rfl rfl rfl rfl ⟨rfl, rfl, rfl, rfl, rfl⟩ rfl rfl rfl rfl rfl (by kernel_rfl) Try.func4 (by kernel_rfl)
    (of_decide_eq_true (by kernel_rfl)) (by unfold Func.isWrapper; first | (rw [if_pos (by decide +kernel)]; kernel_rfl) | (rw [if_neg (by decide +kernel)]; exact ⟨rfl, rfl⟩))
    (fun os started H enc _ => lifted os started H enc)

theorem proved : Rows.FnExactGetListSaid := over
#print axioms proved
end Go.Proofs.Ytmpanchappoejaa.fnExactGetList
