/- For every instruction the law FnExactValidInstr returns true: the program's ValidInstr returns what the reference's returns. No condition. -/
import Derived.Test.YtgmhnnpigghbgaaRows
import Derived.Test.YtgmhnnpigghbgaaOpn
import Derived.Test.YtgmhnnpigghbgaaL07
import Derived.ProofKit
import Derived.OpenShut
import Derived.ChangeOld
namespace Go.Proofs.Ytgmhnnpigghbgaa.fnExactValidInstr
open Go.ChangeShapes Go.WideShapes Go.ChangeAt Go.RowKit
open Go.ChangeMaps (open_string shut_string)
set_option linter.unusedVariables false

theorem walk (d : Instr) (cs : Array Value) (w : World) (h : cInstr.rd (fun _ => True) w cs.toList d) : Calls Try.prog 3 #[.agg cs] w fun e w' => e = .returned (.bool true) ∧ Below w.heap.size w w' := by
  obtain ⟨rfl, _, _⟩ := instr_arr h
  obtain ⟨op, arg⟩ := d
  clear h
  obtain ⟨r, hr⟩ : ∃ r, validI (op, arg) = r := ⟨_, rfl⟩
  have HR := hid hr
  clear hr
  go_enter Try.func3, Try.ntmps3
  go_wp2_with fail
  refine (c_toInstr _ _ _).mono ?_
  rintro e w1 ⟨rfl, hb1⟩
  have HB1 := hid (bel_box (Below.refl w.heap.size w) (Nat.le_refl _) hb1)
  have t0 := cell_below hb1 (b := w.heap.size) (o := 0) (v := .int .i64 op) (by simp) (by simp [go_sem])
  have t1 := cell_below hb1 (b := w.heap.size) (o := 1) (v := .int .i64 arg) (by simp) (by simp [go_sem])
  have z1 : w.heap.size < w1.heap.size := by have := hb1.size; simp at this; omega
  clear hb1
  go_wp2_with fail
  refine (c_sValidInstr _ _ _).mono ?_
  rintro e w2 ⟨rfl, hb2⟩
  rw [HR.out]
  have HB2 := hid (bel_next HB1.out HB1.out.size hb2)
  have t0 := cell_below hb2 z1 t0
  have t1 := cell_below hb2 z1 t1
  clear hb2
  go_wp2_with fail
  refine (c_toInstr _ _ _).mono ?_
  rintro e w3 ⟨rfl, hb3⟩
  have HB3 := hid (bel_next HB2.out HB2.out.size hb3)
  clear hb3
  go_wp2_with fail
  refine (c_ValidInstr _ _ _).mono ?_
  rintro e w4 ⟨rfl, hb4⟩
  rw [HR.out]
  have HB4 := hid (bel_next HB3.out HB3.out.size hb4)
  clear hb4
  have hrr : (r != r) = false := by simp
  go_wp2
  go_ret
  exact ⟨rfl, HB4.out⟩

theorem own : ownKnob Try.prog.godebug = none := by kernel_rfl
theorem laidOut : laidOutB Try.prog = true := by kernel_rfl
set_option maxRecDepth 100000 in
theorem lifted (os : Os) (started : os.Started) (H : Type) (enc : TypeId × Value → H) :
    ReturnsInHanded {} Try.checked os 3 .any (Rows.fnExactValidInstrSpec.pre6 enc Try.prog Try.f3 Rows.fnExactValidInstrRow.domain false) (Rows.fnExactValidInstrSpec.post enc Try.prog Try.f3 false true false false) := by
  refine returnsInHanded_of_change (C := Try.checked) own started (by kernel_rfl) Try.func3
    (ChangeSpec.witness6 (enc := enc) (C := Try.checked) false ⟨#[], #[.agg #[.int .i64 0, .int .i64 0]], []⟩ 8 (by kernel_rfl) (by kernel_rfl) (by kernel_rfl) (by kernel_rfl)) ?_
  intro W base args ds gs before hval0 hW hcnd _
  have hval : ∀ (j : Nat) t v, Try.f3.params[j]? = some t → args[j]? = some v → Value.okWide Try.prog W .any base t v := hval0
  have hW' := hW
  obtain ⟨p, q, hA0, hV, rfl, hfz, hnd⟩ := hW
  have hA : DataW.TrodAll enc Try.prog W 0 (fun _ => true) true Try.f3.params.toList args.toList ds p := hA0
  rw [Try.params3] at hA hval
  obtain ⟨v0, vs0, d0, ds0, p0, q0, hargs, rfl, rfl, h0, r0⟩ := trodAll_cons hA
  obtain ⟨rfl, rfl, rfl⟩ := trodAll_nil r0
  obtain rfl : args = #[v0] := by cases args; simp_all
  obtain ⟨rfl, rfl⟩ := trodVars_none hV
  have k0 := h0
  have lt0 : ∀ x ∈ p0, x.block < W.heap.size := by obtain ⟨m, hm⟩ := k0; exact DataW.trod_lt m _ _ _ hm
  obtain ⟨as0, cs0, rfl, s0⟩ := arg_st Try.underlying23 op_Instr (hval 0 23 v0 rfl rfl) h0
  clear hA0 hval0
  refine (walk as0 cs0 W s0).mono fun e W' ⟨he, bel⟩ => ?_
  subst he
  exact ⟨_, rfl, _, _, _, [], _, [], hW', trodAll_mk1 (shut_bool Try.underlying4 _), (trodAll_cons_mk (Below.trod laidOut (by kernel_rfl) (of_decide_eq_true (by kernel_rfl)) k0 bel lt0) trodAll_mk0), rfl, bel.frame _, fun h => by cases h⟩

theorem over : Rows.fnExactValidInstrRow.holds Try.pinned (OpenSpec.ofChange Rows.fnExactValidInstrSpec) :=
  OpenClaim.holds_of_wide 3 Try.f3 rfl rfl rfl rfl rfl rfl rfl ⟨rfl, rfl, rfl, rfl, rfl⟩ rfl rfl rfl rfl rfl (by kernel_rfl) Try.func3 (by kernel_rfl)
    (of_decide_eq_true (by kernel_rfl)) (by unfold Func.isWrapper; first | (rw [if_pos (by decide +kernel)]; kernel_rfl) | (rw [if_neg (by decide +kernel)]; exact ⟨rfl, rfl⟩))
    (fun os started H enc _ => lifted os started H enc)

theorem proved : Rows.FnExactValidInstrSaid := over
#print axioms proved
end Go.Proofs.Ytgmhnnpigghbgaa.fnExactValidInstr
