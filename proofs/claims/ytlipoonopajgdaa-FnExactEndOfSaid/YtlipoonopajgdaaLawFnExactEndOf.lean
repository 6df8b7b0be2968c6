/- For every list of statements and every number the law FnExactEndOf returns true: the program's EndOf returns what the reference's returns, and leaves the list as it was. No condition. -/
import Derived.Test.YtlipoonopajgdaaRows
import Derived.Test.YtlipoonopajgdaaOpn
import Derived.Test.YtlipoonopajgdaaLawAid
import Derived.Test.YtlipoonopajgdaaL03v
import Derived.Deep.RegionHeld3
import Derived.ProofKit
import Derived.OpenShut
import Derived.ChangeOld
namespace Go.Proofs.Ytlipoonopajgdaa.fnExactEndOf
open Go.ChangeShapes Go.WideShapes Go.ChangeAt Go.RowKit
open Go.ChangeMaps (open_string shut_string)
set_option linter.unusedVariables false

set_option maxHeartbeats 4000000 in
set_option maxRecDepth 100000 in
theorem walk (ax0d0 : Option Addr) (px0d0 : Nat) (x0d0 : List _) (n1 : Int) (hi1 : (Lit.int .i64 n1).wf = true) (w : World) (hx0d0 : SlRd cStmt (fun _ => True) w ax0d0 px0d0 x0d0) : Calls Try.prog 8 #[.slice ax0d0 x0d0.length px0d0, .int .i64 n1] w fun e w' => e = .returned (.bool true) ∧ Below w.heap.size w w' := by
  obtain ⟨⟨q0, q1⟩, hq⟩ : ∃ q, endOfF x0d0 n1 = q := ⟨_, rfl⟩
  have HQ := hid hq
  clear hq
  have hlx0d0 := hx0d0.len_le
  have HB_0 : Hid (Below w.heap.size w w) := Below.refl _ _
  obtain ⟨β0, hβe⟩ : ∃ B, B = w.heap.size := ⟨_, rfl⟩
  have HZ_0 : Hid (β0 ≤ w.heap.size) := Nat.le_of_eq hβe
  have β0_le : w.heap.size + 0 ≤ β0 := by rw [hβe]; simp
  clear hβe
  have hx0d0 : SlRd cStmt (fun b => Btw 0 β0 b ∧ True) w ax0d0 px0d0 x0d0 := hx0d0.keep fun b _ hl => ⟨⟨⟨Nat.zero_le _, by omega⟩, trivial⟩, rfl⟩
  have Rx0d0_0 : Hid (SlRd cStmt (fun b => Btw 0 β0 b ∧ True) w ax0d0 px0d0 x0d0) := hx0d0
  clear hx0d0
  obtain ⟨r0, hr⟩ : ∃ r, szR 1048576 ((szStmts x0d0 : Nat) : Int) = r := ⟨_, rfl⟩
  have HR0 := hid hr
  clear hr
  by_cases hneg0 : r0 < 0
  · skip
    go_enter Try.func8, Try.ntmps8
    go_wp2_with fail
    refine (u_szStmtS Rx0d0_0.out (by omega) (by omega)).mono ?_
    rintro e w_1 ⟨rfl, hb⟩
    rw [HR0.out]
    have Rx0d0_1 := hid (Rx0d0_0.out.below (Nat.le_refl _) hb)
    have HB_1 := hid (bel_next HB_0.out HB_0.out.size hb)
    have HZ_1 := hid (Nat.le_trans HZ_0.out hb.size)
    clear Rx0d0_0 HB_0 HZ_0
    clear hb
    go_wp2_with fail
    go_wp2
    go_ret
    exact ⟨rfl, HB_1.out⟩
  have hle := (szR_ge (left := 1048576) (n := szStmts x0d0) (by rw [HR0.out]; omega))
  rw [HR0.out] at hle
  obtain ⟨hle, hle'⟩ := hle
  have hsz0 : szStmts x0d0 ≤ 1048576 := by omega
  have hlr0 : r0 ≤ 1048576 := by omega
  clear hle hle'
  go_enter Try.func8, Try.ntmps8
  go_wp2_with fail
  refine (u_szStmtS Rx0d0_0.out (by omega) (by omega)).mono ?_
  rintro e w_1 ⟨rfl, hb⟩
  rw [HR0.out]
  have Rx0d0_1 := hid (Rx0d0_0.out.below (Nat.le_refl _) hb)
  have HB_1 := hid (bel_next HB_0.out HB_0.out.size hb)
  have HZ_1 := hid (Nat.le_trans HZ_0.out hb.size)
  clear Rx0d0_0 HB_0 HZ_0
  clear hb
  go_wp2_with fail
  refine (u_toStmtS Rx0d0_1.out (by omega)).mono ?_
  rintro e w_2 ⟨aVx0d0, pVx0d0, rfl, hsx0d0, hb⟩
  have za := HZ_1.out
  have Rx0d0_2 := hid (Rx0d0_1.out.below (Nat.le_refl _) hb)
  have HB_2 := hid (bel_next HB_1.out HB_1.out.size hb)
  have HZ_2 := hid (Nat.le_trans HZ_1.out hb.size)
  clear Rx0d0_1 HB_1 HZ_1
  clear hb
  obtain ⟨β1, hβe⟩ : ∃ B, B = w_2.heap.size := ⟨_, rfl⟩
  have β1_le : β0 ≤ β1 := by rw [hβe]; exact HZ_2.out
  have Vx0d0_2 := hid (hsx0d0.mk (lo := β0) (hi := β1) za (Nat.le_of_eq hβe.symm))
  have HZ_2 := hid (Nat.le_of_eq hβe)
  clear hβe hsx0d0
  clear za
  go_wp2_with fail
  refine (c_sEndOf Vx0d0_2.out).mono ?_
  rintro e w_3 ⟨rfl, hb⟩
  rw [HQ.out]
  have za := HZ_2.out
  have Rx0d0_3 := hid (Rx0d0_2.out.below (Nat.le_refl _) hb)
  have Vx0d0_3 := hid (Vx0d0_2.out.below (Nat.le_refl _) hb)
  have HB_3 := hid (bel_next HB_2.out HB_2.out.size hb)
  have HZ_3 := hid (Nat.le_trans HZ_2.out hb.size)
  clear Rx0d0_2 Vx0d0_2 HB_2 HZ_2
  clear hb
  clear za
  go_wp2_with fail
  clear Vx0d0_3
  refine (u_toStmtS Rx0d0_3.out (by omega)).mono ?_
  rintro e w_4 ⟨aXx0d0, pXx0d0, rfl, hsx0d0, hb⟩
  have za := HZ_3.out
  have Rx0d0_4 := hid (Rx0d0_3.out.below (Nat.le_refl _) hb)
  have HB_4 := hid (bel_next HB_3.out HB_3.out.size hb)
  have HZ_4 := hid (Nat.le_trans HZ_3.out hb.size)
  clear Rx0d0_3 HB_3 HZ_3
  clear hb
  obtain ⟨β2, hβe⟩ : ∃ B, B = w_4.heap.size := ⟨_, rfl⟩
  have β2_le : β1 ≤ β2 := by rw [hβe]; exact HZ_4.out
  have Xx0d0_4 := hid (hsx0d0.mk (lo := β1) (hi := β2) za (Nat.le_of_eq hβe.symm))
  have HZ_4 := hid (Nat.le_of_eq hβe)
  clear hβe hsx0d0
  clear za
  go_wp2_with fail
  refine (c_EndOf Xx0d0_4.out).mono ?_
  rintro e w_5 ⟨rfl, hb⟩
  rw [HQ.out]
  have za := HZ_4.out
  have Rx0d0_5 := hid (Rx0d0_4.out.below (Nat.le_refl _) hb)
  have Xx0d0_5 := hid (Xx0d0_4.out.below (Nat.le_refl _) hb)
  have HB_5 := hid (bel_next HB_4.out HB_4.out.size hb)
  have HZ_5 := hid (Nat.le_trans HZ_4.out hb.size)
  clear Rx0d0_4 Xx0d0_4 HB_4 HZ_4
  clear hb
  clear za
  have hne0 : (q0 != q0) = false := by simp
  have hne1 : (q1 != q1) = false := by simp
  go_wp2_with fail
  refine (u_toStmtS Rx0d0_5.out (by omega)).mono ?_
  rintro e w_6 ⟨aYx0d0, pYx0d0, rfl, hsx0d0, hb⟩
  have za := HZ_5.out
  have Rx0d0_6 := hid (Rx0d0_5.out.below (Nat.le_refl _) hb)
  have Xx0d0_6 := hid (Xx0d0_5.out.below (Nat.le_refl _) hb)
  have HB_6 := hid (bel_next HB_5.out HB_5.out.size hb)
  have HZ_6 := hid (Nat.le_trans HZ_5.out hb.size)
  clear Rx0d0_5 Xx0d0_5 HB_5 HZ_5
  clear hb
  obtain ⟨β3, hβe⟩ : ∃ B, B = w_6.heap.size := ⟨_, rfl⟩
  have β3_le : β2 ≤ β3 := by rw [hβe]; exact HZ_6.out
  have Yx0d0_6 := hid (hsx0d0.mk (lo := β2) (hi := β3) za (Nat.le_of_eq hβe.symm))
  have HZ_6 := hid (Nat.le_of_eq hβe)
  clear hβe hsx0d0
  clear za
  go_wp2_with fail
  refine (u_eqStmtS Xx0d0_6.out Yx0d0_6.out).mono ?_
  rintro e w_7 ⟨rfl, hb⟩
  rw [show decide (x0d0 = x0d0) = true from by simp]
  have Rx0d0_7 := hid (Rx0d0_6.out.below (Nat.le_refl _) hb)
  have Xx0d0_7 := hid (Xx0d0_6.out.below (Nat.le_refl _) hb)
  have Yx0d0_7 := hid (Yx0d0_6.out.below (Nat.le_refl _) hb)
  have HB_7 := hid (bel_next HB_6.out HB_6.out.size hb)
  have HZ_7 := hid (Nat.le_trans HZ_6.out hb.size)
  clear Rx0d0_6 Xx0d0_6 Yx0d0_6 HB_6 HZ_6
  clear hb
  go_wp2_with fail
  clear Yx0d0_7
  try go_wp2
  go_ret
  exact ⟨rfl, HB_7.out⟩

theorem own : ownKnob Try.prog.godebug = none := by kernel_rfl
theorem laidOut : laidOutB Try.prog = true := by kernel_rfl
set_option maxRecDepth 100000 in
theorem lifted (os : Os) (started : os.Started) (H : Type) (enc : TypeId × Value → H) :
    ReturnsInHanded {} Try.checked os 8 .any (Rows.fnExactEndOfSpec.pre6 enc Try.prog Try.f8 Rows.fnExactEndOfRow.domain false) (Rows.fnExactEndOfSpec.post enc Try.prog Try.f8 false true false false) := by
  refine returnsInHanded_of_change (C := Try.checked) own started (by kernel_rfl) Try.func8
    (ChangeSpec.witness6 (enc := enc) (C := Try.checked) false ⟨#[], #[.slice none 0 0, .int .i64 0], []⟩ 8 (by kernel_rfl) (by kernel_rfl) (by kernel_rfl) (by kernel_rfl)) ?_
  intro W base args ds gs before hval0 hW hcnd _
  have hval : ∀ (j : Nat) t v, Try.f8.params[j]? = some t → args[j]? = some v → Value.okWide Try.prog W .any base t v := hval0
  have hW' := hW
  obtain ⟨p, q, hA0, hV, rfl, hfz, hnd⟩ := hW
  have hA : DataW.TrodAll enc Try.prog W 0 (fun _ => true) true Try.f8.params.toList args.toList ds p := hA0
  rw [Try.params8] at hA hval
  obtain ⟨v0, vs0, d0, ds0, p0, q0, hargs, rfl, rfl, h0, r0⟩ := trodAll_cons hA
  obtain ⟨v1, vs1, d1, ds1, p1, q1, hargs1, rfl, rfl, h1, r1⟩ := trodAll_cons r0
  obtain ⟨rfl, rfl, rfl⟩ := trodAll_nil r1
  subst hargs1
  obtain rfl : args = #[v0, v1] := by cases args; simp_all
  obtain ⟨rfl, rfl⟩ := trodVars_none hV
  have k0 := h0
  have lt0 : ∀ x ∈ p0, x.block < W.heap.size := by obtain ⟨m, hm⟩ := k0; exact DataW.trod_lt m _ _ _ hm
  obtain ⟨a0, cap0, as0, rfl, s0⟩ := arg_sl Try.underlying62 op_Stmts (hval 0 62 v0 rfl rfl) h0
  have k1 := h1
  have lt1 : ∀ x ∈ p1, x.block < W.heap.size := by obtain ⟨m, hm⟩ := k1; exact DataW.trod_lt m _ _ _ hm
  obtain ⟨a1, rfl, rfl, rfl, w1⟩ := open_int Try.underlying2 (hval 1 2 v1 rfl rfl) h1
  clear hA0 hval0
  refine (walk a0 cap0 as0 a1 w1 W s0).mono fun e W' ⟨he, bel⟩ => ?_
  subst he
  exact ⟨_, rfl, _, _, _, [], _, [], hW', trodAll_mk1 (shut_bool Try.underlying4 _), (trodAll_cons_mk (Below.trod laidOut (by kernel_rfl) (of_decide_eq_true (by kernel_rfl)) k0 bel lt0) (trodAll_cons_mk (Below.trod laidOut (by kernel_rfl) (of_decide_eq_true (by kernel_rfl)) k1 bel lt1) trodAll_mk0)), rfl, bel.frame _, fun h => by cases h⟩

theorem over : Rows.fnExactEndOfRow.holds Try.pinned (OpenSpec.ofChange Rows.fnExactEndOfSpec) :=
  OpenClaim.holds_of_wide 8 Try.f8 rfl rfl rfl rfl rfl rfl rfl ⟨rfl, rfl, rfl, rfl, rfl⟩ rfl rfl rfl rfl rfl (by kernel_rfl) Try.func8 (by kernel_rfl)
    (of_decide_eq_true (by kernel_rfl)) (by unfold Func.isWrapper; first | (rw [if_pos (by decide +kernel)]; kernel_rfl) | (rw [if_neg (by decide +kernel)]; exact ⟨rfl, rfl⟩))
    (fun os started H enc _ => lifted os started H enc)

theorem proved : Rows.FnExactEndOfSaid := over
#print axioms proved
end Go.Proofs.Ytlipoonopajgdaa.fnExactEndOf
