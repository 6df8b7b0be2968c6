/- For every list of nodes the law FnExactProofText returns true: the program's ProofText returns what the reference's returns, and leaves the list as it was. Condition: Go's own tables stand as its text lays them (the card ties that to the text). -/
import Derived.Test.YtcbaohcgeoaccaaDoorCards
import Derived.Test.YtcbaohcgeoaccaaDoorTie
import Derived.Test.YtcbaohcgeoaccaaDoorDoor
import Derived.Test.YtcbaohcgeoaccaaDoorOpn
import Derived.Test.YtcbaohcgeoaccaaDoorLawAid
import Derived.Test.YtcbaohcgeoaccaaDoorD15
import Derived.Test.YtcbaohcgeoaccaaDoorD16
import Derived.Deep.RegionHeld3
import Derived.ProofKit
import Derived.OpenShut
import Derived.ChangeOld
namespace Go.Proofs.YtcbaohcgeoaccaaDoor.fnExactProofText
open Go.ChangeShapes Go.WideShapes Go.ChangeAt Go.RowKit
open Go.ChangeMaps (open_string shut_string)
set_option linter.unusedVariables false

set_option maxHeartbeats 4000000 in
set_option maxRecDepth 100000 in
theorem walk (ax0d0 : Option Addr) (px0d0 : Nat) (x0d0 : List _) (w : World) (hx0d0 : SlRd cNode (fun _ => True) w ax0d0 px0d0 x0d0) (hTAB : TabE w.heap.size w) : Calls Tryd.prog 11 #[.slice ax0d0 x0d0.length px0d0] w fun e w' => e = .returned (.bool true) ∧ Below w.heap.size w w' := by
  have HTAB := hid hTAB
  clear hTAB
  obtain ⟨⟨q0, q1⟩, hq⟩ : ∃ q, proofTextF x0d0 = q := ⟨_, rfl⟩
  have HQ := hid hq
  clear hq
  have hlx0d0 := hx0d0.len_le
  have HB_0 : Hid (Below w.heap.size w w) := Below.refl _ _
  obtain ⟨β0, hβe⟩ : ∃ B, B = w.heap.size := ⟨_, rfl⟩
  have HZ_0 : Hid (β0 ≤ w.heap.size) := Nat.le_of_eq hβe
  have β0_le : w.heap.size + 0 ≤ β0 := by rw [hβe]; simp
  clear hβe
  have hx0d0 : SlRd cNode (fun b => Btw 0 β0 b ∧ True) w ax0d0 px0d0 x0d0 := hx0d0.keep fun b _ hl => ⟨⟨⟨Nat.zero_le _, by omega⟩, trivial⟩, rfl⟩
  have Rx0d0_0 : Hid (SlRd cNode (fun b => Btw 0 β0 b ∧ True) w ax0d0 px0d0 x0d0) := hx0d0
  clear hx0d0
  obtain ⟨r0, hr⟩ : ∃ r, szR 1048576 ((szNds x0d0 : Nat) : Int) = r := ⟨_, rfl⟩
  have HR0 := hid hr
  clear hr
  by_cases hneg0 : r0 < 0
  · skip
    go_enter Tryd.func11, Tryd.ntmps11
    go_wp2_with fail
    refine (u_szNodeS Rx0d0_0.out (by omega) (by omega)).mono ?_
    rintro e w_1 ⟨rfl, hb⟩
    rw [HR0.out]
    have Rx0d0_1 := hid (Rx0d0_0.out.below (Nat.le_refl _) hb)
    have HB_1 := hid (bel_next HB_0.out HB_0.out.size hb)
    have HZ_1 := hid (Nat.le_trans HZ_0.out hb.size)
    clear Rx0d0_0 HB_0 HZ_0
    clear hb
    go_wp2_with fail
    go_wp2
    go_ret
    exact ⟨rfl, HB_1.out⟩
  have hle := (szR_ge (left := 1048576) (n := szNds x0d0) (by rw [HR0.out]; omega))
  rw [HR0.out] at hle
  obtain ⟨hle, hle'⟩ := hle
  have hsz0 : szNds x0d0 ≤ 1048576 := by omega
  have hlr0 : r0 ≤ 1048576 := by omega
  clear hle hle'
  go_enter Tryd.func11, Tryd.ntmps11
  go_wp2_with fail
  refine (u_szNodeS Rx0d0_0.out (by omega) (by omega)).mono ?_
  rintro e w_1 ⟨rfl, hb⟩
  rw [HR0.out]
  have Rx0d0_1 := hid (Rx0d0_0.out.below (Nat.le_refl _) hb)
  have HB_1 := hid (bel_next HB_0.out HB_0.out.size hb)
  have HZ_1 := hid (Nat.le_trans HZ_0.out hb.size)
  clear Rx0d0_0 HB_0 HZ_0
  clear hb
  go_wp2_with fail
  refine (u_toNodeS Rx0d0_1.out (by omega)).mono ?_
  rintro e w_2 ⟨aVx0d0, pVx0d0, rfl, hsx0d0, hb⟩
  have za := HZ_1.out
  have Rx0d0_2 := hid (Rx0d0_1.out.below (Nat.le_refl _) hb)
  have HB_2 := hid (bel_next HB_1.out HB_1.out.size hb)
  have HZ_2 := hid (Nat.le_trans HZ_1.out hb.size)
  clear Rx0d0_1 HB_1 HZ_1
  clear hb
  obtain ⟨β1, hβe⟩ : ∃ B, B = w_2.heap.size := ⟨_, rfl⟩
  have β1_le : β0 ≤ β1 := by rw [hβe]; exact HZ_2.out
  have Vx0d0_2 := hid (hsx0d0.mk (lo := β0) (hi := β1) za (Nat.le_of_eq hβe.symm))
  have HZ_2 := hid (Nat.le_of_eq hβe)
  clear hβe hsx0d0
  clear za
  go_wp2_with fail
  refine (c_sProofText Vx0d0_2.out).mono ?_
  rintro e w_3 ⟨rfl, hb⟩
  rw [HQ.out]
  simp only
  have za := HZ_2.out
  have Rx0d0_3 := hid (Rx0d0_2.out.below (Nat.le_refl _) hb)
  have Vx0d0_3 := hid (Vx0d0_2.out.below (Nat.le_refl _) hb)
  have HB_3 := hid (bel_next HB_2.out HB_2.out.size hb)
  have HZ_3 := hid (Nat.le_trans HZ_2.out hb.size)
  clear Rx0d0_2 Vx0d0_2 HB_2 HZ_2
  clear hb
  clear za
  unfold strOf
  go_wp2_with fail
  clear Vx0d0_3
  refine (u_toNodeS Rx0d0_3.out (by omega)).mono ?_
  rintro e w_4 ⟨aXx0d0, pXx0d0, rfl, hsx0d0, hb⟩
  have za := HZ_3.out
  have Rx0d0_4 := hid (Rx0d0_3.out.below (Nat.le_refl _) hb)
  have HB_4 := hid (bel_next HB_3.out HB_3.out.size hb)
  have HZ_4 := hid (Nat.le_trans HZ_3.out hb.size)
  clear Rx0d0_3 HB_3 HZ_3
  clear hb
  obtain ⟨β2, hβe⟩ : ∃ B, B = w_4.heap.size := ⟨_, rfl⟩
  have β2_le : β1 ≤ β2 := by rw [hβe]; exact HZ_4.out
  have Xx0d0_4 := hid (hsx0d0.mk (lo := β1) (hi := β2) za (Nat.le_of_eq hβe.symm))
  have HZ_4 := hid (Nat.le_of_eq hβe)
  clear hβe hsx0d0
  clear za
  go_wp2_with fail
  refine (c_ProofText Xx0d0_4.out (HTAB.out.belows HB_4.out)).mono ?_
  rintro e w_5 ⟨rfl, hb⟩
  rw [HQ.out]
  simp only
  have za := HZ_4.out
  have Rx0d0_5 := hid (Rx0d0_4.out.below (Nat.le_refl _) hb)
  have Xx0d0_5 := hid (Xx0d0_4.out.below (Nat.le_refl _) hb)
  have HB_5 := hid (bel_next HB_4.out HB_4.out.size hb)
  have HZ_5 := hid (Nat.le_trans HZ_4.out hb.size)
  clear Rx0d0_4 Xx0d0_4 HB_4 HZ_4
  clear hb
  clear za
  unfold strOf
  have hne0 : (q0 == q0) = true := by simp
  have hne1 : (q1 != q1) = false := by simp
  go_wp2_with fail
  refine (u_toNodeS Rx0d0_5.out (by omega)).mono ?_
  rintro e w_6 ⟨aYx0d0, pYx0d0, rfl, hsx0d0, hb⟩
  have za := HZ_5.out
  have Rx0d0_6 := hid (Rx0d0_5.out.below (Nat.le_refl _) hb)
  have Xx0d0_6 := hid (Xx0d0_5.out.below (Nat.le_refl _) hb)
  have HB_6 := hid (bel_next HB_5.out HB_5.out.size hb)
  have HZ_6 := hid (Nat.le_trans HZ_5.out hb.size)
  clear Rx0d0_5 Xx0d0_5 HB_5 HZ_5
  clear hb
  obtain ⟨β3, hβe⟩ : ∃ B, B = w_6.heap.size := ⟨_, rfl⟩
  have β3_le : β2 ≤ β3 := by rw [hβe]; exact HZ_6.out
  have Yx0d0_6 := hid (hsx0d0.mk (lo := β2) (hi := β3) za (Nat.le_of_eq hβe.symm))
  have HZ_6 := hid (Nat.le_of_eq hβe)
  clear hβe hsx0d0
  clear za
  go_wp2_with fail
  refine (u_eqNodeS Xx0d0_6.out Yx0d0_6.out).mono ?_
  rintro e w_7 ⟨rfl, hb⟩
  rw [show decide (x0d0 = x0d0) = true from by simp]
  have Rx0d0_7 := hid (Rx0d0_6.out.below (Nat.le_refl _) hb)
  have Xx0d0_7 := hid (Xx0d0_6.out.below (Nat.le_refl _) hb)
  have Yx0d0_7 := hid (Yx0d0_6.out.below (Nat.le_refl _) hb)
  have HB_7 := hid (bel_next HB_6.out HB_6.out.size hb)
  have HZ_7 := hid (Nat.le_trans HZ_6.out hb.size)
  clear Rx0d0_6 Xx0d0_6 Yx0d0_6 HB_6 HZ_6
  clear hb
  go_wp2_with fail
  clear Yx0d0_7
  try go_wp2
  go_ret
  exact ⟨rfl, HB_7.out⟩

theorem own : ownKnob Tryd.prog.godebug = none := by kernel_rfl
theorem laidOut : laidOutB Tryd.prog = true := by kernel_rfl
set_option maxRecDepth 100000 in
theorem lifted (os : Os) (started : os.Started) (H : Type) (enc : TypeId × Value → H) (F : Stop.Interp) :
    ReturnsInHanded {} Tryd.checked os 11 .any ((OpenSpec.ofChange Rows.fnExactProofTextSpec).preRow enc Tryd.prog Tryd.f11 Rows.fnExactProofTextRow.domain false Rows.fnExactProofTextRow.laid) (((OpenSpec.ofChange Rows.fnExactProofTextSpec).at F).post enc Tryd.prog Tryd.f11 false true false false) := by
  refine returnsInHanded_of_row (C := Tryd.checked) (s := OpenSpec.ofChange Rows.fnExactProofTextSpec) own started (by kernel_rfl) Tryd.func11
    (ChangeSpec.witness_shaped (enc := enc) (C := Tryd.checked) (os := os) (s := Rows.fnExactProofTextSpec) (X := fun w _ => laidMetH Tryd.prog Rows.fnExactProofTextRow.laid w) false (World.laidAll Tryd.prog os Rows.fnExactProofTextRow.laid) #[.slice none 0 0] 8 (World.laidAll_os _ _ _)
      (World.shaped_of_ZipB (by kernel_rfl) (by kernel_rfl)) (by kernel_rfl) (by kernel_rfl) (by kernel_rfl)
      (by rw [MakeChecks.laidMetH_plain _ _ _ (by kernel_rfl)]; exact laidMet_laidAll _ (by kernel_rfl) (by kernel_rfl))) ?_
  intro W base args ds gs before hval0 hW hcnd _ _ hL hsh _
  have hval : ∀ (j : Nat) t v, Tryd.f11.params[j]? = some t → args[j]? = some v → Value.okWide Tryd.prog W .any base t v := hval0
  have hW' := hW
  obtain ⟨p, q, hA0, hV, rfl, hfz, hnd⟩ := hW
  have hA : DataW.TrodAll enc Tryd.prog W 0 (fun _ => true) true Tryd.f11.params.toList args.toList ds p := hA0
  rw [Tryd.params11] at hA hval
  obtain ⟨v0, vs0, d0, ds0, p0, q0, hargs, rfl, rfl, h0, r0⟩ := trodAll_cons hA
  obtain ⟨rfl, rfl, rfl⟩ := trodAll_nil r0
  obtain rfl : args = #[v0] := by cases args; simp_all
  obtain ⟨rfl, rfl⟩ := trodVars_none hV
  have k0 := h0
  have lt0 : ∀ x ∈ p0, x.block < W.heap.size := by obtain ⟨m, hm⟩ := k0; exact DataW.trod_lt m _ _ _ hm
  obtain ⟨a0, cap0, as0, rfl, s0⟩ := arg_sl Tryd.underlying67 op_Nds (hval 0 67 v0 rfl rfl) h0
  clear hA0 hval0
  have ETAB := tab_of (laid_from 2 hL (by kernel_rfl) rfl)
  refine (walk a0 cap0 as0 W s0 ETAB).mono fun e W' ⟨he, bel⟩ => ?_
  subst he
  exact ⟨_, rfl, _, _, _, [], _, [], hW', trodAll_mk1 (shut_bool Tryd.underlying4 _), (trodAll_cons_mk (Below.trod laidOut (by kernel_rfl) (of_decide_eq_true (by kernel_rfl)) k0 bel lt0) trodAll_mk0), rfl, bel.frame _, fun h => by cases h⟩

theorem said : Rows.FnExactProofTextSaid :=
  OpenClaim.holds_of_cond 11 Tryd.f11 rfl rfl rfl rfl rfl rfl rfl ⟨rfl, rfl, rfl, rfl, rfl⟩ rfl rfl rfl rfl rfl (by kernel_rfl) Tryd.func11 (by kernel_rfl)
    (of_decide_eq_true (by kernel_rfl)) (by unfold Func.isWrapper; first | (rw [if_pos (by decide +kernel)]; kernel_rfl) | (rw [if_neg (by decide +kernel)]; exact ⟨rfl, rfl⟩))
    (fun os started H enc _ F => by rw [OpenClaim.pre_eq_preRow]; exact lifted os started H enc F)
theorem plain (f : FuncId) (fn : Func) (hf : Tryd.pinned.checked.prog.funcNamed "loop.example/g01105/laws.FnExactProofText" = some f) (hfn : Tryd.pinned.checked.prog.funcs[f]? = some fn) :
    true = Tryd.pinned.checked.prog.looks [] ∧ ∀ (j : Nat) t, fn.params[j]? = some t → Tryd.pinned.checked.prog.wantsStandIn t = false := by
  obtain rfl : f = 11 := Option.some.inj ((show Tryd.prog.funcNamed "loop.example/g01105/laws.FnExactProofText" = some 11 by kernel_rfl).symm.trans hf) |>.symm
  obtain rfl : fn = Tryd.f11 := (Option.some.inj (Tryd.func11.symm.trans hfn)).symm
  refine ⟨by kernel_rfl, fun j t ht => ?_⟩
  rw [Tryd.params11] at ht
  have hm : t ∈ [67] := by simpa using Array.mem_of_getElem? ht
  have hall : ([67].all fun u => !Tryd.prog.wantsStandIn u) = true := by kernel_rfl
  have hr : Tryd.prog.wantsStandIn t = false := by simpa using List.all_eq_true.1 hall t hm
  exact hr
theorem proved : Rows.FnExactProofTextCardSaid :=
  Claim7.holds_tied_plain_at .later [] _ _ _ _ said (fun _ h => by cases h) (by kernel_rfl) (fun _ h => by cases h) fnExactProofText_row_tie rfl ⟨rfl, rfl⟩ (by kernel_rfl) rfl plain (by kernel_rfl)
#print axioms proved
end Go.Proofs.YtcbaohcgeoaccaaDoor.fnExactProofText
