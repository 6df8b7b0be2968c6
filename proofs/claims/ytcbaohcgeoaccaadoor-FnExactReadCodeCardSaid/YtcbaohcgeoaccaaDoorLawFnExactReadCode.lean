/- For every text the law FnExactReadCode returns true: the program's ReadCode returns what the reference's returns, in memory of its own. Condition: Go's own tables stand as its text lays them (the card ties that to the text). -/
import Derived.Test.YtcbaohcgeoaccaaDoorCards
import Derived.Test.YtcbaohcgeoaccaaDoorTie
import Derived.Test.YtcbaohcgeoaccaaDoorDoor
import Derived.Test.YtcbaohcgeoaccaaDoorOpn
import Derived.Test.YtcbaohcgeoaccaaDoorLawAid
import Derived.Test.YtcbaohcgeoaccaaDoorD14
import Derived.Test.YtcbaohcgeoaccaaDoorMarkI
import Derived.Deep.RegionHeld3
import Derived.ProofKit
import Derived.OpenShut
import Derived.ChangeOld
namespace Go.Proofs.YtcbaohcgeoaccaaDoor.fnExactReadCode
open Go.ChangeShapes Go.WideShapes Go.ChangeAt Go.RowKit
open Go.ChangeMaps (open_string shut_string)
set_option linter.unusedVariables false

set_option maxHeartbeats 4000000 in
set_option maxRecDepth 100000 in
theorem walk (s0 : ByteArray) (hs0 : s0.size ≤ maxLen) (w : World) (hTAB : TabE w.heap.size w) (hERR : ErrE w.heap.size w) (hMAX : MaxE w.heap.size w) : Calls Tryd.prog 13 #[.string s0] w fun e w' => e = .returned (.bool true) ∧ Below w.heap.size w w' := by
  unfold maxLen at hs0
  have HTAB := hid hTAB
  clear hTAB
  have HERR := hid hERR
  clear hERR
  have HMAX := hid hMAX
  clear hMAX
  have hbnd : (readCF s0.data.toList).1.length ≤ 1048576 := Nat.le_trans (readCF_len _) (by decide)
  obtain ⟨⟨q0, q1⟩, hq⟩ : ∃ q, readCF s0.data.toList = q := ⟨_, rfl⟩
  rw [hq] at hbnd
  simp only at hbnd
  have HQ := hid hq
  clear hq
  have HB_0 : Hid (Below w.heap.size w w) := Below.refl _ _
  obtain ⟨β0, hβe⟩ : ∃ B, B = w.heap.size := ⟨_, rfl⟩
  have HZ_0 : Hid (β0 ≤ w.heap.size) := Nat.le_of_eq hβe
  have β0_le : w.heap.size + 0 ≤ β0 := by rw [hβe]; simp
  clear hβe
  by_cases hsz0 : s0.size ≤ 1048576
  · skip
    go_enter Tryd.func13, Tryd.ntmps13
    go_wp2_with fail
    refine (c_sReadCode _ _ (by omega)).mono ?_
    rw [HQ.out]
    rintro e w_1 ⟨aW, pW, rfl, hW, hb⟩
    simp only
    have za := HZ_0.out
    have HB_1 := hid (bel_next HB_0.out HB_0.out.size hb)
    have HZ_1 := hid (Nat.le_trans HZ_0.out hb.size)
    clear HB_0 HZ_0
    clear hb
    obtain ⟨β1, hβe⟩ : ∃ B, B = w_1.heap.size := ⟨_, rfl⟩
    have β1_le : β0 ≤ β1 := by rw [hβe]; exact HZ_1.out
    have W_1 := hid (hW.mk (lo := β0) (hi := β1) za (Nat.le_of_eq hβe.symm))
    have HZ_1 := hid (Nat.le_of_eq hβe)
    clear hβe hW
    clear za
    go_wp2_with fail
    refine (c_ReadCode _ _ (by omega) (HTAB.out.belows HB_1.out) (HERR.out.belows HB_1.out) (HMAX.out.belows HB_1.out)).mono ?_
    rw [HQ.out]
    rintro e w_2 ⟨aG, pG, rfl, hG, hb⟩
    simp only
    have za := HZ_1.out
    have W_2 := hid (W_1.out.below (Nat.le_refl _) hb)
    have HB_2 := hid (bel_next HB_1.out HB_1.out.size hb)
    have HZ_2 := hid (Nat.le_trans HZ_1.out hb.size)
    clear W_1 HB_1 HZ_1
    clear hb
    obtain ⟨β2, hβe⟩ : ∃ B, B = w_2.heap.size := ⟨_, rfl⟩
    have β2_le : β1 ≤ β2 := by rw [hβe]; exact HZ_2.out
    have G_2 := hid (hG.mk (lo := β1) (hi := β2) za (Nat.le_of_eq hβe.symm))
    have TH2_2 : Hid (∀ b, (Btw β1 β2 b ∧ Thawed w_2 b) → Thawed w_2 b) := fun b hb => hb.2
    have HZ_2 := hid (Nat.le_of_eq hβe)
    clear hβe hG
    clear za
    have hne1 : (q1 != q1) = false := by simp
    have hkk : ((1 : Int) + (2 * q0.length : Int) != 1 + (2 * q0.length : Int)) = false := by simp
    go_wp2_with fail
    refine (u_eqInstrS G_2.out W_2.out).mono ?_
    rintro e w_3 ⟨rfl, hb⟩
    rw [show decide (q0 = q0) = true from by simp]
    have W_3 := hid (W_2.out.below (Nat.le_refl _) hb)
    have G_3 := hid (G_2.out.below (Nat.le_refl _) hb)
    have TH2_3 := hid (thaw_below TH2_2.out hb)
    have HB_3 := hid (bel_next HB_2.out HB_2.out.size hb)
    have HZ_3 := hid (Nat.le_trans HZ_2.out hb.size)
    clear W_2 G_2 TH2_2 HB_2 HZ_2
    clear hb
    go_wp2_with fail
    refine (c_markInstrS _ _ _ _ _ _ G_3.out rfl TH2_3.out (by omega) (by omega)).mono ?_
    rintro e w_4 ⟨rfl, ⟨ys, hl, hu, hG⟩, ht⟩
    clear TH2_3
    clear G_3
    have W_4 := hid (W_3.out.sep ht (by omega))
    have HB_4 := hid (HB_3.out.trans (ht.bel HB_3.out.size fun b hb => by have := hb.1.1; omega))
    have HZ_4 := hid (Nat.le_trans HZ_3.out ht.size)
    clear W_3 HB_3 HZ_3 ht
    have G_4 := hid hG
    have HLY := hid hl
    have HU := hid hu
    clear hG hl hu
    go_wp2_with fail
    refine (c_heldInstrS _ _ _ _ _ _ G_4.out HLY.out HU.out (by omega) (by omega)).mono ?_
    rintro e w' ⟨rfl, rfl⟩
    go_wp2_with fail
    refine (c_ReadCode _ _ (by omega) (HTAB.out.belows HB_4.out) (HERR.out.belows HB_4.out) (HMAX.out.belows HB_4.out)).mono ?_
    rw [HQ.out]
    rintro e w_5 ⟨aH, pH, rfl, hH, hb⟩
    simp only
    have za := HZ_4.out
    have W_5 := hid (W_4.out.below (Nat.le_refl _) hb)
    have G_5 := hid (G_4.out.below (Nat.le_refl _) hb)
    have HB_5 := hid (bel_next HB_4.out HB_4.out.size hb)
    have HZ_5 := hid (Nat.le_trans HZ_4.out hb.size)
    clear W_4 G_4 HB_4 HZ_4
    clear hb
    obtain ⟨β3, hβe⟩ : ∃ B, B = w_5.heap.size := ⟨_, rfl⟩
    have β3_le : β2 ≤ β3 := by rw [hβe]; exact HZ_5.out
    have H_5 := hid (hH.mk (lo := β2) (hi := β3) za (Nat.le_of_eq hβe.symm))
    have HZ_5 := hid (Nat.le_of_eq hβe)
    clear hβe hH
    clear za
    go_wp2_with fail
    refine (u_eqInstrS H_5.out W_5.out).mono ?_
    rintro e w_6 ⟨rfl, hb⟩
    rw [show decide (q0 = q0) = true from by simp]
    have W_6 := hid (W_5.out.below (Nat.le_refl _) hb)
    have G_6 := hid (G_5.out.below (Nat.le_refl _) hb)
    have H_6 := hid (H_5.out.below (Nat.le_refl _) hb)
    have HB_6 := hid (bel_next HB_5.out HB_5.out.size hb)
    have HZ_6 := hid (Nat.le_trans HZ_5.out hb.size)
    clear W_5 G_5 H_5 HB_5 HZ_5
    clear hb
    go_wp2_with fail
    refine (c_heldInstrS _ _ _ _ _ _ G_6.out HLY.out HU.out (by omega) (by omega)).mono ?_
    rintro e w' ⟨rfl, rfl⟩
    try go_wp2
    go_ret
    exact ⟨rfl, HB_6.out⟩
  · skip
    go_enter Tryd.func13, Tryd.ntmps13
    go_wp2_with fail
    go_wp2
    go_ret
    exact ⟨rfl, HB_0.out⟩

theorem own : ownKnob Tryd.prog.godebug = none := by kernel_rfl
theorem laidOut : laidOutB Tryd.prog = true := by kernel_rfl
set_option maxRecDepth 100000 in
theorem lifted (os : Os) (started : os.Started) (H : Type) (enc : TypeId × Value → H) (F : Stop.Interp) :
    ReturnsInHanded {} Tryd.checked os 13 .any ((OpenSpec.ofChange Rows.fnExactReadCodeSpec).preRow enc Tryd.prog Tryd.f13 Rows.fnExactReadCodeRow.domain false Rows.fnExactReadCodeRow.laid) (((OpenSpec.ofChange Rows.fnExactReadCodeSpec).at F).post enc Tryd.prog Tryd.f13 false true false false) := by
  refine returnsInHanded_of_row (C := Tryd.checked) (s := OpenSpec.ofChange Rows.fnExactReadCodeSpec) own started (by kernel_rfl) Tryd.func13
    (ChangeSpec.witness_shaped (enc := enc) (C := Tryd.checked) (os := os) (s := Rows.fnExactReadCodeSpec) (X := fun w _ => laidMetH Tryd.prog Rows.fnExactReadCodeRow.laid w) false (World.laidAll Tryd.prog os Rows.fnExactReadCodeRow.laid) #[.string ByteArray.empty] 8 (World.laidAll_os _ _ _)
      (World.shaped_of_ZipB (by kernel_rfl) (by kernel_rfl)) (by kernel_rfl) (by kernel_rfl) (by kernel_rfl)
      (by rw [MakeChecks.laidMetH_plain _ _ _ (by kernel_rfl)]; exact laidMet_laidAll _ (by kernel_rfl) (by kernel_rfl))) ?_
  intro W base args ds gs before hval0 hW hcnd _ _ hL hsh _
  have hval : ∀ (j : Nat) t v, Tryd.f13.params[j]? = some t → args[j]? = some v → Value.okWide Tryd.prog W .any base t v := hval0
  have hW' := hW
  obtain ⟨p, q, hA0, hV, rfl, hfz, hnd⟩ := hW
  have hA : DataW.TrodAll enc Tryd.prog W 0 (fun _ => true) true Tryd.f13.params.toList args.toList ds p := hA0
  rw [Tryd.params13] at hA hval
  obtain ⟨v0, vs0, d0, ds0, p0, q0, hargs, rfl, rfl, h0, r0⟩ := trodAll_cons hA
  obtain ⟨rfl, rfl, rfl⟩ := trodAll_nil r0
  obtain rfl : args = #[v0] := by cases args; simp_all
  obtain ⟨rfl, rfl⟩ := trodVars_none hV
  have k0 := h0
  have lt0 : ∀ x ∈ p0, x.block < W.heap.size := by obtain ⟨m, hm⟩ := k0; exact DataW.trod_lt m _ _ _ hm
  obtain ⟨a0, rfl, rfl, rfl, w0⟩ := open_string Tryd.underlying9 (hval 0 9 v0 rfl rfl) h0
  clear hA0 hval0
  have EMAX := max_of hsh
  have EERR := err_of (laid_from 4 hL (by kernel_rfl) rfl)
  have ETAB := tab_of (laid_from 2 hL (by kernel_rfl) rfl)
  refine (walk a0 w0 W  ETAB EERR EMAX).mono fun e W' ⟨he, bel⟩ => ?_
  subst he
  exact ⟨_, rfl, _, _, _, [], _, [], hW', trodAll_mk1 (shut_bool Tryd.underlying4 _), (trodAll_cons_mk (Below.trod laidOut (by kernel_rfl) (of_decide_eq_true (by kernel_rfl)) k0 bel lt0) trodAll_mk0), rfl, bel.frame _, fun h => by cases h⟩

theorem said : Rows.FnExactReadCodeSaid :=
  OpenClaim.holds_of_cond 13 Tryd.f13 rfl rfl rfl rfl rfl rfl rfl ⟨rfl, rfl, rfl, rfl, rfl⟩ rfl rfl rfl rfl rfl (by kernel_rfl) Tryd.func13 (by kernel_rfl)
    (of_decide_eq_true (by kernel_rfl)) (by unfold Func.isWrapper; first | (rw [if_pos (by decide +kernel)]; kernel_rfl) | (rw [if_neg (by decide +kernel)]; exact ⟨rfl, rfl⟩))
    (fun os started H enc _ F => by rw [OpenClaim.pre_eq_preRow]; exact lifted os started H enc F)
theorem plain (f : FuncId) (fn : Func) (hf : Tryd.pinned.checked.prog.funcNamed "loop.example/g01105/laws.FnExactReadCode" = some f) (hfn : Tryd.pinned.checked.prog.funcs[f]? = some fn) :
    true = Tryd.pinned.checked.prog.looks [] ∧ ∀ (j : Nat) t, fn.params[j]? = some t → Tryd.pinned.checked.prog.wantsStandIn t = false := by
  obtain rfl : f = 13 := Option.some.inj ((show Tryd.prog.funcNamed "loop.example/g01105/laws.FnExactReadCode" = some 13 by kernel_rfl).symm.trans hf) |>.symm
  obtain rfl : fn = Tryd.f13 := (Option.some.inj (Tryd.func13.symm.trans hfn)).symm
  refine ⟨by kernel_rfl, fun j t ht => ?_⟩
  rw [Tryd.params13] at ht
  have hm : t ∈ [9] := by simpa using Array.mem_of_getElem? ht
  have hall : ([9].all fun u => !Tryd.prog.wantsStandIn u) = true := by kernel_rfl
  have hr : Tryd.prog.wantsStandIn t = false := by simpa using List.all_eq_true.1 hall t hm
  exact hr
theorem proved : Rows.FnExactReadCodeCardSaid :=
  Claim7.holds_tied_plain_at .later [] _ _ _ _ said (fun _ h => by cases h) (by kernel_rfl) (fun _ h => by cases h) fnExactReadCode_row_tie rfl ⟨rfl, rfl⟩ (by kernel_rfl) rfl plain (by kernel_rfl)
#print axioms proved
end Go.Proofs.YtcbaohcgeoaccaaDoor.fnExactReadCode
