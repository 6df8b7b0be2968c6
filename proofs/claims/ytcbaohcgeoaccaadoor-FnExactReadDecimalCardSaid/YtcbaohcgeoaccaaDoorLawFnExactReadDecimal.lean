/- For every text the law FnExactReadDecimal returns true: the program's ReadDecimal returns what the reference's returns. Condition: Go's own tables stand as its text lays them (the card ties that to the text). -/
import Derived.Test.YtcbaohcgeoaccaaDoorCards
import Derived.Test.YtcbaohcgeoaccaaDoorTie
import Derived.Test.YtcbaohcgeoaccaaDoorDoor
import Derived.Test.YtcbaohcgeoaccaaDoorOpn
import Derived.Test.YtcbaohcgeoaccaaDoorLawAid
import Derived.Test.YtcbaohcgeoaccaaDoorD11
import Derived.Deep.RegionHeld3
import Derived.ProofKit
import Derived.OpenShut
import Derived.ChangeOld
namespace Go.Proofs.YtcbaohcgeoaccaaDoor.fnExactReadDecimal
open Go.ChangeShapes Go.WideShapes Go.ChangeAt Go.RowKit
open Go.ChangeMaps (open_string shut_string)
set_option linter.unusedVariables false

set_option maxHeartbeats 4000000 in
set_option maxRecDepth 100000 in
theorem walk (s0 : ByteArray) (hs0 : s0.size ≤ maxLen) (w : World) (hTAB : TabE w.heap.size w) (hERR : ErrE w.heap.size w) : Calls Tryd.prog 10 #[.string s0] w fun e w' => e = .returned (.bool true) ∧ Below w.heap.size w w' := by
  unfold maxLen at hs0
  have HTAB := hid hTAB
  clear hTAB
  have HERR := hid hERR
  clear hERR
  obtain ⟨⟨q0, q1⟩, hq⟩ : ∃ q, readF s0.data.toList = q := ⟨_, rfl⟩
  have HQ := hid hq
  clear hq
  have HB_0 : Hid (Below w.heap.size w w) := Below.refl _ _
  obtain ⟨β0, hβe⟩ : ∃ B, B = w.heap.size := ⟨_, rfl⟩
  have HZ_0 : Hid (β0 ≤ w.heap.size) := Nat.le_of_eq hβe
  have β0_le : w.heap.size + 0 ≤ β0 := by rw [hβe]; simp
  clear hβe
  by_cases hsz0 : s0.size ≤ 1048576
  · skip
    go_enter Tryd.func10, Tryd.ntmps10
    go_wp2_with fail
    refine (c_sReadDecimal _ _ (by omega)).mono ?_
    rintro e w_1 ⟨rfl, hb⟩
    rw [HQ.out]
    have za := HZ_0.out
    have HB_1 := hid (bel_next HB_0.out HB_0.out.size hb)
    have HZ_1 := hid (Nat.le_trans HZ_0.out hb.size)
    clear HB_0 HZ_0
    clear hb
    clear za
    go_wp2_with fail
    refine (c_ReadDecimal _ _ (by omega) (HTAB.out.belows HB_1.out) (HERR.out.belows HB_1.out)).mono ?_
    rintro e w_2 ⟨rfl, hb⟩
    rw [HQ.out]
    have za := HZ_1.out
    have HB_2 := hid (bel_next HB_1.out HB_1.out.size hb)
    have HZ_2 := hid (Nat.le_trans HZ_1.out hb.size)
    clear HB_1 HZ_1
    clear hb
    clear za
    have hne0 : (q0 != q0) = false := by simp
    have hne1 : (q1 != q1) = false := by simp
    go_wp2_with fail
    try go_wp2
    go_ret
    exact ⟨rfl, HB_2.out⟩
  · skip
    go_enter Tryd.func10, Tryd.ntmps10
    go_wp2_with fail
    go_wp2
    go_ret
    exact ⟨rfl, HB_0.out⟩

theorem own : ownKnob Tryd.prog.godebug = none := by kernel_rfl
theorem laidOut : laidOutB Tryd.prog = true := by kernel_rfl
set_option maxRecDepth 100000 in
theorem lifted (os : Os) (started : os.Started) (H : Type) (enc : TypeId × Value → H) (F : Stop.Interp) :
    ReturnsInHanded {} Tryd.checked os 10 .any ((OpenSpec.ofChange Rows.fnExactReadDecimalSpec).preRow enc Tryd.prog Tryd.f10 Rows.fnExactReadDecimalRow.domain false Rows.fnExactReadDecimalRow.laid) (((OpenSpec.ofChange Rows.fnExactReadDecimalSpec).at F).post enc Tryd.prog Tryd.f10 false true false false) := by
  refine returnsInHanded_of_row (C := Tryd.checked) (s := OpenSpec.ofChange Rows.fnExactReadDecimalSpec) own started (by kernel_rfl) Tryd.func10
    (ChangeSpec.witness_shaped (enc := enc) (C := Tryd.checked) (os := os) (s := Rows.fnExactReadDecimalSpec) (X := fun w _ => laidMetH Tryd.prog Rows.fnExactReadDecimalRow.laid w) false (World.laidAll Tryd.prog os Rows.fnExactReadDecimalRow.laid) #[.string ByteArray.empty] 8 (World.laidAll_os _ _ _)
      (World.shaped_of_ZipB (by kernel_rfl) (by kernel_rfl)) (by kernel_rfl) (by kernel_rfl) (by kernel_rfl)
      (by rw [MakeChecks.laidMetH_plain _ _ _ (by kernel_rfl)]; exact laidMet_laidAll _ (by kernel_rfl) (by kernel_rfl))) ?_
  intro W base args ds gs before hval0 hW hcnd _ _ hL hsh _
  have hval : ∀ (j : Nat) t v, Tryd.f10.params[j]? = some t → args[j]? = some v → Value.okWide Tryd.prog W .any base t v := hval0
  have hW' := hW
  obtain ⟨p, q, hA0, hV, rfl, hfz, hnd⟩ := hW
  have hA : DataW.TrodAll enc Tryd.prog W 0 (fun _ => true) true Tryd.f10.params.toList args.toList ds p := hA0
  rw [Tryd.params10] at hA hval
  obtain ⟨v0, vs0, d0, ds0, p0, q0, hargs, rfl, rfl, h0, r0⟩ := trodAll_cons hA
  obtain ⟨rfl, rfl, rfl⟩ := trodAll_nil r0
  obtain rfl : args = #[v0] := by cases args; simp_all
  obtain ⟨rfl, rfl⟩ := trodVars_none hV
  have k0 := h0
  have lt0 : ∀ x ∈ p0, x.block < W.heap.size := by obtain ⟨m, hm⟩ := k0; exact DataW.trod_lt m _ _ _ hm
  obtain ⟨a0, rfl, rfl, rfl, w0⟩ := open_string Tryd.underlying9 (hval 0 9 v0 rfl rfl) h0
  clear hA0 hval0
  have EERR := err_of (laid_from 3 hL (by kernel_rfl) rfl)
  have ETAB := tab_of (laid_from 2 hL (by kernel_rfl) rfl)
  refine (walk a0 w0 W  ETAB EERR).mono fun e W' ⟨he, bel⟩ => ?_
  subst he
  exact ⟨_, rfl, _, _, _, [], _, [], hW', trodAll_mk1 (shut_bool Tryd.underlying4 _), (trodAll_cons_mk (Below.trod laidOut (by kernel_rfl) (of_decide_eq_true (by kernel_rfl)) k0 bel lt0) trodAll_mk0), rfl, bel.frame _, fun h => by cases h⟩

theorem said : Rows.FnExactReadDecimalSaid :=
  OpenClaim.holds_of_cond 10 Tryd.f10 rfl rfl rfl rfl rfl rfl rfl ⟨rfl, rfl, rfl, rfl, rfl⟩ rfl rfl rfl rfl rfl (by kernel_rfl) Tryd.func10 (by kernel_rfl)
    (of_decide_eq_true (by kernel_rfl)) (by unfold Func.isWrapper; first | (rw [if_pos (by decide +kernel)]; kernel_rfl) | (rw [if_neg (by decide +kernel)]; exact ⟨rfl, rfl⟩))
    (fun os started H enc _ F => by rw [OpenClaim.pre_eq_preRow]; exact lifted os started H enc F)
theorem plain (f : FuncId) (fn : Func) (hf : Tryd.pinned.checked.prog.funcNamed "loop.example/g01105/laws.FnExactReadDecimal" = some f) (hfn : Tryd.pinned.checked.prog.funcs[f]? = some fn) :
    true = Tryd.pinned.checked.prog.looks [] ∧ ∀ (j : Nat) t, fn.params[j]? = some t → Tryd.pinned.checked.prog.wantsStandIn t = false := by
  obtain rfl : f = 10 := Option.some.inj ((show Tryd.prog.funcNamed "loop.example/g01105/laws.FnExactReadDecimal" = some 10 by kernel_rfl).symm.trans hf) |>.symm
  obtain rfl : fn = Tryd.f10 := (Option.some.inj (Tryd.func10.symm.trans hfn)).symm
  refine ⟨by kernel_rfl, fun j t ht => ?_⟩
  rw [Tryd.params10] at ht
  have hm : t ∈ [9] := by simpa using Array.mem_of_getElem? ht
  have hall : ([9].all fun u => !Tryd.prog.wantsStandIn u) = true := by kernel_rfl
  have hr : Tryd.prog.wantsStandIn t = false := by simpa using List.all_eq_true.1 hall t hm
  exact hr
theorem proved : Rows.FnExactReadDecimalCardSaid :=
  Claim7.holds_tied_plain_at .later [] _ _ _ _ said (fun _ h => by cases h) (by kernel_rfl) (fun _ h => by cases h) fnExactReadDecimal_row_tie rfl ⟨rfl, rfl⟩ (by kernel_rfl) rfl plain (by kernel_rfl)
#print axioms proved
end Go.Proofs.YtcbaohcgeoaccaaDoor.fnExactReadDecimal
