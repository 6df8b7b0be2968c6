/- For every instruction the law FnExactInstrText returns true: the program's InstrText returns what the reference's returns. Condition: Go's own tables stand as its text lays them (the card ties that to the text). -/
import Derived.Test.YtcbaohcgeoaccaaDoorCards
import Derived.Test.YtcbaohcgeoaccaaDoorTie
import Derived.Test.YtcbaohcgeoaccaaDoorDoor
import Derived.Test.YtcbaohcgeoaccaaDoorOpn
import Derived.Test.YtcbaohcgeoaccaaDoorD06
import Derived.ProofKit
import Derived.OpenShut
import Derived.ChangeOld
namespace Go.Proofs.YtcbaohcgeoaccaaDoor.fnExactInstrText
open Go.ChangeShapes Go.WideShapes Go.ChangeAt Go.RowKit
open Go.ChangeMaps (open_string shut_string)
set_option linter.unusedVariables false

theorem walk (d : Instr) (cs : Array Value) (w : World) (h : cInstr.rd (fun _ => True) w cs.toList d) (hTAB : TabE w.heap.size w) : Calls Tryd.prog 6 #[.agg cs] w fun e w' => e = .returned (.bool true) ∧ Below w.heap.size w w' := by
  obtain ⟨rfl, _, hy⟩ := instr_arr h
  have HTAB := hid hTAB
  clear hTAB
  obtain ⟨op, arg⟩ := d
  clear h
  simp only at hy
  obtain ⟨⟨s, r⟩, hr⟩ : ∃ q, instrTextF (op, arg) = q := ⟨_, rfl⟩
  have HR := hid hr
  clear hr
  go_enter Tryd.func6, Tryd.ntmps6
  go_wp2_with fail
  refine (c_toInstr _ _ _).mono ?_
  rintro e w1 ⟨rfl, hb1⟩
  have HB1 := hid (bel_box (Below.refl w.heap.size w) (Nat.le_refl _) hb1)
  have t0 := cell_below hb1 (b := w.heap.size) (o := 0) (v := .int .i64 op) (by simp) (by simp [go_sem])
  have t1 := cell_below hb1 (b := w.heap.size) (o := 1) (v := .int .i64 arg) (by simp) (by simp [go_sem])
  have z1 : w.heap.size < w1.heap.size := by have := hb1.size; simp at this; omega
  clear hb1
  go_wp2_with fail
  refine (c_sInstrText _ _ _ hy).mono ?_
  rintro e w2 ⟨rfl, hb2⟩
  rw [HR.out]
  simp only
  unfold strOf
  have HB2 := hid (bel_next HB1.out HB1.out.size hb2)
  have t0 := cell_below hb2 z1 t0
  have t1 := cell_below hb2 z1 t1
  clear hb2
  go_wp2_with fail
  refine (c_toInstr _ _ _).mono ?_
  rintro e w3 ⟨rfl, hb3⟩
  have HB3 := hid (bel_next HB2.out HB2.out.size hb3)
  clear hb3
  go_wp2_with fail
  refine (c_InstrText _ _ _ hy (HTAB.out.belows HB3.out)).mono ?_
  rintro e w4 ⟨rfl, hb4⟩
  rw [HR.out]
  simp only
  unfold strOf
  have HB4 := hid (bel_next HB3.out HB3.out.size hb4)
  clear hb4
  have hrr : (r != r) = false := by simp
  have hss : (s == s) = true := by simp
  go_wp2
  go_ret
  exact ⟨rfl, HB4.out⟩

theorem own : ownKnob Tryd.prog.godebug = none := by kernel_rfl
theorem laidOut : laidOutB Tryd.prog = true := by kernel_rfl
set_option maxRecDepth 100000 in
theorem lifted (os : Os) (started : os.Started) (H : Type) (enc : TypeId × Value → H) (F : Stop.Interp) :
    ReturnsInHanded {} Tryd.checked os 6 .any ((OpenSpec.ofChange Rows.fnExactInstrTextSpec).preRow enc Tryd.prog Tryd.f6 Rows.fnExactInstrTextRow.domain false Rows.fnExactInstrTextRow.laid) (((OpenSpec.ofChange Rows.fnExactInstrTextSpec).at F).post enc Tryd.prog Tryd.f6 false true false false) := by
  refine returnsInHanded_of_row (C := Tryd.checked) (s := OpenSpec.ofChange Rows.fnExactInstrTextSpec) own started (by kernel_rfl) Tryd.func6
    (ChangeSpec.witness_shaped (enc := enc) (C := Tryd.checked) (os := os) (s := Rows.fnExactInstrTextSpec) (X := fun w _ => laidMetH Tryd.prog Rows.fnExactInstrTextRow.laid w) false (World.laidAll Tryd.prog os Rows.fnExactInstrTextRow.laid) #[.agg #[.int .i64 0, .int .i64 0]] 8 (World.laidAll_os _ _ _)
      (World.shaped_of_ZipB (by kernel_rfl) (by kernel_rfl)) (by kernel_rfl) (by kernel_rfl) (by kernel_rfl)
      (by rw [MakeChecks.laidMetH_plain _ _ _ (by kernel_rfl)]; exact laidMet_laidAll _ (by kernel_rfl) (by kernel_rfl))) ?_
  intro W base args ds gs before hval0 hW hcnd _ _ hL hsh _
  have hval : ∀ (j : Nat) t v, Tryd.f6.params[j]? = some t → args[j]? = some v → Value.okWide Tryd.prog W .any base t v := hval0
  have hW' := hW
  obtain ⟨p, q, hA0, hV, rfl, hfz, hnd⟩ := hW
  have hA : DataW.TrodAll enc Tryd.prog W 0 (fun _ => true) true Tryd.f6.params.toList args.toList ds p := hA0
  rw [Tryd.params6] at hA hval
  obtain ⟨v0, vs0, d0, ds0, p0, q0, hargs, rfl, rfl, h0, r0⟩ := trodAll_cons hA
  obtain ⟨rfl, rfl, rfl⟩ := trodAll_nil r0
  obtain rfl : args = #[v0] := by cases args; simp_all
  obtain ⟨rfl, rfl⟩ := trodVars_none hV
  have k0 := h0
  have lt0 : ∀ x ∈ p0, x.block < W.heap.size := by obtain ⟨m, hm⟩ := k0; exact DataW.trod_lt m _ _ _ hm
  obtain ⟨as0, cs0, rfl, s0⟩ := arg_st Tryd.underlying32 op_Instr (hval 0 32 v0 rfl rfl) h0
  clear hA0 hval0
  have ETAB := tab_of (laid_from 2 hL (by kernel_rfl) rfl)
  refine (walk as0 cs0 W s0 ETAB).mono fun e W' ⟨he, bel⟩ => ?_
  subst he
  exact ⟨_, rfl, _, _, _, [], _, [], hW', trodAll_mk1 (shut_bool Tryd.underlying4 _), (trodAll_cons_mk (Below.trod laidOut (by kernel_rfl) (of_decide_eq_true (by kernel_rfl)) k0 bel lt0) trodAll_mk0), rfl, bel.frame _, fun h => by cases h⟩

theorem said : Rows.FnExactInstrTextSaid :=
  OpenClaim.holds_of_cond 6 Tryd.f6 rfl rfl rfl rfl rfl rfl rfl ⟨rfl, rfl, rfl, rfl, rfl⟩ rfl rfl rfl rfl rfl (by kernel_rfl) Tryd.func6 (by kernel_rfl)
    (of_decide_eq_true (by kernel_rfl)) (by unfold Func.isWrapper; first | (rw [if_pos (by decide +kernel)]; kernel_rfl) | (rw [if_neg (by decide +kernel)]; exact ⟨rfl, rfl⟩))
    (fun os started H enc _ F => by rw [OpenClaim.pre_eq_preRow]; exact lifted os started H enc F)
theorem plain (f : FuncId) (fn : Func) (hf : Tryd.pinned.checked.prog.funcNamed "loop.example/g01105/laws.FnExactInstrText" = some f) (hfn : Tryd.pinned.checked.prog.funcs[f]? = some fn) :
    true = Tryd.pinned.checked.prog.looks [] ∧ ∀ (j : Nat) t, fn.params[j]? = some t → Tryd.pinned.checked.prog.wantsStandIn t = false := by
  obtain rfl : f = 6 := Option.some.inj ((show Tryd.prog.funcNamed "loop.example/g01105/laws.FnExactInstrText" = some 6 by kernel_rfl).symm.trans hf) |>.symm
  obtain rfl : fn = Tryd.f6 := (Option.some.inj (Tryd.func6.symm.trans hfn)).symm
  refine ⟨by kernel_rfl, fun j t ht => ?_⟩
  rw [Tryd.params6] at ht
  have hm : t ∈ [32] := by simpa using Array.mem_of_getElem? ht
  have hall : ([32].all fun u => !Tryd.prog.wantsStandIn u) = true := by kernel_rfl
  have hr : Tryd.prog.wantsStandIn t = false := by simpa using List.all_eq_true.1 hall t hm
  exact hr
theorem proved : Rows.FnExactInstrTextCardSaid :=
  Claim7.holds_tied_plain_at .later [] _ _ _ _ said (fun _ h => by cases h) (by kernel_rfl) (fun _ h => by cases h) fnExactInstrText_row_tie rfl ⟨rfl, rfl⟩ (by kernel_rfl) rfl plain (by kernel_rfl)
#print axioms proved
end Go.Proofs.YtcbaohcgeoaccaaDoor.fnExactInstrText
