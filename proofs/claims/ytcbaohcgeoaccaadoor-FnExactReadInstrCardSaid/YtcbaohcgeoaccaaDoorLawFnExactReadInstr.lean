/- For every text the law FnExactReadInstr returns true: the program's ReadInstr returns what the reference's returns. Condition: Go's own tables stand as its text lays them (the card ties that to the text). -/
import Derived.Test.YtcbaohcgeoaccaaDoorCards
import Derived.Test.YtcbaohcgeoaccaaDoorTie
import Derived.Test.YtcbaohcgeoaccaaDoorDoor
import Derived.Test.YtcbaohcgeoaccaaDoorOpn
import Derived.Test.YtcbaohcgeoaccaaDoorD13
import Derived.ProofKit
import Derived.OpenShut
import Derived.ChangeOld
namespace Go.Proofs.YtcbaohcgeoaccaaDoor.fnExactReadInstr
open Go.ChangeShapes Go.WideShapes Go.ChangeAt Go.RowKit
open Go.ChangeMaps (open_string shut_string)
set_option linter.unusedVariables false

set_option maxRecDepth 100000 in
theorem walk (s : ByteArray) (hs : s.size ≤ maxLen) (w : World) (hTAB : TabE w.heap.size w) (hERR : ErrE w.heap.size w) (hMAX : MaxE w.heap.size w) : Calls Tryd.prog 12 #[.string s] w fun e w' => e = .returned (.bool true) ∧ Below w.heap.size w w' := by
  unfold maxLen at hs
  have HTAB := hid hTAB
  have HERR := hid hERR
  have HMAX := hid hMAX
  clear hTAB hERR hMAX
  by_cases hsz : s.size ≤ 1048576
  · obtain ⟨⟨⟨x, y⟩, ok⟩, hq⟩ : ∃ q, readIF s.data.toList = q := ⟨_, rfl⟩
    have HQ := hid hq
    clear hq
    go_enter Tryd.func12, Tryd.ntmps12
    go_wp2_with fail
    refine (c_sReadInstr s w (by omega)).mono ?_
    rw [HQ.out]
    rintro e w1 ⟨rfl, hb1⟩
    have HB2 : Hid (Below w.heap.size w (w1.alloc (.cells #[.int .i64 x, .int .i64 y] 35))) := hb1.alloc hb1.size _
    have HX2 : Hid (InsIn (w1.alloc (.cells #[.int .i64 x, .int .i64 y] 35)) w1.heap.size x y) := heap_new w1 _
    clear hb1
    go_wp2_with fail
    generalize w1.alloc (.cells #[.int .i64 x, .int .i64 y] 35) = w2 at *
    refine (c_ReadInstr s w2 (by omega) (HTAB.out.belows HB2.out) (HERR.out.belows HB2.out) (HMAX.out.belows HB2.out)).mono ?_
    rw [HQ.out]
    rintro e w3 ⟨rfl, hb3⟩
    have HX3 := hid (HX2.out.below hb3)
    have HB3 := hid (bel_next HB2.out HB2.out.size hb3)
    have hbx : Below w3.heap.size w3 (w3.alloc (.cells #[.int .i64 x, .int .i64 y] 35)) := (Below.refl _ _).alloc (Nat.le_refl _) _
    have HB4 := hid (bel_next HB3.out HB3.out.size hbx)
    have HX4 := hid (HX3.out.below hbx)
    have HY4 : Hid (InsIn (w3.alloc (.cells #[.int .i64 x, .int .i64 y] 35)) w3.heap.size x y) := heap_new w3 _
    have x0 := HX4.out.c0
    have x1 := HX4.out.c1
    have y0 := HY4.out.c0
    have y1 := HY4.out.c1
    clear hb3 hbx HX2 HB2 HX3 HB3
    go_wp2_with fail
    refine (c_eqInstr x y x y _).mono ?_
    rintro e w5 ⟨rfl, hb5⟩
    rw [show decide (((x, y) : Instr) = (x, y)) = true from by simp]
    have HB5 := hid (bel_next HB4.out HB4.out.size hb5)
    clear hb5 x0 x1 y0 y1 HX4 HY4 HB4
    have hne : (ok != ok) = false := by simp
    go_wp2
    go_ret
    exact ⟨rfl, HB5.out⟩
  · go_enter Tryd.func12, Tryd.ntmps12
    go_wp2
    go_ret
    exact ⟨rfl, Below.refl _ _⟩

theorem own : ownKnob Tryd.prog.godebug = none := by kernel_rfl
theorem laidOut : laidOutB Tryd.prog = true := by kernel_rfl
set_option maxRecDepth 100000 in
theorem lifted (os : Os) (started : os.Started) (H : Type) (enc : TypeId × Value → H) (F : Stop.Interp) :
    ReturnsInHanded {} Tryd.checked os 12 .any ((OpenSpec.ofChange Rows.fnExactReadInstrSpec).preRow enc Tryd.prog Tryd.f12 Rows.fnExactReadInstrRow.domain false Rows.fnExactReadInstrRow.laid) (((OpenSpec.ofChange Rows.fnExactReadInstrSpec).at F).post enc Tryd.prog Tryd.f12 false true false false) := by
  refine returnsInHanded_of_row (C := Tryd.checked) (s := OpenSpec.ofChange Rows.fnExactReadInstrSpec) own started (by kernel_rfl) Tryd.func12
    (ChangeSpec.witness_shaped (enc := enc) (C := Tryd.checked) (os := os) (s := Rows.fnExactReadInstrSpec) (X := fun w _ => laidMetH Tryd.prog Rows.fnExactReadInstrRow.laid w) false (World.laidAll Tryd.prog os Rows.fnExactReadInstrRow.laid) #[.string ByteArray.empty] 8 (World.laidAll_os _ _ _)
      (World.shaped_of_ZipB (by kernel_rfl) (by kernel_rfl)) (by kernel_rfl) (by kernel_rfl) (by kernel_rfl)
      (by rw [MakeChecks.laidMetH_plain _ _ _ (by kernel_rfl)]; exact laidMet_laidAll _ (by kernel_rfl) (by kernel_rfl))) ?_
  intro W base args ds gs before hval0 hW hcnd _ _ hL hsh _
  have hval : ∀ (j : Nat) t v, Tryd.f12.params[j]? = some t → args[j]? = some v → Value.okWide Tryd.prog W .any base t v := hval0
  have hW' := hW
  obtain ⟨p, q, hA0, hV, rfl, hfz, hnd⟩ := hW
  have hA : DataW.TrodAll enc Tryd.prog W 0 (fun _ => true) true Tryd.f12.params.toList args.toList ds p := hA0
  rw [Tryd.params12] at hA hval
  obtain ⟨v0, vs0, d0, ds0, p0, q0, hargs, rfl, rfl, h0, r0⟩ := trodAll_cons hA
  obtain ⟨rfl, rfl, rfl⟩ := trodAll_nil r0
  obtain rfl : args = #[v0] := by cases args; simp_all
  obtain ⟨rfl, rfl⟩ := trodVars_none hV
  have k0 := h0
  have lt0 : ∀ x ∈ p0, x.block < W.heap.size := by obtain ⟨m, hm⟩ := k0; exact DataW.trod_lt m _ _ _ hm
  obtain ⟨a0, rfl, rfl, rfl, w0⟩ := open_string Tryd.underlying9 (hval 0 9 v0 rfl rfl) h0
  clear hA0 hval0
  have EMAX := max_of hsh
  have EERR := err_of (laid_from 3 hL (by kernel_rfl) rfl)
  have ETAB := tab_of (laid_from 2 hL (by kernel_rfl) rfl)
  refine (walk a0 w0 W  ETAB EERR EMAX).mono fun e W' ⟨he, bel⟩ => ?_
  subst he
  exact ⟨_, rfl, _, _, _, [], _, [], hW', trodAll_mk1 (shut_bool Tryd.underlying4 _), (trodAll_cons_mk (Below.trod laidOut (by kernel_rfl) (of_decide_eq_true (by kernel_rfl)) k0 bel lt0) trodAll_mk0), rfl, bel.frame _, fun h => by cases h⟩

theorem said : Rows.FnExactReadInstrSaid :=
  OpenClaim.holds_of_cond 12 Tryd.f12 rfl rfl rfl rfl rfl rfl rfl ⟨rfl, rfl, rfl, rfl, rfl⟩ rfl rfl rfl rfl rfl (by kernel_rfl) Tryd.func12 (by kernel_rfl)
    (of_decide_eq_true (by kernel_rfl)) (by unfold Func.isWrapper; first | (rw [if_pos (by decide +kernel)]; kernel_rfl) | (rw [if_neg (by decide +kernel)]; exact ⟨rfl, rfl⟩))
    (fun os started H enc _ F => by rw [OpenClaim.pre_eq_preRow]; exact lifted os started H enc F)
theorem plain (f : FuncId) (fn : Func) (hf : Tryd.pinned.checked.prog.funcNamed "loop.example/g01105/laws.FnExactReadInstr" = some f) (hfn : Tryd.pinned.checked.prog.funcs[f]? = some fn) :
    true = Tryd.pinned.checked.prog.looks [] ∧ ∀ (j : Nat) t, fn.params[j]? = some t → Tryd.pinned.checked.prog.wantsStandIn t = false := by
  obtain rfl : f = 12 := Option.some.inj ((show Tryd.prog.funcNamed "loop.example/g01105/laws.FnExactReadInstr" = some 12 by kernel_rfl).symm.trans hf) |>.symm
  obtain rfl : fn = Tryd.f12 := (Option.some.inj (Tryd.func12.symm.trans hfn)).symm
  refine ⟨by kernel_rfl, fun j t ht => ?_⟩
  rw [Tryd.params12] at ht
  have hm : t ∈ [9] := by simpa using Array.mem_of_getElem? ht
  have hall : ([9].all fun u => !Tryd.prog.wantsStandIn u) = true := by kernel_rfl
  have hr : Tryd.prog.wantsStandIn t = false := by simpa using List.all_eq_true.1 hall t hm
  exact hr
theorem proved : Rows.FnExactReadInstrCardSaid :=
  Claim7.holds_tied_plain_at .later [] _ _ _ _ said (fun _ h => by cases h) (by kernel_rfl) (fun _ h => by cases h) fnExactReadInstr_row_tie rfl ⟨rfl, rfl⟩ (by kernel_rfl) rfl plain (by kernel_rfl)
#print axioms proved
end Go.Proofs.YtcbaohcgeoaccaaDoor.fnExactReadInstr
