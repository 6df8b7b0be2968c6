/- For every state the law FnExactValidState returns true: the program's ValidState returns what the reference's returns, and leaves the state as it was. No condition. -/
import Derived.Test.YtgmhnnpigghbgaaRows
import Derived.Test.YtgmhnnpigghbgaaOpn
import Derived.Test.YtgmhnnpigghbgaaHlp
import Derived.Test.YtgmhnnpigghbgaaL03
import Derived.Deep.RegionHeld3
import Derived.ProofKit
import Derived.OpenShut
import Derived.ChangeOld
namespace Go.Proofs.Ytgmhnnpigghbgaa.fnExactValidState
open Go.ChangeShapes Go.WideShapes Go.ChangeAt Go.RowKit
open Go.ChangeMaps (open_string shut_string)
set_option linter.unusedVariables false

set_option maxHeartbeats 2000000 in
set_option maxRecDepth 100000 in
theorem walk (d0 : _) (cs0 : Array Value) (w : World) (h0 : cState.rd (fun _ => True) w cs0.toList d0) : Calls Try.prog 6 #[.agg cs0] w fun e w' => e = .returned (.bool true) ∧ Below w.heap.size w w' := by
  obtain ⟨a_us0, p_us0, a_vs0, p_vs0, rfl, hrus0, hrvs0, _⟩ := state_arr h0
  obtain ⟨us0, vs0⟩ := d0
  simp only at hrus0 hrvs0 ⊢
  clear h0
  have hl_us0 := hrus0.len_le
  have Rus0_0 := hid hrus0
  clear hrus0
  have hl_vs0 := hrvs0.len_le
  have Rvs0_0 := hid hrvs0
  clear hrvs0
  have HB_0 := hid (Below.refl w.heap.size w)
  obtain ⟨q0, hq⟩ : ∃ q, validState (us0, vs0) = q := ⟨_, rfl⟩
  have HQ := hid hq
  clear hq
  have Rus0_1 := hid (Rus0_0.out.alloc (.cells #[.slice a_us0 us0.length p_us0, .slice a_vs0 vs0.length p_vs0] 36))
  have Rvs0_1 := hid (Rvs0_0.out.alloc (.cells #[.slice a_us0 us0.length p_us0, .slice a_vs0 vs0.length p_vs0] 36))
  have HB_1 := hid (HB_0.out.alloc HB_0.out.size (.cells #[.slice a_us0 us0.length p_us0, .slice a_vs0 vs0.length p_vs0] 36))
  have hbx : Below w.heap.size w (w.alloc (.cells #[.slice a_us0 us0.length p_us0, .slice a_vs0 vs0.length p_vs0] 36)) := (Below.refl _ _).alloc (Nat.le_refl _) _
  have ct00_1 : (w.alloc (.cells #[.slice a_us0 us0.length p_us0, .slice a_vs0 vs0.length p_vs0] 36)).cell? ⟨w.heap.size, 0, none⟩ = some (.slice a_us0 us0.length p_us0) := by rw [World.cell?_alloc_at _ _ _ _ (rfl)]; rfl
  have ct01_1 : (w.alloc (.cells #[.slice a_us0 us0.length p_us0, .slice a_vs0 vs0.length p_vs0] 36)).cell? ⟨w.heap.size, 1, none⟩ = some (.slice a_vs0 vs0.length p_vs0) := by rw [World.cell?_alloc_at _ _ _ _ (rfl)]; rfl
  have zt0_1 : w.heap.size < (w.alloc (.cells #[.slice a_us0 us0.length p_us0, .slice a_vs0 vs0.length p_vs0] 36)).heap.size := by simp
  clear hbx Rus0_0 Rvs0_0 HB_0
  obtain ⟨r0, hr⟩ : ∃ r, szR 1048576 ((us0.length + vs0.length) : Nat) = r := ⟨_, rfl⟩
  have HR0 := hid hr
  clear hr
  by_cases hneg0 : r0 < 0
  · skip
    go_enter Try.func6, Try.ntmps6
    go_wp2_with fail
    generalize w.alloc (.cells #[.slice a_us0 us0.length p_us0, .slice a_vs0 vs0.length p_vs0] 36) = W0 at *
    refine (c_szState _ _ _ _ _ _ _ _ hl_us0 hl_vs0 (by omega) (by omega)).mono ?_
    rintro e w_2 ⟨rfl, hb⟩
    rw [HR0.out]
    have Rus0_2 := hid (Rus0_1.out.below (Nat.le_refl _) hb)
    have Rvs0_2 := hid (Rvs0_1.out.below (Nat.le_refl _) hb)
    have HB_2 := hid (bel_next HB_1.out HB_1.out.size hb)
    have ct00_2 := cell_below hb zt0_1 ct00_1
    have ct01_2 := cell_below hb zt0_1 ct01_1
    have zt0_2 := Nat.lt_of_lt_of_le zt0_1 hb.size
    clear Rus0_1 Rvs0_1 HB_1 ct00_1 ct01_1 zt0_1
    clear hb
    go_wp2_with fail
    go_wp2
    go_ret
    exact ⟨rfl, HB_2.out⟩
  · skip
    have hle := (szR_ge (left := 1048576) (n := (us0.length + vs0.length)) (by rw [HR0.out]; omega))
    rw [HR0.out] at hle
    obtain ⟨hle, hle'⟩ := hle
    have hn0 : us0.length ≤ 1048576 := by omega
    have hm0 : vs0.length ≤ 1048576 := by omega
    have hle0 : r0 ≤ 1048576 := by omega
    clear hle hle'
    go_enter Try.func6, Try.ntmps6
    go_wp2_with fail
    generalize w.alloc (.cells #[.slice a_us0 us0.length p_us0, .slice a_vs0 vs0.length p_vs0] 36) = W0 at *
    refine (c_szState _ _ _ _ _ _ _ _ hl_us0 hl_vs0 (by omega) (by omega)).mono ?_
    rintro e w_2 ⟨rfl, hb⟩
    rw [HR0.out]
    have Rus0_2 := hid (Rus0_1.out.below (Nat.le_refl _) hb)
    have Rvs0_2 := hid (Rvs0_1.out.below (Nat.le_refl _) hb)
    have HB_2 := hid (bel_next HB_1.out HB_1.out.size hb)
    have ct00_2 := cell_below hb zt0_1 ct00_1
    have ct01_2 := cell_below hb zt0_1 ct01_1
    have zt0_2 := Nat.lt_of_lt_of_le zt0_1 hb.size
    clear Rus0_1 Rvs0_1 HB_1 ct00_1 ct01_1 zt0_1
    clear hb
    go_wp2_with fail
    refine (c_toState _ _ _ _ _ _ _ Rus0_2.out Rvs0_2.out hn0 hm0).mono ?_
    rintro e w_3 ⟨a_us0V, p_us0V, a_vs0V, p_vs0V, rfl, hs_us, hs_vs, hb⟩
    simp only at hs_us hs_vs
    have Rus0_3 := hid (Rus0_2.out.below (Nat.le_refl _) hb)
    have Rvs0_3 := hid (Rvs0_2.out.below (Nat.le_refl _) hb)
    have Vus0_3 := hid hs_us
    have Vvs0_3 := hid hs_vs
    have HB_3 := hid (bel_next HB_2.out HB_2.out.size hb)
    have ct00_3 := cell_below hb zt0_2 ct00_2
    have ct01_3 := cell_below hb zt0_2 ct01_2
    have zt0_3 := Nat.lt_of_lt_of_le zt0_2 hb.size
    clear Rus0_2 Rvs0_2 hs_us hs_vs HB_2 ct00_2 ct01_2 zt0_2
    clear hb
    go_wp2_with fail
    refine (c_sValidState _ _ _ _ _ _ _ Vus0_3.out Vvs0_3.out).mono ?_
    rintro e w_4 ⟨rfl, hb⟩
    rw [HQ.out]
    have Rus0_4 := hid (Rus0_3.out.below (Nat.le_refl _) hb)
    have Rvs0_4 := hid (Rvs0_3.out.below (Nat.le_refl _) hb)
    have Vus0_4 := hid (Vus0_3.out.below (Nat.le_refl _) hb)
    have Vvs0_4 := hid (Vvs0_3.out.below (Nat.le_refl _) hb)
    have HB_4 := hid (bel_next HB_3.out HB_3.out.size hb)
    have ct00_4 := cell_below hb zt0_3 ct00_3
    have ct01_4 := cell_below hb zt0_3 ct01_3
    have zt0_4 := Nat.lt_of_lt_of_le zt0_3 hb.size
    clear Rus0_3 Rvs0_3 Vus0_3 Vvs0_3 HB_3 ct00_3 ct01_3 zt0_3
    clear hb
    go_wp2_with fail
    clear Vus0_4
    clear Vvs0_4
    refine (c_toState _ _ _ _ _ _ _ Rus0_4.out Rvs0_4.out hn0 hm0).mono ?_
    rintro e w_5 ⟨a_us0X, p_us0X, a_vs0X, p_vs0X, rfl, hs_us, hs_vs, hb⟩
    simp only at hs_us hs_vs
    have Rus0_5 := hid (Rus0_4.out.below (Nat.le_refl _) hb)
    have Rvs0_5 := hid (Rvs0_4.out.below (Nat.le_refl _) hb)
    have Xus0_5 := hid hs_us
    have Xvs0_5 := hid hs_vs
    have HB_5 := hid (bel_next HB_4.out HB_4.out.size hb)
    have ct00_5 := cell_below hb zt0_4 ct00_4
    have ct01_5 := cell_below hb zt0_4 ct01_4
    have zt0_5 := Nat.lt_of_lt_of_le zt0_4 hb.size
    clear Rus0_4 Rvs0_4 hs_us hs_vs HB_4 ct00_4 ct01_4 zt0_4
    clear hb
    have Rus0_6 := hid (Rus0_5.out.alloc (.cells #[.slice a_us0X us0.length p_us0X, .slice a_vs0X vs0.length p_vs0X] 39))
    have Rvs0_6 := hid (Rvs0_5.out.alloc (.cells #[.slice a_us0X us0.length p_us0X, .slice a_vs0X vs0.length p_vs0X] 39))
    have Xus0_6 := hid (Xus0_5.out.alloc (.cells #[.slice a_us0X us0.length p_us0X, .slice a_vs0X vs0.length p_vs0X] 39))
    have Xvs0_6 := hid (Xvs0_5.out.alloc (.cells #[.slice a_us0X us0.length p_us0X, .slice a_vs0X vs0.length p_vs0X] 39))
    have HB_6 := hid (HB_5.out.alloc HB_5.out.size (.cells #[.slice a_us0X us0.length p_us0X, .slice a_vs0X vs0.length p_vs0X] 39))
    have hbx : Below w_5.heap.size w_5 (w_5.alloc (.cells #[.slice a_us0X us0.length p_us0X, .slice a_vs0X vs0.length p_vs0X] 39)) := (Below.refl _ _).alloc (Nat.le_refl _) _
    have ct00_6 := cell_below hbx zt0_5 ct00_5
    have ct01_6 := cell_below hbx zt0_5 ct01_5
    have zt0_6 := Nat.lt_of_lt_of_le zt0_5 hbx.size
    have cx00_6 : (w_5.alloc (.cells #[.slice a_us0X us0.length p_us0X, .slice a_vs0X vs0.length p_vs0X] 39)).cell? ⟨w_5.heap.size, 0, none⟩ = some (.slice a_us0X us0.length p_us0X) := by rw [World.cell?_alloc_at _ _ _ _ (rfl)]; rfl
    have cx01_6 : (w_5.alloc (.cells #[.slice a_us0X us0.length p_us0X, .slice a_vs0X vs0.length p_vs0X] 39)).cell? ⟨w_5.heap.size, 1, none⟩ = some (.slice a_vs0X vs0.length p_vs0X) := by rw [World.cell?_alloc_at _ _ _ _ (rfl)]; rfl
    have zx0_6 : w_5.heap.size < (w_5.alloc (.cells #[.slice a_us0X us0.length p_us0X, .slice a_vs0X vs0.length p_vs0X] 39)).heap.size := by simp
    clear hbx Rus0_5 Rvs0_5 Xus0_5 Xvs0_5 HB_5 ct00_5 ct01_5 zt0_5
    go_wp2_with fail
    generalize w_5.alloc (.cells #[.slice a_us0X us0.length p_us0X, .slice a_vs0X vs0.length p_vs0X] 39) = w_6 at *
    refine (c_ValidState _ _ _ _ _ _ _ Xus0_6.out Xvs0_6.out).mono ?_
    rintro e w_7 ⟨rfl, hb⟩
    rw [HQ.out]
    have Rus0_7 := hid (Rus0_6.out.below (Nat.le_refl _) hb)
    have Rvs0_7 := hid (Rvs0_6.out.below (Nat.le_refl _) hb)
    have Xus0_7 := hid (Xus0_6.out.below (Nat.le_refl _) hb)
    have Xvs0_7 := hid (Xvs0_6.out.below (Nat.le_refl _) hb)
    have HB_7 := hid (bel_next HB_6.out HB_6.out.size hb)
    have ct00_7 := cell_below hb zt0_6 ct00_6
    have ct01_7 := cell_below hb zt0_6 ct01_6
    have cx00_7 := cell_below hb zx0_6 cx00_6
    have cx01_7 := cell_below hb zx0_6 cx01_6
    have zt0_7 := Nat.lt_of_lt_of_le zt0_6 hb.size
    have zx0_7 := Nat.lt_of_lt_of_le zx0_6 hb.size
    clear Rus0_6 Rvs0_6 Xus0_6 Xvs0_6 HB_6 ct00_6 ct01_6 cx00_6 cx01_6 zt0_6 zx0_6
    clear hb
    have hne0 : (q0 != q0) = false := by simp
    go_wp2_with fail
    have Rus0_8 := hid Rus0_7.out.drew
    have Rvs0_8 := hid Rvs0_7.out.drew
    have Xus0_8 := hid Xus0_7.out.drew
    have Xvs0_8 := hid Xvs0_7.out.drew
    have HB_8 := hid HB_7.out.drew
    go_region_held3 (fun w' => w'.cell? ⟨w.heap.size, 0, none⟩ = some (.slice a_us0 us0.length p_us0) ∧ w'.cell? ⟨w.heap.size, 1, none⟩ = some (.slice a_vs0 vs0.length p_vs0) ∧ w'.cell? ⟨w_5.heap.size, 0, none⟩ = some (.slice a_us0X us0.length p_us0X) ∧ w'.cell? ⟨w_5.heap.size, 1, none⟩ = some (.slice a_vs0X vs0.length p_vs0X)) (first | exact ⟨ct00_7, ct01_7, cx00_7, cx01_7⟩ | exact kk1 | exact kk2) (first | (go_at_call 24; refine (c_toState _ _ _ _ _ _ _ Rus0_8.out Rvs0_8.out hn0 hm0).mono ?_; rintro e w_9 ⟨a_us0Y, p_us0Y, a_vs0Y, p_vs0Y, rfl, hs_us, hs_vs, hb1⟩; simp only at hs_us hs_vs; have kk1 := And.intro (cell_below hb1 zt0_7 ct00_7) (And.intro (cell_below hb1 zt0_7 ct01_7) (And.intro (cell_below hb1 zx0_7 cx00_7) (cell_below hb1 zx0_7 cx01_7))); have Yus0_9 := hid hs_us; have Yvs0_9 := hid hs_vs; have Rus0_9 := hid (Rus0_8.out.below (Nat.le_refl _) hb1); have Rvs0_9 := hid (Rvs0_8.out.below (Nat.le_refl _) hb1); have Xus0_9 := hid (Xus0_8.out.below (Nat.le_refl _) hb1); have Xvs0_9 := hid (Xvs0_8.out.below (Nat.le_refl _) hb1); have HB_9 := hid (bel_next HB_8.out HB_8.out.size hb1); have zt0_9 := Nat.lt_of_lt_of_le zt0_7 hb1.size; have zx0_9 := Nat.lt_of_lt_of_le zx0_7 hb1.size; clear hs_us hs_vs) | (go_at_call 26; refine (c_eqState _ _ _ _ _ _ _ _ _ _ _ _ _ Xus0_9.out Yus0_9.out Xvs0_9.out Yvs0_9.out).mono ?_; rintro e w_10 ⟨rfl, hb2⟩; rw [show decide (((us0, vs0) : List Int × List Int) = ((us0, vs0) : List Int × List Int)) = true from (by simp)]; have kk2 := And.intro (cell_below hb2 zt0_9 kk1.1) (And.intro (cell_below hb2 zt0_9 kk1.2.1) (And.intro (cell_below hb2 zx0_9 kk1.2.2.1) (cell_below hb2 zx0_9 kk1.2.2.2))); have Rus0_10 := hid (Rus0_9.out.below (Nat.le_refl _) hb2); have Rvs0_10 := hid (Rvs0_9.out.below (Nat.le_refl _) hb2); have Xus0_10 := hid (Xus0_9.out.below (Nat.le_refl _) hb2); have Xvs0_10 := hid (Xvs0_9.out.below (Nat.le_refl _) hb2); have HB_10 := hid (bel_next HB_9.out HB_9.out.size hb2); have zt0_10 := Nat.lt_of_lt_of_le zt0_9 hb2.size; have zx0_10 := Nat.lt_of_lt_of_le zx0_9 hb2.size))
    have ct00_10 := kk2.1
    have ct01_10 := kk2.2.1
    have cx00_10 := kk2.2.2.1
    have cx01_10 := kk2.2.2.2
    clear kk1 kk2 hb1 hb2 ct00_7 ct01_7 cx00_7 cx01_7
    go_wp2_with fail
    try go_wp2
    go_ret
    exact ⟨rfl, HB_10.out⟩

theorem own : ownKnob Try.prog.godebug = none := by kernel_rfl
theorem laidOut : laidOutB Try.prog = true := by kernel_rfl
set_option maxRecDepth 100000 in
theorem lifted (os : Os) (started : os.Started) (H : Type) (enc : TypeId × Value → H) :
    ReturnsInHanded {} Try.checked os 6 .any (Rows.fnExactValidStateSpec.pre6 enc Try.prog Try.f6 Rows.fnExactValidStateRow.domain false) (Rows.fnExactValidStateSpec.post enc Try.prog Try.f6 false true false false) := by
  refine returnsInHanded_of_change (C := Try.checked) own started (by kernel_rfl) Try.func6
    (ChangeSpec.witness6 (enc := enc) (C := Try.checked) false ⟨#[], #[.agg #[.slice none 0 0, .slice none 0 0]], []⟩ 8 (by kernel_rfl) (by kernel_rfl) (by kernel_rfl) (by kernel_rfl)) ?_
  intro W base args ds gs before hval0 hW hcnd _
  have hval : ∀ (j : Nat) t v, Try.f6.params[j]? = some t → args[j]? = some v → Value.okWide Try.prog W .any base t v := hval0
  have hW' := hW
  obtain ⟨p, q, hA0, hV, rfl, hfz, hnd⟩ := hW
  have hA : DataW.TrodAll enc Try.prog W 0 (fun _ => true) true Try.f6.params.toList args.toList ds p := hA0
  rw [Try.params6] at hA hval
  obtain ⟨v0, vs0, d0, ds0, p0, q0, hargs, rfl, rfl, h0, r0⟩ := trodAll_cons hA
  obtain ⟨rfl, rfl, rfl⟩ := trodAll_nil r0
  obtain rfl : args = #[v0] := by cases args; simp_all
  obtain ⟨rfl, rfl⟩ := trodVars_none hV
  have k0 := h0
  have lt0 : ∀ x ∈ p0, x.block < W.heap.size := by obtain ⟨m, hm⟩ := k0; exact DataW.trod_lt m _ _ _ hm
  obtain ⟨as0, cs0, rfl, s0⟩ := arg_st Try.underlying36 op_State (hval 0 36 v0 rfl rfl) h0
  clear hA0 hval0
  refine (walk as0 cs0 W s0).mono fun e W' ⟨he, bel⟩ => ?_
  subst he
  exact ⟨_, rfl, _, _, _, [], _, [], hW', trodAll_mk1 (shut_bool Try.underlying4 _), (trodAll_cons_mk (Below.trod laidOut (by kernel_rfl) (of_decide_eq_true (by kernel_rfl)) k0 bel lt0) trodAll_mk0), rfl, bel.frame _, fun h => by cases h⟩

theorem over : Rows.fnExactValidStateRow.holds Try.pinned (OpenSpec.ofChange Rows.fnExactValidStateSpec) :=
  OpenClaim.holds_of_wide 6 Try.f6 rfl rfl rfl rfl rfl rfl rfl ⟨rfl, rfl, rfl, rfl, rfl⟩ rfl rfl rfl rfl rfl (by kernel_rfl) Try.func6 (by kernel_rfl)
    (of_decide_eq_true (by kernel_rfl)) (by unfold Func.isWrapper; first | (rw [if_pos (by decide +kernel)]; kernel_rfl) | (rw [if_neg (by decide +kernel)]; exact ⟨rfl, rfl⟩))
    (fun os started H enc _ => lifted os started H enc)

theorem proved : Rows.FnExactValidStateSaid := over
#print axioms proved
end Go.Proofs.Ytgmhnnpigghbgaa.fnExactValidState
