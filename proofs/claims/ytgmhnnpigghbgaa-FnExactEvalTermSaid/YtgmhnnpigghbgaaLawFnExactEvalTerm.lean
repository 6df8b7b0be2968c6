/- For every term and every list of values the law FnExactEvalTerm returns true: the program's EvalTerm returns what the reference's returns, and leaves both as they were. No condition. -/
import Derived.Test.YtgmhnnpigghbgaaRows
import Derived.Test.YtgmhnnpigghbgaaOpn
import Derived.Test.YtgmhnnpigghbgaaHlp
import Derived.Test.YtgmhnnpigghbgaaL02
import Derived.Test.YtgmhnnpigghbgaaL02s
import Derived.Test.YtgmhnnpigghbgaaL02v
import Derived.Deep.RegionHeld3
import Derived.ProofKit
import Derived.OpenShut
import Derived.ChangeOld
namespace Go.Proofs.Ytgmhnnpigghbgaa.fnExactEvalTerm
open Go.ChangeShapes Go.WideShapes Go.ChangeAt Go.RowKit
open Go.ChangeMaps (open_string shut_string)
set_option linter.unusedVariables false

set_option maxHeartbeats 2000000 in
set_option maxRecDepth 100000 in
theorem walk (d0 : _) (cs0 : Array Value) (a_zs1 : Option Addr) (p_zs1 : Nat) (zs1 : List _) (w : World) (h0 : cTerm.rd (fun _ => True) w cs0.toList d0) (h1 : SlRd cInt (fun _ => True) w a_zs1 p_zs1 zs1) : Calls Try.prog 13 #[.agg cs0, .slice a_zs1 zs1.length p_zs1] w fun e w' => e = .returned (.bool true) ∧ Below w.heap.size w w' := by
  obtain ⟨a_zs0, p_zs0, rfl, hrzs0, _⟩ := term_arr h0
  obtain ⟨c0, zs0⟩ := d0
  simp only at hrzs0 ⊢
  clear h0
  have hrzs1 := h1
  clear h1
  have hl_zs0 := hrzs0.len_le
  have Rzs0_0 := hid hrzs0
  clear hrzs0
  have hl_zs1 := hrzs1.len_le
  have Rzs1_0 := hid hrzs1
  clear hrzs1
  have HB_0 := hid (Below.refl w.heap.size w)
  obtain ⟨⟨q0, q1⟩, hq⟩ : ∃ q, evalF (c0, zs0) zs1 = q := ⟨_, rfl⟩
  have HQ := hid hq
  clear hq
  have Rzs0_1 := hid (Rzs0_0.out.alloc (.cells #[.int .i64 c0, .slice a_zs0 zs0.length p_zs0] 44))
  have Rzs1_1 := hid (Rzs1_0.out.alloc (.cells #[.int .i64 c0, .slice a_zs0 zs0.length p_zs0] 44))
  have HB_1 := hid (HB_0.out.alloc HB_0.out.size (.cells #[.int .i64 c0, .slice a_zs0 zs0.length p_zs0] 44))
  have hbx : Below w.heap.size w (w.alloc (.cells #[.int .i64 c0, .slice a_zs0 zs0.length p_zs0] 44)) := (Below.refl _ _).alloc (Nat.le_refl _) _
  have ct00_1 : (w.alloc (.cells #[.int .i64 c0, .slice a_zs0 zs0.length p_zs0] 44)).cell? ⟨w.heap.size, 0, none⟩ = some (.int .i64 c0) := by rw [World.cell?_alloc_at _ _ _ _ (rfl)]; rfl
  have ct01_1 : (w.alloc (.cells #[.int .i64 c0, .slice a_zs0 zs0.length p_zs0] 44)).cell? ⟨w.heap.size, 1, none⟩ = some (.slice a_zs0 zs0.length p_zs0) := by rw [World.cell?_alloc_at _ _ _ _ (rfl)]; rfl
  have zt0_1 : w.heap.size < (w.alloc (.cells #[.int .i64 c0, .slice a_zs0 zs0.length p_zs0] 44)).heap.size := by simp
  clear hbx Rzs0_0 Rzs1_0 HB_0
  by_cases hsz1 : zs1.length ≤ 1048576
  · skip
    have hn1 := hsz1
    obtain ⟨r0, hr⟩ : ∃ r, szR 1048576 (zs0.length : Nat) = r := ⟨_, rfl⟩
    have HR0 := hid hr
    clear hr
    by_cases hneg0 : r0 < 0
    · skip
      go_enter Try.func13, Try.ntmps13
      go_wp2_with fail
      generalize w.alloc (.cells #[.int .i64 c0, .slice a_zs0 zs0.length p_zs0] 44) = W0 at *
      refine (c_szTerm _ _ _ _ _ _ hl_zs0 (by omega) (by omega)).mono ?_
      rintro e w_2 ⟨rfl, hb⟩
      rw [HR0.out]
      have Rzs0_2 := hid (Rzs0_1.out.below (Nat.le_refl _) hb)
      have Rzs1_2 := hid (Rzs1_1.out.below (Nat.le_refl _) hb)
      have HB_2 := hid (bel_next HB_1.out HB_1.out.size hb)
      have ct00_2 := cell_below hb zt0_1 ct00_1
      have ct01_2 := cell_below hb zt0_1 ct01_1
      have zt0_2 := Nat.lt_of_lt_of_le zt0_1 hb.size
      clear Rzs0_1 Rzs1_1 HB_1 ct00_1 ct01_1 zt0_1
      clear hb
      go_wp2_with fail
      go_wp2
      go_ret
      exact ⟨rfl, HB_2.out⟩
    · skip
      have hle := (szR_ge (left := 1048576) (n := zs0.length) (by rw [HR0.out]; omega))
      rw [HR0.out] at hle
      obtain ⟨hle, hle'⟩ := hle
      have hn0 : zs0.length ≤ 1048576 := by omega
      have hle0 : r0 ≤ 1048576 := by omega
      clear hle hle'
      go_enter Try.func13, Try.ntmps13
      go_wp2_with fail
      generalize w.alloc (.cells #[.int .i64 c0, .slice a_zs0 zs0.length p_zs0] 44) = W0 at *
      refine (c_szTerm _ _ _ _ _ _ hl_zs0 (by omega) (by omega)).mono ?_
      rintro e w_2 ⟨rfl, hb⟩
      rw [HR0.out]
      have Rzs0_2 := hid (Rzs0_1.out.below (Nat.le_refl _) hb)
      have Rzs1_2 := hid (Rzs1_1.out.below (Nat.le_refl _) hb)
      have HB_2 := hid (bel_next HB_1.out HB_1.out.size hb)
      have ct00_2 := cell_below hb zt0_1 ct00_1
      have ct01_2 := cell_below hb zt0_1 ct01_1
      have zt0_2 := Nat.lt_of_lt_of_le zt0_1 hb.size
      clear Rzs0_1 Rzs1_1 HB_1 ct00_1 ct01_1 zt0_1
      clear hb
      go_wp2_with fail
      refine (c_toTerm _ _ _ _ _ Rzs0_2.out hn0).mono ?_
      rintro e w_3 ⟨a_zs0V, p_zs0V, rfl, hs_zs, hb⟩
      simp only at hs_zs
      have Rzs0_3 := hid (Rzs0_2.out.below (Nat.le_refl _) hb)
      have Rzs1_3 := hid (Rzs1_2.out.below (Nat.le_refl _) hb)
      have Vzs0_3 := hid hs_zs
      have HB_3 := hid (bel_next HB_2.out HB_2.out.size hb)
      have ct00_3 := cell_below hb zt0_2 ct00_2
      have ct01_3 := cell_below hb zt0_2 ct01_2
      have zt0_3 := Nat.lt_of_lt_of_le zt0_2 hb.size
      clear Rzs0_2 Rzs1_2 hs_zs HB_2 ct00_2 ct01_2 zt0_2
      clear hb
      go_wp2_with fail
      refine (c_toInt64S _ _ _ _ Rzs1_3.out hn1).mono ?_
      rintro e w_4 ⟨a_zs1V, p_zs1V, rfl, hs_zs, hb⟩
      have Rzs0_4 := hid (Rzs0_3.out.below (Nat.le_refl _) hb)
      have Rzs1_4 := hid (Rzs1_3.out.below (Nat.le_refl _) hb)
      have Vzs0_4 := hid (Vzs0_3.out.below (Nat.le_refl _) hb)
      have Vzs1_4 := hid hs_zs
      have HB_4 := hid (bel_next HB_3.out HB_3.out.size hb)
      have ct00_4 := cell_below hb zt0_3 ct00_3
      have ct01_4 := cell_below hb zt0_3 ct01_3
      have zt0_4 := Nat.lt_of_lt_of_le zt0_3 hb.size
      clear Rzs0_3 Rzs1_3 Vzs0_3 hs_zs HB_3 ct00_3 ct01_3 zt0_3
      clear hb
      go_wp2_with fail
      refine (c_sEvalTerm _ _ _ _ _ _ _ _ Vzs0_4.out Vzs1_4.out).mono ?_
      rintro e w_5 ⟨rfl, hb⟩
      rw [HQ.out]
      have Rzs0_5 := hid (Rzs0_4.out.below (Nat.le_refl _) hb)
      have Rzs1_5 := hid (Rzs1_4.out.below (Nat.le_refl _) hb)
      have Vzs0_5 := hid (Vzs0_4.out.below (Nat.le_refl _) hb)
      have Vzs1_5 := hid (Vzs1_4.out.below (Nat.le_refl _) hb)
      have HB_5 := hid (bel_next HB_4.out HB_4.out.size hb)
      have ct00_5 := cell_below hb zt0_4 ct00_4
      have ct01_5 := cell_below hb zt0_4 ct01_4
      have zt0_5 := Nat.lt_of_lt_of_le zt0_4 hb.size
      clear Rzs0_4 Rzs1_4 Vzs0_4 Vzs1_4 HB_4 ct00_4 ct01_4 zt0_4
      clear hb
      go_wp2_with fail
      clear Vzs0_5
      clear Vzs1_5
      refine (c_toTerm _ _ _ _ _ Rzs0_5.out hn0).mono ?_
      rintro e w_6 ⟨a_zs0X, p_zs0X, rfl, hs_zs, hb⟩
      simp only at hs_zs
      have Rzs0_6 := hid (Rzs0_5.out.below (Nat.le_refl _) hb)
      have Rzs1_6 := hid (Rzs1_5.out.below (Nat.le_refl _) hb)
      have Xzs0_6 := hid hs_zs
      have HB_6 := hid (bel_next HB_5.out HB_5.out.size hb)
      have ct00_6 := cell_below hb zt0_5 ct00_5
      have ct01_6 := cell_below hb zt0_5 ct01_5
      have zt0_6 := Nat.lt_of_lt_of_le zt0_5 hb.size
      clear Rzs0_5 Rzs1_5 hs_zs HB_5 ct00_5 ct01_5 zt0_5
      clear hb
      have Rzs0_7 := hid (Rzs0_6.out.alloc (.cells #[.int .i64 c0, .slice a_zs0X zs0.length p_zs0X] 47))
      have Rzs1_7 := hid (Rzs1_6.out.alloc (.cells #[.int .i64 c0, .slice a_zs0X zs0.length p_zs0X] 47))
      have Xzs0_7 := hid (Xzs0_6.out.alloc (.cells #[.int .i64 c0, .slice a_zs0X zs0.length p_zs0X] 47))
      have HB_7 := hid (HB_6.out.alloc HB_6.out.size (.cells #[.int .i64 c0, .slice a_zs0X zs0.length p_zs0X] 47))
      have hbx : Below w_6.heap.size w_6 (w_6.alloc (.cells #[.int .i64 c0, .slice a_zs0X zs0.length p_zs0X] 47)) := (Below.refl _ _).alloc (Nat.le_refl _) _
      have ct00_7 := cell_below hbx zt0_6 ct00_6
      have ct01_7 := cell_below hbx zt0_6 ct01_6
      have zt0_7 := Nat.lt_of_lt_of_le zt0_6 hbx.size
      have cx00_7 : (w_6.alloc (.cells #[.int .i64 c0, .slice a_zs0X zs0.length p_zs0X] 47)).cell? ⟨w_6.heap.size, 0, none⟩ = some (.int .i64 c0) := by rw [World.cell?_alloc_at _ _ _ _ (rfl)]; rfl
      have cx01_7 : (w_6.alloc (.cells #[.int .i64 c0, .slice a_zs0X zs0.length p_zs0X] 47)).cell? ⟨w_6.heap.size, 1, none⟩ = some (.slice a_zs0X zs0.length p_zs0X) := by rw [World.cell?_alloc_at _ _ _ _ (rfl)]; rfl
      have zx0_7 : w_6.heap.size < (w_6.alloc (.cells #[.int .i64 c0, .slice a_zs0X zs0.length p_zs0X] 47)).heap.size := by simp
      clear hbx Rzs0_6 Rzs1_6 Xzs0_6 HB_6 ct00_6 ct01_6 zt0_6
      go_wp2_with fail
      generalize w_6.alloc (.cells #[.int .i64 c0, .slice a_zs0X zs0.length p_zs0X] 47) = w_7 at *
      refine (c_toInt64S _ _ _ _ Rzs1_7.out hn1).mono ?_
      rintro e w_8 ⟨a_zs1X, p_zs1X, rfl, hs_zs, hb⟩
      have Rzs0_8 := hid (Rzs0_7.out.below (Nat.le_refl _) hb)
      have Rzs1_8 := hid (Rzs1_7.out.below (Nat.le_refl _) hb)
      have Xzs0_8 := hid (Xzs0_7.out.below (Nat.le_refl _) hb)
      have Xzs1_8 := hid hs_zs
      have HB_8 := hid (bel_next HB_7.out HB_7.out.size hb)
      have ct00_8 := cell_below hb zt0_7 ct00_7
      have ct01_8 := cell_below hb zt0_7 ct01_7
      have cx00_8 := cell_below hb zx0_7 cx00_7
      have cx01_8 := cell_below hb zx0_7 cx01_7
      have zt0_8 := Nat.lt_of_lt_of_le zt0_7 hb.size
      have zx0_8 := Nat.lt_of_lt_of_le zx0_7 hb.size
      clear Rzs0_7 Rzs1_7 Xzs0_7 hs_zs HB_7 ct00_7 ct01_7 cx00_7 cx01_7 zt0_7 zx0_7
      clear hb
      go_wp2_with fail
      refine (c_EvalTerm _ _ _ _ _ _ _ _ Xzs0_8.out Xzs1_8.out).mono ?_
      rintro e w_9 ⟨rfl, hb⟩
      rw [HQ.out]
      have Rzs0_9 := hid (Rzs0_8.out.below (Nat.le_refl _) hb)
      have Rzs1_9 := hid (Rzs1_8.out.below (Nat.le_refl _) hb)
      have Xzs0_9 := hid (Xzs0_8.out.below (Nat.le_refl _) hb)
      have Xzs1_9 := hid (Xzs1_8.out.below (Nat.le_refl _) hb)
      have HB_9 := hid (bel_next HB_8.out HB_8.out.size hb)
      have ct00_9 := cell_below hb zt0_8 ct00_8
      have ct01_9 := cell_below hb zt0_8 ct01_8
      have cx00_9 := cell_below hb zx0_8 cx00_8
      have cx01_9 := cell_below hb zx0_8 cx01_8
      have zt0_9 := Nat.lt_of_lt_of_le zt0_8 hb.size
      have zx0_9 := Nat.lt_of_lt_of_le zx0_8 hb.size
      clear Rzs0_8 Rzs1_8 Xzs0_8 Xzs1_8 HB_8 ct00_8 ct01_8 cx00_8 cx01_8 zt0_8 zx0_8
      clear hb
      have hne0 : (q0 != q0) = false := by simp
      have hne1 : (q1 != q1) = false := by simp
      go_wp2_with fail
      have Rzs0_10 := hid Rzs0_9.out.drew
      have Rzs1_10 := hid Rzs1_9.out.drew
      have Xzs0_10 := hid Xzs0_9.out.drew
      have Xzs1_10 := hid Xzs1_9.out.drew
      have HB_10 := hid HB_9.out.drew
      go_region_held3 (fun w' => w'.cell? ⟨w.heap.size, 0, none⟩ = some (.int .i64 c0) ∧ w'.cell? ⟨w.heap.size, 1, none⟩ = some (.slice a_zs0 zs0.length p_zs0) ∧ w'.cell? ⟨w_6.heap.size, 0, none⟩ = some (.int .i64 c0) ∧ w'.cell? ⟨w_6.heap.size, 1, none⟩ = some (.slice a_zs0X zs0.length p_zs0X)) (first | exact ⟨ct00_9, ct01_9, cx00_9, cx01_9⟩ | exact kk1 | exact kk2) (first | (go_at_call 29; refine (c_toTerm _ _ _ _ _ Rzs0_10.out hn0).mono ?_; rintro e w_11 ⟨a_zs0Y, p_zs0Y, rfl, hs_zs, hb1⟩; simp only at hs_zs; have kk1 := And.intro (cell_below hb1 zt0_9 ct00_9) (And.intro (cell_below hb1 zt0_9 ct01_9) (And.intro (cell_below hb1 zx0_9 cx00_9) (cell_below hb1 zx0_9 cx01_9))); have Yzs0_11 := hid hs_zs; have Rzs0_11 := hid (Rzs0_10.out.below (Nat.le_refl _) hb1); have Rzs1_11 := hid (Rzs1_10.out.below (Nat.le_refl _) hb1); have Xzs0_11 := hid (Xzs0_10.out.below (Nat.le_refl _) hb1); have Xzs1_11 := hid (Xzs1_10.out.below (Nat.le_refl _) hb1); have HB_11 := hid (bel_next HB_10.out HB_10.out.size hb1); have zt0_11 := Nat.lt_of_lt_of_le zt0_9 hb1.size; have zx0_11 := Nat.lt_of_lt_of_le zx0_9 hb1.size; clear hs_zs) | (go_at_call 31; refine (c_eqTerm _ _ _ _ _ _ _ _ _ Xzs0_11.out Yzs0_11.out).mono ?_; rintro e w_12 ⟨rfl, hb2⟩; rw [show decide (((c0, zs0) : Term) = ((c0, zs0) : Term)) = true from (by simp)]; have kk2 := And.intro (cell_below hb2 zt0_11 kk1.1) (And.intro (cell_below hb2 zt0_11 kk1.2.1) (And.intro (cell_below hb2 zx0_11 kk1.2.2.1) (cell_below hb2 zx0_11 kk1.2.2.2))); have Rzs0_12 := hid (Rzs0_11.out.below (Nat.le_refl _) hb2); have Rzs1_12 := hid (Rzs1_11.out.below (Nat.le_refl _) hb2); have Xzs0_12 := hid (Xzs0_11.out.below (Nat.le_refl _) hb2); have Xzs1_12 := hid (Xzs1_11.out.below (Nat.le_refl _) hb2); have HB_12 := hid (bel_next HB_11.out HB_11.out.size hb2); have zt0_12 := Nat.lt_of_lt_of_le zt0_11 hb2.size; have zx0_12 := Nat.lt_of_lt_of_le zx0_11 hb2.size))
      have ct00_12 := kk2.1
      have ct01_12 := kk2.2.1
      have cx00_12 := kk2.2.2.1
      have cx01_12 := kk2.2.2.2
      clear kk1 kk2 hb1 hb2 ct00_9 ct01_9 cx00_9 cx01_9
      go_wp2_with fail
      refine (c_toInt64S _ _ _ _ Rzs1_12.out hn1).mono ?_
      rintro e w_13 ⟨a_zs1Y, p_zs1Y, rfl, hs_zs, hb⟩
      have Rzs0_13 := hid (Rzs0_12.out.below (Nat.le_refl _) hb)
      have Rzs1_13 := hid (Rzs1_12.out.below (Nat.le_refl _) hb)
      have Xzs0_13 := hid (Xzs0_12.out.below (Nat.le_refl _) hb)
      have Xzs1_13 := hid (Xzs1_12.out.below (Nat.le_refl _) hb)
      have Yzs1_13 := hid hs_zs
      have HB_13 := hid (bel_next HB_12.out HB_12.out.size hb)
      have ct00_13 := cell_below hb zt0_12 ct00_12
      have ct01_13 := cell_below hb zt0_12 ct01_12
      have cx00_13 := cell_below hb zx0_12 cx00_12
      have cx01_13 := cell_below hb zx0_12 cx01_12
      have zt0_13 := Nat.lt_of_lt_of_le zt0_12 hb.size
      have zx0_13 := Nat.lt_of_lt_of_le zx0_12 hb.size
      clear Rzs0_12 Rzs1_12 Xzs0_12 Xzs1_12 hs_zs HB_12 ct00_12 ct01_12 cx00_12 cx01_12 zt0_12 zx0_12
      clear hb
      go_wp2_with fail
      refine (c_eqInt64S _ _ _ _ _ _ _ Xzs1_13.out Yzs1_13.out).mono ?_
      rintro e w_14 ⟨rfl, hb⟩
      rw [show decide (zs1 = zs1) = true from by simp]
      have Rzs0_14 := hid (Rzs0_13.out.below (Nat.le_refl _) hb)
      have Rzs1_14 := hid (Rzs1_13.out.below (Nat.le_refl _) hb)
      have Xzs0_14 := hid (Xzs0_13.out.below (Nat.le_refl _) hb)
      have Xzs1_14 := hid (Xzs1_13.out.below (Nat.le_refl _) hb)
      have Yzs1_14 := hid (Yzs1_13.out.below (Nat.le_refl _) hb)
      have HB_14 := hid (bel_next HB_13.out HB_13.out.size hb)
      have ct00_14 := cell_below hb zt0_13 ct00_13
      have ct01_14 := cell_below hb zt0_13 ct01_13
      have cx00_14 := cell_below hb zx0_13 cx00_13
      have cx01_14 := cell_below hb zx0_13 cx01_13
      have zt0_14 := Nat.lt_of_lt_of_le zt0_13 hb.size
      have zx0_14 := Nat.lt_of_lt_of_le zx0_13 hb.size
      clear Rzs0_13 Rzs1_13 Xzs0_13 Xzs1_13 Yzs1_13 HB_13 ct00_13 ct01_13 cx00_13 cx01_13 zt0_13 zx0_13
      clear hb
      go_wp2_with fail
      clear Yzs1_14
      try go_wp2
      go_ret
      exact ⟨rfl, HB_14.out⟩
  · skip
    go_enter Try.func13, Try.ntmps13
    go_wp2_with fail
    generalize w.alloc (.cells #[.int .i64 c0, .slice a_zs0 zs0.length p_zs0] 44) = W0 at *
    go_wp2
    go_ret
    exact ⟨rfl, HB_1.out⟩

theorem own : ownKnob Try.prog.godebug = none := by kernel_rfl
theorem laidOut : laidOutB Try.prog = true := by kernel_rfl
set_option maxRecDepth 100000 in
theorem lifted (os : Os) (started : os.Started) (H : Type) (enc : TypeId × Value → H) :
    ReturnsInHanded {} Try.checked os 13 .any (Rows.fnExactEvalTermSpec.pre6 enc Try.prog Try.f13 Rows.fnExactEvalTermRow.domain false) (Rows.fnExactEvalTermSpec.post enc Try.prog Try.f13 false true false false) := by
  refine returnsInHanded_of_change (C := Try.checked) own started (by kernel_rfl) Try.func13
    (ChangeSpec.witness6 (enc := enc) (C := Try.checked) false ⟨#[], #[.agg #[.int .i64 0, .slice none 0 0], .slice none 0 0], []⟩ 8 (by kernel_rfl) (by kernel_rfl) (by kernel_rfl) (by kernel_rfl)) ?_
  intro W base args ds gs before hval0 hW hcnd _
  have hval : ∀ (j : Nat) t v, Try.f13.params[j]? = some t → args[j]? = some v → Value.okWide Try.prog W .any base t v := hval0
  have hW' := hW
  obtain ⟨p, q, hA0, hV, rfl, hfz, hnd⟩ := hW
  have hA : DataW.TrodAll enc Try.prog W 0 (fun _ => true) true Try.f13.params.toList args.toList ds p := hA0
  rw [Try.params13] at hA hval
  obtain ⟨v0, vs0, d0, ds0, p0, q0, hargs, rfl, rfl, h0, r0⟩ := trodAll_cons hA
  obtain ⟨v1, vs1, d1, ds1, p1, q1, hargs1, rfl, rfl, h1, r1⟩ := trodAll_cons r0
  obtain ⟨rfl, rfl, rfl⟩ := trodAll_nil r1
  subst hargs1
  obtain rfl : args = #[v0, v1] := by cases args; simp_all
  obtain ⟨rfl, rfl⟩ := trodVars_none hV
  have k0 := h0
  have lt0 : ∀ x ∈ p0, x.block < W.heap.size := by obtain ⟨m, hm⟩ := k0; exact DataW.trod_lt m _ _ _ hm
  obtain ⟨as0, cs0, rfl, s0⟩ := arg_st Try.underlying44 op_Term (hval 0 44 v0 rfl rfl) h0
  have k1 := h1
  have lt1 : ∀ x ∈ p1, x.block < W.heap.size := by obtain ⟨m, hm⟩ := k1; exact DataW.trod_lt m _ _ _ hm
  obtain ⟨a1, cap1, as1, rfl, s1⟩ := arg_sl Try.underlying34 op_ints (hval 1 34 v1 rfl rfl) h1
  clear hA0 hval0
  refine (walk as0 cs0 a1 cap1 as1 W s0 s1).mono fun e W' ⟨he, bel⟩ => ?_
  subst he
  exact ⟨_, rfl, _, _, _, [], _, [], hW', trodAll_mk1 (shut_bool Try.underlying4 _), (trodAll_cons_mk (Below.trod laidOut (by kernel_rfl) (of_decide_eq_true (by kernel_rfl)) k0 bel lt0) (trodAll_cons_mk (Below.trod laidOut (by kernel_rfl) (of_decide_eq_true (by kernel_rfl)) k1 bel lt1) trodAll_mk0)), rfl, bel.frame _, fun h => by cases h⟩

theorem over : Rows.fnExactEvalTermRow.holds Try.pinned (OpenSpec.ofChange Rows.fnExactEvalTermSpec) :=
  OpenClaim.holds_of_wide 13 Try.f13 rfl rfl rfl rfl rfl rfl rfl ⟨rfl, rfl, rfl, rfl, rfl⟩ rfl rfl rfl rfl rfl (by kernel_rfl) Try.func13 (by kernel_rfl)
    (of_decide_eq_true (by kernel_rfl)) (by unfold Func.isWrapper; first | (rw [if_pos (by decide +kernel)]; kernel_rfl) | (rw [if_neg (by decide +kernel)]; exact ⟨rfl, rfl⟩))
    (fun os started H enc _ => lifted os started H enc)

theorem proved : Rows.FnExactEvalTermSaid := over
#print axioms proved
end Go.Proofs.Ytgmhnnpigghbgaa.fnExactEvalTerm
