/- For every two terms the law FnExactSameTerm returns true: the program's SameTerm returns what the reference's returns, and leaves both as they were. No condition. -/
import Derived.Test.YtgmhnnpigghbgaaRows
import Derived.Test.YtgmhnnpigghbgaaOpn
import Derived.Test.YtgmhnnpigghbgaaHlp
import Derived.Test.YtgmhnnpigghbgaaL02
import Derived.Test.YtgmhnnpigghbgaaL02s
import Derived.Test.YtgmhnnpigghbgaaL02e
import Derived.Test.YtgmhnnpigghbgaaL02f
import Derived.Deep.RegionHeld3
import Derived.ProofKit
import Derived.OpenShut
import Derived.ChangeOld
namespace Go.Proofs.Ytgmhnnpigghbgaa.fnExactSameTerm
open Go.ChangeShapes Go.WideShapes Go.ChangeAt Go.RowKit
open Go.ChangeMaps (open_string shut_string)
set_option linter.unusedVariables false

set_option maxHeartbeats 4000000 in
set_option maxRecDepth 100000 in
theorem walk (d0 : _) (cs0 : Array Value) (d1 : _) (cs1 : Array Value) (w : World) (h0 : cTerm.rd (fun _ => True) w cs0.toList d0) (h1 : cTerm.rd (fun _ => True) w cs1.toList d1) : Calls Try.prog 11 #[.agg cs0, .agg cs1] w fun e w' => e = .returned (.bool true) ∧ Below w.heap.size w w' := by
  obtain ⟨a_zs0, p_zs0, rfl, hrzs0, _⟩ := term_arr h0
  obtain ⟨c0, zs0⟩ := d0
  simp only at hrzs0 ⊢
  clear h0
  obtain ⟨a_zs1, p_zs1, rfl, hrzs1, _⟩ := term_arr h1
  obtain ⟨c1, zs1⟩ := d1
  simp only at hrzs1 ⊢
  clear h1
  have hl_zs0 := hrzs0.len_le
  have Rzs0_0 := hid hrzs0
  clear hrzs0
  have hl_zs1 := hrzs1.len_le
  have Rzs1_0 := hid hrzs1
  clear hrzs1
  have HB_0 := hid (Below.refl w.heap.size w)
  obtain ⟨q0, hq⟩ : ∃ q, sameF (c0, zs0) (c1, zs1) = q := ⟨_, rfl⟩
  have HQ := hid hq
  clear hq
  have Rzs0_1 := hid (Rzs0_0.out.alloc (.cells #[.int .i64 c0, .slice a_zs0 zs0.length p_zs0] 44))
  have Rzs1_1 := hid (Rzs1_0.out.alloc (.cells #[.int .i64 c0, .slice a_zs0 zs0.length p_zs0] 44))
  have HB_1 := hid (HB_0.out.alloc HB_0.out.size (.cells #[.int .i64 c0, .slice a_zs0 zs0.length p_zs0] 44))
  have hbx : Below w.heap.size w (w.alloc (.cells #[.int .i64 c0, .slice a_zs0 zs0.length p_zs0] 44)) := (Below.refl _ _).alloc (Nat.le_refl _) _
  have ct00_1 : (w.alloc (.cells #[.int .i64 c0, .slice a_zs0 zs0.length p_zs0] 44)).cell? ⟨w.heap.size, 0, none⟩ = some (.int .i64 c0) := by rw [World.cell?_alloc_at _ _ _ _ (rfl)]; rfl
  have ct01_1 : (w.alloc (.cells #[.int .i64 c0, .slice a_zs0 zs0.length p_zs0] 44)).cell? ⟨w.heap.size, 1, none⟩ = some (.slice a_zs0 zs0.length p_zs0) := by rw [World.cell?_alloc_at _ _ _ _ (rfl)]; rfl
  have zt0_1 : w.heap.size < (w.alloc (.cells #[.int .i64 c0, .slice a_zs0 zs0.length p_zs0] 44)).heap.size := by simp
  clear hbx Rzs0_0 Rzs1_0 HB_0
  have Rzs0_2 := hid (Rzs0_1.out.alloc (.cells #[.int .i64 c1, .slice a_zs1 zs1.length p_zs1] 44))
  have Rzs1_2 := hid (Rzs1_1.out.alloc (.cells #[.int .i64 c1, .slice a_zs1 zs1.length p_zs1] 44))
  have HB_2 := hid (HB_1.out.alloc HB_1.out.size (.cells #[.int .i64 c1, .slice a_zs1 zs1.length p_zs1] 44))
  have hbx : Below (w.alloc (.cells #[.int .i64 c0, .slice a_zs0 zs0.length p_zs0] 44)).heap.size (w.alloc (.cells #[.int .i64 c0, .slice a_zs0 zs0.length p_zs0] 44)) ((w.alloc (.cells #[.int .i64 c0, .slice a_zs0 zs0.length p_zs0] 44)).alloc (.cells #[.int .i64 c1, .slice a_zs1 zs1.length p_zs1] 44)) := (Below.refl _ _).alloc (Nat.le_refl _) _
  have ct00_2 := cell_below hbx zt0_1 ct00_1
  have ct01_2 := cell_below hbx zt0_1 ct01_1
  have zt0_2 := Nat.lt_of_lt_of_le zt0_1 hbx.size
  have ct10_2 : ((w.alloc (.cells #[.int .i64 c0, .slice a_zs0 zs0.length p_zs0] 44)).alloc (.cells #[.int .i64 c1, .slice a_zs1 zs1.length p_zs1] 44)).cell? ⟨w.heap.size + 1, 0, none⟩ = some (.int .i64 c1) := by rw [World.cell?_alloc_at _ _ _ _ (by simp)]; rfl
  have ct11_2 : ((w.alloc (.cells #[.int .i64 c0, .slice a_zs0 zs0.length p_zs0] 44)).alloc (.cells #[.int .i64 c1, .slice a_zs1 zs1.length p_zs1] 44)).cell? ⟨w.heap.size + 1, 1, none⟩ = some (.slice a_zs1 zs1.length p_zs1) := by rw [World.cell?_alloc_at _ _ _ _ (by simp)]; rfl
  have zt1_2 : w.heap.size + 1 < ((w.alloc (.cells #[.int .i64 c0, .slice a_zs0 zs0.length p_zs0] 44)).alloc (.cells #[.int .i64 c1, .slice a_zs1 zs1.length p_zs1] 44)).heap.size := by simp
  clear hbx Rzs0_1 Rzs1_1 HB_1 ct00_1 ct01_1 zt0_1
  obtain ⟨r0, hr⟩ : ∃ r, szR 1048576 (zs0.length : Nat) = r := ⟨_, rfl⟩
  have HR0 := hid hr
  clear hr
  by_cases hneg0 : r0 < 0
  · skip
    go_enter Try.func11, Try.ntmps11
    go_wp2_with fail
    generalize (w.alloc (.cells #[.int .i64 c0, .slice a_zs0 zs0.length p_zs0] 44)).alloc (.cells #[.int .i64 c1, .slice a_zs1 zs1.length p_zs1] 44) = W0 at *
    refine (c_szTerm _ _ _ _ _ _ hl_zs0 (by omega) (by omega)).mono ?_
    rintro e w_3 ⟨rfl, hb⟩
    rw [HR0.out]
    have Rzs0_3 := hid (Rzs0_2.out.below (Nat.le_refl _) hb)
    have Rzs1_3 := hid (Rzs1_2.out.below (Nat.le_refl _) hb)
    have HB_3 := hid (bel_next HB_2.out HB_2.out.size hb)
    have ct00_3 := cell_below hb zt0_2 ct00_2
    have ct01_3 := cell_below hb zt0_2 ct01_2
    have ct10_3 := cell_below hb zt1_2 ct10_2
    have ct11_3 := cell_below hb zt1_2 ct11_2
    have zt0_3 := Nat.lt_of_lt_of_le zt0_2 hb.size
    have zt1_3 := Nat.lt_of_lt_of_le zt1_2 hb.size
    clear Rzs0_2 Rzs1_2 HB_2 ct00_2 ct01_2 ct10_2 ct11_2 zt0_2 zt1_2
    clear hb
    go_wp2_with fail
    go_wp2
    go_ret
    exact ⟨rfl, HB_3.out⟩
  · skip
    have hle := (szR_ge (left := 1048576) (n := zs0.length) (by rw [HR0.out]; omega))
    rw [HR0.out] at hle
    obtain ⟨hle, hle'⟩ := hle
    have hn0 : zs0.length ≤ 1048576 := by omega
    have hle0 : r0 ≤ 1048576 := by omega
    clear hle hle'
    obtain ⟨r1, hr⟩ : ∃ r, szR r0 (zs1.length : Nat) = r := ⟨_, rfl⟩
    have HR1 := hid hr
    clear hr
    by_cases hneg1 : r1 < 0
    · skip
      go_enter Try.func11, Try.ntmps11
      go_wp2_with fail
      generalize (w.alloc (.cells #[.int .i64 c0, .slice a_zs0 zs0.length p_zs0] 44)).alloc (.cells #[.int .i64 c1, .slice a_zs1 zs1.length p_zs1] 44) = W0 at *
      refine (c_szTerm _ _ _ _ _ _ hl_zs0 (by omega) (by omega)).mono ?_
      rintro e w_3 ⟨rfl, hb⟩
      rw [HR0.out]
      have Rzs0_3 := hid (Rzs0_2.out.below (Nat.le_refl _) hb)
      have Rzs1_3 := hid (Rzs1_2.out.below (Nat.le_refl _) hb)
      have HB_3 := hid (bel_next HB_2.out HB_2.out.size hb)
      have ct00_3 := cell_below hb zt0_2 ct00_2
      have ct01_3 := cell_below hb zt0_2 ct01_2
      have ct10_3 := cell_below hb zt1_2 ct10_2
      have ct11_3 := cell_below hb zt1_2 ct11_2
      have zt0_3 := Nat.lt_of_lt_of_le zt0_2 hb.size
      have zt1_3 := Nat.lt_of_lt_of_le zt1_2 hb.size
      clear Rzs0_2 Rzs1_2 HB_2 ct00_2 ct01_2 ct10_2 ct11_2 zt0_2 zt1_2
      clear hb
      go_wp2_with fail
      refine (c_szTerm _ _ _ _ _ _ hl_zs1 (by omega) (by omega)).mono ?_
      rintro e w_4 ⟨rfl, hb⟩
      rw [HR1.out]
      have Rzs0_4 := hid (Rzs0_3.out.below (Nat.le_refl _) hb)
      have Rzs1_4 := hid (Rzs1_3.out.below (Nat.le_refl _) hb)
      have HB_4 := hid (bel_next HB_3.out HB_3.out.size hb)
      have ct00_4 := cell_below hb zt0_3 ct00_3
      have ct01_4 := cell_below hb zt0_3 ct01_3
      have ct10_4 := cell_below hb zt1_3 ct10_3
      have ct11_4 := cell_below hb zt1_3 ct11_3
      have zt0_4 := Nat.lt_of_lt_of_le zt0_3 hb.size
      have zt1_4 := Nat.lt_of_lt_of_le zt1_3 hb.size
      clear Rzs0_3 Rzs1_3 HB_3 ct00_3 ct01_3 ct10_3 ct11_3 zt0_3 zt1_3
      clear hb
      go_wp2_with fail
      go_wp2
      go_ret
      exact ⟨rfl, HB_4.out⟩
    · skip
      have hle := (szR_ge (left := r0) (n := zs1.length) (by rw [HR1.out]; omega))
      rw [HR1.out] at hle
      obtain ⟨hle, hle'⟩ := hle
      have hn1 : zs1.length ≤ 1048576 := by omega
      have hle1 : r1 ≤ 1048576 := by omega
      clear hle hle'
      go_enter Try.func11, Try.ntmps11
      go_wp2_with fail
      generalize (w.alloc (.cells #[.int .i64 c0, .slice a_zs0 zs0.length p_zs0] 44)).alloc (.cells #[.int .i64 c1, .slice a_zs1 zs1.length p_zs1] 44) = W0 at *
      refine (c_szTerm _ _ _ _ _ _ hl_zs0 (by omega) (by omega)).mono ?_
      rintro e w_3 ⟨rfl, hb⟩
      rw [HR0.out]
      have Rzs0_3 := hid (Rzs0_2.out.below (Nat.le_refl _) hb)
      have Rzs1_3 := hid (Rzs1_2.out.below (Nat.le_refl _) hb)
      have HB_3 := hid (bel_next HB_2.out HB_2.out.size hb)
      have ct00_3 := cell_below hb zt0_2 ct00_2
      have ct01_3 := cell_below hb zt0_2 ct01_2
      have ct10_3 := cell_below hb zt1_2 ct10_2
      have ct11_3 := cell_below hb zt1_2 ct11_2
      have zt0_3 := Nat.lt_of_lt_of_le zt0_2 hb.size
      have zt1_3 := Nat.lt_of_lt_of_le zt1_2 hb.size
      clear Rzs0_2 Rzs1_2 HB_2 ct00_2 ct01_2 ct10_2 ct11_2 zt0_2 zt1_2
      clear hb
      go_wp2_with fail
      refine (c_szTerm _ _ _ _ _ _ hl_zs1 (by omega) (by omega)).mono ?_
      rintro e w_4 ⟨rfl, hb⟩
      rw [HR1.out]
      have Rzs0_4 := hid (Rzs0_3.out.below (Nat.le_refl _) hb)
      have Rzs1_4 := hid (Rzs1_3.out.below (Nat.le_refl _) hb)
      have HB_4 := hid (bel_next HB_3.out HB_3.out.size hb)
      have ct00_4 := cell_below hb zt0_3 ct00_3
      have ct01_4 := cell_below hb zt0_3 ct01_3
      have ct10_4 := cell_below hb zt1_3 ct10_3
      have ct11_4 := cell_below hb zt1_3 ct11_3
      have zt0_4 := Nat.lt_of_lt_of_le zt0_3 hb.size
      have zt1_4 := Nat.lt_of_lt_of_le zt1_3 hb.size
      clear Rzs0_3 Rzs1_3 HB_3 ct00_3 ct01_3 ct10_3 ct11_3 zt0_3 zt1_3
      clear hb
      go_wp2_with fail
      have Rzs0_5 := hid Rzs0_4.out.drew
      have Rzs1_5 := hid Rzs1_4.out.drew
      have HB_5 := hid HB_4.out.drew
      go_region_held3 (fun w' => w'.cell? ⟨w.heap.size, 0, none⟩ = some (.int .i64 c0) ∧ w'.cell? ⟨w.heap.size, 1, none⟩ = some (.slice a_zs0 zs0.length p_zs0) ∧ w'.cell? ⟨w.heap.size + 1, 0, none⟩ = some (.int .i64 c1) ∧ w'.cell? ⟨w.heap.size + 1, 1, none⟩ = some (.slice a_zs1 zs1.length p_zs1)) (first | exact ⟨ct00_4, ct01_4, ct10_4, ct11_4⟩ | exact kk1 | exact kk2 | exact kk3) (first | (have hkk := kk2; clear hkk; go_at_call 40; refine (c_sSameTerm _ _ _ _ _ _ _ _ _ Vzs0_7.out Vzs1_7.out).mono ?_; rintro e w_8 ⟨rfl, hb3⟩; rw [HQ.out]; have kk3 := And.intro (cell_below hb3 zt0_7 (kk2.1)) (And.intro (cell_below hb3 zt0_7 (kk2.2.1)) (And.intro (cell_below hb3 zt1_7 (kk2.2.2.1)) (cell_below hb3 zt1_7 (kk2.2.2.2)))); have Rzs0_8 := hid (Rzs0_7.out.below (Nat.le_refl _) hb3); have Rzs1_8 := hid (Rzs1_7.out.below (Nat.le_refl _) hb3); have Vzs0_8 := hid (Vzs0_7.out.below (Nat.le_refl _) hb3); have Vzs1_8 := hid (Vzs1_7.out.below (Nat.le_refl _) hb3); have HB_8 := hid (bel_next HB_7.out HB_7.out.size hb3); have zt0_8 := Nat.lt_of_lt_of_le zt0_7 hb3.size; have zt1_8 := Nat.lt_of_lt_of_le zt1_7 hb3.size) | (have hkk := kk1; clear hkk; go_at_call 29; refine (c_toTerm _ _ _ _ _ Rzs1_6.out hn1).mono ?_; rintro e w_7 ⟨a_zs1V, p_zs1V, rfl, hs_zs, hb2⟩; simp only at hs_zs; have kk2 := And.intro (cell_below hb2 zt0_6 (kk1.1)) (And.intro (cell_below hb2 zt0_6 (kk1.2.1)) (And.intro (cell_below hb2 zt1_6 (kk1.2.2.1)) (cell_below hb2 zt1_6 (kk1.2.2.2)))); have Rzs0_7 := hid (Rzs0_6.out.below (Nat.le_refl _) hb2); have Rzs1_7 := hid (Rzs1_6.out.below (Nat.le_refl _) hb2); have Vzs0_7 := hid (Vzs0_6.out.below (Nat.le_refl _) hb2); have Vzs1_7 := hid hs_zs; have HB_7 := hid (bel_next HB_6.out HB_6.out.size hb2); have zt0_7 := Nat.lt_of_lt_of_le zt0_6 hb2.size; have zt1_7 := Nat.lt_of_lt_of_le zt1_6 hb2.size; clear hs_zs) | (go_at_call 29; refine (c_toTerm _ _ _ _ _ Rzs0_5.out hn0).mono ?_; rintro e w_6 ⟨a_zs0V, p_zs0V, rfl, hs_zs, hb1⟩; simp only at hs_zs; have kk1 := And.intro (cell_below hb1 zt0_4 ct00_4) (And.intro (cell_below hb1 zt0_4 ct01_4) (And.intro (cell_below hb1 zt1_4 ct10_4) (cell_below hb1 zt1_4 ct11_4))); have Rzs0_6 := hid (Rzs0_5.out.below (Nat.le_refl _) hb1); have Rzs1_6 := hid (Rzs1_5.out.below (Nat.le_refl _) hb1); have Vzs0_6 := hid hs_zs; have HB_6 := hid (bel_next HB_5.out HB_5.out.size hb1); have zt0_6 := Nat.lt_of_lt_of_le zt0_4 hb1.size; have zt1_6 := Nat.lt_of_lt_of_le zt1_4 hb1.size; clear hs_zs))
      have ct00_8 := kk3.1
      have ct01_8 := kk3.2.1
      have ct10_8 := kk3.2.2.1
      have ct11_8 := kk3.2.2.2
      clear kk1 hb1 kk2 hb2 kk3 hb3 ct00_4 ct01_4 ct10_4 ct11_4
      go_wp2_with fail
      clear Vzs0_8
      clear Vzs1_8
      refine (c_toTerm _ _ _ _ _ Rzs0_8.out hn0).mono ?_
      rintro e w_9 ⟨a_zs0X, p_zs0X, rfl, hs_zs, hb⟩
      simp only at hs_zs
      have Rzs0_9 := hid (Rzs0_8.out.below (Nat.le_refl _) hb)
      have Rzs1_9 := hid (Rzs1_8.out.below (Nat.le_refl _) hb)
      have Xzs0_9 := hid hs_zs
      have HB_9 := hid (bel_next HB_8.out HB_8.out.size hb)
      have ct00_9 := cell_below hb zt0_8 ct00_8
      have ct01_9 := cell_below hb zt0_8 ct01_8
      have ct10_9 := cell_below hb zt1_8 ct10_8
      have ct11_9 := cell_below hb zt1_8 ct11_8
      have zt0_9 := Nat.lt_of_lt_of_le zt0_8 hb.size
      have zt1_9 := Nat.lt_of_lt_of_le zt1_8 hb.size
      clear Rzs0_8 Rzs1_8 hs_zs HB_8 ct00_8 ct01_8 ct10_8 ct11_8 zt0_8 zt1_8
      clear hb
      have Rzs0_10 := hid (Rzs0_9.out.alloc (.cells #[.int .i64 c0, .slice a_zs0X zs0.length p_zs0X] 47))
      have Rzs1_10 := hid (Rzs1_9.out.alloc (.cells #[.int .i64 c0, .slice a_zs0X zs0.length p_zs0X] 47))
      have Xzs0_10 := hid (Xzs0_9.out.alloc (.cells #[.int .i64 c0, .slice a_zs0X zs0.length p_zs0X] 47))
      have HB_10 := hid (HB_9.out.alloc HB_9.out.size (.cells #[.int .i64 c0, .slice a_zs0X zs0.length p_zs0X] 47))
      have hbx : Below w_9.heap.size w_9 (w_9.alloc (.cells #[.int .i64 c0, .slice a_zs0X zs0.length p_zs0X] 47)) := (Below.refl _ _).alloc (Nat.le_refl _) _
      have ct00_10 := cell_below hbx zt0_9 ct00_9
      have ct01_10 := cell_below hbx zt0_9 ct01_9
      have ct10_10 := cell_below hbx zt1_9 ct10_9
      have ct11_10 := cell_below hbx zt1_9 ct11_9
      have zt0_10 := Nat.lt_of_lt_of_le zt0_9 hbx.size
      have zt1_10 := Nat.lt_of_lt_of_le zt1_9 hbx.size
      have cx00_10 : (w_9.alloc (.cells #[.int .i64 c0, .slice a_zs0X zs0.length p_zs0X] 47)).cell? ⟨w_9.heap.size, 0, none⟩ = some (.int .i64 c0) := by rw [World.cell?_alloc_at _ _ _ _ (rfl)]; rfl
      have cx01_10 : (w_9.alloc (.cells #[.int .i64 c0, .slice a_zs0X zs0.length p_zs0X] 47)).cell? ⟨w_9.heap.size, 1, none⟩ = some (.slice a_zs0X zs0.length p_zs0X) := by rw [World.cell?_alloc_at _ _ _ _ (rfl)]; rfl
      have zx0_10 : w_9.heap.size < (w_9.alloc (.cells #[.int .i64 c0, .slice a_zs0X zs0.length p_zs0X] 47)).heap.size := by simp
      clear hbx Rzs0_9 Rzs1_9 Xzs0_9 HB_9 ct00_9 ct01_9 ct10_9 ct11_9 zt0_9 zt1_9
      go_wp2_with fail
      generalize w_9.alloc (.cells #[.int .i64 c0, .slice a_zs0X zs0.length p_zs0X] 47) = w_10 at *
      refine (c_toTerm _ _ _ _ _ Rzs1_10.out hn1).mono ?_
      rintro e w_11 ⟨a_zs1X, p_zs1X, rfl, hs_zs, hb⟩
      simp only at hs_zs
      have Rzs0_11 := hid (Rzs0_10.out.below (Nat.le_refl _) hb)
      have Rzs1_11 := hid (Rzs1_10.out.below (Nat.le_refl _) hb)
      have Xzs0_11 := hid (Xzs0_10.out.below (Nat.le_refl _) hb)
      have Xzs1_11 := hid hs_zs
      have HB_11 := hid (bel_next HB_10.out HB_10.out.size hb)
      have ct00_11 := cell_below hb zt0_10 ct00_10
      have ct01_11 := cell_below hb zt0_10 ct01_10
      have ct10_11 := cell_below hb zt1_10 ct10_10
      have ct11_11 := cell_below hb zt1_10 ct11_10
      have cx00_11 := cell_below hb zx0_10 cx00_10
      have cx01_11 := cell_below hb zx0_10 cx01_10
      have zt0_11 := Nat.lt_of_lt_of_le zt0_10 hb.size
      have zt1_11 := Nat.lt_of_lt_of_le zt1_10 hb.size
      have zx0_11 := Nat.lt_of_lt_of_le zx0_10 hb.size
      clear Rzs0_10 Rzs1_10 Xzs0_10 hs_zs HB_10 ct00_10 ct01_10 ct10_10 ct11_10 cx00_10 cx01_10 zt0_10 zt1_10 zx0_10
      clear hb
      have Rzs0_12 := hid (Rzs0_11.out.alloc (.cells #[.int .i64 c1, .slice a_zs1X zs1.length p_zs1X] 47))
      have Rzs1_12 := hid (Rzs1_11.out.alloc (.cells #[.int .i64 c1, .slice a_zs1X zs1.length p_zs1X] 47))
      have Xzs0_12 := hid (Xzs0_11.out.alloc (.cells #[.int .i64 c1, .slice a_zs1X zs1.length p_zs1X] 47))
      have Xzs1_12 := hid (Xzs1_11.out.alloc (.cells #[.int .i64 c1, .slice a_zs1X zs1.length p_zs1X] 47))
      have HB_12 := hid (HB_11.out.alloc HB_11.out.size (.cells #[.int .i64 c1, .slice a_zs1X zs1.length p_zs1X] 47))
      have hbx : Below w_11.heap.size w_11 (w_11.alloc (.cells #[.int .i64 c1, .slice a_zs1X zs1.length p_zs1X] 47)) := (Below.refl _ _).alloc (Nat.le_refl _) _
      have ct00_12 := cell_below hbx zt0_11 ct00_11
      have ct01_12 := cell_below hbx zt0_11 ct01_11
      have ct10_12 := cell_below hbx zt1_11 ct10_11
      have ct11_12 := cell_below hbx zt1_11 ct11_11
      have cx00_12 := cell_below hbx zx0_11 cx00_11
      have cx01_12 := cell_below hbx zx0_11 cx01_11
      have zt0_12 := Nat.lt_of_lt_of_le zt0_11 hbx.size
      have zt1_12 := Nat.lt_of_lt_of_le zt1_11 hbx.size
      have zx0_12 := Nat.lt_of_lt_of_le zx0_11 hbx.size
      have cx10_12 : (w_11.alloc (.cells #[.int .i64 c1, .slice a_zs1X zs1.length p_zs1X] 47)).cell? ⟨w_11.heap.size, 0, none⟩ = some (.int .i64 c1) := by rw [World.cell?_alloc_at _ _ _ _ (rfl)]; rfl
      have cx11_12 : (w_11.alloc (.cells #[.int .i64 c1, .slice a_zs1X zs1.length p_zs1X] 47)).cell? ⟨w_11.heap.size, 1, none⟩ = some (.slice a_zs1X zs1.length p_zs1X) := by rw [World.cell?_alloc_at _ _ _ _ (rfl)]; rfl
      have zx1_12 : w_11.heap.size < (w_11.alloc (.cells #[.int .i64 c1, .slice a_zs1X zs1.length p_zs1X] 47)).heap.size := by simp
      clear hbx Rzs0_11 Rzs1_11 Xzs0_11 Xzs1_11 HB_11 ct00_11 ct01_11 ct10_11 ct11_11 cx00_11 cx01_11 zt0_11 zt1_11 zx0_11
      go_wp2_with fail
      generalize w_11.alloc (.cells #[.int .i64 c1, .slice a_zs1X zs1.length p_zs1X] 47) = w_12 at *
      refine (c_SameTerm _ _ _ _ _ _ _ _ _ Xzs0_12.out Xzs1_12.out).mono ?_
      rintro e w_13 ⟨rfl, hb⟩
      rw [HQ.out]
      have Rzs0_13 := hid (Rzs0_12.out.below (Nat.le_refl _) hb)
      have Rzs1_13 := hid (Rzs1_12.out.below (Nat.le_refl _) hb)
      have Xzs0_13 := hid (Xzs0_12.out.below (Nat.le_refl _) hb)
      have Xzs1_13 := hid (Xzs1_12.out.below (Nat.le_refl _) hb)
      have HB_13 := hid (bel_next HB_12.out HB_12.out.size hb)
      have ct00_13 := cell_below hb zt0_12 ct00_12
      have ct01_13 := cell_below hb zt0_12 ct01_12
      have ct10_13 := cell_below hb zt1_12 ct10_12
      have ct11_13 := cell_below hb zt1_12 ct11_12
      have cx00_13 := cell_below hb zx0_12 cx00_12
      have cx01_13 := cell_below hb zx0_12 cx01_12
      have cx10_13 := cell_below hb zx1_12 cx10_12
      have cx11_13 := cell_below hb zx1_12 cx11_12
      have zt0_13 := Nat.lt_of_lt_of_le zt0_12 hb.size
      have zt1_13 := Nat.lt_of_lt_of_le zt1_12 hb.size
      have zx0_13 := Nat.lt_of_lt_of_le zx0_12 hb.size
      have zx1_13 := Nat.lt_of_lt_of_le zx1_12 hb.size
      clear Rzs0_12 Rzs1_12 Xzs0_12 Xzs1_12 HB_12 ct00_12 ct01_12 ct10_12 ct11_12 cx00_12 cx01_12 cx10_12 cx11_12 zt0_12 zt1_12 zx0_12 zx1_12
      clear hb
      have hne0 : (q0 != q0) = false := by simp
      go_wp2_with fail
      have Rzs0_14 := hid Rzs0_13.out.drew
      have Rzs1_14 := hid Rzs1_13.out.drew
      have Xzs0_14 := hid Xzs0_13.out.drew
      have Xzs1_14 := hid Xzs1_13.out.drew
      have HB_14 := hid HB_13.out.drew
      go_region_held3 (fun w' => w'.cell? ⟨w.heap.size, 0, none⟩ = some (.int .i64 c0) ∧ w'.cell? ⟨w.heap.size, 1, none⟩ = some (.slice a_zs0 zs0.length p_zs0) ∧ w'.cell? ⟨w_9.heap.size, 0, none⟩ = some (.int .i64 c0) ∧ w'.cell? ⟨w_9.heap.size, 1, none⟩ = some (.slice a_zs0X zs0.length p_zs0X)) (first | exact ⟨ct00_13, ct01_13, cx00_13, cx01_13⟩ | exact kk1 | exact kk2) (first | (go_at_call 29; refine (c_toTerm _ _ _ _ _ Rzs0_14.out hn0).mono ?_; rintro e w_15 ⟨a_zs0Y, p_zs0Y, rfl, hs_zs, hb1⟩; simp only at hs_zs; have kk1 := And.intro (cell_below hb1 zt0_13 ct00_13) (And.intro (cell_below hb1 zt0_13 ct01_13) (And.intro (cell_below hb1 zx0_13 cx00_13) (cell_below hb1 zx0_13 cx01_13))); have Yzs0_15 := hid hs_zs; have Rzs0_15 := hid (Rzs0_14.out.below (Nat.le_refl _) hb1); have Rzs1_15 := hid (Rzs1_14.out.below (Nat.le_refl _) hb1); have Xzs0_15 := hid (Xzs0_14.out.below (Nat.le_refl _) hb1); have Xzs1_15 := hid (Xzs1_14.out.below (Nat.le_refl _) hb1); have HB_15 := hid (bel_next HB_14.out HB_14.out.size hb1); have ct10_15 := cell_below hb1 zt1_13 ct10_13; have ct11_15 := cell_below hb1 zt1_13 ct11_13; have cx10_15 := cell_below hb1 zx1_13 cx10_13; have cx11_15 := cell_below hb1 zx1_13 cx11_13; have zt0_15 := Nat.lt_of_lt_of_le zt0_13 hb1.size; have zt1_15 := Nat.lt_of_lt_of_le zt1_13 hb1.size; have zx0_15 := Nat.lt_of_lt_of_le zx0_13 hb1.size; have zx1_15 := Nat.lt_of_lt_of_le zx1_13 hb1.size; clear hs_zs) | (go_at_call 31; refine (c_eqTerm _ _ _ _ _ _ _ _ _ Xzs0_15.out Yzs0_15.out).mono ?_; rintro e w_16 ⟨rfl, hb2⟩; rw [show decide (((c0, zs0) : Term) = ((c0, zs0) : Term)) = true from (by simp)]; have kk2 := And.intro (cell_below hb2 zt0_15 kk1.1) (And.intro (cell_below hb2 zt0_15 kk1.2.1) (And.intro (cell_below hb2 zx0_15 kk1.2.2.1) (cell_below hb2 zx0_15 kk1.2.2.2))); have Rzs0_16 := hid (Rzs0_15.out.below (Nat.le_refl _) hb2); have Rzs1_16 := hid (Rzs1_15.out.below (Nat.le_refl _) hb2); have Xzs0_16 := hid (Xzs0_15.out.below (Nat.le_refl _) hb2); have Xzs1_16 := hid (Xzs1_15.out.below (Nat.le_refl _) hb2); have HB_16 := hid (bel_next HB_15.out HB_15.out.size hb2); have ct10_16 := cell_below hb2 zt1_15 ct10_15; have ct11_16 := cell_below hb2 zt1_15 ct11_15; have cx10_16 := cell_below hb2 zx1_15 cx10_15; have cx11_16 := cell_below hb2 zx1_15 cx11_15; have zt0_16 := Nat.lt_of_lt_of_le zt0_15 hb2.size; have zt1_16 := Nat.lt_of_lt_of_le zt1_15 hb2.size; have zx0_16 := Nat.lt_of_lt_of_le zx0_15 hb2.size; have zx1_16 := Nat.lt_of_lt_of_le zx1_15 hb2.size))
      have ct00_16 := kk2.1
      have ct01_16 := kk2.2.1
      have cx00_16 := kk2.2.2.1
      have cx01_16 := kk2.2.2.2
      clear kk1 kk2 hb1 hb2 ct00_13 ct01_13 ct10_13 ct11_13 cx00_13 cx01_13 cx10_13 cx11_13
      go_wp2_with fail
      have Rzs0_17 := hid Rzs0_16.out.drew
      have Rzs1_17 := hid Rzs1_16.out.drew
      have Xzs0_17 := hid Xzs0_16.out.drew
      have Xzs1_17 := hid Xzs1_16.out.drew
      have HB_17 := hid HB_16.out.drew
      go_region_held3 (fun w' => w'.cell? ⟨w.heap.size + 1, 0, none⟩ = some (.int .i64 c1) ∧ w'.cell? ⟨w.heap.size + 1, 1, none⟩ = some (.slice a_zs1 zs1.length p_zs1) ∧ w'.cell? ⟨w_11.heap.size, 0, none⟩ = some (.int .i64 c1) ∧ w'.cell? ⟨w_11.heap.size, 1, none⟩ = some (.slice a_zs1X zs1.length p_zs1X)) (first | exact ⟨ct10_16, ct11_16, cx10_16, cx11_16⟩ | exact kk1 | exact kk2) (first | (go_at_call 29; refine (c_toTerm _ _ _ _ _ Rzs1_17.out hn1).mono ?_; rintro e w_18 ⟨a_zs1Y, p_zs1Y, rfl, hs_zs, hb1⟩; simp only at hs_zs; have kk1 := And.intro (cell_below hb1 zt1_16 ct10_16) (And.intro (cell_below hb1 zt1_16 ct11_16) (And.intro (cell_below hb1 zx1_16 cx10_16) (cell_below hb1 zx1_16 cx11_16))); have Yzs1_18 := hid hs_zs; have Rzs0_18 := hid (Rzs0_17.out.below (Nat.le_refl _) hb1); have Rzs1_18 := hid (Rzs1_17.out.below (Nat.le_refl _) hb1); have Xzs0_18 := hid (Xzs0_17.out.below (Nat.le_refl _) hb1); have Xzs1_18 := hid (Xzs1_17.out.below (Nat.le_refl _) hb1); have HB_18 := hid (bel_next HB_17.out HB_17.out.size hb1); have ct00_18 := cell_below hb1 zt0_16 ct00_16; have ct01_18 := cell_below hb1 zt0_16 ct01_16; have cx00_18 := cell_below hb1 zx0_16 cx00_16; have cx01_18 := cell_below hb1 zx0_16 cx01_16; have zt0_18 := Nat.lt_of_lt_of_le zt0_16 hb1.size; have zt1_18 := Nat.lt_of_lt_of_le zt1_16 hb1.size; have zx0_18 := Nat.lt_of_lt_of_le zx0_16 hb1.size; have zx1_18 := Nat.lt_of_lt_of_le zx1_16 hb1.size; clear hs_zs) | (go_at_call 31; refine (c_eqTerm _ _ _ _ _ _ _ _ _ Xzs1_18.out Yzs1_18.out).mono ?_; rintro e w_19 ⟨rfl, hb2⟩; rw [show decide (((c1, zs1) : Term) = ((c1, zs1) : Term)) = true from (by simp)]; have kk2 := And.intro (cell_below hb2 zt1_18 kk1.1) (And.intro (cell_below hb2 zt1_18 kk1.2.1) (And.intro (cell_below hb2 zx1_18 kk1.2.2.1) (cell_below hb2 zx1_18 kk1.2.2.2))); have Rzs0_19 := hid (Rzs0_18.out.below (Nat.le_refl _) hb2); have Rzs1_19 := hid (Rzs1_18.out.below (Nat.le_refl _) hb2); have Xzs0_19 := hid (Xzs0_18.out.below (Nat.le_refl _) hb2); have Xzs1_19 := hid (Xzs1_18.out.below (Nat.le_refl _) hb2); have HB_19 := hid (bel_next HB_18.out HB_18.out.size hb2); have ct00_19 := cell_below hb2 zt0_18 ct00_18; have ct01_19 := cell_below hb2 zt0_18 ct01_18; have cx00_19 := cell_below hb2 zx0_18 cx00_18; have cx01_19 := cell_below hb2 zx0_18 cx01_18; have zt0_19 := Nat.lt_of_lt_of_le zt0_18 hb2.size; have zt1_19 := Nat.lt_of_lt_of_le zt1_18 hb2.size; have zx0_19 := Nat.lt_of_lt_of_le zx0_18 hb2.size; have zx1_19 := Nat.lt_of_lt_of_le zx1_18 hb2.size))
      have ct10_19 := kk2.1
      have ct11_19 := kk2.2.1
      have cx10_19 := kk2.2.2.1
      have cx11_19 := kk2.2.2.2
      clear kk1 kk2 hb1 hb2 ct00_16 ct01_16 ct10_16 ct11_16 cx00_16 cx01_16 cx10_16 cx11_16
      go_wp2_with fail
      try go_wp2
      go_ret
      exact ⟨rfl, HB_19.out⟩

theorem own : ownKnob Try.prog.godebug = none := by kernel_rfl
theorem laidOut : laidOutB Try.prog = true := by kernel_rfl
set_option maxRecDepth 100000 in
theorem lifted (os : Os) (started : os.Started) (H : Type) (enc : TypeId × Value → H) :
    ReturnsInHanded {} Try.checked os 11 .any (Rows.fnExactSameTermSpec.pre6 enc Try.prog Try.f11 Rows.fnExactSameTermRow.domain false) (Rows.fnExactSameTermSpec.post enc Try.prog Try.f11 false true false false) := by
  refine returnsInHanded_of_change (C := Try.checked) own started (by kernel_rfl) Try.func11
    (ChangeSpec.witness6 (enc := enc) (C := Try.checked) false ⟨#[], #[.agg #[.int .i64 0, .slice none 0 0], .agg #[.int .i64 0, .slice none 0 0]], []⟩ 8 (by kernel_rfl) (by kernel_rfl) (by kernel_rfl) (by kernel_rfl)) ?_
  intro W base args ds gs before hval0 hW hcnd _
  have hval : ∀ (j : Nat) t v, Try.f11.params[j]? = some t → args[j]? = some v → Value.okWide Try.prog W .any base t v := hval0
  have hW' := hW
  obtain ⟨p, q, hA0, hV, rfl, hfz, hnd⟩ := hW
  have hA : DataW.TrodAll enc Try.prog W 0 (fun _ => true) true Try.f11.params.toList args.toList ds p := hA0
  rw [Try.params11] at hA hval
  obtain ⟨v0, vs0, d0, ds0, p0, q0, hargs, rfl, rfl, h0, r0⟩ := trodAll_cons hA
  obtain ⟨v1, vs1, d1, ds1, p1, q1, hargs1, rfl, rfl, h1, r1⟩ := trodAll_cons r0
  obtain ⟨rfl, rfl, rfl⟩ := trodAll_nil r1
  subst hargs1
  obtain rfl : args = #[v0, v1] := by cases args; simp_all
  obtain ⟨rfl, rfl⟩ := trodVars_none hV
  have k0 := h0
  have lt0 : ∀ x ∈ p0, x.block < W.heap.size := by obtain ⟨m, hm⟩ := k0; exact DataW.trod_lt m _ _ _ hm
  obtain ⟨as0, cs0, rfl, s0⟩ := arg_st Try.underlying44 op_Term (hval 0 44 v0 rfl rfl) h0
  have k1 := h1
  have lt1 : ∀ x ∈ p1, x.block < W.heap.size := by obtain ⟨m, hm⟩ := k1; exact DataW.trod_lt m _ _ _ hm
  obtain ⟨as1, cs1, rfl, s1⟩ := arg_st Try.underlying44 op_Term (hval 1 44 v1 rfl rfl) h1
  clear hA0 hval0
  refine (walk as0 cs0 as1 cs1 W s0 s1).mono fun e W' ⟨he, bel⟩ => ?_
  subst he
  exact ⟨_, rfl, _, _, _, [], _, [], hW', trodAll_mk1 (shut_bool Try.underlying4 _), (trodAll_cons_mk (Below.trod laidOut (by kernel_rfl) (of_decide_eq_true (by kernel_rfl)) k0 bel lt0) (trodAll_cons_mk (Below.trod laidOut (by kernel_rfl) (of_decide_eq_true (by kernel_rfl)) k1 bel lt1) trodAll_mk0)), rfl, bel.frame _, fun h => by cases h⟩

theorem over : Rows.fnExactSameTermRow.holds Try.pinned (OpenSpec.ofChange Rows.fnExactSameTermSpec) :=
  OpenClaim.holds_of_wide 11 Try.f11 rfl rfl rfl rfl rfl rfl rfl ⟨rfl, rfl, rfl, rfl, rfl⟩ rfl rfl rfl rfl rfl (by kernel_rfl) Try.func11 (by kernel_rfl)
    (of_decide_eq_true (by kernel_rfl)) (by unfold Func.isWrapper; first | (rw [if_pos (by decide +kernel)]; kernel_rfl) | (rw [if_neg (by decide +kernel)]; exact ⟨rfl, rfl⟩))
    (fun os started H enc _ => lifted os started H enc)

theorem proved : Rows.FnExactSameTermSaid := over
#print axioms proved
end Go.Proofs.Ytgmhnnpigghbgaa.fnExactSameTerm
