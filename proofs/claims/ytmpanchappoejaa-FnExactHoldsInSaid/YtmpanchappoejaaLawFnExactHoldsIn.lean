/- For every list of terms and every state the law FnExactHoldsIn returns true: the program's HoldsIn returns what the reference's returns, and leaves both as they were. No condition. -/
import Derived.Test.YtmpanchappoejaaRows
import Derived.Test.YtmpanchappoejaaOpn
import Derived.Test.YtmpanchappoejaaHlp
import Derived.Test.YtmpanchappoejaaL03o
import Derived.Deep.RegionHeld3
import Derived.ProofKit
import Derived.OpenShut
import Derived.ChangeOld
namespace Go.Proofs.Ytmpanchappoejaa.fnExactHoldsIn
open Go.ChangeShapes Go.WideShapes Go.ChangeAt Go.RowKit
open Go.ChangeMaps (open_string shut_string)
set_option linter.unusedVariables false

set_option maxHeartbeats 2000000 in
set_option maxRecDepth 100000 in
theorem walk (a_ts0 : Option Addr) (p_ts0 : Nat) (ts0 : List _) (d1 : _) (cs1 : Array Value) (w : World) (h0 : SlRd cTerm (fun _ => True) w a_ts0 p_ts0 ts0) (h1 : cState.rd (fun _ => True) w cs1.toList d1) : Calls Try.prog 12 #[.slice a_ts0 ts0.length p_ts0, .agg cs1] w fun e w' => e = .returned (.bool true) ∧ Below w.heap.size w w' := by
  have hrts0 := h0
  clear h0
  obtain ⟨a_us1, p_us1, a_vs1, p_vs1, rfl, hrus1, hrvs1, _⟩ := state_arr h1
  obtain ⟨us1, vs1⟩ := d1
  simp only at hrus1 hrvs1 ⊢
  clear h1
  have hl_ts0 := hrts0.len_le
  have Rts0_0 := hid hrts0
  clear hrts0
  have hl_us1 := hrus1.len_le
  have Rus1_0 := hid hrus1
  clear hrus1
  have hl_vs1 := hrvs1.len_le
  have Rvs1_0 := hid hrvs1
  clear hrvs1
  have HB_0 := hid (Below.refl w.heap.size w)
  obtain ⟨⟨q0, q1⟩, hq⟩ : ∃ q, holdsInF ts0 (us1, vs1) = q := ⟨_, rfl⟩
  have HQ := hid hq
  clear hq
  have Rts0_1 := hid (Rts0_0.out.alloc (.cells #[.slice a_us1 us1.length p_us1, .slice a_vs1 vs1.length p_vs1] 82))
  have Rus1_1 := hid (Rus1_0.out.alloc (.cells #[.slice a_us1 us1.length p_us1, .slice a_vs1 vs1.length p_vs1] 82))
  have Rvs1_1 := hid (Rvs1_0.out.alloc (.cells #[.slice a_us1 us1.length p_us1, .slice a_vs1 vs1.length p_vs1] 82))
  have HB_1 := hid (HB_0.out.alloc HB_0.out.size (.cells #[.slice a_us1 us1.length p_us1, .slice a_vs1 vs1.length p_vs1] 82))
  have hbx : Below w.heap.size w (w.alloc (.cells #[.slice a_us1 us1.length p_us1, .slice a_vs1 vs1.length p_vs1] 82)) := (Below.refl _ _).alloc (Nat.le_refl _) _
  have ct10_1 : (w.alloc (.cells #[.slice a_us1 us1.length p_us1, .slice a_vs1 vs1.length p_vs1] 82)).cell? ⟨w.heap.size, 0, none⟩ = some (.slice a_us1 us1.length p_us1) := by rw [World.cell?_alloc_at _ _ _ _ (rfl)]; rfl
  have ct11_1 : (w.alloc (.cells #[.slice a_us1 us1.length p_us1, .slice a_vs1 vs1.length p_vs1] 82)).cell? ⟨w.heap.size, 1, none⟩ = some (.slice a_vs1 vs1.length p_vs1) := by rw [World.cell?_alloc_at _ _ _ _ (rfl)]; rfl
  have zt1_1 : w.heap.size < (w.alloc (.cells #[.slice a_us1 us1.length p_us1, .slice a_vs1 vs1.length p_vs1] 82)).heap.size := by simp
  clear hbx Rts0_0 Rus1_0 Rvs1_0 HB_0
  obtain ⟨r0, hr⟩ : ∃ r, szR 1048576 (szTs ts0 : Nat) = r := ⟨_, rfl⟩
  have HR0 := hid hr
  clear hr
  by_cases hneg0 : r0 < 0
  · skip
    go_enter Try.func12, Try.ntmps12
    go_wp2_with fail
    generalize w.alloc (.cells #[.slice a_us1 us1.length p_us1, .slice a_vs1 vs1.length p_vs1] 82) = W0 at *
    refine (c_szTermS _ _ _ _ _ Rts0_1.out (by omega) (by omega)).mono ?_
    rintro e w_2 ⟨rfl, hb⟩
    rw [HR0.out]
    have Rts0_2 := hid (Rts0_1.out.below (Nat.le_refl _) hb)
    have Rus1_2 := hid (Rus1_1.out.below (Nat.le_refl _) hb)
    have Rvs1_2 := hid (Rvs1_1.out.below (Nat.le_refl _) hb)
    have HB_2 := hid (bel_next HB_1.out HB_1.out.size hb)
    have ct10_2 := cell_below hb zt1_1 ct10_1
    have ct11_2 := cell_below hb zt1_1 ct11_1
    have zt1_2 := Nat.lt_of_lt_of_le zt1_1 hb.size
    clear Rts0_1 Rus1_1 Rvs1_1 HB_1 ct10_1 ct11_1 zt1_1
    clear hb
    go_wp2_with fail
    go_wp2
    go_ret
    exact ⟨rfl, HB_2.out⟩
  · skip
    have hle := (szR_ge (left := 1048576) (n := szTs ts0) (by rw [HR0.out]; omega))
    rw [HR0.out] at hle
    obtain ⟨hle, hle'⟩ := hle
    have hn0 : ts0.length ≤ 1048576 := by unfold szTs at hle; omega
    have HN0 : Hid (∀ t ∈ ts0, t.2.length ≤ 1048576) := fun t ht => by have := szTs_le ht; omega
    have hle0 : r0 ≤ 1048576 := by omega
    clear hle hle'
    obtain ⟨r1, hr⟩ : ∃ r, szR r0 ((us1.length + vs1.length) : Nat) = r := ⟨_, rfl⟩
    have HR1 := hid hr
    clear hr
    by_cases hneg1 : r1 < 0
    · skip
      go_enter Try.func12, Try.ntmps12
      go_wp2_with fail
      generalize w.alloc (.cells #[.slice a_us1 us1.length p_us1, .slice a_vs1 vs1.length p_vs1] 82) = W0 at *
      refine (c_szTermS _ _ _ _ _ Rts0_1.out (by omega) (by omega)).mono ?_
      rintro e w_2 ⟨rfl, hb⟩
      rw [HR0.out]
      have Rts0_2 := hid (Rts0_1.out.below (Nat.le_refl _) hb)
      have Rus1_2 := hid (Rus1_1.out.below (Nat.le_refl _) hb)
      have Rvs1_2 := hid (Rvs1_1.out.below (Nat.le_refl _) hb)
      have HB_2 := hid (bel_next HB_1.out HB_1.out.size hb)
      have ct10_2 := cell_below hb zt1_1 ct10_1
      have ct11_2 := cell_below hb zt1_1 ct11_1
      have zt1_2 := Nat.lt_of_lt_of_le zt1_1 hb.size
      clear Rts0_1 Rus1_1 Rvs1_1 HB_1 ct10_1 ct11_1 zt1_1
      clear hb
      go_wp2_with fail
      refine (c_szState _ _ _ _ _ _ _ _ hl_us1 hl_vs1 (by omega) (by omega)).mono ?_
      rintro e w_3 ⟨rfl, hb⟩
      rw [HR1.out]
      have Rts0_3 := hid (Rts0_2.out.below (Nat.le_refl _) hb)
      have Rus1_3 := hid (Rus1_2.out.below (Nat.le_refl _) hb)
      have Rvs1_3 := hid (Rvs1_2.out.below (Nat.le_refl _) hb)
      have HB_3 := hid (bel_next HB_2.out HB_2.out.size hb)
      have ct10_3 := cell_below hb zt1_2 ct10_2
      have ct11_3 := cell_below hb zt1_2 ct11_2
      have zt1_3 := Nat.lt_of_lt_of_le zt1_2 hb.size
      clear Rts0_2 Rus1_2 Rvs1_2 HB_2 ct10_2 ct11_2 zt1_2
      clear hb
      go_wp2_with fail
      go_wp2
      go_ret
      exact ⟨rfl, HB_3.out⟩
    · skip
      have hle := (szR_ge (left := r0) (n := (us1.length + vs1.length)) (by rw [HR1.out]; omega))
      rw [HR1.out] at hle
      obtain ⟨hle, hle'⟩ := hle
      have hn1 : us1.length ≤ 1048576 := by omega
      have hm1 : vs1.length ≤ 1048576 := by omega
      have hle1 : r1 ≤ 1048576 := by omega
      clear hle hle'
      go_enter Try.func12, Try.ntmps12
      go_wp2_with fail
      generalize w.alloc (.cells #[.slice a_us1 us1.length p_us1, .slice a_vs1 vs1.length p_vs1] 82) = W0 at *
      refine (c_szTermS _ _ _ _ _ Rts0_1.out (by omega) (by omega)).mono ?_
      rintro e w_2 ⟨rfl, hb⟩
      rw [HR0.out]
      have Rts0_2 := hid (Rts0_1.out.below (Nat.le_refl _) hb)
      have Rus1_2 := hid (Rus1_1.out.below (Nat.le_refl _) hb)
      have Rvs1_2 := hid (Rvs1_1.out.below (Nat.le_refl _) hb)
      have HB_2 := hid (bel_next HB_1.out HB_1.out.size hb)
      have ct10_2 := cell_below hb zt1_1 ct10_1
      have ct11_2 := cell_below hb zt1_1 ct11_1
      have zt1_2 := Nat.lt_of_lt_of_le zt1_1 hb.size
      clear Rts0_1 Rus1_1 Rvs1_1 HB_1 ct10_1 ct11_1 zt1_1
      clear hb
      go_wp2_with fail
      refine (c_szState _ _ _ _ _ _ _ _ hl_us1 hl_vs1 (by omega) (by omega)).mono ?_
      rintro e w_3 ⟨rfl, hb⟩
      rw [HR1.out]
      have Rts0_3 := hid (Rts0_2.out.below (Nat.le_refl _) hb)
      have Rus1_3 := hid (Rus1_2.out.below (Nat.le_refl _) hb)
      have Rvs1_3 := hid (Rvs1_2.out.below (Nat.le_refl _) hb)
      have HB_3 := hid (bel_next HB_2.out HB_2.out.size hb)
      have ct10_3 := cell_below hb zt1_2 ct10_2
      have ct11_3 := cell_below hb zt1_2 ct11_2
      have zt1_3 := Nat.lt_of_lt_of_le zt1_2 hb.size
      clear Rts0_2 Rus1_2 Rvs1_2 HB_2 ct10_2 ct11_2 zt1_2
      clear hb
      go_wp2_with fail
      have Rts0_4 := hid Rts0_3.out.drew
      have Rus1_4 := hid Rus1_3.out.drew
      have Rvs1_4 := hid Rvs1_3.out.drew
      have HB_4 := hid HB_3.out.drew
      go_region_held3 (fun w' => w'.cell? ⟨w.heap.size, 0, none⟩ = some (.slice a_us1 us1.length p_us1) ∧ w'.cell? ⟨w.heap.size, 1, none⟩ = some (.slice a_vs1 vs1.length p_vs1)) (first | exact ⟨ct10_3, ct11_3⟩ | exact kk1 | exact kk2 | exact kk3) (first | (have hkk := kk2; clear hkk; go_at_call 58; refine (c_sHoldsIn _ _ _ _ _ _ _ _ _ _ Vts0_6.out Vus1_6.out Vvs1_6.out).mono ?_; rintro e w_7 ⟨rfl, hb3⟩; rw [HQ.out]; have kk3 := And.intro (cell_below hb3 zt1_6 (kk2.1)) (cell_below hb3 zt1_6 (kk2.2)); have Rts0_7 := hid (Rts0_6.out.below (Nat.le_refl _) hb3); have Rus1_7 := hid (Rus1_6.out.below (Nat.le_refl _) hb3); have Rvs1_7 := hid (Rvs1_6.out.below (Nat.le_refl _) hb3); have Vts0_7 := hid (Vts0_6.out.below (Nat.le_refl _) hb3); have Vus1_7 := hid (Vus1_6.out.below (Nat.le_refl _) hb3); have Vvs1_7 := hid (Vvs1_6.out.below (Nat.le_refl _) hb3); have HB_7 := hid (bel_next HB_6.out HB_6.out.size hb3); have zt1_7 := Nat.lt_of_lt_of_le zt1_6 hb3.size) | (have hkk := kk1; clear hkk; go_at_call 60; refine (c_toState _ _ _ _ _ _ _ Rus1_5.out Rvs1_5.out hn1 hm1).mono ?_; rintro e w_6 ⟨a_us1V, p_us1V, a_vs1V, p_vs1V, rfl, hs_us, hs_vs, hb2⟩; simp only at hs_us hs_vs; have kk2 := And.intro (cell_below hb2 zt1_5 (kk1.1)) (cell_below hb2 zt1_5 (kk1.2)); have Rts0_6 := hid (Rts0_5.out.below (Nat.le_refl _) hb2); have Rus1_6 := hid (Rus1_5.out.below (Nat.le_refl _) hb2); have Rvs1_6 := hid (Rvs1_5.out.below (Nat.le_refl _) hb2); have Vts0_6 := hid (Vts0_5.out.below (Nat.le_refl _) hb2); have Vus1_6 := hid hs_us; have Vvs1_6 := hid hs_vs; have HB_6 := hid (bel_next HB_5.out HB_5.out.size hb2); have zt1_6 := Nat.lt_of_lt_of_le zt1_5 hb2.size; clear hs_us hs_vs) | (go_at_call 59; refine (c_toTermS _ _ _ _ Rts0_4.out hn0 HN0.out).mono ?_; rintro e w_5 ⟨a_ts0V, p_ts0V, rfl, hs_ts, hb1⟩; have kk1 := And.intro (cell_below hb1 zt1_3 ct10_3) (cell_below hb1 zt1_3 ct11_3); have Rts0_5 := hid (Rts0_4.out.below (Nat.le_refl _) hb1); have Rus1_5 := hid (Rus1_4.out.below (Nat.le_refl _) hb1); have Rvs1_5 := hid (Rvs1_4.out.below (Nat.le_refl _) hb1); have Vts0_5 := hid hs_ts; have HB_5 := hid (bel_next HB_4.out HB_4.out.size hb1); have zt1_5 := Nat.lt_of_lt_of_le zt1_3 hb1.size; clear hs_ts))
      have ct10_7 := kk3.1
      have ct11_7 := kk3.2
      clear kk1 hb1 kk2 hb2 kk3 hb3 ct10_3 ct11_3
      go_wp2_with fail
      clear Vts0_7
      clear Vus1_7
      clear Vvs1_7
      refine (c_toTermS _ _ _ _ Rts0_7.out hn0 HN0.out).mono ?_
      rintro e w_8 ⟨a_ts0X, p_ts0X, rfl, hs_ts, hb⟩
      have Rts0_8 := hid (Rts0_7.out.below (Nat.le_refl _) hb)
      have Rus1_8 := hid (Rus1_7.out.below (Nat.le_refl _) hb)
      have Rvs1_8 := hid (Rvs1_7.out.below (Nat.le_refl _) hb)
      have Xts0_8 := hid hs_ts
      have HB_8 := hid (bel_next HB_7.out HB_7.out.size hb)
      have ct10_8 := cell_below hb zt1_7 ct10_7
      have ct11_8 := cell_below hb zt1_7 ct11_7
      have zt1_8 := Nat.lt_of_lt_of_le zt1_7 hb.size
      clear Rts0_7 Rus1_7 Rvs1_7 hs_ts HB_7 ct10_7 ct11_7 zt1_7
      clear hb
      go_wp2_with fail
      refine (c_toState _ _ _ _ _ _ _ Rus1_8.out Rvs1_8.out hn1 hm1).mono ?_
      rintro e w_9 ⟨a_us1X, p_us1X, a_vs1X, p_vs1X, rfl, hs_us, hs_vs, hb⟩
      simp only at hs_us hs_vs
      have Rts0_9 := hid (Rts0_8.out.below (Nat.le_refl _) hb)
      have Rus1_9 := hid (Rus1_8.out.below (Nat.le_refl _) hb)
      have Rvs1_9 := hid (Rvs1_8.out.below (Nat.le_refl _) hb)
      have Xts0_9 := hid (Xts0_8.out.below (Nat.le_refl _) hb)
      have Xus1_9 := hid hs_us
      have Xvs1_9 := hid hs_vs
      have HB_9 := hid (bel_next HB_8.out HB_8.out.size hb)
      have ct10_9 := cell_below hb zt1_8 ct10_8
      have ct11_9 := cell_below hb zt1_8 ct11_8
      have zt1_9 := Nat.lt_of_lt_of_le zt1_8 hb.size
      clear Rts0_8 Rus1_8 Rvs1_8 Xts0_8 hs_us hs_vs HB_8 ct10_8 ct11_8 zt1_8
      clear hb
      have Rts0_10 := hid (Rts0_9.out.alloc (.cells #[.slice a_us1X us1.length p_us1X, .slice a_vs1X vs1.length p_vs1X] 88))
      have Rus1_10 := hid (Rus1_9.out.alloc (.cells #[.slice a_us1X us1.length p_us1X, .slice a_vs1X vs1.length p_vs1X] 88))
      have Rvs1_10 := hid (Rvs1_9.out.alloc (.cells #[.slice a_us1X us1.length p_us1X, .slice a_vs1X vs1.length p_vs1X] 88))
      have Xts0_10 := hid (Xts0_9.out.alloc (.cells #[.slice a_us1X us1.length p_us1X, .slice a_vs1X vs1.length p_vs1X] 88))
      have Xus1_10 := hid (Xus1_9.out.alloc (.cells #[.slice a_us1X us1.length p_us1X, .slice a_vs1X vs1.length p_vs1X] 88))
      have Xvs1_10 := hid (Xvs1_9.out.alloc (.cells #[.slice a_us1X us1.length p_us1X, .slice a_vs1X vs1.length p_vs1X] 88))
      have HB_10 := hid (HB_9.out.alloc HB_9.out.size (.cells #[.slice a_us1X us1.length p_us1X, .slice a_vs1X vs1.length p_vs1X] 88))
      have hbx : Below w_9.heap.size w_9 (w_9.alloc (.cells #[.slice a_us1X us1.length p_us1X, .slice a_vs1X vs1.length p_vs1X] 88)) := (Below.refl _ _).alloc (Nat.le_refl _) _
      have ct10_10 := cell_below hbx zt1_9 ct10_9
      have ct11_10 := cell_below hbx zt1_9 ct11_9
      have zt1_10 := Nat.lt_of_lt_of_le zt1_9 hbx.size
      have cx10_10 : (w_9.alloc (.cells #[.slice a_us1X us1.length p_us1X, .slice a_vs1X vs1.length p_vs1X] 88)).cell? ⟨w_9.heap.size, 0, none⟩ = some (.slice a_us1X us1.length p_us1X) := by rw [World.cell?_alloc_at _ _ _ _ (rfl)]; rfl
      have cx11_10 : (w_9.alloc (.cells #[.slice a_us1X us1.length p_us1X, .slice a_vs1X vs1.length p_vs1X] 88)).cell? ⟨w_9.heap.size, 1, none⟩ = some (.slice a_vs1X vs1.length p_vs1X) := by rw [World.cell?_alloc_at _ _ _ _ (rfl)]; rfl
      have zx1_10 : w_9.heap.size < (w_9.alloc (.cells #[.slice a_us1X us1.length p_us1X, .slice a_vs1X vs1.length p_vs1X] 88)).heap.size := by simp
      clear hbx Rts0_9 Rus1_9 Rvs1_9 Xts0_9 Xus1_9 Xvs1_9 HB_9 ct10_9 ct11_9 zt1_9
      go_wp2_with fail
      generalize w_9.alloc (.cells #[.slice a_us1X us1.length p_us1X, .slice a_vs1X vs1.length p_vs1X] 88) = w_10 at *
      refine (c_HoldsIn _ _ _ _ _ _ _ _ _ _ Xts0_10.out Xus1_10.out Xvs1_10.out).mono ?_
      rintro e w_11 ⟨rfl, hb⟩
      rw [HQ.out]
      have Rts0_11 := hid (Rts0_10.out.below (Nat.le_refl _) hb)
      have Rus1_11 := hid (Rus1_10.out.below (Nat.le_refl _) hb)
      have Rvs1_11 := hid (Rvs1_10.out.below (Nat.le_refl _) hb)
      have Xts0_11 := hid (Xts0_10.out.below (Nat.le_refl _) hb)
      have Xus1_11 := hid (Xus1_10.out.below (Nat.le_refl _) hb)
      have Xvs1_11 := hid (Xvs1_10.out.below (Nat.le_refl _) hb)
      have HB_11 := hid (bel_next HB_10.out HB_10.out.size hb)
      have ct10_11 := cell_below hb zt1_10 ct10_10
      have ct11_11 := cell_below hb zt1_10 ct11_10
      have cx10_11 := cell_below hb zx1_10 cx10_10
      have cx11_11 := cell_below hb zx1_10 cx11_10
      have zt1_11 := Nat.lt_of_lt_of_le zt1_10 hb.size
      have zx1_11 := Nat.lt_of_lt_of_le zx1_10 hb.size
      clear Rts0_10 Rus1_10 Rvs1_10 Xts0_10 Xus1_10 Xvs1_10 HB_10 ct10_10 ct11_10 cx10_10 cx11_10 zt1_10 zx1_10
      clear hb
      have hne0 : (q0 != q0) = false := by simp
      have hne1 : (q1 != q1) = false := by simp
      go_wp2_with fail
      refine (c_toTermS _ _ _ _ Rts0_11.out hn0 HN0.out).mono ?_
      rintro e w_12 ⟨a_ts0Y, p_ts0Y, rfl, hs_ts, hb⟩
      have Rts0_12 := hid (Rts0_11.out.below (Nat.le_refl _) hb)
      have Rus1_12 := hid (Rus1_11.out.below (Nat.le_refl _) hb)
      have Rvs1_12 := hid (Rvs1_11.out.below (Nat.le_refl _) hb)
      have Xts0_12 := hid (Xts0_11.out.below (Nat.le_refl _) hb)
      have Xus1_12 := hid (Xus1_11.out.below (Nat.le_refl _) hb)
      have Xvs1_12 := hid (Xvs1_11.out.below (Nat.le_refl _) hb)
      have Yts0_12 := hid hs_ts
      have HB_12 := hid (bel_next HB_11.out HB_11.out.size hb)
      have ct10_12 := cell_below hb zt1_11 ct10_11
      have ct11_12 := cell_below hb zt1_11 ct11_11
      have cx10_12 := cell_below hb zx1_11 cx10_11
      have cx11_12 := cell_below hb zx1_11 cx11_11
      have zt1_12 := Nat.lt_of_lt_of_le zt1_11 hb.size
      have zx1_12 := Nat.lt_of_lt_of_le zx1_11 hb.size
      clear Rts0_11 Rus1_11 Rvs1_11 Xts0_11 Xus1_11 Xvs1_11 hs_ts HB_11 ct10_11 ct11_11 cx10_11 cx11_11 zt1_11 zx1_11
      clear hb
      go_wp2_with fail
      refine (c_eqTermS _ _ _ _ _ _ _ Xts0_12.out Yts0_12.out).mono ?_
      rintro e w_13 ⟨rfl, hb⟩
      rw [show decide (ts0 = ts0) = true from by simp]
      have Rts0_13 := hid (Rts0_12.out.below (Nat.le_refl _) hb)
      have Rus1_13 := hid (Rus1_12.out.below (Nat.le_refl _) hb)
      have Rvs1_13 := hid (Rvs1_12.out.below (Nat.le_refl _) hb)
      have Xts0_13 := hid (Xts0_12.out.below (Nat.le_refl _) hb)
      have Xus1_13 := hid (Xus1_12.out.below (Nat.le_refl _) hb)
      have Xvs1_13 := hid (Xvs1_12.out.below (Nat.le_refl _) hb)
      have Yts0_13 := hid (Yts0_12.out.below (Nat.le_refl _) hb)
      have HB_13 := hid (bel_next HB_12.out HB_12.out.size hb)
      have ct10_13 := cell_below hb zt1_12 ct10_12
      have ct11_13 := cell_below hb zt1_12 ct11_12
      have cx10_13 := cell_below hb zx1_12 cx10_12
      have cx11_13 := cell_below hb zx1_12 cx11_12
      have zt1_13 := Nat.lt_of_lt_of_le zt1_12 hb.size
      have zx1_13 := Nat.lt_of_lt_of_le zx1_12 hb.size
      clear Rts0_12 Rus1_12 Rvs1_12 Xts0_12 Xus1_12 Xvs1_12 Yts0_12 HB_12 ct10_12 ct11_12 cx10_12 cx11_12 zt1_12 zx1_12
      clear hb
      go_wp2_with fail
      clear Yts0_13
      have Rts0_14 := hid Rts0_13.out.drew
      have Rus1_14 := hid Rus1_13.out.drew
      have Rvs1_14 := hid Rvs1_13.out.drew
      have Xts0_14 := hid Xts0_13.out.drew
      have Xus1_14 := hid Xus1_13.out.drew
      have Xvs1_14 := hid Xvs1_13.out.drew
      have HB_14 := hid HB_13.out.drew
      go_region_held3 (fun w' => w'.cell? ⟨w.heap.size, 0, none⟩ = some (.slice a_us1 us1.length p_us1) ∧ w'.cell? ⟨w.heap.size, 1, none⟩ = some (.slice a_vs1 vs1.length p_vs1) ∧ w'.cell? ⟨w_9.heap.size, 0, none⟩ = some (.slice a_us1X us1.length p_us1X) ∧ w'.cell? ⟨w_9.heap.size, 1, none⟩ = some (.slice a_vs1X vs1.length p_vs1X)) (first | exact ⟨ct10_13, ct11_13, cx10_13, cx11_13⟩ | exact kk1 | exact kk2) (first | (go_at_call 60; refine (c_toState _ _ _ _ _ _ _ Rus1_14.out Rvs1_14.out hn1 hm1).mono ?_; rintro e w_15 ⟨a_us1Y, p_us1Y, a_vs1Y, p_vs1Y, rfl, hs_us, hs_vs, hb1⟩; simp only at hs_us hs_vs; have kk1 := And.intro (cell_below hb1 zt1_13 ct10_13) (And.intro (cell_below hb1 zt1_13 ct11_13) (And.intro (cell_below hb1 zx1_13 cx10_13) (cell_below hb1 zx1_13 cx11_13))); have Yus1_15 := hid hs_us; have Yvs1_15 := hid hs_vs; have Rts0_15 := hid (Rts0_14.out.below (Nat.le_refl _) hb1); have Rus1_15 := hid (Rus1_14.out.below (Nat.le_refl _) hb1); have Rvs1_15 := hid (Rvs1_14.out.below (Nat.le_refl _) hb1); have Xts0_15 := hid (Xts0_14.out.below (Nat.le_refl _) hb1); have Xus1_15 := hid (Xus1_14.out.below (Nat.le_refl _) hb1); have Xvs1_15 := hid (Xvs1_14.out.below (Nat.le_refl _) hb1); have HB_15 := hid (bel_next HB_14.out HB_14.out.size hb1); have zt1_15 := Nat.lt_of_lt_of_le zt1_13 hb1.size; have zx1_15 := Nat.lt_of_lt_of_le zx1_13 hb1.size; clear hs_us hs_vs) | (go_at_call 63; refine (c_eqState _ _ _ _ _ _ _ _ _ _ _ _ _ Xus1_15.out Yus1_15.out Xvs1_15.out Yvs1_15.out).mono ?_; rintro e w_16 ⟨rfl, hb2⟩; rw [show decide (((us1, vs1) : List Int × List Int) = ((us1, vs1) : List Int × List Int)) = true from (by simp)]; have kk2 := And.intro (cell_below hb2 zt1_15 kk1.1) (And.intro (cell_below hb2 zt1_15 kk1.2.1) (And.intro (cell_below hb2 zx1_15 kk1.2.2.1) (cell_below hb2 zx1_15 kk1.2.2.2))); have Rts0_16 := hid (Rts0_15.out.below (Nat.le_refl _) hb2); have Rus1_16 := hid (Rus1_15.out.below (Nat.le_refl _) hb2); have Rvs1_16 := hid (Rvs1_15.out.below (Nat.le_refl _) hb2); have Xts0_16 := hid (Xts0_15.out.below (Nat.le_refl _) hb2); have Xus1_16 := hid (Xus1_15.out.below (Nat.le_refl _) hb2); have Xvs1_16 := hid (Xvs1_15.out.below (Nat.le_refl _) hb2); have HB_16 := hid (bel_next HB_15.out HB_15.out.size hb2); have zt1_16 := Nat.lt_of_lt_of_le zt1_15 hb2.size; have zx1_16 := Nat.lt_of_lt_of_le zx1_15 hb2.size))
      have ct10_16 := kk2.1
      have ct11_16 := kk2.2.1
      have cx10_16 := kk2.2.2.1
      have cx11_16 := kk2.2.2.2
      clear kk1 kk2 hb1 hb2 ct10_13 ct11_13 cx10_13 cx11_13
      go_wp2_with fail
      try go_wp2
      go_ret
      exact ⟨rfl, HB_16.out⟩

theorem own : ownKnob Try.prog.godebug = none := by kernel_rfl
theorem laidOut : laidOutB Try.prog = true := by kernel_rfl
set_option maxRecDepth 100000 in
theorem lifted (os : Os) (started : os.Started) (H : Type) (enc : TypeId × Value → H) :
    ReturnsInHanded {} Try.checked os 12 .any (Rows.fnExactHoldsInSpec.pre6 enc Try.prog Try.f12 Rows.fnExactHoldsInRow.domain false) (Rows.fnExactHoldsInSpec.post enc Try.prog Try.f12 false true false false) := by
  refine returnsInHanded_of_change (C := Try.checked) own started (by kernel_rfl) Try.func12
    (ChangeSpec.witness6 (enc := enc) (C := Try.checked) false ⟨#[], #[.slice none 0 0, .agg #[.slice none 0 0, .slice none 0 0]], []⟩ 8 (by kernel_rfl) (by kernel_rfl) (by kernel_rfl) (by kernel_rfl)) ?_
  intro W base args ds gs before hval0 hW hcnd _
  have hval : ∀ (j : Nat) t v, Try.f12.params[j]? = some t → args[j]? = some v → Value.okWide Try.prog W .any base t v := hval0
  have hW' := hW
  obtain ⟨p, q, hA0, hV, rfl, hfz, hnd⟩ := hW
  have hA : DataW.TrodAll enc Try.prog W 0 (fun _ => true) true Try.f12.params.toList args.toList ds p := hA0
  rw [Try.params12] at hA hval
  obtain ⟨v0, vs0, d0, ds0, p0, q0, hargs, rfl, rfl, h0, r0⟩ := trodAll_cons hA
  obtain ⟨v1, vs1, d1, ds1, p1, q1, hargs1, rfl, rfl, h1, r1⟩ := trodAll_cons r0
  obtain ⟨rfl, rfl, rfl⟩ := trodAll_nil r1
  subst hargs1
  obtain rfl : args = #[v0, v1] := by cases args; simp_all
  obtain ⟨rfl, rfl⟩ := trodVars_none hV
  have k0 := h0
  have lt0 : ∀ x ∈ p0, x.block < W.heap.size := by obtain ⟨m, hm⟩ := k0; exact DataW.trod_lt m _ _ _ hm
  obtain ⟨a0, cap0, as0, rfl, s0⟩ := arg_sl Try.underlying35 op_Terms (hval 0 35 v0 rfl rfl) h0
  have k1 := h1
  have lt1 : ∀ x ∈ p1, x.block < W.heap.size := by obtain ⟨m, hm⟩ := k1; exact DataW.trod_lt m _ _ _ hm
  obtain ⟨as1, cs1, rfl, s1⟩ := arg_st Try.underlying82 op_State (hval 1 82 v1 rfl rfl) h1
  clear hA0 hval0
  refine (walk a0 cap0 as0 as1 cs1 W s0 s1).mono fun e W' ⟨he, bel⟩ => ?_
  subst he
  exact ⟨_, rfl, _, _, _, [], _, [], hW', trodAll_mk1 (shut_bool Try.underlying4 _), (trodAll_cons_mk (Below.trod laidOut (by kernel_rfl) (of_decide_eq_true (by kernel_rfl)) k0 bel lt0) (trodAll_cons_mk (Below.trod laidOut (by kernel_rfl) (of_decide_eq_true (by kernel_rfl)) k1 bel lt1) trodAll_mk0)), rfl, bel.frame _, fun h => by cases h⟩

theorem over : Rows.fnExactHoldsInRow.holds Try.pinned (OpenSpec.ofChange Rows.fnExactHoldsInSpec) :=
  OpenClaim.holds_of_wide 12 Try.f12 rfl rfl rfl rfl rfl rfl rfl ⟨rfl, rfl, rfl, rfl, rfl⟩ rfl rfl rfl rfl rfl (by kernel_rfl) Try.func12 (by kernel_rfl)
    (of_decide_eq_true (by kernel_rfl)) (by unfold Func.isWrapper; first | (rw [if_pos (by decide +kernel)]; kernel_rfl) | (rw [if_neg (by decide +kernel)]; exact ⟨rfl, rfl⟩))
    (fun os started H enc _ => lifted os started H enc)

theorem proved : Rows.FnExactHoldsInSaid := over
#print axioms proved
end Go.Proofs.Ytmpanchappoejaa.fnExactHoldsIn
