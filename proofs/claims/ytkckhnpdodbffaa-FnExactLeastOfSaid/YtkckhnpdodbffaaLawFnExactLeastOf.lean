/- For every list of terms and every goal the law FnExactLeastOf returns true: the program's LeastOf returns what the reference's returns, and leaves both as they were. No condition. -/
import Derived.Test.YtkckhnpdodbffaaRows
import Derived.Test.YtkckhnpdodbffaaOpn
import Derived.Test.YtkckhnpdodbffaaLawAid
import Derived.Test.YtkckhnpdodbffaaElL2
import Derived.Test.YtkckhnpdodbffaaElL5
import Derived.Deep.RegionHeld3
import Derived.ProofKit
import Derived.OpenShut
import Derived.ChangeOld
namespace Go.Proofs.Ytkckhnpdodbffaa.fnExactLeastOf
open Go.ChangeShapes Go.WideShapes Go.ChangeAt Go.RowKit
open Go.ChangeMaps (open_string shut_string)
set_option linter.unusedVariables false

set_option maxHeartbeats 4000000 in
set_option maxRecDepth 100000 in
theorem walk (ax0d0 : Option Addr) (px0d0 : Nat) (x0d0 : List _) (d1 : _) (cs1 : Array Value) (w : World) (hx0d0 : SlRd cTerm (fun _ => True) w ax0d0 px0d0 x0d0) (h1 : cTerm.rd (fun _ => True) w cs1.toList d1) : Calls Try.prog 4 #[.slice ax0d0 x0d0.length px0d0, .agg cs1] w fun e w' => e = .returned (.bool true) ∧ Below w.heap.size w w' := by
  obtain ⟨ax1d1, px1d1, rfl, hx1d1, hix1d0⟩ := term_arr h1
  obtain ⟨x1d0, x1d1⟩ := d1
  simp only at hx1d1 ⊢
  clear h1 hix1d0
  obtain ⟨⟨q0, q1⟩, hq⟩ : ∃ q, leastO x0d0 (x1d0, x1d1) = q := ⟨_, rfl⟩
  have HQ := hid hq
  clear hq
  have hlx0d0 := hx0d0.len_le
  have hlx1d1 := hx1d1.len_le
  have HB_0 : Hid (Below w.heap.size w (w.alloc (.cells #[.int .i64 x1d0, .slice ax1d1 x1d1.length px1d1] 35))) := (Below.refl _ _).alloc (by simp <;> omega) _
  obtain ⟨β0, hβe⟩ : ∃ B, B = (w.alloc (.cells #[.int .i64 x1d0, .slice ax1d1 x1d1.length px1d1] 35)).heap.size := ⟨_, rfl⟩
  have HZ_0 : Hid (β0 ≤ (w.alloc (.cells #[.int .i64 x1d0, .slice ax1d1 x1d1.length px1d1] 35)).heap.size) := Nat.le_of_eq hβe
  have β0_le : w.heap.size + 1 ≤ β0 := by rw [hβe]; simp
  clear hβe
  have hx0d0 : SlRd cTerm (fun b => Btw 0 β0 b ∧ True) w ax0d0 px0d0 x0d0 := hx0d0.keep fun b _ hl => ⟨⟨⟨Nat.zero_le _, by omega⟩, trivial⟩, rfl⟩
  have Rx0d0_0 : Hid (SlRd cTerm (fun b => Btw 0 β0 b ∧ True) (w.alloc (.cells #[.int .i64 x1d0, .slice ax1d1 x1d1.length px1d1] 35)) ax0d0 px0d0 x0d0) := (hx0d0.alloc _)
  clear hx0d0
  have hx1d1 : SlRd cInt (fun b => Btw 0 β0 b ∧ True) w ax1d1 px1d1 x1d1 := hx1d1.keep fun b _ hl => ⟨⟨⟨Nat.zero_le _, by omega⟩, trivial⟩, rfl⟩
  have Rx1d1_0 : Hid (SlRd cInt (fun b => Btw 0 β0 b ∧ True) (w.alloc (.cells #[.int .i64 x1d0, .slice ax1d1 x1d1.length px1d1] 35)) ax1d1 px1d1 x1d1) := (hx1d1.alloc _)
  clear hx1d1
  have t1c0_0 : (w.alloc (.cells #[.int .i64 x1d0, .slice ax1d1 x1d1.length px1d1] 35)).cell? ⟨w.heap.size, 0, none⟩ = some (.int .i64 x1d0) := by simp [go_sem]
  have zt1c0_0 : w.heap.size < (w.alloc (.cells #[.int .i64 x1d0, .slice ax1d1 x1d1.length px1d1] 35)).heap.size := by simp <;> omega
  have t1c1_0 : (w.alloc (.cells #[.int .i64 x1d0, .slice ax1d1 x1d1.length px1d1] 35)).cell? ⟨w.heap.size, 1, none⟩ = some (.slice ax1d1 x1d1.length px1d1) := by simp [go_sem]
  have zt1c1_0 : w.heap.size < (w.alloc (.cells #[.int .i64 x1d0, .slice ax1d1 x1d1.length px1d1] 35)).heap.size := by simp <;> omega
  obtain ⟨r0, hr⟩ : ∃ r, szR 1048576 ((szTs x0d0 : Nat) : Int) = r := ⟨_, rfl⟩
  have HR0 := hid hr
  clear hr
  by_cases hneg0 : r0 < 0
  · skip
    go_enter Try.func4, Try.ntmps4
    go_wp2_with fail
    generalize (w.alloc (.cells #[.int .i64 x1d0, .slice ax1d1 x1d1.length px1d1] 35)) = w_0 at *
    refine (u_szTermS Rx0d0_0.out (by omega) (by omega)).mono ?_
    rintro e w_1 ⟨rfl, hb⟩
    rw [HR0.out]
    have Rx0d0_1 := hid (Rx0d0_0.out.below (Nat.le_refl _) hb)
    have Rx1d1_1 := hid (Rx1d1_0.out.below (Nat.le_refl _) hb)
    have HB_1 := hid (bel_next HB_0.out HB_0.out.size hb)
    have HZ_1 := hid (Nat.le_trans HZ_0.out hb.size)
    have t1c0_1 := cell_below hb zt1c0_0 t1c0_0
    have t1c1_1 := cell_below hb zt1c1_0 t1c1_0
    have zt1c0_1 := Nat.lt_of_lt_of_le zt1c0_0 hb.size
    have zt1c1_1 := Nat.lt_of_lt_of_le zt1c1_0 hb.size
    clear Rx0d0_0 Rx1d1_0 HB_0 HZ_0 t1c0_0 t1c1_0 zt1c0_0 zt1c1_0
    clear hb
    go_wp2_with fail
    go_wp2
    go_ret
    exact ⟨rfl, HB_1.out⟩
  have hle := (szR_ge (left := 1048576) (n := szTs x0d0) (by rw [HR0.out]; omega))
  rw [HR0.out] at hle
  obtain ⟨hle, hle'⟩ := hle
  have hsz0 : szTs x0d0 ≤ 1048576 := by omega
  have hlr0 : r0 ≤ 1048576 := by omega
  clear hle hle'
  obtain ⟨r1, hr⟩ : ∃ r, szR r0 ((x1d1.length : Nat) : Int) = r := ⟨_, rfl⟩
  have HR1 := hid hr
  clear hr
  by_cases hneg1 : r1 < 0
  · skip
    go_enter Try.func4, Try.ntmps4
    go_wp2_with fail
    generalize (w.alloc (.cells #[.int .i64 x1d0, .slice ax1d1 x1d1.length px1d1] 35)) = w_0 at *
    refine (u_szTermS Rx0d0_0.out (by omega) (by omega)).mono ?_
    rintro e w_1 ⟨rfl, hb⟩
    rw [HR0.out]
    have Rx0d0_1 := hid (Rx0d0_0.out.below (Nat.le_refl _) hb)
    have Rx1d1_1 := hid (Rx1d1_0.out.below (Nat.le_refl _) hb)
    have HB_1 := hid (bel_next HB_0.out HB_0.out.size hb)
    have HZ_1 := hid (Nat.le_trans HZ_0.out hb.size)
    have t1c0_1 := cell_below hb zt1c0_0 t1c0_0
    have t1c1_1 := cell_below hb zt1c1_0 t1c1_0
    have zt1c0_1 := Nat.lt_of_lt_of_le zt1c0_0 hb.size
    have zt1c1_1 := Nat.lt_of_lt_of_le zt1c1_0 hb.size
    clear Rx0d0_0 Rx1d1_0 HB_0 HZ_0 t1c0_0 t1c1_0 zt1c0_0 zt1c1_0
    clear hb
    go_wp2_with fail
    refine (u_szTerm Rx1d1_1.out (by omega) (by omega)).mono ?_
    rintro e w_2 ⟨rfl, hb⟩
    rw [HR1.out]
    have Rx0d0_2 := hid (Rx0d0_1.out.below (Nat.le_refl _) hb)
    have Rx1d1_2 := hid (Rx1d1_1.out.below (Nat.le_refl _) hb)
    have HB_2 := hid (bel_next HB_1.out HB_1.out.size hb)
    have HZ_2 := hid (Nat.le_trans HZ_1.out hb.size)
    have t1c0_2 := cell_below hb zt1c0_1 t1c0_1
    have t1c1_2 := cell_below hb zt1c1_1 t1c1_1
    have zt1c0_2 := Nat.lt_of_lt_of_le zt1c0_1 hb.size
    have zt1c1_2 := Nat.lt_of_lt_of_le zt1c1_1 hb.size
    clear Rx0d0_1 Rx1d1_1 HB_1 HZ_1 t1c0_1 t1c1_1 zt1c0_1 zt1c1_1
    clear hb
    go_wp2_with fail
    go_wp2
    go_ret
    exact ⟨rfl, HB_2.out⟩
  have hle := (szR_ge (left := r0) (n := x1d1.length) (by rw [HR1.out]; omega))
  rw [HR1.out] at hle
  obtain ⟨hle, hle'⟩ := hle
  have hsz1 : x1d1.length ≤ 1048576 := by omega
  have hlr1 : r1 ≤ 1048576 := by omega
  clear hle hle'
  go_enter Try.func4, Try.ntmps4
  go_wp2_with fail
  generalize (w.alloc (.cells #[.int .i64 x1d0, .slice ax1d1 x1d1.length px1d1] 35)) = w_0 at *
  refine (u_szTermS Rx0d0_0.out (by omega) (by omega)).mono ?_
  rintro e w_1 ⟨rfl, hb⟩
  rw [HR0.out]
  have Rx0d0_1 := hid (Rx0d0_0.out.below (Nat.le_refl _) hb)
  have Rx1d1_1 := hid (Rx1d1_0.out.below (Nat.le_refl _) hb)
  have HB_1 := hid (bel_next HB_0.out HB_0.out.size hb)
  have HZ_1 := hid (Nat.le_trans HZ_0.out hb.size)
  have t1c0_1 := cell_below hb zt1c0_0 t1c0_0
  have t1c1_1 := cell_below hb zt1c1_0 t1c1_0
  have zt1c0_1 := Nat.lt_of_lt_of_le zt1c0_0 hb.size
  have zt1c1_1 := Nat.lt_of_lt_of_le zt1c1_0 hb.size
  clear Rx0d0_0 Rx1d1_0 HB_0 HZ_0 t1c0_0 t1c1_0 zt1c0_0 zt1c1_0
  clear hb
  go_wp2_with fail
  refine (u_szTerm Rx1d1_1.out (by omega) (by omega)).mono ?_
  rintro e w_2 ⟨rfl, hb⟩
  rw [HR1.out]
  have Rx0d0_2 := hid (Rx0d0_1.out.below (Nat.le_refl _) hb)
  have Rx1d1_2 := hid (Rx1d1_1.out.below (Nat.le_refl _) hb)
  have HB_2 := hid (bel_next HB_1.out HB_1.out.size hb)
  have HZ_2 := hid (Nat.le_trans HZ_1.out hb.size)
  have t1c0_2 := cell_below hb zt1c0_1 t1c0_1
  have t1c1_2 := cell_below hb zt1c1_1 t1c1_1
  have zt1c0_2 := Nat.lt_of_lt_of_le zt1c0_1 hb.size
  have zt1c1_2 := Nat.lt_of_lt_of_le zt1c1_1 hb.size
  clear Rx0d0_1 Rx1d1_1 HB_1 HZ_1 t1c0_1 t1c1_1 zt1c0_1 zt1c1_1
  clear hb
  go_wp2_with fail
  have Rx0d0_2 := hid Rx0d0_2.out.drew
  have Rx1d1_2 := hid Rx1d1_2.out.drew
  have HB_2 := hid HB_2.out.drew
  go_region_held3 (fun w' => w'.cell? ⟨w.heap.size, 0, none⟩ = some (.int .i64 x1d0) ∧ w'.cell? ⟨w.heap.size, 1, none⟩ = some (.slice ax1d1 x1d1.length px1d1)) (first | exact ⟨t1c0_2, t1c1_2⟩ | exact kk1 | exact kk2 | exact kk3) (first | (have hkk := kk2; clear hkk; go_at_call 15; refine (c_sLeastOf Vx0d0_4.out Vx1d1_4.out).mono ?_; rintro e w_5 ⟨rfl, hb3⟩; rw [HQ.out]; have kk3 := And.intro (cell_below hb3 zt1c0_4 (kk2.1)) (cell_below hb3 zt1c1_4 (kk2.2)); have Rx0d0_5 := hid (Rx0d0_4.out.below (Nat.le_refl _) hb3); have Rx1d1_5 := hid (Rx1d1_4.out.below (Nat.le_refl _) hb3); have Vx0d0_5 := hid (Vx0d0_4.out.below (Nat.le_refl _) hb3); have Vx1d1_5 := hid (Vx1d1_4.out.below (Nat.le_refl _) hb3); have HB_5 := hid (bel_next HB_4.out HB_4.out.size hb3); have HZ_5 := hid (Nat.le_trans HZ_4.out hb3.size); have zt1c0_5 := Nat.lt_of_lt_of_le zt1c0_4 hb3.size; have zt1c1_5 := Nat.lt_of_lt_of_le zt1c1_4 hb3.size) | (have hkk := kk1; clear hkk; go_at_call 16; refine (u_toTerm Rx1d1_3.out (by omega)).mono ?_; rintro e w_4 ⟨aVx1d1, pVx1d1, rfl, hsx1d1, hb2⟩; simp only at hsx1d1 ⊢; have kk2 := And.intro (cell_below hb2 zt1c0_3 (kk1.1)) (cell_below hb2 zt1c1_3 (kk1.2)); have Rx0d0_4 := hid (Rx0d0_3.out.below (Nat.le_refl _) hb2); have Rx1d1_4 := hid (Rx1d1_3.out.below (Nat.le_refl _) hb2); have Vx0d0_4 := hid (Vx0d0_3.out.below (Nat.le_refl _) hb2); have HB_4 := hid (bel_next HB_3.out HB_3.out.size hb2); have HZ_4 := hid (Nat.le_trans HZ_3.out hb2.size); have zt1c0_4 := Nat.lt_of_lt_of_le zt1c0_3 hb2.size; have zt1c1_4 := Nat.lt_of_lt_of_le zt1c1_3 hb2.size; have Vx1d1_4 := hid hsx1d1; clear hsx1d1) | (go_at_call 7; refine (u_toTermS Rx0d0_2.out (by omega)).mono ?_; rintro e w_3 ⟨aVx0d0, pVx0d0, rfl, hsx0d0, hb1⟩; have kk1 := And.intro (cell_below hb1 zt1c0_2 t1c0_2) (cell_below hb1 zt1c1_2 t1c1_2); have Rx0d0_3 := hid (Rx0d0_2.out.below (Nat.le_refl _) hb1); have Rx1d1_3 := hid (Rx1d1_2.out.below (Nat.le_refl _) hb1); have HB_3 := hid (bel_next HB_2.out HB_2.out.size hb1); have HZ_3 := hid (Nat.le_trans HZ_2.out hb1.size); have zt1c0_3 := Nat.lt_of_lt_of_le zt1c0_2 hb1.size; have zt1c1_3 := Nat.lt_of_lt_of_le zt1c1_2 hb1.size; have Vx0d0_3 := hid hsx0d0; clear hsx0d0))
  have t1c0_5 := kk3.1
  have t1c1_5 := kk3.2
  clear kk1 hb1 kk2 hb2 kk3 hb3 t1c0_2 t1c1_2
  go_wp2_with fail
  clear Vx0d0_5
  clear Vx1d1_5
  refine (u_toTermS Rx0d0_5.out (by omega)).mono ?_
  rintro e w_6 ⟨aXx0d0, pXx0d0, rfl, hsx0d0, hb⟩
  have za := HZ_5.out
  have Rx0d0_6 := hid (Rx0d0_5.out.below (Nat.le_refl _) hb)
  have Rx1d1_6 := hid (Rx1d1_5.out.below (Nat.le_refl _) hb)
  have HB_6 := hid (bel_next HB_5.out HB_5.out.size hb)
  have HZ_6 := hid (Nat.le_trans HZ_5.out hb.size)
  have t1c0_6 := cell_below hb zt1c0_5 t1c0_5
  have t1c1_6 := cell_below hb zt1c1_5 t1c1_5
  have zt1c0_6 := Nat.lt_of_lt_of_le zt1c0_5 hb.size
  have zt1c1_6 := Nat.lt_of_lt_of_le zt1c1_5 hb.size
  clear Rx0d0_5 Rx1d1_5 HB_5 HZ_5 t1c0_5 t1c1_5 zt1c0_5 zt1c1_5
  clear hb
  obtain ⟨β1, hβe⟩ : ∃ B, B = w_6.heap.size := ⟨_, rfl⟩
  have β1_le : β0 ≤ β1 := by rw [hβe]; exact HZ_6.out
  have Xx0d0_6 := hid (hsx0d0.mk (lo := β0) (hi := β1) za (Nat.le_of_eq hβe.symm))
  have HZ_6 := hid (Nat.le_of_eq hβe)
  clear hβe hsx0d0
  clear za
  go_wp2_with fail
  refine (u_toTerm Rx1d1_6.out (by omega)).mono ?_
  rintro e w_7 ⟨aXx1d1, pXx1d1, rfl, hsx1d1, hb⟩
  simp only at hsx1d1 ⊢
  have za := HZ_6.out
  have Rx0d0_7 := hid (Rx0d0_6.out.below (Nat.le_refl _) hb)
  have Rx1d1_7 := hid (Rx1d1_6.out.below (Nat.le_refl _) hb)
  have Xx0d0_7 := hid (Xx0d0_6.out.below (Nat.le_refl _) hb)
  have HB_7 := hid (bel_next HB_6.out HB_6.out.size hb)
  have HZ_7 := hid (Nat.le_trans HZ_6.out hb.size)
  have t1c0_7 := cell_below hb zt1c0_6 t1c0_6
  have t1c1_7 := cell_below hb zt1c1_6 t1c1_6
  have zt1c0_7 := Nat.lt_of_lt_of_le zt1c0_6 hb.size
  have zt1c1_7 := Nat.lt_of_lt_of_le zt1c1_6 hb.size
  clear Rx0d0_6 Rx1d1_6 Xx0d0_6 HB_6 HZ_6 t1c0_6 t1c1_6 zt1c0_6 zt1c1_6
  clear hb
  obtain ⟨β2, hβe⟩ : ∃ B, B = w_7.heap.size := ⟨_, rfl⟩
  have β2_le : β1 ≤ β2 := by rw [hβe]; exact HZ_7.out
  have Xx1d1_7 := hid (hsx1d1.mk (lo := β1) (hi := β2) za (Nat.le_of_eq hβe.symm))
  have HZ_7 := hid (Nat.le_of_eq hβe)
  clear hβe hsx1d1
  clear za
  have hbx : Below w_7.heap.size w_7 (w_7.alloc (.cells #[.int .i64 x1d0, .slice aXx1d1 x1d1.length pXx1d1] 39)) := (Below.refl _ _).alloc (Nat.le_refl _) _
  have Rx0d0_8 := hid (Rx0d0_7.out.below (Nat.le_refl _) hbx)
  have Rx1d1_8 := hid (Rx1d1_7.out.below (Nat.le_refl _) hbx)
  have Xx0d0_8 := hid (Xx0d0_7.out.below (Nat.le_refl _) hbx)
  have Xx1d1_8 := hid (Xx1d1_7.out.below (Nat.le_refl _) hbx)
  have HB_8 := hid (bel_next HB_7.out HB_7.out.size hbx)
  have HZ_8 := hid (Nat.le_trans HZ_7.out hbx.size)
  have t1c0_8 := cell_below hbx zt1c0_7 t1c0_7
  have t1c1_8 := cell_below hbx zt1c1_7 t1c1_7
  have zt1c0_8 := Nat.lt_of_lt_of_le zt1c0_7 hbx.size
  have zt1c1_8 := Nat.lt_of_lt_of_le zt1c1_7 hbx.size
  clear hbx Rx0d0_7 Rx1d1_7 Xx0d0_7 Xx1d1_7 HB_7 HZ_7 t1c0_7 t1c1_7 zt1c0_7 zt1c1_7
  have cx1b0_8 : (w_7.alloc (.cells #[.int .i64 x1d0, .slice aXx1d1 x1d1.length pXx1d1] 39)).cell? ⟨w_7.heap.size, 0, none⟩ = some (.int .i64 x1d0) := by rw [World.cell?_alloc_at _ _ _ _ rfl]; rfl
  have zcx1b0_8 : w_7.heap.size < (w_7.alloc (.cells #[.int .i64 x1d0, .slice aXx1d1 x1d1.length pXx1d1] 39)).heap.size := by simp
  have cx1b1_8 : (w_7.alloc (.cells #[.int .i64 x1d0, .slice aXx1d1 x1d1.length pXx1d1] 39)).cell? ⟨w_7.heap.size, 1, none⟩ = some (.slice aXx1d1 x1d1.length pXx1d1) := by rw [World.cell?_alloc_at _ _ _ _ rfl]; rfl
  have zcx1b1_8 : w_7.heap.size < (w_7.alloc (.cells #[.int .i64 x1d0, .slice aXx1d1 x1d1.length pXx1d1] 39)).heap.size := by simp
  go_wp2_with fail
  generalize (w_7.alloc (.cells #[.int .i64 x1d0, .slice aXx1d1 x1d1.length pXx1d1] 39)) = w_8 at *
  refine (c_LeastOf Xx0d0_8.out Xx1d1_8.out).mono ?_
  rintro e w_9 ⟨rfl, hb⟩
  rw [HQ.out]
  have za := HZ_8.out
  have Rx0d0_9 := hid (Rx0d0_8.out.below (Nat.le_refl _) hb)
  have Rx1d1_9 := hid (Rx1d1_8.out.below (Nat.le_refl _) hb)
  have Xx0d0_9 := hid (Xx0d0_8.out.below (Nat.le_refl _) hb)
  have Xx1d1_9 := hid (Xx1d1_8.out.below (Nat.le_refl _) hb)
  have HB_9 := hid (bel_next HB_8.out HB_8.out.size hb)
  have HZ_9 := hid (Nat.le_trans HZ_8.out hb.size)
  have t1c0_9 := cell_below hb zt1c0_8 t1c0_8
  have t1c1_9 := cell_below hb zt1c1_8 t1c1_8
  have cx1b0_9 := cell_below hb zcx1b0_8 cx1b0_8
  have cx1b1_9 := cell_below hb zcx1b1_8 cx1b1_8
  have zt1c0_9 := Nat.lt_of_lt_of_le zt1c0_8 hb.size
  have zt1c1_9 := Nat.lt_of_lt_of_le zt1c1_8 hb.size
  have zcx1b0_9 := Nat.lt_of_lt_of_le zcx1b0_8 hb.size
  have zcx1b1_9 := Nat.lt_of_lt_of_le zcx1b1_8 hb.size
  clear Rx0d0_8 Rx1d1_8 Xx0d0_8 Xx1d1_8 HB_8 HZ_8 t1c0_8 t1c1_8 cx1b0_8 cx1b1_8 zt1c0_8 zt1c1_8 zcx1b0_8 zcx1b1_8
  clear hb
  clear za
  have hne0 : (q0 != q0) = false := by simp
  have hne1 : (q1 != q1) = false := by simp
  go_wp2_with fail
  refine (u_toTermS Rx0d0_9.out (by omega)).mono ?_
  rintro e w_10 ⟨aYx0d0, pYx0d0, rfl, hsx0d0, hb⟩
  have za := HZ_9.out
  have Rx0d0_10 := hid (Rx0d0_9.out.below (Nat.le_refl _) hb)
  have Rx1d1_10 := hid (Rx1d1_9.out.below (Nat.le_refl _) hb)
  have Xx0d0_10 := hid (Xx0d0_9.out.below (Nat.le_refl _) hb)
  have Xx1d1_10 := hid (Xx1d1_9.out.below (Nat.le_refl _) hb)
  have HB_10 := hid (bel_next HB_9.out HB_9.out.size hb)
  have HZ_10 := hid (Nat.le_trans HZ_9.out hb.size)
  have t1c0_10 := cell_below hb zt1c0_9 t1c0_9
  have t1c1_10 := cell_below hb zt1c1_9 t1c1_9
  have cx1b0_10 := cell_below hb zcx1b0_9 cx1b0_9
  have cx1b1_10 := cell_below hb zcx1b1_9 cx1b1_9
  have zt1c0_10 := Nat.lt_of_lt_of_le zt1c0_9 hb.size
  have zt1c1_10 := Nat.lt_of_lt_of_le zt1c1_9 hb.size
  have zcx1b0_10 := Nat.lt_of_lt_of_le zcx1b0_9 hb.size
  have zcx1b1_10 := Nat.lt_of_lt_of_le zcx1b1_9 hb.size
  clear Rx0d0_9 Rx1d1_9 Xx0d0_9 Xx1d1_9 HB_9 HZ_9 t1c0_9 t1c1_9 cx1b0_9 cx1b1_9 zt1c0_9 zt1c1_9 zcx1b0_9 zcx1b1_9
  clear hb
  obtain ⟨β3, hβe⟩ : ∃ B, B = w_10.heap.size := ⟨_, rfl⟩
  have β3_le : β2 ≤ β3 := by rw [hβe]; exact HZ_10.out
  have Yx0d0_10 := hid (hsx0d0.mk (lo := β2) (hi := β3) za (Nat.le_of_eq hβe.symm))
  have HZ_10 := hid (Nat.le_of_eq hβe)
  clear hβe hsx0d0
  clear za
  go_wp2_with fail
  refine (u_eqTermS Xx0d0_10.out Yx0d0_10.out).mono ?_
  rintro e w_11 ⟨rfl, hb⟩
  rw [show decide (x0d0 = x0d0) = true from by simp]
  have Rx0d0_11 := hid (Rx0d0_10.out.below (Nat.le_refl _) hb)
  have Rx1d1_11 := hid (Rx1d1_10.out.below (Nat.le_refl _) hb)
  have Xx0d0_11 := hid (Xx0d0_10.out.below (Nat.le_refl _) hb)
  have Xx1d1_11 := hid (Xx1d1_10.out.below (Nat.le_refl _) hb)
  have Yx0d0_11 := hid (Yx0d0_10.out.below (Nat.le_refl _) hb)
  have HB_11 := hid (bel_next HB_10.out HB_10.out.size hb)
  have HZ_11 := hid (Nat.le_trans HZ_10.out hb.size)
  have t1c0_11 := cell_below hb zt1c0_10 t1c0_10
  have t1c1_11 := cell_below hb zt1c1_10 t1c1_10
  have cx1b0_11 := cell_below hb zcx1b0_10 cx1b0_10
  have cx1b1_11 := cell_below hb zcx1b1_10 cx1b1_10
  have zt1c0_11 := Nat.lt_of_lt_of_le zt1c0_10 hb.size
  have zt1c1_11 := Nat.lt_of_lt_of_le zt1c1_10 hb.size
  have zcx1b0_11 := Nat.lt_of_lt_of_le zcx1b0_10 hb.size
  have zcx1b1_11 := Nat.lt_of_lt_of_le zcx1b1_10 hb.size
  clear Rx0d0_10 Rx1d1_10 Xx0d0_10 Xx1d1_10 Yx0d0_10 HB_10 HZ_10 t1c0_10 t1c1_10 cx1b0_10 cx1b1_10 zt1c0_10 zt1c1_10 zcx1b0_10 zcx1b1_10
  clear hb
  go_wp2_with fail
  clear Yx0d0_11
  have Rx0d0_11 := hid Rx0d0_11.out.drew
  have Rx1d1_11 := hid Rx1d1_11.out.drew
  have Xx0d0_11 := hid Xx0d0_11.out.drew
  have Xx1d1_11 := hid Xx1d1_11.out.drew
  have HB_11 := hid HB_11.out.drew
  go_region_held3 (fun w' => w'.cell? ⟨w.heap.size, 0, none⟩ = some (.int .i64 x1d0) ∧ w'.cell? ⟨w.heap.size, 1, none⟩ = some (.slice ax1d1 x1d1.length px1d1) ∧ w'.cell? ⟨w_7.heap.size, 0, none⟩ = some (.int .i64 x1d0) ∧ w'.cell? ⟨w_7.heap.size, 1, none⟩ = some (.slice aXx1d1 x1d1.length pXx1d1)) (first | exact ⟨t1c0_11, t1c1_11, cx1b0_11, cx1b1_11⟩ | exact kk1 | exact kk2) (first | (go_at_call 16; refine (u_toTerm Rx1d1_11.out (by omega)).mono ?_; rintro e w_12 ⟨aYx1d1, pYx1d1, rfl, hsx1d1, hb1⟩; simp only at hsx1d1 ⊢; have kk1 := And.intro (cell_below hb1 zt1c0_11 t1c0_11) (And.intro (cell_below hb1 zt1c1_11 t1c1_11) (And.intro (cell_below hb1 zcx1b0_11 cx1b0_11) (cell_below hb1 zcx1b1_11 cx1b1_11))); have Rx0d0_12 := hid (Rx0d0_11.out.below (Nat.le_refl _) hb1); have Rx1d1_12 := hid (Rx1d1_11.out.below (Nat.le_refl _) hb1); have Xx0d0_12 := hid (Xx0d0_11.out.below (Nat.le_refl _) hb1); have Xx1d1_12 := hid (Xx1d1_11.out.below (Nat.le_refl _) hb1); have HB_12 := hid (bel_next HB_11.out HB_11.out.size hb1); have HZ_12 := hid (Nat.le_trans HZ_11.out hb1.size); have zt1c0_12 := Nat.lt_of_lt_of_le zt1c0_11 hb1.size; have zt1c1_12 := Nat.lt_of_lt_of_le zt1c1_11 hb1.size; have zcx1b0_12 := Nat.lt_of_lt_of_le zcx1b0_11 hb1.size; have zcx1b1_12 := Nat.lt_of_lt_of_le zcx1b1_11 hb1.size; have Yx1d1_12 := hid hsx1d1; clear hsx1d1) | (go_at_call 18; refine (u_eqTerm Xx1d1_12.out Yx1d1_12.out).mono ?_; rintro e w_13 ⟨rfl, hb2⟩; rw [show decide (((x1d0, x1d1) : Term) = (x1d0, x1d1)) = true from (by simp)]; have kk2 := And.intro (cell_below hb2 zt1c0_12 (kk1.1)) (And.intro (cell_below hb2 zt1c1_12 (kk1.2.1)) (And.intro (cell_below hb2 zcx1b0_12 (kk1.2.2.1)) (cell_below hb2 zcx1b1_12 (kk1.2.2.2)))); have Rx0d0_13 := hid (Rx0d0_12.out.below (Nat.le_refl _) hb2); have Rx1d1_13 := hid (Rx1d1_12.out.below (Nat.le_refl _) hb2); have Xx0d0_13 := hid (Xx0d0_12.out.below (Nat.le_refl _) hb2); have Xx1d1_13 := hid (Xx1d1_12.out.below (Nat.le_refl _) hb2); have Yx1d1_13 := hid (Yx1d1_12.out.below (Nat.le_refl _) hb2); have HB_13 := hid (bel_next HB_12.out HB_12.out.size hb2); have HZ_13 := hid (Nat.le_trans HZ_12.out hb2.size); have zt1c0_13 := Nat.lt_of_lt_of_le zt1c0_12 hb2.size; have zt1c1_13 := Nat.lt_of_lt_of_le zt1c1_12 hb2.size; have zcx1b0_13 := Nat.lt_of_lt_of_le zcx1b0_12 hb2.size; have zcx1b1_13 := Nat.lt_of_lt_of_le zcx1b1_12 hb2.size))
  have t1c0_13 := kk2.1
  have t1c1_13 := kk2.2.1
  have cx1b0_13 := kk2.2.2.1
  have cx1b1_13 := kk2.2.2.2
  clear kk1 kk2 hb1 hb2 t1c0_11 t1c1_11 cx1b0_11 cx1b1_11
  go_wp2_with fail
  clear Yx1d1_13
  try go_wp2
  go_ret
  exact ⟨rfl, HB_13.out⟩

theorem own : ownKnob Try.prog.godebug = none := by kernel_rfl
theorem laidOut : laidOutB Try.prog = true := by kernel_rfl
set_option maxRecDepth 100000 in
theorem lifted (os : Os) (started : os.Started) (H : Type) (enc : TypeId × Value → H) :
    ReturnsInHanded {} Try.checked os 4 .any (Rows.fnExactLeastOfSpec.pre6 enc Try.prog Try.f4 Rows.fnExactLeastOfRow.domain false) (Rows.fnExactLeastOfSpec.post enc Try.prog Try.f4 false true false false) := by
  refine returnsInHanded_of_change (C := Try.checked) own started (by kernel_rfl) Try.func4
    (ChangeSpec.witness6 (enc := enc) (C := Try.checked) false ⟨#[], #[.slice none 0 0, .agg #[.int .i64 0, .slice none 0 0]], []⟩ 8 (by kernel_rfl) (by kernel_rfl) (by kernel_rfl) (by kernel_rfl)) ?_
  intro W base args ds gs before hval0 hW hcnd _
  have hval : ∀ (j : Nat) t v, Try.f4.params[j]? = some t → args[j]? = some v → Value.okWide Try.prog W .any base t v := hval0
  have hW' := hW
  obtain ⟨p, q, hA0, hV, rfl, hfz, hnd⟩ := hW
  have hA : DataW.TrodAll enc Try.prog W 0 (fun _ => true) true Try.f4.params.toList args.toList ds p := hA0
  rw [Try.params4] at hA hval
  obtain ⟨v0, vs0, d0, ds0, p0, q0, hargs, rfl, rfl, h0, r0⟩ := trodAll_cons hA
  obtain ⟨v1, vs1, d1, ds1, p1, q1, hargs1, rfl, rfl, h1, r1⟩ := trodAll_cons r0
  obtain ⟨rfl, rfl, rfl⟩ := trodAll_nil r1
  subst hargs1
  obtain rfl : args = #[v0, v1] := by cases args; simp_all
  obtain ⟨rfl, rfl⟩ := trodVars_none hV
  have k0 := h0
  have lt0 : ∀ x ∈ p0, x.block < W.heap.size := by obtain ⟨m, hm⟩ := k0; exact DataW.trod_lt m _ _ _ hm
  obtain ⟨a0, cap0, as0, rfl, s0⟩ := arg_sl Try.underlying22 op_Terms (hval 0 22 v0 rfl rfl) h0
  have k1 := h1
  have lt1 : ∀ x ∈ p1, x.block < W.heap.size := by obtain ⟨m, hm⟩ := k1; exact DataW.trod_lt m _ _ _ hm
  obtain ⟨as1, cs1, rfl, s1⟩ := arg_st Try.underlying35 op_Term (hval 1 35 v1 rfl rfl) h1
  clear hA0 hval0
  refine (walk a0 cap0 as0 as1 cs1 W s0 s1).mono fun e W' ⟨he, bel⟩ => ?_
  subst he
  exact ⟨_, rfl, _, _, _, [], _, [], hW', trodAll_mk1 (shut_bool Try.underlying4 _), (trodAll_cons_mk (Below.trod laidOut (by kernel_rfl) (of_decide_eq_true (by kernel_rfl)) k0 bel lt0) (trodAll_cons_mk (Below.trod laidOut (by kernel_rfl) (of_decide_eq_true (by kernel_rfl)) k1 bel lt1) trodAll_mk0)), rfl, bel.frame _, fun h => by cases h⟩

theorem over : Rows.fnExactLeastOfRow.holds Try.pinned (OpenSpec.ofChange Rows.fnExactLeastOfSpec) :=
  OpenClaim.holds_of_wide 4 Try.f4 rfl rfl rfl rfl rfl rfl rfl ⟨rfl, rfl, rfl, rfl, rfl⟩ rfl rfl rfl rfl rfl (by kernel_rfl) Try.func4 (by kernel_rfl)
    (of_decide_eq_true (by kernel_rfl)) (by unfold Func.isWrapper; first | (rw [if_pos (by decide +kernel)]; kernel_rfl) | (rw [if_neg (by decide +kernel)]; exact ⟨rfl, rfl⟩))
    (fun os started H enc _ => lifted os started H enc)

theorem proved : Rows.FnExactLeastOfSaid := over
#print axioms proved
end Go.Proofs.Ytkckhnpdodbffaa.fnExactLeastOf
