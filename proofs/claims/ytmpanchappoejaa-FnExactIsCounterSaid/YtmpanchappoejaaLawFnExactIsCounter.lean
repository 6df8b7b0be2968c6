/- For every sequent and every list of values the law FnExactIsCounter returns true: the program's IsCounter returns what the reference's returns, and leaves both as they were. No condition. -/
import Derived.Test.YtmpanchappoejaaRows
import Derived.Test.YtmpanchappoejaaOpn
import Derived.Test.YtmpanchappoejaaLawAid
import Derived.Test.YtmpanchappoejaaHSeq
import Derived.Test.YtmpanchappoejaaL02q
import Derived.Deep.RegionHeld3
import Derived.ProofKit
import Derived.OpenShut
import Derived.ChangeOld
namespace Go.Proofs.Ytmpanchappoejaa.fnExactIsCounter
open Go.ChangeShapes Go.WideShapes Go.ChangeAt Go.RowKit
open Go.ChangeMaps (open_string shut_string)
set_option linter.unusedVariables false

set_option maxHeartbeats 4000000 in
set_option maxRecDepth 100000 in
theorem walk (d0 : _) (cs0 : Array Value) (ax1d0 : Option Addr) (px1d0 : Nat) (x1d0 : List _) (w : World) (h0 : cSequent.rd (fun _ => True) w cs0.toList d0) (hx1d0 : SlRd cInt (fun _ => True) w ax1d0 px1d0 x1d0) : Calls Try.prog 11 #[.agg cs0, .slice ax1d0 x1d0.length px1d0] w fun e w' => e = .returned (.bool true) ∧ Below w.heap.size w w' := by
  obtain ⟨ax0d0, px0d0, ax0d2, px0d2, rfl, hx0d0, hx0d2, hix0d1⟩ := Sq_arr h0
  obtain ⟨x0d0, ⟨x0d1, x0d2⟩⟩ := d0
  simp only at hx0d0 hx0d2 ⊢
  clear h0 hix0d1
  obtain ⟨q0, hq⟩ : ∃ q, counterF (x0d0, x0d1, x0d2) x1d0 = q := ⟨_, rfl⟩
  have HQ := hid hq
  clear hq
  have hlx0d0 := hx0d0.len_le
  have hlx0d2 := hx0d2.len_le
  have hlx1d0 := hx1d0.len_le
  have HB_0 : Hid (Below w.heap.size w (w.alloc (.cells #[.slice ax0d0 x0d0.length px0d0, .int .i64 x0d1, .slice ax0d2 x0d2.length px0d2] 39))) := (Below.refl _ _).alloc (by simp <;> omega) _
  obtain ⟨β0, hβe⟩ : ∃ B, B = (w.alloc (.cells #[.slice ax0d0 x0d0.length px0d0, .int .i64 x0d1, .slice ax0d2 x0d2.length px0d2] 39)).heap.size := ⟨_, rfl⟩
  have HZ_0 : Hid (β0 ≤ (w.alloc (.cells #[.slice ax0d0 x0d0.length px0d0, .int .i64 x0d1, .slice ax0d2 x0d2.length px0d2] 39)).heap.size) := Nat.le_of_eq hβe
  have β0_le : w.heap.size + 1 ≤ β0 := by rw [hβe]; simp
  clear hβe
  have hx0d0 : SlRd cTerm (fun b => Btw 0 β0 b ∧ True) w ax0d0 px0d0 x0d0 := hx0d0.keep fun b _ hl => ⟨⟨⟨Nat.zero_le _, by omega⟩, trivial⟩, rfl⟩
  have Rx0d0_0 : Hid (SlRd cTerm (fun b => Btw 0 β0 b ∧ True) (w.alloc (.cells #[.slice ax0d0 x0d0.length px0d0, .int .i64 x0d1, .slice ax0d2 x0d2.length px0d2] 39)) ax0d0 px0d0 x0d0) := (hx0d0.alloc _)
  clear hx0d0
  have hx0d2 : SlRd cInt (fun b => Btw 0 β0 b ∧ True) w ax0d2 px0d2 x0d2 := hx0d2.keep fun b _ hl => ⟨⟨⟨Nat.zero_le _, by omega⟩, trivial⟩, rfl⟩
  have Rx0d2_0 : Hid (SlRd cInt (fun b => Btw 0 β0 b ∧ True) (w.alloc (.cells #[.slice ax0d0 x0d0.length px0d0, .int .i64 x0d1, .slice ax0d2 x0d2.length px0d2] 39)) ax0d2 px0d2 x0d2) := (hx0d2.alloc _)
  clear hx0d2
  have hx1d0 : SlRd cInt (fun b => Btw 0 β0 b ∧ True) w ax1d0 px1d0 x1d0 := hx1d0.keep fun b _ hl => ⟨⟨⟨Nat.zero_le _, by omega⟩, trivial⟩, rfl⟩
  have Rx1d0_0 : Hid (SlRd cInt (fun b => Btw 0 β0 b ∧ True) (w.alloc (.cells #[.slice ax0d0 x0d0.length px0d0, .int .i64 x0d1, .slice ax0d2 x0d2.length px0d2] 39)) ax1d0 px1d0 x1d0) := (hx1d0.alloc _)
  clear hx1d0
  have t0c0_0 : (w.alloc (.cells #[.slice ax0d0 x0d0.length px0d0, .int .i64 x0d1, .slice ax0d2 x0d2.length px0d2] 39)).cell? ⟨w.heap.size, 0, none⟩ = some (.slice ax0d0 x0d0.length px0d0) := by simp [go_sem]
  have zt0c0_0 : w.heap.size < (w.alloc (.cells #[.slice ax0d0 x0d0.length px0d0, .int .i64 x0d1, .slice ax0d2 x0d2.length px0d2] 39)).heap.size := by simp <;> omega
  have t0c1_0 : (w.alloc (.cells #[.slice ax0d0 x0d0.length px0d0, .int .i64 x0d1, .slice ax0d2 x0d2.length px0d2] 39)).cell? ⟨w.heap.size, 1, none⟩ = some (.int .i64 x0d1) := by simp [go_sem]
  have zt0c1_0 : w.heap.size < (w.alloc (.cells #[.slice ax0d0 x0d0.length px0d0, .int .i64 x0d1, .slice ax0d2 x0d2.length px0d2] 39)).heap.size := by simp <;> omega
  have t0c2_0 : (w.alloc (.cells #[.slice ax0d0 x0d0.length px0d0, .int .i64 x0d1, .slice ax0d2 x0d2.length px0d2] 39)).cell? ⟨w.heap.size, 2, none⟩ = some (.slice ax0d2 x0d2.length px0d2) := by simp [go_sem]
  have zt0c2_0 : w.heap.size < (w.alloc (.cells #[.slice ax0d0 x0d0.length px0d0, .int .i64 x0d1, .slice ax0d2 x0d2.length px0d2] 39)).heap.size := by simp <;> omega
  by_cases hsz1 : x1d0.length ≤ 1048576
  · skip
    obtain ⟨r0, hr⟩ : ∃ r, szR 1048576 (((szTs x0d0 + x0d2.length) : Nat) : Int) = r := ⟨_, rfl⟩
    have HR0 := hid hr
    clear hr
    by_cases hneg0 : r0 < 0
    · skip
      go_enter Try.func11, Try.ntmps11
      go_wp2_with fail
      generalize (w.alloc (.cells #[.slice ax0d0 x0d0.length px0d0, .int .i64 x0d1, .slice ax0d2 x0d2.length px0d2] 39)) = w_0 at *
      refine (u_szSequent Rx0d0_0.out Rx0d2_0.out (by omega) (by omega)).mono ?_
      rintro e w_1 ⟨rfl, hb⟩
      rw [HR0.out]
      have Rx0d0_1 := hid (Rx0d0_0.out.below (Nat.le_refl _) hb)
      have Rx0d2_1 := hid (Rx0d2_0.out.below (Nat.le_refl _) hb)
      have Rx1d0_1 := hid (Rx1d0_0.out.below (Nat.le_refl _) hb)
      have HB_1 := hid (bel_next HB_0.out HB_0.out.size hb)
      have HZ_1 := hid (Nat.le_trans HZ_0.out hb.size)
      have t0c0_1 := cell_below hb zt0c0_0 t0c0_0
      have t0c1_1 := cell_below hb zt0c1_0 t0c1_0
      have t0c2_1 := cell_below hb zt0c2_0 t0c2_0
      have zt0c0_1 := Nat.lt_of_lt_of_le zt0c0_0 hb.size
      have zt0c1_1 := Nat.lt_of_lt_of_le zt0c1_0 hb.size
      have zt0c2_1 := Nat.lt_of_lt_of_le zt0c2_0 hb.size
      clear Rx0d0_0 Rx0d2_0 Rx1d0_0 HB_0 HZ_0 t0c0_0 t0c1_0 t0c2_0 zt0c0_0 zt0c1_0 zt0c2_0
      clear hb
      go_wp2_with fail
      go_wp2
      go_ret
      exact ⟨rfl, HB_1.out⟩
    have hle := (szR_ge (left := 1048576) (n := (szTs x0d0 + x0d2.length)) (by rw [HR0.out]; omega))
    rw [HR0.out] at hle
    obtain ⟨hle, hle'⟩ := hle
    have hsz0 : (szTs x0d0 + x0d2.length) ≤ 1048576 := by omega
    have hlr0 : r0 ≤ 1048576 := by omega
    clear hle hle'
    go_enter Try.func11, Try.ntmps11
    go_wp2_with fail
    generalize (w.alloc (.cells #[.slice ax0d0 x0d0.length px0d0, .int .i64 x0d1, .slice ax0d2 x0d2.length px0d2] 39)) = w_0 at *
    refine (u_szSequent Rx0d0_0.out Rx0d2_0.out (by omega) (by omega)).mono ?_
    rintro e w_1 ⟨rfl, hb⟩
    rw [HR0.out]
    have Rx0d0_1 := hid (Rx0d0_0.out.below (Nat.le_refl _) hb)
    have Rx0d2_1 := hid (Rx0d2_0.out.below (Nat.le_refl _) hb)
    have Rx1d0_1 := hid (Rx1d0_0.out.below (Nat.le_refl _) hb)
    have HB_1 := hid (bel_next HB_0.out HB_0.out.size hb)
    have HZ_1 := hid (Nat.le_trans HZ_0.out hb.size)
    have t0c0_1 := cell_below hb zt0c0_0 t0c0_0
    have t0c1_1 := cell_below hb zt0c1_0 t0c1_0
    have t0c2_1 := cell_below hb zt0c2_0 t0c2_0
    have zt0c0_1 := Nat.lt_of_lt_of_le zt0c0_0 hb.size
    have zt0c1_1 := Nat.lt_of_lt_of_le zt0c1_0 hb.size
    have zt0c2_1 := Nat.lt_of_lt_of_le zt0c2_0 hb.size
    clear Rx0d0_0 Rx0d2_0 Rx1d0_0 HB_0 HZ_0 t0c0_0 t0c1_0 t0c2_0 zt0c0_0 zt0c1_0 zt0c2_0
    clear hb
    go_wp2_with fail
    refine (u_toSequent Rx0d0_1.out Rx0d2_1.out (by omega)).mono ?_
    rintro e w_2 ⟨aVx0d0, pVx0d0, aVx0d2, pVx0d2, rfl, hsx0d0, hsx0d2, hb⟩
    simp only at hsx0d0 hsx0d2 ⊢
    have za := HZ_1.out
    have Rx0d0_2 := hid (Rx0d0_1.out.below (Nat.le_refl _) hb)
    have Rx0d2_2 := hid (Rx0d2_1.out.below (Nat.le_refl _) hb)
    have Rx1d0_2 := hid (Rx1d0_1.out.below (Nat.le_refl _) hb)
    have HB_2 := hid (bel_next HB_1.out HB_1.out.size hb)
    have HZ_2 := hid (Nat.le_trans HZ_1.out hb.size)
    have t0c0_2 := cell_below hb zt0c0_1 t0c0_1
    have t0c1_2 := cell_below hb zt0c1_1 t0c1_1
    have t0c2_2 := cell_below hb zt0c2_1 t0c2_1
    have zt0c0_2 := Nat.lt_of_lt_of_le zt0c0_1 hb.size
    have zt0c1_2 := Nat.lt_of_lt_of_le zt0c1_1 hb.size
    have zt0c2_2 := Nat.lt_of_lt_of_le zt0c2_1 hb.size
    clear Rx0d0_1 Rx0d2_1 Rx1d0_1 HB_1 HZ_1 t0c0_1 t0c1_1 t0c2_1 zt0c0_1 zt0c1_1 zt0c2_1
    clear hb
    obtain ⟨β1, hβe⟩ : ∃ B, B = w_2.heap.size := ⟨_, rfl⟩
    have β1_le : β0 ≤ β1 := by rw [hβe]; exact HZ_2.out
    have Vx0d0_2 := hid (hsx0d0.mk (lo := β0) (hi := β1) za (Nat.le_of_eq hβe.symm))
    have Vx0d2_2 := hid (hsx0d2.mk (lo := β0) (hi := β1) za (Nat.le_of_eq hβe.symm))
    have HZ_2 := hid (Nat.le_of_eq hβe)
    clear hβe hsx0d0 hsx0d2
    clear za
    go_wp2_with fail
    refine (u_toInt64S Rx1d0_2.out (by omega)).mono ?_
    rintro e w_3 ⟨aVx1d0, pVx1d0, rfl, hsx1d0, hb⟩
    have za := HZ_2.out
    have Rx0d0_3 := hid (Rx0d0_2.out.below (Nat.le_refl _) hb)
    have Rx0d2_3 := hid (Rx0d2_2.out.below (Nat.le_refl _) hb)
    have Rx1d0_3 := hid (Rx1d0_2.out.below (Nat.le_refl _) hb)
    have Vx0d0_3 := hid (Vx0d0_2.out.below (Nat.le_refl _) hb)
    have Vx0d2_3 := hid (Vx0d2_2.out.below (Nat.le_refl _) hb)
    have HB_3 := hid (bel_next HB_2.out HB_2.out.size hb)
    have HZ_3 := hid (Nat.le_trans HZ_2.out hb.size)
    have t0c0_3 := cell_below hb zt0c0_2 t0c0_2
    have t0c1_3 := cell_below hb zt0c1_2 t0c1_2
    have t0c2_3 := cell_below hb zt0c2_2 t0c2_2
    have zt0c0_3 := Nat.lt_of_lt_of_le zt0c0_2 hb.size
    have zt0c1_3 := Nat.lt_of_lt_of_le zt0c1_2 hb.size
    have zt0c2_3 := Nat.lt_of_lt_of_le zt0c2_2 hb.size
    clear Rx0d0_2 Rx0d2_2 Rx1d0_2 Vx0d0_2 Vx0d2_2 HB_2 HZ_2 t0c0_2 t0c1_2 t0c2_2 zt0c0_2 zt0c1_2 zt0c2_2
    clear hb
    obtain ⟨β2, hβe⟩ : ∃ B, B = w_3.heap.size := ⟨_, rfl⟩
    have β2_le : β1 ≤ β2 := by rw [hβe]; exact HZ_3.out
    have Vx1d0_3 := hid (hsx1d0.mk (lo := β1) (hi := β2) za (Nat.le_of_eq hβe.symm))
    have HZ_3 := hid (Nat.le_of_eq hβe)
    clear hβe hsx1d0
    clear za
    go_wp2_with fail
    refine (c_sIsCounter Vx0d0_3.out Vx0d2_3.out Vx1d0_3.out).mono ?_
    rintro e w_4 ⟨rfl, hb⟩
    rw [HQ.out]
    have za := HZ_3.out
    have Rx0d0_4 := hid (Rx0d0_3.out.below (Nat.le_refl _) hb)
    have Rx0d2_4 := hid (Rx0d2_3.out.below (Nat.le_refl _) hb)
    have Rx1d0_4 := hid (Rx1d0_3.out.below (Nat.le_refl _) hb)
    have Vx0d0_4 := hid (Vx0d0_3.out.below (Nat.le_refl _) hb)
    have Vx0d2_4 := hid (Vx0d2_3.out.below (Nat.le_refl _) hb)
    have Vx1d0_4 := hid (Vx1d0_3.out.below (Nat.le_refl _) hb)
    have HB_4 := hid (bel_next HB_3.out HB_3.out.size hb)
    have HZ_4 := hid (Nat.le_trans HZ_3.out hb.size)
    have t0c0_4 := cell_below hb zt0c0_3 t0c0_3
    have t0c1_4 := cell_below hb zt0c1_3 t0c1_3
    have t0c2_4 := cell_below hb zt0c2_3 t0c2_3
    have zt0c0_4 := Nat.lt_of_lt_of_le zt0c0_3 hb.size
    have zt0c1_4 := Nat.lt_of_lt_of_le zt0c1_3 hb.size
    have zt0c2_4 := Nat.lt_of_lt_of_le zt0c2_3 hb.size
    clear Rx0d0_3 Rx0d2_3 Rx1d0_3 Vx0d0_3 Vx0d2_3 Vx1d0_3 HB_3 HZ_3 t0c0_3 t0c1_3 t0c2_3 zt0c0_3 zt0c1_3 zt0c2_3
    clear hb
    clear za
    go_wp2_with fail
    clear Vx0d0_4
    clear Vx0d2_4
    clear Vx1d0_4
    refine (u_toSequent Rx0d0_4.out Rx0d2_4.out (by omega)).mono ?_
    rintro e w_5 ⟨aXx0d0, pXx0d0, aXx0d2, pXx0d2, rfl, hsx0d0, hsx0d2, hb⟩
    simp only at hsx0d0 hsx0d2 ⊢
    have za := HZ_4.out
    have Rx0d0_5 := hid (Rx0d0_4.out.below (Nat.le_refl _) hb)
    have Rx0d2_5 := hid (Rx0d2_4.out.below (Nat.le_refl _) hb)
    have Rx1d0_5 := hid (Rx1d0_4.out.below (Nat.le_refl _) hb)
    have HB_5 := hid (bel_next HB_4.out HB_4.out.size hb)
    have HZ_5 := hid (Nat.le_trans HZ_4.out hb.size)
    have t0c0_5 := cell_below hb zt0c0_4 t0c0_4
    have t0c1_5 := cell_below hb zt0c1_4 t0c1_4
    have t0c2_5 := cell_below hb zt0c2_4 t0c2_4
    have zt0c0_5 := Nat.lt_of_lt_of_le zt0c0_4 hb.size
    have zt0c1_5 := Nat.lt_of_lt_of_le zt0c1_4 hb.size
    have zt0c2_5 := Nat.lt_of_lt_of_le zt0c2_4 hb.size
    clear Rx0d0_4 Rx0d2_4 Rx1d0_4 HB_4 HZ_4 t0c0_4 t0c1_4 t0c2_4 zt0c0_4 zt0c1_4 zt0c2_4
    clear hb
    obtain ⟨β3, hβe⟩ : ∃ B, B = w_5.heap.size := ⟨_, rfl⟩
    have β3_le : β2 ≤ β3 := by rw [hβe]; exact HZ_5.out
    have Xx0d0_5 := hid (hsx0d0.mk (lo := β2) (hi := β3) za (Nat.le_of_eq hβe.symm))
    have Xx0d2_5 := hid (hsx0d2.mk (lo := β2) (hi := β3) za (Nat.le_of_eq hβe.symm))
    have HZ_5 := hid (Nat.le_of_eq hβe)
    clear hβe hsx0d0 hsx0d2
    clear za
    have hbx : Below w_5.heap.size w_5 (w_5.alloc (.cells #[.slice aXx0d0 x0d0.length pXx0d0, .int .i64 x0d1, .slice aXx0d2 x0d2.length pXx0d2] 45)) := (Below.refl _ _).alloc (Nat.le_refl _) _
    have Rx0d0_6 := hid (Rx0d0_5.out.below (Nat.le_refl _) hbx)
    have Rx0d2_6 := hid (Rx0d2_5.out.below (Nat.le_refl _) hbx)
    have Rx1d0_6 := hid (Rx1d0_5.out.below (Nat.le_refl _) hbx)
    have Xx0d0_6 := hid (Xx0d0_5.out.below (Nat.le_refl _) hbx)
    have Xx0d2_6 := hid (Xx0d2_5.out.below (Nat.le_refl _) hbx)
    have HB_6 := hid (bel_next HB_5.out HB_5.out.size hbx)
    have HZ_6 := hid (Nat.le_trans HZ_5.out hbx.size)
    have t0c0_6 := cell_below hbx zt0c0_5 t0c0_5
    have t0c1_6 := cell_below hbx zt0c1_5 t0c1_5
    have t0c2_6 := cell_below hbx zt0c2_5 t0c2_5
    have zt0c0_6 := Nat.lt_of_lt_of_le zt0c0_5 hbx.size
    have zt0c1_6 := Nat.lt_of_lt_of_le zt0c1_5 hbx.size
    have zt0c2_6 := Nat.lt_of_lt_of_le zt0c2_5 hbx.size
    clear hbx Rx0d0_5 Rx0d2_5 Rx1d0_5 Xx0d0_5 Xx0d2_5 HB_5 HZ_5 t0c0_5 t0c1_5 t0c2_5 zt0c0_5 zt0c1_5 zt0c2_5
    have cx0b0_6 : (w_5.alloc (.cells #[.slice aXx0d0 x0d0.length pXx0d0, .int .i64 x0d1, .slice aXx0d2 x0d2.length pXx0d2] 45)).cell? ⟨w_5.heap.size, 0, none⟩ = some (.slice aXx0d0 x0d0.length pXx0d0) := by rw [World.cell?_alloc_at _ _ _ _ rfl]; rfl
    have zcx0b0_6 : w_5.heap.size < (w_5.alloc (.cells #[.slice aXx0d0 x0d0.length pXx0d0, .int .i64 x0d1, .slice aXx0d2 x0d2.length pXx0d2] 45)).heap.size := by simp
    have cx0b1_6 : (w_5.alloc (.cells #[.slice aXx0d0 x0d0.length pXx0d0, .int .i64 x0d1, .slice aXx0d2 x0d2.length pXx0d2] 45)).cell? ⟨w_5.heap.size, 1, none⟩ = some (.int .i64 x0d1) := by rw [World.cell?_alloc_at _ _ _ _ rfl]; rfl
    have zcx0b1_6 : w_5.heap.size < (w_5.alloc (.cells #[.slice aXx0d0 x0d0.length pXx0d0, .int .i64 x0d1, .slice aXx0d2 x0d2.length pXx0d2] 45)).heap.size := by simp
    have cx0b2_6 : (w_5.alloc (.cells #[.slice aXx0d0 x0d0.length pXx0d0, .int .i64 x0d1, .slice aXx0d2 x0d2.length pXx0d2] 45)).cell? ⟨w_5.heap.size, 2, none⟩ = some (.slice aXx0d2 x0d2.length pXx0d2) := by rw [World.cell?_alloc_at _ _ _ _ rfl]; rfl
    have zcx0b2_6 : w_5.heap.size < (w_5.alloc (.cells #[.slice aXx0d0 x0d0.length pXx0d0, .int .i64 x0d1, .slice aXx0d2 x0d2.length pXx0d2] 45)).heap.size := by simp
    go_wp2_with fail
    generalize (w_5.alloc (.cells #[.slice aXx0d0 x0d0.length pXx0d0, .int .i64 x0d1, .slice aXx0d2 x0d2.length pXx0d2] 45)) = w_6 at *
    refine (u_toInt64S Rx1d0_6.out (by omega)).mono ?_
    rintro e w_7 ⟨aXx1d0, pXx1d0, rfl, hsx1d0, hb⟩
    have za := HZ_6.out
    have Rx0d0_7 := hid (Rx0d0_6.out.below (Nat.le_refl _) hb)
    have Rx0d2_7 := hid (Rx0d2_6.out.below (Nat.le_refl _) hb)
    have Rx1d0_7 := hid (Rx1d0_6.out.below (Nat.le_refl _) hb)
    have Xx0d0_7 := hid (Xx0d0_6.out.below (Nat.le_refl _) hb)
    have Xx0d2_7 := hid (Xx0d2_6.out.below (Nat.le_refl _) hb)
    have HB_7 := hid (bel_next HB_6.out HB_6.out.size hb)
    have HZ_7 := hid (Nat.le_trans HZ_6.out hb.size)
    have t0c0_7 := cell_below hb zt0c0_6 t0c0_6
    have t0c1_7 := cell_below hb zt0c1_6 t0c1_6
    have t0c2_7 := cell_below hb zt0c2_6 t0c2_6
    have cx0b0_7 := cell_below hb zcx0b0_6 cx0b0_6
    have cx0b1_7 := cell_below hb zcx0b1_6 cx0b1_6
    have cx0b2_7 := cell_below hb zcx0b2_6 cx0b2_6
    have zt0c0_7 := Nat.lt_of_lt_of_le zt0c0_6 hb.size
    have zt0c1_7 := Nat.lt_of_lt_of_le zt0c1_6 hb.size
    have zt0c2_7 := Nat.lt_of_lt_of_le zt0c2_6 hb.size
    have zcx0b0_7 := Nat.lt_of_lt_of_le zcx0b0_6 hb.size
    have zcx0b1_7 := Nat.lt_of_lt_of_le zcx0b1_6 hb.size
    have zcx0b2_7 := Nat.lt_of_lt_of_le zcx0b2_6 hb.size
    clear Rx0d0_6 Rx0d2_6 Rx1d0_6 Xx0d0_6 Xx0d2_6 HB_6 HZ_6 t0c0_6 t0c1_6 t0c2_6 cx0b0_6 cx0b1_6 cx0b2_6 zt0c0_6 zt0c1_6 zt0c2_6 zcx0b0_6 zcx0b1_6 zcx0b2_6
    clear hb
    obtain ⟨β4, hβe⟩ : ∃ B, B = w_7.heap.size := ⟨_, rfl⟩
    have β4_le : β3 ≤ β4 := by rw [hβe]; exact HZ_7.out
    have Xx1d0_7 := hid (hsx1d0.mk (lo := β3) (hi := β4) za (Nat.le_of_eq hβe.symm))
    have HZ_7 := hid (Nat.le_of_eq hβe)
    clear hβe hsx1d0
    clear za
    go_wp2_with fail
    refine (c_IsCounter Xx0d0_7.out Xx0d2_7.out Xx1d0_7.out).mono ?_
    rintro e w_8 ⟨rfl, hb⟩
    rw [HQ.out]
    have za := HZ_7.out
    have Rx0d0_8 := hid (Rx0d0_7.out.below (Nat.le_refl _) hb)
    have Rx0d2_8 := hid (Rx0d2_7.out.below (Nat.le_refl _) hb)
    have Rx1d0_8 := hid (Rx1d0_7.out.below (Nat.le_refl _) hb)
    have Xx0d0_8 := hid (Xx0d0_7.out.below (Nat.le_refl _) hb)
    have Xx0d2_8 := hid (Xx0d2_7.out.below (Nat.le_refl _) hb)
    have Xx1d0_8 := hid (Xx1d0_7.out.below (Nat.le_refl _) hb)
    have HB_8 := hid (bel_next HB_7.out HB_7.out.size hb)
    have HZ_8 := hid (Nat.le_trans HZ_7.out hb.size)
    have t0c0_8 := cell_below hb zt0c0_7 t0c0_7
    have t0c1_8 := cell_below hb zt0c1_7 t0c1_7
    have t0c2_8 := cell_below hb zt0c2_7 t0c2_7
    have cx0b0_8 := cell_below hb zcx0b0_7 cx0b0_7
    have cx0b1_8 := cell_below hb zcx0b1_7 cx0b1_7
    have cx0b2_8 := cell_below hb zcx0b2_7 cx0b2_7
    have zt0c0_8 := Nat.lt_of_lt_of_le zt0c0_7 hb.size
    have zt0c1_8 := Nat.lt_of_lt_of_le zt0c1_7 hb.size
    have zt0c2_8 := Nat.lt_of_lt_of_le zt0c2_7 hb.size
    have zcx0b0_8 := Nat.lt_of_lt_of_le zcx0b0_7 hb.size
    have zcx0b1_8 := Nat.lt_of_lt_of_le zcx0b1_7 hb.size
    have zcx0b2_8 := Nat.lt_of_lt_of_le zcx0b2_7 hb.size
    clear Rx0d0_7 Rx0d2_7 Rx1d0_7 Xx0d0_7 Xx0d2_7 Xx1d0_7 HB_7 HZ_7 t0c0_7 t0c1_7 t0c2_7 cx0b0_7 cx0b1_7 cx0b2_7 zt0c0_7 zt0c1_7 zt0c2_7 zcx0b0_7 zcx0b1_7 zcx0b2_7
    clear hb
    clear za
    have hne0 : (q0 != q0) = false := by simp
    go_wp2_with fail
    have Rx0d0_8 := hid Rx0d0_8.out.drew
    have Rx0d2_8 := hid Rx0d2_8.out.drew
    have Rx1d0_8 := hid Rx1d0_8.out.drew
    have Xx0d0_8 := hid Xx0d0_8.out.drew
    have Xx0d2_8 := hid Xx0d2_8.out.drew
    have Xx1d0_8 := hid Xx1d0_8.out.drew
    have HB_8 := hid HB_8.out.drew
    go_region_held3 (fun w' => w'.cell? ⟨w.heap.size, 0, none⟩ = some (.slice ax0d0 x0d0.length px0d0) ∧ w'.cell? ⟨w.heap.size, 1, none⟩ = some (.int .i64 x0d1) ∧ w'.cell? ⟨w.heap.size, 2, none⟩ = some (.slice ax0d2 x0d2.length px0d2) ∧ w'.cell? ⟨w_5.heap.size, 0, none⟩ = some (.slice aXx0d0 x0d0.length pXx0d0) ∧ w'.cell? ⟨w_5.heap.size, 1, none⟩ = some (.int .i64 x0d1) ∧ w'.cell? ⟨w_5.heap.size, 2, none⟩ = some (.slice aXx0d2 x0d2.length pXx0d2)) (first | exact ⟨t0c0_8, t0c1_8, t0c2_8, cx0b0_8, cx0b1_8, cx0b2_8⟩ | exact kk1 | exact kk2) (first | (go_at_call 26; refine (u_toSequent Rx0d0_8.out Rx0d2_8.out (by omega)).mono ?_; rintro e w_9 ⟨aYx0d0, pYx0d0, aYx0d2, pYx0d2, rfl, hsx0d0, hsx0d2, hb1⟩; simp only at hsx0d0 hsx0d2 ⊢; have kk1 := And.intro (cell_below hb1 zt0c0_8 t0c0_8) (And.intro (cell_below hb1 zt0c1_8 t0c1_8) (And.intro (cell_below hb1 zt0c2_8 t0c2_8) (And.intro (cell_below hb1 zcx0b0_8 cx0b0_8) (And.intro (cell_below hb1 zcx0b1_8 cx0b1_8) (cell_below hb1 zcx0b2_8 cx0b2_8))))); have Rx0d0_9 := hid (Rx0d0_8.out.below (Nat.le_refl _) hb1); have Rx0d2_9 := hid (Rx0d2_8.out.below (Nat.le_refl _) hb1); have Rx1d0_9 := hid (Rx1d0_8.out.below (Nat.le_refl _) hb1); have Xx0d0_9 := hid (Xx0d0_8.out.below (Nat.le_refl _) hb1); have Xx0d2_9 := hid (Xx0d2_8.out.below (Nat.le_refl _) hb1); have Xx1d0_9 := hid (Xx1d0_8.out.below (Nat.le_refl _) hb1); have HB_9 := hid (bel_next HB_8.out HB_8.out.size hb1); have HZ_9 := hid (Nat.le_trans HZ_8.out hb1.size); have zt0c0_9 := Nat.lt_of_lt_of_le zt0c0_8 hb1.size; have zt0c1_9 := Nat.lt_of_lt_of_le zt0c1_8 hb1.size; have zt0c2_9 := Nat.lt_of_lt_of_le zt0c2_8 hb1.size; have zcx0b0_9 := Nat.lt_of_lt_of_le zcx0b0_8 hb1.size; have zcx0b1_9 := Nat.lt_of_lt_of_le zcx0b1_8 hb1.size; have zcx0b2_9 := Nat.lt_of_lt_of_le zcx0b2_8 hb1.size; have Yx0d0_9 := hid hsx0d0; have Yx0d2_9 := hid hsx0d2; clear hsx0d0 hsx0d2) | (go_at_call 28; refine (u_eqSequent Xx0d0_9.out Xx0d2_9.out Yx0d0_9.out Yx0d2_9.out).mono ?_; rintro e w_10 ⟨rfl, hb2⟩; rw [show decide (((x0d0, (x0d1, x0d2)) : Sq) = (x0d0, (x0d1, x0d2))) = true from (by simp)]; have kk2 := And.intro (cell_below hb2 zt0c0_9 (kk1.1)) (And.intro (cell_below hb2 zt0c1_9 (kk1.2.1)) (And.intro (cell_below hb2 zt0c2_9 (kk1.2.2.1)) (And.intro (cell_below hb2 zcx0b0_9 (kk1.2.2.2.1)) (And.intro (cell_below hb2 zcx0b1_9 (kk1.2.2.2.2.1)) (cell_below hb2 zcx0b2_9 (kk1.2.2.2.2.2)))))); have Rx0d0_10 := hid (Rx0d0_9.out.below (Nat.le_refl _) hb2); have Rx0d2_10 := hid (Rx0d2_9.out.below (Nat.le_refl _) hb2); have Rx1d0_10 := hid (Rx1d0_9.out.below (Nat.le_refl _) hb2); have Xx0d0_10 := hid (Xx0d0_9.out.below (Nat.le_refl _) hb2); have Xx0d2_10 := hid (Xx0d2_9.out.below (Nat.le_refl _) hb2); have Xx1d0_10 := hid (Xx1d0_9.out.below (Nat.le_refl _) hb2); have Yx0d0_10 := hid (Yx0d0_9.out.below (Nat.le_refl _) hb2); have Yx0d2_10 := hid (Yx0d2_9.out.below (Nat.le_refl _) hb2); have HB_10 := hid (bel_next HB_9.out HB_9.out.size hb2); have HZ_10 := hid (Nat.le_trans HZ_9.out hb2.size); have zt0c0_10 := Nat.lt_of_lt_of_le zt0c0_9 hb2.size; have zt0c1_10 := Nat.lt_of_lt_of_le zt0c1_9 hb2.size; have zt0c2_10 := Nat.lt_of_lt_of_le zt0c2_9 hb2.size; have zcx0b0_10 := Nat.lt_of_lt_of_le zcx0b0_9 hb2.size; have zcx0b1_10 := Nat.lt_of_lt_of_le zcx0b1_9 hb2.size; have zcx0b2_10 := Nat.lt_of_lt_of_le zcx0b2_9 hb2.size))
    have t0c0_10 := kk2.1
    have t0c1_10 := kk2.2.1
    have t0c2_10 := kk2.2.2.1
    have cx0b0_10 := kk2.2.2.2.1
    have cx0b1_10 := kk2.2.2.2.2.1
    have cx0b2_10 := kk2.2.2.2.2.2
    clear kk1 kk2 hb1 hb2 t0c0_8 t0c1_8 t0c2_8 cx0b0_8 cx0b1_8 cx0b2_8
    go_wp2_with fail
    clear Yx0d0_10
    clear Yx0d2_10
    refine (u_toInt64S Rx1d0_10.out (by omega)).mono ?_
    rintro e w_11 ⟨aYx1d0, pYx1d0, rfl, hsx1d0, hb⟩
    have za := HZ_10.out
    have Rx0d0_11 := hid (Rx0d0_10.out.below (Nat.le_refl _) hb)
    have Rx0d2_11 := hid (Rx0d2_10.out.below (Nat.le_refl _) hb)
    have Rx1d0_11 := hid (Rx1d0_10.out.below (Nat.le_refl _) hb)
    have Xx0d0_11 := hid (Xx0d0_10.out.below (Nat.le_refl _) hb)
    have Xx0d2_11 := hid (Xx0d2_10.out.below (Nat.le_refl _) hb)
    have Xx1d0_11 := hid (Xx1d0_10.out.below (Nat.le_refl _) hb)
    have HB_11 := hid (bel_next HB_10.out HB_10.out.size hb)
    have HZ_11 := hid (Nat.le_trans HZ_10.out hb.size)
    have t0c0_11 := cell_below hb zt0c0_10 t0c0_10
    have t0c1_11 := cell_below hb zt0c1_10 t0c1_10
    have t0c2_11 := cell_below hb zt0c2_10 t0c2_10
    have cx0b0_11 := cell_below hb zcx0b0_10 cx0b0_10
    have cx0b1_11 := cell_below hb zcx0b1_10 cx0b1_10
    have cx0b2_11 := cell_below hb zcx0b2_10 cx0b2_10
    have zt0c0_11 := Nat.lt_of_lt_of_le zt0c0_10 hb.size
    have zt0c1_11 := Nat.lt_of_lt_of_le zt0c1_10 hb.size
    have zt0c2_11 := Nat.lt_of_lt_of_le zt0c2_10 hb.size
    have zcx0b0_11 := Nat.lt_of_lt_of_le zcx0b0_10 hb.size
    have zcx0b1_11 := Nat.lt_of_lt_of_le zcx0b1_10 hb.size
    have zcx0b2_11 := Nat.lt_of_lt_of_le zcx0b2_10 hb.size
    clear Rx0d0_10 Rx0d2_10 Rx1d0_10 Xx0d0_10 Xx0d2_10 Xx1d0_10 HB_10 HZ_10 t0c0_10 t0c1_10 t0c2_10 cx0b0_10 cx0b1_10 cx0b2_10 zt0c0_10 zt0c1_10 zt0c2_10 zcx0b0_10 zcx0b1_10 zcx0b2_10
    clear hb
    obtain ⟨β5, hβe⟩ : ∃ B, B = w_11.heap.size := ⟨_, rfl⟩
    have β5_le : β4 ≤ β5 := by rw [hβe]; exact HZ_11.out
    have Yx1d0_11 := hid (hsx1d0.mk (lo := β4) (hi := β5) za (Nat.le_of_eq hβe.symm))
    have HZ_11 := hid (Nat.le_of_eq hβe)
    clear hβe hsx1d0
    clear za
    go_wp2_with fail
    refine (u_eqInt64S Xx1d0_11.out Yx1d0_11.out).mono ?_
    rintro e w_12 ⟨rfl, hb⟩
    rw [show decide (x1d0 = x1d0) = true from by simp]
    have Rx0d0_12 := hid (Rx0d0_11.out.below (Nat.le_refl _) hb)
    have Rx0d2_12 := hid (Rx0d2_11.out.below (Nat.le_refl _) hb)
    have Rx1d0_12 := hid (Rx1d0_11.out.below (Nat.le_refl _) hb)
    have Xx0d0_12 := hid (Xx0d0_11.out.below (Nat.le_refl _) hb)
    have Xx0d2_12 := hid (Xx0d2_11.out.below (Nat.le_refl _) hb)
    have Xx1d0_12 := hid (Xx1d0_11.out.below (Nat.le_refl _) hb)
    have Yx1d0_12 := hid (Yx1d0_11.out.below (Nat.le_refl _) hb)
    have HB_12 := hid (bel_next HB_11.out HB_11.out.size hb)
    have HZ_12 := hid (Nat.le_trans HZ_11.out hb.size)
    have t0c0_12 := cell_below hb zt0c0_11 t0c0_11
    have t0c1_12 := cell_below hb zt0c1_11 t0c1_11
    have t0c2_12 := cell_below hb zt0c2_11 t0c2_11
    have cx0b0_12 := cell_below hb zcx0b0_11 cx0b0_11
    have cx0b1_12 := cell_below hb zcx0b1_11 cx0b1_11
    have cx0b2_12 := cell_below hb zcx0b2_11 cx0b2_11
    have zt0c0_12 := Nat.lt_of_lt_of_le zt0c0_11 hb.size
    have zt0c1_12 := Nat.lt_of_lt_of_le zt0c1_11 hb.size
    have zt0c2_12 := Nat.lt_of_lt_of_le zt0c2_11 hb.size
    have zcx0b0_12 := Nat.lt_of_lt_of_le zcx0b0_11 hb.size
    have zcx0b1_12 := Nat.lt_of_lt_of_le zcx0b1_11 hb.size
    have zcx0b2_12 := Nat.lt_of_lt_of_le zcx0b2_11 hb.size
    clear Rx0d0_11 Rx0d2_11 Rx1d0_11 Xx0d0_11 Xx0d2_11 Xx1d0_11 Yx1d0_11 HB_11 HZ_11 t0c0_11 t0c1_11 t0c2_11 cx0b0_11 cx0b1_11 cx0b2_11 zt0c0_11 zt0c1_11 zt0c2_11 zcx0b0_11 zcx0b1_11 zcx0b2_11
    clear hb
    go_wp2_with fail
    clear Yx1d0_12
    try go_wp2
    go_ret
    exact ⟨rfl, HB_12.out⟩
  · skip
    go_enter Try.func11, Try.ntmps11
    go_wp2_with fail
    generalize (w.alloc (.cells #[.slice ax0d0 x0d0.length px0d0, .int .i64 x0d1, .slice ax0d2 x0d2.length px0d2] 39)) = w_0 at *
    go_wp2
    go_ret
    exact ⟨rfl, HB_0.out⟩

theorem own : ownKnob Try.prog.godebug = none := by kernel_rfl
theorem laidOut : laidOutB Try.prog = true := by kernel_rfl
set_option maxRecDepth 100000 in
theorem lifted (os : Os) (started : os.Started) (H : Type) (enc : TypeId × Value → H) :
    ReturnsInHanded {} Try.checked os 11 .any (Rows.fnExactIsCounterSpec.pre6 enc Try.prog Try.f11 Rows.fnExactIsCounterRow.domain false) (Rows.fnExactIsCounterSpec.post enc Try.prog Try.f11 false true false false) := by
  refine returnsInHanded_of_change (C := Try.checked) own started (by kernel_rfl) Try.func11
    (ChangeSpec.witness6 (enc := enc) (C := Try.checked) false ⟨#[], #[.agg #[.slice none 0 0, .int .i64 0, .slice none 0 0], .slice none 0 0], []⟩ 8 (by kernel_rfl) (by kernel_rfl) (by kernel_rfl) (by kernel_rfl)) ?_
  intro W base args ds gs before hval0 hW hcnd _
  have hval : ∀ (j : Nat) t v, Try.f11.params[j]? = some t → args[j]? = some v → Value.okWide Try.prog W .any base t v := hval0
  have hW' := hW
  obtain ⟨p, q, hA0, hV, rfl, hfz, hnd⟩ := hW
  have hA : DataW.TrodAll enc Try.prog W 0 (fun _ => true) true Try.f11.params.toList args.toList ds p := hA0
  rw [Try.params11] at hA hval
  obtain ⟨v0, vs0, d0, ds0, p0, q0, hargs, rfl, rfl, h0, r0⟩ := trodAll_cons hA
  obtain ⟨v1, vs1, d1, ds1, p1, q1, hargs1, rfl, rfl, h1, r1⟩ := trodAll_cons r0
  obtain ⟨rfl, rfl, rfl⟩ := trodAll_nil r1
  subst hargs1
  obtain rfl : args = #[v0, v1] := by cases args; simp_all
  obtain ⟨rfl, rfl⟩ := trodVars_none hV
  have k0 := h0
  have lt0 : ∀ x ∈ p0, x.block < W.heap.size := by obtain ⟨m, hm⟩ := k0; exact DataW.trod_lt m _ _ _ hm
  obtain ⟨as0, cs0, rfl, s0⟩ := arg_st Try.underlying39 op_Sq (hval 0 39 v0 rfl rfl) h0
  have k1 := h1
  have lt1 : ∀ x ∈ p1, x.block < W.heap.size := by obtain ⟨m, hm⟩ := k1; exact DataW.trod_lt m _ _ _ hm
  obtain ⟨a1, cap1, as1, rfl, s1⟩ := arg_sl Try.underlying24 op_ints (hval 1 24 v1 rfl rfl) h1
  clear hA0 hval0
  refine (walk as0 cs0 a1 cap1 as1 W s0 s1).mono fun e W' ⟨he, bel⟩ => ?_
  subst he
  exact ⟨_, rfl, _, _, _, [], _, [], hW', trodAll_mk1 (shut_bool Try.underlying4 _), (trodAll_cons_mk (Below.trod laidOut (by kernel_rfl) (of_decide_eq_true (by kernel_rfl)) k0 bel lt0) (trodAll_cons_mk (Below.trod laidOut (by kernel_rfl) (of_decide_eq_true (by kernel_rfl)) k1 bel lt1) trodAll_mk0)), rfl, bel.frame _, fun h => by cases h⟩

theorem over : Rows.fnExactIsCounterRow.holds Try.pinned (OpenSpec.ofChange Rows.fnExactIsCounterSpec) :=
  OpenClaim.holds_of_wide 11 Try.f11 rfl rfl rfl rfl rfl rfl rfl ⟨rfl, rfl, rfl, rfl, rfl⟩ rfl rfl rfl rfl rfl (by kernel_rfl) Try.func11 (by kernel_rfl)
    (of_decide_eq_true (by kernel_rfl)) (by unfold Func.isWrapper; first | (rw [if_pos (by decide +kernel)]; kernel_rfl) | (rw [if_neg (by decide +kernel)]; exact ⟨rfl, rfl⟩))
    (fun os started H enc _ => lifted os started H enc)

theorem proved : Rows.FnExactIsCounterSaid := over
#print axioms proved
end Go.Proofs.Ytmpanchappoejaa.fnExactIsCounter
