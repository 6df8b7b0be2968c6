/- For every program the law FnExactEventsIn returns true: the program's EventsIn returns what the reference's returns, in memory of its own, and leaves its argument as it was. No condition. -/
import Derived.Test.YtedmhdinfedhhaaRows
import Derived.Test.YtedmhdinfedhhaaOpn
import Derived.Test.YtedmhdinfedhhaaLawAid
import Derived.Test.YtedmhdinfedhhaaEvC
import Derived.Test.YtedmhdinfedhhaaMarkP
import Derived.Deep.RegionHeld3
import Derived.ProofKit
import Derived.OpenShut
import Derived.ChangeOld
namespace Go.Proofs.Ytedmhdinfedhhaa.fnExactEventsIn
open Go.ChangeShapes Go.WideShapes Go.ChangeAt Go.RowKit
open Go.ChangeMaps (open_string shut_string)
set_option linter.unusedVariables false

set_option maxHeartbeats 4000000 in
set_option maxRecDepth 100000 in
theorem walk (d0 : _) (cs0 : Array Value) (w : World) (h0 : cProgram.rd (fun _ => True) w cs0.toList d0) : Calls Try.prog 9 #[.agg cs0] w fun e w' => e = .returned (.bool true) ∧ Below w.heap.size w w' := by
  obtain ⟨ax0d0, px0d0, ax0d1, px0d1, ax0d2, px0d2, rfl, hx0d0, hx0d1, hx0d2⟩ := Pg_arr h0
  obtain ⟨x0d0, x0d1, x0d2⟩ := d0
  simp only at hx0d0 hx0d1 hx0d2 ⊢
  clear h0
  have hbnd : (eventsF (x0d0, x0d1, x0d2)).1.length ≤ 1048576 := eventsF_len _
  obtain ⟨⟨q0, q1⟩, hq⟩ : ∃ q, eventsF (x0d0, x0d1, x0d2) = q := ⟨_, rfl⟩
  rw [hq] at hbnd
  simp only at hbnd
  have HQ := hid hq
  clear hq
  have hlx0d0 := hx0d0.len_le
  have hlx0d1 := hx0d1.len_le
  have hlx0d2 := hx0d2.len_le
  have HB_0 : Hid (Below w.heap.size w (w.alloc (.cells #[.slice ax0d0 x0d0.length px0d0, .slice ax0d1 x0d1.length px0d1, .slice ax0d2 x0d2.length px0d2] 70))) := (Below.refl _ _).alloc (by simp <;> omega) _
  obtain ⟨β0, hβe⟩ : ∃ B, B = (w.alloc (.cells #[.slice ax0d0 x0d0.length px0d0, .slice ax0d1 x0d1.length px0d1, .slice ax0d2 x0d2.length px0d2] 70)).heap.size := ⟨_, rfl⟩
  have HZ_0 : Hid (β0 ≤ (w.alloc (.cells #[.slice ax0d0 x0d0.length px0d0, .slice ax0d1 x0d1.length px0d1, .slice ax0d2 x0d2.length px0d2] 70)).heap.size) := Nat.le_of_eq hβe
  have β0_le : w.heap.size + 1 ≤ β0 := by rw [hβe]; simp
  clear hβe
  have hx0d0 : SlRd cTerm (fun b => Btw 0 β0 b ∧ True) w ax0d0 px0d0 x0d0 := hx0d0.keep fun b _ hl => ⟨⟨⟨Nat.zero_le _, by omega⟩, trivial⟩, rfl⟩
  have Rx0d0_0 : Hid (SlRd cTerm (fun b => Btw 0 β0 b ∧ True) (w.alloc (.cells #[.slice ax0d0 x0d0.length px0d0, .slice ax0d1 x0d1.length px0d1, .slice ax0d2 x0d2.length px0d2] 70)) ax0d0 px0d0 x0d0) := (hx0d0.alloc _)
  clear hx0d0
  have hx0d1 : SlRd cStmt (fun b => Btw 0 β0 b ∧ True) w ax0d1 px0d1 x0d1 := hx0d1.keep fun b _ hl => ⟨⟨⟨Nat.zero_le _, by omega⟩, trivial⟩, rfl⟩
  have Rx0d1_0 : Hid (SlRd cStmt (fun b => Btw 0 β0 b ∧ True) (w.alloc (.cells #[.slice ax0d0 x0d0.length px0d0, .slice ax0d1 x0d1.length px0d1, .slice ax0d2 x0d2.length px0d2] 70)) ax0d1 px0d1 x0d1) := (hx0d1.alloc _)
  clear hx0d1
  have hx0d2 : SlRd cTerm (fun b => Btw 0 β0 b ∧ True) w ax0d2 px0d2 x0d2 := hx0d2.keep fun b _ hl => ⟨⟨⟨Nat.zero_le _, by omega⟩, trivial⟩, rfl⟩
  have Rx0d2_0 : Hid (SlRd cTerm (fun b => Btw 0 β0 b ∧ True) (w.alloc (.cells #[.slice ax0d0 x0d0.length px0d0, .slice ax0d1 x0d1.length px0d1, .slice ax0d2 x0d2.length px0d2] 70)) ax0d2 px0d2 x0d2) := (hx0d2.alloc _)
  clear hx0d2
  have t0c0_0 : (w.alloc (.cells #[.slice ax0d0 x0d0.length px0d0, .slice ax0d1 x0d1.length px0d1, .slice ax0d2 x0d2.length px0d2] 70)).cell? ⟨w.heap.size, 0, none⟩ = some (.slice ax0d0 x0d0.length px0d0) := by simp [go_sem]
  have zt0c0_0 : w.heap.size < (w.alloc (.cells #[.slice ax0d0 x0d0.length px0d0, .slice ax0d1 x0d1.length px0d1, .slice ax0d2 x0d2.length px0d2] 70)).heap.size := by simp <;> omega
  have t0c1_0 : (w.alloc (.cells #[.slice ax0d0 x0d0.length px0d0, .slice ax0d1 x0d1.length px0d1, .slice ax0d2 x0d2.length px0d2] 70)).cell? ⟨w.heap.size, 1, none⟩ = some (.slice ax0d1 x0d1.length px0d1) := by simp [go_sem]
  have zt0c1_0 : w.heap.size < (w.alloc (.cells #[.slice ax0d0 x0d0.length px0d0, .slice ax0d1 x0d1.length px0d1, .slice ax0d2 x0d2.length px0d2] 70)).heap.size := by simp <;> omega
  have t0c2_0 : (w.alloc (.cells #[.slice ax0d0 x0d0.length px0d0, .slice ax0d1 x0d1.length px0d1, .slice ax0d2 x0d2.length px0d2] 70)).cell? ⟨w.heap.size, 2, none⟩ = some (.slice ax0d2 x0d2.length px0d2) := by simp [go_sem]
  have zt0c2_0 : w.heap.size < (w.alloc (.cells #[.slice ax0d0 x0d0.length px0d0, .slice ax0d1 x0d1.length px0d1, .slice ax0d2 x0d2.length px0d2] 70)).heap.size := by simp <;> omega
  obtain ⟨r0, hr⟩ : ∃ r, szR 1048576 (((szTs x0d0 + szStmts x0d1 + szTs x0d2) : Nat) : Int) = r := ⟨_, rfl⟩
  have HR0 := hid hr
  clear hr
  by_cases hneg0 : r0 < 0
  · skip
    go_enter Try.func9, Try.ntmps9
    go_wp2_with fail
    generalize (w.alloc (.cells #[.slice ax0d0 x0d0.length px0d0, .slice ax0d1 x0d1.length px0d1, .slice ax0d2 x0d2.length px0d2] 70)) = w_0 at *
    refine (u_szProgram Rx0d0_0.out Rx0d1_0.out Rx0d2_0.out (by omega) (by omega)).mono ?_
    rintro e w_1 ⟨rfl, hb⟩
    rw [HR0.out]
    have Rx0d0_1 := hid (Rx0d0_0.out.below (Nat.le_refl _) hb)
    have Rx0d1_1 := hid (Rx0d1_0.out.below (Nat.le_refl _) hb)
    have Rx0d2_1 := hid (Rx0d2_0.out.below (Nat.le_refl _) hb)
    have HB_1 := hid (bel_next HB_0.out HB_0.out.size hb)
    have HZ_1 := hid (Nat.le_trans HZ_0.out hb.size)
    have t0c0_1 := cell_below hb zt0c0_0 t0c0_0
    have t0c1_1 := cell_below hb zt0c1_0 t0c1_0
    have t0c2_1 := cell_below hb zt0c2_0 t0c2_0
    have zt0c0_1 := Nat.lt_of_lt_of_le zt0c0_0 hb.size
    have zt0c1_1 := Nat.lt_of_lt_of_le zt0c1_0 hb.size
    have zt0c2_1 := Nat.lt_of_lt_of_le zt0c2_0 hb.size
    clear Rx0d0_0 Rx0d1_0 Rx0d2_0 HB_0 HZ_0 t0c0_0 t0c1_0 t0c2_0 zt0c0_0 zt0c1_0 zt0c2_0
    clear hb
    go_wp2_with fail
    go_wp2
    go_ret
    exact ⟨rfl, HB_1.out⟩
  have hle := (szR_ge (left := 1048576) (n := (szTs x0d0 + szStmts x0d1 + szTs x0d2)) (by rw [HR0.out]; omega))
  rw [HR0.out] at hle
  obtain ⟨hle, hle'⟩ := hle
  have hsz0 : (szTs x0d0 + szStmts x0d1 + szTs x0d2) ≤ 1048576 := by omega
  have hlr0 : r0 ≤ 1048576 := by omega
  clear hle hle'
  go_enter Try.func9, Try.ntmps9
  go_wp2_with fail
  generalize (w.alloc (.cells #[.slice ax0d0 x0d0.length px0d0, .slice ax0d1 x0d1.length px0d1, .slice ax0d2 x0d2.length px0d2] 70)) = w_0 at *
  refine (u_szProgram Rx0d0_0.out Rx0d1_0.out Rx0d2_0.out (by omega) (by omega)).mono ?_
  rintro e w_1 ⟨rfl, hb⟩
  rw [HR0.out]
  have Rx0d0_1 := hid (Rx0d0_0.out.below (Nat.le_refl _) hb)
  have Rx0d1_1 := hid (Rx0d1_0.out.below (Nat.le_refl _) hb)
  have Rx0d2_1 := hid (Rx0d2_0.out.below (Nat.le_refl _) hb)
  have HB_1 := hid (bel_next HB_0.out HB_0.out.size hb)
  have HZ_1 := hid (Nat.le_trans HZ_0.out hb.size)
  have t0c0_1 := cell_below hb zt0c0_0 t0c0_0
  have t0c1_1 := cell_below hb zt0c1_0 t0c1_0
  have t0c2_1 := cell_below hb zt0c2_0 t0c2_0
  have zt0c0_1 := Nat.lt_of_lt_of_le zt0c0_0 hb.size
  have zt0c1_1 := Nat.lt_of_lt_of_le zt0c1_0 hb.size
  have zt0c2_1 := Nat.lt_of_lt_of_le zt0c2_0 hb.size
  clear Rx0d0_0 Rx0d1_0 Rx0d2_0 HB_0 HZ_0 t0c0_0 t0c1_0 t0c2_0 zt0c0_0 zt0c1_0 zt0c2_0
  clear hb
  go_wp2_with fail
  refine (u_toProgram Rx0d0_1.out Rx0d1_1.out Rx0d2_1.out (by omega)).mono ?_
  rintro e w_2 ⟨aVx0d0, pVx0d0, aVx0d1, pVx0d1, aVx0d2, pVx0d2, rfl, hsx0d0, hsx0d1, hsx0d2, hb⟩
  simp only at hsx0d0 hsx0d1 hsx0d2 ⊢
  have za := HZ_1.out
  have Rx0d0_2 := hid (Rx0d0_1.out.below (Nat.le_refl _) hb)
  have Rx0d1_2 := hid (Rx0d1_1.out.below (Nat.le_refl _) hb)
  have Rx0d2_2 := hid (Rx0d2_1.out.below (Nat.le_refl _) hb)
  have HB_2 := hid (bel_next HB_1.out HB_1.out.size hb)
  have HZ_2 := hid (Nat.le_trans HZ_1.out hb.size)
  have t0c0_2 := cell_below hb zt0c0_1 t0c0_1
  have t0c1_2 := cell_below hb zt0c1_1 t0c1_1
  have t0c2_2 := cell_below hb zt0c2_1 t0c2_1
  have zt0c0_2 := Nat.lt_of_lt_of_le zt0c0_1 hb.size
  have zt0c1_2 := Nat.lt_of_lt_of_le zt0c1_1 hb.size
  have zt0c2_2 := Nat.lt_of_lt_of_le zt0c2_1 hb.size
  clear Rx0d0_1 Rx0d1_1 Rx0d2_1 HB_1 HZ_1 t0c0_1 t0c1_1 t0c2_1 zt0c0_1 zt0c1_1 zt0c2_1
  clear hb
  obtain ⟨β1, hβe⟩ : ∃ B, B = w_2.heap.size := ⟨_, rfl⟩
  have β1_le : β0 ≤ β1 := by rw [hβe]; exact HZ_2.out
  have Vx0d0_2 := hid (hsx0d0.mk (lo := β0) (hi := β1) za (Nat.le_of_eq hβe.symm))
  have Vx0d1_2 := hid (hsx0d1.mk (lo := β0) (hi := β1) za (Nat.le_of_eq hβe.symm))
  have Vx0d2_2 := hid (hsx0d2.mk (lo := β0) (hi := β1) za (Nat.le_of_eq hβe.symm))
  have HZ_2 := hid (Nat.le_of_eq hβe)
  clear hβe hsx0d0 hsx0d1 hsx0d2
  clear za
  go_wp2_with fail
  refine (c_sEventsIn Vx0d0_2.out Vx0d1_2.out Vx0d2_2.out).mono ?_
  rw [HQ.out]
  rintro e w_3 ⟨aW, pW, rfl, hW, hb⟩
  simp only
  have za := HZ_2.out
  have Rx0d0_3 := hid (Rx0d0_2.out.below (Nat.le_refl _) hb)
  have Rx0d1_3 := hid (Rx0d1_2.out.below (Nat.le_refl _) hb)
  have Rx0d2_3 := hid (Rx0d2_2.out.below (Nat.le_refl _) hb)
  have Vx0d0_3 := hid (Vx0d0_2.out.below (Nat.le_refl _) hb)
  have Vx0d1_3 := hid (Vx0d1_2.out.below (Nat.le_refl _) hb)
  have Vx0d2_3 := hid (Vx0d2_2.out.below (Nat.le_refl _) hb)
  have HB_3 := hid (bel_next HB_2.out HB_2.out.size hb)
  have HZ_3 := hid (Nat.le_trans HZ_2.out hb.size)
  have t0c0_3 := cell_below hb zt0c0_2 t0c0_2
  have t0c1_3 := cell_below hb zt0c1_2 t0c1_2
  have t0c2_3 := cell_below hb zt0c2_2 t0c2_2
  have zt0c0_3 := Nat.lt_of_lt_of_le zt0c0_2 hb.size
  have zt0c1_3 := Nat.lt_of_lt_of_le zt0c1_2 hb.size
  have zt0c2_3 := Nat.lt_of_lt_of_le zt0c2_2 hb.size
  clear Rx0d0_2 Rx0d1_2 Rx0d2_2 Vx0d0_2 Vx0d1_2 Vx0d2_2 HB_2 HZ_2 t0c0_2 t0c1_2 t0c2_2 zt0c0_2 zt0c1_2 zt0c2_2
  clear hb
  obtain ⟨β2, hβe⟩ : ∃ B, B = w_3.heap.size := ⟨_, rfl⟩
  have β2_le : β1 ≤ β2 := by rw [hβe]; exact HZ_3.out
  have W_3 := hid (hW.mk (lo := β1) (hi := β2) za (Nat.le_of_eq hβe.symm))
  have HZ_3 := hid (Nat.le_of_eq hβe)
  clear hβe hW
  clear za
  go_wp2_with fail
  clear Vx0d0_3
  clear Vx0d1_3
  clear Vx0d2_3
  refine (u_toProgram Rx0d0_3.out Rx0d1_3.out Rx0d2_3.out (by omega)).mono ?_
  rintro e w_4 ⟨aXx0d0, pXx0d0, aXx0d1, pXx0d1, aXx0d2, pXx0d2, rfl, hsx0d0, hsx0d1, hsx0d2, hb⟩
  simp only at hsx0d0 hsx0d1 hsx0d2 ⊢
  have za := HZ_3.out
  have Rx0d0_4 := hid (Rx0d0_3.out.below (Nat.le_refl _) hb)
  have Rx0d1_4 := hid (Rx0d1_3.out.below (Nat.le_refl _) hb)
  have Rx0d2_4 := hid (Rx0d2_3.out.below (Nat.le_refl _) hb)
  have W_4 := hid (W_3.out.below (Nat.le_refl _) hb)
  have HB_4 := hid (bel_next HB_3.out HB_3.out.size hb)
  have HZ_4 := hid (Nat.le_trans HZ_3.out hb.size)
  have t0c0_4 := cell_below hb zt0c0_3 t0c0_3
  have t0c1_4 := cell_below hb zt0c1_3 t0c1_3
  have t0c2_4 := cell_below hb zt0c2_3 t0c2_3
  have zt0c0_4 := Nat.lt_of_lt_of_le zt0c0_3 hb.size
  have zt0c1_4 := Nat.lt_of_lt_of_le zt0c1_3 hb.size
  have zt0c2_4 := Nat.lt_of_lt_of_le zt0c2_3 hb.size
  clear Rx0d0_3 Rx0d1_3 Rx0d2_3 W_3 HB_3 HZ_3 t0c0_3 t0c1_3 t0c2_3 zt0c0_3 zt0c1_3 zt0c2_3
  clear hb
  obtain ⟨β3, hβe⟩ : ∃ B, B = w_4.heap.size := ⟨_, rfl⟩
  have β3_le : β2 ≤ β3 := by rw [hβe]; exact HZ_4.out
  have Xx0d0_4 := hid (hsx0d0.mk (lo := β2) (hi := β3) za (Nat.le_of_eq hβe.symm))
  have Xx0d1_4 := hid (hsx0d1.mk (lo := β2) (hi := β3) za (Nat.le_of_eq hβe.symm))
  have Xx0d2_4 := hid (hsx0d2.mk (lo := β2) (hi := β3) za (Nat.le_of_eq hβe.symm))
  have TH3_4 : Hid (∀ b, (Btw β2 β3 b ∧ Thawed w_4 b) → Thawed w_4 b) := fun b hb => hb.2
  have HZ_4 := hid (Nat.le_of_eq hβe)
  clear hβe hsx0d0 hsx0d1 hsx0d2
  clear za
  have hbx : Below w_4.heap.size w_4 (w_4.alloc (.cells #[.slice aXx0d0 x0d0.length pXx0d0, .slice aXx0d1 x0d1.length pXx0d1, .slice aXx0d2 x0d2.length pXx0d2] 75)) := (Below.refl _ _).alloc (Nat.le_refl _) _
  have Rx0d0_5 := hid (Rx0d0_4.out.below (Nat.le_refl _) hbx)
  have Rx0d1_5 := hid (Rx0d1_4.out.below (Nat.le_refl _) hbx)
  have Rx0d2_5 := hid (Rx0d2_4.out.below (Nat.le_refl _) hbx)
  have W_5 := hid (W_4.out.below (Nat.le_refl _) hbx)
  have Xx0d0_5 := hid (Xx0d0_4.out.below (Nat.le_refl _) hbx)
  have Xx0d1_5 := hid (Xx0d1_4.out.below (Nat.le_refl _) hbx)
  have Xx0d2_5 := hid (Xx0d2_4.out.below (Nat.le_refl _) hbx)
  have TH3_5 := hid (thaw_below TH3_4.out hbx)
  have HB_5 := hid (bel_next HB_4.out HB_4.out.size hbx)
  have HZ_5 := hid (Nat.le_trans HZ_4.out hbx.size)
  have t0c0_5 := cell_below hbx zt0c0_4 t0c0_4
  have t0c1_5 := cell_below hbx zt0c1_4 t0c1_4
  have t0c2_5 := cell_below hbx zt0c2_4 t0c2_4
  have zt0c0_5 := Nat.lt_of_lt_of_le zt0c0_4 hbx.size
  have zt0c1_5 := Nat.lt_of_lt_of_le zt0c1_4 hbx.size
  have zt0c2_5 := Nat.lt_of_lt_of_le zt0c2_4 hbx.size
  clear hbx Rx0d0_4 Rx0d1_4 Rx0d2_4 W_4 Xx0d0_4 Xx0d1_4 Xx0d2_4 TH3_4 HB_4 HZ_4 t0c0_4 t0c1_4 t0c2_4 zt0c0_4 zt0c1_4 zt0c2_4
  have cx0b0_5 : (w_4.alloc (.cells #[.slice aXx0d0 x0d0.length pXx0d0, .slice aXx0d1 x0d1.length pXx0d1, .slice aXx0d2 x0d2.length pXx0d2] 75)).cell? ⟨w_4.heap.size, 0, none⟩ = some (.slice aXx0d0 x0d0.length pXx0d0) := by rw [World.cell?_alloc_at _ _ _ _ rfl]; rfl
  have zcx0b0_5 : w_4.heap.size < (w_4.alloc (.cells #[.slice aXx0d0 x0d0.length pXx0d0, .slice aXx0d1 x0d1.length pXx0d1, .slice aXx0d2 x0d2.length pXx0d2] 75)).heap.size := by simp
  have cx0b1_5 : (w_4.alloc (.cells #[.slice aXx0d0 x0d0.length pXx0d0, .slice aXx0d1 x0d1.length pXx0d1, .slice aXx0d2 x0d2.length pXx0d2] 75)).cell? ⟨w_4.heap.size, 1, none⟩ = some (.slice aXx0d1 x0d1.length pXx0d1) := by rw [World.cell?_alloc_at _ _ _ _ rfl]; rfl
  have zcx0b1_5 : w_4.heap.size < (w_4.alloc (.cells #[.slice aXx0d0 x0d0.length pXx0d0, .slice aXx0d1 x0d1.length pXx0d1, .slice aXx0d2 x0d2.length pXx0d2] 75)).heap.size := by simp
  have cx0b2_5 : (w_4.alloc (.cells #[.slice aXx0d0 x0d0.length pXx0d0, .slice aXx0d1 x0d1.length pXx0d1, .slice aXx0d2 x0d2.length pXx0d2] 75)).cell? ⟨w_4.heap.size, 2, none⟩ = some (.slice aXx0d2 x0d2.length pXx0d2) := by rw [World.cell?_alloc_at _ _ _ _ rfl]; rfl
  have zcx0b2_5 : w_4.heap.size < (w_4.alloc (.cells #[.slice aXx0d0 x0d0.length pXx0d0, .slice aXx0d1 x0d1.length pXx0d1, .slice aXx0d2 x0d2.length pXx0d2] 75)).heap.size := by simp
  go_wp2_with fail
  generalize (w_4.alloc (.cells #[.slice aXx0d0 x0d0.length pXx0d0, .slice aXx0d1 x0d1.length pXx0d1, .slice aXx0d2 x0d2.length pXx0d2] 75)) = w_5 at *
  obtain ⟨β4, hβe⟩ : ∃ B, B = w_5.heap.size := ⟨_, rfl⟩
  have β4_le : β3 ≤ β4 := by rw [hβe]; exact HZ_5.out
  have xb0_lt : w_4.heap.size < β4 := by rw [hβe]; exact zcx0b0_5
  have HZ_5 := hid (Nat.le_of_eq hβe)
  clear hβe
  refine (c_EventsIn Xx0d0_5.out Xx0d1_5.out Xx0d2_5.out).mono ?_
  rw [HQ.out]
  rintro e w_6 ⟨aG, pG, rfl, hG, hb⟩
  simp only
  have za := HZ_5.out
  have Rx0d0_6 := hid (Rx0d0_5.out.below (Nat.le_refl _) hb)
  have Rx0d1_6 := hid (Rx0d1_5.out.below (Nat.le_refl _) hb)
  have Rx0d2_6 := hid (Rx0d2_5.out.below (Nat.le_refl _) hb)
  have W_6 := hid (W_5.out.below (Nat.le_refl _) hb)
  have Xx0d0_6 := hid (Xx0d0_5.out.below (Nat.le_refl _) hb)
  have Xx0d1_6 := hid (Xx0d1_5.out.below (Nat.le_refl _) hb)
  have Xx0d2_6 := hid (Xx0d2_5.out.below (Nat.le_refl _) hb)
  have TH3_6 := hid (thaw_below TH3_5.out hb)
  have HB_6 := hid (bel_next HB_5.out HB_5.out.size hb)
  have HZ_6 := hid (Nat.le_trans HZ_5.out hb.size)
  have t0c0_6 := cell_below hb zt0c0_5 t0c0_5
  have t0c1_6 := cell_below hb zt0c1_5 t0c1_5
  have t0c2_6 := cell_below hb zt0c2_5 t0c2_5
  have cx0b0_6 := cell_below hb zcx0b0_5 cx0b0_5
  have cx0b1_6 := cell_below hb zcx0b1_5 cx0b1_5
  have cx0b2_6 := cell_below hb zcx0b2_5 cx0b2_5
  have zt0c0_6 := Nat.lt_of_lt_of_le zt0c0_5 hb.size
  have zt0c1_6 := Nat.lt_of_lt_of_le zt0c1_5 hb.size
  have zt0c2_6 := Nat.lt_of_lt_of_le zt0c2_5 hb.size
  have zcx0b0_6 := Nat.lt_of_lt_of_le zcx0b0_5 hb.size
  have zcx0b1_6 := Nat.lt_of_lt_of_le zcx0b1_5 hb.size
  have zcx0b2_6 := Nat.lt_of_lt_of_le zcx0b2_5 hb.size
  clear Rx0d0_5 Rx0d1_5 Rx0d2_5 W_5 Xx0d0_5 Xx0d1_5 Xx0d2_5 TH3_5 HB_5 HZ_5 t0c0_5 t0c1_5 t0c2_5 cx0b0_5 cx0b1_5 cx0b2_5 zt0c0_5 zt0c1_5 zt0c2_5 zcx0b0_5 zcx0b1_5 zcx0b2_5
  clear hb
  obtain ⟨β5, hβe⟩ : ∃ B, B = w_6.heap.size := ⟨_, rfl⟩
  have β5_le : β4 ≤ β5 := by rw [hβe]; exact HZ_6.out
  have G_6 := hid (hG.mk (lo := β4) (hi := β5) za (Nat.le_of_eq hβe.symm))
  have TH5_6 : Hid (∀ b, (Btw β4 β5 b ∧ Thawed w_6 b) → Thawed w_6 b) := fun b hb => hb.2
  have HZ_6 := hid (Nat.le_of_eq hβe)
  clear hβe hG
  clear za
  have hne1 : (q1 != q1) = false := by simp
  have hkk : ((1 : Int) + (q0.length : Int) != 1 + (q0.length : Int)) = false := by simp
  go_wp2_with fail
  refine (u_eqInt64S G_6.out W_6.out).mono ?_
  rintro e w_7 ⟨rfl, hb⟩
  rw [show decide (q0 = q0) = true from by simp]
  have Rx0d0_7 := hid (Rx0d0_6.out.below (Nat.le_refl _) hb)
  have Rx0d1_7 := hid (Rx0d1_6.out.below (Nat.le_refl _) hb)
  have Rx0d2_7 := hid (Rx0d2_6.out.below (Nat.le_refl _) hb)
  have W_7 := hid (W_6.out.below (Nat.le_refl _) hb)
  have Xx0d0_7 := hid (Xx0d0_6.out.below (Nat.le_refl _) hb)
  have Xx0d1_7 := hid (Xx0d1_6.out.below (Nat.le_refl _) hb)
  have Xx0d2_7 := hid (Xx0d2_6.out.below (Nat.le_refl _) hb)
  have G_7 := hid (G_6.out.below (Nat.le_refl _) hb)
  have TH3_7 := hid (thaw_below TH3_6.out hb)
  have TH5_7 := hid (thaw_below TH5_6.out hb)
  have HB_7 := hid (bel_next HB_6.out HB_6.out.size hb)
  have HZ_7 := hid (Nat.le_trans HZ_6.out hb.size)
  have t0c0_7 := cell_below hb zt0c0_6 t0c0_6
  have t0c1_7 := cell_below hb zt0c1_6 t0c1_6
  have t0c2_7 := cell_below hb zt0c2_6 t0c2_6
  have cx0b0_7 := cell_below hb zcx0b0_6 cx0b0_6
  have cx0b1_7 := cell_below hb zcx0b1_6 cx0b1_6
  have cx0b2_7 := cell_below hb zcx0b2_6 cx0b2_6
  have zt0c0_7 := Nat.lt_of_lt_of_le zt0c0_6 hb.size
  have zt0c1_7 := Nat.lt_of_lt_of_le zt0c1_6 hb.size
  have zt0c2_7 := Nat.lt_of_lt_of_le zt0c2_6 hb.size
  have zcx0b0_7 := Nat.lt_of_lt_of_le zcx0b0_6 hb.size
  have zcx0b1_7 := Nat.lt_of_lt_of_le zcx0b1_6 hb.size
  have zcx0b2_7 := Nat.lt_of_lt_of_le zcx0b2_6 hb.size
  clear Rx0d0_6 Rx0d1_6 Rx0d2_6 W_6 Xx0d0_6 Xx0d1_6 Xx0d2_6 G_6 TH3_6 TH5_6 HB_6 HZ_6 t0c0_6 t0c1_6 t0c2_6 cx0b0_6 cx0b1_6 cx0b2_6 zt0c0_6 zt0c1_6 zt0c2_6 zcx0b0_6 zcx0b1_6 zcx0b2_6
  clear hb
  go_wp2_with fail
  have Rx0d0_7 := hid Rx0d0_7.out.drew
  have Rx0d1_7 := hid Rx0d1_7.out.drew
  have Rx0d2_7 := hid Rx0d2_7.out.drew
  have W_7 := hid W_7.out.drew
  have Xx0d0_7 := hid Xx0d0_7.out.drew
  have Xx0d1_7 := hid Xx0d1_7.out.drew
  have Xx0d2_7 := hid Xx0d2_7.out.drew
  have G_7 := hid G_7.out.drew
  have HB_7 := hid HB_7.out.drew
  have TH3_7 := hid (thaw_drew TH3_7.out)
  have TH5_7 := hid (thaw_drew TH5_7.out)
  go_region_held3 (fun w' => w'.cell? ⟨w.heap.size, 0, none⟩ = some (.slice ax0d0 x0d0.length px0d0) ∧ w'.cell? ⟨w.heap.size, 1, none⟩ = some (.slice ax0d1 x0d1.length px0d1) ∧ w'.cell? ⟨w.heap.size, 2, none⟩ = some (.slice ax0d2 x0d2.length px0d2) ∧ w'.cell? ⟨w_4.heap.size, 0, none⟩ = some (.slice aXx0d0 x0d0.length pXx0d0) ∧ w'.cell? ⟨w_4.heap.size, 1, none⟩ = some (.slice aXx0d1 x0d1.length pXx0d1) ∧ w'.cell? ⟨w_4.heap.size, 2, none⟩ = some (.slice aXx0d2 x0d2.length pXx0d2)) (first | exact ⟨t0c0_7, t0c1_7, t0c2_7, cx0b0_7, cx0b1_7, cx0b2_7⟩ | exact kk1 | exact kk2) (first | (go_at_call 42; refine (u_toProgram Rx0d0_7.out Rx0d1_7.out Rx0d2_7.out (by omega)).mono ?_; rintro e w_8 ⟨aYx0d0, pYx0d0, aYx0d1, pYx0d1, aYx0d2, pYx0d2, rfl, hsx0d0, hsx0d1, hsx0d2, hb1⟩; simp only at hsx0d0 hsx0d1 hsx0d2 ⊢; have kk1 := And.intro (cell_below hb1 zt0c0_7 t0c0_7) (And.intro (cell_below hb1 zt0c1_7 t0c1_7) (And.intro (cell_below hb1 zt0c2_7 t0c2_7) (And.intro (cell_below hb1 zcx0b0_7 cx0b0_7) (And.intro (cell_below hb1 zcx0b1_7 cx0b1_7) (cell_below hb1 zcx0b2_7 cx0b2_7))))); have Rx0d0_8 := hid (Rx0d0_7.out.below (Nat.le_refl _) hb1); have Rx0d1_8 := hid (Rx0d1_7.out.below (Nat.le_refl _) hb1); have Rx0d2_8 := hid (Rx0d2_7.out.below (Nat.le_refl _) hb1); have W_8 := hid (W_7.out.below (Nat.le_refl _) hb1); have Xx0d0_8 := hid (Xx0d0_7.out.below (Nat.le_refl _) hb1); have Xx0d1_8 := hid (Xx0d1_7.out.below (Nat.le_refl _) hb1); have Xx0d2_8 := hid (Xx0d2_7.out.below (Nat.le_refl _) hb1); have G_8 := hid (G_7.out.below (Nat.le_refl _) hb1); have TH3_8 := hid (thaw_below TH3_7.out hb1); have TH5_8 := hid (thaw_below TH5_7.out hb1); have HB_8 := hid (bel_next HB_7.out HB_7.out.size hb1); have HZ_8 := hid (Nat.le_trans HZ_7.out hb1.size); have zt0c0_8 := Nat.lt_of_lt_of_le zt0c0_7 hb1.size; have zt0c1_8 := Nat.lt_of_lt_of_le zt0c1_7 hb1.size; have zt0c2_8 := Nat.lt_of_lt_of_le zt0c2_7 hb1.size; have zcx0b0_8 := Nat.lt_of_lt_of_le zcx0b0_7 hb1.size; have zcx0b1_8 := Nat.lt_of_lt_of_le zcx0b1_7 hb1.size; have zcx0b2_8 := Nat.lt_of_lt_of_le zcx0b2_7 hb1.size; have Yx0d0_8 := hid hsx0d0; have Yx0d1_8 := hid hsx0d1; have Yx0d2_8 := hid hsx0d2; clear hsx0d0 hsx0d1 hsx0d2) | (go_at_call 44; refine (u_eqProgram Xx0d0_8.out Xx0d1_8.out Xx0d2_8.out Yx0d0_8.out Yx0d1_8.out Yx0d2_8.out).mono ?_; rintro e w_9 ⟨rfl, hb2⟩; rw [show decide (((x0d0, x0d1, x0d2) : Pg) = (x0d0, x0d1, x0d2)) = true from (by simp)]; have kk2 := And.intro (cell_below hb2 zt0c0_8 (kk1.1)) (And.intro (cell_below hb2 zt0c1_8 (kk1.2.1)) (And.intro (cell_below hb2 zt0c2_8 (kk1.2.2.1)) (And.intro (cell_below hb2 zcx0b0_8 (kk1.2.2.2.1)) (And.intro (cell_below hb2 zcx0b1_8 (kk1.2.2.2.2.1)) (cell_below hb2 zcx0b2_8 (kk1.2.2.2.2.2)))))); have Rx0d0_9 := hid (Rx0d0_8.out.below (Nat.le_refl _) hb2); have Rx0d1_9 := hid (Rx0d1_8.out.below (Nat.le_refl _) hb2); have Rx0d2_9 := hid (Rx0d2_8.out.below (Nat.le_refl _) hb2); have W_9 := hid (W_8.out.below (Nat.le_refl _) hb2); have Xx0d0_9 := hid (Xx0d0_8.out.below (Nat.le_refl _) hb2); have Xx0d1_9 := hid (Xx0d1_8.out.below (Nat.le_refl _) hb2); have Xx0d2_9 := hid (Xx0d2_8.out.below (Nat.le_refl _) hb2); have G_9 := hid (G_8.out.below (Nat.le_refl _) hb2); have Yx0d0_9 := hid (Yx0d0_8.out.below (Nat.le_refl _) hb2); have Yx0d1_9 := hid (Yx0d1_8.out.below (Nat.le_refl _) hb2); have Yx0d2_9 := hid (Yx0d2_8.out.below (Nat.le_refl _) hb2); have TH3_9 := hid (thaw_below TH3_8.out hb2); have TH5_9 := hid (thaw_below TH5_8.out hb2); have HB_9 := hid (bel_next HB_8.out HB_8.out.size hb2); have HZ_9 := hid (Nat.le_trans HZ_8.out hb2.size); have zt0c0_9 := Nat.lt_of_lt_of_le zt0c0_8 hb2.size; have zt0c1_9 := Nat.lt_of_lt_of_le zt0c1_8 hb2.size; have zt0c2_9 := Nat.lt_of_lt_of_le zt0c2_8 hb2.size; have zcx0b0_9 := Nat.lt_of_lt_of_le zcx0b0_8 hb2.size; have zcx0b1_9 := Nat.lt_of_lt_of_le zcx0b1_8 hb2.size; have zcx0b2_9 := Nat.lt_of_lt_of_le zcx0b2_8 hb2.size))
  have t0c0_9 := kk2.1
  have t0c1_9 := kk2.2.1
  have t0c2_9 := kk2.2.2.1
  have cx0b0_9 := kk2.2.2.2.1
  have cx0b1_9 := kk2.2.2.2.2.1
  have cx0b2_9 := kk2.2.2.2.2.2
  clear kk1 kk2 hb1 hb2 t0c0_7 t0c1_7 t0c2_7 cx0b0_7 cx0b1_7 cx0b2_7
  go_wp2_with fail
  clear Yx0d0_9
  clear Yx0d1_9
  clear Yx0d2_9
  refine (u_markProgram Xx0d0_9.out Xx0d1_9.out Xx0d2_9.out TH3_9.out (by omega) (by omega)).mono ?_
  rintro e w_10 ⟨rfl, ht⟩
  clear TH3_9
  clear cx0b0_9 zcx0b0_9
  clear cx0b1_9 zcx0b1_9
  clear cx0b2_9 zcx0b2_9
  clear Xx0d0_9
  clear Xx0d1_9
  clear Xx0d2_9
  have Rx0d0_10 := hid (Rx0d0_9.out.sep ht (by omega))
  have Rx0d1_10 := hid (Rx0d1_9.out.sep ht (by omega))
  have Rx0d2_10 := hid (Rx0d2_9.out.sep ht (by omega))
  have W_10 := hid (W_9.out.sep ht (by omega))
  have G_10 := hid (G_9.out.sep ht (by omega))
  have TH5_10 := hid fun b hb => ht.thaw b (TH5_9.out b hb)
  have HB_10 := hid (HB_9.out.trans (ht.bel HB_9.out.size fun b hb => by have := hb.1.1; omega))
  have HZ_10 := hid (Nat.le_trans HZ_9.out ht.size)
  have t0c0_10 := cell_sep ht zt0c0_9 (fun hs => by have h1 := hs.1.1; have h2 := hs.1.2; omega) t0c0_9
  have zt0c0_10 := Nat.lt_of_lt_of_le zt0c0_9 ht.size
  have t0c1_10 := cell_sep ht zt0c1_9 (fun hs => by have h1 := hs.1.1; have h2 := hs.1.2; omega) t0c1_9
  have zt0c1_10 := Nat.lt_of_lt_of_le zt0c1_9 ht.size
  have t0c2_10 := cell_sep ht zt0c2_9 (fun hs => by have h1 := hs.1.1; have h2 := hs.1.2; omega) t0c2_9
  have zt0c2_10 := Nat.lt_of_lt_of_le zt0c2_9 ht.size
  clear Rx0d0_9 Rx0d1_9 Rx0d2_9 W_9 G_9 TH5_9 HB_9 HZ_9 t0c0_9 zt0c0_9 t0c1_9 zt0c1_9 t0c2_9 zt0c2_9 ht
  go_wp2_with fail
  refine (u_eqInt64S G_10.out W_10.out).mono ?_
  rintro e w_11 ⟨rfl, hb⟩
  rw [show decide (q0 = q0) = true from by simp]
  have Rx0d0_11 := hid (Rx0d0_10.out.below (Nat.le_refl _) hb)
  have Rx0d1_11 := hid (Rx0d1_10.out.below (Nat.le_refl _) hb)
  have Rx0d2_11 := hid (Rx0d2_10.out.below (Nat.le_refl _) hb)
  have W_11 := hid (W_10.out.below (Nat.le_refl _) hb)
  have G_11 := hid (G_10.out.below (Nat.le_refl _) hb)
  have TH5_11 := hid (thaw_below TH5_10.out hb)
  have HB_11 := hid (bel_next HB_10.out HB_10.out.size hb)
  have HZ_11 := hid (Nat.le_trans HZ_10.out hb.size)
  have t0c0_11 := cell_below hb zt0c0_10 t0c0_10
  have t0c1_11 := cell_below hb zt0c1_10 t0c1_10
  have t0c2_11 := cell_below hb zt0c2_10 t0c2_10
  have zt0c0_11 := Nat.lt_of_lt_of_le zt0c0_10 hb.size
  have zt0c1_11 := Nat.lt_of_lt_of_le zt0c1_10 hb.size
  have zt0c2_11 := Nat.lt_of_lt_of_le zt0c2_10 hb.size
  clear Rx0d0_10 Rx0d1_10 Rx0d2_10 W_10 G_10 TH5_10 HB_10 HZ_10 t0c0_10 t0c1_10 t0c2_10 zt0c0_10 zt0c1_10 zt0c2_10
  clear hb
  go_wp2_with fail
  refine (c_markInt64S _ _ _ _ _ _ G_11.out rfl TH5_11.out (by omega) (by omega)).mono ?_
  rintro e w_12 ⟨rfl, ⟨ys, hl, hu, hG⟩, ht⟩
  clear TH5_11
  clear G_11
  have Rx0d0_12 := hid (Rx0d0_11.out.sep ht (by omega))
  have Rx0d1_12 := hid (Rx0d1_11.out.sep ht (by omega))
  have Rx0d2_12 := hid (Rx0d2_11.out.sep ht (by omega))
  have W_12 := hid (W_11.out.sep ht (by omega))
  have HB_12 := hid (HB_11.out.trans (ht.bel HB_11.out.size fun b hb => by have := hb.1.1; omega))
  have HZ_12 := hid (Nat.le_trans HZ_11.out ht.size)
  have t0c0_12 := cell_sep ht zt0c0_11 (fun hs => by have h1 := hs.1.1; have h2 := hs.1.2; omega) t0c0_11
  have zt0c0_12 := Nat.lt_of_lt_of_le zt0c0_11 ht.size
  have t0c1_12 := cell_sep ht zt0c1_11 (fun hs => by have h1 := hs.1.1; have h2 := hs.1.2; omega) t0c1_11
  have zt0c1_12 := Nat.lt_of_lt_of_le zt0c1_11 ht.size
  have t0c2_12 := cell_sep ht zt0c2_11 (fun hs => by have h1 := hs.1.1; have h2 := hs.1.2; omega) t0c2_11
  have zt0c2_12 := Nat.lt_of_lt_of_le zt0c2_11 ht.size
  clear Rx0d0_11 Rx0d1_11 Rx0d2_11 W_11 HB_11 HZ_11 t0c0_11 zt0c0_11 t0c1_11 zt0c1_11 t0c2_11 zt0c2_11 ht
  have G_12 := hid hG
  have HLY := hid hl
  have HU := hid hu
  clear hG hl hu
  go_wp2_with fail
  refine (c_heldInt64S _ _ _ _ _ _ G_12.out HLY.out HU.out (by omega) (by omega)).mono ?_
  rintro e w' ⟨rfl, rfl⟩
  go_wp2_with fail
  refine (u_toProgram Rx0d0_12.out Rx0d1_12.out Rx0d2_12.out (by omega)).mono ?_
  rintro e w_13 ⟨aZx0d0, pZx0d0, aZx0d1, pZx0d1, aZx0d2, pZx0d2, rfl, hsx0d0, hsx0d1, hsx0d2, hb⟩
  simp only at hsx0d0 hsx0d1 hsx0d2 ⊢
  have za := HZ_12.out
  have Rx0d0_13 := hid (Rx0d0_12.out.below (Nat.le_refl _) hb)
  have Rx0d1_13 := hid (Rx0d1_12.out.below (Nat.le_refl _) hb)
  have Rx0d2_13 := hid (Rx0d2_12.out.below (Nat.le_refl _) hb)
  have W_13 := hid (W_12.out.below (Nat.le_refl _) hb)
  have G_13 := hid (G_12.out.below (Nat.le_refl _) hb)
  have HB_13 := hid (bel_next HB_12.out HB_12.out.size hb)
  have HZ_13 := hid (Nat.le_trans HZ_12.out hb.size)
  have t0c0_13 := cell_below hb zt0c0_12 t0c0_12
  have t0c1_13 := cell_below hb zt0c1_12 t0c1_12
  have t0c2_13 := cell_below hb zt0c2_12 t0c2_12
  have zt0c0_13 := Nat.lt_of_lt_of_le zt0c0_12 hb.size
  have zt0c1_13 := Nat.lt_of_lt_of_le zt0c1_12 hb.size
  have zt0c2_13 := Nat.lt_of_lt_of_le zt0c2_12 hb.size
  clear Rx0d0_12 Rx0d1_12 Rx0d2_12 W_12 G_12 HB_12 HZ_12 t0c0_12 t0c1_12 t0c2_12 zt0c0_12 zt0c1_12 zt0c2_12
  clear hb
  obtain ⟨β6, hβe⟩ : ∃ B, B = w_13.heap.size := ⟨_, rfl⟩
  have β6_le : β5 ≤ β6 := by rw [hβe]; exact HZ_13.out
  have Zx0d0_13 := hid (hsx0d0.mk (lo := β5) (hi := β6) za (Nat.le_of_eq hβe.symm))
  have Zx0d1_13 := hid (hsx0d1.mk (lo := β5) (hi := β6) za (Nat.le_of_eq hβe.symm))
  have Zx0d2_13 := hid (hsx0d2.mk (lo := β5) (hi := β6) za (Nat.le_of_eq hβe.symm))
  have HZ_13 := hid (Nat.le_of_eq hβe)
  clear hβe hsx0d0 hsx0d1 hsx0d2
  clear za
  go_wp2_with fail
  refine (c_EventsIn Zx0d0_13.out Zx0d1_13.out Zx0d2_13.out).mono ?_
  rw [HQ.out]
  rintro e w_14 ⟨aH, pH, rfl, hH, hb⟩
  simp only
  have za := HZ_13.out
  have Rx0d0_14 := hid (Rx0d0_13.out.below (Nat.le_refl _) hb)
  have Rx0d1_14 := hid (Rx0d1_13.out.below (Nat.le_refl _) hb)
  have Rx0d2_14 := hid (Rx0d2_13.out.below (Nat.le_refl _) hb)
  have W_14 := hid (W_13.out.below (Nat.le_refl _) hb)
  have G_14 := hid (G_13.out.below (Nat.le_refl _) hb)
  have Zx0d0_14 := hid (Zx0d0_13.out.below (Nat.le_refl _) hb)
  have Zx0d1_14 := hid (Zx0d1_13.out.below (Nat.le_refl _) hb)
  have Zx0d2_14 := hid (Zx0d2_13.out.below (Nat.le_refl _) hb)
  have HB_14 := hid (bel_next HB_13.out HB_13.out.size hb)
  have HZ_14 := hid (Nat.le_trans HZ_13.out hb.size)
  have t0c0_14 := cell_below hb zt0c0_13 t0c0_13
  have t0c1_14 := cell_below hb zt0c1_13 t0c1_13
  have t0c2_14 := cell_below hb zt0c2_13 t0c2_13
  have zt0c0_14 := Nat.lt_of_lt_of_le zt0c0_13 hb.size
  have zt0c1_14 := Nat.lt_of_lt_of_le zt0c1_13 hb.size
  have zt0c2_14 := Nat.lt_of_lt_of_le zt0c2_13 hb.size
  clear Rx0d0_13 Rx0d1_13 Rx0d2_13 W_13 G_13 Zx0d0_13 Zx0d1_13 Zx0d2_13 HB_13 HZ_13 t0c0_13 t0c1_13 t0c2_13 zt0c0_13 zt0c1_13 zt0c2_13
  clear hb
  obtain ⟨β7, hβe⟩ : ∃ B, B = w_14.heap.size := ⟨_, rfl⟩
  have β7_le : β6 ≤ β7 := by rw [hβe]; exact HZ_14.out
  have H_14 := hid (hH.mk (lo := β6) (hi := β7) za (Nat.le_of_eq hβe.symm))
  have HZ_14 := hid (Nat.le_of_eq hβe)
  clear hβe hH
  clear za
  go_wp2_with fail
  clear Zx0d0_14
  clear Zx0d1_14
  clear Zx0d2_14
  refine (u_eqInt64S H_14.out W_14.out).mono ?_
  rintro e w_15 ⟨rfl, hb⟩
  rw [show decide (q0 = q0) = true from by simp]
  have Rx0d0_15 := hid (Rx0d0_14.out.below (Nat.le_refl _) hb)
  have Rx0d1_15 := hid (Rx0d1_14.out.below (Nat.le_refl _) hb)
  have Rx0d2_15 := hid (Rx0d2_14.out.below (Nat.le_refl _) hb)
  have W_15 := hid (W_14.out.below (Nat.le_refl _) hb)
  have G_15 := hid (G_14.out.below (Nat.le_refl _) hb)
  have H_15 := hid (H_14.out.below (Nat.le_refl _) hb)
  have HB_15 := hid (bel_next HB_14.out HB_14.out.size hb)
  have HZ_15 := hid (Nat.le_trans HZ_14.out hb.size)
  have t0c0_15 := cell_below hb zt0c0_14 t0c0_14
  have t0c1_15 := cell_below hb zt0c1_14 t0c1_14
  have t0c2_15 := cell_below hb zt0c2_14 t0c2_14
  have zt0c0_15 := Nat.lt_of_lt_of_le zt0c0_14 hb.size
  have zt0c1_15 := Nat.lt_of_lt_of_le zt0c1_14 hb.size
  have zt0c2_15 := Nat.lt_of_lt_of_le zt0c2_14 hb.size
  clear Rx0d0_14 Rx0d1_14 Rx0d2_14 W_14 G_14 H_14 HB_14 HZ_14 t0c0_14 t0c1_14 t0c2_14 zt0c0_14 zt0c1_14 zt0c2_14
  clear hb
  go_wp2_with fail
  refine (c_heldInt64S _ _ _ _ _ _ G_15.out HLY.out HU.out (by omega) (by omega)).mono ?_
  rintro e w' ⟨rfl, rfl⟩
  try go_wp2
  go_ret
  exact ⟨rfl, HB_15.out⟩

theorem own : ownKnob Try.prog.godebug = none := by kernel_rfl
theorem laidOut : laidOutB Try.prog = true := by kernel_rfl
set_option maxRecDepth 100000 in
theorem lifted (os : Os) (started : os.Started) (H : Type) (enc : TypeId × Value → H) :
    ReturnsInHanded {} Try.checked os 9 .any (Rows.fnExactEventsInSpec.pre6 enc Try.prog Try.f9 Rows.fnExactEventsInRow.domain false) (Rows.fnExactEventsInSpec.post enc Try.prog Try.f9 false true false false) := by
  refine returnsInHanded_of_change (C := Try.checked) own started (by kernel_rfl) Try.func9
    (ChangeSpec.witness6 (enc := enc) (C := Try.checked) false ⟨#[], #[.agg #[.slice none 0 0, .slice none 0 0, .slice none 0 0]], []⟩ 8 (by kernel_rfl) (by kernel_rfl) (by kernel_rfl) (by kernel_rfl)) ?_
  intro W base args ds gs before hval0 hW hcnd _
  have hval : ∀ (j : Nat) t v, Try.f9.params[j]? = some t → args[j]? = some v → Value.okWide Try.prog W .any base t v := hval0
  have hW' := hW
  obtain ⟨p, q, hA0, hV, rfl, hfz, hnd⟩ := hW
  have hA : DataW.TrodAll enc Try.prog W 0 (fun _ => true) true Try.f9.params.toList args.toList ds p := hA0
  rw [Try.params9] at hA hval
  obtain ⟨v0, vs0, d0, ds0, p0, q0, hargs, rfl, rfl, h0, r0⟩ := trodAll_cons hA
  obtain ⟨rfl, rfl, rfl⟩ := trodAll_nil r0
  obtain rfl : args = #[v0] := by cases args; simp_all
  obtain ⟨rfl, rfl⟩ := trodVars_none hV
  have k0 := h0
  have lt0 : ∀ x ∈ p0, x.block < W.heap.size := by obtain ⟨m, hm⟩ := k0; exact DataW.trod_lt m _ _ _ hm
  obtain ⟨as0, cs0, rfl, s0⟩ := arg_st Try.underlying70 op_Pg (hval 0 70 v0 rfl rfl) h0
  clear hA0 hval0
  refine (walk as0 cs0 W s0).mono fun e W' ⟨he, bel⟩ => ?_
  subst he
  exact ⟨_, rfl, _, _, _, [], _, [], hW', trodAll_mk1 (shut_bool Try.underlying4 _), (trodAll_cons_mk (Below.trod laidOut (by kernel_rfl) (of_decide_eq_true (by kernel_rfl)) k0 bel lt0) trodAll_mk0), rfl, bel.frame _, fun h => by cases h⟩

theorem over : Rows.fnExactEventsInRow.holds Try.pinned (OpenSpec.ofChange Rows.fnExactEventsInSpec) :=
  OpenClaim.holds_of_wide 9 Try.f9 rfl rfl rfl rfl rfl rfl rfl ⟨rfl, rfl, rfl, rfl, rfl⟩ rfl rfl rfl rfl rfl (by kernel_rfl) Try.func9 (by kernel_rfl)
    (of_decide_eq_true (by kernel_rfl)) (by unfold Func.isWrapper; first | (rw [if_pos (by decide +kernel)]; kernel_rfl) | (rw [if_neg (by decide +kernel)]; exact ⟨rfl, rfl⟩))
    (fun os started H enc _ => lifted os started H enc)

theorem proved : Rows.FnExactEventsInSaid := over
#print axioms proved
end Go.Proofs.Ytedmhdinfedhhaa.fnExactEventsIn
