/- For every program the law FnExactProgramText returns true: the program's ProgramText returns what the reference's returns, and leaves its argument as it was. Condition: Go's own tables stand as its text lays them (the card ties that to the text). -/
import Derived.Test.YtcmopmapdomneaaDoorCards
import Derived.Test.YtcmopmapdomneaaDoorTie
import Derived.Test.YtcmopmapdomneaaDoorM7
import Derived.Deep.RegionHeld3
import Derived.ProofKit
import Derived.OpenShut
import Derived.ChangeOld
namespace Go.Proofs.YtcmopmapdomneaaDoor.fnExactProgramText
open Go.ChangeShapes Go.WideShapes Go.ChangeAt Go.RowKit
open Go.ChangeMaps (open_string shut_string)
set_option linter.unusedVariables false

set_option maxHeartbeats 4000000 in
set_option maxRecDepth 100000 in
theorem walk (d0 : _) (cs0 : Array Value) (w : World) (h0 : cProgram.rd (fun _ => True) w cs0.toList d0) (hTAB : TabE w.heap.size w) : Calls Tryd.prog 4 #[.agg cs0] w fun e w' => e = .returned (.bool true) ∧ Below w.heap.size w w' := by
  obtain ⟨ax0d0, px0d0, ax0d1, px0d1, ax0d2, px0d2, rfl, hx0d0, hx0d1, hx0d2⟩ := Pg_arr h0
  obtain ⟨x0d0, x0d1, x0d2⟩ := d0
  simp only at hx0d0 hx0d1 hx0d2 ⊢
  clear h0
  have HTAB := hid hTAB
  clear hTAB
  obtain ⟨⟨q0, q1⟩, hq⟩ : ∃ q, progTextF (x0d0, x0d1, x0d2) = q := ⟨_, rfl⟩
  have HQ := hid hq
  clear hq
  have hlx0d0 := hx0d0.len_le
  have hlx0d1 := hx0d1.len_le
  have hlx0d2 := hx0d2.len_le
  have HB_0 : Hid (Below w.heap.size w (w.alloc (.cells #[.slice ax0d0 x0d0.length px0d0, .slice ax0d1 x0d1.length px0d1, .slice ax0d2 x0d2.length px0d2] 40))) := (Below.refl _ _).alloc (by simp <;> omega) _
  obtain ⟨β0, hβe⟩ : ∃ B, B = (w.alloc (.cells #[.slice ax0d0 x0d0.length px0d0, .slice ax0d1 x0d1.length px0d1, .slice ax0d2 x0d2.length px0d2] 40)).heap.size := ⟨_, rfl⟩
  have HZ_0 : Hid (β0 ≤ (w.alloc (.cells #[.slice ax0d0 x0d0.length px0d0, .slice ax0d1 x0d1.length px0d1, .slice ax0d2 x0d2.length px0d2] 40)).heap.size) := Nat.le_of_eq hβe
  have β0_le : w.heap.size + 1 ≤ β0 := by rw [hβe]; simp
  clear hβe
  have hx0d0 : SlRd cTerm (fun b => Btw 0 β0 b ∧ True) w ax0d0 px0d0 x0d0 := hx0d0.keep fun b _ hl => ⟨⟨⟨Nat.zero_le _, by omega⟩, trivial⟩, rfl⟩
  have Rx0d0_0 : Hid (SlRd cTerm (fun b => Btw 0 β0 b ∧ True) (w.alloc (.cells #[.slice ax0d0 x0d0.length px0d0, .slice ax0d1 x0d1.length px0d1, .slice ax0d2 x0d2.length px0d2] 40)) ax0d0 px0d0 x0d0) := (hx0d0.alloc _)
  clear hx0d0
  have hx0d1 : SlRd cStmt (fun b => Btw 0 β0 b ∧ True) w ax0d1 px0d1 x0d1 := hx0d1.keep fun b _ hl => ⟨⟨⟨Nat.zero_le _, by omega⟩, trivial⟩, rfl⟩
  have Rx0d1_0 : Hid (SlRd cStmt (fun b => Btw 0 β0 b ∧ True) (w.alloc (.cells #[.slice ax0d0 x0d0.length px0d0, .slice ax0d1 x0d1.length px0d1, .slice ax0d2 x0d2.length px0d2] 40)) ax0d1 px0d1 x0d1) := (hx0d1.alloc _)
  clear hx0d1
  have hx0d2 : SlRd cTerm (fun b => Btw 0 β0 b ∧ True) w ax0d2 px0d2 x0d2 := hx0d2.keep fun b _ hl => ⟨⟨⟨Nat.zero_le _, by omega⟩, trivial⟩, rfl⟩
  have Rx0d2_0 : Hid (SlRd cTerm (fun b => Btw 0 β0 b ∧ True) (w.alloc (.cells #[.slice ax0d0 x0d0.length px0d0, .slice ax0d1 x0d1.length px0d1, .slice ax0d2 x0d2.length px0d2] 40)) ax0d2 px0d2 x0d2) := (hx0d2.alloc _)
  clear hx0d2
  have t0c0_0 : (w.alloc (.cells #[.slice ax0d0 x0d0.length px0d0, .slice ax0d1 x0d1.length px0d1, .slice ax0d2 x0d2.length px0d2] 40)).cell? ⟨w.heap.size, 0, none⟩ = some (.slice ax0d0 x0d0.length px0d0) := by simp [go_sem]
  have zt0c0_0 : w.heap.size < (w.alloc (.cells #[.slice ax0d0 x0d0.length px0d0, .slice ax0d1 x0d1.length px0d1, .slice ax0d2 x0d2.length px0d2] 40)).heap.size := by simp <;> omega
  have t0c1_0 : (w.alloc (.cells #[.slice ax0d0 x0d0.length px0d0, .slice ax0d1 x0d1.length px0d1, .slice ax0d2 x0d2.length px0d2] 40)).cell? ⟨w.heap.size, 1, none⟩ = some (.slice ax0d1 x0d1.length px0d1) := by simp [go_sem]
  have zt0c1_0 : w.heap.size < (w.alloc (.cells #[.slice ax0d0 x0d0.length px0d0, .slice ax0d1 x0d1.length px0d1, .slice ax0d2 x0d2.length px0d2] 40)).heap.size := by simp <;> omega
  have t0c2_0 : (w.alloc (.cells #[.slice ax0d0 x0d0.length px0d0, .slice ax0d1 x0d1.length px0d1, .slice ax0d2 x0d2.length px0d2] 40)).cell? ⟨w.heap.size, 2, none⟩ = some (.slice ax0d2 x0d2.length px0d2) := by simp [go_sem]
  have zt0c2_0 : w.heap.size < (w.alloc (.cells #[.slice ax0d0 x0d0.length px0d0, .slice ax0d1 x0d1.length px0d1, .slice ax0d2 x0d2.length px0d2] 40)).heap.size := by simp <;> omega
  obtain ⟨r0, hr⟩ : ∃ r, szR 1048576 (((szTs x0d0 + szStmts x0d1 + szTs x0d2) : Nat) : Int) = r := ⟨_, rfl⟩
  have HR0 := hid hr
  clear hr
  by_cases hneg0 : r0 < 0
  · skip
    go_enter Tryd.func4, Tryd.ntmps4
    go_wp2_with fail
    generalize (w.alloc (.cells #[.slice ax0d0 x0d0.length px0d0, .slice ax0d1 x0d1.length px0d1, .slice ax0d2 x0d2.length px0d2] 40)) = w_0 at *
    refine (u_szProgram Rx0d0_0.out Rx0d1_0.out Rx0d2_0.out (by omega) (by omega)).mono ?_
    rintro e w_1 ⟨rfl, hb⟩
    rw [HR0.out]
    have Rx0d0_1 := hid (Rx0d0_0.out.below (Nat.le_refl _) hb)
    have Rx0d1_1 := hid (Rx0d1_0.out.below (Nat.le_refl _) hb)
    have Rx0d2_1 := hid (Rx0d2_0.out.below (Nat.le_refl _) hb)
    have HB_1 := hid (bel_next HB_0.out HB_0.out.size hb)
    have HZ_1 := hid (Nat.le_trans HZ_0.out hb.size)
    have t0c0_1 := cell_below hb zt0c0_0 t0c0_0
    have t0c1_1 := cell_below hb zt0c1_0 t0c1_0
    have t0c2_1 := cell_below hb zt0c2_0 t0c2_0
    have zt0c0_1 := Nat.lt_of_lt_of_le zt0c0_0 hb.size
    have zt0c1_1 := Nat.lt_of_lt_of_le zt0c1_0 hb.size
    have zt0c2_1 := Nat.lt_of_lt_of_le zt0c2_0 hb.size
    clear Rx0d0_0 Rx0d1_0 Rx0d2_0 HB_0 HZ_0 t0c0_0 t0c1_0 t0c2_0 zt0c0_0 zt0c1_0 zt0c2_0
    clear hb
    go_wp2_with fail
    go_wp2
    go_ret
    exact ⟨rfl, HB_1.out⟩
  have hle := (szR_ge (left := 1048576) (n := (szTs x0d0 + szStmts x0d1 + szTs x0d2)) (by rw [HR0.out]; omega))
  rw [HR0.out] at hle
  obtain ⟨hle, hle'⟩ := hle
  have hsz0 : (szTs x0d0 + szStmts x0d1 + szTs x0d2) ≤ 1048576 := by omega
  have hlr0 : r0 ≤ 1048576 := by omega
  clear hle hle'
  go_enter Tryd.func4, Tryd.ntmps4
  go_wp2_with fail
  generalize (w.alloc (.cells #[.slice ax0d0 x0d0.length px0d0, .slice ax0d1 x0d1.length px0d1, .slice ax0d2 x0d2.length px0d2] 40)) = w_0 at *
  refine (u_szProgram Rx0d0_0.out Rx0d1_0.out Rx0d2_0.out (by omega) (by omega)).mono ?_
  rintro e w_1 ⟨rfl, hb⟩
  rw [HR0.out]
  have Rx0d0_1 := hid (Rx0d0_0.out.below (Nat.le_refl _) hb)
  have Rx0d1_1 := hid (Rx0d1_0.out.below (Nat.le_refl _) hb)
  have Rx0d2_1 := hid (Rx0d2_0.out.below (Nat.le_refl _) hb)
  have HB_1 := hid (bel_next HB_0.out HB_0.out.size hb)
  have HZ_1 := hid (Nat.le_trans HZ_0.out hb.size)
  have t0c0_1 := cell_below hb zt0c0_0 t0c0_0
  have t0c1_1 := cell_below hb zt0c1_0 t0c1_0
  have t0c2_1 := cell_below hb zt0c2_0 t0c2_0
  have zt0c0_1 := Nat.lt_of_lt_of_le zt0c0_0 hb.size
  have zt0c1_1 := Nat.lt_of_lt_of_le zt0c1_0 hb.size
  have zt0c2_1 := Nat.lt_of_lt_of_le zt0c2_0 hb.size
  clear Rx0d0_0 Rx0d1_0 Rx0d2_0 HB_0 HZ_0 t0c0_0 t0c1_0 t0c2_0 zt0c0_0 zt0c1_0 zt0c2_0
  clear hb
  go_wp2_with fail
  refine (u_toProgram Rx0d0_1.out Rx0d1_1.out Rx0d2_1.out (by omega)).mono ?_
  rintro e w_2 ⟨aVx0d0, pVx0d0, aVx0d1, pVx0d1, aVx0d2, pVx0d2, rfl, hsx0d0, hsx0d1, hsx0d2, hb⟩
  simp only at hsx0d0 hsx0d1 hsx0d2 ⊢
  have za := HZ_1.out
  have Rx0d0_2 := hid (Rx0d0_1.out.below (Nat.le_refl _) hb)
  have Rx0d1_2 := hid (Rx0d1_1.out.below (Nat.le_refl _) hb)
  have Rx0d2_2 := hid (Rx0d2_1.out.below (Nat.le_refl _) hb)
  have HB_2 := hid (bel_next HB_1.out HB_1.out.size hb)
  have HZ_2 := hid (Nat.le_trans HZ_1.out hb.size)
  have t0c0_2 := cell_below hb zt0c0_1 t0c0_1
  have t0c1_2 := cell_below hb zt0c1_1 t0c1_1
  have t0c2_2 := cell_below hb zt0c2_1 t0c2_1
  have zt0c0_2 := Nat.lt_of_lt_of_le zt0c0_1 hb.size
  have zt0c1_2 := Nat.lt_of_lt_of_le zt0c1_1 hb.size
  have zt0c2_2 := Nat.lt_of_lt_of_le zt0c2_1 hb.size
  clear Rx0d0_1 Rx0d1_1 Rx0d2_1 HB_1 HZ_1 t0c0_1 t0c1_1 t0c2_1 zt0c0_1 zt0c1_1 zt0c2_1
  clear hb
  obtain ⟨β1, hβe⟩ : ∃ B, B = w_2.heap.size := ⟨_, rfl⟩
  have β1_le : β0 ≤ β1 := by rw [hβe]; exact HZ_2.out
  have Vx0d0_2 := hid (hsx0d0.mk (lo := β0) (hi := β1) za (Nat.le_of_eq hβe.symm))
  have Vx0d1_2 := hid (hsx0d1.mk (lo := β0) (hi := β1) za (Nat.le_of_eq hβe.symm))
  have Vx0d2_2 := hid (hsx0d2.mk (lo := β0) (hi := β1) za (Nat.le_of_eq hβe.symm))
  have HZ_2 := hid (Nat.le_of_eq hβe)
  clear hβe hsx0d0 hsx0d1 hsx0d2
  clear za
  go_wp2_with fail
  refine (c_sProgramText Vx0d0_2.out Vx0d1_2.out Vx0d2_2.out).mono ?_
  rintro e w_3 ⟨rfl, hb⟩
  rw [HQ.out]
  simp only
  have za := HZ_2.out
  have Rx0d0_3 := hid (Rx0d0_2.out.below (Nat.le_refl _) hb)
  have Rx0d1_3 := hid (Rx0d1_2.out.below (Nat.le_refl _) hb)
  have Rx0d2_3 := hid (Rx0d2_2.out.below (Nat.le_refl _) hb)
  have Vx0d0_3 := hid (Vx0d0_2.out.below (Nat.le_refl _) hb)
  have Vx0d1_3 := hid (Vx0d1_2.out.below (Nat.le_refl _) hb)
  have Vx0d2_3 := hid (Vx0d2_2.out.below (Nat.le_refl _) hb)
  have HB_3 := hid (bel_next HB_2.out HB_2.out.size hb)
  have HZ_3 := hid (Nat.le_trans HZ_2.out hb.size)
  have t0c0_3 := cell_below hb zt0c0_2 t0c0_2
  have t0c1_3 := cell_below hb zt0c1_2 t0c1_2
  have t0c2_3 := cell_below hb zt0c2_2 t0c2_2
  have zt0c0_3 := Nat.lt_of_lt_of_le zt0c0_2 hb.size
  have zt0c1_3 := Nat.lt_of_lt_of_le zt0c1_2 hb.size
  have zt0c2_3 := Nat.lt_of_lt_of_le zt0c2_2 hb.size
  clear Rx0d0_2 Rx0d1_2 Rx0d2_2 Vx0d0_2 Vx0d1_2 Vx0d2_2 HB_2 HZ_2 t0c0_2 t0c1_2 t0c2_2 zt0c0_2 zt0c1_2 zt0c2_2
  clear hb
  clear za
  unfold strOf
  go_wp2_with fail
  clear Vx0d0_3
  clear Vx0d1_3
  clear Vx0d2_3
  refine (u_toProgram Rx0d0_3.out Rx0d1_3.out Rx0d2_3.out (by omega)).mono ?_
  rintro e w_4 ⟨aXx0d0, pXx0d0, aXx0d1, pXx0d1, aXx0d2, pXx0d2, rfl, hsx0d0, hsx0d1, hsx0d2, hb⟩
  simp only at hsx0d0 hsx0d1 hsx0d2 ⊢
  have za := HZ_3.out
  have Rx0d0_4 := hid (Rx0d0_3.out.below (Nat.le_refl _) hb)
  have Rx0d1_4 := hid (Rx0d1_3.out.below (Nat.le_refl _) hb)
  have Rx0d2_4 := hid (Rx0d2_3.out.below (Nat.le_refl _) hb)
  have HB_4 := hid (bel_next HB_3.out HB_3.out.size hb)
  have HZ_4 := hid (Nat.le_trans HZ_3.out hb.size)
  have t0c0_4 := cell_below hb zt0c0_3 t0c0_3
  have t0c1_4 := cell_below hb zt0c1_3 t0c1_3
  have t0c2_4 := cell_below hb zt0c2_3 t0c2_3
  have zt0c0_4 := Nat.lt_of_lt_of_le zt0c0_3 hb.size
  have zt0c1_4 := Nat.lt_of_lt_of_le zt0c1_3 hb.size
  have zt0c2_4 := Nat.lt_of_lt_of_le zt0c2_3 hb.size
  clear Rx0d0_3 Rx0d1_3 Rx0d2_3 HB_3 HZ_3 t0c0_3 t0c1_3 t0c2_3 zt0c0_3 zt0c1_3 zt0c2_3
  clear hb
  obtain ⟨β2, hβe⟩ : ∃ B, B = w_4.heap.size := ⟨_, rfl⟩
  have β2_le : β1 ≤ β2 := by rw [hβe]; exact HZ_4.out
  have Xx0d0_4 := hid (hsx0d0.mk (lo := β1) (hi := β2) za (Nat.le_of_eq hβe.symm))
  have Xx0d1_4 := hid (hsx0d1.mk (lo := β1) (hi := β2) za (Nat.le_of_eq hβe.symm))
  have Xx0d2_4 := hid (hsx0d2.mk (lo := β1) (hi := β2) za (Nat.le_of_eq hβe.symm))
  have HZ_4 := hid (Nat.le_of_eq hβe)
  clear hβe hsx0d0 hsx0d1 hsx0d2
  clear za
  have hbx : Below w_4.heap.size w_4 (w_4.alloc (.cells #[.slice aXx0d0 x0d0.length pXx0d0, .slice aXx0d1 x0d1.length pXx0d1, .slice aXx0d2 x0d2.length pXx0d2] 45)) := (Below.refl _ _).alloc (Nat.le_refl _) _
  have Rx0d0_5 := hid (Rx0d0_4.out.below (Nat.le_refl _) hbx)
  have Rx0d1_5 := hid (Rx0d1_4.out.below (Nat.le_refl _) hbx)
  have Rx0d2_5 := hid (Rx0d2_4.out.below (Nat.le_refl _) hbx)
  have Xx0d0_5 := hid (Xx0d0_4.out.below (Nat.le_refl _) hbx)
  have Xx0d1_5 := hid (Xx0d1_4.out.below (Nat.le_refl _) hbx)
  have Xx0d2_5 := hid (Xx0d2_4.out.below (Nat.le_refl _) hbx)
  have HB_5 := hid (bel_next HB_4.out HB_4.out.size hbx)
  have HZ_5 := hid (Nat.le_trans HZ_4.out hbx.size)
  have t0c0_5 := cell_below hbx zt0c0_4 t0c0_4
  have t0c1_5 := cell_below hbx zt0c1_4 t0c1_4
  have t0c2_5 := cell_below hbx zt0c2_4 t0c2_4
  have zt0c0_5 := Nat.lt_of_lt_of_le zt0c0_4 hbx.size
  have zt0c1_5 := Nat.lt_of_lt_of_le zt0c1_4 hbx.size
  have zt0c2_5 := Nat.lt_of_lt_of_le zt0c2_4 hbx.size
  clear hbx Rx0d0_4 Rx0d1_4 Rx0d2_4 Xx0d0_4 Xx0d1_4 Xx0d2_4 HB_4 HZ_4 t0c0_4 t0c1_4 t0c2_4 zt0c0_4 zt0c1_4 zt0c2_4
  have cx0b0_5 : (w_4.alloc (.cells #[.slice aXx0d0 x0d0.length pXx0d0, .slice aXx0d1 x0d1.length pXx0d1, .slice aXx0d2 x0d2.length pXx0d2] 45)).cell? ⟨w_4.heap.size, 0, none⟩ = some (.slice aXx0d0 x0d0.length pXx0d0) := by rw [World.cell?_alloc_at _ _ _ _ rfl]; rfl
  have zcx0b0_5 : w_4.heap.size < (w_4.alloc (.cells #[.slice aXx0d0 x0d0.length pXx0d0, .slice aXx0d1 x0d1.length pXx0d1, .slice aXx0d2 x0d2.length pXx0d2] 45)).heap.size := by simp
  have cx0b1_5 : (w_4.alloc (.cells #[.slice aXx0d0 x0d0.length pXx0d0, .slice aXx0d1 x0d1.length pXx0d1, .slice aXx0d2 x0d2.length pXx0d2] 45)).cell? ⟨w_4.heap.size, 1, none⟩ = some (.slice aXx0d1 x0d1.length pXx0d1) := by rw [World.cell?_alloc_at _ _ _ _ rfl]; rfl
  have zcx0b1_5 : w_4.heap.size < (w_4.alloc (.cells #[.slice aXx0d0 x0d0.length pXx0d0, .slice aXx0d1 x0d1.length pXx0d1, .slice aXx0d2 x0d2.length pXx0d2] 45)).heap.size := by simp
  have cx0b2_5 : (w_4.alloc (.cells #[.slice aXx0d0 x0d0.length pXx0d0, .slice aXx0d1 x0d1.length pXx0d1, .slice aXx0d2 x0d2.length pXx0d2] 45)).cell? ⟨w_4.heap.size, 2, none⟩ = some (.slice aXx0d2 x0d2.length pXx0d2) := by rw [World.cell?_alloc_at _ _ _ _ rfl]; rfl
  have zcx0b2_5 : w_4.heap.size < (w_4.alloc (.cells #[.slice aXx0d0 x0d0.length pXx0d0, .slice aXx0d1 x0d1.length pXx0d1, .slice aXx0d2 x0d2.length pXx0d2] 45)).heap.size := by simp
  go_wp2_with fail
  generalize (w_4.alloc (.cells #[.slice aXx0d0 x0d0.length pXx0d0, .slice aXx0d1 x0d1.length pXx0d1, .slice aXx0d2 x0d2.length pXx0d2] 45)) = w_5 at *
  refine (c_ProgramText Xx0d0_5.out Xx0d1_5.out Xx0d2_5.out (HTAB.out.belows HB_5.out)).mono ?_
  rintro e w_6 ⟨rfl, hb⟩
  rw [HQ.out]
  simp only
  have za := HZ_5.out
  have Rx0d0_6 := hid (Rx0d0_5.out.below (Nat.le_refl _) hb)
  have Rx0d1_6 := hid (Rx0d1_5.out.below (Nat.le_refl _) hb)
  have Rx0d2_6 := hid (Rx0d2_5.out.below (Nat.le_refl _) hb)
  have Xx0d0_6 := hid (Xx0d0_5.out.below (Nat.le_refl _) hb)
  have Xx0d1_6 := hid (Xx0d1_5.out.below (Nat.le_refl _) hb)
  have Xx0d2_6 := hid (Xx0d2_5.out.below (Nat.le_refl _) hb)
  have HB_6 := hid (bel_next HB_5.out HB_5.out.size hb)
  have HZ_6 := hid (Nat.le_trans HZ_5.out hb.size)
  have t0c0_6 := cell_below hb zt0c0_5 t0c0_5
  have t0c1_6 := cell_below hb zt0c1_5 t0c1_5
  have t0c2_6 := cell_below hb zt0c2_5 t0c2_5
  have cx0b0_6 := cell_below hb zcx0b0_5 cx0b0_5
  have cx0b1_6 := cell_below hb zcx0b1_5 cx0b1_5
  have cx0b2_6 := cell_below hb zcx0b2_5 cx0b2_5
  have zt0c0_6 := Nat.lt_of_lt_of_le zt0c0_5 hb.size
  have zt0c1_6 := Nat.lt_of_lt_of_le zt0c1_5 hb.size
  have zt0c2_6 := Nat.lt_of_lt_of_le zt0c2_5 hb.size
  have zcx0b0_6 := Nat.lt_of_lt_of_le zcx0b0_5 hb.size
  have zcx0b1_6 := Nat.lt_of_lt_of_le zcx0b1_5 hb.size
  have zcx0b2_6 := Nat.lt_of_lt_of_le zcx0b2_5 hb.size
  clear Rx0d0_5 Rx0d1_5 Rx0d2_5 Xx0d0_5 Xx0d1_5 Xx0d2_5 HB_5 HZ_5 t0c0_5 t0c1_5 t0c2_5 cx0b0_5 cx0b1_5 cx0b2_5 zt0c0_5 zt0c1_5 zt0c2_5 zcx0b0_5 zcx0b1_5 zcx0b2_5
  clear hb
  clear za
  unfold strOf
  have hne0 : (q0 == q0) = true := by simp
  have hne1 : (q1 != q1) = false := by simp
  go_wp2_with fail
  have Rx0d0_6 := hid Rx0d0_6.out.drew
  have Rx0d1_6 := hid Rx0d1_6.out.drew
  have Rx0d2_6 := hid Rx0d2_6.out.drew
  have Xx0d0_6 := hid Xx0d0_6.out.drew
  have Xx0d1_6 := hid Xx0d1_6.out.drew
  have Xx0d2_6 := hid Xx0d2_6.out.drew
  have HB_6 := hid HB_6.out.drew
  go_region_held3 (fun w' => w'.cell? ⟨w.heap.size, 0, none⟩ = some (.slice ax0d0 x0d0.length px0d0) ∧ w'.cell? ⟨w.heap.size, 1, none⟩ = some (.slice ax0d1 x0d1.length px0d1) ∧ w'.cell? ⟨w.heap.size, 2, none⟩ = some (.slice ax0d2 x0d2.length px0d2) ∧ w'.cell? ⟨w_4.heap.size, 0, none⟩ = some (.slice aXx0d0 x0d0.length pXx0d0) ∧ w'.cell? ⟨w_4.heap.size, 1, none⟩ = some (.slice aXx0d1 x0d1.length pXx0d1) ∧ w'.cell? ⟨w_4.heap.size, 2, none⟩ = some (.slice aXx0d2 x0d2.length pXx0d2)) (first | exact ⟨t0c0_6, t0c1_6, t0c2_6, cx0b0_6, cx0b1_6, cx0b2_6⟩ | exact kk1 | exact kk2) (first | (go_at_call 12; refine (u_toProgram Rx0d0_6.out Rx0d1_6.out Rx0d2_6.out (by omega)).mono ?_; rintro e w_7 ⟨aYx0d0, pYx0d0, aYx0d1, pYx0d1, aYx0d2, pYx0d2, rfl, hsx0d0, hsx0d1, hsx0d2, hb1⟩; simp only at hsx0d0 hsx0d1 hsx0d2 ⊢; have kk1 := And.intro (cell_below hb1 zt0c0_6 t0c0_6) (And.intro (cell_below hb1 zt0c1_6 t0c1_6) (And.intro (cell_below hb1 zt0c2_6 t0c2_6) (And.intro (cell_below hb1 zcx0b0_6 cx0b0_6) (And.intro (cell_below hb1 zcx0b1_6 cx0b1_6) (cell_below hb1 zcx0b2_6 cx0b2_6))))); have Rx0d0_7 := hid (Rx0d0_6.out.below (Nat.le_refl _) hb1); have Rx0d1_7 := hid (Rx0d1_6.out.below (Nat.le_refl _) hb1); have Rx0d2_7 := hid (Rx0d2_6.out.below (Nat.le_refl _) hb1); have Xx0d0_7 := hid (Xx0d0_6.out.below (Nat.le_refl _) hb1); have Xx0d1_7 := hid (Xx0d1_6.out.below (Nat.le_refl _) hb1); have Xx0d2_7 := hid (Xx0d2_6.out.below (Nat.le_refl _) hb1); have HB_7 := hid (bel_next HB_6.out HB_6.out.size hb1); have HZ_7 := hid (Nat.le_trans HZ_6.out hb1.size); have zt0c0_7 := Nat.lt_of_lt_of_le zt0c0_6 hb1.size; have zt0c1_7 := Nat.lt_of_lt_of_le zt0c1_6 hb1.size; have zt0c2_7 := Nat.lt_of_lt_of_le zt0c2_6 hb1.size; have zcx0b0_7 := Nat.lt_of_lt_of_le zcx0b0_6 hb1.size; have zcx0b1_7 := Nat.lt_of_lt_of_le zcx0b1_6 hb1.size; have zcx0b2_7 := Nat.lt_of_lt_of_le zcx0b2_6 hb1.size; have Yx0d0_7 := hid hsx0d0; have Yx0d1_7 := hid hsx0d1; have Yx0d2_7 := hid hsx0d2; clear hsx0d0 hsx0d1 hsx0d2) | (go_at_call 14; refine (u_eqProgram Xx0d0_7.out Xx0d1_7.out Xx0d2_7.out Yx0d0_7.out Yx0d1_7.out Yx0d2_7.out).mono ?_; rintro e w_8 ⟨rfl, hb2⟩; rw [show decide (((x0d0, x0d1, x0d2) : Pg) = (x0d0, x0d1, x0d2)) = true from (by simp)]; have kk2 := And.intro (cell_below hb2 zt0c0_7 (kk1.1)) (And.intro (cell_below hb2 zt0c1_7 (kk1.2.1)) (And.intro (cell_below hb2 zt0c2_7 (kk1.2.2.1)) (And.intro (cell_below hb2 zcx0b0_7 (kk1.2.2.2.1)) (And.intro (cell_below hb2 zcx0b1_7 (kk1.2.2.2.2.1)) (cell_below hb2 zcx0b2_7 (kk1.2.2.2.2.2)))))); have Rx0d0_8 := hid (Rx0d0_7.out.below (Nat.le_refl _) hb2); have Rx0d1_8 := hid (Rx0d1_7.out.below (Nat.le_refl _) hb2); have Rx0d2_8 := hid (Rx0d2_7.out.below (Nat.le_refl _) hb2); have Xx0d0_8 := hid (Xx0d0_7.out.below (Nat.le_refl _) hb2); have Xx0d1_8 := hid (Xx0d1_7.out.below (Nat.le_refl _) hb2); have Xx0d2_8 := hid (Xx0d2_7.out.below (Nat.le_refl _) hb2); have Yx0d0_8 := hid (Yx0d0_7.out.below (Nat.le_refl _) hb2); have Yx0d1_8 := hid (Yx0d1_7.out.below (Nat.le_refl _) hb2); have Yx0d2_8 := hid (Yx0d2_7.out.below (Nat.le_refl _) hb2); have HB_8 := hid (bel_next HB_7.out HB_7.out.size hb2); have HZ_8 := hid (Nat.le_trans HZ_7.out hb2.size); have zt0c0_8 := Nat.lt_of_lt_of_le zt0c0_7 hb2.size; have zt0c1_8 := Nat.lt_of_lt_of_le zt0c1_7 hb2.size; have zt0c2_8 := Nat.lt_of_lt_of_le zt0c2_7 hb2.size; have zcx0b0_8 := Nat.lt_of_lt_of_le zcx0b0_7 hb2.size; have zcx0b1_8 := Nat.lt_of_lt_of_le zcx0b1_7 hb2.size; have zcx0b2_8 := Nat.lt_of_lt_of_le zcx0b2_7 hb2.size))
  have t0c0_8 := kk2.1
  have t0c1_8 := kk2.2.1
  have t0c2_8 := kk2.2.2.1
  have cx0b0_8 := kk2.2.2.2.1
  have cx0b1_8 := kk2.2.2.2.2.1
  have cx0b2_8 := kk2.2.2.2.2.2
  clear kk1 kk2 hb1 hb2 t0c0_6 t0c1_6 t0c2_6 cx0b0_6 cx0b1_6 cx0b2_6
  go_wp2_with fail
  clear Yx0d0_8
  clear Yx0d1_8
  clear Yx0d2_8
  try go_wp2
  go_ret
  exact ⟨rfl, HB_8.out⟩

theorem own : ownKnob Tryd.prog.godebug = none := by kernel_rfl
theorem laidOut : laidOutB Tryd.prog = true := by kernel_rfl
set_option maxRecDepth 100000 in
theorem lifted (os : Os) (started : os.Started) (H : Type) (enc : TypeId × Value → H) (F : Stop.Interp) :
    ReturnsInHanded {} Tryd.checked os 4 .any ((OpenSpec.ofChange Rows.fnExactProgramTextSpec).preRow enc Tryd.prog Tryd.f4 Rows.fnExactProgramTextRow.domain false Rows.fnExactProgramTextRow.laid) (((OpenSpec.ofChange Rows.fnExactProgramTextSpec).at F).post enc Tryd.prog Tryd.f4 false true false false) := by
  refine returnsInHanded_of_row (C := Tryd.checked) (s := OpenSpec.ofChange Rows.fnExactProgramTextSpec) own started (by kernel_rfl) Tryd.func4
    (ChangeSpec.witness_shaped (enc := enc) (C := Tryd.checked) (os := os) (s := Rows.fnExactProgramTextSpec) (X := fun w _ => laidMetH Tryd.prog Rows.fnExactProgramTextRow.laid w) false (World.laidAll Tryd.prog os Rows.fnExactProgramTextRow.laid) #[.agg #[.slice none 0 0, .slice none 0 0, .slice none 0 0]] 8 (World.laidAll_os _ _ _)
      (World.shaped_of_ZipB (by kernel_rfl) (by kernel_rfl)) (by kernel_rfl) (by kernel_rfl) (by kernel_rfl)
      (by rw [MakeChecks.laidMetH_plain _ _ _ (by kernel_rfl)]; exact laidMet_laidAll _ (by kernel_rfl) (by kernel_rfl))) ?_
  intro W base args ds gs before hval0 hW hcnd _ _ hL hsh _
  have hval : ∀ (j : Nat) t v, Tryd.f4.params[j]? = some t → args[j]? = some v → Value.okWide Tryd.prog W .any base t v := hval0
  have hW' := hW
  obtain ⟨p, q, hA0, hV, rfl, hfz, hnd⟩ := hW
  have hA : DataW.TrodAll enc Tryd.prog W 0 (fun _ => true) true Tryd.f4.params.toList args.toList ds p := hA0
  rw [Tryd.params4] at hA hval
  obtain ⟨v0, vs0, d0, ds0, p0, q0, hargs, rfl, rfl, h0, r0⟩ := trodAll_cons hA
  obtain ⟨rfl, rfl, rfl⟩ := trodAll_nil r0
  obtain rfl : args = #[v0] := by cases args; simp_all
  obtain ⟨rfl, rfl⟩ := trodVars_none hV
  have k0 := h0
  have lt0 : ∀ x ∈ p0, x.block < W.heap.size := by obtain ⟨m, hm⟩ := k0; exact DataW.trod_lt m _ _ _ hm
  obtain ⟨as0, cs0, rfl, s0⟩ := arg_st Tryd.underlying40 op_Pg (hval 0 40 v0 rfl rfl) h0
  clear hA0 hval0
  have ETAB := tab_of (laid_from 2 hL (by kernel_rfl) rfl)
  refine (walk as0 cs0 W s0 ETAB).mono fun e W' ⟨he, bel⟩ => ?_
  subst he
  exact ⟨_, rfl, _, _, _, [], _, [], hW', trodAll_mk1 (shut_bool Tryd.underlying4 _), (trodAll_cons_mk (Below.trod laidOut (by kernel_rfl) (of_decide_eq_true (by kernel_rfl)) k0 bel lt0) trodAll_mk0), rfl, bel.frame _, fun h => by cases h⟩

theorem said : Rows.FnExactProgramTextSaid :=
  OpenClaim.holds_of_cond 4 Tryd.f4 rfl rfl rfl rfl rfl rfl rfl ⟨rfl, rfl, rfl, rfl, rfl⟩ rfl rfl rfl rfl rfl (by kernel_rfl) Tryd.func4 (by kernel_rfl)
    (of_decide_eq_true (by kernel_rfl)) (by unfold Func.isWrapper; first | (rw [if_pos (by decide +kernel)]; kernel_rfl) | (rw [if_neg (by decide +kernel)]; exact ⟨rfl, rfl⟩))
    (fun os started H enc _ F => by rw [OpenClaim.pre_eq_preRow]; exact lifted os started H enc F)
theorem plain (f : FuncId) (fn : Func) (hf : Tryd.pinned.checked.prog.funcNamed "loop.example/g01105/laws.FnExactProgramText" = some f) (hfn : Tryd.pinned.checked.prog.funcs[f]? = some fn) :
    false = Tryd.pinned.checked.prog.looks [] ∧ ∀ (j : Nat) t, fn.params[j]? = some t → Tryd.pinned.checked.prog.wantsStandIn t = false := by
  obtain rfl : f = 4 := Option.some.inj ((show Tryd.prog.funcNamed "loop.example/g01105/laws.FnExactProgramText" = some 4 by kernel_rfl).symm.trans hf) |>.symm
  obtain rfl : fn = Tryd.f4 := (Option.some.inj (Tryd.func4.symm.trans hfn)).symm
  refine ⟨by kernel_rfl, fun j t ht => ?_⟩
  rw [Tryd.params4] at ht
  have hm : t ∈ [40] := by simpa using Array.mem_of_getElem? ht
  have hall : ([40].all fun u => !Tryd.prog.wantsStandIn u) = true := by kernel_rfl
  have hr : Tryd.prog.wantsStandIn t = false := by simpa using List.all_eq_true.1 hall t hm
  exact hr
theorem proved : Rows.FnExactProgramTextCardSaid :=
  Claim7.holds_tied_plain_at .later [] _ _ _ _ said (fun _ h => by cases h) (by kernel_rfl) (fun _ h => by cases h) fnExactProgramText_row_tie rfl ⟨rfl, rfl⟩ (by kernel_rfl) rfl plain (by kernel_rfl)
#print axioms proved
end Go.Proofs.YtcmopmapdomneaaDoor.fnExactProgramText
