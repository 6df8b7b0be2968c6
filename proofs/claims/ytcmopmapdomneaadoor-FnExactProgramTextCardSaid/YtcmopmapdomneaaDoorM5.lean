/- Contracts and laws of data, 6 texts joined (they are printed one by one from wip/src). -/
import Derived.Test.YtcmopmapdomneaaDoorM4
import Derived.Deep.RegionHeld3
import Derived.Outline

section
namespace Go.Proofs.YtcmopmapdomneaaDoor
open Go.RowKit
abbrev An := List Term × List Term × List Instr × List Pt
abbrev cAnnotated : Codec An := cPair cTerms (cPair cTerms (cPair cCode cPoints))
abbrev nAnnotated : Norm cAnnotated := nPair nTerms (nPair nTerms (nPair nCode nPoints))
instance dec_An_1 : DecidableEq (List Term × List Instr × List Pt) := inferInstance
instance dec_An : DecidableEq An := inferInstance
theorem An_list {S : Nat → Prop} {w : World} {cs : List Value} {d : An} (h : cAnnotated.rd S w cs d) : ∃ a0 p0 a1 p1 a2 p2 a3 p3, cs = [.slice a0 d.1.length p0, .slice a1 d.2.1.length p1, .slice a2 d.2.2.1.length p2, .slice a3 d.2.2.2.length p3] ∧ SlRd cTerm S w a0 p0 d.1 ∧ SlRd cTerm S w a1 p1 d.2.1 ∧ SlRd cInstr S w a2 p2 d.2.2.1 ∧ SlRd cPoint S w a3 p3 d.2.2.2 := by
  obtain ⟨_, _, rfl, ⟨a0, p0, rfl, r0⟩, ⟨_, _, rfl, ⟨a1, p1, rfl, r1⟩, ⟨_, _, rfl, ⟨a2, p2, rfl, r2⟩, ⟨a3, p3, rfl, r3⟩⟩⟩⟩ := h
  exact ⟨a0, p0, a1, p1, a2, p2, a3, p3, rfl, r0, r1, r2, r3⟩
theorem An_arr {S : Nat → Prop} {w : World} {cs : Array Value} {d : An} (h : cAnnotated.rd S w cs.toList d) : ∃ a0 p0 a1 p1 a2 p2 a3 p3, cs = #[.slice a0 d.1.length p0, .slice a1 d.2.1.length p1, .slice a2 d.2.2.1.length p2, .slice a3 d.2.2.2.length p3] ∧ SlRd cTerm S w a0 p0 d.1 ∧ SlRd cTerm S w a1 p1 d.2.1 ∧ SlRd cInstr S w a2 p2 d.2.2.1 ∧ SlRd cPoint S w a3 p3 d.2.2.2 := by
  obtain ⟨a0, p0, a1, p1, a2, p2, a3, p3, he, hr⟩ := An_list h
  exact ⟨a0, p0, a1, p1, a2, p2, a3, p3, by rw [← Array.toList_inj, he], hr⟩
theorem op_An : Opens Tryd.prog 26 cAnnotated := opens_struct Tryd.underlying26 (by kernel_rfl) (opensFs_cons rfl op_Terms (opensFs_cons rfl op_Terms (opensFs_cons rfl op_Code (opensFs_last rfl op_Pts))))
set_option maxRecDepth 100000 in
theorem u_szAnnotated {S : Nat → Prop} {a0 : Option Addr} {p0 : Nat} {d0 : List Term} {a1 : Option Addr} {p1 : Nat} {d1 : List Term} {a2 : Option Addr} {p2 : Nat} {d2 : List Instr} {a3 : Option Addr} {p3 : Nat} {d3 : List Pt} {left : Int} {w : World} (h0 : SlRd cTerm S w a0 p0 d0) (h1 : SlRd cTerm S w a1 p1 d1) (h2 : SlRd cInstr S w a2 p2 d2) (h3 : SlRd cPoint S w a3 p3 d3) (hl0 : 0 ≤ left) (hl1 : left ≤ 1048576) :
    Calls Tryd.prog 5 #[.agg #[.slice a0 d0.length p0, .slice a1 d1.length p1, .slice a2 d2.length p2, .slice a3 d3.length p3], .int .i64 left] w fun e w' => e = .returned (.int .i64 (szR left ((szTs d0 + szTs d1 + d2.length + szPts d3) : Nat))) ∧ Below w.heap.size w w' := by
  have R0_0 := hid (h0.alloc (.cells #[.slice a0 d0.length p0, .slice a1 d1.length p1, .slice a2 d2.length p2, .slice a3 d3.length p3] 26))
  have R1_0 := hid (h1.alloc (.cells #[.slice a0 d0.length p0, .slice a1 d1.length p1, .slice a2 d2.length p2, .slice a3 d3.length p3] 26))
  have R2_0 := hid (h2.alloc (.cells #[.slice a0 d0.length p0, .slice a1 d1.length p1, .slice a2 d2.length p2, .slice a3 d3.length p3] 26))
  have R3_0 := hid (h3.alloc (.cells #[.slice a0 d0.length p0, .slice a1 d1.length p1, .slice a2 d2.length p2, .slice a3 d3.length p3] 26))
  have HB_0 : Hid (Below w.heap.size w (w.alloc (.cells #[.slice a0 d0.length p0, .slice a1 d1.length p1, .slice a2 d2.length p2, .slice a3 d3.length p3] 26))) := (Below.refl _ _).alloc (Nat.le_refl _) _
  have z_0 : w.heap.size < (w.alloc (.cells #[.slice a0 d0.length p0, .slice a1 d1.length p1, .slice a2 d2.length p2, .slice a3 d3.length p3] 26)).heap.size := by simp
  have t0_0 : (w.alloc (.cells #[.slice a0 d0.length p0, .slice a1 d1.length p1, .slice a2 d2.length p2, .slice a3 d3.length p3] 26)).cell? ⟨w.heap.size, 0, none⟩ = some (.slice a0 d0.length p0) := by rw [World.cell?_alloc_at _ _ _ _ rfl]; rfl
  have t1_0 : (w.alloc (.cells #[.slice a0 d0.length p0, .slice a1 d1.length p1, .slice a2 d2.length p2, .slice a3 d3.length p3] 26)).cell? ⟨w.heap.size, 1, none⟩ = some (.slice a1 d1.length p1) := by rw [World.cell?_alloc_at _ _ _ _ rfl]; rfl
  have t2_0 : (w.alloc (.cells #[.slice a0 d0.length p0, .slice a1 d1.length p1, .slice a2 d2.length p2, .slice a3 d3.length p3] 26)).cell? ⟨w.heap.size, 2, none⟩ = some (.slice a2 d2.length p2) := by rw [World.cell?_alloc_at _ _ _ _ rfl]; rfl
  have t3_0 : (w.alloc (.cells #[.slice a0 d0.length p0, .slice a1 d1.length p1, .slice a2 d2.length p2, .slice a3 d3.length p3] 26)).cell? ⟨w.heap.size, 3, none⟩ = some (.slice a3 d3.length p3) := by rw [World.cell?_alloc_at _ _ _ _ rfl]; rfl
  clear h0 h1 h2 h3
  obtain ⟨r0, hr⟩ : ∃ r, szR left (szTs d0 : Nat) = r := ⟨_, rfl⟩
  have l0 : r0 ≤ left := by rw [← hr]; unfold szR; split <;> omega
  have m0 : r0 < 0 → r0 = -1 := by rw [← hr]; unfold szR; split <;> omega
  have HS0 : Hid (szR left ((szTs d0 : Nat) : Int) = r0) := by exact hr
  have HR0 := hid hr
  clear hr
  by_cases g0 : r0 < 0
  · skip
    have h8 : szR left ((szTs d0 : Nat) : Int) < 0 := by rw [HS0.out]; exact g0
    have h8 := szR_neg (m := szTs d1) h8
    have h8 : szR left ((szTs d0 + szTs d1 : Nat) : Int) < 0 := by rw [h8]; decide
    have h8 := szR_neg (m := d2.length) h8
    have h8 : szR left ((szTs d0 + szTs d1 + d2.length : Nat) : Int) < 0 := by rw [h8]; decide
    have h8 := szR_neg (m := szPts d3) h8
    have HF := hid h8
    clear h8 m0
    go_enter Tryd.func5, Tryd.ntmps5
    go_wp2_with fail
    refine (u_szTermS R0_0.out (by omega) (by omega)).mono ?_
    rintro e w_1 ⟨rfl, hb⟩
    rw [HR0.out]
    have R0_1 := hid (R0_0.out.below (Nat.le_refl _) hb)
    have R1_1 := hid (R1_0.out.below (Nat.le_refl _) hb)
    have R2_1 := hid (R2_0.out.below (Nat.le_refl _) hb)
    have R3_1 := hid (R3_0.out.below (Nat.le_refl _) hb)
    have HB_1 := hid (bel_next HB_0.out HB_0.out.size hb)
    have t0_1 := cell_below hb z_0 t0_0
    have t1_1 := cell_below hb z_0 t1_0
    have t2_1 := cell_below hb z_0 t2_0
    have t3_1 := cell_below hb z_0 t3_0
    have z_1 := Nat.lt_of_lt_of_le z_0 hb.size
    clear hb R0_0 R1_0 R2_0 R3_0 HB_0 t0_0 t1_0 t2_0 t3_0 z_0
    go_wp2
    go_ret
    exact ⟨ret_int HF.out.symm, HB_1.out⟩
  clear m0
  obtain ⟨r1, hr⟩ : ∃ r, szR r0 (szTs d1 : Nat) = r := ⟨_, rfl⟩
  have l1 : r1 ≤ r0 := by rw [← hr]; unfold szR; split <;> omega
  have m1 : r1 < 0 → r1 = -1 := by rw [← hr]; unfold szR; split <;> omega
  have HS1 : Hid (szR left ((szTs d0 + szTs d1 : Nat) : Int) = r1) := by have h9 := HS0.out; unfold Hid; rw [← hr, ← h9, szR_add (by rw [h9]; omega)]
  have HR1 := hid hr
  clear hr
  by_cases g1 : r1 < 0
  · skip
    have h8 : szR left ((szTs d0 + szTs d1 : Nat) : Int) < 0 := by rw [HS1.out]; exact g1
    have h8 := szR_neg (m := d2.length) h8
    have h8 : szR left ((szTs d0 + szTs d1 + d2.length : Nat) : Int) < 0 := by rw [h8]; decide
    have h8 := szR_neg (m := szPts d3) h8
    have HF := hid h8
    clear h8 m1
    go_enter Tryd.func5, Tryd.ntmps5
    go_wp2_with fail
    refine (u_szTermS R0_0.out (by omega) (by omega)).mono ?_
    rintro e w_1 ⟨rfl, hb⟩
    rw [HR0.out]
    have R0_1 := hid (R0_0.out.below (Nat.le_refl _) hb)
    have R1_1 := hid (R1_0.out.below (Nat.le_refl _) hb)
    have R2_1 := hid (R2_0.out.below (Nat.le_refl _) hb)
    have R3_1 := hid (R3_0.out.below (Nat.le_refl _) hb)
    have HB_1 := hid (bel_next HB_0.out HB_0.out.size hb)
    have t0_1 := cell_below hb z_0 t0_0
    have t1_1 := cell_below hb z_0 t1_0
    have t2_1 := cell_below hb z_0 t2_0
    have t3_1 := cell_below hb z_0 t3_0
    have z_1 := Nat.lt_of_lt_of_le z_0 hb.size
    clear hb R0_0 R1_0 R2_0 R3_0 HB_0 t0_0 t1_0 t2_0 t3_0 z_0
    go_wp2_with fail
    refine (u_szTermS R1_1.out (by omega) (by omega)).mono ?_
    rintro e w_2 ⟨rfl, hb⟩
    rw [HR1.out]
    have R0_2 := hid (R0_1.out.below (Nat.le_refl _) hb)
    have R1_2 := hid (R1_1.out.below (Nat.le_refl _) hb)
    have R2_2 := hid (R2_1.out.below (Nat.le_refl _) hb)
    have R3_2 := hid (R3_1.out.below (Nat.le_refl _) hb)
    have HB_2 := hid (bel_next HB_1.out HB_1.out.size hb)
    have t0_2 := cell_below hb z_1 t0_1
    have t1_2 := cell_below hb z_1 t1_1
    have t2_2 := cell_below hb z_1 t2_1
    have t3_2 := cell_below hb z_1 t3_1
    have z_2 := Nat.lt_of_lt_of_le z_1 hb.size
    clear hb R0_1 R1_1 R2_1 R3_1 HB_1 t0_1 t1_1 t2_1 t3_1 z_1
    go_wp2
    go_ret
    exact ⟨ret_int HF.out.symm, HB_2.out⟩
  clear m1
  obtain ⟨r2, hr⟩ : ∃ r, szR r1 (d2.length : Nat) = r := ⟨_, rfl⟩
  have l2 : r2 ≤ r1 := by rw [← hr]; unfold szR; split <;> omega
  have m2 : r2 < 0 → r2 = -1 := by rw [← hr]; unfold szR; split <;> omega
  have HS2 : Hid (szR left ((szTs d0 + szTs d1 + d2.length : Nat) : Int) = r2) := by have h9 := HS1.out; unfold Hid; rw [← hr, ← h9, szR_add (by rw [h9]; omega)]
  have HR2 := hid hr
  clear hr
  by_cases g2 : r2 < 0
  · skip
    have h8 : szR left ((szTs d0 + szTs d1 + d2.length : Nat) : Int) < 0 := by rw [HS2.out]; exact g2
    have h8 := szR_neg (m := szPts d3) h8
    have HF := hid h8
    clear h8 m2
    go_enter Tryd.func5, Tryd.ntmps5
    go_wp2_with fail
    refine (u_szTermS R0_0.out (by omega) (by omega)).mono ?_
    rintro e w_1 ⟨rfl, hb⟩
    rw [HR0.out]
    have R0_1 := hid (R0_0.out.below (Nat.le_refl _) hb)
    have R1_1 := hid (R1_0.out.below (Nat.le_refl _) hb)
    have R2_1 := hid (R2_0.out.below (Nat.le_refl _) hb)
    have R3_1 := hid (R3_0.out.below (Nat.le_refl _) hb)
    have HB_1 := hid (bel_next HB_0.out HB_0.out.size hb)
    have t0_1 := cell_below hb z_0 t0_0
    have t1_1 := cell_below hb z_0 t1_0
    have t2_1 := cell_below hb z_0 t2_0
    have t3_1 := cell_below hb z_0 t3_0
    have z_1 := Nat.lt_of_lt_of_le z_0 hb.size
    clear hb R0_0 R1_0 R2_0 R3_0 HB_0 t0_0 t1_0 t2_0 t3_0 z_0
    go_wp2_with fail
    refine (u_szTermS R1_1.out (by omega) (by omega)).mono ?_
    rintro e w_2 ⟨rfl, hb⟩
    rw [HR1.out]
    have R0_2 := hid (R0_1.out.below (Nat.le_refl _) hb)
    have R1_2 := hid (R1_1.out.below (Nat.le_refl _) hb)
    have R2_2 := hid (R2_1.out.below (Nat.le_refl _) hb)
    have R3_2 := hid (R3_1.out.below (Nat.le_refl _) hb)
    have HB_2 := hid (bel_next HB_1.out HB_1.out.size hb)
    have t0_2 := cell_below hb z_1 t0_1
    have t1_2 := cell_below hb z_1 t1_1
    have t2_2 := cell_below hb z_1 t2_1
    have t3_2 := cell_below hb z_1 t3_1
    have z_2 := Nat.lt_of_lt_of_le z_1 hb.size
    clear hb R0_1 R1_1 R2_1 R3_1 HB_1 t0_1 t1_1 t2_1 t3_1 z_1
    go_wp2_with fail
    refine (u_szInstrS R2_2.out (by omega) (by omega)).mono ?_
    rintro e w_3 ⟨rfl, hb⟩
    rw [HR2.out]
    have R0_3 := hid (R0_2.out.below (Nat.le_refl _) hb)
    have R1_3 := hid (R1_2.out.below (Nat.le_refl _) hb)
    have R2_3 := hid (R2_2.out.below (Nat.le_refl _) hb)
    have R3_3 := hid (R3_2.out.below (Nat.le_refl _) hb)
    have HB_3 := hid (bel_next HB_2.out HB_2.out.size hb)
    have t0_3 := cell_below hb z_2 t0_2
    have t1_3 := cell_below hb z_2 t1_2
    have t2_3 := cell_below hb z_2 t2_2
    have t3_3 := cell_below hb z_2 t3_2
    have z_3 := Nat.lt_of_lt_of_le z_2 hb.size
    clear hb R0_2 R1_2 R2_2 R3_2 HB_2 t0_2 t1_2 t2_2 t3_2 z_2
    go_wp2
    go_ret
    exact ⟨ret_int HF.out.symm, HB_3.out⟩
  clear m2
  obtain ⟨r3, hr⟩ : ∃ r, szR r2 (szPts d3 : Nat) = r := ⟨_, rfl⟩
  have l3 : r3 ≤ r2 := by rw [← hr]; unfold szR; split <;> omega
  have m3 : r3 < 0 → r3 = -1 := by rw [← hr]; unfold szR; split <;> omega
  have HS3 : Hid (szR left ((szTs d0 + szTs d1 + d2.length + szPts d3 : Nat) : Int) = r3) := by have h9 := HS2.out; unfold Hid; rw [← hr, ← h9, szR_add (by rw [h9]; omega)]
  have HR3 := hid hr
  clear hr
  by_cases g3 : r3 < 0
  · skip
    have h8 : szR left ((szTs d0 + szTs d1 + d2.length + szPts d3 : Nat) : Int) < 0 := by rw [HS3.out]; exact g3
    have HF := hid (HS3.out.trans (m3 g3))
    clear h8 m3
    go_enter Tryd.func5, Tryd.ntmps5
    go_wp2_with fail
    refine (u_szTermS R0_0.out (by omega) (by omega)).mono ?_
    rintro e w_1 ⟨rfl, hb⟩
    rw [HR0.out]
    have R0_1 := hid (R0_0.out.below (Nat.le_refl _) hb)
    have R1_1 := hid (R1_0.out.below (Nat.le_refl _) hb)
    have R2_1 := hid (R2_0.out.below (Nat.le_refl _) hb)
    have R3_1 := hid (R3_0.out.below (Nat.le_refl _) hb)
    have HB_1 := hid (bel_next HB_0.out HB_0.out.size hb)
    have t0_1 := cell_below hb z_0 t0_0
    have t1_1 := cell_below hb z_0 t1_0
    have t2_1 := cell_below hb z_0 t2_0
    have t3_1 := cell_below hb z_0 t3_0
    have z_1 := Nat.lt_of_lt_of_le z_0 hb.size
    clear hb R0_0 R1_0 R2_0 R3_0 HB_0 t0_0 t1_0 t2_0 t3_0 z_0
    go_wp2_with fail
    refine (u_szTermS R1_1.out (by omega) (by omega)).mono ?_
    rintro e w_2 ⟨rfl, hb⟩
    rw [HR1.out]
    have R0_2 := hid (R0_1.out.below (Nat.le_refl _) hb)
    have R1_2 := hid (R1_1.out.below (Nat.le_refl _) hb)
    have R2_2 := hid (R2_1.out.below (Nat.le_refl _) hb)
    have R3_2 := hid (R3_1.out.below (Nat.le_refl _) hb)
    have HB_2 := hid (bel_next HB_1.out HB_1.out.size hb)
    have t0_2 := cell_below hb z_1 t0_1
    have t1_2 := cell_below hb z_1 t1_1
    have t2_2 := cell_below hb z_1 t2_1
    have t3_2 := cell_below hb z_1 t3_1
    have z_2 := Nat.lt_of_lt_of_le z_1 hb.size
    clear hb R0_1 R1_1 R2_1 R3_1 HB_1 t0_1 t1_1 t2_1 t3_1 z_1
    go_wp2_with fail
    refine (u_szInstrS R2_2.out (by omega) (by omega)).mono ?_
    rintro e w_3 ⟨rfl, hb⟩
    rw [HR2.out]
    have R0_3 := hid (R0_2.out.below (Nat.le_refl _) hb)
    have R1_3 := hid (R1_2.out.below (Nat.le_refl _) hb)
    have R2_3 := hid (R2_2.out.below (Nat.le_refl _) hb)
    have R3_3 := hid (R3_2.out.below (Nat.le_refl _) hb)
    have HB_3 := hid (bel_next HB_2.out HB_2.out.size hb)
    have t0_3 := cell_below hb z_2 t0_2
    have t1_3 := cell_below hb z_2 t1_2
    have t2_3 := cell_below hb z_2 t2_2
    have t3_3 := cell_below hb z_2 t3_2
    have z_3 := Nat.lt_of_lt_of_le z_2 hb.size
    clear hb R0_2 R1_2 R2_2 R3_2 HB_2 t0_2 t1_2 t2_2 t3_2 z_2
    go_wp2_with fail
    refine (u_szPointS R3_3.out (by omega) (by omega)).mono ?_
    rintro e w_4 ⟨rfl, hb⟩
    rw [HR3.out]
    have R0_4 := hid (R0_3.out.below (Nat.le_refl _) hb)
    have R1_4 := hid (R1_3.out.below (Nat.le_refl _) hb)
    have R2_4 := hid (R2_3.out.below (Nat.le_refl _) hb)
    have R3_4 := hid (R3_3.out.below (Nat.le_refl _) hb)
    have HB_4 := hid (bel_next HB_3.out HB_3.out.size hb)
    have t0_4 := cell_below hb z_3 t0_3
    have t1_4 := cell_below hb z_3 t1_3
    have t2_4 := cell_below hb z_3 t2_3
    have t3_4 := cell_below hb z_3 t3_3
    have z_4 := Nat.lt_of_lt_of_le z_3 hb.size
    clear hb R0_3 R1_3 R2_3 R3_3 HB_3 t0_3 t1_3 t2_3 t3_3 z_3
    go_wp2
    go_ret
    exact ⟨ret_int HF.out.symm, HB_4.out⟩
  clear m3
  go_enter Tryd.func5, Tryd.ntmps5
  go_wp2_with fail
  refine (u_szTermS R0_0.out (by omega) (by omega)).mono ?_
  rintro e w_1 ⟨rfl, hb⟩
  rw [HR0.out]
  have R0_1 := hid (R0_0.out.below (Nat.le_refl _) hb)
  have R1_1 := hid (R1_0.out.below (Nat.le_refl _) hb)
  have R2_1 := hid (R2_0.out.below (Nat.le_refl _) hb)
  have R3_1 := hid (R3_0.out.below (Nat.le_refl _) hb)
  have HB_1 := hid (bel_next HB_0.out HB_0.out.size hb)
  have t0_1 := cell_below hb z_0 t0_0
  have t1_1 := cell_below hb z_0 t1_0
  have t2_1 := cell_below hb z_0 t2_0
  have t3_1 := cell_below hb z_0 t3_0
  have z_1 := Nat.lt_of_lt_of_le z_0 hb.size
  clear hb R0_0 R1_0 R2_0 R3_0 HB_0 t0_0 t1_0 t2_0 t3_0 z_0
  go_wp2_with fail
  refine (u_szTermS R1_1.out (by omega) (by omega)).mono ?_
  rintro e w_2 ⟨rfl, hb⟩
  rw [HR1.out]
  have R0_2 := hid (R0_1.out.below (Nat.le_refl _) hb)
  have R1_2 := hid (R1_1.out.below (Nat.le_refl _) hb)
  have R2_2 := hid (R2_1.out.below (Nat.le_refl _) hb)
  have R3_2 := hid (R3_1.out.below (Nat.le_refl _) hb)
  have HB_2 := hid (bel_next HB_1.out HB_1.out.size hb)
  have t0_2 := cell_below hb z_1 t0_1
  have t1_2 := cell_below hb z_1 t1_1
  have t2_2 := cell_below hb z_1 t2_1
  have t3_2 := cell_below hb z_1 t3_1
  have z_2 := Nat.lt_of_lt_of_le z_1 hb.size
  clear hb R0_1 R1_1 R2_1 R3_1 HB_1 t0_1 t1_1 t2_1 t3_1 z_1
  go_wp2_with fail
  refine (u_szInstrS R2_2.out (by omega) (by omega)).mono ?_
  rintro e w_3 ⟨rfl, hb⟩
  rw [HR2.out]
  have R0_3 := hid (R0_2.out.below (Nat.le_refl _) hb)
  have R1_3 := hid (R1_2.out.below (Nat.le_refl _) hb)
  have R2_3 := hid (R2_2.out.below (Nat.le_refl _) hb)
  have R3_3 := hid (R3_2.out.below (Nat.le_refl _) hb)
  have HB_3 := hid (bel_next HB_2.out HB_2.out.size hb)
  have t0_3 := cell_below hb z_2 t0_2
  have t1_3 := cell_below hb z_2 t1_2
  have t2_3 := cell_below hb z_2 t2_2
  have t3_3 := cell_below hb z_2 t3_2
  have z_3 := Nat.lt_of_lt_of_le z_2 hb.size
  clear hb R0_2 R1_2 R2_2 R3_2 HB_2 t0_2 t1_2 t2_2 t3_2 z_2
  go_wp2_with fail
  refine (u_szPointS R3_3.out (by omega) (by omega)).mono ?_
  rintro e w_4 ⟨rfl, hb⟩
  rw [HR3.out]
  have R0_4 := hid (R0_3.out.below (Nat.le_refl _) hb)
  have R1_4 := hid (R1_3.out.below (Nat.le_refl _) hb)
  have R2_4 := hid (R2_3.out.below (Nat.le_refl _) hb)
  have R3_4 := hid (R3_3.out.below (Nat.le_refl _) hb)
  have HB_4 := hid (bel_next HB_3.out HB_3.out.size hb)
  have t0_4 := cell_below hb z_3 t0_3
  have t1_4 := cell_below hb z_3 t1_3
  have t2_4 := cell_below hb z_3 t2_3
  have t3_4 := cell_below hb z_3 t3_3
  have z_4 := Nat.lt_of_lt_of_le z_3 hb.size
  clear hb R0_3 R1_3 R2_3 R3_3 HB_3 t0_3 t1_3 t2_3 t3_3 z_3
  go_wp2
  go_ret
  exact ⟨ret_int HS3.out.symm, HB_4.out⟩
set_option maxRecDepth 100000 in
theorem u_eqAnnotated {S T : Nat → Prop} {a0 : Option Addr} {p0 : Nat} {d0 : List Term} {a1 : Option Addr} {p1 : Nat} {d1 : List Term} {a2 : Option Addr} {p2 : Nat} {d2 : List Instr} {a3 : Option Addr} {p3 : Nat} {d3 : List Pt} {ya0 : Option Addr} {yp0 : Nat} {yd0 : List Term} {ya1 : Option Addr} {yp1 : Nat} {yd1 : List Term} {ya2 : Option Addr} {yp2 : Nat} {yd2 : List Instr} {ya3 : Option Addr} {yp3 : Nat} {yd3 : List Pt} {w : World} (h0 : SlRd cTerm S w a0 p0 d0) (h1 : SlRd cTerm S w a1 p1 d1) (h2 : SlRd cInstr S w a2 p2 d2) (h3 : SlRd cPoint S w a3 p3 d3) (yh0 : SlRd cTerm T w ya0 yp0 yd0) (yh1 : SlRd cTerm T w ya1 yp1 yd1) (yh2 : SlRd cInstr T w ya2 yp2 yd2) (yh3 : SlRd cPoint T w ya3 yp3 yd3) :
    Calls Tryd.prog 9 #[.agg #[.slice a0 d0.length p0, .slice a1 d1.length p1, .slice a2 d2.length p2, .slice a3 d3.length p3], .agg #[.slice ya0 yd0.length yp0, .slice ya1 yd1.length yp1, .slice ya2 yd2.length yp2, .slice ya3 yd3.length yp3]] w fun e w' => e = .returned (.bool (decide (((d0, d1, d2, d3) : An) = (yd0, yd1, yd2, yd3)))) ∧ Below w.heap.size w w' := by
  have R0_0 := hid ((h0.alloc (.cells #[.slice a0 d0.length p0, .slice a1 d1.length p1, .slice a2 d2.length p2, .slice a3 d3.length p3] 34)).alloc (.cells #[.slice ya0 yd0.length yp0, .slice ya1 yd1.length yp1, .slice ya2 yd2.length yp2, .slice ya3 yd3.length yp3] 34))
  have R1_0 := hid ((h1.alloc (.cells #[.slice a0 d0.length p0, .slice a1 d1.length p1, .slice a2 d2.length p2, .slice a3 d3.length p3] 34)).alloc (.cells #[.slice ya0 yd0.length yp0, .slice ya1 yd1.length yp1, .slice ya2 yd2.length yp2, .slice ya3 yd3.length yp3] 34))
  have R2_0 := hid ((h2.alloc (.cells #[.slice a0 d0.length p0, .slice a1 d1.length p1, .slice a2 d2.length p2, .slice a3 d3.length p3] 34)).alloc (.cells #[.slice ya0 yd0.length yp0, .slice ya1 yd1.length yp1, .slice ya2 yd2.length yp2, .slice ya3 yd3.length yp3] 34))
  have R3_0 := hid ((h3.alloc (.cells #[.slice a0 d0.length p0, .slice a1 d1.length p1, .slice a2 d2.length p2, .slice a3 d3.length p3] 34)).alloc (.cells #[.slice ya0 yd0.length yp0, .slice ya1 yd1.length yp1, .slice ya2 yd2.length yp2, .slice ya3 yd3.length yp3] 34))
  have yR0_0 := hid ((yh0.alloc (.cells #[.slice a0 d0.length p0, .slice a1 d1.length p1, .slice a2 d2.length p2, .slice a3 d3.length p3] 34)).alloc (.cells #[.slice ya0 yd0.length yp0, .slice ya1 yd1.length yp1, .slice ya2 yd2.length yp2, .slice ya3 yd3.length yp3] 34))
  have yR1_0 := hid ((yh1.alloc (.cells #[.slice a0 d0.length p0, .slice a1 d1.length p1, .slice a2 d2.length p2, .slice a3 d3.length p3] 34)).alloc (.cells #[.slice ya0 yd0.length yp0, .slice ya1 yd1.length yp1, .slice ya2 yd2.length yp2, .slice ya3 yd3.length yp3] 34))
  have yR2_0 := hid ((yh2.alloc (.cells #[.slice a0 d0.length p0, .slice a1 d1.length p1, .slice a2 d2.length p2, .slice a3 d3.length p3] 34)).alloc (.cells #[.slice ya0 yd0.length yp0, .slice ya1 yd1.length yp1, .slice ya2 yd2.length yp2, .slice ya3 yd3.length yp3] 34))
  have yR3_0 := hid ((yh3.alloc (.cells #[.slice a0 d0.length p0, .slice a1 d1.length p1, .slice a2 d2.length p2, .slice a3 d3.length p3] 34)).alloc (.cells #[.slice ya0 yd0.length yp0, .slice ya1 yd1.length yp1, .slice ya2 yd2.length yp2, .slice ya3 yd3.length yp3] 34))
  have HB_0 : Hid (Below w.heap.size w ((w.alloc (.cells #[.slice a0 d0.length p0, .slice a1 d1.length p1, .slice a2 d2.length p2, .slice a3 d3.length p3] 34)).alloc (.cells #[.slice ya0 yd0.length yp0, .slice ya1 yd1.length yp1, .slice ya2 yd2.length yp2, .slice ya3 yd3.length yp3] 34))) := ((Below.refl _ _).alloc (Nat.le_refl _) _).alloc (by simp) _
  have z_0 : w.heap.size + 1 < ((w.alloc (.cells #[.slice a0 d0.length p0, .slice a1 d1.length p1, .slice a2 d2.length p2, .slice a3 d3.length p3] 34)).alloc (.cells #[.slice ya0 yd0.length yp0, .slice ya1 yd1.length yp1, .slice ya2 yd2.length yp2, .slice ya3 yd3.length yp3] 34)).heap.size := by simp
  have t0_0 : ((w.alloc (.cells #[.slice a0 d0.length p0, .slice a1 d1.length p1, .slice a2 d2.length p2, .slice a3 d3.length p3] 34)).alloc (.cells #[.slice ya0 yd0.length yp0, .slice ya1 yd1.length yp1, .slice ya2 yd2.length yp2, .slice ya3 yd3.length yp3] 34)).cell? ⟨w.heap.size, 0, none⟩ = some (.slice a0 d0.length p0) := by simp [go_sem]
  have yt0_0 : ((w.alloc (.cells #[.slice a0 d0.length p0, .slice a1 d1.length p1, .slice a2 d2.length p2, .slice a3 d3.length p3] 34)).alloc (.cells #[.slice ya0 yd0.length yp0, .slice ya1 yd1.length yp1, .slice ya2 yd2.length yp2, .slice ya3 yd3.length yp3] 34)).cell? ⟨w.heap.size + 1, 0, none⟩ = some (.slice ya0 yd0.length yp0) := by simp [go_sem]
  have t1_0 : ((w.alloc (.cells #[.slice a0 d0.length p0, .slice a1 d1.length p1, .slice a2 d2.length p2, .slice a3 d3.length p3] 34)).alloc (.cells #[.slice ya0 yd0.length yp0, .slice ya1 yd1.length yp1, .slice ya2 yd2.length yp2, .slice ya3 yd3.length yp3] 34)).cell? ⟨w.heap.size, 1, none⟩ = some (.slice a1 d1.length p1) := by simp [go_sem]
  have yt1_0 : ((w.alloc (.cells #[.slice a0 d0.length p0, .slice a1 d1.length p1, .slice a2 d2.length p2, .slice a3 d3.length p3] 34)).alloc (.cells #[.slice ya0 yd0.length yp0, .slice ya1 yd1.length yp1, .slice ya2 yd2.length yp2, .slice ya3 yd3.length yp3] 34)).cell? ⟨w.heap.size + 1, 1, none⟩ = some (.slice ya1 yd1.length yp1) := by simp [go_sem]
  have t2_0 : ((w.alloc (.cells #[.slice a0 d0.length p0, .slice a1 d1.length p1, .slice a2 d2.length p2, .slice a3 d3.length p3] 34)).alloc (.cells #[.slice ya0 yd0.length yp0, .slice ya1 yd1.length yp1, .slice ya2 yd2.length yp2, .slice ya3 yd3.length yp3] 34)).cell? ⟨w.heap.size, 2, none⟩ = some (.slice a2 d2.length p2) := by simp [go_sem]
  have yt2_0 : ((w.alloc (.cells #[.slice a0 d0.length p0, .slice a1 d1.length p1, .slice a2 d2.length p2, .slice a3 d3.length p3] 34)).alloc (.cells #[.slice ya0 yd0.length yp0, .slice ya1 yd1.length yp1, .slice ya2 yd2.length yp2, .slice ya3 yd3.length yp3] 34)).cell? ⟨w.heap.size + 1, 2, none⟩ = some (.slice ya2 yd2.length yp2) := by simp [go_sem]
  have t3_0 : ((w.alloc (.cells #[.slice a0 d0.length p0, .slice a1 d1.length p1, .slice a2 d2.length p2, .slice a3 d3.length p3] 34)).alloc (.cells #[.slice ya0 yd0.length yp0, .slice ya1 yd1.length yp1, .slice ya2 yd2.length yp2, .slice ya3 yd3.length yp3] 34)).cell? ⟨w.heap.size, 3, none⟩ = some (.slice a3 d3.length p3) := by simp [go_sem]
  have yt3_0 : ((w.alloc (.cells #[.slice a0 d0.length p0, .slice a1 d1.length p1, .slice a2 d2.length p2, .slice a3 d3.length p3] 34)).alloc (.cells #[.slice ya0 yd0.length yp0, .slice ya1 yd1.length yp1, .slice ya2 yd2.length yp2, .slice ya3 yd3.length yp3] 34)).cell? ⟨w.heap.size + 1, 3, none⟩ = some (.slice ya3 yd3.length yp3) := by simp [go_sem]
  clear h0 h1 h2 h3 yh0 yh1 yh2 yh3
  obtain ⟨b0, hb0⟩ : ∃ b, decide ((d0 : List Term) = yd0) = b := ⟨_, rfl⟩
  obtain ⟨b1, hb1⟩ : ∃ b, decide ((d1 : List Term) = yd1) = b := ⟨_, rfl⟩
  obtain ⟨b2, hb2⟩ : ∃ b, decide ((d2 : List Instr) = yd2) = b := ⟨_, rfl⟩
  obtain ⟨b3, hb3⟩ : ∃ b, decide ((d3 : List Pt) = yd3) = b := ⟨_, rfl⟩
  have HF : Hid (decide (((d0, d1, d2, d3) : An) = (yd0, yd1, yd2, yd3)) = (b0 && b1 && b2 && b3)) := by unfold Hid; rw [← hb0, ← hb1, ← hb2, ← hb3, Bool.eq_iff_iff]; simp [Prod.ext_iff, and_assoc]
  have HR0 := hid hb0
  clear hb0
  have HR1 := hid hb1
  clear hb1
  have HR2 := hid hb2
  clear hb2
  have HR3 := hid hb3
  clear hb3
  cases b0
  · skip
    go_enter Tryd.func9, Tryd.ntmps9
    go_wp2_with fail
    refine (u_eqTermS R0_0.out yR0_0.out).mono ?_
    rintro e w_1 ⟨rfl, hb⟩
    rw [HR0.out]
    have R0_1 := hid (R0_0.out.below (Nat.le_refl _) hb)
    have R1_1 := hid (R1_0.out.below (Nat.le_refl _) hb)
    have R2_1 := hid (R2_0.out.below (Nat.le_refl _) hb)
    have R3_1 := hid (R3_0.out.below (Nat.le_refl _) hb)
    have yR0_1 := hid (yR0_0.out.below (Nat.le_refl _) hb)
    have yR1_1 := hid (yR1_0.out.below (Nat.le_refl _) hb)
    have yR2_1 := hid (yR2_0.out.below (Nat.le_refl _) hb)
    have yR3_1 := hid (yR3_0.out.below (Nat.le_refl _) hb)
    have HB_1 := hid (bel_next HB_0.out HB_0.out.size hb)
    have t0_1 := cell_below hb (Nat.lt_of_succ_lt z_0) t0_0
    have yt0_1 := cell_below hb z_0 yt0_0
    have t1_1 := cell_below hb (Nat.lt_of_succ_lt z_0) t1_0
    have yt1_1 := cell_below hb z_0 yt1_0
    have t2_1 := cell_below hb (Nat.lt_of_succ_lt z_0) t2_0
    have yt2_1 := cell_below hb z_0 yt2_0
    have t3_1 := cell_below hb (Nat.lt_of_succ_lt z_0) t3_0
    have yt3_1 := cell_below hb z_0 yt3_0
    have z_1 := Nat.lt_of_lt_of_le z_0 hb.size
    clear hb R0_0 R1_0 R2_0 R3_0 yR0_0 yR1_0 yR2_0 yR3_0 HB_0 t0_0 yt0_0 t1_0 yt1_0 t2_0 yt2_0 t3_0 yt3_0 z_0
    go_wp2
    go_ret
    exact ⟨ret_bool (by rw [HF.out]; simp), HB_1.out⟩
  cases b1
  · skip
    go_enter Tryd.func9, Tryd.ntmps9
    go_wp2_with fail
    refine (u_eqTermS R0_0.out yR0_0.out).mono ?_
    rintro e w_1 ⟨rfl, hb⟩
    rw [HR0.out]
    have R0_1 := hid (R0_0.out.below (Nat.le_refl _) hb)
    have R1_1 := hid (R1_0.out.below (Nat.le_refl _) hb)
    have R2_1 := hid (R2_0.out.below (Nat.le_refl _) hb)
    have R3_1 := hid (R3_0.out.below (Nat.le_refl _) hb)
    have yR0_1 := hid (yR0_0.out.below (Nat.le_refl _) hb)
    have yR1_1 := hid (yR1_0.out.below (Nat.le_refl _) hb)
    have yR2_1 := hid (yR2_0.out.below (Nat.le_refl _) hb)
    have yR3_1 := hid (yR3_0.out.below (Nat.le_refl _) hb)
    have HB_1 := hid (bel_next HB_0.out HB_0.out.size hb)
    have t0_1 := cell_below hb (Nat.lt_of_succ_lt z_0) t0_0
    have yt0_1 := cell_below hb z_0 yt0_0
    have t1_1 := cell_below hb (Nat.lt_of_succ_lt z_0) t1_0
    have yt1_1 := cell_below hb z_0 yt1_0
    have t2_1 := cell_below hb (Nat.lt_of_succ_lt z_0) t2_0
    have yt2_1 := cell_below hb z_0 yt2_0
    have t3_1 := cell_below hb (Nat.lt_of_succ_lt z_0) t3_0
    have yt3_1 := cell_below hb z_0 yt3_0
    have z_1 := Nat.lt_of_lt_of_le z_0 hb.size
    clear hb R0_0 R1_0 R2_0 R3_0 yR0_0 yR1_0 yR2_0 yR3_0 HB_0 t0_0 yt0_0 t1_0 yt1_0 t2_0 yt2_0 t3_0 yt3_0 z_0
    go_wp2_with fail
    refine (u_eqTermS R1_1.out yR1_1.out).mono ?_
    rintro e w_2 ⟨rfl, hb⟩
    rw [HR1.out]
    have R0_2 := hid (R0_1.out.below (Nat.le_refl _) hb)
    have R1_2 := hid (R1_1.out.below (Nat.le_refl _) hb)
    have R2_2 := hid (R2_1.out.below (Nat.le_refl _) hb)
    have R3_2 := hid (R3_1.out.below (Nat.le_refl _) hb)
    have yR0_2 := hid (yR0_1.out.below (Nat.le_refl _) hb)
    have yR1_2 := hid (yR1_1.out.below (Nat.le_refl _) hb)
    have yR2_2 := hid (yR2_1.out.below (Nat.le_refl _) hb)
    have yR3_2 := hid (yR3_1.out.below (Nat.le_refl _) hb)
    have HB_2 := hid (bel_next HB_1.out HB_1.out.size hb)
    have t0_2 := cell_below hb (Nat.lt_of_succ_lt z_1) t0_1
    have yt0_2 := cell_below hb z_1 yt0_1
    have t1_2 := cell_below hb (Nat.lt_of_succ_lt z_1) t1_1
    have yt1_2 := cell_below hb z_1 yt1_1
    have t2_2 := cell_below hb (Nat.lt_of_succ_lt z_1) t2_1
    have yt2_2 := cell_below hb z_1 yt2_1
    have t3_2 := cell_below hb (Nat.lt_of_succ_lt z_1) t3_1
    have yt3_2 := cell_below hb z_1 yt3_1
    have z_2 := Nat.lt_of_lt_of_le z_1 hb.size
    clear hb R0_1 R1_1 R2_1 R3_1 yR0_1 yR1_1 yR2_1 yR3_1 HB_1 t0_1 yt0_1 t1_1 yt1_1 t2_1 yt2_1 t3_1 yt3_1 z_1
    go_wp2
    go_ret
    exact ⟨ret_bool (by rw [HF.out]; simp), HB_2.out⟩
  cases b2
  · skip
    go_enter Tryd.func9, Tryd.ntmps9
    go_wp2_with fail
    refine (u_eqTermS R0_0.out yR0_0.out).mono ?_
    rintro e w_1 ⟨rfl, hb⟩
    rw [HR0.out]
    have R0_1 := hid (R0_0.out.below (Nat.le_refl _) hb)
    have R1_1 := hid (R1_0.out.below (Nat.le_refl _) hb)
    have R2_1 := hid (R2_0.out.below (Nat.le_refl _) hb)
    have R3_1 := hid (R3_0.out.below (Nat.le_refl _) hb)
    have yR0_1 := hid (yR0_0.out.below (Nat.le_refl _) hb)
    have yR1_1 := hid (yR1_0.out.below (Nat.le_refl _) hb)
    have yR2_1 := hid (yR2_0.out.below (Nat.le_refl _) hb)
    have yR3_1 := hid (yR3_0.out.below (Nat.le_refl _) hb)
    have HB_1 := hid (bel_next HB_0.out HB_0.out.size hb)
    have t0_1 := cell_below hb (Nat.lt_of_succ_lt z_0) t0_0
    have yt0_1 := cell_below hb z_0 yt0_0
    have t1_1 := cell_below hb (Nat.lt_of_succ_lt z_0) t1_0
    have yt1_1 := cell_below hb z_0 yt1_0
    have t2_1 := cell_below hb (Nat.lt_of_succ_lt z_0) t2_0
    have yt2_1 := cell_below hb z_0 yt2_0
    have t3_1 := cell_below hb (Nat.lt_of_succ_lt z_0) t3_0
    have yt3_1 := cell_below hb z_0 yt3_0
    have z_1 := Nat.lt_of_lt_of_le z_0 hb.size
    clear hb R0_0 R1_0 R2_0 R3_0 yR0_0 yR1_0 yR2_0 yR3_0 HB_0 t0_0 yt0_0 t1_0 yt1_0 t2_0 yt2_0 t3_0 yt3_0 z_0
    go_wp2_with fail
    refine (u_eqTermS R1_1.out yR1_1.out).mono ?_
    rintro e w_2 ⟨rfl, hb⟩
    rw [HR1.out]
    have R0_2 := hid (R0_1.out.below (Nat.le_refl _) hb)
    have R1_2 := hid (R1_1.out.below (Nat.le_refl _) hb)
    have R2_2 := hid (R2_1.out.below (Nat.le_refl _) hb)
    have R3_2 := hid (R3_1.out.below (Nat.le_refl _) hb)
    have yR0_2 := hid (yR0_1.out.below (Nat.le_refl _) hb)
    have yR1_2 := hid (yR1_1.out.below (Nat.le_refl _) hb)
    have yR2_2 := hid (yR2_1.out.below (Nat.le_refl _) hb)
    have yR3_2 := hid (yR3_1.out.below (Nat.le_refl _) hb)
    have HB_2 := hid (bel_next HB_1.out HB_1.out.size hb)
    have t0_2 := cell_below hb (Nat.lt_of_succ_lt z_1) t0_1
    have yt0_2 := cell_below hb z_1 yt0_1
    have t1_2 := cell_below hb (Nat.lt_of_succ_lt z_1) t1_1
    have yt1_2 := cell_below hb z_1 yt1_1
    have t2_2 := cell_below hb (Nat.lt_of_succ_lt z_1) t2_1
    have yt2_2 := cell_below hb z_1 yt2_1
    have t3_2 := cell_below hb (Nat.lt_of_succ_lt z_1) t3_1
    have yt3_2 := cell_below hb z_1 yt3_1
    have z_2 := Nat.lt_of_lt_of_le z_1 hb.size
    clear hb R0_1 R1_1 R2_1 R3_1 yR0_1 yR1_1 yR2_1 yR3_1 HB_1 t0_1 yt0_1 t1_1 yt1_1 t2_1 yt2_1 t3_1 yt3_1 z_1
    go_wp2_with fail
    refine (u_eqInstrS R2_2.out yR2_2.out).mono ?_
    rintro e w_3 ⟨rfl, hb⟩
    rw [HR2.out]
    have R0_3 := hid (R0_2.out.below (Nat.le_refl _) hb)
    have R1_3 := hid (R1_2.out.below (Nat.le_refl _) hb)
    have R2_3 := hid (R2_2.out.below (Nat.le_refl _) hb)
    have R3_3 := hid (R3_2.out.below (Nat.le_refl _) hb)
    have yR0_3 := hid (yR0_2.out.below (Nat.le_refl _) hb)
    have yR1_3 := hid (yR1_2.out.below (Nat.le_refl _) hb)
    have yR2_3 := hid (yR2_2.out.below (Nat.le_refl _) hb)
    have yR3_3 := hid (yR3_2.out.below (Nat.le_refl _) hb)
    have HB_3 := hid (bel_next HB_2.out HB_2.out.size hb)
    have t0_3 := cell_below hb (Nat.lt_of_succ_lt z_2) t0_2
    have yt0_3 := cell_below hb z_2 yt0_2
    have t1_3 := cell_below hb (Nat.lt_of_succ_lt z_2) t1_2
    have yt1_3 := cell_below hb z_2 yt1_2
    have t2_3 := cell_below hb (Nat.lt_of_succ_lt z_2) t2_2
    have yt2_3 := cell_below hb z_2 yt2_2
    have t3_3 := cell_below hb (Nat.lt_of_succ_lt z_2) t3_2
    have yt3_3 := cell_below hb z_2 yt3_2
    have z_3 := Nat.lt_of_lt_of_le z_2 hb.size
    clear hb R0_2 R1_2 R2_2 R3_2 yR0_2 yR1_2 yR2_2 yR3_2 HB_2 t0_2 yt0_2 t1_2 yt1_2 t2_2 yt2_2 t3_2 yt3_2 z_2
    go_wp2
    go_ret
    exact ⟨ret_bool (by rw [HF.out]; simp), HB_3.out⟩
  cases b3
  · skip
    go_enter Tryd.func9, Tryd.ntmps9
    go_wp2_with fail
    refine (u_eqTermS R0_0.out yR0_0.out).mono ?_
    rintro e w_1 ⟨rfl, hb⟩
    rw [HR0.out]
    have R0_1 := hid (R0_0.out.below (Nat.le_refl _) hb)
    have R1_1 := hid (R1_0.out.below (Nat.le_refl _) hb)
    have R2_1 := hid (R2_0.out.below (Nat.le_refl _) hb)
    have R3_1 := hid (R3_0.out.below (Nat.le_refl _) hb)
    have yR0_1 := hid (yR0_0.out.below (Nat.le_refl _) hb)
    have yR1_1 := hid (yR1_0.out.below (Nat.le_refl _) hb)
    have yR2_1 := hid (yR2_0.out.below (Nat.le_refl _) hb)
    have yR3_1 := hid (yR3_0.out.below (Nat.le_refl _) hb)
    have HB_1 := hid (bel_next HB_0.out HB_0.out.size hb)
    have t0_1 := cell_below hb (Nat.lt_of_succ_lt z_0) t0_0
    have yt0_1 := cell_below hb z_0 yt0_0
    have t1_1 := cell_below hb (Nat.lt_of_succ_lt z_0) t1_0
    have yt1_1 := cell_below hb z_0 yt1_0
    have t2_1 := cell_below hb (Nat.lt_of_succ_lt z_0) t2_0
    have yt2_1 := cell_below hb z_0 yt2_0
    have t3_1 := cell_below hb (Nat.lt_of_succ_lt z_0) t3_0
    have yt3_1 := cell_below hb z_0 yt3_0
    have z_1 := Nat.lt_of_lt_of_le z_0 hb.size
    clear hb R0_0 R1_0 R2_0 R3_0 yR0_0 yR1_0 yR2_0 yR3_0 HB_0 t0_0 yt0_0 t1_0 yt1_0 t2_0 yt2_0 t3_0 yt3_0 z_0
    go_wp2_with fail
    refine (u_eqTermS R1_1.out yR1_1.out).mono ?_
    rintro e w_2 ⟨rfl, hb⟩
    rw [HR1.out]
    have R0_2 := hid (R0_1.out.below (Nat.le_refl _) hb)
    have R1_2 := hid (R1_1.out.below (Nat.le_refl _) hb)
    have R2_2 := hid (R2_1.out.below (Nat.le_refl _) hb)
    have R3_2 := hid (R3_1.out.below (Nat.le_refl _) hb)
    have yR0_2 := hid (yR0_1.out.below (Nat.le_refl _) hb)
    have yR1_2 := hid (yR1_1.out.below (Nat.le_refl _) hb)
    have yR2_2 := hid (yR2_1.out.below (Nat.le_refl _) hb)
    have yR3_2 := hid (yR3_1.out.below (Nat.le_refl _) hb)
    have HB_2 := hid (bel_next HB_1.out HB_1.out.size hb)
    have t0_2 := cell_below hb (Nat.lt_of_succ_lt z_1) t0_1
    have yt0_2 := cell_below hb z_1 yt0_1
    have t1_2 := cell_below hb (Nat.lt_of_succ_lt z_1) t1_1
    have yt1_2 := cell_below hb z_1 yt1_1
    have t2_2 := cell_below hb (Nat.lt_of_succ_lt z_1) t2_1
    have yt2_2 := cell_below hb z_1 yt2_1
    have t3_2 := cell_below hb (Nat.lt_of_succ_lt z_1) t3_1
    have yt3_2 := cell_below hb z_1 yt3_1
    have z_2 := Nat.lt_of_lt_of_le z_1 hb.size
    clear hb R0_1 R1_1 R2_1 R3_1 yR0_1 yR1_1 yR2_1 yR3_1 HB_1 t0_1 yt0_1 t1_1 yt1_1 t2_1 yt2_1 t3_1 yt3_1 z_1
    go_wp2_with fail
    refine (u_eqInstrS R2_2.out yR2_2.out).mono ?_
    rintro e w_3 ⟨rfl, hb⟩
    rw [HR2.out]
    have R0_3 := hid (R0_2.out.below (Nat.le_refl _) hb)
    have R1_3 := hid (R1_2.out.below (Nat.le_refl _) hb)
    have R2_3 := hid (R2_2.out.below (Nat.le_refl _) hb)
    have R3_3 := hid (R3_2.out.below (Nat.le_refl _) hb)
    have yR0_3 := hid (yR0_2.out.below (Nat.le_refl _) hb)
    have yR1_3 := hid (yR1_2.out.below (Nat.le_refl _) hb)
    have yR2_3 := hid (yR2_2.out.below (Nat.le_refl _) hb)
    have yR3_3 := hid (yR3_2.out.below (Nat.le_refl _) hb)
    have HB_3 := hid (bel_next HB_2.out HB_2.out.size hb)
    have t0_3 := cell_below hb (Nat.lt_of_succ_lt z_2) t0_2
    have yt0_3 := cell_below hb z_2 yt0_2
    have t1_3 := cell_below hb (Nat.lt_of_succ_lt z_2) t1_2
    have yt1_3 := cell_below hb z_2 yt1_2
    have t2_3 := cell_below hb (Nat.lt_of_succ_lt z_2) t2_2
    have yt2_3 := cell_below hb z_2 yt2_2
    have t3_3 := cell_below hb (Nat.lt_of_succ_lt z_2) t3_2
    have yt3_3 := cell_below hb z_2 yt3_2
    have z_3 := Nat.lt_of_lt_of_le z_2 hb.size
    clear hb R0_2 R1_2 R2_2 R3_2 yR0_2 yR1_2 yR2_2 yR3_2 HB_2 t0_2 yt0_2 t1_2 yt1_2 t2_2 yt2_2 t3_2 yt3_2 z_2
    go_wp2_with fail
    refine (u_eqPointS R3_3.out yR3_3.out).mono ?_
    rintro e w_4 ⟨rfl, hb⟩
    rw [HR3.out]
    have R0_4 := hid (R0_3.out.below (Nat.le_refl _) hb)
    have R1_4 := hid (R1_3.out.below (Nat.le_refl _) hb)
    have R2_4 := hid (R2_3.out.below (Nat.le_refl _) hb)
    have R3_4 := hid (R3_3.out.below (Nat.le_refl _) hb)
    have yR0_4 := hid (yR0_3.out.below (Nat.le_refl _) hb)
    have yR1_4 := hid (yR1_3.out.below (Nat.le_refl _) hb)
    have yR2_4 := hid (yR2_3.out.below (Nat.le_refl _) hb)
    have yR3_4 := hid (yR3_3.out.below (Nat.le_refl _) hb)
    have HB_4 := hid (bel_next HB_3.out HB_3.out.size hb)
    have t0_4 := cell_below hb (Nat.lt_of_succ_lt z_3) t0_3
    have yt0_4 := cell_below hb z_3 yt0_3
    have t1_4 := cell_below hb (Nat.lt_of_succ_lt z_3) t1_3
    have yt1_4 := cell_below hb z_3 yt1_3
    have t2_4 := cell_below hb (Nat.lt_of_succ_lt z_3) t2_3
    have yt2_4 := cell_below hb z_3 yt2_3
    have t3_4 := cell_below hb (Nat.lt_of_succ_lt z_3) t3_3
    have yt3_4 := cell_below hb z_3 yt3_3
    have z_4 := Nat.lt_of_lt_of_le z_3 hb.size
    clear hb R0_3 R1_3 R2_3 R3_3 yR0_3 yR1_3 yR2_3 yR3_3 HB_3 t0_3 yt0_3 t1_3 yt1_3 t2_3 yt2_3 t3_3 yt3_3 z_3
    go_wp2
    go_ret
    exact ⟨ret_bool (by rw [HF.out]; simp), HB_4.out⟩
  go_enter Tryd.func9, Tryd.ntmps9
  go_wp2_with fail
  refine (u_eqTermS R0_0.out yR0_0.out).mono ?_
  rintro e w_1 ⟨rfl, hb⟩
  rw [HR0.out]
  have R0_1 := hid (R0_0.out.below (Nat.le_refl _) hb)
  have R1_1 := hid (R1_0.out.below (Nat.le_refl _) hb)
  have R2_1 := hid (R2_0.out.below (Nat.le_refl _) hb)
  have R3_1 := hid (R3_0.out.below (Nat.le_refl _) hb)
  have yR0_1 := hid (yR0_0.out.below (Nat.le_refl _) hb)
  have yR1_1 := hid (yR1_0.out.below (Nat.le_refl _) hb)
  have yR2_1 := hid (yR2_0.out.below (Nat.le_refl _) hb)
  have yR3_1 := hid (yR3_0.out.below (Nat.le_refl _) hb)
  have HB_1 := hid (bel_next HB_0.out HB_0.out.size hb)
  have t0_1 := cell_below hb (Nat.lt_of_succ_lt z_0) t0_0
  have yt0_1 := cell_below hb z_0 yt0_0
  have t1_1 := cell_below hb (Nat.lt_of_succ_lt z_0) t1_0
  have yt1_1 := cell_below hb z_0 yt1_0
  have t2_1 := cell_below hb (Nat.lt_of_succ_lt z_0) t2_0
  have yt2_1 := cell_below hb z_0 yt2_0
  have t3_1 := cell_below hb (Nat.lt_of_succ_lt z_0) t3_0
  have yt3_1 := cell_below hb z_0 yt3_0
  have z_1 := Nat.lt_of_lt_of_le z_0 hb.size
  clear hb R0_0 R1_0 R2_0 R3_0 yR0_0 yR1_0 yR2_0 yR3_0 HB_0 t0_0 yt0_0 t1_0 yt1_0 t2_0 yt2_0 t3_0 yt3_0 z_0
  go_wp2_with fail
  refine (u_eqTermS R1_1.out yR1_1.out).mono ?_
  rintro e w_2 ⟨rfl, hb⟩
  rw [HR1.out]
  have R0_2 := hid (R0_1.out.below (Nat.le_refl _) hb)
  have R1_2 := hid (R1_1.out.below (Nat.le_refl _) hb)
  have R2_2 := hid (R2_1.out.below (Nat.le_refl _) hb)
  have R3_2 := hid (R3_1.out.below (Nat.le_refl _) hb)
  have yR0_2 := hid (yR0_1.out.below (Nat.le_refl _) hb)
  have yR1_2 := hid (yR1_1.out.below (Nat.le_refl _) hb)
  have yR2_2 := hid (yR2_1.out.below (Nat.le_refl _) hb)
  have yR3_2 := hid (yR3_1.out.below (Nat.le_refl _) hb)
  have HB_2 := hid (bel_next HB_1.out HB_1.out.size hb)
  have t0_2 := cell_below hb (Nat.lt_of_succ_lt z_1) t0_1
  have yt0_2 := cell_below hb z_1 yt0_1
  have t1_2 := cell_below hb (Nat.lt_of_succ_lt z_1) t1_1
  have yt1_2 := cell_below hb z_1 yt1_1
  have t2_2 := cell_below hb (Nat.lt_of_succ_lt z_1) t2_1
  have yt2_2 := cell_below hb z_1 yt2_1
  have t3_2 := cell_below hb (Nat.lt_of_succ_lt z_1) t3_1
  have yt3_2 := cell_below hb z_1 yt3_1
  have z_2 := Nat.lt_of_lt_of_le z_1 hb.size
  clear hb R0_1 R1_1 R2_1 R3_1 yR0_1 yR1_1 yR2_1 yR3_1 HB_1 t0_1 yt0_1 t1_1 yt1_1 t2_1 yt2_1 t3_1 yt3_1 z_1
  go_wp2_with fail
  refine (u_eqInstrS R2_2.out yR2_2.out).mono ?_
  rintro e w_3 ⟨rfl, hb⟩
  rw [HR2.out]
  have R0_3 := hid (R0_2.out.below (Nat.le_refl _) hb)
  have R1_3 := hid (R1_2.out.below (Nat.le_refl _) hb)
  have R2_3 := hid (R2_2.out.below (Nat.le_refl _) hb)
  have R3_3 := hid (R3_2.out.below (Nat.le_refl _) hb)
  have yR0_3 := hid (yR0_2.out.below (Nat.le_refl _) hb)
  have yR1_3 := hid (yR1_2.out.below (Nat.le_refl _) hb)
  have yR2_3 := hid (yR2_2.out.below (Nat.le_refl _) hb)
  have yR3_3 := hid (yR3_2.out.below (Nat.le_refl _) hb)
  have HB_3 := hid (bel_next HB_2.out HB_2.out.size hb)
  have t0_3 := cell_below hb (Nat.lt_of_succ_lt z_2) t0_2
  have yt0_3 := cell_below hb z_2 yt0_2
  have t1_3 := cell_below hb (Nat.lt_of_succ_lt z_2) t1_2
  have yt1_3 := cell_below hb z_2 yt1_2
  have t2_3 := cell_below hb (Nat.lt_of_succ_lt z_2) t2_2
  have yt2_3 := cell_below hb z_2 yt2_2
  have t3_3 := cell_below hb (Nat.lt_of_succ_lt z_2) t3_2
  have yt3_3 := cell_below hb z_2 yt3_2
  have z_3 := Nat.lt_of_lt_of_le z_2 hb.size
  clear hb R0_2 R1_2 R2_2 R3_2 yR0_2 yR1_2 yR2_2 yR3_2 HB_2 t0_2 yt0_2 t1_2 yt1_2 t2_2 yt2_2 t3_2 yt3_2 z_2
  go_wp2_with fail
  refine (u_eqPointS R3_3.out yR3_3.out).mono ?_
  rintro e w_4 ⟨rfl, hb⟩
  rw [HR3.out]
  have R0_4 := hid (R0_3.out.below (Nat.le_refl _) hb)
  have R1_4 := hid (R1_3.out.below (Nat.le_refl _) hb)
  have R2_4 := hid (R2_3.out.below (Nat.le_refl _) hb)
  have R3_4 := hid (R3_3.out.below (Nat.le_refl _) hb)
  have yR0_4 := hid (yR0_3.out.below (Nat.le_refl _) hb)
  have yR1_4 := hid (yR1_3.out.below (Nat.le_refl _) hb)
  have yR2_4 := hid (yR2_3.out.below (Nat.le_refl _) hb)
  have yR3_4 := hid (yR3_3.out.below (Nat.le_refl _) hb)
  have HB_4 := hid (bel_next HB_3.out HB_3.out.size hb)
  have t0_4 := cell_below hb (Nat.lt_of_succ_lt z_3) t0_3
  have yt0_4 := cell_below hb z_3 yt0_3
  have t1_4 := cell_below hb (Nat.lt_of_succ_lt z_3) t1_3
  have yt1_4 := cell_below hb z_3 yt1_3
  have t2_4 := cell_below hb (Nat.lt_of_succ_lt z_3) t2_3
  have yt2_4 := cell_below hb z_3 yt2_3
  have t3_4 := cell_below hb (Nat.lt_of_succ_lt z_3) t3_3
  have yt3_4 := cell_below hb z_3 yt3_3
  have z_4 := Nat.lt_of_lt_of_le z_3 hb.size
  clear hb R0_3 R1_3 R2_3 R3_3 yR0_3 yR1_3 yR2_3 yR3_3 HB_3 t0_3 yt0_3 t1_3 yt1_3 t2_3 yt2_3 t3_3 yt3_3 z_3
  go_wp2
  go_ret
  exact ⟨ret_bool (by rw [HF.out]; simp), HB_4.out⟩
def RetAnnotated (x : An) (w : World) (e : Ending) (w' : World) : Prop :=
  ∃ a0 p0 a1 p1 a2 p2 a3 p3, e = .returned (.agg #[.slice a0 x.1.length p0, .slice a1 x.2.1.length p1, .slice a2 x.2.2.1.length p2, .slice a3 x.2.2.2.length p3]) ∧ SlRd cTerm (Fresh w.heap.size w') w' a0 p0 x.1 ∧ SlRd cTerm (Fresh w.heap.size w') w' a1 p1 x.2.1 ∧ SlRd cInstr (Fresh w.heap.size w') w' a2 p2 x.2.2.1 ∧ SlRd cPoint (Fresh w.heap.size w') w' a3 p3 x.2.2.2 ∧ Below w.heap.size w w'
set_option maxRecDepth 100000 in
set_option maxHeartbeats 1000000 in
theorem u_toAnnotated {S : Nat → Prop} {a0 : Option Addr} {p0 : Nat} {d0 : List Term} {a1 : Option Addr} {p1 : Nat} {d1 : List Term} {a2 : Option Addr} {p2 : Nat} {d2 : List Instr} {a3 : Option Addr} {p3 : Nat} {d3 : List Pt} {w : World} (h0 : SlRd cTerm S w a0 p0 d0) (h1 : SlRd cTerm S w a1 p1 d1) (h2 : SlRd cInstr S w a2 p2 d2) (h3 : SlRd cPoint S w a3 p3 d3) (hz : (szTs d0 + szTs d1 + d2.length + szPts d3) ≤ 1048576) :
    Calls Tryd.prog 7 #[.agg #[.slice a0 d0.length p0, .slice a1 d1.length p1, .slice a2 d2.length p2, .slice a3 d3.length p3]] w (RetAnnotated (d0, d1, d2, d3) w) := by
  have h0 := h0.keep (S' := fun b => S b ∧ b < w.heap.size) (w' := w) (fun b hb hlt => ⟨⟨hb, hlt⟩, rfl⟩)
  have R0_0 := hid (((h0.alloc (.cells #[.slice a0 d0.length p0, .slice a1 d1.length p1, .slice a2 d2.length p2, .slice a3 d3.length p3] 26)).alloc (.cells #[.slice none 0 0, .slice none 0 0, .slice none 0 0, .slice none 0 0] 34)).alloc (.cells #[.slice none 0 0, .slice none 0 0, .slice none 0 0, .slice none 0 0] 34))
  have h1 := h1.keep (S' := fun b => S b ∧ b < w.heap.size) (w' := w) (fun b hb hlt => ⟨⟨hb, hlt⟩, rfl⟩)
  have R1_0 := hid (((h1.alloc (.cells #[.slice a0 d0.length p0, .slice a1 d1.length p1, .slice a2 d2.length p2, .slice a3 d3.length p3] 26)).alloc (.cells #[.slice none 0 0, .slice none 0 0, .slice none 0 0, .slice none 0 0] 34)).alloc (.cells #[.slice none 0 0, .slice none 0 0, .slice none 0 0, .slice none 0 0] 34))
  have h2 := h2.keep (S' := fun b => S b ∧ b < w.heap.size) (w' := w) (fun b hb hlt => ⟨⟨hb, hlt⟩, rfl⟩)
  have R2_0 := hid (((h2.alloc (.cells #[.slice a0 d0.length p0, .slice a1 d1.length p1, .slice a2 d2.length p2, .slice a3 d3.length p3] 26)).alloc (.cells #[.slice none 0 0, .slice none 0 0, .slice none 0 0, .slice none 0 0] 34)).alloc (.cells #[.slice none 0 0, .slice none 0 0, .slice none 0 0, .slice none 0 0] 34))
  have h3 := h3.keep (S' := fun b => S b ∧ b < w.heap.size) (w' := w) (fun b hb hlt => ⟨⟨hb, hlt⟩, rfl⟩)
  have R3_0 := hid (((h3.alloc (.cells #[.slice a0 d0.length p0, .slice a1 d1.length p1, .slice a2 d2.length p2, .slice a3 d3.length p3] 26)).alloc (.cells #[.slice none 0 0, .slice none 0 0, .slice none 0 0, .slice none 0 0] 34)).alloc (.cells #[.slice none 0 0, .slice none 0 0, .slice none 0 0, .slice none 0 0] 34))
  have HB_0 : Hid (Below w.heap.size w (((w.alloc (.cells #[.slice a0 d0.length p0, .slice a1 d1.length p1, .slice a2 d2.length p2, .slice a3 d3.length p3] 26)).alloc (.cells #[.slice none 0 0, .slice none 0 0, .slice none 0 0, .slice none 0 0] 34)).alloc (.cells #[.slice none 0 0, .slice none 0 0, .slice none 0 0, .slice none 0 0] 34))) := (((Below.refl _ _).alloc (Nat.le_refl _) _).alloc (by simp) _).alloc (by simp; omega) _
  have z_0 : w.heap.size + 1 + 1 < (((w.alloc (.cells #[.slice a0 d0.length p0, .slice a1 d1.length p1, .slice a2 d2.length p2, .slice a3 d3.length p3] 26)).alloc (.cells #[.slice none 0 0, .slice none 0 0, .slice none 0 0, .slice none 0 0] 34)).alloc (.cells #[.slice none 0 0, .slice none 0 0, .slice none 0 0, .slice none 0 0] 34)).heap.size := by simp
  have KB_0 : Hid ((((w.alloc (.cells #[.slice a0 d0.length p0, .slice a1 d1.length p1, .slice a2 d2.length p2, .slice a3 d3.length p3] 26)).alloc (.cells #[.slice none 0 0, .slice none 0 0, .slice none 0 0, .slice none 0 0] 34)).alloc (.cells #[.slice none 0 0, .slice none 0 0, .slice none 0 0, .slice none 0 0] 34)).heap[w.heap.size]? = some (.cells #[.slice a0 d0.length p0, .slice a1 d1.length p1, .slice a2 d2.length p2, .slice a3 d3.length p3] 26 (0, 0))) := by unfold Hid; rw [Below.heap_alloc _ _ _ (by simp; omega), Below.heap_alloc _ _ _ (by simp)]; exact new_at rfl
  have KR_0 : Hid ((((w.alloc (.cells #[.slice a0 d0.length p0, .slice a1 d1.length p1, .slice a2 d2.length p2, .slice a3 d3.length p3] 26)).alloc (.cells #[.slice none 0 0, .slice none 0 0, .slice none 0 0, .slice none 0 0] 34)).alloc (.cells #[.slice none 0 0, .slice none 0 0, .slice none 0 0, .slice none 0 0] 34)).heap[w.heap.size + 1]? = some (.cells #[.slice none 0 0, .slice none 0 0, .slice none 0 0, .slice none 0 0] 34 (0, 0))) := by unfold Hid; rw [Below.heap_alloc _ _ _ (by simp)]; exact new_at (by simp)
  have KL_0 : Hid ((((w.alloc (.cells #[.slice a0 d0.length p0, .slice a1 d1.length p1, .slice a2 d2.length p2, .slice a3 d3.length p3] 26)).alloc (.cells #[.slice none 0 0, .slice none 0 0, .slice none 0 0, .slice none 0 0] 34)).alloc (.cells #[.slice none 0 0, .slice none 0 0, .slice none 0 0, .slice none 0 0] 34)).heap[w.heap.size + 1 + 1]? = some (.cells #[.slice none 0 0, .slice none 0 0, .slice none 0 0, .slice none 0 0] 34 (0, 0))) := new_at (by simp)
  clear h0 h1 h2 h3
  go_enter Tryd.func7, Tryd.ntmps7
  go_wp2_with fail
  generalize (((w.alloc (.cells #[.slice a0 d0.length p0, .slice a1 d1.length p1, .slice a2 d2.length p2, .slice a3 d3.length p3] 26)).alloc (.cells #[.slice none 0 0, .slice none 0 0, .slice none 0 0, .slice none 0 0] 34)).alloc (.cells #[.slice none 0 0, .slice none 0 0, .slice none 0 0, .slice none 0 0] 34)) = wc_0 at *
  refine (u_toTermS R0_0.out (by omega)).mono ?_
  rintro e w_1 ⟨na0, np0, rfl, hs0, hb⟩
  have R0_1 := hid (R0_0.out.below (Nat.le_refl _) hb)
  have R1_1 := hid (R1_0.out.below (Nat.le_refl _) hb)
  have R2_1 := hid (R2_0.out.below (Nat.le_refl _) hb)
  have R3_1 := hid (R3_0.out.below (Nat.le_refl _) hb)
  have N0_1 := hid (hs0.lower (B' := w.heap.size + 1 + 1 + 1) z_0)
  have HB_1 := hid (bel_next HB_0.out HB_0.out.size hb)
  have KB_1 := hid ((hb.block (w.heap.size) (by omega)).trans KB_0.out)
  have KR_1 := hid ((hb.block (w.heap.size + 1) (by omega)).trans KR_0.out)
  have KL_1 := hid ((hb.block (w.heap.size + 1 + 1) (by omega)).trans KL_0.out)
  have z_1 := Nat.lt_of_lt_of_le z_0 hb.size
  clear hb hs0 R0_0 R1_0 R2_0 R3_0  HB_0 KB_0 KR_0 KL_0 z_0
  have tb0 := cell_of KB_1.out (j := 0) rfl
  have tl0 := cell_of KL_1.out (j := 0) rfl
  have fl0 := frz_of KL_1.out 0
  have tb1 := cell_of KB_1.out (j := 1) rfl
  have tl1 := cell_of KL_1.out (j := 1) rfl
  have fl1 := frz_of KL_1.out 1
  have tb2 := cell_of KB_1.out (j := 2) rfl
  have tl2 := cell_of KL_1.out (j := 2) rfl
  have fl2 := frz_of KL_1.out 2
  have tb3 := cell_of KB_1.out (j := 3) rfl
  have tl3 := cell_of KL_1.out (j := 3) rfl
  have fl3 := frz_of KL_1.out 3
  go_wp2_with fail
  clear tb0 tl0 fl0 tb1 tl1 fl1 tb2 tl2 fl2 tb3 tl3 fl3
  have R0_1 : Hid (SlRd cTerm (fun b => S b ∧ b < w.heap.size) (w_1.setCell ⟨w.heap.size + 1 + 1, 0, none⟩ (.slice na0 d0.length np0)) a0 p0 d0) := R0_1.out.set_ne (p := ⟨w.heap.size + 1 + 1, 0, none⟩) (fun b h => by have h2 := h.2; show b ≠ w.heap.size + 1 + 1; omega) _
  have R1_1 : Hid (SlRd cTerm (fun b => S b ∧ b < w.heap.size) (w_1.setCell ⟨w.heap.size + 1 + 1, 0, none⟩ (.slice na0 d0.length np0)) a1 p1 d1) := R1_1.out.set_ne (p := ⟨w.heap.size + 1 + 1, 0, none⟩) (fun b h => by have h2 := h.2; show b ≠ w.heap.size + 1 + 1; omega) _
  have R2_1 : Hid (SlRd cInstr (fun b => S b ∧ b < w.heap.size) (w_1.setCell ⟨w.heap.size + 1 + 1, 0, none⟩ (.slice na0 d0.length np0)) a2 p2 d2) := R2_1.out.set_ne (p := ⟨w.heap.size + 1 + 1, 0, none⟩) (fun b h => by have h2 := h.2; show b ≠ w.heap.size + 1 + 1; omega) _
  have R3_1 : Hid (SlRd cPoint (fun b => S b ∧ b < w.heap.size) (w_1.setCell ⟨w.heap.size + 1 + 1, 0, none⟩ (.slice na0 d0.length np0)) a3 p3 d3) := R3_1.out.set_ne (p := ⟨w.heap.size + 1 + 1, 0, none⟩) (fun b h => by have h2 := h.2; show b ≠ w.heap.size + 1 + 1; omega) _
  have N0_1 := hid (N0_1.out.setC (p := ⟨w.heap.size + 1 + 1, 0, none⟩) (by simp) (.slice na0 d0.length np0))
  have HB_1 := hid (HB_1.out.setCell (p := ⟨w.heap.size + 1 + 1, 0, none⟩) (by simp; omega) (.slice na0 d0.length np0))
  have KB_1 := hid (blk_ne (b := w.heap.size) (p := ⟨w.heap.size + 1 + 1, 0, none⟩) (by simp; omega) KB_1.out (.slice na0 d0.length np0))
  have KR_1 := hid (blk_ne (b := w.heap.size + 1) (p := ⟨w.heap.size + 1 + 1, 0, none⟩) (by simp) KR_1.out (.slice na0 d0.length np0))
  have KL_1 : Hid ((w_1.setCell ⟨w.heap.size + 1 + 1, 0, none⟩ (.slice na0 d0.length np0)).heap[w.heap.size + 1 + 1]? = some (.cells #[.slice na0 d0.length np0, .slice none 0 0, .slice none 0 0, .slice none 0 0] 34 (0, 0))) := blk_set KL_1.out 0 (.slice na0 d0.length np0)
  have z_1 : w.heap.size + 1 + 1 < (w_1.setCell ⟨w.heap.size + 1 + 1, 0, none⟩ (.slice na0 d0.length np0)).heap.size := by rw [size_set]; exact z_1
  generalize (w_1.setCell ⟨w.heap.size + 1 + 1, 0, none⟩ (.slice na0 d0.length np0)) = wc_1 at *
  refine (u_toTermS R1_1.out (by omega)).mono ?_
  rintro e w_2 ⟨na1, np1, rfl, hs1, hb⟩
  have R0_2 := hid (R0_1.out.below (Nat.le_refl _) hb)
  have R1_2 := hid (R1_1.out.below (Nat.le_refl _) hb)
  have R2_2 := hid (R2_1.out.below (Nat.le_refl _) hb)
  have R3_2 := hid (R3_1.out.below (Nat.le_refl _) hb)
  have N0_2 := hid (N0_1.out.fresh (Nat.le_refl _) (Nat.le_refl _) hb)
  have N1_2 := hid (hs1.lower (B' := w.heap.size + 1 + 1 + 1) z_1)
  have HB_2 := hid (bel_next HB_1.out HB_1.out.size hb)
  have KB_2 := hid ((hb.block (w.heap.size) (by omega)).trans KB_1.out)
  have KR_2 := hid ((hb.block (w.heap.size + 1) (by omega)).trans KR_1.out)
  have KL_2 := hid ((hb.block (w.heap.size + 1 + 1) (by omega)).trans KL_1.out)
  have z_2 := Nat.lt_of_lt_of_le z_1 hb.size
  clear hb hs1 R0_1 R1_1 R2_1 R3_1 N0_1 HB_1 KB_1 KR_1 KL_1 z_1
  have tb0 := cell_of KB_2.out (j := 0) rfl
  have tl0 := cell_of KL_2.out (j := 0) rfl
  have fl0 := frz_of KL_2.out 0
  have tb1 := cell_of KB_2.out (j := 1) rfl
  have tl1 := cell_of KL_2.out (j := 1) rfl
  have fl1 := frz_of KL_2.out 1
  have tb2 := cell_of KB_2.out (j := 2) rfl
  have tl2 := cell_of KL_2.out (j := 2) rfl
  have fl2 := frz_of KL_2.out 2
  have tb3 := cell_of KB_2.out (j := 3) rfl
  have tl3 := cell_of KL_2.out (j := 3) rfl
  have fl3 := frz_of KL_2.out 3
  go_wp2_with fail
  clear tb0 tl0 fl0 tb1 tl1 fl1 tb2 tl2 fl2 tb3 tl3 fl3
  have R0_2 : Hid (SlRd cTerm (fun b => S b ∧ b < w.heap.size) (w_2.setCell ⟨w.heap.size + 1 + 1, 1, none⟩ (.slice na1 d1.length np1)) a0 p0 d0) := R0_2.out.set_ne (p := ⟨w.heap.size + 1 + 1, 1, none⟩) (fun b h => by have h2 := h.2; show b ≠ w.heap.size + 1 + 1; omega) _
  have R1_2 : Hid (SlRd cTerm (fun b => S b ∧ b < w.heap.size) (w_2.setCell ⟨w.heap.size + 1 + 1, 1, none⟩ (.slice na1 d1.length np1)) a1 p1 d1) := R1_2.out.set_ne (p := ⟨w.heap.size + 1 + 1, 1, none⟩) (fun b h => by have h2 := h.2; show b ≠ w.heap.size + 1 + 1; omega) _
  have R2_2 : Hid (SlRd cInstr (fun b => S b ∧ b < w.heap.size) (w_2.setCell ⟨w.heap.size + 1 + 1, 1, none⟩ (.slice na1 d1.length np1)) a2 p2 d2) := R2_2.out.set_ne (p := ⟨w.heap.size + 1 + 1, 1, none⟩) (fun b h => by have h2 := h.2; show b ≠ w.heap.size + 1 + 1; omega) _
  have R3_2 : Hid (SlRd cPoint (fun b => S b ∧ b < w.heap.size) (w_2.setCell ⟨w.heap.size + 1 + 1, 1, none⟩ (.slice na1 d1.length np1)) a3 p3 d3) := R3_2.out.set_ne (p := ⟨w.heap.size + 1 + 1, 1, none⟩) (fun b h => by have h2 := h.2; show b ≠ w.heap.size + 1 + 1; omega) _
  have N0_2 := hid (N0_2.out.setC (p := ⟨w.heap.size + 1 + 1, 1, none⟩) (by simp) (.slice na1 d1.length np1))
  have N1_2 := hid (N1_2.out.setC (p := ⟨w.heap.size + 1 + 1, 1, none⟩) (by simp) (.slice na1 d1.length np1))
  have HB_2 := hid (HB_2.out.setCell (p := ⟨w.heap.size + 1 + 1, 1, none⟩) (by simp; omega) (.slice na1 d1.length np1))
  have KB_2 := hid (blk_ne (b := w.heap.size) (p := ⟨w.heap.size + 1 + 1, 1, none⟩) (by simp; omega) KB_2.out (.slice na1 d1.length np1))
  have KR_2 := hid (blk_ne (b := w.heap.size + 1) (p := ⟨w.heap.size + 1 + 1, 1, none⟩) (by simp) KR_2.out (.slice na1 d1.length np1))
  have KL_2 : Hid ((w_2.setCell ⟨w.heap.size + 1 + 1, 1, none⟩ (.slice na1 d1.length np1)).heap[w.heap.size + 1 + 1]? = some (.cells #[.slice na0 d0.length np0, .slice na1 d1.length np1, .slice none 0 0, .slice none 0 0] 34 (0, 0))) := blk_set KL_2.out 1 (.slice na1 d1.length np1)
  have z_2 : w.heap.size + 1 + 1 < (w_2.setCell ⟨w.heap.size + 1 + 1, 1, none⟩ (.slice na1 d1.length np1)).heap.size := by rw [size_set]; exact z_2
  generalize (w_2.setCell ⟨w.heap.size + 1 + 1, 1, none⟩ (.slice na1 d1.length np1)) = wc_2 at *
  refine (u_toInstrS R2_2.out (by omega)).mono ?_
  rintro e w_3 ⟨na2, np2, rfl, hs2, hb⟩
  have R0_3 := hid (R0_2.out.below (Nat.le_refl _) hb)
  have R1_3 := hid (R1_2.out.below (Nat.le_refl _) hb)
  have R2_3 := hid (R2_2.out.below (Nat.le_refl _) hb)
  have R3_3 := hid (R3_2.out.below (Nat.le_refl _) hb)
  have N0_3 := hid (N0_2.out.fresh (Nat.le_refl _) (Nat.le_refl _) hb)
  have N1_3 := hid (N1_2.out.fresh (Nat.le_refl _) (Nat.le_refl _) hb)
  have N2_3 := hid (hs2.lower (B' := w.heap.size + 1 + 1 + 1) z_2)
  have HB_3 := hid (bel_next HB_2.out HB_2.out.size hb)
  have KB_3 := hid ((hb.block (w.heap.size) (by omega)).trans KB_2.out)
  have KR_3 := hid ((hb.block (w.heap.size + 1) (by omega)).trans KR_2.out)
  have KL_3 := hid ((hb.block (w.heap.size + 1 + 1) (by omega)).trans KL_2.out)
  have z_3 := Nat.lt_of_lt_of_le z_2 hb.size
  clear hb hs2 R0_2 R1_2 R2_2 R3_2 N0_2 N1_2 HB_2 KB_2 KR_2 KL_2 z_2
  have tb0 := cell_of KB_3.out (j := 0) rfl
  have tl0 := cell_of KL_3.out (j := 0) rfl
  have fl0 := frz_of KL_3.out 0
  have tb1 := cell_of KB_3.out (j := 1) rfl
  have tl1 := cell_of KL_3.out (j := 1) rfl
  have fl1 := frz_of KL_3.out 1
  have tb2 := cell_of KB_3.out (j := 2) rfl
  have tl2 := cell_of KL_3.out (j := 2) rfl
  have fl2 := frz_of KL_3.out 2
  have tb3 := cell_of KB_3.out (j := 3) rfl
  have tl3 := cell_of KL_3.out (j := 3) rfl
  have fl3 := frz_of KL_3.out 3
  go_wp2_with fail
  clear tb0 tl0 fl0 tb1 tl1 fl1 tb2 tl2 fl2 tb3 tl3 fl3
  have R0_3 : Hid (SlRd cTerm (fun b => S b ∧ b < w.heap.size) (w_3.setCell ⟨w.heap.size + 1 + 1, 2, none⟩ (.slice na2 d2.length np2)) a0 p0 d0) := R0_3.out.set_ne (p := ⟨w.heap.size + 1 + 1, 2, none⟩) (fun b h => by have h2 := h.2; show b ≠ w.heap.size + 1 + 1; omega) _
  have R1_3 : Hid (SlRd cTerm (fun b => S b ∧ b < w.heap.size) (w_3.setCell ⟨w.heap.size + 1 + 1, 2, none⟩ (.slice na2 d2.length np2)) a1 p1 d1) := R1_3.out.set_ne (p := ⟨w.heap.size + 1 + 1, 2, none⟩) (fun b h => by have h2 := h.2; show b ≠ w.heap.size + 1 + 1; omega) _
  have R2_3 : Hid (SlRd cInstr (fun b => S b ∧ b < w.heap.size) (w_3.setCell ⟨w.heap.size + 1 + 1, 2, none⟩ (.slice na2 d2.length np2)) a2 p2 d2) := R2_3.out.set_ne (p := ⟨w.heap.size + 1 + 1, 2, none⟩) (fun b h => by have h2 := h.2; show b ≠ w.heap.size + 1 + 1; omega) _
  have R3_3 : Hid (SlRd cPoint (fun b => S b ∧ b < w.heap.size) (w_3.setCell ⟨w.heap.size + 1 + 1, 2, none⟩ (.slice na2 d2.length np2)) a3 p3 d3) := R3_3.out.set_ne (p := ⟨w.heap.size + 1 + 1, 2, none⟩) (fun b h => by have h2 := h.2; show b ≠ w.heap.size + 1 + 1; omega) _
  have N0_3 := hid (N0_3.out.setC (p := ⟨w.heap.size + 1 + 1, 2, none⟩) (by simp) (.slice na2 d2.length np2))
  have N1_3 := hid (N1_3.out.setC (p := ⟨w.heap.size + 1 + 1, 2, none⟩) (by simp) (.slice na2 d2.length np2))
  have N2_3 := hid (N2_3.out.setC (p := ⟨w.heap.size + 1 + 1, 2, none⟩) (by simp) (.slice na2 d2.length np2))
  have HB_3 := hid (HB_3.out.setCell (p := ⟨w.heap.size + 1 + 1, 2, none⟩) (by simp; omega) (.slice na2 d2.length np2))
  have KB_3 := hid (blk_ne (b := w.heap.size) (p := ⟨w.heap.size + 1 + 1, 2, none⟩) (by simp; omega) KB_3.out (.slice na2 d2.length np2))
  have KR_3 := hid (blk_ne (b := w.heap.size + 1) (p := ⟨w.heap.size + 1 + 1, 2, none⟩) (by simp) KR_3.out (.slice na2 d2.length np2))
  have KL_3 : Hid ((w_3.setCell ⟨w.heap.size + 1 + 1, 2, none⟩ (.slice na2 d2.length np2)).heap[w.heap.size + 1 + 1]? = some (.cells #[.slice na0 d0.length np0, .slice na1 d1.length np1, .slice na2 d2.length np2, .slice none 0 0] 34 (0, 0))) := blk_set KL_3.out 2 (.slice na2 d2.length np2)
  have z_3 : w.heap.size + 1 + 1 < (w_3.setCell ⟨w.heap.size + 1 + 1, 2, none⟩ (.slice na2 d2.length np2)).heap.size := by rw [size_set]; exact z_3
  generalize (w_3.setCell ⟨w.heap.size + 1 + 1, 2, none⟩ (.slice na2 d2.length np2)) = wc_3 at *
  refine (u_toPointS R3_3.out (by omega)).mono ?_
  rintro e w_4 ⟨na3, np3, rfl, hs3, hb⟩
  have R0_4 := hid (R0_3.out.below (Nat.le_refl _) hb)
  have R1_4 := hid (R1_3.out.below (Nat.le_refl _) hb)
  have R2_4 := hid (R2_3.out.below (Nat.le_refl _) hb)
  have R3_4 := hid (R3_3.out.below (Nat.le_refl _) hb)
  have N0_4 := hid (N0_3.out.fresh (Nat.le_refl _) (Nat.le_refl _) hb)
  have N1_4 := hid (N1_3.out.fresh (Nat.le_refl _) (Nat.le_refl _) hb)
  have N2_4 := hid (N2_3.out.fresh (Nat.le_refl _) (Nat.le_refl _) hb)
  have N3_4 := hid (hs3.lower (B' := w.heap.size + 1 + 1 + 1) z_3)
  have HB_4 := hid (bel_next HB_3.out HB_3.out.size hb)
  have KB_4 := hid ((hb.block (w.heap.size) (by omega)).trans KB_3.out)
  have KR_4 := hid ((hb.block (w.heap.size + 1) (by omega)).trans KR_3.out)
  have KL_4 := hid ((hb.block (w.heap.size + 1 + 1) (by omega)).trans KL_3.out)
  have z_4 := Nat.lt_of_lt_of_le z_3 hb.size
  clear hb hs3 R0_3 R1_3 R2_3 R3_3 N0_3 N1_3 N2_3 HB_3 KB_3 KR_3 KL_3 z_3
  have tb0 := cell_of KB_4.out (j := 0) rfl
  have tl0 := cell_of KL_4.out (j := 0) rfl
  have fl0 := frz_of KL_4.out 0
  have tr0 := cell_of KR_4.out (j := 0) rfl
  have fr0 := frz_of KR_4.out 0
  have tb1 := cell_of KB_4.out (j := 1) rfl
  have tl1 := cell_of KL_4.out (j := 1) rfl
  have fl1 := frz_of KL_4.out 1
  have tr1 := cell_of KR_4.out (j := 1) rfl
  have fr1 := frz_of KR_4.out 1
  have tb2 := cell_of KB_4.out (j := 2) rfl
  have tl2 := cell_of KL_4.out (j := 2) rfl
  have fl2 := frz_of KL_4.out 2
  have tr2 := cell_of KR_4.out (j := 2) rfl
  have fr2 := frz_of KR_4.out 2
  have tb3 := cell_of KB_4.out (j := 3) rfl
  have tl3 := cell_of KL_4.out (j := 3) rfl
  have fl3 := frz_of KL_4.out 3
  have tr3 := cell_of KR_4.out (j := 3) rfl
  have fr3 := frz_of KR_4.out 3
  go_wp2
  refine bodyPost_ret (v := .agg #[.slice na0 d0.length np0, .slice na1 d1.length np1, .slice na2 d2.length np2, .slice na3 d3.length np3]) (by simp [results, Tryd.results7, go_sem, tr0, tr1, tr2, tr3]) rfl ⟨na0, np0, na1, np1, na2, np2, na3, np3, rfl, ?_, ?_, ?_, ?_, ?_⟩
  · exact (((((N0_4.out.setC (by simp) _).setC (by simp) _).setC (by simp) _).setC (by simp) _).setC (by simp) _).lower (by omega)
  · exact (((((N1_4.out.setC (by simp) _).setC (by simp) _).setC (by simp) _).setC (by simp) _).setC (by simp) _).lower (by omega)
  · exact (((((N2_4.out.setC (by simp) _).setC (by simp) _).setC (by simp) _).setC (by simp) _).setC (by simp) _).lower (by omega)
  · exact (((((N3_4.out.setC (by simp) _).setC (by simp) _).setC (by simp) _).setC (by simp) _).setC (by simp) _).lower (by omega)
  · exact (((((HB_4.out.setCell (by simp <;> omega) _).setCell (by simp <;> omega) _).setCell (by simp <;> omega) _).setCell (by simp <;> omega) _).setCell (by simp <;> omega) _)
end Go.Proofs.YtcmopmapdomneaaDoor
end

section
namespace Go.Proofs.YtcmopmapdomneaaDoor

open Go.RowKit

def stepOk (n : Nat) (ps : List Pt) (i : Nat) : Bool := match ps[i]? with
  | some p => (areOverF p.2 6 && inB p.1 0 ((n : Int) - 1)) && (i == 0 || (match ps[i - 1]? with | some q => decide (q.1 < p.1) | none => false))
  | none => true
def ptsOk (n : Nat) (ps : List Pt) (k : Nat) : Bool := (List.range k).all (stepOk n ps)
def headOk (a : An) : Bool := ((validCode a.2.2.1 && areOverF a.1 6) && areOverF a.2.1 6) && decide (a.2.2.2.length ≤ 8)
def validAn (a : An) : Bool := headOk a && ptsOk a.2.2.1.length a.2.2.2 a.2.2.2.length
theorem ptsOk_succ {n : Nat} {ps : List Pt} {k : Nat} (h : ptsOk n ps k = true) : ptsOk n ps (k + 1) = stepOk n ps k := by
  unfold ptsOk at h ⊢; rw [List.range_succ, List.all_append, h]; simp
theorem ptsOk_false {n : Nat} {ps : List Pt} {k m : Nat} (h : stepOk n ps k = false) (hk : k < m) : ptsOk n ps m = false := by
  unfold ptsOk; rw [List.all_eq_false]; exact ⟨k, by simpa using hk, by simp [h]⟩
theorem stepOk_zero {n : Nat} {ps : List Pt} {p : Pt} (h : ps[0]? = some p) : stepOk n ps 0 = (areOverF p.2 6 && inB p.1 0 ((n : Int) - 1)) := by unfold stepOk; rw [h]; simp
theorem stepOk_succ {n : Nat} {ps : List Pt} {p q : Pt} {k : Nat} (h : ps[k + 1]? = some p) (hq : ps[k]? = some q) : stepOk n ps (k + 1) = ((areOverF p.2 6 && inB p.1 0 ((n : Int) - 1)) && decide (q.1 < p.1)) := by
  unfold stepOk; rw [h]; simp [hq]
theorem c_isIndex (k : Int) (n : Nat) (w : World) (hn : n ≤ 1000000) : Calls Tryd.prog 48 #[.int .i64 k, .int .i64 n] w fun e w' => e = .returned (.bool (inB k 0 ((n : Int) - 1))) ∧ w = w' := by
  go_enter Tryd.func48, Tryd.ntmps48
  go_wp2_with (first | (go_at_call 76; refine (c_size _ _).mono ?_; rintro e w' ⟨rfl, rfl⟩) | (go_at_call 75; refine (c_within _ _ _ _).mono ?_; rintro e w' ⟨rfl, rfl⟩))
  go_ret
  exact ⟨rfl, rfl⟩
theorem c_l08Facts {S : Nat → Prop} (a : Option Addr) (cap : Nat) (ts : List Term) (w : World) (h : SlRd cTerm S w a cap ts) :
    Calls Tryd.prog 38 #[.slice a ts.length cap] w fun e w' => e = .returned (.bool (areOverF ts 6)) ∧ w = w' := by
  have hl := h.len_le
  have H := hid h
  clear h
  go_enter Tryd.func38, Tryd.ntmps38
  go_wp2
  go_loop [3] (fun i => ∃ k : Nat, k ≤ ts.length ∧ i = .int .i64 k ∧ Hid ((ts.take k).all overT = true)) (fun i => ts.length - (intOf i).toNat)
  case atStart => exact ⟨0, Nat.zero_le _, rfl, rfl⟩
  case round =>
    obtain ⟨k, hk, rfl, HA⟩ := hrel
    by_cases hlt : k < ts.length
    · obtain ⟨b, off, rfl⟩ := H.out.some_of hlt
      obtain ⟨c, zs, a', cap', hz, hc1, hsl, hc, hc', hb⟩ := H.out.term_at k hlt
      have hzl := hsl.len_le
      have HZ := hid hz
      have HC := hid (c_l02Is _ _ _ _ _ _ _ hc hc' hsl)
      obtain ⟨r, hr⟩ : ∃ r, validTerm (c, zs) = r := ⟨_, rfl⟩
      have HR := hid hr
      clear hz hr hsl
      by_cases h4 : zs.length ≤ 4
      · have h4' : decide ((4 : Int) < zs.length) = false := by simp; omega
        have HO : Hid (overT (c, zs) = r) := by unfold Hid overT; rw [HR.out]; simp [h4]
        cases r
        · go_wp2_with (go_at_call 69; refine HC.out.mono ?_; rintro e w' ⟨rfl, rfl⟩; rw [HR.out])
          go_ret
          exact ⟨ret_bool (by simp [areOverF, all_false HZ.out HO.out]), rfl⟩
        · go_wp2_with (go_at_call 69; refine HC.out.mono ?_; rintro e w' ⟨rfl, rfl⟩; rw [HR.out])
          go_round
          case rel => exact ⟨k + 1, by omega, by go_num, (all_take HA.out HZ.out).trans HO.out⟩
          case measure => simp [intOf]; omega
      · have h4' : decide ((4 : Int) < zs.length) = true := by simp; omega
        have HO : Hid (overT (c, zs) = false) := by unfold Hid overT; simp [h4]
        cases r
        all_goals
          go_wp2_with (go_at_call 69; refine HC.out.mono ?_; rintro e w' ⟨rfl, rfl⟩; rw [HR.out])
          go_ret
          exact ⟨ret_bool (by simp [areOverF, all_false HZ.out HO.out]), rfl⟩
    · go_wp2
      go_ret
      exact ⟨ret_bool (by simp only [areOverF, all_end HA.out (by omega)]; rw [Bool.eq_iff_iff]; simp <;> omega), rfl⟩
end Go.Proofs.YtcmopmapdomneaaDoor
end

section
namespace Go.Proofs.YtcmopmapdomneaaDoor
open Go.RowKit
abbrev Pg := List Term × List Stmt × List Term
abbrev cProgram : Codec Pg := cPair cTerms (cPair cStmts cTerms)
abbrev nProgram : Norm cProgram := nPair nTerms (nPair nStmts nTerms)
instance dec_Pg : DecidableEq Pg := inferInstance
theorem Pg_list {S : Nat → Prop} {w : World} {cs : List Value} {d : Pg} (h : cProgram.rd S w cs d) : ∃ a0 p0 a1 p1 a2 p2, cs = [.slice a0 d.1.length p0, .slice a1 d.2.1.length p1, .slice a2 d.2.2.length p2] ∧ SlRd cTerm S w a0 p0 d.1 ∧ SlRd cStmt S w a1 p1 d.2.1 ∧ SlRd cTerm S w a2 p2 d.2.2 := by
  obtain ⟨_, _, rfl, ⟨a0, p0, rfl, r0⟩, ⟨_, _, rfl, ⟨a1, p1, rfl, r1⟩, ⟨a2, p2, rfl, r2⟩⟩⟩ := h
  exact ⟨a0, p0, a1, p1, a2, p2, rfl, r0, r1, r2⟩
theorem Pg_arr {S : Nat → Prop} {w : World} {cs : Array Value} {d : Pg} (h : cProgram.rd S w cs.toList d) : ∃ a0 p0 a1 p1 a2 p2, cs = #[.slice a0 d.1.length p0, .slice a1 d.2.1.length p1, .slice a2 d.2.2.length p2] ∧ SlRd cTerm S w a0 p0 d.1 ∧ SlRd cStmt S w a1 p1 d.2.1 ∧ SlRd cTerm S w a2 p2 d.2.2 := by
  obtain ⟨a0, p0, a1, p1, a2, p2, he, hr⟩ := Pg_list h
  exact ⟨a0, p0, a1, p1, a2, p2, by rw [← Array.toList_inj, he], hr⟩
theorem op_Pg : Opens Tryd.prog 40 cProgram := opens_struct Tryd.underlying40 (by kernel_rfl) (opensFs_cons rfl op_Terms (opensFs_cons rfl op_Stmts (opensFs_last rfl op_Terms)))
set_option maxRecDepth 100000 in
theorem u_szProgram {S : Nat → Prop} {a0 : Option Addr} {p0 : Nat} {d0 : List Term} {a1 : Option Addr} {p1 : Nat} {d1 : List Stmt} {a2 : Option Addr} {p2 : Nat} {d2 : List Term} {left : Int} {w : World} (h0 : SlRd cTerm S w a0 p0 d0) (h1 : SlRd cStmt S w a1 p1 d1) (h2 : SlRd cTerm S w a2 p2 d2) (hl0 : 0 ≤ left) (hl1 : left ≤ 1048576) :
    Calls Tryd.prog 10 #[.agg #[.slice a0 d0.length p0, .slice a1 d1.length p1, .slice a2 d2.length p2], .int .i64 left] w fun e w' => e = .returned (.int .i64 (szR left ((szTs d0 + szStmts d1 + szTs d2) : Nat))) ∧ Below w.heap.size w w' := by
  have R0_0 := hid (h0.alloc (.cells #[.slice a0 d0.length p0, .slice a1 d1.length p1, .slice a2 d2.length p2] 40))
  have R1_0 := hid (h1.alloc (.cells #[.slice a0 d0.length p0, .slice a1 d1.length p1, .slice a2 d2.length p2] 40))
  have R2_0 := hid (h2.alloc (.cells #[.slice a0 d0.length p0, .slice a1 d1.length p1, .slice a2 d2.length p2] 40))
  have HB_0 : Hid (Below w.heap.size w (w.alloc (.cells #[.slice a0 d0.length p0, .slice a1 d1.length p1, .slice a2 d2.length p2] 40))) := (Below.refl _ _).alloc (Nat.le_refl _) _
  have z_0 : w.heap.size < (w.alloc (.cells #[.slice a0 d0.length p0, .slice a1 d1.length p1, .slice a2 d2.length p2] 40)).heap.size := by simp
  have t0_0 : (w.alloc (.cells #[.slice a0 d0.length p0, .slice a1 d1.length p1, .slice a2 d2.length p2] 40)).cell? ⟨w.heap.size, 0, none⟩ = some (.slice a0 d0.length p0) := by rw [World.cell?_alloc_at _ _ _ _ rfl]; rfl
  have t1_0 : (w.alloc (.cells #[.slice a0 d0.length p0, .slice a1 d1.length p1, .slice a2 d2.length p2] 40)).cell? ⟨w.heap.size, 1, none⟩ = some (.slice a1 d1.length p1) := by rw [World.cell?_alloc_at _ _ _ _ rfl]; rfl
  have t2_0 : (w.alloc (.cells #[.slice a0 d0.length p0, .slice a1 d1.length p1, .slice a2 d2.length p2] 40)).cell? ⟨w.heap.size, 2, none⟩ = some (.slice a2 d2.length p2) := by rw [World.cell?_alloc_at _ _ _ _ rfl]; rfl
  clear h0 h1 h2
  obtain ⟨r0, hr⟩ : ∃ r, szR left (szTs d0 : Nat) = r := ⟨_, rfl⟩
  have l0 : r0 ≤ left := by rw [← hr]; unfold szR; split <;> omega
  have m0 : r0 < 0 → r0 = -1 := by rw [← hr]; unfold szR; split <;> omega
  have HS0 : Hid (szR left ((szTs d0 : Nat) : Int) = r0) := by exact hr
  have HR0 := hid hr
  clear hr
  by_cases g0 : r0 < 0
  · skip
    have h8 : szR left ((szTs d0 : Nat) : Int) < 0 := by rw [HS0.out]; exact g0
    have h8 := szR_neg (m := szStmts d1) h8
    have h8 : szR left ((szTs d0 + szStmts d1 : Nat) : Int) < 0 := by rw [h8]; decide
    have h8 := szR_neg (m := szTs d2) h8
    have HF := hid h8
    clear h8 m0
    go_enter Tryd.func10, Tryd.ntmps10
    go_wp2_with fail
    refine (u_szTermS R0_0.out (by omega) (by omega)).mono ?_
    rintro e w_1 ⟨rfl, hb⟩
    rw [HR0.out]
    have R0_1 := hid (R0_0.out.below (Nat.le_refl _) hb)
    have R1_1 := hid (R1_0.out.below (Nat.le_refl _) hb)
    have R2_1 := hid (R2_0.out.below (Nat.le_refl _) hb)
    have HB_1 := hid (bel_next HB_0.out HB_0.out.size hb)
    have t0_1 := cell_below hb z_0 t0_0
    have t1_1 := cell_below hb z_0 t1_0
    have t2_1 := cell_below hb z_0 t2_0
    have z_1 := Nat.lt_of_lt_of_le z_0 hb.size
    clear hb R0_0 R1_0 R2_0 HB_0 t0_0 t1_0 t2_0 z_0
    go_wp2
    go_ret
    exact ⟨ret_int HF.out.symm, HB_1.out⟩
  clear m0
  obtain ⟨r1, hr⟩ : ∃ r, szR r0 (szStmts d1 : Nat) = r := ⟨_, rfl⟩
  have l1 : r1 ≤ r0 := by rw [← hr]; unfold szR; split <;> omega
  have m1 : r1 < 0 → r1 = -1 := by rw [← hr]; unfold szR; split <;> omega
  have HS1 : Hid (szR left ((szTs d0 + szStmts d1 : Nat) : Int) = r1) := by have h9 := HS0.out; unfold Hid; rw [← hr, ← h9, szR_add (by rw [h9]; omega)]
  have HR1 := hid hr
  clear hr
  by_cases g1 : r1 < 0
  · skip
    have h8 : szR left ((szTs d0 + szStmts d1 : Nat) : Int) < 0 := by rw [HS1.out]; exact g1
    have h8 := szR_neg (m := szTs d2) h8
    have HF := hid h8
    clear h8 m1
    go_enter Tryd.func10, Tryd.ntmps10
    go_wp2_with fail
    refine (u_szTermS R0_0.out (by omega) (by omega)).mono ?_
    rintro e w_1 ⟨rfl, hb⟩
    rw [HR0.out]
    have R0_1 := hid (R0_0.out.below (Nat.le_refl _) hb)
    have R1_1 := hid (R1_0.out.below (Nat.le_refl _) hb)
    have R2_1 := hid (R2_0.out.below (Nat.le_refl _) hb)
    have HB_1 := hid (bel_next HB_0.out HB_0.out.size hb)
    have t0_1 := cell_below hb z_0 t0_0
    have t1_1 := cell_below hb z_0 t1_0
    have t2_1 := cell_below hb z_0 t2_0
    have z_1 := Nat.lt_of_lt_of_le z_0 hb.size
    clear hb R0_0 R1_0 R2_0 HB_0 t0_0 t1_0 t2_0 z_0
    go_wp2_with fail
    refine (u_szStmtS R1_1.out (by omega) (by omega)).mono ?_
    rintro e w_2 ⟨rfl, hb⟩
    rw [HR1.out]
    have R0_2 := hid (R0_1.out.below (Nat.le_refl _) hb)
    have R1_2 := hid (R1_1.out.below (Nat.le_refl _) hb)
    have R2_2 := hid (R2_1.out.below (Nat.le_refl _) hb)
    have HB_2 := hid (bel_next HB_1.out HB_1.out.size hb)
    have t0_2 := cell_below hb z_1 t0_1
    have t1_2 := cell_below hb z_1 t1_1
    have t2_2 := cell_below hb z_1 t2_1
    have z_2 := Nat.lt_of_lt_of_le z_1 hb.size
    clear hb R0_1 R1_1 R2_1 HB_1 t0_1 t1_1 t2_1 z_1
    go_wp2
    go_ret
    exact ⟨ret_int HF.out.symm, HB_2.out⟩
  clear m1
  obtain ⟨r2, hr⟩ : ∃ r, szR r1 (szTs d2 : Nat) = r := ⟨_, rfl⟩
  have l2 : r2 ≤ r1 := by rw [← hr]; unfold szR; split <;> omega
  have m2 : r2 < 0 → r2 = -1 := by rw [← hr]; unfold szR; split <;> omega
  have HS2 : Hid (szR left ((szTs d0 + szStmts d1 + szTs d2 : Nat) : Int) = r2) := by have h9 := HS1.out; unfold Hid; rw [← hr, ← h9, szR_add (by rw [h9]; omega)]
  have HR2 := hid hr
  clear hr
  by_cases g2 : r2 < 0
  · skip
    have h8 : szR left ((szTs d0 + szStmts d1 + szTs d2 : Nat) : Int) < 0 := by rw [HS2.out]; exact g2
    have HF := hid (HS2.out.trans (m2 g2))
    clear h8 m2
    go_enter Tryd.func10, Tryd.ntmps10
    go_wp2_with fail
    refine (u_szTermS R0_0.out (by omega) (by omega)).mono ?_
    rintro e w_1 ⟨rfl, hb⟩
    rw [HR0.out]
    have R0_1 := hid (R0_0.out.below (Nat.le_refl _) hb)
    have R1_1 := hid (R1_0.out.below (Nat.le_refl _) hb)
    have R2_1 := hid (R2_0.out.below (Nat.le_refl _) hb)
    have HB_1 := hid (bel_next HB_0.out HB_0.out.size hb)
    have t0_1 := cell_below hb z_0 t0_0
    have t1_1 := cell_below hb z_0 t1_0
    have t2_1 := cell_below hb z_0 t2_0
    have z_1 := Nat.lt_of_lt_of_le z_0 hb.size
    clear hb R0_0 R1_0 R2_0 HB_0 t0_0 t1_0 t2_0 z_0
    go_wp2_with fail
    refine (u_szStmtS R1_1.out (by omega) (by omega)).mono ?_
    rintro e w_2 ⟨rfl, hb⟩
    rw [HR1.out]
    have R0_2 := hid (R0_1.out.below (Nat.le_refl _) hb)
    have R1_2 := hid (R1_1.out.below (Nat.le_refl _) hb)
    have R2_2 := hid (R2_1.out.below (Nat.le_refl _) hb)
    have HB_2 := hid (bel_next HB_1.out HB_1.out.size hb)
    have t0_2 := cell_below hb z_1 t0_1
    have t1_2 := cell_below hb z_1 t1_1
    have t2_2 := cell_below hb z_1 t2_1
    have z_2 := Nat.lt_of_lt_of_le z_1 hb.size
    clear hb R0_1 R1_1 R2_1 HB_1 t0_1 t1_1 t2_1 z_1
    go_wp2_with fail
    refine (u_szTermS R2_2.out (by omega) (by omega)).mono ?_
    rintro e w_3 ⟨rfl, hb⟩
    rw [HR2.out]
    have R0_3 := hid (R0_2.out.below (Nat.le_refl _) hb)
    have R1_3 := hid (R1_2.out.below (Nat.le_refl _) hb)
    have R2_3 := hid (R2_2.out.below (Nat.le_refl _) hb)
    have HB_3 := hid (bel_next HB_2.out HB_2.out.size hb)
    have t0_3 := cell_below hb z_2 t0_2
    have t1_3 := cell_below hb z_2 t1_2
    have t2_3 := cell_below hb z_2 t2_2
    have z_3 := Nat.lt_of_lt_of_le z_2 hb.size
    clear hb R0_2 R1_2 R2_2 HB_2 t0_2 t1_2 t2_2 z_2
    go_wp2
    go_ret
    exact ⟨ret_int HF.out.symm, HB_3.out⟩
  clear m2
  go_enter Tryd.func10, Tryd.ntmps10
  go_wp2_with fail
  refine (u_szTermS R0_0.out (by omega) (by omega)).mono ?_
  rintro e w_1 ⟨rfl, hb⟩
  rw [HR0.out]
  have R0_1 := hid (R0_0.out.below (Nat.le_refl _) hb)
  have R1_1 := hid (R1_0.out.below (Nat.le_refl _) hb)
  have R2_1 := hid (R2_0.out.below (Nat.le_refl _) hb)
  have HB_1 := hid (bel_next HB_0.out HB_0.out.size hb)
  have t0_1 := cell_below hb z_0 t0_0
  have t1_1 := cell_below hb z_0 t1_0
  have t2_1 := cell_below hb z_0 t2_0
  have z_1 := Nat.lt_of_lt_of_le z_0 hb.size
  clear hb R0_0 R1_0 R2_0 HB_0 t0_0 t1_0 t2_0 z_0
  go_wp2_with fail
  refine (u_szStmtS R1_1.out (by omega) (by omega)).mono ?_
  rintro e w_2 ⟨rfl, hb⟩
  rw [HR1.out]
  have R0_2 := hid (R0_1.out.below (Nat.le_refl _) hb)
  have R1_2 := hid (R1_1.out.below (Nat.le_refl _) hb)
  have R2_2 := hid (R2_1.out.below (Nat.le_refl _) hb)
  have HB_2 := hid (bel_next HB_1.out HB_1.out.size hb)
  have t0_2 := cell_below hb z_1 t0_1
  have t1_2 := cell_below hb z_1 t1_1
  have t2_2 := cell_below hb z_1 t2_1
  have z_2 := Nat.lt_of_lt_of_le z_1 hb.size
  clear hb R0_1 R1_1 R2_1 HB_1 t0_1 t1_1 t2_1 z_1
  go_wp2_with fail
  refine (u_szTermS R2_2.out (by omega) (by omega)).mono ?_
  rintro e w_3 ⟨rfl, hb⟩
  rw [HR2.out]
  have R0_3 := hid (R0_2.out.below (Nat.le_refl _) hb)
  have R1_3 := hid (R1_2.out.below (Nat.le_refl _) hb)
  have R2_3 := hid (R2_2.out.below (Nat.le_refl _) hb)
  have HB_3 := hid (bel_next HB_2.out HB_2.out.size hb)
  have t0_3 := cell_below hb z_2 t0_2
  have t1_3 := cell_below hb z_2 t1_2
  have t2_3 := cell_below hb z_2 t2_2
  have z_3 := Nat.lt_of_lt_of_le z_2 hb.size
  clear hb R0_2 R1_2 R2_2 HB_2 t0_2 t1_2 t2_2 z_2
  go_wp2
  go_ret
  exact ⟨ret_int HS2.out.symm, HB_3.out⟩
set_option maxRecDepth 100000 in
theorem u_eqProgram {S T : Nat → Prop} {a0 : Option Addr} {p0 : Nat} {d0 : List Term} {a1 : Option Addr} {p1 : Nat} {d1 : List Stmt} {a2 : Option Addr} {p2 : Nat} {d2 : List Term} {ya0 : Option Addr} {yp0 : Nat} {yd0 : List Term} {ya1 : Option Addr} {yp1 : Nat} {yd1 : List Stmt} {ya2 : Option Addr} {yp2 : Nat} {yd2 : List Term} {w : World} (h0 : SlRd cTerm S w a0 p0 d0) (h1 : SlRd cStmt S w a1 p1 d1) (h2 : SlRd cTerm S w a2 p2 d2) (yh0 : SlRd cTerm T w ya0 yp0 yd0) (yh1 : SlRd cStmt T w ya1 yp1 yd1) (yh2 : SlRd cTerm T w ya2 yp2 yd2) :
    Calls Tryd.prog 14 #[.agg #[.slice a0 d0.length p0, .slice a1 d1.length p1, .slice a2 d2.length p2], .agg #[.slice ya0 yd0.length yp0, .slice ya1 yd1.length yp1, .slice ya2 yd2.length yp2]] w fun e w' => e = .returned (.bool (decide (((d0, d1, d2) : Pg) = (yd0, yd1, yd2)))) ∧ Below w.heap.size w w' := by
  have R0_0 := hid ((h0.alloc (.cells #[.slice a0 d0.length p0, .slice a1 d1.length p1, .slice a2 d2.length p2] 45)).alloc (.cells #[.slice ya0 yd0.length yp0, .slice ya1 yd1.length yp1, .slice ya2 yd2.length yp2] 45))
  have R1_0 := hid ((h1.alloc (.cells #[.slice a0 d0.length p0, .slice a1 d1.length p1, .slice a2 d2.length p2] 45)).alloc (.cells #[.slice ya0 yd0.length yp0, .slice ya1 yd1.length yp1, .slice ya2 yd2.length yp2] 45))
  have R2_0 := hid ((h2.alloc (.cells #[.slice a0 d0.length p0, .slice a1 d1.length p1, .slice a2 d2.length p2] 45)).alloc (.cells #[.slice ya0 yd0.length yp0, .slice ya1 yd1.length yp1, .slice ya2 yd2.length yp2] 45))
  have yR0_0 := hid ((yh0.alloc (.cells #[.slice a0 d0.length p0, .slice a1 d1.length p1, .slice a2 d2.length p2] 45)).alloc (.cells #[.slice ya0 yd0.length yp0, .slice ya1 yd1.length yp1, .slice ya2 yd2.length yp2] 45))
  have yR1_0 := hid ((yh1.alloc (.cells #[.slice a0 d0.length p0, .slice a1 d1.length p1, .slice a2 d2.length p2] 45)).alloc (.cells #[.slice ya0 yd0.length yp0, .slice ya1 yd1.length yp1, .slice ya2 yd2.length yp2] 45))
  have yR2_0 := hid ((yh2.alloc (.cells #[.slice a0 d0.length p0, .slice a1 d1.length p1, .slice a2 d2.length p2] 45)).alloc (.cells #[.slice ya0 yd0.length yp0, .slice ya1 yd1.length yp1, .slice ya2 yd2.length yp2] 45))
  have HB_0 : Hid (Below w.heap.size w ((w.alloc (.cells #[.slice a0 d0.length p0, .slice a1 d1.length p1, .slice a2 d2.length p2] 45)).alloc (.cells #[.slice ya0 yd0.length yp0, .slice ya1 yd1.length yp1, .slice ya2 yd2.length yp2] 45))) := ((Below.refl _ _).alloc (Nat.le_refl _) _).alloc (by simp) _
  have z_0 : w.heap.size + 1 < ((w.alloc (.cells #[.slice a0 d0.length p0, .slice a1 d1.length p1, .slice a2 d2.length p2] 45)).alloc (.cells #[.slice ya0 yd0.length yp0, .slice ya1 yd1.length yp1, .slice ya2 yd2.length yp2] 45)).heap.size := by simp
  have t0_0 : ((w.alloc (.cells #[.slice a0 d0.length p0, .slice a1 d1.length p1, .slice a2 d2.length p2] 45)).alloc (.cells #[.slice ya0 yd0.length yp0, .slice ya1 yd1.length yp1, .slice ya2 yd2.length yp2] 45)).cell? ⟨w.heap.size, 0, none⟩ = some (.slice a0 d0.length p0) := by simp [go_sem]
  have yt0_0 : ((w.alloc (.cells #[.slice a0 d0.length p0, .slice a1 d1.length p1, .slice a2 d2.length p2] 45)).alloc (.cells #[.slice ya0 yd0.length yp0, .slice ya1 yd1.length yp1, .slice ya2 yd2.length yp2] 45)).cell? ⟨w.heap.size + 1, 0, none⟩ = some (.slice ya0 yd0.length yp0) := by simp [go_sem]
  have t1_0 : ((w.alloc (.cells #[.slice a0 d0.length p0, .slice a1 d1.length p1, .slice a2 d2.length p2] 45)).alloc (.cells #[.slice ya0 yd0.length yp0, .slice ya1 yd1.length yp1, .slice ya2 yd2.length yp2] 45)).cell? ⟨w.heap.size, 1, none⟩ = some (.slice a1 d1.length p1) := by simp [go_sem]
  have yt1_0 : ((w.alloc (.cells #[.slice a0 d0.length p0, .slice a1 d1.length p1, .slice a2 d2.length p2] 45)).alloc (.cells #[.slice ya0 yd0.length yp0, .slice ya1 yd1.length yp1, .slice ya2 yd2.length yp2] 45)).cell? ⟨w.heap.size + 1, 1, none⟩ = some (.slice ya1 yd1.length yp1) := by simp [go_sem]
  have t2_0 : ((w.alloc (.cells #[.slice a0 d0.length p0, .slice a1 d1.length p1, .slice a2 d2.length p2] 45)).alloc (.cells #[.slice ya0 yd0.length yp0, .slice ya1 yd1.length yp1, .slice ya2 yd2.length yp2] 45)).cell? ⟨w.heap.size, 2, none⟩ = some (.slice a2 d2.length p2) := by simp [go_sem]
  have yt2_0 : ((w.alloc (.cells #[.slice a0 d0.length p0, .slice a1 d1.length p1, .slice a2 d2.length p2] 45)).alloc (.cells #[.slice ya0 yd0.length yp0, .slice ya1 yd1.length yp1, .slice ya2 yd2.length yp2] 45)).cell? ⟨w.heap.size + 1, 2, none⟩ = some (.slice ya2 yd2.length yp2) := by simp [go_sem]
  clear h0 h1 h2 yh0 yh1 yh2
  obtain ⟨b0, hb0⟩ : ∃ b, decide ((d0 : List Term) = yd0) = b := ⟨_, rfl⟩
  obtain ⟨b1, hb1⟩ : ∃ b, decide ((d1 : List Stmt) = yd1) = b := ⟨_, rfl⟩
  obtain ⟨b2, hb2⟩ : ∃ b, decide ((d2 : List Term) = yd2) = b := ⟨_, rfl⟩
  have HF : Hid (decide (((d0, d1, d2) : Pg) = (yd0, yd1, yd2)) = (b0 && b1 && b2)) := by unfold Hid; rw [← hb0, ← hb1, ← hb2, Bool.eq_iff_iff]; simp [Prod.ext_iff, and_assoc]
  have HR0 := hid hb0
  clear hb0
  have HR1 := hid hb1
  clear hb1
  have HR2 := hid hb2
  clear hb2
  cases b0
  · skip
    go_enter Tryd.func14, Tryd.ntmps14
    go_wp2_with fail
    refine (u_eqTermS R0_0.out yR0_0.out).mono ?_
    rintro e w_1 ⟨rfl, hb⟩
    rw [HR0.out]
    have R0_1 := hid (R0_0.out.below (Nat.le_refl _) hb)
    have R1_1 := hid (R1_0.out.below (Nat.le_refl _) hb)
    have R2_1 := hid (R2_0.out.below (Nat.le_refl _) hb)
    have yR0_1 := hid (yR0_0.out.below (Nat.le_refl _) hb)
    have yR1_1 := hid (yR1_0.out.below (Nat.le_refl _) hb)
    have yR2_1 := hid (yR2_0.out.below (Nat.le_refl _) hb)
    have HB_1 := hid (bel_next HB_0.out HB_0.out.size hb)
    have t0_1 := cell_below hb (Nat.lt_of_succ_lt z_0) t0_0
    have yt0_1 := cell_below hb z_0 yt0_0
    have t1_1 := cell_below hb (Nat.lt_of_succ_lt z_0) t1_0
    have yt1_1 := cell_below hb z_0 yt1_0
    have t2_1 := cell_below hb (Nat.lt_of_succ_lt z_0) t2_0
    have yt2_1 := cell_below hb z_0 yt2_0
    have z_1 := Nat.lt_of_lt_of_le z_0 hb.size
    clear hb R0_0 R1_0 R2_0 yR0_0 yR1_0 yR2_0 HB_0 t0_0 yt0_0 t1_0 yt1_0 t2_0 yt2_0 z_0
    go_wp2
    go_ret
    exact ⟨ret_bool (by rw [HF.out]; simp), HB_1.out⟩
  cases b1
  · skip
    go_enter Tryd.func14, Tryd.ntmps14
    go_wp2_with fail
    refine (u_eqTermS R0_0.out yR0_0.out).mono ?_
    rintro e w_1 ⟨rfl, hb⟩
    rw [HR0.out]
    have R0_1 := hid (R0_0.out.below (Nat.le_refl _) hb)
    have R1_1 := hid (R1_0.out.below (Nat.le_refl _) hb)
    have R2_1 := hid (R2_0.out.below (Nat.le_refl _) hb)
    have yR0_1 := hid (yR0_0.out.below (Nat.le_refl _) hb)
    have yR1_1 := hid (yR1_0.out.below (Nat.le_refl _) hb)
    have yR2_1 := hid (yR2_0.out.below (Nat.le_refl _) hb)
    have HB_1 := hid (bel_next HB_0.out HB_0.out.size hb)
    have t0_1 := cell_below hb (Nat.lt_of_succ_lt z_0) t0_0
    have yt0_1 := cell_below hb z_0 yt0_0
    have t1_1 := cell_below hb (Nat.lt_of_succ_lt z_0) t1_0
    have yt1_1 := cell_below hb z_0 yt1_0
    have t2_1 := cell_below hb (Nat.lt_of_succ_lt z_0) t2_0
    have yt2_1 := cell_below hb z_0 yt2_0
    have z_1 := Nat.lt_of_lt_of_le z_0 hb.size
    clear hb R0_0 R1_0 R2_0 yR0_0 yR1_0 yR2_0 HB_0 t0_0 yt0_0 t1_0 yt1_0 t2_0 yt2_0 z_0
    go_wp2_with fail
    refine (u_eqStmtS R1_1.out yR1_1.out).mono ?_
    rintro e w_2 ⟨rfl, hb⟩
    rw [HR1.out]
    have R0_2 := hid (R0_1.out.below (Nat.le_refl _) hb)
    have R1_2 := hid (R1_1.out.below (Nat.le_refl _) hb)
    have R2_2 := hid (R2_1.out.below (Nat.le_refl _) hb)
    have yR0_2 := hid (yR0_1.out.below (Nat.le_refl _) hb)
    have yR1_2 := hid (yR1_1.out.below (Nat.le_refl _) hb)
    have yR2_2 := hid (yR2_1.out.below (Nat.le_refl _) hb)
    have HB_2 := hid (bel_next HB_1.out HB_1.out.size hb)
    have t0_2 := cell_below hb (Nat.lt_of_succ_lt z_1) t0_1
    have yt0_2 := cell_below hb z_1 yt0_1
    have t1_2 := cell_below hb (Nat.lt_of_succ_lt z_1) t1_1
    have yt1_2 := cell_below hb z_1 yt1_1
    have t2_2 := cell_below hb (Nat.lt_of_succ_lt z_1) t2_1
    have yt2_2 := cell_below hb z_1 yt2_1
    have z_2 := Nat.lt_of_lt_of_le z_1 hb.size
    clear hb R0_1 R1_1 R2_1 yR0_1 yR1_1 yR2_1 HB_1 t0_1 yt0_1 t1_1 yt1_1 t2_1 yt2_1 z_1
    go_wp2
    go_ret
    exact ⟨ret_bool (by rw [HF.out]; simp), HB_2.out⟩
  cases b2
  · skip
    go_enter Tryd.func14, Tryd.ntmps14
    go_wp2_with fail
    refine (u_eqTermS R0_0.out yR0_0.out).mono ?_
    rintro e w_1 ⟨rfl, hb⟩
    rw [HR0.out]
    have R0_1 := hid (R0_0.out.below (Nat.le_refl _) hb)
    have R1_1 := hid (R1_0.out.below (Nat.le_refl _) hb)
    have R2_1 := hid (R2_0.out.below (Nat.le_refl _) hb)
    have yR0_1 := hid (yR0_0.out.below (Nat.le_refl _) hb)
    have yR1_1 := hid (yR1_0.out.below (Nat.le_refl _) hb)
    have yR2_1 := hid (yR2_0.out.below (Nat.le_refl _) hb)
    have HB_1 := hid (bel_next HB_0.out HB_0.out.size hb)
    have t0_1 := cell_below hb (Nat.lt_of_succ_lt z_0) t0_0
    have yt0_1 := cell_below hb z_0 yt0_0
    have t1_1 := cell_below hb (Nat.lt_of_succ_lt z_0) t1_0
    have yt1_1 := cell_below hb z_0 yt1_0
    have t2_1 := cell_below hb (Nat.lt_of_succ_lt z_0) t2_0
    have yt2_1 := cell_below hb z_0 yt2_0
    have z_1 := Nat.lt_of_lt_of_le z_0 hb.size
    clear hb R0_0 R1_0 R2_0 yR0_0 yR1_0 yR2_0 HB_0 t0_0 yt0_0 t1_0 yt1_0 t2_0 yt2_0 z_0
    go_wp2_with fail
    refine (u_eqStmtS R1_1.out yR1_1.out).mono ?_
    rintro e w_2 ⟨rfl, hb⟩
    rw [HR1.out]
    have R0_2 := hid (R0_1.out.below (Nat.le_refl _) hb)
    have R1_2 := hid (R1_1.out.below (Nat.le_refl _) hb)
    have R2_2 := hid (R2_1.out.below (Nat.le_refl _) hb)
    have yR0_2 := hid (yR0_1.out.below (Nat.le_refl _) hb)
    have yR1_2 := hid (yR1_1.out.below (Nat.le_refl _) hb)
    have yR2_2 := hid (yR2_1.out.below (Nat.le_refl _) hb)
    have HB_2 := hid (bel_next HB_1.out HB_1.out.size hb)
    have t0_2 := cell_below hb (Nat.lt_of_succ_lt z_1) t0_1
    have yt0_2 := cell_below hb z_1 yt0_1
    have t1_2 := cell_below hb (Nat.lt_of_succ_lt z_1) t1_1
    have yt1_2 := cell_below hb z_1 yt1_1
    have t2_2 := cell_below hb (Nat.lt_of_succ_lt z_1) t2_1
    have yt2_2 := cell_below hb z_1 yt2_1
    have z_2 := Nat.lt_of_lt_of_le z_1 hb.size
    clear hb R0_1 R1_1 R2_1 yR0_1 yR1_1 yR2_1 HB_1 t0_1 yt0_1 t1_1 yt1_1 t2_1 yt2_1 z_1
    go_wp2_with fail
    refine (u_eqTermS R2_2.out yR2_2.out).mono ?_
    rintro e w_3 ⟨rfl, hb⟩
    rw [HR2.out]
    have R0_3 := hid (R0_2.out.below (Nat.le_refl _) hb)
    have R1_3 := hid (R1_2.out.below (Nat.le_refl _) hb)
    have R2_3 := hid (R2_2.out.below (Nat.le_refl _) hb)
    have yR0_3 := hid (yR0_2.out.below (Nat.le_refl _) hb)
    have yR1_3 := hid (yR1_2.out.below (Nat.le_refl _) hb)
    have yR2_3 := hid (yR2_2.out.below (Nat.le_refl _) hb)
    have HB_3 := hid (bel_next HB_2.out HB_2.out.size hb)
    have t0_3 := cell_below hb (Nat.lt_of_succ_lt z_2) t0_2
    have yt0_3 := cell_below hb z_2 yt0_2
    have t1_3 := cell_below hb (Nat.lt_of_succ_lt z_2) t1_2
    have yt1_3 := cell_below hb z_2 yt1_2
    have t2_3 := cell_below hb (Nat.lt_of_succ_lt z_2) t2_2
    have yt2_3 := cell_below hb z_2 yt2_2
    have z_3 := Nat.lt_of_lt_of_le z_2 hb.size
    clear hb R0_2 R1_2 R2_2 yR0_2 yR1_2 yR2_2 HB_2 t0_2 yt0_2 t1_2 yt1_2 t2_2 yt2_2 z_2
    go_wp2
    go_ret
    exact ⟨ret_bool (by rw [HF.out]; simp), HB_3.out⟩
  go_enter Tryd.func14, Tryd.ntmps14
  go_wp2_with fail
  refine (u_eqTermS R0_0.out yR0_0.out).mono ?_
  rintro e w_1 ⟨rfl, hb⟩
  rw [HR0.out]
  have R0_1 := hid (R0_0.out.below (Nat.le_refl _) hb)
  have R1_1 := hid (R1_0.out.below (Nat.le_refl _) hb)
  have R2_1 := hid (R2_0.out.below (Nat.le_refl _) hb)
  have yR0_1 := hid (yR0_0.out.below (Nat.le_refl _) hb)
  have yR1_1 := hid (yR1_0.out.below (Nat.le_refl _) hb)
  have yR2_1 := hid (yR2_0.out.below (Nat.le_refl _) hb)
  have HB_1 := hid (bel_next HB_0.out HB_0.out.size hb)
  have t0_1 := cell_below hb (Nat.lt_of_succ_lt z_0) t0_0
  have yt0_1 := cell_below hb z_0 yt0_0
  have t1_1 := cell_below hb (Nat.lt_of_succ_lt z_0) t1_0
  have yt1_1 := cell_below hb z_0 yt1_0
  have t2_1 := cell_below hb (Nat.lt_of_succ_lt z_0) t2_0
  have yt2_1 := cell_below hb z_0 yt2_0
  have z_1 := Nat.lt_of_lt_of_le z_0 hb.size
  clear hb R0_0 R1_0 R2_0 yR0_0 yR1_0 yR2_0 HB_0 t0_0 yt0_0 t1_0 yt1_0 t2_0 yt2_0 z_0
  go_wp2_with fail
  refine (u_eqStmtS R1_1.out yR1_1.out).mono ?_
  rintro e w_2 ⟨rfl, hb⟩
  rw [HR1.out]
  have R0_2 := hid (R0_1.out.below (Nat.le_refl _) hb)
  have R1_2 := hid (R1_1.out.below (Nat.le_refl _) hb)
  have R2_2 := hid (R2_1.out.below (Nat.le_refl _) hb)
  have yR0_2 := hid (yR0_1.out.below (Nat.le_refl _) hb)
  have yR1_2 := hid (yR1_1.out.below (Nat.le_refl _) hb)
  have yR2_2 := hid (yR2_1.out.below (Nat.le_refl _) hb)
  have HB_2 := hid (bel_next HB_1.out HB_1.out.size hb)
  have t0_2 := cell_below hb (Nat.lt_of_succ_lt z_1) t0_1
  have yt0_2 := cell_below hb z_1 yt0_1
  have t1_2 := cell_below hb (Nat.lt_of_succ_lt z_1) t1_1
  have yt1_2 := cell_below hb z_1 yt1_1
  have t2_2 := cell_below hb (Nat.lt_of_succ_lt z_1) t2_1
  have yt2_2 := cell_below hb z_1 yt2_1
  have z_2 := Nat.lt_of_lt_of_le z_1 hb.size
  clear hb R0_1 R1_1 R2_1 yR0_1 yR1_1 yR2_1 HB_1 t0_1 yt0_1 t1_1 yt1_1 t2_1 yt2_1 z_1
  go_wp2_with fail
  refine (u_eqTermS R2_2.out yR2_2.out).mono ?_
  rintro e w_3 ⟨rfl, hb⟩
  rw [HR2.out]
  have R0_3 := hid (R0_2.out.below (Nat.le_refl _) hb)
  have R1_3 := hid (R1_2.out.below (Nat.le_refl _) hb)
  have R2_3 := hid (R2_2.out.below (Nat.le_refl _) hb)
  have yR0_3 := hid (yR0_2.out.below (Nat.le_refl _) hb)
  have yR1_3 := hid (yR1_2.out.below (Nat.le_refl _) hb)
  have yR2_3 := hid (yR2_2.out.below (Nat.le_refl _) hb)
  have HB_3 := hid (bel_next HB_2.out HB_2.out.size hb)
  have t0_3 := cell_below hb (Nat.lt_of_succ_lt z_2) t0_2
  have yt0_3 := cell_below hb z_2 yt0_2
  have t1_3 := cell_below hb (Nat.lt_of_succ_lt z_2) t1_2
  have yt1_3 := cell_below hb z_2 yt1_2
  have t2_3 := cell_below hb (Nat.lt_of_succ_lt z_2) t2_2
  have yt2_3 := cell_below hb z_2 yt2_2
  have z_3 := Nat.lt_of_lt_of_le z_2 hb.size
  clear hb R0_2 R1_2 R2_2 yR0_2 yR1_2 yR2_2 HB_2 t0_2 yt0_2 t1_2 yt1_2 t2_2 yt2_2 z_2
  go_wp2
  go_ret
  exact ⟨ret_bool (by rw [HF.out]; simp), HB_3.out⟩
def RetProgram (x : Pg) (w : World) (e : Ending) (w' : World) : Prop :=
  ∃ a0 p0 a1 p1 a2 p2, e = .returned (.agg #[.slice a0 x.1.length p0, .slice a1 x.2.1.length p1, .slice a2 x.2.2.length p2]) ∧ SlRd cTerm (Fresh w.heap.size w') w' a0 p0 x.1 ∧ SlRd cStmt (Fresh w.heap.size w') w' a1 p1 x.2.1 ∧ SlRd cTerm (Fresh w.heap.size w') w' a2 p2 x.2.2 ∧ Below w.heap.size w w'
set_option maxRecDepth 100000 in
set_option maxHeartbeats 1000000 in
theorem u_toProgram {S : Nat → Prop} {a0 : Option Addr} {p0 : Nat} {d0 : List Term} {a1 : Option Addr} {p1 : Nat} {d1 : List Stmt} {a2 : Option Addr} {p2 : Nat} {d2 : List Term} {w : World} (h0 : SlRd cTerm S w a0 p0 d0) (h1 : SlRd cStmt S w a1 p1 d1) (h2 : SlRd cTerm S w a2 p2 d2) (hz : (szTs d0 + szStmts d1 + szTs d2) ≤ 1048576) :
    Calls Tryd.prog 12 #[.agg #[.slice a0 d0.length p0, .slice a1 d1.length p1, .slice a2 d2.length p2]] w (RetProgram (d0, d1, d2) w) := by
  have h0 := h0.keep (S' := fun b => S b ∧ b < w.heap.size) (w' := w) (fun b hb hlt => ⟨⟨hb, hlt⟩, rfl⟩)
  have R0_0 := hid (((h0.alloc (.cells #[.slice a0 d0.length p0, .slice a1 d1.length p1, .slice a2 d2.length p2] 40)).alloc (.cells #[.slice none 0 0, .slice none 0 0, .slice none 0 0] 45)).alloc (.cells #[.slice none 0 0, .slice none 0 0, .slice none 0 0] 45))
  have h1 := h1.keep (S' := fun b => S b ∧ b < w.heap.size) (w' := w) (fun b hb hlt => ⟨⟨hb, hlt⟩, rfl⟩)
  have R1_0 := hid (((h1.alloc (.cells #[.slice a0 d0.length p0, .slice a1 d1.length p1, .slice a2 d2.length p2] 40)).alloc (.cells #[.slice none 0 0, .slice none 0 0, .slice none 0 0] 45)).alloc (.cells #[.slice none 0 0, .slice none 0 0, .slice none 0 0] 45))
  have h2 := h2.keep (S' := fun b => S b ∧ b < w.heap.size) (w' := w) (fun b hb hlt => ⟨⟨hb, hlt⟩, rfl⟩)
  have R2_0 := hid (((h2.alloc (.cells #[.slice a0 d0.length p0, .slice a1 d1.length p1, .slice a2 d2.length p2] 40)).alloc (.cells #[.slice none 0 0, .slice none 0 0, .slice none 0 0] 45)).alloc (.cells #[.slice none 0 0, .slice none 0 0, .slice none 0 0] 45))
  have HB_0 : Hid (Below w.heap.size w (((w.alloc (.cells #[.slice a0 d0.length p0, .slice a1 d1.length p1, .slice a2 d2.length p2] 40)).alloc (.cells #[.slice none 0 0, .slice none 0 0, .slice none 0 0] 45)).alloc (.cells #[.slice none 0 0, .slice none 0 0, .slice none 0 0] 45))) := (((Below.refl _ _).alloc (Nat.le_refl _) _).alloc (by simp) _).alloc (by simp; omega) _
  have z_0 : w.heap.size + 1 + 1 < (((w.alloc (.cells #[.slice a0 d0.length p0, .slice a1 d1.length p1, .slice a2 d2.length p2] 40)).alloc (.cells #[.slice none 0 0, .slice none 0 0, .slice none 0 0] 45)).alloc (.cells #[.slice none 0 0, .slice none 0 0, .slice none 0 0] 45)).heap.size := by simp
  have KB_0 : Hid ((((w.alloc (.cells #[.slice a0 d0.length p0, .slice a1 d1.length p1, .slice a2 d2.length p2] 40)).alloc (.cells #[.slice none 0 0, .slice none 0 0, .slice none 0 0] 45)).alloc (.cells #[.slice none 0 0, .slice none 0 0, .slice none 0 0] 45)).heap[w.heap.size]? = some (.cells #[.slice a0 d0.length p0, .slice a1 d1.length p1, .slice a2 d2.length p2] 40 (0, 0))) := by unfold Hid; rw [Below.heap_alloc _ _ _ (by simp; omega), Below.heap_alloc _ _ _ (by simp)]; exact new_at rfl
  have KR_0 : Hid ((((w.alloc (.cells #[.slice a0 d0.length p0, .slice a1 d1.length p1, .slice a2 d2.length p2] 40)).alloc (.cells #[.slice none 0 0, .slice none 0 0, .slice none 0 0] 45)).alloc (.cells #[.slice none 0 0, .slice none 0 0, .slice none 0 0] 45)).heap[w.heap.size + 1]? = some (.cells #[.slice none 0 0, .slice none 0 0, .slice none 0 0] 45 (0, 0))) := by unfold Hid; rw [Below.heap_alloc _ _ _ (by simp)]; exact new_at (by simp)
  have KL_0 : Hid ((((w.alloc (.cells #[.slice a0 d0.length p0, .slice a1 d1.length p1, .slice a2 d2.length p2] 40)).alloc (.cells #[.slice none 0 0, .slice none 0 0, .slice none 0 0] 45)).alloc (.cells #[.slice none 0 0, .slice none 0 0, .slice none 0 0] 45)).heap[w.heap.size + 1 + 1]? = some (.cells #[.slice none 0 0, .slice none 0 0, .slice none 0 0] 45 (0, 0))) := new_at (by simp)
  clear h0 h1 h2
  go_enter Tryd.func12, Tryd.ntmps12
  go_wp2_with fail
  generalize (((w.alloc (.cells #[.slice a0 d0.length p0, .slice a1 d1.length p1, .slice a2 d2.length p2] 40)).alloc (.cells #[.slice none 0 0, .slice none 0 0, .slice none 0 0] 45)).alloc (.cells #[.slice none 0 0, .slice none 0 0, .slice none 0 0] 45)) = wc_0 at *
  refine (u_toTermS R0_0.out (by omega)).mono ?_
  rintro e w_1 ⟨na0, np0, rfl, hs0, hb⟩
  have R0_1 := hid (R0_0.out.below (Nat.le_refl _) hb)
  have R1_1 := hid (R1_0.out.below (Nat.le_refl _) hb)
  have R2_1 := hid (R2_0.out.below (Nat.le_refl _) hb)
  have N0_1 := hid (hs0.lower (B' := w.heap.size + 1 + 1 + 1) z_0)
  have HB_1 := hid (bel_next HB_0.out HB_0.out.size hb)
  have KB_1 := hid ((hb.block (w.heap.size) (by omega)).trans KB_0.out)
  have KR_1 := hid ((hb.block (w.heap.size + 1) (by omega)).trans KR_0.out)
  have KL_1 := hid ((hb.block (w.heap.size + 1 + 1) (by omega)).trans KL_0.out)
  have z_1 := Nat.lt_of_lt_of_le z_0 hb.size
  clear hb hs0 R0_0 R1_0 R2_0  HB_0 KB_0 KR_0 KL_0 z_0
  have tb0 := cell_of KB_1.out (j := 0) rfl
  have tl0 := cell_of KL_1.out (j := 0) rfl
  have fl0 := frz_of KL_1.out 0
  have tb1 := cell_of KB_1.out (j := 1) rfl
  have tl1 := cell_of KL_1.out (j := 1) rfl
  have fl1 := frz_of KL_1.out 1
  have tb2 := cell_of KB_1.out (j := 2) rfl
  have tl2 := cell_of KL_1.out (j := 2) rfl
  have fl2 := frz_of KL_1.out 2
  go_wp2_with fail
  clear tb0 tl0 fl0 tb1 tl1 fl1 tb2 tl2 fl2
  have R0_1 : Hid (SlRd cTerm (fun b => S b ∧ b < w.heap.size) (w_1.setCell ⟨w.heap.size + 1 + 1, 0, none⟩ (.slice na0 d0.length np0)) a0 p0 d0) := R0_1.out.set_ne (p := ⟨w.heap.size + 1 + 1, 0, none⟩) (fun b h => by have h2 := h.2; show b ≠ w.heap.size + 1 + 1; omega) _
  have R1_1 : Hid (SlRd cStmt (fun b => S b ∧ b < w.heap.size) (w_1.setCell ⟨w.heap.size + 1 + 1, 0, none⟩ (.slice na0 d0.length np0)) a1 p1 d1) := R1_1.out.set_ne (p := ⟨w.heap.size + 1 + 1, 0, none⟩) (fun b h => by have h2 := h.2; show b ≠ w.heap.size + 1 + 1; omega) _
  have R2_1 : Hid (SlRd cTerm (fun b => S b ∧ b < w.heap.size) (w_1.setCell ⟨w.heap.size + 1 + 1, 0, none⟩ (.slice na0 d0.length np0)) a2 p2 d2) := R2_1.out.set_ne (p := ⟨w.heap.size + 1 + 1, 0, none⟩) (fun b h => by have h2 := h.2; show b ≠ w.heap.size + 1 + 1; omega) _
  have N0_1 := hid (N0_1.out.setC (p := ⟨w.heap.size + 1 + 1, 0, none⟩) (by simp) (.slice na0 d0.length np0))
  have HB_1 := hid (HB_1.out.setCell (p := ⟨w.heap.size + 1 + 1, 0, none⟩) (by simp; omega) (.slice na0 d0.length np0))
  have KB_1 := hid (blk_ne (b := w.heap.size) (p := ⟨w.heap.size + 1 + 1, 0, none⟩) (by simp; omega) KB_1.out (.slice na0 d0.length np0))
  have KR_1 := hid (blk_ne (b := w.heap.size + 1) (p := ⟨w.heap.size + 1 + 1, 0, none⟩) (by simp) KR_1.out (.slice na0 d0.length np0))
  have KL_1 : Hid ((w_1.setCell ⟨w.heap.size + 1 + 1, 0, none⟩ (.slice na0 d0.length np0)).heap[w.heap.size + 1 + 1]? = some (.cells #[.slice na0 d0.length np0, .slice none 0 0, .slice none 0 0] 45 (0, 0))) := blk_set KL_1.out 0 (.slice na0 d0.length np0)
  have z_1 : w.heap.size + 1 + 1 < (w_1.setCell ⟨w.heap.size + 1 + 1, 0, none⟩ (.slice na0 d0.length np0)).heap.size := by rw [size_set]; exact z_1
  generalize (w_1.setCell ⟨w.heap.size + 1 + 1, 0, none⟩ (.slice na0 d0.length np0)) = wc_1 at *
  refine (u_toStmtS R1_1.out (by omega)).mono ?_
  rintro e w_2 ⟨na1, np1, rfl, hs1, hb⟩
  have R0_2 := hid (R0_1.out.below (Nat.le_refl _) hb)
  have R1_2 := hid (R1_1.out.below (Nat.le_refl _) hb)
  have R2_2 := hid (R2_1.out.below (Nat.le_refl _) hb)
  have N0_2 := hid (N0_1.out.fresh (Nat.le_refl _) (Nat.le_refl _) hb)
  have N1_2 := hid (hs1.lower (B' := w.heap.size + 1 + 1 + 1) z_1)
  have HB_2 := hid (bel_next HB_1.out HB_1.out.size hb)
  have KB_2 := hid ((hb.block (w.heap.size) (by omega)).trans KB_1.out)
  have KR_2 := hid ((hb.block (w.heap.size + 1) (by omega)).trans KR_1.out)
  have KL_2 := hid ((hb.block (w.heap.size + 1 + 1) (by omega)).trans KL_1.out)
  have z_2 := Nat.lt_of_lt_of_le z_1 hb.size
  clear hb hs1 R0_1 R1_1 R2_1 N0_1 HB_1 KB_1 KR_1 KL_1 z_1
  have tb0 := cell_of KB_2.out (j := 0) rfl
  have tl0 := cell_of KL_2.out (j := 0) rfl
  have fl0 := frz_of KL_2.out 0
  have tb1 := cell_of KB_2.out (j := 1) rfl
  have tl1 := cell_of KL_2.out (j := 1) rfl
  have fl1 := frz_of KL_2.out 1
  have tb2 := cell_of KB_2.out (j := 2) rfl
  have tl2 := cell_of KL_2.out (j := 2) rfl
  have fl2 := frz_of KL_2.out 2
  go_wp2_with fail
  clear tb0 tl0 fl0 tb1 tl1 fl1 tb2 tl2 fl2
  have R0_2 : Hid (SlRd cTerm (fun b => S b ∧ b < w.heap.size) (w_2.setCell ⟨w.heap.size + 1 + 1, 1, none⟩ (.slice na1 d1.length np1)) a0 p0 d0) := R0_2.out.set_ne (p := ⟨w.heap.size + 1 + 1, 1, none⟩) (fun b h => by have h2 := h.2; show b ≠ w.heap.size + 1 + 1; omega) _
  have R1_2 : Hid (SlRd cStmt (fun b => S b ∧ b < w.heap.size) (w_2.setCell ⟨w.heap.size + 1 + 1, 1, none⟩ (.slice na1 d1.length np1)) a1 p1 d1) := R1_2.out.set_ne (p := ⟨w.heap.size + 1 + 1, 1, none⟩) (fun b h => by have h2 := h.2; show b ≠ w.heap.size + 1 + 1; omega) _
  have R2_2 : Hid (SlRd cTerm (fun b => S b ∧ b < w.heap.size) (w_2.setCell ⟨w.heap.size + 1 + 1, 1, none⟩ (.slice na1 d1.length np1)) a2 p2 d2) := R2_2.out.set_ne (p := ⟨w.heap.size + 1 + 1, 1, none⟩) (fun b h => by have h2 := h.2; show b ≠ w.heap.size + 1 + 1; omega) _
  have N0_2 := hid (N0_2.out.setC (p := ⟨w.heap.size + 1 + 1, 1, none⟩) (by simp) (.slice na1 d1.length np1))
  have N1_2 := hid (N1_2.out.setC (p := ⟨w.heap.size + 1 + 1, 1, none⟩) (by simp) (.slice na1 d1.length np1))
  have HB_2 := hid (HB_2.out.setCell (p := ⟨w.heap.size + 1 + 1, 1, none⟩) (by simp; omega) (.slice na1 d1.length np1))
  have KB_2 := hid (blk_ne (b := w.heap.size) (p := ⟨w.heap.size + 1 + 1, 1, none⟩) (by simp; omega) KB_2.out (.slice na1 d1.length np1))
  have KR_2 := hid (blk_ne (b := w.heap.size + 1) (p := ⟨w.heap.size + 1 + 1, 1, none⟩) (by simp) KR_2.out (.slice na1 d1.length np1))
  have KL_2 : Hid ((w_2.setCell ⟨w.heap.size + 1 + 1, 1, none⟩ (.slice na1 d1.length np1)).heap[w.heap.size + 1 + 1]? = some (.cells #[.slice na0 d0.length np0, .slice na1 d1.length np1, .slice none 0 0] 45 (0, 0))) := blk_set KL_2.out 1 (.slice na1 d1.length np1)
  have z_2 : w.heap.size + 1 + 1 < (w_2.setCell ⟨w.heap.size + 1 + 1, 1, none⟩ (.slice na1 d1.length np1)).heap.size := by rw [size_set]; exact z_2
  generalize (w_2.setCell ⟨w.heap.size + 1 + 1, 1, none⟩ (.slice na1 d1.length np1)) = wc_2 at *
  refine (u_toTermS R2_2.out (by omega)).mono ?_
  rintro e w_3 ⟨na2, np2, rfl, hs2, hb⟩
  have R0_3 := hid (R0_2.out.below (Nat.le_refl _) hb)
  have R1_3 := hid (R1_2.out.below (Nat.le_refl _) hb)
  have R2_3 := hid (R2_2.out.below (Nat.le_refl _) hb)
  have N0_3 := hid (N0_2.out.fresh (Nat.le_refl _) (Nat.le_refl _) hb)
  have N1_3 := hid (N1_2.out.fresh (Nat.le_refl _) (Nat.le_refl _) hb)
  have N2_3 := hid (hs2.lower (B' := w.heap.size + 1 + 1 + 1) z_2)
  have HB_3 := hid (bel_next HB_2.out HB_2.out.size hb)
  have KB_3 := hid ((hb.block (w.heap.size) (by omega)).trans KB_2.out)
  have KR_3 := hid ((hb.block (w.heap.size + 1) (by omega)).trans KR_2.out)
  have KL_3 := hid ((hb.block (w.heap.size + 1 + 1) (by omega)).trans KL_2.out)
  have z_3 := Nat.lt_of_lt_of_le z_2 hb.size
  clear hb hs2 R0_2 R1_2 R2_2 N0_2 N1_2 HB_2 KB_2 KR_2 KL_2 z_2
  have tb0 := cell_of KB_3.out (j := 0) rfl
  have tl0 := cell_of KL_3.out (j := 0) rfl
  have fl0 := frz_of KL_3.out 0
  have tr0 := cell_of KR_3.out (j := 0) rfl
  have fr0 := frz_of KR_3.out 0
  have tb1 := cell_of KB_3.out (j := 1) rfl
  have tl1 := cell_of KL_3.out (j := 1) rfl
  have fl1 := frz_of KL_3.out 1
  have tr1 := cell_of KR_3.out (j := 1) rfl
  have fr1 := frz_of KR_3.out 1
  have tb2 := cell_of KB_3.out (j := 2) rfl
  have tl2 := cell_of KL_3.out (j := 2) rfl
  have fl2 := frz_of KL_3.out 2
  have tr2 := cell_of KR_3.out (j := 2) rfl
  have fr2 := frz_of KR_3.out 2
  go_wp2
  refine bodyPost_ret (v := .agg #[.slice na0 d0.length np0, .slice na1 d1.length np1, .slice na2 d2.length np2]) (by simp [results, Tryd.results12, go_sem, tr0, tr1, tr2]) rfl ⟨na0, np0, na1, np1, na2, np2, rfl, ?_, ?_, ?_, ?_⟩
  · exact ((((N0_3.out.setC (by simp) _).setC (by simp) _).setC (by simp) _).setC (by simp) _).lower (by omega)
  · exact ((((N1_3.out.setC (by simp) _).setC (by simp) _).setC (by simp) _).setC (by simp) _).lower (by omega)
  · exact ((((N2_3.out.setC (by simp) _).setC (by simp) _).setC (by simp) _).setC (by simp) _).lower (by omega)
  · exact ((((HB_3.out.setCell (by simp <;> omega) _).setCell (by simp <;> omega) _).setCell (by simp <;> omega) _).setCell (by simp <;> omega) _)
end Go.Proofs.YtcmopmapdomneaaDoor
end

section
namespace Go.Proofs.YtcmopmapdomneaaDoor
open Go.RowKit

def bodyF (ps : List Stmt) : Bool := decide (ps.length ≤ 30) && treeB (stN ps) ps.length
def endAt (ps : List Stmt) (k : Nat) : Nat := endE (stN ps) ps.length k
def endOfF (ps : List Stmt) (k : Int) : Int × Bool := if bodyF ps && inB k 0 ((ps.length : Int) - 1) then ((endAt ps k.toNat : Nat), true) else (0, false)
def progF (p : Pg) : Bool := (bodyF p.2.1 && areOverF p.1 6) && areOverF p.2.2 6
theorem body_beh {ps : List Stmt} (h : ps.length ≤ 30) : bodyF ps = ((behR (stN ps) ps.length 0).2.2 && (((behR (stN ps) ps.length 0).1 : Int) == (ps.length : Int))) := by
  unfold bodyF treeB behR
  rw [decide_eq_true h, Bool.true_and]
  cases walkT (stN ps) ps.length 1 0 with
  | none => rfl
  | some e => simp only [Option.some.injEq, Bool.true_and]; rw [Bool.eq_iff_iff]; simp <;> omega
theorem body_walk {ps : List Stmt} (h : bodyF ps = true) : ps.length ≤ 30 ∧ walkT (stN ps) ps.length 1 0 = some ps.length := by
  unfold bodyF treeB at h
  simp only [Bool.and_eq_true, decide_eq_true_eq] at h
  exact h
def RetPB (b : Bool) (w : World) (e : Ending) (w' : World) : Prop := ∃ q : Option Addr, e = .returned (.tuple #[.pointer q, .bool b]) ∧ Below w.heap.size w w'
theorem c_treeOf {S : Nat → Prop} {a : Option Addr} {p : Nat} {ps : List Stmt} {w : World} (h : SlRd cStmt S w a p ps) :
    Calls Tryd.prog 64 #[.slice a ps.length p] w (RetPB (bodyF ps) w) := by
  have hl := h.len_le
  by_cases h60 : ps.length ≤ 30
  · have HC := hid (c_treeAt h60 ps.length 0 w (by omega) h)
    have e1 : decide ((30 : Int) < (ps.length : Int)) = false := decide_eq_false (by omega)
    have e1n : decide (30 < ps.length) = false := decide_eq_false (by omega)
    have HF := hid (body_beh h60)
    obtain ⟨⟨e, d, ok⟩, hr⟩ : ∃ r, behR (stN ps) ps.length 0 = r := ⟨_, rfl⟩
    have HR := hid hr
    have HF2 : Hid (bodyF ps = (ok && ((e : Int) == (ps.length : Int)))) := by unfold Hid; rw [HF.out, hr]
    clear h hr HF
    cases ok
    all_goals
      go_enter Tryd.func64, Tryd.ntmps64
      go_wp2_with (go_at_call 98; refine HC.out.mono ?_; rw [HR.out]; rintro e w1 ⟨q, rfl, hb1⟩; have HB1 := hid hb1; clear hb1)
      go_ret2
      exact ⟨q, by rw [HF2.out]; rfl, HB1.out⟩
  · have e1 : decide ((30 : Int) < (ps.length : Int)) = true := decide_eq_true (by omega)
    have e1n : decide (30 < ps.length) = true := decide_eq_true (by omega)
    have HF : Hid (bodyF ps = false) := by unfold Hid bodyF; simp [h60]
    clear h
    go_enter Tryd.func64, Tryd.ntmps64
    go_wp2
    go_ret2
    exact ⟨none, by rw [HF.out]; rfl, Below.refl _ _⟩
theorem c_IsBody {S : Nat → Prop} {a : Option Addr} {p : Nat} {ps : List Stmt} {w : World} (h : SlRd cStmt S w a p ps) :
    Calls Tryd.prog 63 #[.slice a ps.length p] w fun e w' => e = .returned (.bool (bodyF ps)) ∧ Below w.heap.size w w' := by
  have H := hid h
  clear h
  go_enter Tryd.func63, Tryd.ntmps63
  go_wp2_with (go_at_call 64; refine (c_treeOf H.out).mono ?_; rintro e w1 ⟨q, rfl, hb1⟩; have HB1 := hid hb1; clear hb1)
  go_ret
  exact ⟨rfl, HB1.out⟩
set_option maxRecDepth 100000 in
theorem c_ValidProgram {S : Nat → Prop} {a0 : Option Addr} {p0 : Nat} {d0 : List Term} {a1 : Option Addr} {p1 : Nat} {d1 : List Stmt} {a2 : Option Addr} {p2 : Nat} {d2 : List Term} {w : World} (h0 : SlRd cTerm S w a0 p0 d0) (h1 : SlRd cStmt S w a1 p1 d1) (h2 : SlRd cTerm S w a2 p2 d2) :
    Calls Tryd.prog 32 #[.agg #[.slice a0 d0.length p0, .slice a1 d1.length p1, .slice a2 d2.length p2]] w fun e w' => e = .returned (.bool (progF (d0, d1, d2))) ∧ Below w.heap.size w w' := by
  have H0 := hid (h0.alloc (.cells #[.slice a0 d0.length p0, .slice a1 d1.length p1, .slice a2 d2.length p2] 45))
  have H1 := hid (h1.alloc (.cells #[.slice a0 d0.length p0, .slice a1 d1.length p1, .slice a2 d2.length p2] 45))
  have H2 := hid (h2.alloc (.cells #[.slice a0 d0.length p0, .slice a1 d1.length p1, .slice a2 d2.length p2] 45))
  have HB : Hid (Below w.heap.size w (w.alloc (.cells #[.slice a0 d0.length p0, .slice a1 d1.length p1, .slice a2 d2.length p2] 45))) := (Below.refl _ _).alloc (Nat.le_refl _) _
  have t0 : (w.alloc (.cells #[.slice a0 d0.length p0, .slice a1 d1.length p1, .slice a2 d2.length p2] 45)).cell? ⟨w.heap.size, 0, none⟩ = some (.slice a0 d0.length p0) := by rw [World.cell?_alloc_at _ _ _ _ rfl]; rfl
  have t1 : (w.alloc (.cells #[.slice a0 d0.length p0, .slice a1 d1.length p1, .slice a2 d2.length p2] 45)).cell? ⟨w.heap.size, 1, none⟩ = some (.slice a1 d1.length p1) := by rw [World.cell?_alloc_at _ _ _ _ rfl]; rfl
  have t2 : (w.alloc (.cells #[.slice a0 d0.length p0, .slice a1 d1.length p1, .slice a2 d2.length p2] 45)).cell? ⟨w.heap.size, 2, none⟩ = some (.slice a2 d2.length p2) := by rw [World.cell?_alloc_at _ _ _ _ rfl]; rfl
  have z0 : w.heap.size < (w.alloc (.cells #[.slice a0 d0.length p0, .slice a1 d1.length p1, .slice a2 d2.length p2] 45)).heap.size := by simp
  clear h0 h1 h2
  obtain ⟨r, hr⟩ : ∃ r, bodyF d1 = r := ⟨_, rfl⟩
  obtain ⟨q, hq⟩ : ∃ q, areOverF d0 6 = q := ⟨_, rfl⟩
  obtain ⟨u, hu⟩ : ∃ u, areOverF d2 6 = u := ⟨_, rfl⟩
  have HF : Hid (progF (d0, d1, d2) = ((r && q) && u)) := by unfold Hid progF; rw [hr, hq, hu]
  have HR := hid hr
  have HQ := hid hq
  have HU := hid hu
  clear hr hq hu
  cases r
  all_goals
    go_enter Tryd.func32, Tryd.ntmps32
    go_wp2_with fail
    generalize w.alloc (.cells #[.slice a0 d0.length p0, .slice a1 d1.length p1, .slice a2 d2.length p2] 45) = W0 at *
    refine (c_IsBody H1.out).mono ?_
    rintro e w1 ⟨rfl, hb1⟩
    rw [HR.out]
    have s0 := cell_below hb1 z0 t0
    have s2 := cell_below hb1 z0 t2
    have z1 := Nat.lt_of_lt_of_le z0 hb1.size
    have HB1 := hid (bel_next HB.out HB.out.size hb1)
    have H01 := hid (H0.out.below (Nat.le_refl _) hb1)
    have H21 := hid (H2.out.below (Nat.le_refl _) hb1)
    clear hb1
  · go_wp2
    go_ret
    exact ⟨ret_bool (by rw [HF.out]; rfl), HB1.out⟩
  · cases q
    all_goals
      go_wp2_with fail
      refine (c_areOver _ _ _ _ _ H01.out).mono ?_
      rintro e w2 ⟨rfl, hb2⟩
      rw [HQ.out]
      have s02 := cell_below hb2 z1 s2
      have HB2 := hid (bel_next HB1.out HB1.out.size hb2)
      have H22 := hid (H21.out.below (Nat.le_refl _) hb2)
      clear hb2
    · go_wp2
      go_ret
      exact ⟨ret_bool (by rw [HF.out]; rfl), HB2.out⟩
    · go_wp2_with fail
      refine (c_areOver _ _ _ _ _ H22.out).mono ?_
      rintro e w3 ⟨rfl, hb3⟩
      rw [HU.out]
      have HB3 := hid (bel_next HB2.out HB2.out.size hb3)
      clear hb3
      go_wp2
      go_ret
      exact ⟨ret_bool (by rw [HF.out]; rfl), HB3.out⟩
end Go.Proofs.YtcmopmapdomneaaDoor
end

section
namespace Go.Proofs.YtcmopmapdomneaaDoor
open Go.RowKit

theorem c_l05Zero (b o : Nat) (c : Int) (a : Option Addr) (cap n : Nat) (w : World) (hc : w.cell? ⟨b, o, none⟩ = some (.int .i64 c)) (hc' : w.cell? ⟨b, o + 1, none⟩ = some (.slice a n cap)) :
    Calls Tryd.prog 111 #[.pointer (some ⟨b, o, none⟩)] w fun e w' => e = .returned (.bool ((c == 0) && ((n : Int) == 0))) ∧ w = w' := by
  by_cases h : c = 0
  · have h' : (c == 0) = true := by simp [h]
    have HF : Hid (((c == 0) && ((n : Int) == 0)) = ((n : Int) == 0)) := by unfold Hid; rw [h']; rfl
    clear h
    go_enter Tryd.func111, Tryd.ntmps111
    go_wp2
    go_ret
    exact ⟨ret_bool HF.out.symm, rfl⟩
  · have h' : (c == 0) = false := by simp [h]
    have HF : Hid (((c == 0) && ((n : Int) == 0)) = false) := by unfold Hid; rw [h']; rfl
    clear h
    go_enter Tryd.func111, Tryd.ntmps111
    go_wp2
    go_ret
    exact ⟨ret_bool HF.out.symm, rfl⟩
def beN (ps : List Nd) (i : Nat) : Nat := match ps[i]? with
  | some d => nodeBe d
  | none => 0
theorem beN_at {ps : List Nd} {k : Nat} {d : Nd} (h : ps[k]? = some d) : beN ps k = nodeBe d := by unfold beN; rw [h]
def endF (ps : List Nd) (k : Nat) : Option Nat := walkT (fun i => some (beN ps i)) ps.length 1 k
def endI : Option Nat → Int
  | some e => e
  | none => -1
theorem arN_be {ps : List Nd} (i a : Nat) (h : arN ps i = some a) : a = beN ps i := by
  unfold arN at h
  cases hd : ps[i]? with
  | none => rw [hd] at h; cases h
  | some d =>
    rw [hd] at h
    rw [beN_at hd]
    simp only [nodeAr] at h
    split at h
    · cases h; rfl
    · cases h
theorem all_arN (ps : List Nd) : (List.range ps.length).all (fun i => (arN ps i).isSome) = ps.all nodeOk := by
  have h1 : ∀ i (d : Nd), ps[i]? = some d → (arN ps i).isSome = nodeOk d := by
    intro i d h
    rw [arN_at h]; unfold nodeAr; split <;> simp_all
  rw [Bool.eq_iff_iff, List.all_eq_true, List.all_eq_true]
  constructor
  · intro h d hd
    obtain ⟨i, hi, hd⟩ := List.getElem_of_mem hd
    have := h i (List.mem_range.2 hi)
    rw [h1 i d (by rw [List.getElem?_eq_getElem hi, hd])] at this
    exact this
  · intro h i hi
    have hi := List.mem_range.1 hi
    rw [h1 i ps[i] (List.getElem?_eq_getElem hi)]
    exact h _ (List.getElem_mem hi)
theorem isProof_split (ps : List Nd) : isProofF ps = ((inB (ps.length : Int) 1 60 && ps.all nodeOk) && (endI (endF ps 0) == (ps.length : Int))) := by
  unfold isProofF
  rw [tree_split (arN ps) (beN ps) ps.length arN_be, all_arN]
  have h2 : treeB (fun i => some (beN ps i)) ps.length = (decide (1 ≤ ps.length) && (endI (endF ps 0) == (ps.length : Int))) := by
    rw [Bool.eq_iff_iff]
    constructor
    · intro h
      have h1 := treeB_pos h
      unfold treeB at h
      rw [decide_eq_true_eq] at h
      unfold endF
      rw [h]
      simp [endI]; exact h1
    · intro h
      simp only [Bool.and_eq_true, decide_eq_true_eq, beq_iff_eq] at h
      unfold treeB
      rw [decide_eq_true_eq]
      obtain ⟨h1, h2⟩ := h
      unfold endF endI at h2
      cases hw : walkT (fun i => some (beN ps i)) ps.length 1 0 with
      | none => rw [hw] at h2; exfalso; simp only at h2; omega
      | some e => rw [hw] at h2; simp only at h2; congr 1; omega
  rw [h2]
  have h3 : inB (ps.length : Int) 1 60 = (decide (1 ≤ ps.length) && decide (ps.length ≤ 60)) := by
    rw [Bool.eq_iff_iff, inB_iff]; simp; omega
  rw [h3]
  cases decide (ps.length ≤ 60) <;> cases decide (1 ≤ ps.length) <;> cases ps.all nodeOk <;> simp
end Go.Proofs.YtcmopmapdomneaaDoor
end

section
namespace Go.Proofs.YtcmopmapdomneaaDoor
open Go.RowKit
theorem zero_over {c : Int} {zs : List Int} (h : (c == 0 && ((zs.length : Int) == 0)) = true) : overT (c, zs) = true := by
  simp only [Bool.and_eq_true, beq_iff_eq] at h
  obtain ⟨rfl, h2⟩ := h
  obtain rfl : zs = [] := List.eq_nil_of_length_eq_zero (by omega)
  rfl
set_option maxHeartbeats 2000000 in
set_option maxRecDepth 100000 in
theorem c_stmt0 {S : Nat → Prop} {b o : Nat} {d1 d2 d3 : Int} {a4 : Option Addr} {p4 : Nat} {d4 : List Int} {d5 : Int} {a6 : Option Addr} {p6 : Nat} {d6 : List Int} {a7 : Option Addr} {p7 : Nat} {d7 : List Term} {w : World} (h4 : SlRd cInt S w a4 p4 d4) (h6 : SlRd cInt S w a6 p6 d6) (h7 : SlRd cTerm S w a7 p7 d7)
    (t0 : w.cell? ⟨b, o, none⟩ = some (.int .i64 (0 : Int)))
    (t1 : w.cell? ⟨b, o + 1, none⟩ = some (.int .i64 d1))
    (t2 : w.cell? ⟨b, o + 2, none⟩ = some (.int .i64 d2))
    (t3 : w.cell? ⟨b, o + 3, none⟩ = some (.int .i64 d3))
    (t4 : w.cell? ⟨b, o + 4, none⟩ = some (.slice a4 d4.length p4))
    (t5 : w.cell? ⟨b, o + 5, none⟩ = some (.int .i64 d5))
    (t6 : w.cell? ⟨b, o + 6, none⟩ = some (.slice a6 d6.length p6))
    (t7 : w.cell? ⟨b, o + 7, none⟩ = some (.slice a7 d7.length p7)) :
    Calls Tryd.prog 94 #[.pointer (some ⟨b, o, none⟩)] w fun e w' => e = .returned (.bool (stmtOk (0, d1, d2, (d3, d4), (d5, d6), d7))) ∧ w = w' := by
  have hl7 := h7.len_le
  have HS := hid (c_l03Term b (o + 3) d3 a4 p4 d4 w t3 t4 h4)
  have HX := hid (c_l03Term b (o + 5) d5 a6 p6 d6 w t5 t6 h6)
  have HT := hid (c_l03Terms a7 p7 d7 6 w h7)
  have HZ := hid (c_l05Zero b (o + 3) d3 a4 p4 d4.length w t3 t4)
  have HY := hid (c_l05Zero b (o + 5) d5 a6 p6 d6.length w t5 t6)
  clear h4 h6 h7
  have HF0 : Hid (stmtOk (0, d1, d2, (d3, d4), (d5, d6), d7) = (((((d1 == 0) && (d2 == 0)) && (d3 == 0 && ((d4.length : Int) == 0))) && (d5 == 0 && ((d6.length : Int) == 0))) && ((d7.length : Int) == 0))) := rfl
  have HK : Hid (inB 0 0 8 = true) := rfl
  have hZs := @zero_over d3 d4
  have hXs := @zero_over d5 d6
  have hFf : ((d7.length : Int) == 0) = true → areOverF d7 6 = true := by intro h; obtain rfl : d7 = [] := List.eq_nil_of_length_eq_zero (by rw [beq_iff_eq] at h; omega); rfl
  obtain ⟨s, hs⟩ : ∃ s, overT (d3, d4) = s := ⟨_, rfl⟩
  obtain ⟨x, hx⟩ : ∃ x, overT (d5, d6) = x := ⟨_, rfl⟩
  obtain ⟨f, hf⟩ : ∃ f, areOverF d7 6 = f := ⟨_, rfl⟩
  obtain ⟨Z, hZ⟩ : ∃ Z, (d3 == 0 && ((d4.length : Int) == 0)) = Z := ⟨_, rfl⟩
  obtain ⟨X, hX⟩ : ∃ X, (d5 == 0 && ((d6.length : Int) == 0)) = X := ⟨_, rfl⟩
  obtain ⟨F, hF⟩ : ∃ F, ((d7.length : Int) == 0) = F := ⟨_, rfl⟩
  have Hs := hid hs
  have Hx := hid hx
  have Hf := hid hf
  have HZv := hid hZ
  have HXv := hid hX
  rw [hs, hZ] at hZs
  rw [hx, hX] at hXs
  rw [hf, hF] at hFf
  rw [hZ, hX, hF] at HF0
  have hlen : (F = true ∧ decide ((0 : Int) < (d7.length : Int)) = false ∧ decide (0 < d7.length) = false) ∨ (F = false ∧ decide ((0 : Int) < (d7.length : Int)) = true ∧ decide (0 < d7.length) = true) := by
    rcases Nat.eq_zero_or_pos d7.length with h | h
    · exact .inl ⟨by rw [← hF, beq_iff_eq]; omega, decide_eq_false (by omega), decide_eq_false (by omega)⟩
    · exact .inr ⟨by rw [← hF, beq_eq_false_iff_ne]; omega, decide_eq_true (by omega), decide_eq_true (by omega)⟩
  clear hs hx hf hZ hX hF
  have HI := hid (And.intro hZs (And.intro hXs hFf))
  clear hZs hXs hFf
  rcases hlen with ⟨hF, g1, g2⟩ | ⟨hF, g1, g2⟩
  all_goals
    by_cases hV : d1 = 0
    all_goals
      have gV1 : (d1 == 0) = decide (d1 = 0) := by rw [Bool.eq_iff_iff]; simp
      have gV2 : (d1 != 0) = !decide (d1 = 0) := by rw [← gV1]; rfl
      simp only [hV, decide_true, decide_false, Bool.not_true, Bool.not_false] at gV1 gV2
      go_enter Tryd.func94, Tryd.ntmps94
      go_wp2_with (first | (go_at_call 39; refine (c_l00In _ _ _ _).mono ?_; rintro e' w' ⟨rfl, rfl⟩; first | rw [HK.out]) | (have hkk := mk1; clear hkk; go_at_call 93; refine HX.out.mono ?_; rintro e' w' ⟨rfl, rfl⟩; rw [Hx.out]) | (go_at_call 93; refine HS.out.mono ?_; rintro e' w' ⟨rfl, rfl⟩; rw [Hs.out]; have mk1 := HK) | (go_at_call 58; refine HT.out.mono ?_; rintro e' w' ⟨rfl, rfl⟩; rw [Hf.out]) | (have hkk := mk2; clear hkk; go_at_call 111; refine HY.out.mono ?_; rintro e' w' ⟨rfl, rfl⟩; rw [HXv.out]) | (go_at_call 111; refine HZ.out.mono ?_; rintro e' w' ⟨rfl, rfl⟩; rw [HZv.out]; have mk2 := HK))
      all_goals
        go_ret
        refine ⟨ret_bool ?_, rfl⟩
        rw [HF0.out]
        obtain ⟨hZs, hXs, hFf⟩ := HI.out
        simp_all
set_option maxHeartbeats 2000000 in
set_option maxRecDepth 100000 in
theorem c_stmt1 {S : Nat → Prop} {b o : Nat} {d1 d2 d3 : Int} {a4 : Option Addr} {p4 : Nat} {d4 : List Int} {d5 : Int} {a6 : Option Addr} {p6 : Nat} {d6 : List Int} {a7 : Option Addr} {p7 : Nat} {d7 : List Term} {w : World} (h4 : SlRd cInt S w a4 p4 d4) (h6 : SlRd cInt S w a6 p6 d6) (h7 : SlRd cTerm S w a7 p7 d7)
    (t0 : w.cell? ⟨b, o, none⟩ = some (.int .i64 (1 : Int)))
    (t1 : w.cell? ⟨b, o + 1, none⟩ = some (.int .i64 d1))
    (t2 : w.cell? ⟨b, o + 2, none⟩ = some (.int .i64 d2))
    (t3 : w.cell? ⟨b, o + 3, none⟩ = some (.int .i64 d3))
    (t4 : w.cell? ⟨b, o + 4, none⟩ = some (.slice a4 d4.length p4))
    (t5 : w.cell? ⟨b, o + 5, none⟩ = some (.int .i64 d5))
    (t6 : w.cell? ⟨b, o + 6, none⟩ = some (.slice a6 d6.length p6))
    (t7 : w.cell? ⟨b, o + 7, none⟩ = some (.slice a7 d7.length p7)) :
    Calls Tryd.prog 94 #[.pointer (some ⟨b, o, none⟩)] w fun e w' => e = .returned (.bool (stmtOk (1, d1, d2, (d3, d4), (d5, d6), d7))) ∧ w = w' := by
  have hl7 := h7.len_le
  have HS := hid (c_l03Term b (o + 3) d3 a4 p4 d4 w t3 t4 h4)
  have HX := hid (c_l03Term b (o + 5) d5 a6 p6 d6 w t5 t6 h6)
  have HT := hid (c_l03Terms a7 p7 d7 6 w h7)
  have HZ := hid (c_l05Zero b (o + 3) d3 a4 p4 d4.length w t3 t4)
  have HY := hid (c_l05Zero b (o + 5) d5 a6 p6 d6.length w t5 t6)
  clear h4 h6 h7
  have HF0 : Hid (stmtOk (1, d1, d2, (d3, d4), (d5, d6), d7) = (((((d1 == 0) && (d2 == 0)) && (d3 == 0 && ((d4.length : Int) == 0))) && (d5 == 0 && ((d6.length : Int) == 0))) && ((d7.length : Int) == 0))) := rfl
  have HK : Hid (inB 1 0 8 = true) := rfl
  have hZs := @zero_over d3 d4
  have hXs := @zero_over d5 d6
  have hFf : ((d7.length : Int) == 0) = true → areOverF d7 6 = true := by intro h; obtain rfl : d7 = [] := List.eq_nil_of_length_eq_zero (by rw [beq_iff_eq] at h; omega); rfl
  obtain ⟨s, hs⟩ : ∃ s, overT (d3, d4) = s := ⟨_, rfl⟩
  obtain ⟨x, hx⟩ : ∃ x, overT (d5, d6) = x := ⟨_, rfl⟩
  obtain ⟨f, hf⟩ : ∃ f, areOverF d7 6 = f := ⟨_, rfl⟩
  obtain ⟨Z, hZ⟩ : ∃ Z, (d3 == 0 && ((d4.length : Int) == 0)) = Z := ⟨_, rfl⟩
  obtain ⟨X, hX⟩ : ∃ X, (d5 == 0 && ((d6.length : Int) == 0)) = X := ⟨_, rfl⟩
  obtain ⟨F, hF⟩ : ∃ F, ((d7.length : Int) == 0) = F := ⟨_, rfl⟩
  have Hs := hid hs
  have Hx := hid hx
  have Hf := hid hf
  have HZv := hid hZ
  have HXv := hid hX
  rw [hs, hZ] at hZs
  rw [hx, hX] at hXs
  rw [hf, hF] at hFf
  rw [hZ, hX, hF] at HF0
  have hlen : (F = true ∧ decide ((0 : Int) < (d7.length : Int)) = false ∧ decide (0 < d7.length) = false) ∨ (F = false ∧ decide ((0 : Int) < (d7.length : Int)) = true ∧ decide (0 < d7.length) = true) := by
    rcases Nat.eq_zero_or_pos d7.length with h | h
    · exact .inl ⟨by rw [← hF, beq_iff_eq]; omega, decide_eq_false (by omega), decide_eq_false (by omega)⟩
    · exact .inr ⟨by rw [← hF, beq_eq_false_iff_ne]; omega, decide_eq_true (by omega), decide_eq_true (by omega)⟩
  clear hs hx hf hZ hX hF
  have HI := hid (And.intro hZs (And.intro hXs hFf))
  clear hZs hXs hFf
  rcases hlen with ⟨hF, g1, g2⟩ | ⟨hF, g1, g2⟩
  all_goals
    by_cases hV : d1 = 0
    all_goals
      have gV1 : (d1 == 0) = decide (d1 = 0) := by rw [Bool.eq_iff_iff]; simp
      have gV2 : (d1 != 0) = !decide (d1 = 0) := by rw [← gV1]; rfl
      simp only [hV, decide_true, decide_false, Bool.not_true, Bool.not_false] at gV1 gV2
      go_enter Tryd.func94, Tryd.ntmps94
      go_wp2_with (first | (go_at_call 39; refine (c_l00In _ _ _ _).mono ?_; rintro e' w' ⟨rfl, rfl⟩; first | rw [HK.out]) | (have hkk := mk1; clear hkk; go_at_call 93; refine HX.out.mono ?_; rintro e' w' ⟨rfl, rfl⟩; rw [Hx.out]) | (go_at_call 93; refine HS.out.mono ?_; rintro e' w' ⟨rfl, rfl⟩; rw [Hs.out]; have mk1 := HK) | (go_at_call 58; refine HT.out.mono ?_; rintro e' w' ⟨rfl, rfl⟩; rw [Hf.out]) | (have hkk := mk2; clear hkk; go_at_call 111; refine HY.out.mono ?_; rintro e' w' ⟨rfl, rfl⟩; rw [HXv.out]) | (go_at_call 111; refine HZ.out.mono ?_; rintro e' w' ⟨rfl, rfl⟩; rw [HZv.out]; have mk2 := HK))
      all_goals
        go_ret
        refine ⟨ret_bool ?_, rfl⟩
        rw [HF0.out]
        obtain ⟨hZs, hXs, hFf⟩ := HI.out
        simp_all
set_option maxHeartbeats 2000000 in
set_option maxRecDepth 100000 in
theorem c_stmt2 {S : Nat → Prop} {b o : Nat} {d1 d2 d3 : Int} {a4 : Option Addr} {p4 : Nat} {d4 : List Int} {d5 : Int} {a6 : Option Addr} {p6 : Nat} {d6 : List Int} {a7 : Option Addr} {p7 : Nat} {d7 : List Term} {w : World} (h4 : SlRd cInt S w a4 p4 d4) (h6 : SlRd cInt S w a6 p6 d6) (h7 : SlRd cTerm S w a7 p7 d7)
    (t0 : w.cell? ⟨b, o, none⟩ = some (.int .i64 (2 : Int)))
    (t1 : w.cell? ⟨b, o + 1, none⟩ = some (.int .i64 d1))
    (t2 : w.cell? ⟨b, o + 2, none⟩ = some (.int .i64 d2))
    (t3 : w.cell? ⟨b, o + 3, none⟩ = some (.int .i64 d3))
    (t4 : w.cell? ⟨b, o + 4, none⟩ = some (.slice a4 d4.length p4))
    (t5 : w.cell? ⟨b, o + 5, none⟩ = some (.int .i64 d5))
    (t6 : w.cell? ⟨b, o + 6, none⟩ = some (.slice a6 d6.length p6))
    (t7 : w.cell? ⟨b, o + 7, none⟩ = some (.slice a7 d7.length p7)) :
    Calls Tryd.prog 94 #[.pointer (some ⟨b, o, none⟩)] w fun e w' => e = .returned (.bool (stmtOk (2, d1, d2, (d3, d4), (d5, d6), d7))) ∧ w = w' := by
  have hl7 := h7.len_le
  have HS := hid (c_l03Term b (o + 3) d3 a4 p4 d4 w t3 t4 h4)
  have HX := hid (c_l03Term b (o + 5) d5 a6 p6 d6 w t5 t6 h6)
  have HT := hid (c_l03Terms a7 p7 d7 6 w h7)
  have HZ := hid (c_l05Zero b (o + 3) d3 a4 p4 d4.length w t3 t4)
  have HY := hid (c_l05Zero b (o + 5) d5 a6 p6 d6.length w t5 t6)
  clear h4 h6 h7
  have HF0 : Hid (stmtOk (2, d1, d2, (d3, d4), (d5, d6), d7) = ((((inB d1 0 3 && (d2 == 0)) && overT (d3, d4)) && (d5 == 0 && ((d6.length : Int) == 0))) && ((d7.length : Int) == 0))) := rfl
  have HK : Hid (inB 2 0 8 = true) := rfl
  have hZs := @zero_over d3 d4
  have hXs := @zero_over d5 d6
  have hFf : ((d7.length : Int) == 0) = true → areOverF d7 6 = true := by intro h; obtain rfl : d7 = [] := List.eq_nil_of_length_eq_zero (by rw [beq_iff_eq] at h; omega); rfl
  obtain ⟨s, hs⟩ : ∃ s, overT (d3, d4) = s := ⟨_, rfl⟩
  obtain ⟨x, hx⟩ : ∃ x, overT (d5, d6) = x := ⟨_, rfl⟩
  obtain ⟨f, hf⟩ : ∃ f, areOverF d7 6 = f := ⟨_, rfl⟩
  obtain ⟨Z, hZ⟩ : ∃ Z, (d3 == 0 && ((d4.length : Int) == 0)) = Z := ⟨_, rfl⟩
  obtain ⟨X, hX⟩ : ∃ X, (d5 == 0 && ((d6.length : Int) == 0)) = X := ⟨_, rfl⟩
  obtain ⟨F, hF⟩ : ∃ F, ((d7.length : Int) == 0) = F := ⟨_, rfl⟩
  have Hs := hid hs
  have Hx := hid hx
  have Hf := hid hf
  have HZv := hid hZ
  have HXv := hid hX
  rw [hs, hZ] at hZs
  rw [hx, hX] at hXs
  rw [hf, hF] at hFf
  obtain ⟨v, hv⟩ : ∃ v, inB d1 0 3 = v := ⟨_, rfl⟩
  have Hv := hid hv
  rw [hX, hs, hF, hv] at HF0
  have hlen : (F = true ∧ decide ((0 : Int) < (d7.length : Int)) = false ∧ decide (0 < d7.length) = false) ∨ (F = false ∧ decide ((0 : Int) < (d7.length : Int)) = true ∧ decide (0 < d7.length) = true) := by
    rcases Nat.eq_zero_or_pos d7.length with h | h
    · exact .inl ⟨by rw [← hF, beq_iff_eq]; omega, decide_eq_false (by omega), decide_eq_false (by omega)⟩
    · exact .inr ⟨by rw [← hF, beq_eq_false_iff_ne]; omega, decide_eq_true (by omega), decide_eq_true (by omega)⟩
  clear hs hx hf hZ hX hF hv
  have HI := hid (And.intro hZs (And.intro hXs hFf))
  clear hZs hXs hFf
  rcases hlen with ⟨hF, g1, g2⟩ | ⟨hF, g1, g2⟩
  all_goals
    go_enter Tryd.func94, Tryd.ntmps94
    go_wp2_with (first | (go_at_call 39; refine (c_l00In _ _ _ _).mono ?_; rintro e' w' ⟨rfl, rfl⟩; first | rw [HK.out] | rw [Hv.out]) | (have hkk := mk1; clear hkk; go_at_call 93; refine HX.out.mono ?_; rintro e' w' ⟨rfl, rfl⟩; rw [Hx.out]) | (go_at_call 93; refine HS.out.mono ?_; rintro e' w' ⟨rfl, rfl⟩; rw [Hs.out]; have mk1 := HK) | (go_at_call 58; refine HT.out.mono ?_; rintro e' w' ⟨rfl, rfl⟩; rw [Hf.out]) | (go_at_call 111; refine HY.out.mono ?_; rintro e' w' ⟨rfl, rfl⟩; rw [HXv.out]))
    all_goals
      go_ret
      refine ⟨ret_bool ?_, rfl⟩
      rw [HF0.out]
      obtain ⟨hZs, hXs, hFf⟩ := HI.out
      simp_all
set_option maxHeartbeats 2000000 in
set_option maxRecDepth 100000 in
theorem c_stmt3 {S : Nat → Prop} {b o : Nat} {d1 d2 d3 : Int} {a4 : Option Addr} {p4 : Nat} {d4 : List Int} {d5 : Int} {a6 : Option Addr} {p6 : Nat} {d6 : List Int} {a7 : Option Addr} {p7 : Nat} {d7 : List Term} {w : World} (h4 : SlRd cInt S w a4 p4 d4) (h6 : SlRd cInt S w a6 p6 d6) (h7 : SlRd cTerm S w a7 p7 d7)
    (t0 : w.cell? ⟨b, o, none⟩ = some (.int .i64 (3 : Int)))
    (t1 : w.cell? ⟨b, o + 1, none⟩ = some (.int .i64 d1))
    (t2 : w.cell? ⟨b, o + 2, none⟩ = some (.int .i64 d2))
    (t3 : w.cell? ⟨b, o + 3, none⟩ = some (.int .i64 d3))
    (t4 : w.cell? ⟨b, o + 4, none⟩ = some (.slice a4 d4.length p4))
    (t5 : w.cell? ⟨b, o + 5, none⟩ = some (.int .i64 d5))
    (t6 : w.cell? ⟨b, o + 6, none⟩ = some (.slice a6 d6.length p6))
    (t7 : w.cell? ⟨b, o + 7, none⟩ = some (.slice a7 d7.length p7)) :
    Calls Tryd.prog 94 #[.pointer (some ⟨b, o, none⟩)] w fun e w' => e = .returned (.bool (stmtOk (3, d1, d2, (d3, d4), (d5, d6), d7))) ∧ w = w' := by
  have hl7 := h7.len_le
  have HS := hid (c_l03Term b (o + 3) d3 a4 p4 d4 w t3 t4 h4)
  have HX := hid (c_l03Term b (o + 5) d5 a6 p6 d6 w t5 t6 h6)
  have HT := hid (c_l03Terms a7 p7 d7 6 w h7)
  have HZ := hid (c_l05Zero b (o + 3) d3 a4 p4 d4.length w t3 t4)
  have HY := hid (c_l05Zero b (o + 5) d5 a6 p6 d6.length w t5 t6)
  clear h4 h6 h7
  have HF0 : Hid (stmtOk (3, d1, d2, (d3, d4), (d5, d6), d7) = ((((inB d1 0 3 && (d2 == 0)) && (d3 == 0 && ((d4.length : Int) == 0))) && overT (d5, d6)) && ((d7.length : Int) == 0))) := rfl
  have HK : Hid (inB 3 0 8 = true) := rfl
  have hZs := @zero_over d3 d4
  have hXs := @zero_over d5 d6
  have hFf : ((d7.length : Int) == 0) = true → areOverF d7 6 = true := by intro h; obtain rfl : d7 = [] := List.eq_nil_of_length_eq_zero (by rw [beq_iff_eq] at h; omega); rfl
  obtain ⟨s, hs⟩ : ∃ s, overT (d3, d4) = s := ⟨_, rfl⟩
  obtain ⟨x, hx⟩ : ∃ x, overT (d5, d6) = x := ⟨_, rfl⟩
  obtain ⟨f, hf⟩ : ∃ f, areOverF d7 6 = f := ⟨_, rfl⟩
  obtain ⟨Z, hZ⟩ : ∃ Z, (d3 == 0 && ((d4.length : Int) == 0)) = Z := ⟨_, rfl⟩
  obtain ⟨X, hX⟩ : ∃ X, (d5 == 0 && ((d6.length : Int) == 0)) = X := ⟨_, rfl⟩
  obtain ⟨F, hF⟩ : ∃ F, ((d7.length : Int) == 0) = F := ⟨_, rfl⟩
  have Hs := hid hs
  have Hx := hid hx
  have Hf := hid hf
  have HZv := hid hZ
  have HXv := hid hX
  rw [hs, hZ] at hZs
  rw [hx, hX] at hXs
  rw [hf, hF] at hFf
  obtain ⟨v, hv⟩ : ∃ v, inB d1 0 3 = v := ⟨_, rfl⟩
  have Hv := hid hv
  rw [hZ, hx, hF, hv] at HF0
  have hlen : (F = true ∧ decide ((0 : Int) < (d7.length : Int)) = false ∧ decide (0 < d7.length) = false) ∨ (F = false ∧ decide ((0 : Int) < (d7.length : Int)) = true ∧ decide (0 < d7.length) = true) := by
    rcases Nat.eq_zero_or_pos d7.length with h | h
    · exact .inl ⟨by rw [← hF, beq_iff_eq]; omega, decide_eq_false (by omega), decide_eq_false (by omega)⟩
    · exact .inr ⟨by rw [← hF, beq_eq_false_iff_ne]; omega, decide_eq_true (by omega), decide_eq_true (by omega)⟩
  clear hs hx hf hZ hX hF hv
  have HI := hid (And.intro hZs (And.intro hXs hFf))
  clear hZs hXs hFf
  rcases hlen with ⟨hF, g1, g2⟩ | ⟨hF, g1, g2⟩
  all_goals
    go_enter Tryd.func94, Tryd.ntmps94
    go_wp2_with (first | (go_at_call 39; refine (c_l00In _ _ _ _).mono ?_; rintro e' w' ⟨rfl, rfl⟩; first | rw [HK.out] | rw [Hv.out]) | (have hkk := mk1; clear hkk; go_at_call 93; refine HX.out.mono ?_; rintro e' w' ⟨rfl, rfl⟩; rw [Hx.out]) | (go_at_call 93; refine HS.out.mono ?_; rintro e' w' ⟨rfl, rfl⟩; rw [Hs.out]; have mk1 := HK) | (go_at_call 58; refine HT.out.mono ?_; rintro e' w' ⟨rfl, rfl⟩; rw [Hf.out]) | (go_at_call 111; refine HZ.out.mono ?_; rintro e' w' ⟨rfl, rfl⟩; rw [HZv.out]))
    all_goals
      go_ret
      refine ⟨ret_bool ?_, rfl⟩
      rw [HF0.out]
      obtain ⟨hZs, hXs, hFf⟩ := HI.out
      simp_all
set_option maxHeartbeats 2000000 in
set_option maxRecDepth 100000 in
theorem c_stmt4 {S : Nat → Prop} {b o : Nat} {d1 d2 d3 : Int} {a4 : Option Addr} {p4 : Nat} {d4 : List Int} {d5 : Int} {a6 : Option Addr} {p6 : Nat} {d6 : List Int} {a7 : Option Addr} {p7 : Nat} {d7 : List Term} {w : World} (h4 : SlRd cInt S w a4 p4 d4) (h6 : SlRd cInt S w a6 p6 d6) (h7 : SlRd cTerm S w a7 p7 d7)
    (t0 : w.cell? ⟨b, o, none⟩ = some (.int .i64 (4 : Int)))
    (t1 : w.cell? ⟨b, o + 1, none⟩ = some (.int .i64 d1))
    (t2 : w.cell? ⟨b, o + 2, none⟩ = some (.int .i64 d2))
    (t3 : w.cell? ⟨b, o + 3, none⟩ = some (.int .i64 d3))
    (t4 : w.cell? ⟨b, o + 4, none⟩ = some (.slice a4 d4.length p4))
    (t5 : w.cell? ⟨b, o + 5, none⟩ = some (.int .i64 d5))
    (t6 : w.cell? ⟨b, o + 6, none⟩ = some (.slice a6 d6.length p6))
    (t7 : w.cell? ⟨b, o + 7, none⟩ = some (.slice a7 d7.length p7)) :
    Calls Tryd.prog 94 #[.pointer (some ⟨b, o, none⟩)] w fun e w' => e = .returned (.bool (stmtOk (4, d1, d2, (d3, d4), (d5, d6), d7))) ∧ w = w' := by
  have hl7 := h7.len_le
  have HS := hid (c_l03Term b (o + 3) d3 a4 p4 d4 w t3 t4 h4)
  have HX := hid (c_l03Term b (o + 5) d5 a6 p6 d6 w t5 t6 h6)
  have HT := hid (c_l03Terms a7 p7 d7 6 w h7)
  have HZ := hid (c_l05Zero b (o + 3) d3 a4 p4 d4.length w t3 t4)
  have HY := hid (c_l05Zero b (o + 5) d5 a6 p6 d6.length w t5 t6)
  clear h4 h6 h7
  have HF0 : Hid (stmtOk (4, d1, d2, (d3, d4), (d5, d6), d7) = (((((d1 == 0) && (d2 == 0)) && overT (d3, d4)) && overT (d5, d6)) && ((d7.length : Int) == 0))) := rfl
  have HK : Hid (inB 4 0 8 = true) := rfl
  have hZs := @zero_over d3 d4
  have hXs := @zero_over d5 d6
  have hFf : ((d7.length : Int) == 0) = true → areOverF d7 6 = true := by intro h; obtain rfl : d7 = [] := List.eq_nil_of_length_eq_zero (by rw [beq_iff_eq] at h; omega); rfl
  obtain ⟨s, hs⟩ : ∃ s, overT (d3, d4) = s := ⟨_, rfl⟩
  obtain ⟨x, hx⟩ : ∃ x, overT (d5, d6) = x := ⟨_, rfl⟩
  obtain ⟨f, hf⟩ : ∃ f, areOverF d7 6 = f := ⟨_, rfl⟩
  obtain ⟨Z, hZ⟩ : ∃ Z, (d3 == 0 && ((d4.length : Int) == 0)) = Z := ⟨_, rfl⟩
  obtain ⟨X, hX⟩ : ∃ X, (d5 == 0 && ((d6.length : Int) == 0)) = X := ⟨_, rfl⟩
  obtain ⟨F, hF⟩ : ∃ F, ((d7.length : Int) == 0) = F := ⟨_, rfl⟩
  have Hs := hid hs
  have Hx := hid hx
  have Hf := hid hf
  have HZv := hid hZ
  have HXv := hid hX
  rw [hs, hZ] at hZs
  rw [hx, hX] at hXs
  rw [hf, hF] at hFf
  rw [hs, hx, hF] at HF0
  have hlen : (F = true ∧ decide ((0 : Int) < (d7.length : Int)) = false ∧ decide (0 < d7.length) = false) ∨ (F = false ∧ decide ((0 : Int) < (d7.length : Int)) = true ∧ decide (0 < d7.length) = true) := by
    rcases Nat.eq_zero_or_pos d7.length with h | h
    · exact .inl ⟨by rw [← hF, beq_iff_eq]; omega, decide_eq_false (by omega), decide_eq_false (by omega)⟩
    · exact .inr ⟨by rw [← hF, beq_eq_false_iff_ne]; omega, decide_eq_true (by omega), decide_eq_true (by omega)⟩
  clear hs hx hf hZ hX hF
  have HI := hid (And.intro hZs (And.intro hXs hFf))
  clear hZs hXs hFf
  rcases hlen with ⟨hF, g1, g2⟩ | ⟨hF, g1, g2⟩
  all_goals
    by_cases hV : d1 = 0
    all_goals
      have gV1 : (d1 == 0) = decide (d1 = 0) := by rw [Bool.eq_iff_iff]; simp
      have gV2 : (d1 != 0) = !decide (d1 = 0) := by rw [← gV1]; rfl
      simp only [hV, decide_true, decide_false, Bool.not_true, Bool.not_false] at gV1 gV2
      go_enter Tryd.func94, Tryd.ntmps94
      go_wp2_with (first | (go_at_call 39; refine (c_l00In _ _ _ _).mono ?_; rintro e' w' ⟨rfl, rfl⟩; first | rw [HK.out]) | (have hkk := mk1; clear hkk; go_at_call 93; refine HX.out.mono ?_; rintro e' w' ⟨rfl, rfl⟩; rw [Hx.out]) | (go_at_call 93; refine HS.out.mono ?_; rintro e' w' ⟨rfl, rfl⟩; rw [Hs.out]; have mk1 := HK) | (go_at_call 58; refine HT.out.mono ?_; rintro e' w' ⟨rfl, rfl⟩; rw [Hf.out]))
      all_goals
        go_ret
        refine ⟨ret_bool ?_, rfl⟩
        rw [HF0.out]
        obtain ⟨hZs, hXs, hFf⟩ := HI.out
        simp_all
end Go.Proofs.YtcmopmapdomneaaDoor
end
