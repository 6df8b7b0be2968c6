/- Contracts of the laws' helpers over annotated code. -/
import Derived.Test.YtedmhdinfedhhaaHPoint
namespace Go.Proofs.Ytedmhdinfedhhaa
open Go.RowKit
abbrev An := List Term × List Term × List Instr × List Pt
abbrev cAnnotated : Codec An := cPair cTerms (cPair cTerms (cPair cCode cPoints))
abbrev nAnnotated : Norm cAnnotated := nPair nTerms (nPair nTerms (nPair nCode nPoints))
instance dec_An_1 : DecidableEq (List Term × List Instr × List Pt) := inferInstance
instance dec_An : DecidableEq An := inferInstance
theorem An_list {S : Nat → Prop} {w : World} {cs : List Value} {d : An} (h : cAnnotated.rd S w cs d) : ∃ a0 p0 a1 p1 a2 p2 a3 p3, cs = [.slice a0 d.1.length p0, .slice a1 d.2.1.length p1, .slice a2 d.2.2.1.length p2, .slice a3 d.2.2.2.length p3] ∧ SlRd cTerm S w a0 p0 d.1 ∧ SlRd cTerm S w a1 p1 d.2.1 ∧ SlRd cInstr S w a2 p2 d.2.2.1 ∧ SlRd cPoint S w a3 p3 d.2.2.2 := by
  obtain ⟨_, _, rfl, ⟨a0, p0, rfl, r0⟩, ⟨_, _, rfl, ⟨a1, p1, rfl, r1⟩, ⟨_, _, rfl, ⟨a2, p2, rfl, r2⟩, ⟨a3, p3, rfl, r3⟩⟩⟩⟩ := h
  exact ⟨a0, p0, a1, p1, a2, p2, a3, p3, rfl, r0, r1, r2, r3⟩
theorem An_arr {S : Nat → Prop} {w : World} {cs : Array Value} {d : An} (h : cAnnotated.rd S w cs.toList d) : ∃ a0 p0 a1 p1 a2 p2 a3 p3, cs = #[.slice a0 d.1.length p0, .slice a1 d.2.1.length p1, .slice a2 d.2.2.1.length p2, .slice a3 d.2.2.2.length p3] ∧ SlRd cTerm S w a0 p0 d.1 ∧ SlRd cTerm S w a1 p1 d.2.1 ∧ SlRd cInstr S w a2 p2 d.2.2.1 ∧ SlRd cPoint S w a3 p3 d.2.2.2 := by
  obtain ⟨a0, p0, a1, p1, a2, p2, a3, p3, he, hr⟩ := An_list h
  exact ⟨a0, p0, a1, p1, a2, p2, a3, p3, by rw [← Array.toList_inj, he], hr⟩
theorem op_An : Opens Try.prog 26 cAnnotated := opens_struct Try.underlying26 (by kernel_rfl) (opensFs_cons rfl op_Terms (opensFs_cons rfl op_Terms (opensFs_cons rfl op_Code (opensFs_last rfl op_Pts))))
set_option maxRecDepth 100000 in
theorem u_szAnnotated {S : Nat → Prop} {a0 : Option Addr} {p0 : Nat} {d0 : List Term} {a1 : Option Addr} {p1 : Nat} {d1 : List Term} {a2 : Option Addr} {p2 : Nat} {d2 : List Instr} {a3 : Option Addr} {p3 : Nat} {d3 : List Pt} {left : Int} {w : World} (h0 : SlRd cTerm S w a0 p0 d0) (h1 : SlRd cTerm S w a1 p1 d1) (h2 : SlRd cInstr S w a2 p2 d2) (h3 : SlRd cPoint S w a3 p3 d3) (hl0 : 0 ≤ left) (hl1 : left ≤ 1048576) :
    Calls Try.prog 10 #[.agg #[.slice a0 d0.length p0, .slice a1 d1.length p1, .slice a2 d2.length p2, .slice a3 d3.length p3], .int .i64 left] w fun e w' => e = .returned (.int .i64 (szR left ((szTs d0 + szTs d1 + d2.length + szPts d3) : Nat))) ∧ Below w.heap.size w w' := by
  have R0_0 := hid (h0.alloc (.cells #[.slice a0 d0.length p0, .slice a1 d1.length p1, .slice a2 d2.length p2, .slice a3 d3.length p3] 26))
  have R1_0 := hid (h1.alloc (.cells #[.slice a0 d0.length p0, .slice a1 d1.length p1, .slice a2 d2.length p2, .slice a3 d3.length p3] 26))
  have R2_0 := hid (h2.alloc (.cells #[.slice a0 d0.length p0, .slice a1 d1.length p1, .slice a2 d2.length p2, .slice a3 d3.length p3] 26))
  have R3_0 := hid (h3.alloc (.cells #[.slice a0 d0.length p0, .slice a1 d1.length p1, .slice a2 d2.length p2, .slice a3 d3.length p3] 26))
  have HB_0 : Hid (Below w.heap.size w (w.alloc (.cells #[.slice a0 d0.length p0, .slice a1 d1.length p1, .slice a2 d2.length p2, .slice a3 d3.length p3] 26))) := (Below.refl _ _).alloc (Nat.le_refl _) _
  have z_0 : w.heap.size < (w.alloc (.cells #[.slice a0 d0.length p0, .slice a1 d1.length p1, .slice a2 d2.length p2, .slice a3 d3.length p3] 26)).heap.size := by simp
  have t0_0 : (w.alloc (.cells #[.slice a0 d0.length p0, .slice a1 d1.length p1, .slice a2 d2.length p2, .slice a3 d3.length p3] 26)).cell? ⟨w.heap.size, 0, none⟩ = some (.slice a0 d0.length p0) := by rw [World.cell?_alloc_at _ _ _ _ rfl]; rfl
  have t1_0 : (w.alloc (.cells #[.slice a0 d0.length p0, .slice a1 d1.length p1, .slice a2 d2.length p2, .slice a3 d3.length p3] 26)).cell? ⟨w.heap.size, 1, none⟩ = some (.slice a1 d1.length p1) := by rw [World.cell?_alloc_at _ _ _ _ rfl]; rfl
  have t2_0 : (w.alloc (.cells #[.slice a0 d0.length p0, .slice a1 d1.length p1, .slice a2 d2.length p2, .slice a3 d3.length p3] 26)).cell? ⟨w.heap.size, 2, none⟩ = some (.slice a2 d2.length p2) := by rw [World.cell?_alloc_at _ _ _ _ rfl]; rfl
  have t3_0 : (w.alloc (.cells #[.slice a0 d0.length p0, .slice a1 d1.length p1, .slice a2 d2.length p2, .slice a3 d3.length p3] 26)).cell? ⟨w.heap.size, 3, none⟩ = some (.slice a3 d3.length p3) := by rw [World.cell?_alloc_at _ _ _ _ rfl]; rfl
  clear h0 h1 h2 h3
  obtain ⟨r0, hr⟩ : ∃ r, szR left (szTs d0 : Nat) = r := ⟨_, rfl⟩
  have l0 : r0 ≤ left := by rw [← hr]; unfold szR; split <;> omega
  have m0 : r0 < 0 → r0 = -1 := by rw [← hr]; unfold szR; split <;> omega
  have HS0 : Hid (szR left ((szTs d0 : Nat) : Int) = r0) := by exact hr
  have HR0 := hid hr
  clear hr
  by_cases g0 : r0 < 0
  · skip
    have h8 : szR left ((szTs d0 : Nat) : Int) < 0 := by rw [HS0.out]; exact g0
    have h8 := szR_neg (m := szTs d1) h8
    have h8 : szR left ((szTs d0 + szTs d1 : Nat) : Int) < 0 := by rw [h8]; decide
    have h8 := szR_neg (m := d2.length) h8
    have h8 : szR left ((szTs d0 + szTs d1 + d2.length : Nat) : Int) < 0 := by rw [h8]; decide
    have h8 := szR_neg (m := szPts d3) h8
    have HF := hid h8
    clear h8 m0
    go_enter Try.func10, Try.ntmps10
    go_wp2_with fail
    refine (u_szTermS R0_0.out (by omega) (by omega)).mono ?_
    rintro e w_1 ⟨rfl, hb⟩
    rw [HR0.out]
    have R0_1 := hid (R0_0.out.below (Nat.le_refl _) hb)
    have R1_1 := hid (R1_0.out.below (Nat.le_refl _) hb)
    have R2_1 := hid (R2_0.out.below (Nat.le_refl _) hb)
    have R3_1 := hid (R3_0.out.below (Nat.le_refl _) hb)
    have HB_1 := hid (bel_next HB_0.out HB_0.out.size hb)
    have t0_1 := cell_below hb z_0 t0_0
    have t1_1 := cell_below hb z_0 t1_0
    have t2_1 := cell_below hb z_0 t2_0
    have t3_1 := cell_below hb z_0 t3_0
    have z_1 := Nat.lt_of_lt_of_le z_0 hb.size
    clear hb R0_0 R1_0 R2_0 R3_0 HB_0 t0_0 t1_0 t2_0 t3_0 z_0
    go_wp2
    go_ret
    exact ⟨ret_int HF.out.symm, HB_1.out⟩
  clear m0
  obtain ⟨r1, hr⟩ : ∃ r, szR r0 (szTs d1 : Nat) = r := ⟨_, rfl⟩
  have l1 : r1 ≤ r0 := by rw [← hr]; unfold szR; split <;> omega
  have m1 : r1 < 0 → r1 = -1 := by rw [← hr]; unfold szR; split <;> omega
  have HS1 : Hid (szR left ((szTs d0 + szTs d1 : Nat) : Int) = r1) := by have h9 := HS0.out; unfold Hid; rw [← hr, ← h9, szR_add (by rw [h9]; omega)]
  have HR1 := hid hr
  clear hr
  by_cases g1 : r1 < 0
  · skip
    have h8 : szR left ((szTs d0 + szTs d1 : Nat) : Int) < 0 := by rw [HS1.out]; exact g1
    have h8 := szR_neg (m := d2.length) h8
    have h8 : szR left ((szTs d0 + szTs d1 + d2.length : Nat) : Int) < 0 := by rw [h8]; decide
    have h8 := szR_neg (m := szPts d3) h8
    have HF := hid h8
    clear h8 m1
    go_enter Try.func10, Try.ntmps10
    go_wp2_with fail
    refine (u_szTermS R0_0.out (by omega) (by omega)).mono ?_
    rintro e w_1 ⟨rfl, hb⟩
    rw [HR0.out]
    have R0_1 := hid (R0_0.out.below (Nat.le_refl _) hb)
    have R1_1 := hid (R1_0.out.below (Nat.le_refl _) hb)
    have R2_1 := hid (R2_0.out.below (Nat.le_refl _) hb)
    have R3_1 := hid (R3_0.out.below (Nat.le_refl _) hb)
    have HB_1 := hid (bel_next HB_0.out HB_0.out.size hb)
    have t0_1 := cell_below hb z_0 t0_0
    have t1_1 := cell_below hb z_0 t1_0
    have t2_1 := cell_below hb z_0 t2_0
    have t3_1 := cell_below hb z_0 t3_0
    have z_1 := Nat.lt_of_lt_of_le z_0 hb.size
    clear hb R0_0 R1_0 R2_0 R3_0 HB_0 t0_0 t1_0 t2_0 t3_0 z_0
    go_wp2_with fail
    refine (u_szTermS R1_1.out (by omega) (by omega)).mono ?_
    rintro e w_2 ⟨rfl, hb⟩
    rw [HR1.out]
    have R0_2 := hid (R0_1.out.below (Nat.le_refl _) hb)
    have R1_2 := hid (R1_1.out.below (Nat.le_refl _) hb)
    have R2_2 := hid (R2_1.out.below (Nat.le_refl _) hb)
    have R3_2 := hid (R3_1.out.below (Nat.le_refl _) hb)
    have HB_2 := hid (bel_next HB_1.out HB_1.out.size hb)
    have t0_2 := cell_below hb z_1 t0_1
    have t1_2 := cell_below hb z_1 t1_1
    have t2_2 := cell_below hb z_1 t2_1
    have t3_2 := cell_below hb z_1 t3_1
    have z_2 := Nat.lt_of_lt_of_le z_1 hb.size
    clear hb R0_1 R1_1 R2_1 R3_1 HB_1 t0_1 t1_1 t2_1 t3_1 z_1
    go_wp2
    go_ret
    exact ⟨ret_int HF.out.symm, HB_2.out⟩
  clear m1
  obtain ⟨r2, hr⟩ : ∃ r, szR r1 (d2.length : Nat) = r := ⟨_, rfl⟩
  have l2 : r2 ≤ r1 := by rw [← hr]; unfold szR; split <;> omega
  have m2 : r2 < 0 → r2 = -1 := by rw [← hr]; unfold szR; split <;> omega
  have HS2 : Hid (szR left ((szTs d0 + szTs d1 + d2.length : Nat) : Int) = r2) := by have h9 := HS1.out; unfold Hid; rw [← hr, ← h9, szR_add (by rw [h9]; omega)]
  have HR2 := hid hr
  clear hr
  by_cases g2 : r2 < 0
  · skip
    have h8 : szR left ((szTs d0 + szTs d1 + d2.length : Nat) : Int) < 0 := by rw [HS2.out]; exact g2
    have h8 := szR_neg (m := szPts d3) h8
    have HF := hid h8
    clear h8 m2
    go_enter Try.func10, Try.ntmps10
    go_wp2_with fail
    refine (u_szTermS R0_0.out (by omega) (by omega)).mono ?_
    rintro e w_1 ⟨rfl, hb⟩
    rw [HR0.out]
    have R0_1 := hid (R0_0.out.below (Nat.le_refl _) hb)
    have R1_1 := hid (R1_0.out.below (Nat.le_refl _) hb)
    have R2_1 := hid (R2_0.out.below (Nat.le_refl _) hb)
    have R3_1 := hid (R3_0.out.below (Nat.le_refl _) hb)
    have HB_1 := hid (bel_next HB_0.out HB_0.out.size hb)
    have t0_1 := cell_below hb z_0 t0_0
    have t1_1 := cell_below hb z_0 t1_0
    have t2_1 := cell_below hb z_0 t2_0
    have t3_1 := cell_below hb z_0 t3_0
    have z_1 := Nat.lt_of_lt_of_le z_0 hb.size
    clear hb R0_0 R1_0 R2_0 R3_0 HB_0 t0_0 t1_0 t2_0 t3_0 z_0
    go_wp2_with fail
    refine (u_szTermS R1_1.out (by omega) (by omega)).mono ?_
    rintro e w_2 ⟨rfl, hb⟩
    rw [HR1.out]
    have R0_2 := hid (R0_1.out.below (Nat.le_refl _) hb)
    have R1_2 := hid (R1_1.out.below (Nat.le_refl _) hb)
    have R2_2 := hid (R2_1.out.below (Nat.le_refl _) hb)
    have R3_2 := hid (R3_1.out.below (Nat.le_refl _) hb)
    have HB_2 := hid (bel_next HB_1.out HB_1.out.size hb)
    have t0_2 := cell_below hb z_1 t0_1
    have t1_2 := cell_below hb z_1 t1_1
    have t2_2 := cell_below hb z_1 t2_1
    have t3_2 := cell_below hb z_1 t3_1
    have z_2 := Nat.lt_of_lt_of_le z_1 hb.size
    clear hb R0_1 R1_1 R2_1 R3_1 HB_1 t0_1 t1_1 t2_1 t3_1 z_1
    go_wp2_with fail
    refine (u_szInstrS R2_2.out (by omega) (by omega)).mono ?_
    rintro e w_3 ⟨rfl, hb⟩
    rw [HR2.out]
    have R0_3 := hid (R0_2.out.below (Nat.le_refl _) hb)
    have R1_3 := hid (R1_2.out.below (Nat.le_refl _) hb)
    have R2_3 := hid (R2_2.out.below (Nat.le_refl _) hb)
    have R3_3 := hid (R3_2.out.below (Nat.le_refl _) hb)
    have HB_3 := hid (bel_next HB_2.out HB_2.out.size hb)
    have t0_3 := cell_below hb z_2 t0_2
    have t1_3 := cell_below hb z_2 t1_2
    have t2_3 := cell_below hb z_2 t2_2
    have t3_3 := cell_below hb z_2 t3_2
    have z_3 := Nat.lt_of_lt_of_le z_2 hb.size
    clear hb R0_2 R1_2 R2_2 R3_2 HB_2 t0_2 t1_2 t2_2 t3_2 z_2
    go_wp2
    go_ret
    exact ⟨ret_int HF.out.symm, HB_3.out⟩
  clear m2
  obtain ⟨r3, hr⟩ : ∃ r, szR r2 (szPts d3 : Nat) = r := ⟨_, rfl⟩
  have l3 : r3 ≤ r2 := by rw [← hr]; unfold szR; split <;> omega
  have m3 : r3 < 0 → r3 = -1 := by rw [← hr]; unfold szR; split <;> omega
  have HS3 : Hid (szR left ((szTs d0 + szTs d1 + d2.length + szPts d3 : Nat) : Int) = r3) := by have h9 := HS2.out; unfold Hid; rw [← hr, ← h9, szR_add (by rw [h9]; omega)]
  have HR3 := hid hr
  clear hr
  by_cases g3 : r3 < 0
  · skip
    have h8 : szR left ((szTs d0 + szTs d1 + d2.length + szPts d3 : Nat) : Int) < 0 := by rw [HS3.out]; exact g3
    have HF := hid (HS3.out.trans (m3 g3))
    clear h8 m3
    go_enter Try.func10, Try.ntmps10
    go_wp2_with fail
    refine (u_szTermS R0_0.out (by omega) (by omega)).mono ?_
    rintro e w_1 ⟨rfl, hb⟩
    rw [HR0.out]
    have R0_1 := hid (R0_0.out.below (Nat.le_refl _) hb)
    have R1_1 := hid (R1_0.out.below (Nat.le_refl _) hb)
    have R2_1 := hid (R2_0.out.below (Nat.le_refl _) hb)
    have R3_1 := hid (R3_0.out.below (Nat.le_refl _) hb)
    have HB_1 := hid (bel_next HB_0.out HB_0.out.size hb)
    have t0_1 := cell_below hb z_0 t0_0
    have t1_1 := cell_below hb z_0 t1_0
    have t2_1 := cell_below hb z_0 t2_0
    have t3_1 := cell_below hb z_0 t3_0
    have z_1 := Nat.lt_of_lt_of_le z_0 hb.size
    clear hb R0_0 R1_0 R2_0 R3_0 HB_0 t0_0 t1_0 t2_0 t3_0 z_0
    go_wp2_with fail
    refine (u_szTermS R1_1.out (by omega) (by omega)).mono ?_
    rintro e w_2 ⟨rfl, hb⟩
    rw [HR1.out]
    have R0_2 := hid (R0_1.out.below (Nat.le_refl _) hb)
    have R1_2 := hid (R1_1.out.below (Nat.le_refl _) hb)
    have R2_2 := hid (R2_1.out.below (Nat.le_refl _) hb)
    have R3_2 := hid (R3_1.out.below (Nat.le_refl _) hb)
    have HB_2 := hid (bel_next HB_1.out HB_1.out.size hb)
    have t0_2 := cell_below hb z_1 t0_1
    have t1_2 := cell_below hb z_1 t1_1
    have t2_2 := cell_below hb z_1 t2_1
    have t3_2 := cell_below hb z_1 t3_1
    have z_2 := Nat.lt_of_lt_of_le z_1 hb.size
    clear hb R0_1 R1_1 R2_1 R3_1 HB_1 t0_1 t1_1 t2_1 t3_1 z_1
    go_wp2_with fail
    refine (u_szInstrS R2_2.out (by omega) (by omega)).mono ?_
    rintro e w_3 ⟨rfl, hb⟩
    rw [HR2.out]
    have R0_3 := hid (R0_2.out.below (Nat.le_refl _) hb)
    have R1_3 := hid (R1_2.out.below (Nat.le_refl _) hb)
    have R2_3 := hid (R2_2.out.below (Nat.le_refl _) hb)
    have R3_3 := hid (R3_2.out.below (Nat.le_refl _) hb)
    have HB_3 := hid (bel_next HB_2.out HB_2.out.size hb)
    have t0_3 := cell_below hb z_2 t0_2
    have t1_3 := cell_below hb z_2 t1_2
    have t2_3 := cell_below hb z_2 t2_2
    have t3_3 := cell_below hb z_2 t3_2
    have z_3 := Nat.lt_of_lt_of_le z_2 hb.size
    clear hb R0_2 R1_2 R2_2 R3_2 HB_2 t0_2 t1_2 t2_2 t3_2 z_2
    go_wp2_with fail
    refine (u_szPointS R3_3.out (by omega) (by omega)).mono ?_
    rintro e w_4 ⟨rfl, hb⟩
    rw [HR3.out]
    have R0_4 := hid (R0_3.out.below (Nat.le_refl _) hb)
    have R1_4 := hid (R1_3.out.below (Nat.le_refl _) hb)
    have R2_4 := hid (R2_3.out.below (Nat.le_refl _) hb)
    have R3_4 := hid (R3_3.out.below (Nat.le_refl _) hb)
    have HB_4 := hid (bel_next HB_3.out HB_3.out.size hb)
    have t0_4 := cell_below hb z_3 t0_3
    have t1_4 := cell_below hb z_3 t1_3
    have t2_4 := cell_below hb z_3 t2_3
    have t3_4 := cell_below hb z_3 t3_3
    have z_4 := Nat.lt_of_lt_of_le z_3 hb.size
    clear hb R0_3 R1_3 R2_3 R3_3 HB_3 t0_3 t1_3 t2_3 t3_3 z_3
    go_wp2
    go_ret
    exact ⟨ret_int HF.out.symm, HB_4.out⟩
  clear m3
  go_enter Try.func10, Try.ntmps10
  go_wp2_with fail
  refine (u_szTermS R0_0.out (by omega) (by omega)).mono ?_
  rintro e w_1 ⟨rfl, hb⟩
  rw [HR0.out]
  have R0_1 := hid (R0_0.out.below (Nat.le_refl _) hb)
  have R1_1 := hid (R1_0.out.below (Nat.le_refl _) hb)
  have R2_1 := hid (R2_0.out.below (Nat.le_refl _) hb)
  have R3_1 := hid (R3_0.out.below (Nat.le_refl _) hb)
  have HB_1 := hid (bel_next HB_0.out HB_0.out.size hb)
  have t0_1 := cell_below hb z_0 t0_0
  have t1_1 := cell_below hb z_0 t1_0
  have t2_1 := cell_below hb z_0 t2_0
  have t3_1 := cell_below hb z_0 t3_0
  have z_1 := Nat.lt_of_lt_of_le z_0 hb.size
  clear hb R0_0 R1_0 R2_0 R3_0 HB_0 t0_0 t1_0 t2_0 t3_0 z_0
  go_wp2_with fail
  refine (u_szTermS R1_1.out (by omega) (by omega)).mono ?_
  rintro e w_2 ⟨rfl, hb⟩
  rw [HR1.out]
  have R0_2 := hid (R0_1.out.below (Nat.le_refl _) hb)
  have R1_2 := hid (R1_1.out.below (Nat.le_refl _) hb)
  have R2_2 := hid (R2_1.out.below (Nat.le_refl _) hb)
  have R3_2 := hid (R3_1.out.below (Nat.le_refl _) hb)
  have HB_2 := hid (bel_next HB_1.out HB_1.out.size hb)
  have t0_2 := cell_below hb z_1 t0_1
  have t1_2 := cell_below hb z_1 t1_1
  have t2_2 := cell_below hb z_1 t2_1
  have t3_2 := cell_below hb z_1 t3_1
  have z_2 := Nat.lt_of_lt_of_le z_1 hb.size
  clear hb R0_1 R1_1 R2_1 R3_1 HB_1 t0_1 t1_1 t2_1 t3_1 z_1
  go_wp2_with fail
  refine (u_szInstrS R2_2.out (by omega) (by omega)).mono ?_
  rintro e w_3 ⟨rfl, hb⟩
  rw [HR2.out]
  have R0_3 := hid (R0_2.out.below (Nat.le_refl _) hb)
  have R1_3 := hid (R1_2.out.below (Nat.le_refl _) hb)
  have R2_3 := hid (R2_2.out.below (Nat.le_refl _) hb)
  have R3_3 := hid (R3_2.out.below (Nat.le_refl _) hb)
  have HB_3 := hid (bel_next HB_2.out HB_2.out.size hb)
  have t0_3 := cell_below hb z_2 t0_2
  have t1_3 := cell_below hb z_2 t1_2
  have t2_3 := cell_below hb z_2 t2_2
  have t3_3 := cell_below hb z_2 t3_2
  have z_3 := Nat.lt_of_lt_of_le z_2 hb.size
  clear hb R0_2 R1_2 R2_2 R3_2 HB_2 t0_2 t1_2 t2_2 t3_2 z_2
  go_wp2_with fail
  refine (u_szPointS R3_3.out (by omega) (by omega)).mono ?_
  rintro e w_4 ⟨rfl, hb⟩
  rw [HR3.out]
  have R0_4 := hid (R0_3.out.below (Nat.le_refl _) hb)
  have R1_4 := hid (R1_3.out.below (Nat.le_refl _) hb)
  have R2_4 := hid (R2_3.out.below (Nat.le_refl _) hb)
  have R3_4 := hid (R3_3.out.below (Nat.le_refl _) hb)
  have HB_4 := hid (bel_next HB_3.out HB_3.out.size hb)
  have t0_4 := cell_below hb z_3 t0_3
  have t1_4 := cell_below hb z_3 t1_3
  have t2_4 := cell_below hb z_3 t2_3
  have t3_4 := cell_below hb z_3 t3_3
  have z_4 := Nat.lt_of_lt_of_le z_3 hb.size
  clear hb R0_3 R1_3 R2_3 R3_3 HB_3 t0_3 t1_3 t2_3 t3_3 z_3
  go_wp2
  go_ret
  exact ⟨ret_int HS3.out.symm, HB_4.out⟩
set_option maxRecDepth 100000 in
theorem u_eqAnnotated {S T : Nat → Prop} {a0 : Option Addr} {p0 : Nat} {d0 : List Term} {a1 : Option Addr} {p1 : Nat} {d1 : List Term} {a2 : Option Addr} {p2 : Nat} {d2 : List Instr} {a3 : Option Addr} {p3 : Nat} {d3 : List Pt} {ya0 : Option Addr} {yp0 : Nat} {yd0 : List Term} {ya1 : Option Addr} {yp1 : Nat} {yd1 : List Term} {ya2 : Option Addr} {yp2 : Nat} {yd2 : List Instr} {ya3 : Option Addr} {yp3 : Nat} {yd3 : List Pt} {w : World} (h0 : SlRd cTerm S w a0 p0 d0) (h1 : SlRd cTerm S w a1 p1 d1) (h2 : SlRd cInstr S w a2 p2 d2) (h3 : SlRd cPoint S w a3 p3 d3) (yh0 : SlRd cTerm T w ya0 yp0 yd0) (yh1 : SlRd cTerm T w ya1 yp1 yd1) (yh2 : SlRd cInstr T w ya2 yp2 yd2) (yh3 : SlRd cPoint T w ya3 yp3 yd3) :
    Calls Try.prog 15 #[.agg #[.slice a0 d0.length p0, .slice a1 d1.length p1, .slice a2 d2.length p2, .slice a3 d3.length p3], .agg #[.slice ya0 yd0.length yp0, .slice ya1 yd1.length yp1, .slice ya2 yd2.length yp2, .slice ya3 yd3.length yp3]] w fun e w' => e = .returned (.bool (decide (((d0, d1, d2, d3) : An) = (yd0, yd1, yd2, yd3)))) ∧ Below w.heap.size w w' := by
  have R0_0 := hid ((h0.alloc (.cells #[.slice a0 d0.length p0, .slice a1 d1.length p1, .slice a2 d2.length p2, .slice a3 d3.length p3] 35)).alloc (.cells #[.slice ya0 yd0.length yp0, .slice ya1 yd1.length yp1, .slice ya2 yd2.length yp2, .slice ya3 yd3.length yp3] 35))
  have R1_0 := hid ((h1.alloc (.cells #[.slice a0 d0.length p0, .slice a1 d1.length p1, .slice a2 d2.length p2, .slice a3 d3.length p3] 35)).alloc (.cells #[.slice ya0 yd0.length yp0, .slice ya1 yd1.length yp1, .slice ya2 yd2.length yp2, .slice ya3 yd3.length yp3] 35))
  have R2_0 := hid ((h2.alloc (.cells #[.slice a0 d0.length p0, .slice a1 d1.length p1, .slice a2 d2.length p2, .slice a3 d3.length p3] 35)).alloc (.cells #[.slice ya0 yd0.length yp0, .slice ya1 yd1.length yp1, .slice ya2 yd2.length yp2, .slice ya3 yd3.length yp3] 35))
  have R3_0 := hid ((h3.alloc (.cells #[.slice a0 d0.length p0, .slice a1 d1.length p1, .slice a2 d2.length p2, .slice a3 d3.length p3] 35)).alloc (.cells #[.slice ya0 yd0.length yp0, .slice ya1 yd1.length yp1, .slice ya2 yd2.length yp2, .slice ya3 yd3.length yp3] 35))
  have yR0_0 := hid ((yh0.alloc (.cells #[.slice a0 d0.length p0, .slice a1 d1.length p1, .slice a2 d2.length p2, .slice a3 d3.length p3] 35)).alloc (.cells #[.slice ya0 yd0.length yp0, .slice ya1 yd1.length yp1, .slice ya2 yd2.length yp2, .slice ya3 yd3.length yp3] 35))
  have yR1_0 := hid ((yh1.alloc (.cells #[.slice a0 d0.length p0, .slice a1 d1.length p1, .slice a2 d2.length p2, .slice a3 d3.length p3] 35)).alloc (.cells #[.slice ya0 yd0.length yp0, .slice ya1 yd1.length yp1, .slice ya2 yd2.length yp2, .slice ya3 yd3.length yp3] 35))
  have yR2_0 := hid ((yh2.alloc (.cells #[.slice a0 d0.length p0, .slice a1 d1.length p1, .slice a2 d2.length p2, .slice a3 d3.length p3] 35)).alloc (.cells #[.slice ya0 yd0.length yp0, .slice ya1 yd1.length yp1, .slice ya2 yd2.length yp2, .slice ya3 yd3.length yp3] 35))
  have yR3_0 := hid ((yh3.alloc (.cells #[.slice a0 d0.length p0, .slice a1 d1.length p1, .slice a2 d2.length p2, .slice a3 d3.length p3] 35)).alloc (.cells #[.slice ya0 yd0.length yp0, .slice ya1 yd1.length yp1, .slice ya2 yd2.length yp2, .slice ya3 yd3.length yp3] 35))
  have HB_0 : Hid (Below w.heap.size w ((w.alloc (.cells #[.slice a0 d0.length p0, .slice a1 d1.length p1, .slice a2 d2.length p2, .slice a3 d3.length p3] 35)).alloc (.cells #[.slice ya0 yd0.length yp0, .slice ya1 yd1.length yp1, .slice ya2 yd2.length yp2, .slice ya3 yd3.length yp3] 35))) := ((Below.refl _ _).alloc (Nat.le_refl _) _).alloc (by simp) _
  have z_0 : w.heap.size + 1 < ((w.alloc (.cells #[.slice a0 d0.length p0, .slice a1 d1.length p1, .slice a2 d2.length p2, .slice a3 d3.length p3] 35)).alloc (.cells #[.slice ya0 yd0.length yp0, .slice ya1 yd1.length yp1, .slice ya2 yd2.length yp2, .slice ya3 yd3.length yp3] 35)).heap.size := by simp
  have t0_0 : ((w.alloc (.cells #[.slice a0 d0.length p0, .slice a1 d1.length p1, .slice a2 d2.length p2, .slice a3 d3.length p3] 35)).alloc (.cells #[.slice ya0 yd0.length yp0, .slice ya1 yd1.length yp1, .slice ya2 yd2.length yp2, .slice ya3 yd3.length yp3] 35)).cell? ⟨w.heap.size, 0, none⟩ = some (.slice a0 d0.length p0) := by simp [go_sem]
  have yt0_0 : ((w.alloc (.cells #[.slice a0 d0.length p0, .slice a1 d1.length p1, .slice a2 d2.length p2, .slice a3 d3.length p3] 35)).alloc (.cells #[.slice ya0 yd0.length yp0, .slice ya1 yd1.length yp1, .slice ya2 yd2.length yp2, .slice ya3 yd3.length yp3] 35)).cell? ⟨w.heap.size + 1, 0, none⟩ = some (.slice ya0 yd0.length yp0) := by simp [go_sem]
  have t1_0 : ((w.alloc (.cells #[.slice a0 d0.length p0, .slice a1 d1.length p1, .slice a2 d2.length p2, .slice a3 d3.length p3] 35)).alloc (.cells #[.slice ya0 yd0.length yp0, .slice ya1 yd1.length yp1, .slice ya2 yd2.length yp2, .slice ya3 yd3.length yp3] 35)).cell? ⟨w.heap.size, 1, none⟩ = some (.slice a1 d1.length p1) := by simp [go_sem]
  have yt1_0 : ((w.alloc (.cells #[.slice a0 d0.length p0, .slice a1 d1.length p1, .slice a2 d2.length p2, .slice a3 d3.length p3] 35)).alloc (.cells #[.slice ya0 yd0.length yp0, .slice ya1 yd1.length yp1, .slice ya2 yd2.length yp2, .slice ya3 yd3.length yp3] 35)).cell? ⟨w.heap.size + 1, 1, none⟩ = some (.slice ya1 yd1.length yp1) := by simp [go_sem]
  have t2_0 : ((w.alloc (.cells #[.slice a0 d0.length p0, .slice a1 d1.length p1, .slice a2 d2.length p2, .slice a3 d3.length p3] 35)).alloc (.cells #[.slice ya0 yd0.length yp0, .slice ya1 yd1.length yp1, .slice ya2 yd2.length yp2, .slice ya3 yd3.length yp3] 35)).cell? ⟨w.heap.size, 2, none⟩ = some (.slice a2 d2.length p2) := by simp [go_sem]
  have yt2_0 : ((w.alloc (.cells #[.slice a0 d0.length p0, .slice a1 d1.length p1, .slice a2 d2.length p2, .slice a3 d3.length p3] 35)).alloc (.cells #[.slice ya0 yd0.length yp0, .slice ya1 yd1.length yp1, .slice ya2 yd2.length yp2, .slice ya3 yd3.length yp3] 35)).cell? ⟨w.heap.size + 1, 2, none⟩ = some (.slice ya2 yd2.length yp2) := by simp [go_sem]
  have t3_0 : ((w.alloc (.cells #[.slice a0 d0.length p0, .slice a1 d1.length p1, .slice a2 d2.length p2, .slice a3 d3.length p3] 35)).alloc (.cells #[.slice ya0 yd0.length yp0, .slice ya1 yd1.length yp1, .slice ya2 yd2.length yp2, .slice ya3 yd3.length yp3] 35)).cell? ⟨w.heap.size, 3, none⟩ = some (.slice a3 d3.length p3) := by simp [go_sem]
  have yt3_0 : ((w.alloc (.cells #[.slice a0 d0.length p0, .slice a1 d1.length p1, .slice a2 d2.length p2, .slice a3 d3.length p3] 35)).alloc (.cells #[.slice ya0 yd0.length yp0, .slice ya1 yd1.length yp1, .slice ya2 yd2.length yp2, .slice ya3 yd3.length yp3] 35)).cell? ⟨w.heap.size + 1, 3, none⟩ = some (.slice ya3 yd3.length yp3) := by simp [go_sem]
  clear h0 h1 h2 h3 yh0 yh1 yh2 yh3
  obtain ⟨b0, hb0⟩ : ∃ b, decide ((d0 : List Term) = yd0) = b := ⟨_, rfl⟩
  obtain ⟨b1, hb1⟩ : ∃ b, decide ((d1 : List Term) = yd1) = b := ⟨_, rfl⟩
  obtain ⟨b2, hb2⟩ : ∃ b, decide ((d2 : List Instr) = yd2) = b := ⟨_, rfl⟩
  obtain ⟨b3, hb3⟩ : ∃ b, decide ((d3 : List Pt) = yd3) = b := ⟨_, rfl⟩
  have HF : Hid (decide (((d0, d1, d2, d3) : An) = (yd0, yd1, yd2, yd3)) = (b0 && b1 && b2 && b3)) := by unfold Hid; rw [← hb0, ← hb1, ← hb2, ← hb3, Bool.eq_iff_iff]; simp [Prod.ext_iff, and_assoc]
  have HR0 := hid hb0
  clear hb0
  have HR1 := hid hb1
  clear hb1
  have HR2 := hid hb2
  clear hb2
  have HR3 := hid hb3
  clear hb3
  cases b0
  · skip
    go_enter Try.func15, Try.ntmps15
    go_wp2_with fail
    refine (u_eqTermS R0_0.out yR0_0.out).mono ?_
    rintro e w_1 ⟨rfl, hb⟩
    rw [HR0.out]
    have R0_1 := hid (R0_0.out.below (Nat.le_refl _) hb)
    have R1_1 := hid (R1_0.out.below (Nat.le_refl _) hb)
    have R2_1 := hid (R2_0.out.below (Nat.le_refl _) hb)
    have R3_1 := hid (R3_0.out.below (Nat.le_refl _) hb)
    have yR0_1 := hid (yR0_0.out.below (Nat.le_refl _) hb)
    have yR1_1 := hid (yR1_0.out.below (Nat.le_refl _) hb)
    have yR2_1 := hid (yR2_0.out.below (Nat.le_refl _) hb)
    have yR3_1 := hid (yR3_0.out.below (Nat.le_refl _) hb)
    have HB_1 := hid (bel_next HB_0.out HB_0.out.size hb)
    have t0_1 := cell_below hb (Nat.lt_of_succ_lt z_0) t0_0
    have yt0_1 := cell_below hb z_0 yt0_0
    have t1_1 := cell_below hb (Nat.lt_of_succ_lt z_0) t1_0
    have yt1_1 := cell_below hb z_0 yt1_0
    have t2_1 := cell_below hb (Nat.lt_of_succ_lt z_0) t2_0
    have yt2_1 := cell_below hb z_0 yt2_0
    have t3_1 := cell_below hb (Nat.lt_of_succ_lt z_0) t3_0
    have yt3_1 := cell_below hb z_0 yt3_0
    have z_1 := Nat.lt_of_lt_of_le z_0 hb.size
    clear hb R0_0 R1_0 R2_0 R3_0 yR0_0 yR1_0 yR2_0 yR3_0 HB_0 t0_0 yt0_0 t1_0 yt1_0 t2_0 yt2_0 t3_0 yt3_0 z_0
    go_wp2
    go_ret
    exact ⟨ret_bool (by rw [HF.out]; simp), HB_1.out⟩
  cases b1
  · skip
    go_enter Try.func15, Try.ntmps15
    go_wp2_with fail
    refine (u_eqTermS R0_0.out yR0_0.out).mono ?_
    rintro e w_1 ⟨rfl, hb⟩
    rw [HR0.out]
    have R0_1 := hid (R0_0.out.below (Nat.le_refl _) hb)
    have R1_1 := hid (R1_0.out.below (Nat.le_refl _) hb)
    have R2_1 := hid (R2_0.out.below (Nat.le_refl _) hb)
    have R3_1 := hid (R3_0.out.below (Nat.le_refl _) hb)
    have yR0_1 := hid (yR0_0.out.below (Nat.le_refl _) hb)
    have yR1_1 := hid (yR1_0.out.below (Nat.le_refl _) hb)
    have yR2_1 := hid (yR2_0.out.below (Nat.le_refl _) hb)
    have yR3_1 := hid (yR3_0.out.below (Nat.le_refl _) hb)
    have HB_1 := hid (bel_next HB_0.out HB_0.out.size hb)
    have t0_1 := cell_below hb (Nat.lt_of_succ_lt z_0) t0_0
    have yt0_1 := cell_below hb z_0 yt0_0
    have t1_1 := cell_below hb (Nat.lt_of_succ_lt z_0) t1_0
    have yt1_1 := cell_below hb z_0 yt1_0
    have t2_1 := cell_below hb (Nat.lt_of_succ_lt z_0) t2_0
    have yt2_1 := cell_below hb z_0 yt2_0
    have t3_1 := cell_below hb (Nat.lt_of_succ_lt z_0) t3_0
    have yt3_1 := cell_below hb z_0 yt3_0
    have z_1 := Nat.lt_of_lt_of_le z_0 hb.size
    clear hb R0_0 R1_0 R2_0 R3_0 yR0_0 yR1_0 yR2_0 yR3_0 HB_0 t0_0 yt0_0 t1_0 yt1_0 t2_0 yt2_0 t3_0 yt3_0 z_0
    go_wp2_with fail
    refine (u_eqTermS R1_1.out yR1_1.out).mono ?_
    rintro e w_2 ⟨rfl, hb⟩
    rw [HR1.out]
    have R0_2 := hid (R0_1.out.below (Nat.le_refl _) hb)
    have R1_2 := hid (R1_1.out.below (Nat.le_refl _) hb)
    have R2_2 := hid (R2_1.out.below (Nat.le_refl _) hb)
    have R3_2 := hid (R3_1.out.below (Nat.le_refl _) hb)
    have yR0_2 := hid (yR0_1.out.below (Nat.le_refl _) hb)
    have yR1_2 := hid (yR1_1.out.below (Nat.le_refl _) hb)
    have yR2_2 := hid (yR2_1.out.below (Nat.le_refl _) hb)
    have yR3_2 := hid (yR3_1.out.below (Nat.le_refl _) hb)
    have HB_2 := hid (bel_next HB_1.out HB_1.out.size hb)
    have t0_2 := cell_below hb (Nat.lt_of_succ_lt z_1) t0_1
    have yt0_2 := cell_below hb z_1 yt0_1
    have t1_2 := cell_below hb (Nat.lt_of_succ_lt z_1) t1_1
    have yt1_2 := cell_below hb z_1 yt1_1
    have t2_2 := cell_below hb (Nat.lt_of_succ_lt z_1) t2_1
    have yt2_2 := cell_below hb z_1 yt2_1
    have t3_2 := cell_below hb (Nat.lt_of_succ_lt z_1) t3_1
    have yt3_2 := cell_below hb z_1 yt3_1
    have z_2 := Nat.lt_of_lt_of_le z_1 hb.size
    clear hb R0_1 R1_1 R2_1 R3_1 yR0_1 yR1_1 yR2_1 yR3_1 HB_1 t0_1 yt0_1 t1_1 yt1_1 t2_1 yt2_1 t3_1 yt3_1 z_1
    go_wp2
    go_ret
    exact ⟨ret_bool (by rw [HF.out]; simp), HB_2.out⟩
  cases b2
  · skip
    go_enter Try.func15, Try.ntmps15
    go_wp2_with fail
    refine (u_eqTermS R0_0.out yR0_0.out).mono ?_
    rintro e w_1 ⟨rfl, hb⟩
    rw [HR0.out]
    have R0_1 := hid (R0_0.out.below (Nat.le_refl _) hb)
    have R1_1 := hid (R1_0.out.below (Nat.le_refl _) hb)
    have R2_1 := hid (R2_0.out.below (Nat.le_refl _) hb)
    have R3_1 := hid (R3_0.out.below (Nat.le_refl _) hb)
    have yR0_1 := hid (yR0_0.out.below (Nat.le_refl _) hb)
    have yR1_1 := hid (yR1_0.out.below (Nat.le_refl _) hb)
    have yR2_1 := hid (yR2_0.out.below (Nat.le_refl _) hb)
    have yR3_1 := hid (yR3_0.out.below (Nat.le_refl _) hb)
    have HB_1 := hid (bel_next HB_0.out HB_0.out.size hb)
    have t0_1 := cell_below hb (Nat.lt_of_succ_lt z_0) t0_0
    have yt0_1 := cell_below hb z_0 yt0_0
    have t1_1 := cell_below hb (Nat.lt_of_succ_lt z_0) t1_0
    have yt1_1 := cell_below hb z_0 yt1_0
    have t2_1 := cell_below hb (Nat.lt_of_succ_lt z_0) t2_0
    have yt2_1 := cell_below hb z_0 yt2_0
    have t3_1 := cell_below hb (Nat.lt_of_succ_lt z_0) t3_0
    have yt3_1 := cell_below hb z_0 yt3_0
    have z_1 := Nat.lt_of_lt_of_le z_0 hb.size
    clear hb R0_0 R1_0 R2_0 R3_0 yR0_0 yR1_0 yR2_0 yR3_0 HB_0 t0_0 yt0_0 t1_0 yt1_0 t2_0 yt2_0 t3_0 yt3_0 z_0
    go_wp2_with fail
    refine (u_eqTermS R1_1.out yR1_1.out).mono ?_
    rintro e w_2 ⟨rfl, hb⟩
    rw [HR1.out]
    have R0_2 := hid (R0_1.out.below (Nat.le_refl _) hb)
    have R1_2 := hid (R1_1.out.below (Nat.le_refl _) hb)
    have R2_2 := hid (R2_1.out.below (Nat.le_refl _) hb)
    have R3_2 := hid (R3_1.out.below (Nat.le_refl _) hb)
    have yR0_2 := hid (yR0_1.out.below (Nat.le_refl _) hb)
    have yR1_2 := hid (yR1_1.out.below (Nat.le_refl _) hb)
    have yR2_2 := hid (yR2_1.out.below (Nat.le_refl _) hb)
    have yR3_2 := hid (yR3_1.out.below (Nat.le_refl _) hb)
    have HB_2 := hid (bel_next HB_1.out HB_1.out.size hb)
    have t0_2 := cell_below hb (Nat.lt_of_succ_lt z_1) t0_1
    have yt0_2 := cell_below hb z_1 yt0_1
    have t1_2 := cell_below hb (Nat.lt_of_succ_lt z_1) t1_1
    have yt1_2 := cell_below hb z_1 yt1_1
    have t2_2 := cell_below hb (Nat.lt_of_succ_lt z_1) t2_1
    have yt2_2 := cell_below hb z_1 yt2_1
    have t3_2 := cell_below hb (Nat.lt_of_succ_lt z_1) t3_1
    have yt3_2 := cell_below hb z_1 yt3_1
    have z_2 := Nat.lt_of_lt_of_le z_1 hb.size
    clear hb R0_1 R1_1 R2_1 R3_1 yR0_1 yR1_1 yR2_1 yR3_1 HB_1 t0_1 yt0_1 t1_1 yt1_1 t2_1 yt2_1 t3_1 yt3_1 z_1
    go_wp2_with fail
    refine (u_eqInstrS R2_2.out yR2_2.out).mono ?_
    rintro e w_3 ⟨rfl, hb⟩
    rw [HR2.out]
    have R0_3 := hid (R0_2.out.below (Nat.le_refl _) hb)
    have R1_3 := hid (R1_2.out.below (Nat.le_refl _) hb)
    have R2_3 := hid (R2_2.out.below (Nat.le_refl _) hb)
    have R3_3 := hid (R3_2.out.below (Nat.le_refl _) hb)
    have yR0_3 := hid (yR0_2.out.below (Nat.le_refl _) hb)
    have yR1_3 := hid (yR1_2.out.below (Nat.le_refl _) hb)
    have yR2_3 := hid (yR2_2.out.below (Nat.le_refl _) hb)
    have yR3_3 := hid (yR3_2.out.below (Nat.le_refl _) hb)
    have HB_3 := hid (bel_next HB_2.out HB_2.out.size hb)
    have t0_3 := cell_below hb (Nat.lt_of_succ_lt z_2) t0_2
    have yt0_3 := cell_below hb z_2 yt0_2
    have t1_3 := cell_below hb (Nat.lt_of_succ_lt z_2) t1_2
    have yt1_3 := cell_below hb z_2 yt1_2
    have t2_3 := cell_below hb (Nat.lt_of_succ_lt z_2) t2_2
    have yt2_3 := cell_below hb z_2 yt2_2
    have t3_3 := cell_below hb (Nat.lt_of_succ_lt z_2) t3_2
    have yt3_3 := cell_below hb z_2 yt3_2
    have z_3 := Nat.lt_of_lt_of_le z_2 hb.size
    clear hb R0_2 R1_2 R2_2 R3_2 yR0_2 yR1_2 yR2_2 yR3_2 HB_2 t0_2 yt0_2 t1_2 yt1_2 t2_2 yt2_2 t3_2 yt3_2 z_2
    go_wp2
    go_ret
    exact ⟨ret_bool (by rw [HF.out]; simp), HB_3.out⟩
  cases b3
  · skip
    go_enter Try.func15, Try.ntmps15
    go_wp2_with fail
    refine (u_eqTermS R0_0.out yR0_0.out).mono ?_
    rintro e w_1 ⟨rfl, hb⟩
    rw [HR0.out]
    have R0_1 := hid (R0_0.out.below (Nat.le_refl _) hb)
    have R1_1 := hid (R1_0.out.below (Nat.le_refl _) hb)
    have R2_1 := hid (R2_0.out.below (Nat.le_refl _) hb)
    have R3_1 := hid (R3_0.out.below (Nat.le_refl _) hb)
    have yR0_1 := hid (yR0_0.out.below (Nat.le_refl _) hb)
    have yR1_1 := hid (yR1_0.out.below (Nat.le_refl _) hb)
    have yR2_1 := hid (yR2_0.out.below (Nat.le_refl _) hb)
    have yR3_1 := hid (yR3_0.out.below (Nat.le_refl _) hb)
    have HB_1 := hid (bel_next HB_0.out HB_0.out.size hb)
    have t0_1 := cell_below hb (Nat.lt_of_succ_lt z_0) t0_0
    have yt0_1 := cell_below hb z_0 yt0_0
    have t1_1 := cell_below hb (Nat.lt_of_succ_lt z_0) t1_0
    have yt1_1 := cell_below hb z_0 yt1_0
    have t2_1 := cell_below hb (Nat.lt_of_succ_lt z_0) t2_0
    have yt2_1 := cell_below hb z_0 yt2_0
    have t3_1 := cell_below hb (Nat.lt_of_succ_lt z_0) t3_0
    have yt3_1 := cell_below hb z_0 yt3_0
    have z_1 := Nat.lt_of_lt_of_le z_0 hb.size
    clear hb R0_0 R1_0 R2_0 R3_0 yR0_0 yR1_0 yR2_0 yR3_0 HB_0 t0_0 yt0_0 t1_0 yt1_0 t2_0 yt2_0 t3_0 yt3_0 z_0
    go_wp2_with fail
    refine (u_eqTermS R1_1.out yR1_1.out).mono ?_
    rintro e w_2 ⟨rfl, hb⟩
    rw [HR1.out]
    have R0_2 := hid (R0_1.out.below (Nat.le_refl _) hb)
    have R1_2 := hid (R1_1.out.below (Nat.le_refl _) hb)
    have R2_2 := hid (R2_1.out.below (Nat.le_refl _) hb)
    have R3_2 := hid (R3_1.out.below (Nat.le_refl _) hb)
    have yR0_2 := hid (yR0_1.out.below (Nat.le_refl _) hb)
    have yR1_2 := hid (yR1_1.out.below (Nat.le_refl _) hb)
    have yR2_2 := hid (yR2_1.out.below (Nat.le_refl _) hb)
    have yR3_2 := hid (yR3_1.out.below (Nat.le_refl _) hb)
    have HB_2 := hid (bel_next HB_1.out HB_1.out.size hb)
    have t0_2 := cell_below hb (Nat.lt_of_succ_lt z_1) t0_1
    have yt0_2 := cell_below hb z_1 yt0_1
    have t1_2 := cell_below hb (Nat.lt_of_succ_lt z_1) t1_1
    have yt1_2 := cell_below hb z_1 yt1_1
    have t2_2 := cell_below hb (Nat.lt_of_succ_lt z_1) t2_1
    have yt2_2 := cell_below hb z_1 yt2_1
    have t3_2 := cell_below hb (Nat.lt_of_succ_lt z_1) t3_1
    have yt3_2 := cell_below hb z_1 yt3_1
    have z_2 := Nat.lt_of_lt_of_le z_1 hb.size
    clear hb R0_1 R1_1 R2_1 R3_1 yR0_1 yR1_1 yR2_1 yR3_1 HB_1 t0_1 yt0_1 t1_1 yt1_1 t2_1 yt2_1 t3_1 yt3_1 z_1
    go_wp2_with fail
    refine (u_eqInstrS R2_2.out yR2_2.out).mono ?_
    rintro e w_3 ⟨rfl, hb⟩
    rw [HR2.out]
    have R0_3 := hid (R0_2.out.below (Nat.le_refl _) hb)
    have R1_3 := hid (R1_2.out.below (Nat.le_refl _) hb)
    have R2_3 := hid (R2_2.out.below (Nat.le_refl _) hb)
    have R3_3 := hid (R3_2.out.below (Nat.le_refl _) hb)
    have yR0_3 := hid (yR0_2.out.below (Nat.le_refl _) hb)
    have yR1_3 := hid (yR1_2.out.below (Nat.le_refl _) hb)
    have yR2_3 := hid (yR2_2.out.below (Nat.le_refl _) hb)
    have yR3_3 := hid (yR3_2.out.below (Nat.le_refl _) hb)
    have HB_3 := hid (bel_next HB_2.out HB_2.out.size hb)
    have t0_3 := cell_below hb (Nat.lt_of_succ_lt z_2) t0_2
    have yt0_3 := cell_below hb z_2 yt0_2
    have t1_3 := cell_below hb (Nat.lt_of_succ_lt z_2) t1_2
    have yt1_3 := cell_below hb z_2 yt1_2
    have t2_3 := cell_below hb (Nat.lt_of_succ_lt z_2) t2_2
    have yt2_3 := cell_below hb z_2 yt2_2
    have t3_3 := cell_below hb (Nat.lt_of_succ_lt z_2) t3_2
    have yt3_3 := cell_below hb z_2 yt3_2
    have z_3 := Nat.lt_of_lt_of_le z_2 hb.size
    clear hb R0_2 R1_2 R2_2 R3_2 yR0_2 yR1_2 yR2_2 yR3_2 HB_2 t0_2 yt0_2 t1_2 yt1_2 t2_2 yt2_2 t3_2 yt3_2 z_2
    go_wp2_with fail
    refine (u_eqPointS R3_3.out yR3_3.out).mono ?_
    rintro e w_4 ⟨rfl, hb⟩
    rw [HR3.out]
    have R0_4 := hid (R0_3.out.below (Nat.le_refl _) hb)
    have R1_4 := hid (R1_3.out.below (Nat.le_refl _) hb)
    have R2_4 := hid (R2_3.out.below (Nat.le_refl _) hb)
    have R3_4 := hid (R3_3.out.below (Nat.le_refl _) hb)
    have yR0_4 := hid (yR0_3.out.below (Nat.le_refl _) hb)
    have yR1_4 := hid (yR1_3.out.below (Nat.le_refl _) hb)
    have yR2_4 := hid (yR2_3.out.below (Nat.le_refl _) hb)
    have yR3_4 := hid (yR3_3.out.below (Nat.le_refl _) hb)
    have HB_4 := hid (bel_next HB_3.out HB_3.out.size hb)
    have t0_4 := cell_below hb (Nat.lt_of_succ_lt z_3) t0_3
    have yt0_4 := cell_below hb z_3 yt0_3
    have t1_4 := cell_below hb (Nat.lt_of_succ_lt z_3) t1_3
    have yt1_4 := cell_below hb z_3 yt1_3
    have t2_4 := cell_below hb (Nat.lt_of_succ_lt z_3) t2_3
    have yt2_4 := cell_below hb z_3 yt2_3
    have t3_4 := cell_below hb (Nat.lt_of_succ_lt z_3) t3_3
    have yt3_4 := cell_below hb z_3 yt3_3
    have z_4 := Nat.lt_of_lt_of_le z_3 hb.size
    clear hb R0_3 R1_3 R2_3 R3_3 yR0_3 yR1_3 yR2_3 yR3_3 HB_3 t0_3 yt0_3 t1_3 yt1_3 t2_3 yt2_3 t3_3 yt3_3 z_3
    go_wp2
    go_ret
    exact ⟨ret_bool (by rw [HF.out]; simp), HB_4.out⟩
  go_enter Try.func15, Try.ntmps15
  go_wp2_with fail
  refine (u_eqTermS R0_0.out yR0_0.out).mono ?_
  rintro e w_1 ⟨rfl, hb⟩
  rw [HR0.out]
  have R0_1 := hid (R0_0.out.below (Nat.le_refl _) hb)
  have R1_1 := hid (R1_0.out.below (Nat.le_refl _) hb)
  have R2_1 := hid (R2_0.out.below (Nat.le_refl _) hb)
  have R3_1 := hid (R3_0.out.below (Nat.le_refl _) hb)
  have yR0_1 := hid (yR0_0.out.below (Nat.le_refl _) hb)
  have yR1_1 := hid (yR1_0.out.below (Nat.le_refl _) hb)
  have yR2_1 := hid (yR2_0.out.below (Nat.le_refl _) hb)
  have yR3_1 := hid (yR3_0.out.below (Nat.le_refl _) hb)
  have HB_1 := hid (bel_next HB_0.out HB_0.out.size hb)
  have t0_1 := cell_below hb (Nat.lt_of_succ_lt z_0) t0_0
  have yt0_1 := cell_below hb z_0 yt0_0
  have t1_1 := cell_below hb (Nat.lt_of_succ_lt z_0) t1_0
  have yt1_1 := cell_below hb z_0 yt1_0
  have t2_1 := cell_below hb (Nat.lt_of_succ_lt z_0) t2_0
  have yt2_1 := cell_below hb z_0 yt2_0
  have t3_1 := cell_below hb (Nat.lt_of_succ_lt z_0) t3_0
  have yt3_1 := cell_below hb z_0 yt3_0
  have z_1 := Nat.lt_of_lt_of_le z_0 hb.size
  clear hb R0_0 R1_0 R2_0 R3_0 yR0_0 yR1_0 yR2_0 yR3_0 HB_0 t0_0 yt0_0 t1_0 yt1_0 t2_0 yt2_0 t3_0 yt3_0 z_0
  go_wp2_with fail
  refine (u_eqTermS R1_1.out yR1_1.out).mono ?_
  rintro e w_2 ⟨rfl, hb⟩
  rw [HR1.out]
  have R0_2 := hid (R0_1.out.below (Nat.le_refl _) hb)
  have R1_2 := hid (R1_1.out.below (Nat.le_refl _) hb)
  have R2_2 := hid (R2_1.out.below (Nat.le_refl _) hb)
  have R3_2 := hid (R3_1.out.below (Nat.le_refl _) hb)
  have yR0_2 := hid (yR0_1.out.below (Nat.le_refl _) hb)
  have yR1_2 := hid (yR1_1.out.below (Nat.le_refl _) hb)
  have yR2_2 := hid (yR2_1.out.below (Nat.le_refl _) hb)
  have yR3_2 := hid (yR3_1.out.below (Nat.le_refl _) hb)
  have HB_2 := hid (bel_next HB_1.out HB_1.out.size hb)
  have t0_2 := cell_below hb (Nat.lt_of_succ_lt z_1) t0_1
  have yt0_2 := cell_below hb z_1 yt0_1
  have t1_2 := cell_below hb (Nat.lt_of_succ_lt z_1) t1_1
  have yt1_2 := cell_below hb z_1 yt1_1
  have t2_2 := cell_below hb (Nat.lt_of_succ_lt z_1) t2_1
  have yt2_2 := cell_below hb z_1 yt2_1
  have t3_2 := cell_below hb (Nat.lt_of_succ_lt z_1) t3_1
  have yt3_2 := cell_below hb z_1 yt3_1
  have z_2 := Nat.lt_of_lt_of_le z_1 hb.size
  clear hb R0_1 R1_1 R2_1 R3_1 yR0_1 yR1_1 yR2_1 yR3_1 HB_1 t0_1 yt0_1 t1_1 yt1_1 t2_1 yt2_1 t3_1 yt3_1 z_1
  go_wp2_with fail
  refine (u_eqInstrS R2_2.out yR2_2.out).mono ?_
  rintro e w_3 ⟨rfl, hb⟩
  rw [HR2.out]
  have R0_3 := hid (R0_2.out.below (Nat.le_refl _) hb)
  have R1_3 := hid (R1_2.out.below (Nat.le_refl _) hb)
  have R2_3 := hid (R2_2.out.below (Nat.le_refl _) hb)
  have R3_3 := hid (R3_2.out.below (Nat.le_refl _) hb)
  have yR0_3 := hid (yR0_2.out.below (Nat.le_refl _) hb)
  have yR1_3 := hid (yR1_2.out.below (Nat.le_refl _) hb)
  have yR2_3 := hid (yR2_2.out.below (Nat.le_refl _) hb)
  have yR3_3 := hid (yR3_2.out.below (Nat.le_refl _) hb)
  have HB_3 := hid (bel_next HB_2.out HB_2.out.size hb)
  have t0_3 := cell_below hb (Nat.lt_of_succ_lt z_2) t0_2
  have yt0_3 := cell_below hb z_2 yt0_2
  have t1_3 := cell_below hb (Nat.lt_of_succ_lt z_2) t1_2
  have yt1_3 := cell_below hb z_2 yt1_2
  have t2_3 := cell_below hb (Nat.lt_of_succ_lt z_2) t2_2
  have yt2_3 := cell_below hb z_2 yt2_2
  have t3_3 := cell_below hb (Nat.lt_of_succ_lt z_2) t3_2
  have yt3_3 := cell_below hb z_2 yt3_2
  have z_3 := Nat.lt_of_lt_of_le z_2 hb.size
  clear hb R0_2 R1_2 R2_2 R3_2 yR0_2 yR1_2 yR2_2 yR3_2 HB_2 t0_2 yt0_2 t1_2 yt1_2 t2_2 yt2_2 t3_2 yt3_2 z_2
  go_wp2_with fail
  refine (u_eqPointS R3_3.out yR3_3.out).mono ?_
  rintro e w_4 ⟨rfl, hb⟩
  rw [HR3.out]
  have R0_4 := hid (R0_3.out.below (Nat.le_refl _) hb)
  have R1_4 := hid (R1_3.out.below (Nat.le_refl _) hb)
  have R2_4 := hid (R2_3.out.below (Nat.le_refl _) hb)
  have R3_4 := hid (R3_3.out.below (Nat.le_refl _) hb)
  have yR0_4 := hid (yR0_3.out.below (Nat.le_refl _) hb)
  have yR1_4 := hid (yR1_3.out.below (Nat.le_refl _) hb)
  have yR2_4 := hid (yR2_3.out.below (Nat.le_refl _) hb)
  have yR3_4 := hid (yR3_3.out.below (Nat.le_refl _) hb)
  have HB_4 := hid (bel_next HB_3.out HB_3.out.size hb)
  have t0_4 := cell_below hb (Nat.lt_of_succ_lt z_3) t0_3
  have yt0_4 := cell_below hb z_3 yt0_3
  have t1_4 := cell_below hb (Nat.lt_of_succ_lt z_3) t1_3
  have yt1_4 := cell_below hb z_3 yt1_3
  have t2_4 := cell_below hb (Nat.lt_of_succ_lt z_3) t2_3
  have yt2_4 := cell_below hb z_3 yt2_3
  have t3_4 := cell_below hb (Nat.lt_of_succ_lt z_3) t3_3
  have yt3_4 := cell_below hb z_3 yt3_3
  have z_4 := Nat.lt_of_lt_of_le z_3 hb.size
  clear hb R0_3 R1_3 R2_3 R3_3 yR0_3 yR1_3 yR2_3 yR3_3 HB_3 t0_3 yt0_3 t1_3 yt1_3 t2_3 yt2_3 t3_3 yt3_3 z_3
  go_wp2
  go_ret
  exact ⟨ret_bool (by rw [HF.out]; simp), HB_4.out⟩
def RetAnnotated (x : An) (w : World) (e : Ending) (w' : World) : Prop :=
  ∃ a0 p0 a1 p1 a2 p2 a3 p3, e = .returned (.agg #[.slice a0 x.1.length p0, .slice a1 x.2.1.length p1, .slice a2 x.2.2.1.length p2, .slice a3 x.2.2.2.length p3]) ∧ SlRd cTerm (Fresh w.heap.size w') w' a0 p0 x.1 ∧ SlRd cTerm (Fresh w.heap.size w') w' a1 p1 x.2.1 ∧ SlRd cInstr (Fresh w.heap.size w') w' a2 p2 x.2.2.1 ∧ SlRd cPoint (Fresh w.heap.size w') w' a3 p3 x.2.2.2 ∧ Below w.heap.size w w'
set_option maxRecDepth 100000 in
set_option maxHeartbeats 1000000 in
theorem u_toAnnotated {S : Nat → Prop} {a0 : Option Addr} {p0 : Nat} {d0 : List Term} {a1 : Option Addr} {p1 : Nat} {d1 : List Term} {a2 : Option Addr} {p2 : Nat} {d2 : List Instr} {a3 : Option Addr} {p3 : Nat} {d3 : List Pt} {w : World} (h0 : SlRd cTerm S w a0 p0 d0) (h1 : SlRd cTerm S w a1 p1 d1) (h2 : SlRd cInstr S w a2 p2 d2) (h3 : SlRd cPoint S w a3 p3 d3) (hz : (szTs d0 + szTs d1 + d2.length + szPts d3) ≤ 1048576) :
    Calls Try.prog 12 #[.agg #[.slice a0 d0.length p0, .slice a1 d1.length p1, .slice a2 d2.length p2, .slice a3 d3.length p3]] w (RetAnnotated (d0, d1, d2, d3) w) := by
  have h0 := h0.keep (S' := fun b => S b ∧ b < w.heap.size) (w' := w) (fun b hb hlt => ⟨⟨hb, hlt⟩, rfl⟩)
  have R0_0 := hid (((h0.alloc (.cells #[.slice a0 d0.length p0, .slice a1 d1.length p1, .slice a2 d2.length p2, .slice a3 d3.length p3] 26)).alloc (.cells #[.slice none 0 0, .slice none 0 0, .slice none 0 0, .slice none 0 0] 35)).alloc (.cells #[.slice none 0 0, .slice none 0 0, .slice none 0 0, .slice none 0 0] 35))
  have h1 := h1.keep (S' := fun b => S b ∧ b < w.heap.size) (w' := w) (fun b hb hlt => ⟨⟨hb, hlt⟩, rfl⟩)
  have R1_0 := hid (((h1.alloc (.cells #[.slice a0 d0.length p0, .slice a1 d1.length p1, .slice a2 d2.length p2, .slice a3 d3.length p3] 26)).alloc (.cells #[.slice none 0 0, .slice none 0 0, .slice none 0 0, .slice none 0 0] 35)).alloc (.cells #[.slice none 0 0, .slice none 0 0, .slice none 0 0, .slice none 0 0] 35))
  have h2 := h2.keep (S' := fun b => S b ∧ b < w.heap.size) (w' := w) (fun b hb hlt => ⟨⟨hb, hlt⟩, rfl⟩)
  have R2_0 := hid (((h2.alloc (.cells #[.slice a0 d0.length p0, .slice a1 d1.length p1, .slice a2 d2.length p2, .slice a3 d3.length p3] 26)).alloc (.cells #[.slice none 0 0, .slice none 0 0, .slice none 0 0, .slice none 0 0] 35)).alloc (.cells #[.slice none 0 0, .slice none 0 0, .slice none 0 0, .slice none 0 0] 35))
  have h3 := h3.keep (S' := fun b => S b ∧ b < w.heap.size) (w' := w) (fun b hb hlt => ⟨⟨hb, hlt⟩, rfl⟩)
  have R3_0 := hid (((h3.alloc (.cells #[.slice a0 d0.length p0, .slice a1 d1.length p1, .slice a2 d2.length p2, .slice a3 d3.length p3] 26)).alloc (.cells #[.slice none 0 0, .slice none 0 0, .slice none 0 0, .slice none 0 0] 35)).alloc (.cells #[.slice none 0 0, .slice none 0 0, .slice none 0 0, .slice none 0 0] 35))
  have HB_0 : Hid (Below w.heap.size w (((w.alloc (.cells #[.slice a0 d0.length p0, .slice a1 d1.length p1, .slice a2 d2.length p2, .slice a3 d3.length p3] 26)).alloc (.cells #[.slice none 0 0, .slice none 0 0, .slice none 0 0, .slice none 0 0] 35)).alloc (.cells #[.slice none 0 0, .slice none 0 0, .slice none 0 0, .slice none 0 0] 35))) := (((Below.refl _ _).alloc (Nat.le_refl _) _).alloc (by simp) _).alloc (by simp; omega) _
  have z_0 : w.heap.size + 1 + 1 < (((w.alloc (.cells #[.slice a0 d0.length p0, .slice a1 d1.length p1, .slice a2 d2.length p2, .slice a3 d3.length p3] 26)).alloc (.cells #[.slice none 0 0, .slice none 0 0, .slice none 0 0, .slice none 0 0] 35)).alloc (.cells #[.slice none 0 0, .slice none 0 0, .slice none 0 0, .slice none 0 0] 35)).heap.size := by simp
  have KB_0 : Hid ((((w.alloc (.cells #[.slice a0 d0.length p0, .slice a1 d1.length p1, .slice a2 d2.length p2, .slice a3 d3.length p3] 26)).alloc (.cells #[.slice none 0 0, .slice none 0 0, .slice none 0 0, .slice none 0 0] 35)).alloc (.cells #[.slice none 0 0, .slice none 0 0, .slice none 0 0, .slice none 0 0] 35)).heap[w.heap.size]? = some (.cells #[.slice a0 d0.length p0, .slice a1 d1.length p1, .slice a2 d2.length p2, .slice a3 d3.length p3] 26 (0, 0))) := by unfold Hid; rw [Below.heap_alloc _ _ _ (by simp; omega), Below.heap_alloc _ _ _ (by simp)]; exact new_at rfl
  have KR_0 : Hid ((((w.alloc (.cells #[.slice a0 d0.length p0, .slice a1 d1.length p1, .slice a2 d2.length p2, .slice a3 d3.length p3] 26)).alloc (.cells #[.slice none 0 0, .slice none 0 0, .slice none 0 0, .slice none 0 0] 35)).alloc (.cells #[.slice none 0 0, .slice none 0 0, .slice none 0 0, .slice none 0 0] 35)).heap[w.heap.size + 1]? = some (.cells #[.slice none 0 0, .slice none 0 0, .slice none 0 0, .slice none 0 0] 35 (0, 0))) := by unfold Hid; rw [Below.heap_alloc _ _ _ (by simp)]; exact new_at (by simp)
  have KL_0 : Hid ((((w.alloc (.cells #[.slice a0 d0.length p0, .slice a1 d1.length p1, .slice a2 d2.length p2, .slice a3 d3.length p3] 26)).alloc (.cells #[.slice none 0 0, .slice none 0 0, .slice none 0 0, .slice none 0 0] 35)).alloc (.cells #[.slice none 0 0, .slice none 0 0, .slice none 0 0, .slice none 0 0] 35)).heap[w.heap.size + 1 + 1]? = some (.cells #[.slice none 0 0, .slice none 0 0, .slice none 0 0, .slice none 0 0] 35 (0, 0))) := new_at (by simp)
  clear h0 h1 h2 h3
  go_enter Try.func12, Try.ntmps12
  go_wp2_with fail
  generalize (((w.alloc (.cells #[.slice a0 d0.length p0, .slice a1 d1.length p1, .slice a2 d2.length p2, .slice a3 d3.length p3] 26)).alloc (.cells #[.slice none 0 0, .slice none 0 0, .slice none 0 0, .slice none 0 0] 35)).alloc (.cells #[.slice none 0 0, .slice none 0 0, .slice none 0 0, .slice none 0 0] 35)) = wc_0 at *
  refine (u_toTermS R0_0.out (by omega)).mono ?_
  rintro e w_1 ⟨na0, np0, rfl, hs0, hb⟩
  have R0_1 := hid (R0_0.out.below (Nat.le_refl _) hb)
  have R1_1 := hid (R1_0.out.below (Nat.le_refl _) hb)
  have R2_1 := hid (R2_0.out.below (Nat.le_refl _) hb)
  have R3_1 := hid (R3_0.out.below (Nat.le_refl _) hb)
  have N0_1 := hid (hs0.lower (B' := w.heap.size + 1 + 1 + 1) z_0)
  have HB_1 := hid (bel_next HB_0.out HB_0.out.size hb)
  have KB_1 := hid ((hb.block (w.heap.size) (by omega)).trans KB_0.out)
  have KR_1 := hid ((hb.block (w.heap.size + 1) (by omega)).trans KR_0.out)
  have KL_1 := hid ((hb.block (w.heap.size + 1 + 1) (by omega)).trans KL_0.out)
  have z_1 := Nat.lt_of_lt_of_le z_0 hb.size
  clear hb hs0 R0_0 R1_0 R2_0 R3_0  HB_0 KB_0 KR_0 KL_0 z_0
  have tb0 := cell_of KB_1.out (j := 0) rfl
  have tl0 := cell_of KL_1.out (j := 0) rfl
  have fl0 := frz_of KL_1.out 0
  have tb1 := cell_of KB_1.out (j := 1) rfl
  have tl1 := cell_of KL_1.out (j := 1) rfl
  have fl1 := frz_of KL_1.out 1
  have tb2 := cell_of KB_1.out (j := 2) rfl
  have tl2 := cell_of KL_1.out (j := 2) rfl
  have fl2 := frz_of KL_1.out 2
  have tb3 := cell_of KB_1.out (j := 3) rfl
  have tl3 := cell_of KL_1.out (j := 3) rfl
  have fl3 := frz_of KL_1.out 3
  go_wp2_with fail
  clear tb0 tl0 fl0 tb1 tl1 fl1 tb2 tl2 fl2 tb3 tl3 fl3
  have R0_1 : Hid (SlRd cTerm (fun b => S b ∧ b < w.heap.size) (w_1.setCell ⟨w.heap.size + 1 + 1, 0, none⟩ (.slice na0 d0.length np0)) a0 p0 d0) := R0_1.out.set_ne (p := ⟨w.heap.size + 1 + 1, 0, none⟩) (fun b h => by have h2 := h.2; show b ≠ w.heap.size + 1 + 1; omega) _
  have R1_1 : Hid (SlRd cTerm (fun b => S b ∧ b < w.heap.size) (w_1.setCell ⟨w.heap.size + 1 + 1, 0, none⟩ (.slice na0 d0.length np0)) a1 p1 d1) := R1_1.out.set_ne (p := ⟨w.heap.size + 1 + 1, 0, none⟩) (fun b h => by have h2 := h.2; show b ≠ w.heap.size + 1 + 1; omega) _
  have R2_1 : Hid (SlRd cInstr (fun b => S b ∧ b < w.heap.size) (w_1.setCell ⟨w.heap.size + 1 + 1, 0, none⟩ (.slice na0 d0.length np0)) a2 p2 d2) := R2_1.out.set_ne (p := ⟨w.heap.size + 1 + 1, 0, none⟩) (fun b h => by have h2 := h.2; show b ≠ w.heap.size + 1 + 1; omega) _
  have R3_1 : Hid (SlRd cPoint (fun b => S b ∧ b < w.heap.size) (w_1.setCell ⟨w.heap.size + 1 + 1, 0, none⟩ (.slice na0 d0.length np0)) a3 p3 d3) := R3_1.out.set_ne (p := ⟨w.heap.size + 1 + 1, 0, none⟩) (fun b h => by have h2 := h.2; show b ≠ w.heap.size + 1 + 1; omega) _
  have N0_1 := hid (N0_1.out.setC (p := ⟨w.heap.size + 1 + 1, 0, none⟩) (by simp) (.slice na0 d0.length np0))
  have HB_1 := hid (HB_1.out.setCell (p := ⟨w.heap.size + 1 + 1, 0, none⟩) (by simp; omega) (.slice na0 d0.length np0))
  have KB_1 := hid (blk_ne (b := w.heap.size) (p := ⟨w.heap.size + 1 + 1, 0, none⟩) (by simp; omega) KB_1.out (.slice na0 d0.length np0))
  have KR_1 := hid (blk_ne (b := w.heap.size + 1) (p := ⟨w.heap.size + 1 + 1, 0, none⟩) (by simp) KR_1.out (.slice na0 d0.length np0))
  have KL_1 : Hid ((w_1.setCell ⟨w.heap.size + 1 + 1, 0, none⟩ (.slice na0 d0.length np0)).heap[w.heap.size + 1 + 1]? = some (.cells #[.slice na0 d0.length np0, .slice none 0 0, .slice none 0 0, .slice none 0 0] 35 (0, 0))) := blk_set KL_1.out 0 (.slice na0 d0.length np0)
  have z_1 : w.heap.size + 1 + 1 < (w_1.setCell ⟨w.heap.size + 1 + 1, 0, none⟩ (.slice na0 d0.length np0)).heap.size := by rw [size_set]; exact z_1
  generalize (w_1.setCell ⟨w.heap.size + 1 + 1, 0, none⟩ (.slice na0 d0.length np0)) = wc_1 at *
  refine (u_toTermS R1_1.out (by omega)).mono ?_
  rintro e w_2 ⟨na1, np1, rfl, hs1, hb⟩
  have R0_2 := hid (R0_1.out.below (Nat.le_refl _) hb)
  have R1_2 := hid (R1_1.out.below (Nat.le_refl _) hb)
  have R2_2 := hid (R2_1.out.below (Nat.le_refl _) hb)
  have R3_2 := hid (R3_1.out.below (Nat.le_refl _) hb)
  have N0_2 := hid (N0_1.out.fresh (Nat.le_refl _) (Nat.le_refl _) hb)
  have N1_2 := hid (hs1.lower (B' := w.heap.size + 1 + 1 + 1) z_1)
  have HB_2 := hid (bel_next HB_1.out HB_1.out.size hb)
  have KB_2 := hid ((hb.block (w.heap.size) (by omega)).trans KB_1.out)
  have KR_2 := hid ((hb.block (w.heap.size + 1) (by omega)).trans KR_1.out)
  have KL_2 := hid ((hb.block (w.heap.size + 1 + 1) (by omega)).trans KL_1.out)
  have z_2 := Nat.lt_of_lt_of_le z_1 hb.size
  clear hb hs1 R0_1 R1_1 R2_1 R3_1 N0_1 HB_1 KB_1 KR_1 KL_1 z_1
  have tb0 := cell_of KB_2.out (j := 0) rfl
  have tl0 := cell_of KL_2.out (j := 0) rfl
  have fl0 := frz_of KL_2.out 0
  have tb1 := cell_of KB_2.out (j := 1) rfl
  have tl1 := cell_of KL_2.out (j := 1) rfl
  have fl1 := frz_of KL_2.out 1
  have tb2 := cell_of KB_2.out (j := 2) rfl
  have tl2 := cell_of KL_2.out (j := 2) rfl
  have fl2 := frz_of KL_2.out 2
  have tb3 := cell_of KB_2.out (j := 3) rfl
  have tl3 := cell_of KL_2.out (j := 3) rfl
  have fl3 := frz_of KL_2.out 3
  go_wp2_with fail
  clear tb0 tl0 fl0 tb1 tl1 fl1 tb2 tl2 fl2 tb3 tl3 fl3
  have R0_2 : Hid (SlRd cTerm (fun b => S b ∧ b < w.heap.size) (w_2.setCell ⟨w.heap.size + 1 + 1, 1, none⟩ (.slice na1 d1.length np1)) a0 p0 d0) := R0_2.out.set_ne (p := ⟨w.heap.size + 1 + 1, 1, none⟩) (fun b h => by have h2 := h.2; show b ≠ w.heap.size + 1 + 1; omega) _
  have R1_2 : Hid (SlRd cTerm (fun b => S b ∧ b < w.heap.size) (w_2.setCell ⟨w.heap.size + 1 + 1, 1, none⟩ (.slice na1 d1.length np1)) a1 p1 d1) := R1_2.out.set_ne (p := ⟨w.heap.size + 1 + 1, 1, none⟩) (fun b h => by have h2 := h.2; show b ≠ w.heap.size + 1 + 1; omega) _
  have R2_2 : Hid (SlRd cInstr (fun b => S b ∧ b < w.heap.size) (w_2.setCell ⟨w.heap.size + 1 + 1, 1, none⟩ (.slice na1 d1.length np1)) a2 p2 d2) := R2_2.out.set_ne (p := ⟨w.heap.size + 1 + 1, 1, none⟩) (fun b h => by have h2 := h.2; show b ≠ w.heap.size + 1 + 1; omega) _
  have R3_2 : Hid (SlRd cPoint (fun b => S b ∧ b < w.heap.size) (w_2.setCell ⟨w.heap.size + 1 + 1, 1, none⟩ (.slice na1 d1.length np1)) a3 p3 d3) := R3_2.out.set_ne (p := ⟨w.heap.size + 1 + 1, 1, none⟩) (fun b h => by have h2 := h.2; show b ≠ w.heap.size + 1 + 1; omega) _
  have N0_2 := hid (N0_2.out.setC (p := ⟨w.heap.size + 1 + 1, 1, none⟩) (by simp) (.slice na1 d1.length np1))
  have N1_2 := hid (N1_2.out.setC (p := ⟨w.heap.size + 1 + 1, 1, none⟩) (by simp) (.slice na1 d1.length np1))
  have HB_2 := hid (HB_2.out.setCell (p := ⟨w.heap.size + 1 + 1, 1, none⟩) (by simp; omega) (.slice na1 d1.length np1))
  have KB_2 := hid (blk_ne (b := w.heap.size) (p := ⟨w.heap.size + 1 + 1, 1, none⟩) (by simp; omega) KB_2.out (.slice na1 d1.length np1))
  have KR_2 := hid (blk_ne (b := w.heap.size + 1) (p := ⟨w.heap.size + 1 + 1, 1, none⟩) (by simp) KR_2.out (.slice na1 d1.length np1))
  have KL_2 : Hid ((w_2.setCell ⟨w.heap.size + 1 + 1, 1, none⟩ (.slice na1 d1.length np1)).heap[w.heap.size + 1 + 1]? = some (.cells #[.slice na0 d0.length np0, .slice na1 d1.length np1, .slice none 0 0, .slice none 0 0] 35 (0, 0))) := blk_set KL_2.out 1 (.slice na1 d1.length np1)
  have z_2 : w.heap.size + 1 + 1 < (w_2.setCell ⟨w.heap.size + 1 + 1, 1, none⟩ (.slice na1 d1.length np1)).heap.size := by rw [size_set]; exact z_2
  generalize (w_2.setCell ⟨w.heap.size + 1 + 1, 1, none⟩ (.slice na1 d1.length np1)) = wc_2 at *
  refine (u_toInstrS R2_2.out (by omega)).mono ?_
  rintro e w_3 ⟨na2, np2, rfl, hs2, hb⟩
  have R0_3 := hid (R0_2.out.below (Nat.le_refl _) hb)
  have R1_3 := hid (R1_2.out.below (Nat.le_refl _) hb)
  have R2_3 := hid (R2_2.out.below (Nat.le_refl _) hb)
  have R3_3 := hid (R3_2.out.below (Nat.le_refl _) hb)
  have N0_3 := hid (N0_2.out.fresh (Nat.le_refl _) (Nat.le_refl _) hb)
  have N1_3 := hid (N1_2.out.fresh (Nat.le_refl _) (Nat.le_refl _) hb)
  have N2_3 := hid (hs2.lower (B' := w.heap.size + 1 + 1 + 1) z_2)
  have HB_3 := hid (bel_next HB_2.out HB_2.out.size hb)
  have KB_3 := hid ((hb.block (w.heap.size) (by omega)).trans KB_2.out)
  have KR_3 := hid ((hb.block (w.heap.size + 1) (by omega)).trans KR_2.out)
  have KL_3 := hid ((hb.block (w.heap.size + 1 + 1) (by omega)).trans KL_2.out)
  have z_3 := Nat.lt_of_lt_of_le z_2 hb.size
  clear hb hs2 R0_2 R1_2 R2_2 R3_2 N0_2 N1_2 HB_2 KB_2 KR_2 KL_2 z_2
  have tb0 := cell_of KB_3.out (j := 0) rfl
  have tl0 := cell_of KL_3.out (j := 0) rfl
  have fl0 := frz_of KL_3.out 0
  have tb1 := cell_of KB_3.out (j := 1) rfl
  have tl1 := cell_of KL_3.out (j := 1) rfl
  have fl1 := frz_of KL_3.out 1
  have tb2 := cell_of KB_3.out (j := 2) rfl
  have tl2 := cell_of KL_3.out (j := 2) rfl
  have fl2 := frz_of KL_3.out 2
  have tb3 := cell_of KB_3.out (j := 3) rfl
  have tl3 := cell_of KL_3.out (j := 3) rfl
  have fl3 := frz_of KL_3.out 3
  go_wp2_with fail
  clear tb0 tl0 fl0 tb1 tl1 fl1 tb2 tl2 fl2 tb3 tl3 fl3
  have R0_3 : Hid (SlRd cTerm (fun b => S b ∧ b < w.heap.size) (w_3.setCell ⟨w.heap.size + 1 + 1, 2, none⟩ (.slice na2 d2.length np2)) a0 p0 d0) := R0_3.out.set_ne (p := ⟨w.heap.size + 1 + 1, 2, none⟩) (fun b h => by have h2 := h.2; show b ≠ w.heap.size + 1 + 1; omega) _
  have R1_3 : Hid (SlRd cTerm (fun b => S b ∧ b < w.heap.size) (w_3.setCell ⟨w.heap.size + 1 + 1, 2, none⟩ (.slice na2 d2.length np2)) a1 p1 d1) := R1_3.out.set_ne (p := ⟨w.heap.size + 1 + 1, 2, none⟩) (fun b h => by have h2 := h.2; show b ≠ w.heap.size + 1 + 1; omega) _
  have R2_3 : Hid (SlRd cInstr (fun b => S b ∧ b < w.heap.size) (w_3.setCell ⟨w.heap.size + 1 + 1, 2, none⟩ (.slice na2 d2.length np2)) a2 p2 d2) := R2_3.out.set_ne (p := ⟨w.heap.size + 1 + 1, 2, none⟩) (fun b h => by have h2 := h.2; show b ≠ w.heap.size + 1 + 1; omega) _
  have R3_3 : Hid (SlRd cPoint (fun b => S b ∧ b < w.heap.size) (w_3.setCell ⟨w.heap.size + 1 + 1, 2, none⟩ (.slice na2 d2.length np2)) a3 p3 d3) := R3_3.out.set_ne (p := ⟨w.heap.size + 1 + 1, 2, none⟩) (fun b h => by have h2 := h.2; show b ≠ w.heap.size + 1 + 1; omega) _
  have N0_3 := hid (N0_3.out.setC (p := ⟨w.heap.size + 1 + 1, 2, none⟩) (by simp) (.slice na2 d2.length np2))
  have N1_3 := hid (N1_3.out.setC (p := ⟨w.heap.size + 1 + 1, 2, none⟩) (by simp) (.slice na2 d2.length np2))
  have N2_3 := hid (N2_3.out.setC (p := ⟨w.heap.size + 1 + 1, 2, none⟩) (by simp) (.slice na2 d2.length np2))
  have HB_3 := hid (HB_3.out.setCell (p := ⟨w.heap.size + 1 + 1, 2, none⟩) (by simp; omega) (.slice na2 d2.length np2))
  have KB_3 := hid (blk_ne (b := w.heap.size) (p := ⟨w.heap.size + 1 + 1, 2, none⟩) (by simp; omega) KB_3.out (.slice na2 d2.length np2))
  have KR_3 := hid (blk_ne (b := w.heap.size + 1) (p := ⟨w.heap.size + 1 + 1, 2, none⟩) (by simp) KR_3.out (.slice na2 d2.length np2))
  have KL_3 : Hid ((w_3.setCell ⟨w.heap.size + 1 + 1, 2, none⟩ (.slice na2 d2.length np2)).heap[w.heap.size + 1 + 1]? = some (.cells #[.slice na0 d0.length np0, .slice na1 d1.length np1, .slice na2 d2.length np2, .slice none 0 0] 35 (0, 0))) := blk_set KL_3.out 2 (.slice na2 d2.length np2)
  have z_3 : w.heap.size + 1 + 1 < (w_3.setCell ⟨w.heap.size + 1 + 1, 2, none⟩ (.slice na2 d2.length np2)).heap.size := by rw [size_set]; exact z_3
  generalize (w_3.setCell ⟨w.heap.size + 1 + 1, 2, none⟩ (.slice na2 d2.length np2)) = wc_3 at *
  refine (u_toPointS R3_3.out (by omega)).mono ?_
  rintro e w_4 ⟨na3, np3, rfl, hs3, hb⟩
  have R0_4 := hid (R0_3.out.below (Nat.le_refl _) hb)
  have R1_4 := hid (R1_3.out.below (Nat.le_refl _) hb)
  have R2_4 := hid (R2_3.out.below (Nat.le_refl _) hb)
  have R3_4 := hid (R3_3.out.below (Nat.le_refl _) hb)
  have N0_4 := hid (N0_3.out.fresh (Nat.le_refl _) (Nat.le_refl _) hb)
  have N1_4 := hid (N1_3.out.fresh (Nat.le_refl _) (Nat.le_refl _) hb)
  have N2_4 := hid (N2_3.out.fresh (Nat.le_refl _) (Nat.le_refl _) hb)
  have N3_4 := hid (hs3.lower (B' := w.heap.size + 1 + 1 + 1) z_3)
  have HB_4 := hid (bel_next HB_3.out HB_3.out.size hb)
  have KB_4 := hid ((hb.block (w.heap.size) (by omega)).trans KB_3.out)
  have KR_4 := hid ((hb.block (w.heap.size + 1) (by omega)).trans KR_3.out)
  have KL_4 := hid ((hb.block (w.heap.size + 1 + 1) (by omega)).trans KL_3.out)
  have z_4 := Nat.lt_of_lt_of_le z_3 hb.size
  clear hb hs3 R0_3 R1_3 R2_3 R3_3 N0_3 N1_3 N2_3 HB_3 KB_3 KR_3 KL_3 z_3
  have tb0 := cell_of KB_4.out (j := 0) rfl
  have tl0 := cell_of KL_4.out (j := 0) rfl
  have fl0 := frz_of KL_4.out 0
  have tr0 := cell_of KR_4.out (j := 0) rfl
  have fr0 := frz_of KR_4.out 0
  have tb1 := cell_of KB_4.out (j := 1) rfl
  have tl1 := cell_of KL_4.out (j := 1) rfl
  have fl1 := frz_of KL_4.out 1
  have tr1 := cell_of KR_4.out (j := 1) rfl
  have fr1 := frz_of KR_4.out 1
  have tb2 := cell_of KB_4.out (j := 2) rfl
  have tl2 := cell_of KL_4.out (j := 2) rfl
  have fl2 := frz_of KL_4.out 2
  have tr2 := cell_of KR_4.out (j := 2) rfl
  have fr2 := frz_of KR_4.out 2
  have tb3 := cell_of KB_4.out (j := 3) rfl
  have tl3 := cell_of KL_4.out (j := 3) rfl
  have fl3 := frz_of KL_4.out 3
  have tr3 := cell_of KR_4.out (j := 3) rfl
  have fr3 := frz_of KR_4.out 3
  go_wp2
  refine bodyPost_ret (v := .agg #[.slice na0 d0.length np0, .slice na1 d1.length np1, .slice na2 d2.length np2, .slice na3 d3.length np3]) (by simp [results, Try.results12, go_sem, tr0, tr1, tr2, tr3]) rfl ⟨na0, np0, na1, np1, na2, np2, na3, np3, rfl, ?_, ?_, ?_, ?_, ?_⟩
  · exact (((((N0_4.out.setC (by simp) _).setC (by simp) _).setC (by simp) _).setC (by simp) _).setC (by simp) _).lower (by omega)
  · exact (((((N1_4.out.setC (by simp) _).setC (by simp) _).setC (by simp) _).setC (by simp) _).setC (by simp) _).lower (by omega)
  · exact (((((N2_4.out.setC (by simp) _).setC (by simp) _).setC (by simp) _).setC (by simp) _).setC (by simp) _).lower (by omega)
  · exact (((((N3_4.out.setC (by simp) _).setC (by simp) _).setC (by simp) _).setC (by simp) _).setC (by simp) _).lower (by omega)
  · exact (((((HB_4.out.setCell (by simp <;> omega) _).setCell (by simp <;> omega) _).setCell (by simp <;> omega) _).setCell (by simp <;> omega) _).setCell (by simp <;> omega) _)
end Go.Proofs.Ytedmhdinfedhhaa
