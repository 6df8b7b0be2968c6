/- Contracts and laws of data, 4 texts joined (they are printed one by one from wip/src). -/
import Derived.Test.YtcmopmapdomneaaDoorM2
import Derived.Test.YtcmopmapdomneaaDoorProg
import Derived.Deep.RegionHeld3

section
namespace Go.Proofs.YtcmopmapdomneaaDoor
open Go.RowKit
abbrev Stmt := Int × Int × Int × Term × Term × List Term
abbrev cStmt : Codec Stmt := cPair cInt (cPair cInt (cPair cInt (cPair cTerm (cPair cTerm cTerms))))
abbrev nStmt : Norm cStmt := nPair nInt (nPair nInt (nPair nInt (nPair nTerm (nPair nTerm nTerms))))
instance dec_Stmt_3 : DecidableEq (Term × Term × List Term) := inferInstance
instance dec_Stmt_2 : DecidableEq (Int × Term × Term × List Term) := inferInstance
instance dec_Stmt_1 : DecidableEq (Int × Int × Term × Term × List Term) := inferInstance
instance dec_Stmt : DecidableEq Stmt := inferInstance
theorem Stmt_list {S : Nat → Prop} {w : World} {cs : List Value} {d : Stmt} (h : cStmt.rd S w cs d) : ∃ a4 p4 a6 p6 a7 p7, cs = [.int .i64 d.1, .int .i64 d.2.1, .int .i64 d.2.2.1, .int .i64 d.2.2.2.1.1, .slice a4 d.2.2.2.1.2.length p4, .int .i64 d.2.2.2.2.1.1, .slice a6 d.2.2.2.2.1.2.length p6, .slice a7 d.2.2.2.2.2.length p7] ∧ SlRd cInt S w a4 p4 d.2.2.2.1.2 ∧ SlRd cInt S w a6 p6 d.2.2.2.2.1.2 ∧ SlRd cTerm S w a7 p7 d.2.2.2.2.2 ∧ I64 d.1 ∧ I64 d.2.1 ∧ I64 d.2.2.1 ∧ I64 d.2.2.2.1.1 ∧ I64 d.2.2.2.2.1.1 := by
  obtain ⟨_, _, rfl, ⟨rfl, r0⟩, ⟨_, _, rfl, ⟨rfl, r1⟩, ⟨_, _, rfl, ⟨rfl, r2⟩, ⟨_, _, rfl, ⟨_, _, rfl, ⟨rfl, r3⟩, ⟨a4, p4, rfl, r4⟩⟩, ⟨_, _, rfl, ⟨_, _, rfl, ⟨rfl, r5⟩, ⟨a6, p6, rfl, r6⟩⟩, ⟨a7, p7, rfl, r7⟩⟩⟩⟩⟩⟩ := h
  exact ⟨a4, p4, a6, p6, a7, p7, rfl, r4, r6, r7, r0, r1, r2, r3, r5⟩
theorem Stmt_arr {S : Nat → Prop} {w : World} {cs : Array Value} {d : Stmt} (h : cStmt.rd S w cs.toList d) : ∃ a4 p4 a6 p6 a7 p7, cs = #[.int .i64 d.1, .int .i64 d.2.1, .int .i64 d.2.2.1, .int .i64 d.2.2.2.1.1, .slice a4 d.2.2.2.1.2.length p4, .int .i64 d.2.2.2.2.1.1, .slice a6 d.2.2.2.2.1.2.length p6, .slice a7 d.2.2.2.2.2.length p7] ∧ SlRd cInt S w a4 p4 d.2.2.2.1.2 ∧ SlRd cInt S w a6 p6 d.2.2.2.2.1.2 ∧ SlRd cTerm S w a7 p7 d.2.2.2.2.2 ∧ I64 d.1 ∧ I64 d.2.1 ∧ I64 d.2.2.1 ∧ I64 d.2.2.2.1.1 ∧ I64 d.2.2.2.2.1.1 := by
  obtain ⟨a4, p4, a6, p6, a7, p7, he, hr⟩ := Stmt_list h
  exact ⟨a4, p4, a6, p6, a7, p7, by rw [← Array.toList_inj, he], hr⟩
theorem op_Stmt : Opens Tryd.prog 106 cStmt := opens_struct Tryd.underlying106 (by kernel_rfl) (opensFs_cons rfl op_i64 (opensFs_cons rfl op_i64 (opensFs_cons rfl op_i64 (opensFs_cons rfl op_Term (opensFs_cons rfl op_Term (opensFs_last rfl op_Terms))))))
theorem op_Stmts : Opens Tryd.prog 38 (cSl cStmt) := opens_sl Tryd.underlying38 (by kernel_rfl) op_Stmt (by decide)
set_option maxRecDepth 100000 in
theorem u_szStmt {S : Nat → Prop} {d0 d1 d2 d3 d5 : Int} {a4 : Option Addr} {p4 : Nat} {d4 : List Int} {a6 : Option Addr} {p6 : Nat} {d6 : List Int} {a7 : Option Addr} {p7 : Nat} {d7 : List Term} {left : Int} {w : World} (h4 : SlRd cInt S w a4 p4 d4) (h6 : SlRd cInt S w a6 p6 d6) (h7 : SlRd cTerm S w a7 p7 d7) (hl0 : 0 ≤ left) (hl1 : left ≤ 1048576) :
    Calls Tryd.prog 57 #[.agg #[.int .i64 d0, .int .i64 d1, .int .i64 d2, .int .i64 d3, .slice a4 d4.length p4, .int .i64 d5, .slice a6 d6.length p6, .slice a7 d7.length p7], .int .i64 left] w fun e w' => e = .returned (.int .i64 (szR left ((d4.length + d6.length + szTs d7) : Nat))) ∧ Below w.heap.size w w' := by
  have R4_0 := hid (h4.alloc (.cells #[.int .i64 d0, .int .i64 d1, .int .i64 d2, .int .i64 d3, .slice a4 d4.length p4, .int .i64 d5, .slice a6 d6.length p6, .slice a7 d7.length p7] 106))
  have R6_0 := hid (h6.alloc (.cells #[.int .i64 d0, .int .i64 d1, .int .i64 d2, .int .i64 d3, .slice a4 d4.length p4, .int .i64 d5, .slice a6 d6.length p6, .slice a7 d7.length p7] 106))
  have R7_0 := hid (h7.alloc (.cells #[.int .i64 d0, .int .i64 d1, .int .i64 d2, .int .i64 d3, .slice a4 d4.length p4, .int .i64 d5, .slice a6 d6.length p6, .slice a7 d7.length p7] 106))
  have HB_0 : Hid (Below w.heap.size w (w.alloc (.cells #[.int .i64 d0, .int .i64 d1, .int .i64 d2, .int .i64 d3, .slice a4 d4.length p4, .int .i64 d5, .slice a6 d6.length p6, .slice a7 d7.length p7] 106))) := (Below.refl _ _).alloc (Nat.le_refl _) _
  have z_0 : w.heap.size < (w.alloc (.cells #[.int .i64 d0, .int .i64 d1, .int .i64 d2, .int .i64 d3, .slice a4 d4.length p4, .int .i64 d5, .slice a6 d6.length p6, .slice a7 d7.length p7] 106)).heap.size := by simp
  have t0_0 : (w.alloc (.cells #[.int .i64 d0, .int .i64 d1, .int .i64 d2, .int .i64 d3, .slice a4 d4.length p4, .int .i64 d5, .slice a6 d6.length p6, .slice a7 d7.length p7] 106)).cell? ⟨w.heap.size, 0, none⟩ = some (.int .i64 d0) := by rw [World.cell?_alloc_at _ _ _ _ rfl]; rfl
  have t1_0 : (w.alloc (.cells #[.int .i64 d0, .int .i64 d1, .int .i64 d2, .int .i64 d3, .slice a4 d4.length p4, .int .i64 d5, .slice a6 d6.length p6, .slice a7 d7.length p7] 106)).cell? ⟨w.heap.size, 1, none⟩ = some (.int .i64 d1) := by rw [World.cell?_alloc_at _ _ _ _ rfl]; rfl
  have t2_0 : (w.alloc (.cells #[.int .i64 d0, .int .i64 d1, .int .i64 d2, .int .i64 d3, .slice a4 d4.length p4, .int .i64 d5, .slice a6 d6.length p6, .slice a7 d7.length p7] 106)).cell? ⟨w.heap.size, 2, none⟩ = some (.int .i64 d2) := by rw [World.cell?_alloc_at _ _ _ _ rfl]; rfl
  have t3_0 : (w.alloc (.cells #[.int .i64 d0, .int .i64 d1, .int .i64 d2, .int .i64 d3, .slice a4 d4.length p4, .int .i64 d5, .slice a6 d6.length p6, .slice a7 d7.length p7] 106)).cell? ⟨w.heap.size, 3, none⟩ = some (.int .i64 d3) := by rw [World.cell?_alloc_at _ _ _ _ rfl]; rfl
  have t4_0 : (w.alloc (.cells #[.int .i64 d0, .int .i64 d1, .int .i64 d2, .int .i64 d3, .slice a4 d4.length p4, .int .i64 d5, .slice a6 d6.length p6, .slice a7 d7.length p7] 106)).cell? ⟨w.heap.size, 4, none⟩ = some (.slice a4 d4.length p4) := by rw [World.cell?_alloc_at _ _ _ _ rfl]; rfl
  have t5_0 : (w.alloc (.cells #[.int .i64 d0, .int .i64 d1, .int .i64 d2, .int .i64 d3, .slice a4 d4.length p4, .int .i64 d5, .slice a6 d6.length p6, .slice a7 d7.length p7] 106)).cell? ⟨w.heap.size, 5, none⟩ = some (.int .i64 d5) := by rw [World.cell?_alloc_at _ _ _ _ rfl]; rfl
  have t6_0 : (w.alloc (.cells #[.int .i64 d0, .int .i64 d1, .int .i64 d2, .int .i64 d3, .slice a4 d4.length p4, .int .i64 d5, .slice a6 d6.length p6, .slice a7 d7.length p7] 106)).cell? ⟨w.heap.size, 6, none⟩ = some (.slice a6 d6.length p6) := by rw [World.cell?_alloc_at _ _ _ _ rfl]; rfl
  have t7_0 : (w.alloc (.cells #[.int .i64 d0, .int .i64 d1, .int .i64 d2, .int .i64 d3, .slice a4 d4.length p4, .int .i64 d5, .slice a6 d6.length p6, .slice a7 d7.length p7] 106)).cell? ⟨w.heap.size, 7, none⟩ = some (.slice a7 d7.length p7) := by rw [World.cell?_alloc_at _ _ _ _ rfl]; rfl
  clear h4 h6 h7
  obtain ⟨r0, hr⟩ : ∃ r, szR left (d4.length : Nat) = r := ⟨_, rfl⟩
  have l0 : r0 ≤ left := by rw [← hr]; unfold szR; split <;> omega
  have m0 : r0 < 0 → r0 = -1 := by rw [← hr]; unfold szR; split <;> omega
  have HS0 : Hid (szR left ((d4.length : Nat) : Int) = r0) := by exact hr
  have HR0 := hid hr
  clear hr
  by_cases g0 : r0 < 0
  · skip
    have h8 : szR left ((d4.length : Nat) : Int) < 0 := by rw [HS0.out]; exact g0
    have h8 := szR_neg (m := d6.length) h8
    have h8 : szR left ((d4.length + d6.length : Nat) : Int) < 0 := by rw [h8]; decide
    have h8 := szR_neg (m := szTs d7) h8
    have HF := hid h8
    clear h8 m0
    go_enter Tryd.func57, Tryd.ntmps57
    go_wp2_with fail
    refine (u_szTerm R4_0.out (by omega) (by omega)).mono ?_
    rintro e w_1 ⟨rfl, hb⟩
    rw [HR0.out]
    have R4_1 := hid (R4_0.out.below (Nat.le_refl _) hb)
    have R6_1 := hid (R6_0.out.below (Nat.le_refl _) hb)
    have R7_1 := hid (R7_0.out.below (Nat.le_refl _) hb)
    have HB_1 := hid (bel_next HB_0.out HB_0.out.size hb)
    have t0_1 := cell_below hb z_0 t0_0
    have t1_1 := cell_below hb z_0 t1_0
    have t2_1 := cell_below hb z_0 t2_0
    have t3_1 := cell_below hb z_0 t3_0
    have t4_1 := cell_below hb z_0 t4_0
    have t5_1 := cell_below hb z_0 t5_0
    have t6_1 := cell_below hb z_0 t6_0
    have t7_1 := cell_below hb z_0 t7_0
    have z_1 := Nat.lt_of_lt_of_le z_0 hb.size
    clear hb R4_0 R6_0 R7_0 HB_0 t0_0 t1_0 t2_0 t3_0 t4_0 t5_0 t6_0 t7_0 z_0
    go_wp2
    go_ret
    exact ⟨ret_int HF.out.symm, HB_1.out⟩
  clear m0
  obtain ⟨r1, hr⟩ : ∃ r, szR r0 (d6.length : Nat) = r := ⟨_, rfl⟩
  have l1 : r1 ≤ r0 := by rw [← hr]; unfold szR; split <;> omega
  have m1 : r1 < 0 → r1 = -1 := by rw [← hr]; unfold szR; split <;> omega
  have HS1 : Hid (szR left ((d4.length + d6.length : Nat) : Int) = r1) := by have h9 := HS0.out; unfold Hid; rw [← hr, ← h9, szR_add (by rw [h9]; omega)]
  have HR1 := hid hr
  clear hr
  by_cases g1 : r1 < 0
  · skip
    have h8 : szR left ((d4.length + d6.length : Nat) : Int) < 0 := by rw [HS1.out]; exact g1
    have h8 := szR_neg (m := szTs d7) h8
    have HF := hid h8
    clear h8 m1
    go_enter Tryd.func57, Tryd.ntmps57
    go_wp2_with fail
    refine (u_szTerm R4_0.out (by omega) (by omega)).mono ?_
    rintro e w_1 ⟨rfl, hb⟩
    rw [HR0.out]
    have R4_1 := hid (R4_0.out.below (Nat.le_refl _) hb)
    have R6_1 := hid (R6_0.out.below (Nat.le_refl _) hb)
    have R7_1 := hid (R7_0.out.below (Nat.le_refl _) hb)
    have HB_1 := hid (bel_next HB_0.out HB_0.out.size hb)
    have t0_1 := cell_below hb z_0 t0_0
    have t1_1 := cell_below hb z_0 t1_0
    have t2_1 := cell_below hb z_0 t2_0
    have t3_1 := cell_below hb z_0 t3_0
    have t4_1 := cell_below hb z_0 t4_0
    have t5_1 := cell_below hb z_0 t5_0
    have t6_1 := cell_below hb z_0 t6_0
    have t7_1 := cell_below hb z_0 t7_0
    have z_1 := Nat.lt_of_lt_of_le z_0 hb.size
    clear hb R4_0 R6_0 R7_0 HB_0 t0_0 t1_0 t2_0 t3_0 t4_0 t5_0 t6_0 t7_0 z_0
    go_wp2_with fail
    refine (u_szTerm R6_1.out (by omega) (by omega)).mono ?_
    rintro e w_2 ⟨rfl, hb⟩
    rw [HR1.out]
    have R4_2 := hid (R4_1.out.below (Nat.le_refl _) hb)
    have R6_2 := hid (R6_1.out.below (Nat.le_refl _) hb)
    have R7_2 := hid (R7_1.out.below (Nat.le_refl _) hb)
    have HB_2 := hid (bel_next HB_1.out HB_1.out.size hb)
    have t0_2 := cell_below hb z_1 t0_1
    have t1_2 := cell_below hb z_1 t1_1
    have t2_2 := cell_below hb z_1 t2_1
    have t3_2 := cell_below hb z_1 t3_1
    have t4_2 := cell_below hb z_1 t4_1
    have t5_2 := cell_below hb z_1 t5_1
    have t6_2 := cell_below hb z_1 t6_1
    have t7_2 := cell_below hb z_1 t7_1
    have z_2 := Nat.lt_of_lt_of_le z_1 hb.size
    clear hb R4_1 R6_1 R7_1 HB_1 t0_1 t1_1 t2_1 t3_1 t4_1 t5_1 t6_1 t7_1 z_1
    go_wp2
    go_ret
    exact ⟨ret_int HF.out.symm, HB_2.out⟩
  clear m1
  obtain ⟨r2, hr⟩ : ∃ r, szR r1 (szTs d7 : Nat) = r := ⟨_, rfl⟩
  have l2 : r2 ≤ r1 := by rw [← hr]; unfold szR; split <;> omega
  have m2 : r2 < 0 → r2 = -1 := by rw [← hr]; unfold szR; split <;> omega
  have HS2 : Hid (szR left ((d4.length + d6.length + szTs d7 : Nat) : Int) = r2) := by have h9 := HS1.out; unfold Hid; rw [← hr, ← h9, szR_add (by rw [h9]; omega)]
  have HR2 := hid hr
  clear hr
  by_cases g2 : r2 < 0
  · skip
    have h8 : szR left ((d4.length + d6.length + szTs d7 : Nat) : Int) < 0 := by rw [HS2.out]; exact g2
    have HF := hid (HS2.out.trans (m2 g2))
    clear h8 m2
    go_enter Tryd.func57, Tryd.ntmps57
    go_wp2_with fail
    refine (u_szTerm R4_0.out (by omega) (by omega)).mono ?_
    rintro e w_1 ⟨rfl, hb⟩
    rw [HR0.out]
    have R4_1 := hid (R4_0.out.below (Nat.le_refl _) hb)
    have R6_1 := hid (R6_0.out.below (Nat.le_refl _) hb)
    have R7_1 := hid (R7_0.out.below (Nat.le_refl _) hb)
    have HB_1 := hid (bel_next HB_0.out HB_0.out.size hb)
    have t0_1 := cell_below hb z_0 t0_0
    have t1_1 := cell_below hb z_0 t1_0
    have t2_1 := cell_below hb z_0 t2_0
    have t3_1 := cell_below hb z_0 t3_0
    have t4_1 := cell_below hb z_0 t4_0
    have t5_1 := cell_below hb z_0 t5_0
    have t6_1 := cell_below hb z_0 t6_0
    have t7_1 := cell_below hb z_0 t7_0
    have z_1 := Nat.lt_of_lt_of_le z_0 hb.size
    clear hb R4_0 R6_0 R7_0 HB_0 t0_0 t1_0 t2_0 t3_0 t4_0 t5_0 t6_0 t7_0 z_0
    go_wp2_with fail
    refine (u_szTerm R6_1.out (by omega) (by omega)).mono ?_
    rintro e w_2 ⟨rfl, hb⟩
    rw [HR1.out]
    have R4_2 := hid (R4_1.out.below (Nat.le_refl _) hb)
    have R6_2 := hid (R6_1.out.below (Nat.le_refl _) hb)
    have R7_2 := hid (R7_1.out.below (Nat.le_refl _) hb)
    have HB_2 := hid (bel_next HB_1.out HB_1.out.size hb)
    have t0_2 := cell_below hb z_1 t0_1
    have t1_2 := cell_below hb z_1 t1_1
    have t2_2 := cell_below hb z_1 t2_1
    have t3_2 := cell_below hb z_1 t3_1
    have t4_2 := cell_below hb z_1 t4_1
    have t5_2 := cell_below hb z_1 t5_1
    have t6_2 := cell_below hb z_1 t6_1
    have t7_2 := cell_below hb z_1 t7_1
    have z_2 := Nat.lt_of_lt_of_le z_1 hb.size
    clear hb R4_1 R6_1 R7_1 HB_1 t0_1 t1_1 t2_1 t3_1 t4_1 t5_1 t6_1 t7_1 z_1
    go_wp2_with fail
    refine (u_szTermS R7_2.out (by omega) (by omega)).mono ?_
    rintro e w_3 ⟨rfl, hb⟩
    rw [HR2.out]
    have R4_3 := hid (R4_2.out.below (Nat.le_refl _) hb)
    have R6_3 := hid (R6_2.out.below (Nat.le_refl _) hb)
    have R7_3 := hid (R7_2.out.below (Nat.le_refl _) hb)
    have HB_3 := hid (bel_next HB_2.out HB_2.out.size hb)
    have t0_3 := cell_below hb z_2 t0_2
    have t1_3 := cell_below hb z_2 t1_2
    have t2_3 := cell_below hb z_2 t2_2
    have t3_3 := cell_below hb z_2 t3_2
    have t4_3 := cell_below hb z_2 t4_2
    have t5_3 := cell_below hb z_2 t5_2
    have t6_3 := cell_below hb z_2 t6_2
    have t7_3 := cell_below hb z_2 t7_2
    have z_3 := Nat.lt_of_lt_of_le z_2 hb.size
    clear hb R4_2 R6_2 R7_2 HB_2 t0_2 t1_2 t2_2 t3_2 t4_2 t5_2 t6_2 t7_2 z_2
    go_wp2
    go_ret
    exact ⟨ret_int HF.out.symm, HB_3.out⟩
  clear m2
  go_enter Tryd.func57, Tryd.ntmps57
  go_wp2_with fail
  refine (u_szTerm R4_0.out (by omega) (by omega)).mono ?_
  rintro e w_1 ⟨rfl, hb⟩
  rw [HR0.out]
  have R4_1 := hid (R4_0.out.below (Nat.le_refl _) hb)
  have R6_1 := hid (R6_0.out.below (Nat.le_refl _) hb)
  have R7_1 := hid (R7_0.out.below (Nat.le_refl _) hb)
  have HB_1 := hid (bel_next HB_0.out HB_0.out.size hb)
  have t0_1 := cell_below hb z_0 t0_0
  have t1_1 := cell_below hb z_0 t1_0
  have t2_1 := cell_below hb z_0 t2_0
  have t3_1 := cell_below hb z_0 t3_0
  have t4_1 := cell_below hb z_0 t4_0
  have t5_1 := cell_below hb z_0 t5_0
  have t6_1 := cell_below hb z_0 t6_0
  have t7_1 := cell_below hb z_0 t7_0
  have z_1 := Nat.lt_of_lt_of_le z_0 hb.size
  clear hb R4_0 R6_0 R7_0 HB_0 t0_0 t1_0 t2_0 t3_0 t4_0 t5_0 t6_0 t7_0 z_0
  go_wp2_with fail
  refine (u_szTerm R6_1.out (by omega) (by omega)).mono ?_
  rintro e w_2 ⟨rfl, hb⟩
  rw [HR1.out]
  have R4_2 := hid (R4_1.out.below (Nat.le_refl _) hb)
  have R6_2 := hid (R6_1.out.below (Nat.le_refl _) hb)
  have R7_2 := hid (R7_1.out.below (Nat.le_refl _) hb)
  have HB_2 := hid (bel_next HB_1.out HB_1.out.size hb)
  have t0_2 := cell_below hb z_1 t0_1
  have t1_2 := cell_below hb z_1 t1_1
  have t2_2 := cell_below hb z_1 t2_1
  have t3_2 := cell_below hb z_1 t3_1
  have t4_2 := cell_below hb z_1 t4_1
  have t5_2 := cell_below hb z_1 t5_1
  have t6_2 := cell_below hb z_1 t6_1
  have t7_2 := cell_below hb z_1 t7_1
  have z_2 := Nat.lt_of_lt_of_le z_1 hb.size
  clear hb R4_1 R6_1 R7_1 HB_1 t0_1 t1_1 t2_1 t3_1 t4_1 t5_1 t6_1 t7_1 z_1
  go_wp2_with fail
  refine (u_szTermS R7_2.out (by omega) (by omega)).mono ?_
  rintro e w_3 ⟨rfl, hb⟩
  rw [HR2.out]
  have R4_3 := hid (R4_2.out.below (Nat.le_refl _) hb)
  have R6_3 := hid (R6_2.out.below (Nat.le_refl _) hb)
  have R7_3 := hid (R7_2.out.below (Nat.le_refl _) hb)
  have HB_3 := hid (bel_next HB_2.out HB_2.out.size hb)
  have t0_3 := cell_below hb z_2 t0_2
  have t1_3 := cell_below hb z_2 t1_2
  have t2_3 := cell_below hb z_2 t2_2
  have t3_3 := cell_below hb z_2 t3_2
  have t4_3 := cell_below hb z_2 t4_2
  have t5_3 := cell_below hb z_2 t5_2
  have t6_3 := cell_below hb z_2 t6_2
  have t7_3 := cell_below hb z_2 t7_2
  have z_3 := Nat.lt_of_lt_of_le z_2 hb.size
  clear hb R4_2 R6_2 R7_2 HB_2 t0_2 t1_2 t2_2 t3_2 t4_2 t5_2 t6_2 t7_2 z_2
  go_wp2
  go_ret
  exact ⟨ret_int HS2.out.symm, HB_3.out⟩
set_option maxRecDepth 100000 in
theorem u_eqStmt {S T : Nat → Prop} {d0 d1 d2 d3 d5 : Int} {a4 : Option Addr} {p4 : Nat} {d4 : List Int} {a6 : Option Addr} {p6 : Nat} {d6 : List Int} {a7 : Option Addr} {p7 : Nat} {d7 : List Term} {yd0 yd1 yd2 yd3 yd5 : Int} {ya4 : Option Addr} {yp4 : Nat} {yd4 : List Int} {ya6 : Option Addr} {yp6 : Nat} {yd6 : List Int} {ya7 : Option Addr} {yp7 : Nat} {yd7 : List Term} {w : World} (h4 : SlRd cInt S w a4 p4 d4) (h6 : SlRd cInt S w a6 p6 d6) (h7 : SlRd cTerm S w a7 p7 d7) (yh4 : SlRd cInt T w ya4 yp4 yd4) (yh6 : SlRd cInt T w ya6 yp6 yd6) (yh7 : SlRd cTerm T w ya7 yp7 yd7) :
    Calls Tryd.prog 66 #[.agg #[.int .i64 d0, .int .i64 d1, .int .i64 d2, .int .i64 d3, .slice a4 d4.length p4, .int .i64 d5, .slice a6 d6.length p6, .slice a7 d7.length p7], .agg #[.int .i64 yd0, .int .i64 yd1, .int .i64 yd2, .int .i64 yd3, .slice ya4 yd4.length yp4, .int .i64 yd5, .slice ya6 yd6.length yp6, .slice ya7 yd7.length yp7]] w fun e w' => e = .returned (.bool (decide (((d0, d1, d2, (d3, d4), (d5, d6), d7) : Stmt) = (yd0, yd1, yd2, (yd3, yd4), (yd5, yd6), yd7)))) ∧ Below w.heap.size w w' := by
  have R4_0 := hid ((h4.alloc (.cells #[.int .i64 d0, .int .i64 d1, .int .i64 d2, .int .i64 d3, .slice a4 d4.length p4, .int .i64 d5, .slice a6 d6.length p6, .slice a7 d7.length p7] 110)).alloc (.cells #[.int .i64 yd0, .int .i64 yd1, .int .i64 yd2, .int .i64 yd3, .slice ya4 yd4.length yp4, .int .i64 yd5, .slice ya6 yd6.length yp6, .slice ya7 yd7.length yp7] 110))
  have R6_0 := hid ((h6.alloc (.cells #[.int .i64 d0, .int .i64 d1, .int .i64 d2, .int .i64 d3, .slice a4 d4.length p4, .int .i64 d5, .slice a6 d6.length p6, .slice a7 d7.length p7] 110)).alloc (.cells #[.int .i64 yd0, .int .i64 yd1, .int .i64 yd2, .int .i64 yd3, .slice ya4 yd4.length yp4, .int .i64 yd5, .slice ya6 yd6.length yp6, .slice ya7 yd7.length yp7] 110))
  have R7_0 := hid ((h7.alloc (.cells #[.int .i64 d0, .int .i64 d1, .int .i64 d2, .int .i64 d3, .slice a4 d4.length p4, .int .i64 d5, .slice a6 d6.length p6, .slice a7 d7.length p7] 110)).alloc (.cells #[.int .i64 yd0, .int .i64 yd1, .int .i64 yd2, .int .i64 yd3, .slice ya4 yd4.length yp4, .int .i64 yd5, .slice ya6 yd6.length yp6, .slice ya7 yd7.length yp7] 110))
  have yR4_0 := hid ((yh4.alloc (.cells #[.int .i64 d0, .int .i64 d1, .int .i64 d2, .int .i64 d3, .slice a4 d4.length p4, .int .i64 d5, .slice a6 d6.length p6, .slice a7 d7.length p7] 110)).alloc (.cells #[.int .i64 yd0, .int .i64 yd1, .int .i64 yd2, .int .i64 yd3, .slice ya4 yd4.length yp4, .int .i64 yd5, .slice ya6 yd6.length yp6, .slice ya7 yd7.length yp7] 110))
  have yR6_0 := hid ((yh6.alloc (.cells #[.int .i64 d0, .int .i64 d1, .int .i64 d2, .int .i64 d3, .slice a4 d4.length p4, .int .i64 d5, .slice a6 d6.length p6, .slice a7 d7.length p7] 110)).alloc (.cells #[.int .i64 yd0, .int .i64 yd1, .int .i64 yd2, .int .i64 yd3, .slice ya4 yd4.length yp4, .int .i64 yd5, .slice ya6 yd6.length yp6, .slice ya7 yd7.length yp7] 110))
  have yR7_0 := hid ((yh7.alloc (.cells #[.int .i64 d0, .int .i64 d1, .int .i64 d2, .int .i64 d3, .slice a4 d4.length p4, .int .i64 d5, .slice a6 d6.length p6, .slice a7 d7.length p7] 110)).alloc (.cells #[.int .i64 yd0, .int .i64 yd1, .int .i64 yd2, .int .i64 yd3, .slice ya4 yd4.length yp4, .int .i64 yd5, .slice ya6 yd6.length yp6, .slice ya7 yd7.length yp7] 110))
  have HB_0 : Hid (Below w.heap.size w ((w.alloc (.cells #[.int .i64 d0, .int .i64 d1, .int .i64 d2, .int .i64 d3, .slice a4 d4.length p4, .int .i64 d5, .slice a6 d6.length p6, .slice a7 d7.length p7] 110)).alloc (.cells #[.int .i64 yd0, .int .i64 yd1, .int .i64 yd2, .int .i64 yd3, .slice ya4 yd4.length yp4, .int .i64 yd5, .slice ya6 yd6.length yp6, .slice ya7 yd7.length yp7] 110))) := ((Below.refl _ _).alloc (Nat.le_refl _) _).alloc (by simp) _
  have z_0 : w.heap.size + 1 < ((w.alloc (.cells #[.int .i64 d0, .int .i64 d1, .int .i64 d2, .int .i64 d3, .slice a4 d4.length p4, .int .i64 d5, .slice a6 d6.length p6, .slice a7 d7.length p7] 110)).alloc (.cells #[.int .i64 yd0, .int .i64 yd1, .int .i64 yd2, .int .i64 yd3, .slice ya4 yd4.length yp4, .int .i64 yd5, .slice ya6 yd6.length yp6, .slice ya7 yd7.length yp7] 110)).heap.size := by simp
  have t0_0 : ((w.alloc (.cells #[.int .i64 d0, .int .i64 d1, .int .i64 d2, .int .i64 d3, .slice a4 d4.length p4, .int .i64 d5, .slice a6 d6.length p6, .slice a7 d7.length p7] 110)).alloc (.cells #[.int .i64 yd0, .int .i64 yd1, .int .i64 yd2, .int .i64 yd3, .slice ya4 yd4.length yp4, .int .i64 yd5, .slice ya6 yd6.length yp6, .slice ya7 yd7.length yp7] 110)).cell? ⟨w.heap.size, 0, none⟩ = some (.int .i64 d0) := by simp [go_sem]
  have yt0_0 : ((w.alloc (.cells #[.int .i64 d0, .int .i64 d1, .int .i64 d2, .int .i64 d3, .slice a4 d4.length p4, .int .i64 d5, .slice a6 d6.length p6, .slice a7 d7.length p7] 110)).alloc (.cells #[.int .i64 yd0, .int .i64 yd1, .int .i64 yd2, .int .i64 yd3, .slice ya4 yd4.length yp4, .int .i64 yd5, .slice ya6 yd6.length yp6, .slice ya7 yd7.length yp7] 110)).cell? ⟨w.heap.size + 1, 0, none⟩ = some (.int .i64 yd0) := by simp [go_sem]
  have t1_0 : ((w.alloc (.cells #[.int .i64 d0, .int .i64 d1, .int .i64 d2, .int .i64 d3, .slice a4 d4.length p4, .int .i64 d5, .slice a6 d6.length p6, .slice a7 d7.length p7] 110)).alloc (.cells #[.int .i64 yd0, .int .i64 yd1, .int .i64 yd2, .int .i64 yd3, .slice ya4 yd4.length yp4, .int .i64 yd5, .slice ya6 yd6.length yp6, .slice ya7 yd7.length yp7] 110)).cell? ⟨w.heap.size, 1, none⟩ = some (.int .i64 d1) := by simp [go_sem]
  have yt1_0 : ((w.alloc (.cells #[.int .i64 d0, .int .i64 d1, .int .i64 d2, .int .i64 d3, .slice a4 d4.length p4, .int .i64 d5, .slice a6 d6.length p6, .slice a7 d7.length p7] 110)).alloc (.cells #[.int .i64 yd0, .int .i64 yd1, .int .i64 yd2, .int .i64 yd3, .slice ya4 yd4.length yp4, .int .i64 yd5, .slice ya6 yd6.length yp6, .slice ya7 yd7.length yp7] 110)).cell? ⟨w.heap.size + 1, 1, none⟩ = some (.int .i64 yd1) := by simp [go_sem]
  have t2_0 : ((w.alloc (.cells #[.int .i64 d0, .int .i64 d1, .int .i64 d2, .int .i64 d3, .slice a4 d4.length p4, .int .i64 d5, .slice a6 d6.length p6, .slice a7 d7.length p7] 110)).alloc (.cells #[.int .i64 yd0, .int .i64 yd1, .int .i64 yd2, .int .i64 yd3, .slice ya4 yd4.length yp4, .int .i64 yd5, .slice ya6 yd6.length yp6, .slice ya7 yd7.length yp7] 110)).cell? ⟨w.heap.size, 2, none⟩ = some (.int .i64 d2) := by simp [go_sem]
  have yt2_0 : ((w.alloc (.cells #[.int .i64 d0, .int .i64 d1, .int .i64 d2, .int .i64 d3, .slice a4 d4.length p4, .int .i64 d5, .slice a6 d6.length p6, .slice a7 d7.length p7] 110)).alloc (.cells #[.int .i64 yd0, .int .i64 yd1, .int .i64 yd2, .int .i64 yd3, .slice ya4 yd4.length yp4, .int .i64 yd5, .slice ya6 yd6.length yp6, .slice ya7 yd7.length yp7] 110)).cell? ⟨w.heap.size + 1, 2, none⟩ = some (.int .i64 yd2) := by simp [go_sem]
  have t3_0 : ((w.alloc (.cells #[.int .i64 d0, .int .i64 d1, .int .i64 d2, .int .i64 d3, .slice a4 d4.length p4, .int .i64 d5, .slice a6 d6.length p6, .slice a7 d7.length p7] 110)).alloc (.cells #[.int .i64 yd0, .int .i64 yd1, .int .i64 yd2, .int .i64 yd3, .slice ya4 yd4.length yp4, .int .i64 yd5, .slice ya6 yd6.length yp6, .slice ya7 yd7.length yp7] 110)).cell? ⟨w.heap.size, 3, none⟩ = some (.int .i64 d3) := by simp [go_sem]
  have yt3_0 : ((w.alloc (.cells #[.int .i64 d0, .int .i64 d1, .int .i64 d2, .int .i64 d3, .slice a4 d4.length p4, .int .i64 d5, .slice a6 d6.length p6, .slice a7 d7.length p7] 110)).alloc (.cells #[.int .i64 yd0, .int .i64 yd1, .int .i64 yd2, .int .i64 yd3, .slice ya4 yd4.length yp4, .int .i64 yd5, .slice ya6 yd6.length yp6, .slice ya7 yd7.length yp7] 110)).cell? ⟨w.heap.size + 1, 3, none⟩ = some (.int .i64 yd3) := by simp [go_sem]
  have t4_0 : ((w.alloc (.cells #[.int .i64 d0, .int .i64 d1, .int .i64 d2, .int .i64 d3, .slice a4 d4.length p4, .int .i64 d5, .slice a6 d6.length p6, .slice a7 d7.length p7] 110)).alloc (.cells #[.int .i64 yd0, .int .i64 yd1, .int .i64 yd2, .int .i64 yd3, .slice ya4 yd4.length yp4, .int .i64 yd5, .slice ya6 yd6.length yp6, .slice ya7 yd7.length yp7] 110)).cell? ⟨w.heap.size, 4, none⟩ = some (.slice a4 d4.length p4) := by simp [go_sem]
  have yt4_0 : ((w.alloc (.cells #[.int .i64 d0, .int .i64 d1, .int .i64 d2, .int .i64 d3, .slice a4 d4.length p4, .int .i64 d5, .slice a6 d6.length p6, .slice a7 d7.length p7] 110)).alloc (.cells #[.int .i64 yd0, .int .i64 yd1, .int .i64 yd2, .int .i64 yd3, .slice ya4 yd4.length yp4, .int .i64 yd5, .slice ya6 yd6.length yp6, .slice ya7 yd7.length yp7] 110)).cell? ⟨w.heap.size + 1, 4, none⟩ = some (.slice ya4 yd4.length yp4) := by simp [go_sem]
  have t5_0 : ((w.alloc (.cells #[.int .i64 d0, .int .i64 d1, .int .i64 d2, .int .i64 d3, .slice a4 d4.length p4, .int .i64 d5, .slice a6 d6.length p6, .slice a7 d7.length p7] 110)).alloc (.cells #[.int .i64 yd0, .int .i64 yd1, .int .i64 yd2, .int .i64 yd3, .slice ya4 yd4.length yp4, .int .i64 yd5, .slice ya6 yd6.length yp6, .slice ya7 yd7.length yp7] 110)).cell? ⟨w.heap.size, 5, none⟩ = some (.int .i64 d5) := by simp [go_sem]
  have yt5_0 : ((w.alloc (.cells #[.int .i64 d0, .int .i64 d1, .int .i64 d2, .int .i64 d3, .slice a4 d4.length p4, .int .i64 d5, .slice a6 d6.length p6, .slice a7 d7.length p7] 110)).alloc (.cells #[.int .i64 yd0, .int .i64 yd1, .int .i64 yd2, .int .i64 yd3, .slice ya4 yd4.length yp4, .int .i64 yd5, .slice ya6 yd6.length yp6, .slice ya7 yd7.length yp7] 110)).cell? ⟨w.heap.size + 1, 5, none⟩ = some (.int .i64 yd5) := by simp [go_sem]
  have t6_0 : ((w.alloc (.cells #[.int .i64 d0, .int .i64 d1, .int .i64 d2, .int .i64 d3, .slice a4 d4.length p4, .int .i64 d5, .slice a6 d6.length p6, .slice a7 d7.length p7] 110)).alloc (.cells #[.int .i64 yd0, .int .i64 yd1, .int .i64 yd2, .int .i64 yd3, .slice ya4 yd4.length yp4, .int .i64 yd5, .slice ya6 yd6.length yp6, .slice ya7 yd7.length yp7] 110)).cell? ⟨w.heap.size, 6, none⟩ = some (.slice a6 d6.length p6) := by simp [go_sem]
  have yt6_0 : ((w.alloc (.cells #[.int .i64 d0, .int .i64 d1, .int .i64 d2, .int .i64 d3, .slice a4 d4.length p4, .int .i64 d5, .slice a6 d6.length p6, .slice a7 d7.length p7] 110)).alloc (.cells #[.int .i64 yd0, .int .i64 yd1, .int .i64 yd2, .int .i64 yd3, .slice ya4 yd4.length yp4, .int .i64 yd5, .slice ya6 yd6.length yp6, .slice ya7 yd7.length yp7] 110)).cell? ⟨w.heap.size + 1, 6, none⟩ = some (.slice ya6 yd6.length yp6) := by simp [go_sem]
  have t7_0 : ((w.alloc (.cells #[.int .i64 d0, .int .i64 d1, .int .i64 d2, .int .i64 d3, .slice a4 d4.length p4, .int .i64 d5, .slice a6 d6.length p6, .slice a7 d7.length p7] 110)).alloc (.cells #[.int .i64 yd0, .int .i64 yd1, .int .i64 yd2, .int .i64 yd3, .slice ya4 yd4.length yp4, .int .i64 yd5, .slice ya6 yd6.length yp6, .slice ya7 yd7.length yp7] 110)).cell? ⟨w.heap.size, 7, none⟩ = some (.slice a7 d7.length p7) := by simp [go_sem]
  have yt7_0 : ((w.alloc (.cells #[.int .i64 d0, .int .i64 d1, .int .i64 d2, .int .i64 d3, .slice a4 d4.length p4, .int .i64 d5, .slice a6 d6.length p6, .slice a7 d7.length p7] 110)).alloc (.cells #[.int .i64 yd0, .int .i64 yd1, .int .i64 yd2, .int .i64 yd3, .slice ya4 yd4.length yp4, .int .i64 yd5, .slice ya6 yd6.length yp6, .slice ya7 yd7.length yp7] 110)).cell? ⟨w.heap.size + 1, 7, none⟩ = some (.slice ya7 yd7.length yp7) := by simp [go_sem]
  clear h4 h6 h7 yh4 yh6 yh7
  obtain ⟨b0, hb0⟩ : ∃ b, decide (d0 = yd0) = b := ⟨_, rfl⟩
  obtain ⟨b1, hb1⟩ : ∃ b, decide (d1 = yd1) = b := ⟨_, rfl⟩
  obtain ⟨b2, hb2⟩ : ∃ b, decide (d2 = yd2) = b := ⟨_, rfl⟩
  obtain ⟨b3, hb3⟩ : ∃ b, decide (((d3, d4) : Term) = (yd3, yd4)) = b := ⟨_, rfl⟩
  obtain ⟨b4, hb4⟩ : ∃ b, decide (((d5, d6) : Term) = (yd5, yd6)) = b := ⟨_, rfl⟩
  obtain ⟨b5, hb5⟩ : ∃ b, decide ((d7 : List Term) = yd7) = b := ⟨_, rfl⟩
  have HF : Hid (decide (((d0, d1, d2, (d3, d4), (d5, d6), d7) : Stmt) = (yd0, yd1, yd2, (yd3, yd4), (yd5, yd6), yd7)) = (b0 && b1 && b2 && b3 && b4 && b5)) := by unfold Hid; rw [← hb0, ← hb1, ← hb2, ← hb3, ← hb4, ← hb5, Bool.eq_iff_iff]; simp [Prod.ext_iff, and_assoc]
  have e0 : (d0 != yd0) = !b0 := by rw [← hb0, Bool.eq_iff_iff]; simp
  have HR0 := hid hb0
  clear hb0
  have e1 : (d1 != yd1) = !b1 := by rw [← hb1, Bool.eq_iff_iff]; simp
  have HR1 := hid hb1
  clear hb1
  have e2 : (d2 != yd2) = !b2 := by rw [← hb2, Bool.eq_iff_iff]; simp
  have HR2 := hid hb2
  clear hb2
  have HR3 := hid hb3
  clear hb3
  have HR4 := hid hb4
  clear hb4
  have HR5 := hid hb5
  clear hb5
  cases b0
  · skip
    simp only [Bool.not_false] at e0
    go_enter Tryd.func66, Tryd.ntmps66
    go_wp2
    go_ret
    exact ⟨ret_bool (by rw [HF.out]; simp), HB_0.out⟩
  simp only [Bool.not_true] at e0
  cases b1
  · skip
    simp only [Bool.not_false] at e1
    go_enter Tryd.func66, Tryd.ntmps66
    go_wp2
    go_ret
    exact ⟨ret_bool (by rw [HF.out]; simp), HB_0.out⟩
  simp only [Bool.not_true] at e1
  cases b2
  · skip
    simp only [Bool.not_false] at e2
    go_enter Tryd.func66, Tryd.ntmps66
    go_wp2
    go_ret
    exact ⟨ret_bool (by rw [HF.out]; simp), HB_0.out⟩
  simp only [Bool.not_true] at e2
  cases b3
  · skip
    go_enter Tryd.func66, Tryd.ntmps66
    go_wp2_with fail
    refine (u_eqTerm R4_0.out yR4_0.out).mono ?_
    rintro e w_1 ⟨rfl, hb⟩
    rw [HR3.out]
    have R4_1 := hid (R4_0.out.below (Nat.le_refl _) hb)
    have R6_1 := hid (R6_0.out.below (Nat.le_refl _) hb)
    have R7_1 := hid (R7_0.out.below (Nat.le_refl _) hb)
    have yR4_1 := hid (yR4_0.out.below (Nat.le_refl _) hb)
    have yR6_1 := hid (yR6_0.out.below (Nat.le_refl _) hb)
    have yR7_1 := hid (yR7_0.out.below (Nat.le_refl _) hb)
    have HB_1 := hid (bel_next HB_0.out HB_0.out.size hb)
    have t0_1 := cell_below hb (Nat.lt_of_succ_lt z_0) t0_0
    have yt0_1 := cell_below hb z_0 yt0_0
    have t1_1 := cell_below hb (Nat.lt_of_succ_lt z_0) t1_0
    have yt1_1 := cell_below hb z_0 yt1_0
    have t2_1 := cell_below hb (Nat.lt_of_succ_lt z_0) t2_0
    have yt2_1 := cell_below hb z_0 yt2_0
    have t3_1 := cell_below hb (Nat.lt_of_succ_lt z_0) t3_0
    have yt3_1 := cell_below hb z_0 yt3_0
    have t4_1 := cell_below hb (Nat.lt_of_succ_lt z_0) t4_0
    have yt4_1 := cell_below hb z_0 yt4_0
    have t5_1 := cell_below hb (Nat.lt_of_succ_lt z_0) t5_0
    have yt5_1 := cell_below hb z_0 yt5_0
    have t6_1 := cell_below hb (Nat.lt_of_succ_lt z_0) t6_0
    have yt6_1 := cell_below hb z_0 yt6_0
    have t7_1 := cell_below hb (Nat.lt_of_succ_lt z_0) t7_0
    have yt7_1 := cell_below hb z_0 yt7_0
    have z_1 := Nat.lt_of_lt_of_le z_0 hb.size
    clear hb R4_0 R6_0 R7_0 yR4_0 yR6_0 yR7_0 HB_0 t0_0 yt0_0 t1_0 yt1_0 t2_0 yt2_0 t3_0 yt3_0 t4_0 yt4_0 t5_0 yt5_0 t6_0 yt6_0 t7_0 yt7_0 z_0
    go_wp2
    go_ret
    exact ⟨ret_bool (by rw [HF.out]; simp), HB_1.out⟩
  cases b4
  · skip
    go_enter Tryd.func66, Tryd.ntmps66
    go_wp2_with fail
    refine (u_eqTerm R4_0.out yR4_0.out).mono ?_
    rintro e w_1 ⟨rfl, hb⟩
    rw [HR3.out]
    have R4_1 := hid (R4_0.out.below (Nat.le_refl _) hb)
    have R6_1 := hid (R6_0.out.below (Nat.le_refl _) hb)
    have R7_1 := hid (R7_0.out.below (Nat.le_refl _) hb)
    have yR4_1 := hid (yR4_0.out.below (Nat.le_refl _) hb)
    have yR6_1 := hid (yR6_0.out.below (Nat.le_refl _) hb)
    have yR7_1 := hid (yR7_0.out.below (Nat.le_refl _) hb)
    have HB_1 := hid (bel_next HB_0.out HB_0.out.size hb)
    have t0_1 := cell_below hb (Nat.lt_of_succ_lt z_0) t0_0
    have yt0_1 := cell_below hb z_0 yt0_0
    have t1_1 := cell_below hb (Nat.lt_of_succ_lt z_0) t1_0
    have yt1_1 := cell_below hb z_0 yt1_0
    have t2_1 := cell_below hb (Nat.lt_of_succ_lt z_0) t2_0
    have yt2_1 := cell_below hb z_0 yt2_0
    have t3_1 := cell_below hb (Nat.lt_of_succ_lt z_0) t3_0
    have yt3_1 := cell_below hb z_0 yt3_0
    have t4_1 := cell_below hb (Nat.lt_of_succ_lt z_0) t4_0
    have yt4_1 := cell_below hb z_0 yt4_0
    have t5_1 := cell_below hb (Nat.lt_of_succ_lt z_0) t5_0
    have yt5_1 := cell_below hb z_0 yt5_0
    have t6_1 := cell_below hb (Nat.lt_of_succ_lt z_0) t6_0
    have yt6_1 := cell_below hb z_0 yt6_0
    have t7_1 := cell_below hb (Nat.lt_of_succ_lt z_0) t7_0
    have yt7_1 := cell_below hb z_0 yt7_0
    have z_1 := Nat.lt_of_lt_of_le z_0 hb.size
    clear hb R4_0 R6_0 R7_0 yR4_0 yR6_0 yR7_0 HB_0 t0_0 yt0_0 t1_0 yt1_0 t2_0 yt2_0 t3_0 yt3_0 t4_0 yt4_0 t5_0 yt5_0 t6_0 yt6_0 t7_0 yt7_0 z_0
    go_wp2_with fail
    refine (u_eqTerm R6_1.out yR6_1.out).mono ?_
    rintro e w_2 ⟨rfl, hb⟩
    rw [HR4.out]
    have R4_2 := hid (R4_1.out.below (Nat.le_refl _) hb)
    have R6_2 := hid (R6_1.out.below (Nat.le_refl _) hb)
    have R7_2 := hid (R7_1.out.below (Nat.le_refl _) hb)
    have yR4_2 := hid (yR4_1.out.below (Nat.le_refl _) hb)
    have yR6_2 := hid (yR6_1.out.below (Nat.le_refl _) hb)
    have yR7_2 := hid (yR7_1.out.below (Nat.le_refl _) hb)
    have HB_2 := hid (bel_next HB_1.out HB_1.out.size hb)
    have t0_2 := cell_below hb (Nat.lt_of_succ_lt z_1) t0_1
    have yt0_2 := cell_below hb z_1 yt0_1
    have t1_2 := cell_below hb (Nat.lt_of_succ_lt z_1) t1_1
    have yt1_2 := cell_below hb z_1 yt1_1
    have t2_2 := cell_below hb (Nat.lt_of_succ_lt z_1) t2_1
    have yt2_2 := cell_below hb z_1 yt2_1
    have t3_2 := cell_below hb (Nat.lt_of_succ_lt z_1) t3_1
    have yt3_2 := cell_below hb z_1 yt3_1
    have t4_2 := cell_below hb (Nat.lt_of_succ_lt z_1) t4_1
    have yt4_2 := cell_below hb z_1 yt4_1
    have t5_2 := cell_below hb (Nat.lt_of_succ_lt z_1) t5_1
    have yt5_2 := cell_below hb z_1 yt5_1
    have t6_2 := cell_below hb (Nat.lt_of_succ_lt z_1) t6_1
    have yt6_2 := cell_below hb z_1 yt6_1
    have t7_2 := cell_below hb (Nat.lt_of_succ_lt z_1) t7_1
    have yt7_2 := cell_below hb z_1 yt7_1
    have z_2 := Nat.lt_of_lt_of_le z_1 hb.size
    clear hb R4_1 R6_1 R7_1 yR4_1 yR6_1 yR7_1 HB_1 t0_1 yt0_1 t1_1 yt1_1 t2_1 yt2_1 t3_1 yt3_1 t4_1 yt4_1 t5_1 yt5_1 t6_1 yt6_1 t7_1 yt7_1 z_1
    go_wp2
    go_ret
    exact ⟨ret_bool (by rw [HF.out]; simp), HB_2.out⟩
  cases b5
  · skip
    go_enter Tryd.func66, Tryd.ntmps66
    go_wp2_with fail
    refine (u_eqTerm R4_0.out yR4_0.out).mono ?_
    rintro e w_1 ⟨rfl, hb⟩
    rw [HR3.out]
    have R4_1 := hid (R4_0.out.below (Nat.le_refl _) hb)
    have R6_1 := hid (R6_0.out.below (Nat.le_refl _) hb)
    have R7_1 := hid (R7_0.out.below (Nat.le_refl _) hb)
    have yR4_1 := hid (yR4_0.out.below (Nat.le_refl _) hb)
    have yR6_1 := hid (yR6_0.out.below (Nat.le_refl _) hb)
    have yR7_1 := hid (yR7_0.out.below (Nat.le_refl _) hb)
    have HB_1 := hid (bel_next HB_0.out HB_0.out.size hb)
    have t0_1 := cell_below hb (Nat.lt_of_succ_lt z_0) t0_0
    have yt0_1 := cell_below hb z_0 yt0_0
    have t1_1 := cell_below hb (Nat.lt_of_succ_lt z_0) t1_0
    have yt1_1 := cell_below hb z_0 yt1_0
    have t2_1 := cell_below hb (Nat.lt_of_succ_lt z_0) t2_0
    have yt2_1 := cell_below hb z_0 yt2_0
    have t3_1 := cell_below hb (Nat.lt_of_succ_lt z_0) t3_0
    have yt3_1 := cell_below hb z_0 yt3_0
    have t4_1 := cell_below hb (Nat.lt_of_succ_lt z_0) t4_0
    have yt4_1 := cell_below hb z_0 yt4_0
    have t5_1 := cell_below hb (Nat.lt_of_succ_lt z_0) t5_0
    have yt5_1 := cell_below hb z_0 yt5_0
    have t6_1 := cell_below hb (Nat.lt_of_succ_lt z_0) t6_0
    have yt6_1 := cell_below hb z_0 yt6_0
    have t7_1 := cell_below hb (Nat.lt_of_succ_lt z_0) t7_0
    have yt7_1 := cell_below hb z_0 yt7_0
    have z_1 := Nat.lt_of_lt_of_le z_0 hb.size
    clear hb R4_0 R6_0 R7_0 yR4_0 yR6_0 yR7_0 HB_0 t0_0 yt0_0 t1_0 yt1_0 t2_0 yt2_0 t3_0 yt3_0 t4_0 yt4_0 t5_0 yt5_0 t6_0 yt6_0 t7_0 yt7_0 z_0
    go_wp2_with fail
    refine (u_eqTerm R6_1.out yR6_1.out).mono ?_
    rintro e w_2 ⟨rfl, hb⟩
    rw [HR4.out]
    have R4_2 := hid (R4_1.out.below (Nat.le_refl _) hb)
    have R6_2 := hid (R6_1.out.below (Nat.le_refl _) hb)
    have R7_2 := hid (R7_1.out.below (Nat.le_refl _) hb)
    have yR4_2 := hid (yR4_1.out.below (Nat.le_refl _) hb)
    have yR6_2 := hid (yR6_1.out.below (Nat.le_refl _) hb)
    have yR7_2 := hid (yR7_1.out.below (Nat.le_refl _) hb)
    have HB_2 := hid (bel_next HB_1.out HB_1.out.size hb)
    have t0_2 := cell_below hb (Nat.lt_of_succ_lt z_1) t0_1
    have yt0_2 := cell_below hb z_1 yt0_1
    have t1_2 := cell_below hb (Nat.lt_of_succ_lt z_1) t1_1
    have yt1_2 := cell_below hb z_1 yt1_1
    have t2_2 := cell_below hb (Nat.lt_of_succ_lt z_1) t2_1
    have yt2_2 := cell_below hb z_1 yt2_1
    have t3_2 := cell_below hb (Nat.lt_of_succ_lt z_1) t3_1
    have yt3_2 := cell_below hb z_1 yt3_1
    have t4_2 := cell_below hb (Nat.lt_of_succ_lt z_1) t4_1
    have yt4_2 := cell_below hb z_1 yt4_1
    have t5_2 := cell_below hb (Nat.lt_of_succ_lt z_1) t5_1
    have yt5_2 := cell_below hb z_1 yt5_1
    have t6_2 := cell_below hb (Nat.lt_of_succ_lt z_1) t6_1
    have yt6_2 := cell_below hb z_1 yt6_1
    have t7_2 := cell_below hb (Nat.lt_of_succ_lt z_1) t7_1
    have yt7_2 := cell_below hb z_1 yt7_1
    have z_2 := Nat.lt_of_lt_of_le z_1 hb.size
    clear hb R4_1 R6_1 R7_1 yR4_1 yR6_1 yR7_1 HB_1 t0_1 yt0_1 t1_1 yt1_1 t2_1 yt2_1 t3_1 yt3_1 t4_1 yt4_1 t5_1 yt5_1 t6_1 yt6_1 t7_1 yt7_1 z_1
    go_wp2_with fail
    refine (u_eqTermS R7_2.out yR7_2.out).mono ?_
    rintro e w_3 ⟨rfl, hb⟩
    rw [HR5.out]
    have R4_3 := hid (R4_2.out.below (Nat.le_refl _) hb)
    have R6_3 := hid (R6_2.out.below (Nat.le_refl _) hb)
    have R7_3 := hid (R7_2.out.below (Nat.le_refl _) hb)
    have yR4_3 := hid (yR4_2.out.below (Nat.le_refl _) hb)
    have yR6_3 := hid (yR6_2.out.below (Nat.le_refl _) hb)
    have yR7_3 := hid (yR7_2.out.below (Nat.le_refl _) hb)
    have HB_3 := hid (bel_next HB_2.out HB_2.out.size hb)
    have t0_3 := cell_below hb (Nat.lt_of_succ_lt z_2) t0_2
    have yt0_3 := cell_below hb z_2 yt0_2
    have t1_3 := cell_below hb (Nat.lt_of_succ_lt z_2) t1_2
    have yt1_3 := cell_below hb z_2 yt1_2
    have t2_3 := cell_below hb (Nat.lt_of_succ_lt z_2) t2_2
    have yt2_3 := cell_below hb z_2 yt2_2
    have t3_3 := cell_below hb (Nat.lt_of_succ_lt z_2) t3_2
    have yt3_3 := cell_below hb z_2 yt3_2
    have t4_3 := cell_below hb (Nat.lt_of_succ_lt z_2) t4_2
    have yt4_3 := cell_below hb z_2 yt4_2
    have t5_3 := cell_below hb (Nat.lt_of_succ_lt z_2) t5_2
    have yt5_3 := cell_below hb z_2 yt5_2
    have t6_3 := cell_below hb (Nat.lt_of_succ_lt z_2) t6_2
    have yt6_3 := cell_below hb z_2 yt6_2
    have t7_3 := cell_below hb (Nat.lt_of_succ_lt z_2) t7_2
    have yt7_3 := cell_below hb z_2 yt7_2
    have z_3 := Nat.lt_of_lt_of_le z_2 hb.size
    clear hb R4_2 R6_2 R7_2 yR4_2 yR6_2 yR7_2 HB_2 t0_2 yt0_2 t1_2 yt1_2 t2_2 yt2_2 t3_2 yt3_2 t4_2 yt4_2 t5_2 yt5_2 t6_2 yt6_2 t7_2 yt7_2 z_2
    go_wp2
    go_ret
    exact ⟨ret_bool (by rw [HF.out]; simp), HB_3.out⟩
  go_enter Tryd.func66, Tryd.ntmps66
  go_wp2_with fail
  refine (u_eqTerm R4_0.out yR4_0.out).mono ?_
  rintro e w_1 ⟨rfl, hb⟩
  rw [HR3.out]
  have R4_1 := hid (R4_0.out.below (Nat.le_refl _) hb)
  have R6_1 := hid (R6_0.out.below (Nat.le_refl _) hb)
  have R7_1 := hid (R7_0.out.below (Nat.le_refl _) hb)
  have yR4_1 := hid (yR4_0.out.below (Nat.le_refl _) hb)
  have yR6_1 := hid (yR6_0.out.below (Nat.le_refl _) hb)
  have yR7_1 := hid (yR7_0.out.below (Nat.le_refl _) hb)
  have HB_1 := hid (bel_next HB_0.out HB_0.out.size hb)
  have t0_1 := cell_below hb (Nat.lt_of_succ_lt z_0) t0_0
  have yt0_1 := cell_below hb z_0 yt0_0
  have t1_1 := cell_below hb (Nat.lt_of_succ_lt z_0) t1_0
  have yt1_1 := cell_below hb z_0 yt1_0
  have t2_1 := cell_below hb (Nat.lt_of_succ_lt z_0) t2_0
  have yt2_1 := cell_below hb z_0 yt2_0
  have t3_1 := cell_below hb (Nat.lt_of_succ_lt z_0) t3_0
  have yt3_1 := cell_below hb z_0 yt3_0
  have t4_1 := cell_below hb (Nat.lt_of_succ_lt z_0) t4_0
  have yt4_1 := cell_below hb z_0 yt4_0
  have t5_1 := cell_below hb (Nat.lt_of_succ_lt z_0) t5_0
  have yt5_1 := cell_below hb z_0 yt5_0
  have t6_1 := cell_below hb (Nat.lt_of_succ_lt z_0) t6_0
  have yt6_1 := cell_below hb z_0 yt6_0
  have t7_1 := cell_below hb (Nat.lt_of_succ_lt z_0) t7_0
  have yt7_1 := cell_below hb z_0 yt7_0
  have z_1 := Nat.lt_of_lt_of_le z_0 hb.size
  clear hb R4_0 R6_0 R7_0 yR4_0 yR6_0 yR7_0 HB_0 t0_0 yt0_0 t1_0 yt1_0 t2_0 yt2_0 t3_0 yt3_0 t4_0 yt4_0 t5_0 yt5_0 t6_0 yt6_0 t7_0 yt7_0 z_0
  go_wp2_with fail
  refine (u_eqTerm R6_1.out yR6_1.out).mono ?_
  rintro e w_2 ⟨rfl, hb⟩
  rw [HR4.out]
  have R4_2 := hid (R4_1.out.below (Nat.le_refl _) hb)
  have R6_2 := hid (R6_1.out.below (Nat.le_refl _) hb)
  have R7_2 := hid (R7_1.out.below (Nat.le_refl _) hb)
  have yR4_2 := hid (yR4_1.out.below (Nat.le_refl _) hb)
  have yR6_2 := hid (yR6_1.out.below (Nat.le_refl _) hb)
  have yR7_2 := hid (yR7_1.out.below (Nat.le_refl _) hb)
  have HB_2 := hid (bel_next HB_1.out HB_1.out.size hb)
  have t0_2 := cell_below hb (Nat.lt_of_succ_lt z_1) t0_1
  have yt0_2 := cell_below hb z_1 yt0_1
  have t1_2 := cell_below hb (Nat.lt_of_succ_lt z_1) t1_1
  have yt1_2 := cell_below hb z_1 yt1_1
  have t2_2 := cell_below hb (Nat.lt_of_succ_lt z_1) t2_1
  have yt2_2 := cell_below hb z_1 yt2_1
  have t3_2 := cell_below hb (Nat.lt_of_succ_lt z_1) t3_1
  have yt3_2 := cell_below hb z_1 yt3_1
  have t4_2 := cell_below hb (Nat.lt_of_succ_lt z_1) t4_1
  have yt4_2 := cell_below hb z_1 yt4_1
  have t5_2 := cell_below hb (Nat.lt_of_succ_lt z_1) t5_1
  have yt5_2 := cell_below hb z_1 yt5_1
  have t6_2 := cell_below hb (Nat.lt_of_succ_lt z_1) t6_1
  have yt6_2 := cell_below hb z_1 yt6_1
  have t7_2 := cell_below hb (Nat.lt_of_succ_lt z_1) t7_1
  have yt7_2 := cell_below hb z_1 yt7_1
  have z_2 := Nat.lt_of_lt_of_le z_1 hb.size
  clear hb R4_1 R6_1 R7_1 yR4_1 yR6_1 yR7_1 HB_1 t0_1 yt0_1 t1_1 yt1_1 t2_1 yt2_1 t3_1 yt3_1 t4_1 yt4_1 t5_1 yt5_1 t6_1 yt6_1 t7_1 yt7_1 z_1
  go_wp2_with fail
  refine (u_eqTermS R7_2.out yR7_2.out).mono ?_
  rintro e w_3 ⟨rfl, hb⟩
  rw [HR5.out]
  have R4_3 := hid (R4_2.out.below (Nat.le_refl _) hb)
  have R6_3 := hid (R6_2.out.below (Nat.le_refl _) hb)
  have R7_3 := hid (R7_2.out.below (Nat.le_refl _) hb)
  have yR4_3 := hid (yR4_2.out.below (Nat.le_refl _) hb)
  have yR6_3 := hid (yR6_2.out.below (Nat.le_refl _) hb)
  have yR7_3 := hid (yR7_2.out.below (Nat.le_refl _) hb)
  have HB_3 := hid (bel_next HB_2.out HB_2.out.size hb)
  have t0_3 := cell_below hb (Nat.lt_of_succ_lt z_2) t0_2
  have yt0_3 := cell_below hb z_2 yt0_2
  have t1_3 := cell_below hb (Nat.lt_of_succ_lt z_2) t1_2
  have yt1_3 := cell_below hb z_2 yt1_2
  have t2_3 := cell_below hb (Nat.lt_of_succ_lt z_2) t2_2
  have yt2_3 := cell_below hb z_2 yt2_2
  have t3_3 := cell_below hb (Nat.lt_of_succ_lt z_2) t3_2
  have yt3_3 := cell_below hb z_2 yt3_2
  have t4_3 := cell_below hb (Nat.lt_of_succ_lt z_2) t4_2
  have yt4_3 := cell_below hb z_2 yt4_2
  have t5_3 := cell_below hb (Nat.lt_of_succ_lt z_2) t5_2
  have yt5_3 := cell_below hb z_2 yt5_2
  have t6_3 := cell_below hb (Nat.lt_of_succ_lt z_2) t6_2
  have yt6_3 := cell_below hb z_2 yt6_2
  have t7_3 := cell_below hb (Nat.lt_of_succ_lt z_2) t7_2
  have yt7_3 := cell_below hb z_2 yt7_2
  have z_3 := Nat.lt_of_lt_of_le z_2 hb.size
  clear hb R4_2 R6_2 R7_2 yR4_2 yR6_2 yR7_2 HB_2 t0_2 yt0_2 t1_2 yt1_2 t2_2 yt2_2 t3_2 yt3_2 t4_2 yt4_2 t5_2 yt5_2 t6_2 yt6_2 t7_2 yt7_2 z_2
  go_wp2
  go_ret
  exact ⟨ret_bool (by rw [HF.out]; simp), HB_3.out⟩
def RetStmt (x : Stmt) (w : World) (e : Ending) (w' : World) : Prop :=
  ∃ a4 p4 a6 p6 a7 p7, e = .returned (.agg #[.int .i64 x.1, .int .i64 x.2.1, .int .i64 x.2.2.1, .int .i64 x.2.2.2.1.1, .slice a4 x.2.2.2.1.2.length p4, .int .i64 x.2.2.2.2.1.1, .slice a6 x.2.2.2.2.1.2.length p6, .slice a7 x.2.2.2.2.2.length p7]) ∧ SlRd cInt (Fresh w.heap.size w') w' a4 p4 x.2.2.2.1.2 ∧ SlRd cInt (Fresh w.heap.size w') w' a6 p6 x.2.2.2.2.1.2 ∧ SlRd cTerm (Fresh w.heap.size w') w' a7 p7 x.2.2.2.2.2 ∧ Below w.heap.size w w'
set_option maxRecDepth 100000 in
set_option maxHeartbeats 1000000 in
theorem u_toStmt {S : Nat → Prop} {d0 d1 d2 d3 d5 : Int} {a4 : Option Addr} {p4 : Nat} {d4 : List Int} {a6 : Option Addr} {p6 : Nat} {d6 : List Int} {a7 : Option Addr} {p7 : Nat} {d7 : List Term} {w : World} (h4 : SlRd cInt S w a4 p4 d4) (h6 : SlRd cInt S w a6 p6 d6) (h7 : SlRd cTerm S w a7 p7 d7) (hz : (d4.length + d6.length + szTs d7) ≤ 1048576) :
    Calls Tryd.prog 62 #[.agg #[.int .i64 d0, .int .i64 d1, .int .i64 d2, .int .i64 d3, .slice a4 d4.length p4, .int .i64 d5, .slice a6 d6.length p6, .slice a7 d7.length p7]] w (RetStmt (d0, d1, d2, (d3, d4), (d5, d6), d7) w) := by
  have h4 := h4.keep (S' := fun b => S b ∧ b < w.heap.size) (w' := w) (fun b hb hlt => ⟨⟨hb, hlt⟩, rfl⟩)
  have R4_0 := hid (((h4.alloc (.cells #[.int .i64 d0, .int .i64 d1, .int .i64 d2, .int .i64 d3, .slice a4 d4.length p4, .int .i64 d5, .slice a6 d6.length p6, .slice a7 d7.length p7] 106)).alloc (.cells #[.int .i64 0, .int .i64 0, .int .i64 0, .int .i64 0, .slice none 0 0, .int .i64 0, .slice none 0 0, .slice none 0 0] 110)).alloc (.cells #[.int .i64 d0, .int .i64 d1, .int .i64 d2, .int .i64 0, .slice none 0 0, .int .i64 0, .slice none 0 0, .slice none 0 0] 110))
  have h6 := h6.keep (S' := fun b => S b ∧ b < w.heap.size) (w' := w) (fun b hb hlt => ⟨⟨hb, hlt⟩, rfl⟩)
  have R6_0 := hid (((h6.alloc (.cells #[.int .i64 d0, .int .i64 d1, .int .i64 d2, .int .i64 d3, .slice a4 d4.length p4, .int .i64 d5, .slice a6 d6.length p6, .slice a7 d7.length p7] 106)).alloc (.cells #[.int .i64 0, .int .i64 0, .int .i64 0, .int .i64 0, .slice none 0 0, .int .i64 0, .slice none 0 0, .slice none 0 0] 110)).alloc (.cells #[.int .i64 d0, .int .i64 d1, .int .i64 d2, .int .i64 0, .slice none 0 0, .int .i64 0, .slice none 0 0, .slice none 0 0] 110))
  have h7 := h7.keep (S' := fun b => S b ∧ b < w.heap.size) (w' := w) (fun b hb hlt => ⟨⟨hb, hlt⟩, rfl⟩)
  have R7_0 := hid (((h7.alloc (.cells #[.int .i64 d0, .int .i64 d1, .int .i64 d2, .int .i64 d3, .slice a4 d4.length p4, .int .i64 d5, .slice a6 d6.length p6, .slice a7 d7.length p7] 106)).alloc (.cells #[.int .i64 0, .int .i64 0, .int .i64 0, .int .i64 0, .slice none 0 0, .int .i64 0, .slice none 0 0, .slice none 0 0] 110)).alloc (.cells #[.int .i64 d0, .int .i64 d1, .int .i64 d2, .int .i64 0, .slice none 0 0, .int .i64 0, .slice none 0 0, .slice none 0 0] 110))
  have HB_0 : Hid (Below w.heap.size w (((w.alloc (.cells #[.int .i64 d0, .int .i64 d1, .int .i64 d2, .int .i64 d3, .slice a4 d4.length p4, .int .i64 d5, .slice a6 d6.length p6, .slice a7 d7.length p7] 106)).alloc (.cells #[.int .i64 0, .int .i64 0, .int .i64 0, .int .i64 0, .slice none 0 0, .int .i64 0, .slice none 0 0, .slice none 0 0] 110)).alloc (.cells #[.int .i64 d0, .int .i64 d1, .int .i64 d2, .int .i64 0, .slice none 0 0, .int .i64 0, .slice none 0 0, .slice none 0 0] 110))) := (((Below.refl _ _).alloc (Nat.le_refl _) _).alloc (by simp) _).alloc (by simp; omega) _
  have z_0 : w.heap.size + 1 + 1 < (((w.alloc (.cells #[.int .i64 d0, .int .i64 d1, .int .i64 d2, .int .i64 d3, .slice a4 d4.length p4, .int .i64 d5, .slice a6 d6.length p6, .slice a7 d7.length p7] 106)).alloc (.cells #[.int .i64 0, .int .i64 0, .int .i64 0, .int .i64 0, .slice none 0 0, .int .i64 0, .slice none 0 0, .slice none 0 0] 110)).alloc (.cells #[.int .i64 d0, .int .i64 d1, .int .i64 d2, .int .i64 0, .slice none 0 0, .int .i64 0, .slice none 0 0, .slice none 0 0] 110)).heap.size := by simp
  have KB_0 : Hid ((((w.alloc (.cells #[.int .i64 d0, .int .i64 d1, .int .i64 d2, .int .i64 d3, .slice a4 d4.length p4, .int .i64 d5, .slice a6 d6.length p6, .slice a7 d7.length p7] 106)).alloc (.cells #[.int .i64 0, .int .i64 0, .int .i64 0, .int .i64 0, .slice none 0 0, .int .i64 0, .slice none 0 0, .slice none 0 0] 110)).alloc (.cells #[.int .i64 d0, .int .i64 d1, .int .i64 d2, .int .i64 0, .slice none 0 0, .int .i64 0, .slice none 0 0, .slice none 0 0] 110)).heap[w.heap.size]? = some (.cells #[.int .i64 d0, .int .i64 d1, .int .i64 d2, .int .i64 d3, .slice a4 d4.length p4, .int .i64 d5, .slice a6 d6.length p6, .slice a7 d7.length p7] 106 (0, 0))) := by unfold Hid; rw [Below.heap_alloc _ _ _ (by simp; omega), Below.heap_alloc _ _ _ (by simp)]; exact new_at rfl
  have KR_0 : Hid ((((w.alloc (.cells #[.int .i64 d0, .int .i64 d1, .int .i64 d2, .int .i64 d3, .slice a4 d4.length p4, .int .i64 d5, .slice a6 d6.length p6, .slice a7 d7.length p7] 106)).alloc (.cells #[.int .i64 0, .int .i64 0, .int .i64 0, .int .i64 0, .slice none 0 0, .int .i64 0, .slice none 0 0, .slice none 0 0] 110)).alloc (.cells #[.int .i64 d0, .int .i64 d1, .int .i64 d2, .int .i64 0, .slice none 0 0, .int .i64 0, .slice none 0 0, .slice none 0 0] 110)).heap[w.heap.size + 1]? = some (.cells #[.int .i64 0, .int .i64 0, .int .i64 0, .int .i64 0, .slice none 0 0, .int .i64 0, .slice none 0 0, .slice none 0 0] 110 (0, 0))) := by unfold Hid; rw [Below.heap_alloc _ _ _ (by simp)]; exact new_at (by simp)
  have KL_0 : Hid ((((w.alloc (.cells #[.int .i64 d0, .int .i64 d1, .int .i64 d2, .int .i64 d3, .slice a4 d4.length p4, .int .i64 d5, .slice a6 d6.length p6, .slice a7 d7.length p7] 106)).alloc (.cells #[.int .i64 0, .int .i64 0, .int .i64 0, .int .i64 0, .slice none 0 0, .int .i64 0, .slice none 0 0, .slice none 0 0] 110)).alloc (.cells #[.int .i64 d0, .int .i64 d1, .int .i64 d2, .int .i64 0, .slice none 0 0, .int .i64 0, .slice none 0 0, .slice none 0 0] 110)).heap[w.heap.size + 1 + 1]? = some (.cells #[.int .i64 d0, .int .i64 d1, .int .i64 d2, .int .i64 0, .slice none 0 0, .int .i64 0, .slice none 0 0, .slice none 0 0] 110 (0, 0))) := new_at (by simp)
  clear h4 h6 h7
  go_enter Tryd.func62, Tryd.ntmps62
  go_wp2_with fail
  generalize (((w.alloc (.cells #[.int .i64 d0, .int .i64 d1, .int .i64 d2, .int .i64 d3, .slice a4 d4.length p4, .int .i64 d5, .slice a6 d6.length p6, .slice a7 d7.length p7] 106)).alloc (.cells #[.int .i64 0, .int .i64 0, .int .i64 0, .int .i64 0, .slice none 0 0, .int .i64 0, .slice none 0 0, .slice none 0 0] 110)).alloc (.cells #[.int .i64 d0, .int .i64 d1, .int .i64 d2, .int .i64 0, .slice none 0 0, .int .i64 0, .slice none 0 0, .slice none 0 0] 110)) = wc_0 at *
  refine (u_toTerm R4_0.out (by omega)).mono ?_
  rintro e w_1 ⟨na4, np4, rfl, hs4, hb⟩
  simp only at hs4 ⊢
  have R4_1 := hid (R4_0.out.below (Nat.le_refl _) hb)
  have R6_1 := hid (R6_0.out.below (Nat.le_refl _) hb)
  have R7_1 := hid (R7_0.out.below (Nat.le_refl _) hb)
  have N4_1 := hid (hs4.lower (B' := w.heap.size + 1 + 1 + 1) z_0)
  have HB_1 := hid (bel_next HB_0.out HB_0.out.size hb)
  have KB_1 := hid ((hb.block (w.heap.size) (by omega)).trans KB_0.out)
  have KR_1 := hid ((hb.block (w.heap.size + 1) (by omega)).trans KR_0.out)
  have KL_1 := hid ((hb.block (w.heap.size + 1 + 1) (by omega)).trans KL_0.out)
  have z_1 := Nat.lt_of_lt_of_le z_0 hb.size
  clear hb hs4 R4_0 R6_0 R7_0  HB_0 KB_0 KR_0 KL_0 z_0
  have tb0 := cell_of KB_1.out (j := 0) rfl
  have tl0 := cell_of KL_1.out (j := 0) rfl
  have fl0 := frz_of KL_1.out 0
  have tb1 := cell_of KB_1.out (j := 1) rfl
  have tl1 := cell_of KL_1.out (j := 1) rfl
  have fl1 := frz_of KL_1.out 1
  have tb2 := cell_of KB_1.out (j := 2) rfl
  have tl2 := cell_of KL_1.out (j := 2) rfl
  have fl2 := frz_of KL_1.out 2
  have tb3 := cell_of KB_1.out (j := 3) rfl
  have tl3 := cell_of KL_1.out (j := 3) rfl
  have fl3 := frz_of KL_1.out 3
  have tb4 := cell_of KB_1.out (j := 4) rfl
  have tl4 := cell_of KL_1.out (j := 4) rfl
  have fl4 := frz_of KL_1.out 4
  have tb5 := cell_of KB_1.out (j := 5) rfl
  have tl5 := cell_of KL_1.out (j := 5) rfl
  have fl5 := frz_of KL_1.out 5
  have tb6 := cell_of KB_1.out (j := 6) rfl
  have tl6 := cell_of KL_1.out (j := 6) rfl
  have fl6 := frz_of KL_1.out 6
  have tb7 := cell_of KB_1.out (j := 7) rfl
  have tl7 := cell_of KL_1.out (j := 7) rfl
  have fl7 := frz_of KL_1.out 7
  go_wp2_with fail
  clear tb0 tl0 fl0 tb1 tl1 fl1 tb2 tl2 fl2 tb3 tl3 fl3 tb4 tl4 fl4 tb5 tl5 fl5 tb6 tl6 fl6 tb7 tl7 fl7
  have R4_1 : Hid (SlRd cInt (fun b => S b ∧ b < w.heap.size) (w_1.setCell ⟨w.heap.size + 1 + 1, 3, none⟩ (.int .i64 d3)) a4 p4 d4) := R4_1.out.set_ne (p := ⟨w.heap.size + 1 + 1, 3, none⟩) (fun b h => by have h2 := h.2; show b ≠ w.heap.size + 1 + 1; omega) _
  have R6_1 : Hid (SlRd cInt (fun b => S b ∧ b < w.heap.size) (w_1.setCell ⟨w.heap.size + 1 + 1, 3, none⟩ (.int .i64 d3)) a6 p6 d6) := R6_1.out.set_ne (p := ⟨w.heap.size + 1 + 1, 3, none⟩) (fun b h => by have h2 := h.2; show b ≠ w.heap.size + 1 + 1; omega) _
  have R7_1 : Hid (SlRd cTerm (fun b => S b ∧ b < w.heap.size) (w_1.setCell ⟨w.heap.size + 1 + 1, 3, none⟩ (.int .i64 d3)) a7 p7 d7) := R7_1.out.set_ne (p := ⟨w.heap.size + 1 + 1, 3, none⟩) (fun b h => by have h2 := h.2; show b ≠ w.heap.size + 1 + 1; omega) _
  have N4_1 := hid (N4_1.out.setC (p := ⟨w.heap.size + 1 + 1, 3, none⟩) (by simp) (.int .i64 d3))
  have HB_1 := hid (HB_1.out.setCell (p := ⟨w.heap.size + 1 + 1, 3, none⟩) (by simp; omega) (.int .i64 d3))
  have KB_1 := hid (blk_ne (b := w.heap.size) (p := ⟨w.heap.size + 1 + 1, 3, none⟩) (by simp; omega) KB_1.out (.int .i64 d3))
  have KR_1 := hid (blk_ne (b := w.heap.size + 1) (p := ⟨w.heap.size + 1 + 1, 3, none⟩) (by simp) KR_1.out (.int .i64 d3))
  have KL_1 : Hid ((w_1.setCell ⟨w.heap.size + 1 + 1, 3, none⟩ (.int .i64 d3)).heap[w.heap.size + 1 + 1]? = some (.cells #[.int .i64 d0, .int .i64 d1, .int .i64 d2, .int .i64 d3, .slice none 0 0, .int .i64 0, .slice none 0 0, .slice none 0 0] 110 (0, 0))) := blk_set KL_1.out 3 (.int .i64 d3)
  have z_1 : w.heap.size + 1 + 1 < (w_1.setCell ⟨w.heap.size + 1 + 1, 3, none⟩ (.int .i64 d3)).heap.size := by rw [size_set]; exact z_1
  have R4_1 : Hid (SlRd cInt (fun b => S b ∧ b < w.heap.size) ((w_1.setCell ⟨w.heap.size + 1 + 1, 3, none⟩ (.int .i64 d3)).setCell ⟨w.heap.size + 1 + 1, 4, none⟩ (.slice na4 d4.length np4)) a4 p4 d4) := R4_1.out.set_ne (p := ⟨w.heap.size + 1 + 1, 4, none⟩) (fun b h => by have h2 := h.2; show b ≠ w.heap.size + 1 + 1; omega) _
  have R6_1 : Hid (SlRd cInt (fun b => S b ∧ b < w.heap.size) ((w_1.setCell ⟨w.heap.size + 1 + 1, 3, none⟩ (.int .i64 d3)).setCell ⟨w.heap.size + 1 + 1, 4, none⟩ (.slice na4 d4.length np4)) a6 p6 d6) := R6_1.out.set_ne (p := ⟨w.heap.size + 1 + 1, 4, none⟩) (fun b h => by have h2 := h.2; show b ≠ w.heap.size + 1 + 1; omega) _
  have R7_1 : Hid (SlRd cTerm (fun b => S b ∧ b < w.heap.size) ((w_1.setCell ⟨w.heap.size + 1 + 1, 3, none⟩ (.int .i64 d3)).setCell ⟨w.heap.size + 1 + 1, 4, none⟩ (.slice na4 d4.length np4)) a7 p7 d7) := R7_1.out.set_ne (p := ⟨w.heap.size + 1 + 1, 4, none⟩) (fun b h => by have h2 := h.2; show b ≠ w.heap.size + 1 + 1; omega) _
  have N4_1 := hid (N4_1.out.setC (p := ⟨w.heap.size + 1 + 1, 4, none⟩) (by simp) (.slice na4 d4.length np4))
  have HB_1 := hid (HB_1.out.setCell (p := ⟨w.heap.size + 1 + 1, 4, none⟩) (by simp; omega) (.slice na4 d4.length np4))
  have KB_1 := hid (blk_ne (b := w.heap.size) (p := ⟨w.heap.size + 1 + 1, 4, none⟩) (by simp; omega) KB_1.out (.slice na4 d4.length np4))
  have KR_1 := hid (blk_ne (b := w.heap.size + 1) (p := ⟨w.heap.size + 1 + 1, 4, none⟩) (by simp) KR_1.out (.slice na4 d4.length np4))
  have KL_1 : Hid (((w_1.setCell ⟨w.heap.size + 1 + 1, 3, none⟩ (.int .i64 d3)).setCell ⟨w.heap.size + 1 + 1, 4, none⟩ (.slice na4 d4.length np4)).heap[w.heap.size + 1 + 1]? = some (.cells #[.int .i64 d0, .int .i64 d1, .int .i64 d2, .int .i64 d3, .slice na4 d4.length np4, .int .i64 0, .slice none 0 0, .slice none 0 0] 110 (0, 0))) := blk_set KL_1.out 4 (.slice na4 d4.length np4)
  have z_1 : w.heap.size + 1 + 1 < ((w_1.setCell ⟨w.heap.size + 1 + 1, 3, none⟩ (.int .i64 d3)).setCell ⟨w.heap.size + 1 + 1, 4, none⟩ (.slice na4 d4.length np4)).heap.size := by rw [size_set]; exact z_1
  generalize ((w_1.setCell ⟨w.heap.size + 1 + 1, 3, none⟩ (.int .i64 d3)).setCell ⟨w.heap.size + 1 + 1, 4, none⟩ (.slice na4 d4.length np4)) = wc_1 at *
  refine (u_toTerm R6_1.out (by omega)).mono ?_
  rintro e w_2 ⟨na6, np6, rfl, hs6, hb⟩
  simp only at hs6 ⊢
  have R4_2 := hid (R4_1.out.below (Nat.le_refl _) hb)
  have R6_2 := hid (R6_1.out.below (Nat.le_refl _) hb)
  have R7_2 := hid (R7_1.out.below (Nat.le_refl _) hb)
  have N4_2 := hid (N4_1.out.fresh (Nat.le_refl _) (Nat.le_refl _) hb)
  have N6_2 := hid (hs6.lower (B' := w.heap.size + 1 + 1 + 1) z_1)
  have HB_2 := hid (bel_next HB_1.out HB_1.out.size hb)
  have KB_2 := hid ((hb.block (w.heap.size) (by omega)).trans KB_1.out)
  have KR_2 := hid ((hb.block (w.heap.size + 1) (by omega)).trans KR_1.out)
  have KL_2 := hid ((hb.block (w.heap.size + 1 + 1) (by omega)).trans KL_1.out)
  have z_2 := Nat.lt_of_lt_of_le z_1 hb.size
  clear hb hs6 R4_1 R6_1 R7_1 N4_1 HB_1 KB_1 KR_1 KL_1 z_1
  have tb0 := cell_of KB_2.out (j := 0) rfl
  have tl0 := cell_of KL_2.out (j := 0) rfl
  have fl0 := frz_of KL_2.out 0
  have tb1 := cell_of KB_2.out (j := 1) rfl
  have tl1 := cell_of KL_2.out (j := 1) rfl
  have fl1 := frz_of KL_2.out 1
  have tb2 := cell_of KB_2.out (j := 2) rfl
  have tl2 := cell_of KL_2.out (j := 2) rfl
  have fl2 := frz_of KL_2.out 2
  have tb3 := cell_of KB_2.out (j := 3) rfl
  have tl3 := cell_of KL_2.out (j := 3) rfl
  have fl3 := frz_of KL_2.out 3
  have tb4 := cell_of KB_2.out (j := 4) rfl
  have tl4 := cell_of KL_2.out (j := 4) rfl
  have fl4 := frz_of KL_2.out 4
  have tb5 := cell_of KB_2.out (j := 5) rfl
  have tl5 := cell_of KL_2.out (j := 5) rfl
  have fl5 := frz_of KL_2.out 5
  have tb6 := cell_of KB_2.out (j := 6) rfl
  have tl6 := cell_of KL_2.out (j := 6) rfl
  have fl6 := frz_of KL_2.out 6
  have tb7 := cell_of KB_2.out (j := 7) rfl
  have tl7 := cell_of KL_2.out (j := 7) rfl
  have fl7 := frz_of KL_2.out 7
  go_wp2_with fail
  clear tb0 tl0 fl0 tb1 tl1 fl1 tb2 tl2 fl2 tb3 tl3 fl3 tb4 tl4 fl4 tb5 tl5 fl5 tb6 tl6 fl6 tb7 tl7 fl7
  have R4_2 : Hid (SlRd cInt (fun b => S b ∧ b < w.heap.size) (w_2.setCell ⟨w.heap.size + 1 + 1, 5, none⟩ (.int .i64 d5)) a4 p4 d4) := R4_2.out.set_ne (p := ⟨w.heap.size + 1 + 1, 5, none⟩) (fun b h => by have h2 := h.2; show b ≠ w.heap.size + 1 + 1; omega) _
  have R6_2 : Hid (SlRd cInt (fun b => S b ∧ b < w.heap.size) (w_2.setCell ⟨w.heap.size + 1 + 1, 5, none⟩ (.int .i64 d5)) a6 p6 d6) := R6_2.out.set_ne (p := ⟨w.heap.size + 1 + 1, 5, none⟩) (fun b h => by have h2 := h.2; show b ≠ w.heap.size + 1 + 1; omega) _
  have R7_2 : Hid (SlRd cTerm (fun b => S b ∧ b < w.heap.size) (w_2.setCell ⟨w.heap.size + 1 + 1, 5, none⟩ (.int .i64 d5)) a7 p7 d7) := R7_2.out.set_ne (p := ⟨w.heap.size + 1 + 1, 5, none⟩) (fun b h => by have h2 := h.2; show b ≠ w.heap.size + 1 + 1; omega) _
  have N4_2 := hid (N4_2.out.setC (p := ⟨w.heap.size + 1 + 1, 5, none⟩) (by simp) (.int .i64 d5))
  have N6_2 := hid (N6_2.out.setC (p := ⟨w.heap.size + 1 + 1, 5, none⟩) (by simp) (.int .i64 d5))
  have HB_2 := hid (HB_2.out.setCell (p := ⟨w.heap.size + 1 + 1, 5, none⟩) (by simp; omega) (.int .i64 d5))
  have KB_2 := hid (blk_ne (b := w.heap.size) (p := ⟨w.heap.size + 1 + 1, 5, none⟩) (by simp; omega) KB_2.out (.int .i64 d5))
  have KR_2 := hid (blk_ne (b := w.heap.size + 1) (p := ⟨w.heap.size + 1 + 1, 5, none⟩) (by simp) KR_2.out (.int .i64 d5))
  have KL_2 : Hid ((w_2.setCell ⟨w.heap.size + 1 + 1, 5, none⟩ (.int .i64 d5)).heap[w.heap.size + 1 + 1]? = some (.cells #[.int .i64 d0, .int .i64 d1, .int .i64 d2, .int .i64 d3, .slice na4 d4.length np4, .int .i64 d5, .slice none 0 0, .slice none 0 0] 110 (0, 0))) := blk_set KL_2.out 5 (.int .i64 d5)
  have z_2 : w.heap.size + 1 + 1 < (w_2.setCell ⟨w.heap.size + 1 + 1, 5, none⟩ (.int .i64 d5)).heap.size := by rw [size_set]; exact z_2
  have R4_2 : Hid (SlRd cInt (fun b => S b ∧ b < w.heap.size) ((w_2.setCell ⟨w.heap.size + 1 + 1, 5, none⟩ (.int .i64 d5)).setCell ⟨w.heap.size + 1 + 1, 6, none⟩ (.slice na6 d6.length np6)) a4 p4 d4) := R4_2.out.set_ne (p := ⟨w.heap.size + 1 + 1, 6, none⟩) (fun b h => by have h2 := h.2; show b ≠ w.heap.size + 1 + 1; omega) _
  have R6_2 : Hid (SlRd cInt (fun b => S b ∧ b < w.heap.size) ((w_2.setCell ⟨w.heap.size + 1 + 1, 5, none⟩ (.int .i64 d5)).setCell ⟨w.heap.size + 1 + 1, 6, none⟩ (.slice na6 d6.length np6)) a6 p6 d6) := R6_2.out.set_ne (p := ⟨w.heap.size + 1 + 1, 6, none⟩) (fun b h => by have h2 := h.2; show b ≠ w.heap.size + 1 + 1; omega) _
  have R7_2 : Hid (SlRd cTerm (fun b => S b ∧ b < w.heap.size) ((w_2.setCell ⟨w.heap.size + 1 + 1, 5, none⟩ (.int .i64 d5)).setCell ⟨w.heap.size + 1 + 1, 6, none⟩ (.slice na6 d6.length np6)) a7 p7 d7) := R7_2.out.set_ne (p := ⟨w.heap.size + 1 + 1, 6, none⟩) (fun b h => by have h2 := h.2; show b ≠ w.heap.size + 1 + 1; omega) _
  have N4_2 := hid (N4_2.out.setC (p := ⟨w.heap.size + 1 + 1, 6, none⟩) (by simp) (.slice na6 d6.length np6))
  have N6_2 := hid (N6_2.out.setC (p := ⟨w.heap.size + 1 + 1, 6, none⟩) (by simp) (.slice na6 d6.length np6))
  have HB_2 := hid (HB_2.out.setCell (p := ⟨w.heap.size + 1 + 1, 6, none⟩) (by simp; omega) (.slice na6 d6.length np6))
  have KB_2 := hid (blk_ne (b := w.heap.size) (p := ⟨w.heap.size + 1 + 1, 6, none⟩) (by simp; omega) KB_2.out (.slice na6 d6.length np6))
  have KR_2 := hid (blk_ne (b := w.heap.size + 1) (p := ⟨w.heap.size + 1 + 1, 6, none⟩) (by simp) KR_2.out (.slice na6 d6.length np6))
  have KL_2 : Hid (((w_2.setCell ⟨w.heap.size + 1 + 1, 5, none⟩ (.int .i64 d5)).setCell ⟨w.heap.size + 1 + 1, 6, none⟩ (.slice na6 d6.length np6)).heap[w.heap.size + 1 + 1]? = some (.cells #[.int .i64 d0, .int .i64 d1, .int .i64 d2, .int .i64 d3, .slice na4 d4.length np4, .int .i64 d5, .slice na6 d6.length np6, .slice none 0 0] 110 (0, 0))) := blk_set KL_2.out 6 (.slice na6 d6.length np6)
  have z_2 : w.heap.size + 1 + 1 < ((w_2.setCell ⟨w.heap.size + 1 + 1, 5, none⟩ (.int .i64 d5)).setCell ⟨w.heap.size + 1 + 1, 6, none⟩ (.slice na6 d6.length np6)).heap.size := by rw [size_set]; exact z_2
  generalize ((w_2.setCell ⟨w.heap.size + 1 + 1, 5, none⟩ (.int .i64 d5)).setCell ⟨w.heap.size + 1 + 1, 6, none⟩ (.slice na6 d6.length np6)) = wc_2 at *
  refine (u_toTermS R7_2.out (by omega)).mono ?_
  rintro e w_3 ⟨na7, np7, rfl, hs7, hb⟩
  have R4_3 := hid (R4_2.out.below (Nat.le_refl _) hb)
  have R6_3 := hid (R6_2.out.below (Nat.le_refl _) hb)
  have R7_3 := hid (R7_2.out.below (Nat.le_refl _) hb)
  have N4_3 := hid (N4_2.out.fresh (Nat.le_refl _) (Nat.le_refl _) hb)
  have N6_3 := hid (N6_2.out.fresh (Nat.le_refl _) (Nat.le_refl _) hb)
  have N7_3 := hid (hs7.lower (B' := w.heap.size + 1 + 1 + 1) z_2)
  have HB_3 := hid (bel_next HB_2.out HB_2.out.size hb)
  have KB_3 := hid ((hb.block (w.heap.size) (by omega)).trans KB_2.out)
  have KR_3 := hid ((hb.block (w.heap.size + 1) (by omega)).trans KR_2.out)
  have KL_3 := hid ((hb.block (w.heap.size + 1 + 1) (by omega)).trans KL_2.out)
  have z_3 := Nat.lt_of_lt_of_le z_2 hb.size
  clear hb hs7 R4_2 R6_2 R7_2 N4_2 N6_2 HB_2 KB_2 KR_2 KL_2 z_2
  have tb0 := cell_of KB_3.out (j := 0) rfl
  have tl0 := cell_of KL_3.out (j := 0) rfl
  have fl0 := frz_of KL_3.out 0
  have tr0 := cell_of KR_3.out (j := 0) rfl
  have fr0 := frz_of KR_3.out 0
  have tb1 := cell_of KB_3.out (j := 1) rfl
  have tl1 := cell_of KL_3.out (j := 1) rfl
  have fl1 := frz_of KL_3.out 1
  have tr1 := cell_of KR_3.out (j := 1) rfl
  have fr1 := frz_of KR_3.out 1
  have tb2 := cell_of KB_3.out (j := 2) rfl
  have tl2 := cell_of KL_3.out (j := 2) rfl
  have fl2 := frz_of KL_3.out 2
  have tr2 := cell_of KR_3.out (j := 2) rfl
  have fr2 := frz_of KR_3.out 2
  have tb3 := cell_of KB_3.out (j := 3) rfl
  have tl3 := cell_of KL_3.out (j := 3) rfl
  have fl3 := frz_of KL_3.out 3
  have tr3 := cell_of KR_3.out (j := 3) rfl
  have fr3 := frz_of KR_3.out 3
  have tb4 := cell_of KB_3.out (j := 4) rfl
  have tl4 := cell_of KL_3.out (j := 4) rfl
  have fl4 := frz_of KL_3.out 4
  have tr4 := cell_of KR_3.out (j := 4) rfl
  have fr4 := frz_of KR_3.out 4
  have tb5 := cell_of KB_3.out (j := 5) rfl
  have tl5 := cell_of KL_3.out (j := 5) rfl
  have fl5 := frz_of KL_3.out 5
  have tr5 := cell_of KR_3.out (j := 5) rfl
  have fr5 := frz_of KR_3.out 5
  have tb6 := cell_of KB_3.out (j := 6) rfl
  have tl6 := cell_of KL_3.out (j := 6) rfl
  have fl6 := frz_of KL_3.out 6
  have tr6 := cell_of KR_3.out (j := 6) rfl
  have fr6 := frz_of KR_3.out 6
  have tb7 := cell_of KB_3.out (j := 7) rfl
  have tl7 := cell_of KL_3.out (j := 7) rfl
  have fl7 := frz_of KL_3.out 7
  have tr7 := cell_of KR_3.out (j := 7) rfl
  have fr7 := frz_of KR_3.out 7
  go_wp2
  refine bodyPost_ret (v := .agg #[.int .i64 d0, .int .i64 d1, .int .i64 d2, .int .i64 d3, .slice na4 d4.length np4, .int .i64 d5, .slice na6 d6.length np6, .slice na7 d7.length np7]) (by simp [results, Tryd.results62, go_sem, tr0, tr1, tr2, tr3, tr4, tr5, tr6, tr7]) rfl ⟨na4, np4, na6, np6, na7, np7, rfl, ?_, ?_, ?_, ?_⟩
  · exact (((((((((N4_3.out.setC (by simp) _).setC (by simp) _).setC (by simp) _).setC (by simp) _).setC (by simp) _).setC (by simp) _).setC (by simp) _).setC (by simp) _).setC (by simp) _).lower (by omega)
  · exact (((((((((N6_3.out.setC (by simp) _).setC (by simp) _).setC (by simp) _).setC (by simp) _).setC (by simp) _).setC (by simp) _).setC (by simp) _).setC (by simp) _).setC (by simp) _).lower (by omega)
  · exact (((((((((N7_3.out.setC (by simp) _).setC (by simp) _).setC (by simp) _).setC (by simp) _).setC (by simp) _).setC (by simp) _).setC (by simp) _).setC (by simp) _).setC (by simp) _).lower (by omega)
  · exact (((((((((HB_3.out.setCell (by simp <;> omega) _).setCell (by simp <;> omega) _).setCell (by simp <;> omega) _).setCell (by simp <;> omega) _).setCell (by simp <;> omega) _).setCell (by simp <;> omega) _).setCell (by simp <;> omega) _).setCell (by simp <;> omega) _).setCell (by simp <;> omega) _)
abbrev cStmts : Codec (List Stmt) := cSl cStmt
abbrev nStmts : Norm cStmts := nSl nStmt
def szStmt (x : Stmt) : Nat := (x.2.2.2.1.2.length + x.2.2.2.2.1.2.length + szTs x.2.2.2.2.2)
def szStmts (xs : List Stmt) : Nat := xs.length + (xs.map szStmt).sum
theorem szStmts_le {x : Stmt} {xs : List Stmt} (h : x ∈ xs) : szStmt x ≤ szStmts xs := by have := sumf_mem (f := szStmt) h; unfold szStmts; omega
theorem SlRd.stmt_at {S : Nat → Prop} {w : World} {b off cap : Nat} {xs : List Stmt} (h : SlRd cStmt S w (some ⟨b, off, none⟩) cap xs) (k : Nat) (hk : k < xs.length) :
    ∃ (d0 : Int) (d1 : Int) (d2 : Int) (d3 : Int) (a4 : Option Addr) (p4 : Nat) (d4 : List Int) (d5 : Int) (a6 : Option Addr) (p6 : Nat) (d6 : List Int) (a7 : Option Addr) (p7 : Nat) (d7 : List Term), xs[k]? = some (d0, d1, d2, (d3, d4), (d5, d6), d7) ∧ I64 d0 ∧ I64 d1 ∧ I64 d2 ∧ I64 d3 ∧ I64 d5 ∧ SlRd cInt S w a4 p4 d4 ∧ SlRd cInt S w a6 p6 d6 ∧ SlRd cTerm S w a7 p7 d7 ∧ w.cell? ⟨b, off + k * 8, none⟩ = some (.int .i64 d0) ∧ w.cell? ⟨b, off + k * 8 + 1, none⟩ = some (.int .i64 d1) ∧ w.cell? ⟨b, off + k * 8 + 2, none⟩ = some (.int .i64 d2) ∧ w.cell? ⟨b, off + k * 8 + 3, none⟩ = some (.int .i64 d3) ∧ w.cell? ⟨b, off + k * 8 + 4, none⟩ = some (.slice a4 d4.length p4) ∧ w.cell? ⟨b, off + k * 8 + 5, none⟩ = some (.int .i64 d5) ∧ w.cell? ⟨b, off + k * 8 + 6, none⟩ = some (.slice a6 d6.length p6) ∧ w.cell? ⟨b, off + k * 8 + 7, none⟩ = some (.slice a7 d7.length p7) ∧ b < w.heap.size := by
  obtain ⟨x, cs, h1, hr, h7, _, hc⟩ := h.at k hk
  obtain ⟨a4, p4, a6, p6, a7, p7, rfl, r4, r6, r7, r0, r1, r2, r3, r5⟩ := Stmt_list hr
  exact ⟨x.1, x.2.1, x.2.2.1, x.2.2.2.1.1, a4, p4, x.2.2.2.1.2, x.2.2.2.2.1.1, a6, p6, x.2.2.2.2.1.2, a7, p7, x.2.2.2.2.2, h1, r0, r1, r2, r3, r5, r4, r6, r7, hc 0 _ rfl, hc 1 _ rfl, hc 2 _ rfl, hc 3 _ rfl, hc 4 _ rfl, hc 5 _ rfl, hc 6 _ rfl, hc 7 _ rfl, h7⟩
theorem own_at_Stmt {S : Nat → Prop} {w : World} {base : Nat} {e : TypeId} {zl : List Stmt} {g cap n : Nat} (h : OwnSl cStmt S w base e (.slice (some ⟨g, 0, none⟩) n cap) zl) (hn : zl.length = n) (k : Nat) (hk : k < n) :
    ∃ (d0 : Int) (d1 : Int) (d2 : Int) (d3 : Int) (a4 : Option Addr) (p4 : Nat) (d4 : List Int) (d5 : Int) (a6 : Option Addr) (p6 : Nat) (d6 : List Int) (a7 : Option Addr) (p7 : Nat) (d7 : List Term), w.cell? ⟨g, k * 8, none⟩ = some (.int .i64 d0) ∧ w.cell? ⟨g, k * 8 + 1, none⟩ = some (.int .i64 d1) ∧ w.cell? ⟨g, k * 8 + 2, none⟩ = some (.int .i64 d2) ∧ w.cell? ⟨g, k * 8 + 3, none⟩ = some (.int .i64 d3) ∧ w.cell? ⟨g, k * 8 + 4, none⟩ = some (.slice a4 d4.length p4) ∧ w.cell? ⟨g, k * 8 + 5, none⟩ = some (.int .i64 d5) ∧ w.cell? ⟨g, k * 8 + 6, none⟩ = some (.slice a6 d6.length p6) ∧ w.cell? ⟨g, k * 8 + 7, none⟩ = some (.slice a7 d7.length p7) ∧ w.frozen? ⟨g, k * 8, none⟩ = false ∧ w.frozen? ⟨g, k * 8 + 1, none⟩ = false ∧ w.frozen? ⟨g, k * 8 + 2, none⟩ = false ∧ w.frozen? ⟨g, k * 8 + 3, none⟩ = false ∧ w.frozen? ⟨g, k * 8 + 4, none⟩ = false ∧ w.frozen? ⟨g, k * 8 + 5, none⟩ = false ∧ w.frozen? ⟨g, k * 8 + 6, none⟩ = false ∧ w.frozen? ⟨g, k * 8 + 7, none⟩ = false ∧ g < w.heap.size := by
  obtain ⟨x, cs, h1, hr, h2, h3, h4, h5⟩ := own_at h hn k hk
  obtain ⟨a4, p4, a6, p6, a7, p7, rfl, r4, r6, r7, r0, r1, r2, r3, r5⟩ := Stmt_list hr
  exact ⟨x.1, x.2.1, x.2.2.1, x.2.2.2.1.1, a4, p4, x.2.2.2.1.2, x.2.2.2.2.1.1, a6, p6, x.2.2.2.2.1.2, a7, p7, x.2.2.2.2.2, h4 0 _ rfl, h4 1 _ rfl, h4 2 _ rfl, h4 3 _ rfl, h4 4 _ rfl, h4 5 _ rfl, h4 6 _ rfl, h4 7 _ rfl, h5 _, h5 _, h5 _, h5 _, h5 _, h5 _, h5 _, h5 _, h2⟩
set_option maxRecDepth 100000 in
theorem own_set_Stmt {B B' base : Nat} {w : World} {e : TypeId} {zl : List Stmt} {g cap n : Nat} (h : OwnSl cStmt (Fresh B w) w base e (.slice (some ⟨g, 0, none⟩) n cap) zl) (hn : zl.length = n) (k : Nat) (hk : k < n)
    {d0 d1 d2 d3 d5 : Int} {a4 : Option Addr} {p4 : Nat} {d4 : List Int} {a6 : Option Addr} {p6 : Nat} {d6 : List Int} {a7 : Option Addr} {p7 : Nat} {d7 : List Term} (i0 : I64 d0) (i1 : I64 d1) (i2 : I64 d2) (i3 : I64 d3) (i5 : I64 d5) (h4 : SlRd cInt (Fresh B' w) w a4 p4 d4) (h6 : SlRd cInt (Fresh B' w) w a6 p6 d6) (h7 : SlRd cTerm (Fresh B' w) w a7 p7 d7) (hB : B ≤ B') (hg : g < B') :
    OwnSl cStmt (Fresh B ((((((((w.setCell ⟨g, k * 8, none⟩ (.int .i64 d0)).setCell ⟨g, k * 8 + 1, none⟩ (.int .i64 d1)).setCell ⟨g, k * 8 + 2, none⟩ (.int .i64 d2)).setCell ⟨g, k * 8 + 3, none⟩ (.int .i64 d3)).setCell ⟨g, k * 8 + 4, none⟩ (.slice a4 d4.length p4)).setCell ⟨g, k * 8 + 5, none⟩ (.int .i64 d5)).setCell ⟨g, k * 8 + 6, none⟩ (.slice a6 d6.length p6)).setCell ⟨g, k * 8 + 7, none⟩ (.slice a7 d7.length p7))) ((((((((w.setCell ⟨g, k * 8, none⟩ (.int .i64 d0)).setCell ⟨g, k * 8 + 1, none⟩ (.int .i64 d1)).setCell ⟨g, k * 8 + 2, none⟩ (.int .i64 d2)).setCell ⟨g, k * 8 + 3, none⟩ (.int .i64 d3)).setCell ⟨g, k * 8 + 4, none⟩ (.slice a4 d4.length p4)).setCell ⟨g, k * 8 + 5, none⟩ (.int .i64 d5)).setCell ⟨g, k * 8 + 6, none⟩ (.slice a6 d6.length p6)).setCell ⟨g, k * 8 + 7, none⟩ (.slice a7 d7.length p7)) base e (.slice (some ⟨g, 0, none⟩) n cap) (zl.set k (d0, d1, d2, (d3, d4), (d5, d6), d7)) ∧ w.grownBy ((((((((w.setCell ⟨g, k * 8, none⟩ (.int .i64 d0)).setCell ⟨g, k * 8 + 1, none⟩ (.int .i64 d1)).setCell ⟨g, k * 8 + 2, none⟩ (.int .i64 d2)).setCell ⟨g, k * 8 + 3, none⟩ (.int .i64 d3)).setCell ⟨g, k * 8 + 4, none⟩ (.slice a4 d4.length p4)).setCell ⟨g, k * 8 + 5, none⟩ (.int .i64 d5)).setCell ⟨g, k * 8 + 6, none⟩ (.slice a6 d6.length p6)).setCell ⟨g, k * 8 + 7, none⟩ (.slice a7 d7.length p7)) (some g) := by
  have k4 : SlRd cInt (fun b => Fresh B w b ∧ b ≠ g) w a4 p4 d4 := h4.keep fun b hb hl => ⟨⟨⟨Nat.le_trans hB hb.1, hb.2⟩, by have := hb.1; omega⟩, rfl⟩
  have k6 : SlRd cInt (fun b => Fresh B w b ∧ b ≠ g) w a6 p6 d6 := h6.keep fun b hb hl => ⟨⟨⟨Nat.le_trans hB hb.1, hb.2⟩, by have := hb.1; omega⟩, rfl⟩
  have k7 : SlRd cTerm (fun b => Fresh B w b ∧ b ≠ g) w a7 p7 d7 := h7.keep fun b hb hl => ⟨⟨⟨Nat.le_trans hB hb.1, hb.2⟩, by have := hb.1; omega⟩, rfl⟩
  have h9 := own_set h hn k hk [.int .i64 d0, .int .i64 d1, .int .i64 d2, .int .i64 d3, .slice a4 d4.length p4, .int .i64 d5, .slice a6 d6.length p6, .slice a7 d7.length p7] (d0, d1, d2, (d3, d4), (d5, d6), d7) (rd_pair (rd_i i0) (rd_pair (rd_i i1) (rd_pair (rd_i i2) (rd_pair (rd_pair (rd_i i3) (rd_sl k4)) (rd_pair (rd_pair (rd_i i5) (rd_sl k6)) (rd_sl k7))))))
  exact ⟨own_refresh h9.1 fun b hb => thawed_setCell (thawed_setCell (thawed_setCell (thawed_setCell (thawed_setCell (thawed_setCell (thawed_setCell (thawed_setCell (hb) _ _) _ _) _ _) _ _) _ _) _ _) _ _) _ _, h9.2⟩
theorem slStmt : SlT Tryd.prog 43 110 (.agg #[.int .i64 0, .int .i64 0, .int .i64 0, .int .i64 0, .slice none 0 0, .int .i64 0, .slice none 0 0, .slice none 0 0]) 8 112 := ⟨Tryd.underlying43, by kernel_rfl, rfl, by decide, by decide⟩
set_option maxRecDepth 100000 in
theorem u_szStmtS {S : Nat → Prop} {a : Option Addr} {p : Nat} {xs : List Stmt} {left : Int} {w : World} (h : SlRd cStmt S w a p xs) (h0 : 0 ≤ left) (h1 : left ≤ 1048576) :
    Calls Tryd.prog 28 #[.slice a xs.length p, .int .i64 left] w fun e w' => e = .returned (.int .i64 (szR left (szStmts xs : Nat))) ∧ Below w.heap.size w w' := by
  have H := hid h
  have hl := h.len_le
  clear h
  by_cases hs : left < xs.length
  · have HF : Hid (szR left (szStmts xs : Nat) = -1) := szR_neg (n := xs.length) (by unfold szR; rw [if_pos hs]; omega)
    have h' : left - (xs.length : Int) < 0 := by omega
    go_enter Tryd.func28, Tryd.ntmps28
    go_wp2
    go_ret
    exact ⟨ret_int HF.out.symm, Below.refl _ _⟩
  · have h' : 0 ≤ left - (xs.length : Int) := by omega
    go_enter Tryd.func28, Tryd.ntmps28
    go_wp2
    go_loopw [1, 5] (fun u i wr => ∃ (k : Nat) (r : Int), k ≤ xs.length ∧ i = .int .i64 k ∧ u = .int .i64 r ∧ 0 ≤ r ∧ r ≤ left ∧ Hid (r = szR left (xs.length + ((xs.take k).map szStmt).sum : Nat)) ∧ Below w.heap.size w wr) (fun _ i _ => xs.length - (intOf i).toNat)
    case atStart => exact ⟨0, _, Nat.zero_le _, rfl, rfl, h', by omega, by (unfold Hid szR; simp; omega), Below.refl _ _⟩
    case round =>
      obtain ⟨k, r, hk, rfl, rfl, hr0, hr1, HR, hbe⟩ := hrel
      have hsz := hbe.size
      by_cases hlt : k < xs.length
      · obtain ⟨b, off, rfl⟩ := H.out.some_of hlt
        obtain ⟨d0, d1, d2, d3, a4, p4, d4, d5, a6, p6, d6, a7, p7, d7, hz, hi0, hi1, hi2, hi3, hi5, hs4, hs6, hs7, hc0, hc1, hc2, hc3, hc4, hc5, hc6, hc7, hb⟩ := (H.out.below (Nat.le_refl _) hbe).stmt_at k hlt
        have HZ := hid hz
        clear hz
        have HC := hid (fun (hr1 : r ≤ 1048576) => u_szStmt (w := wr) (d0 := d0) (d1 := d1) (d2 := d2) (d3 := d3) (d5 := d5) hs4 hs6 hs7 hr0 hr1)
        clear hs4 hs6 hs7
        obtain ⟨q, hq⟩ : ∃ q, szR r (szStmt (d0, d1, d2, (d3, d4), (d5, d6), d7) : Nat) = q := ⟨_, rfl⟩
        have hqs : q = szR left (xs.length + ((xs.take (k + 1)).map szStmt).sum : Nat) := by
          rw [← hq, sumf_take HZ.out]
          have hr := HR.out
          rw [hr] at hr0
          rw [hr, szR_add hr0, Nat.add_assoc]
        have hq1 : q ≤ r := by rw [← hq]; unfold szR; split <;> omega
        have HQ : Hid (szR r ((d4.length + d6.length + szTs d7) : Nat) = q) := hq
        have HS := hid hqs
        clear hq hqs
        by_cases hneg : q < 0
        · have HF : Hid (szR left (szStmts xs : Nat) = -1) := by
            have h2 := HS.out
            rw [h2] at hneg
            have h3 : szStmts xs = (xs.length + ((xs.take (k + 1)).map szStmt).sum) + ((xs.map szStmt).sum - ((xs.take (k + 1)).map szStmt).sum) := by
              have := sumf_take_le szStmt xs (k + 1)
              unfold szStmts; omega
            unfold Hid; rw [h3]; exact szR_neg hneg
          go_wp2_with (go_at_call 57; refine (HC.out (by omega)).mono ?_; rintro e w1 ⟨rfl, hb1⟩; rw [HQ.out])
          go_ret
          exact ⟨ret_int HF.out.symm, bel_next hbe hsz hb1⟩
        · go_wp2_with (go_at_call 57; refine (HC.out (by omega)).mono ?_; rintro e w1 ⟨rfl, hb1⟩; rw [HQ.out])
          go_roundw
          case rel => exact ⟨k + 1, q, by omega, by go_num, rfl, by omega, by omega, HS, bel_next hbe hsz hb1⟩
          case measure => simp [intOf]; omega
      · go_wp2
        go_ret
        exact ⟨ret_int (by rw [HR.out, List.take_of_length_le (by omega)]; rfl), hbe⟩
set_option maxRecDepth 100000 in
set_option maxHeartbeats 1000000 in
theorem u_toStmtS {S : Nat → Prop} {a : Option Addr} {p : Nat} {xs : List Stmt} {w : World} (h : SlRd cStmt S w a p xs) (hz : szStmts xs ≤ 1048576) :
    Calls Tryd.prog 31 #[.slice a xs.length p] w (RetSl cStmt xs w) := by
  have H := hid h
  have hn : xs.length ≤ 1048576 := by unfold szStmts at hz; omega
  have HN : Hid (∀ x ∈ xs, szStmt x ≤ 1048576) := fun x hx => Nat.le_trans (szStmts_le hx) hz
  clear h hz
  go_enter Tryd.func31, Tryd.ntmps31
  go_wp2_with (at_make; go_loud (refine wpList_mk rfl (.tmp 6) (.tmp 6) _ rfl rfl rfl (own_mk slStmt (C := cStmt) (base := w.heap.size) (fun _ => False) xs.length (by omega) (Nat.le_refl _) (0, 0, 0, (0, []), (0, []), []) (fun _ _ => rd_pair rd_int0 (rd_pair rd_int0 (rd_pair rd_int0 (rd_pair (rd_pair rd_int0 rd_nil) (rd_pair (rd_pair rd_int0 rd_nil) rd_nil))))) _ _) ?_); rintro w1 ⟨hown, hg⟩)
  have hlt0 : w.heap.size < w1.heap.size := (own_lt hown _ rfl).2
  have HO := hid hown
  have HG := hid hg
  clear hown hg
  go_loopw [4] (fun i wr => ∃ k : Nat, k ≤ xs.length ∧ i = .int .i64 k ∧ Hid (OwnSl cStmt (Fresh w.heap.size wr) wr w.heap.size 110 (.slice (some ⟨w.heap.size, 0, none⟩) xs.length xs.length) (xs.take k ++ List.replicate (xs.length - k) (0, 0, 0, (0, []), (0, []), []))) ∧ Below w.heap.size w wr ∧ w.heap.size < wr.heap.size) (fun i _ => xs.length - (intOf i).toNat)
  case atStart => exact ⟨0, Nat.zero_le _, rfl, by simpa [Hid] using own_keep (S' := Fresh w.heap.size w1) HO.out (fun _ h => h.elim) (fun _ _ _ => rfl), (Below.refl _ _).grown HG.out (Nat.le_refl _) (by simp), hlt0⟩
  case round =>
    obtain ⟨k, hk, rfl, HW, hbe, hgl⟩ := hrel
    have hsz := hbe.size
    by_cases hlt : k < xs.length
    · obtain ⟨b, off, rfl⟩ := H.out.some_of hlt
      obtain ⟨d0, d1, d2, d3, a4, p4, d4, d5, a6, p6, d6, a7, p7, d7, hz, hi0, hi1, hi2, hi3, hi5, hs4, hs6, hs7, hc0, hc1, hc2, hc3, hc4, hc5, hc6, hc7, hb⟩ := (H.out.below (Nat.le_refl _) hbe).stmt_at k hlt
      have hzl := HN.out _ (List.mem_of_getElem? hz)
      have HC := hid (u_toStmt (w := wr) (d0 := d0) (d1 := d1) (d2 := d2) (d3 := d3) (d5 := d5) hs4 hs6 hs7 hzl)
      have HZ := hid hz
      clear hz hzl hs4 hs6 hs7
      go_wp2_with (go_at_call 62; refine HC.out.mono ?_; rintro e w2 ⟨na4, np4, na6, np6, na7, np7, rfl, nh4, nh6, nh7, hb2⟩; simp only at nh4 nh6 nh7 ⊢; have hw2 := own_fresh HW.out (Nat.le_refl _) (Nat.le_refl _) hb2; obtain ⟨_, _, _, _, _, _, _, _, _, _, _, _, _, _, g0, g1, g2, g3, g4, g5, g6, g7, f0, f1, f2, f3, f4, f5, f6, f7, _⟩ := own_at_Stmt hw2 (fill_len rfl hk) k hlt; have HW2 := hid hw2; have NH4 := hid nh4; have NH6 := hid nh6; have NH7 := hid nh7; have hz2 := hb2.size; have HB2 := hid hb2; clear hw2 hb2 nh4 nh6 nh7)
      go_roundw
      case rel =>
        obtain ⟨h1, h2⟩ := own_set_Stmt HW2.out (fill_len rfl hk) k hlt hi0 hi1 hi2 hi3 hi5 NH4.out NH6.out NH7.out hsz hgl
        rw [fill_set rfl hlt HZ.out] at h1
        exact ⟨k + 1, by omega, by go_num, h1, (((((((((hbe.trans (HB2.out.mono hsz)).setCell (Nat.le_refl _) _).setCell (Nat.le_refl _) _).setCell (Nat.le_refl _) _).setCell (Nat.le_refl _) _).setCell (Nat.le_refl _) _).setCell (Nat.le_refl _) _).setCell (Nat.le_refl _) _).setCell (Nat.le_refl _) _), by simp [World.setCell]; omega⟩
      case measure => simp [intOf]; omega
    · go_wp2
      go_ret
      have hown := HW.out
      rw [fill_end rfl (by omega)] at hown
      exact retSl_own hown (fun _ h _ => h) hbe
set_option maxRecDepth 100000 in
set_option maxHeartbeats 1000000 in
theorem u_eqStmtS {S T : Nat → Prop} {a b : Option Addr} {ca cb : Nat} {xs ys : List Stmt} {w : World} (hx : SlRd cStmt S w a ca xs) (hy : SlRd cStmt T w b cb ys) :
    Calls Tryd.prog 34 #[.slice a xs.length ca, .slice b ys.length cb] w fun e w' => e = .returned (.bool (decide (xs = ys))) ∧ Below w.heap.size w w' := by
  have HX := hid hx
  have HY := hid hy
  have hlx := hx.len_le
  have hly := hy.len_le
  clear hx hy
  by_cases hl : xs.length = ys.length
  · have h1 : ((xs.length : Int) != ys.length) = false := by simp [hl]
    have hl1 : xs.length ≤ ys.length := by omega
    have hl2 : ys.length ≤ xs.length := by omega
    clear hl
    go_enter Tryd.func34, Tryd.ntmps34
    go_wp2
    go_loopw [5] (fun i wr => ∃ k : Nat, k ≤ xs.length ∧ i = .int .i64 k ∧ Hid (xs.take k = ys.take k) ∧ Below w.heap.size w wr) (fun i _ => xs.length - (intOf i).toNat)
    case atStart => exact ⟨0, Nat.zero_le _, rfl, rfl, Below.refl _ _⟩
    case round =>
      obtain ⟨k, hk, rfl, HA, hbe⟩ := hrel
      have hsz := hbe.size
      by_cases hlt : k < xs.length
      · obtain ⟨b1, off1, rfl⟩ := HX.out.some_of hlt
        obtain ⟨b2, off2, rfl⟩ := HY.out.some_of (k := k) (by omega)
        obtain ⟨d0, d1, d2, d3, a4, p4, d4, d5, a6, p6, d6, a7, p7, d7, hxk, hi0, hi1, hi2, hi3, hi5, hs4, hs6, hs7, hc0, hc1, hc2, hc3, hc4, hc5, hc6, hc7, hb⟩ := (HX.out.below (Nat.le_refl _) hbe).stmt_at k hlt
        obtain ⟨yd0, yd1, yd2, yd3, ya4, yp4, yd4, yd5, ya6, yp6, yd6, ya7, yp7, yd7, hyk, yi0, yi1, yi2, yi3, yi5, ys4, ys6, ys7, yc0, yc1, yc2, yc3, yc4, yc5, yc6, yc7, hby⟩ := (HY.out.below (Nat.le_refl _) hbe).stmt_at k (by omega)
        have HXK := hid hxk
        have HYK := hid hyk
        have HC := hid (u_eqStmt (w := wr.drew) (d0 := d0) (yd0 := yd0) (d1 := d1) (yd1 := yd1) (d2 := d2) (yd2 := yd2) (d3 := d3) (yd3 := yd3) (d5 := d5) (yd5 := yd5) hs4.drew hs6.drew hs7.drew ys4.drew ys6.drew ys7.drew)
        clear hxk hyk hs4 ys4 hs6 ys6 hs7 ys7
        have i1 : (0 : Int) ≤ (k : Int) := by omega
        have i2 : (k : Int) < (xs.length : Int) := by omega
        have i3 : (k : Int) < (ys.length : Int) := by omega
        obtain ⟨r, hr⟩ : ∃ r, decide (((d0, d1, d2, (d3, d4), (d5, d6), d7) : Stmt) = (yd0, yd1, yd2, (yd3, yd4), (yd5, yd6), yd7)) = r := ⟨_, rfl⟩
        have HR := hid hr
        clear hr
        cases r
        · go_wp2
          go_still_tail 8, (by kernel_rfl)
          change wpList _ _ _ _ _ wr.drew
          go_wp2_with (go_at_call 66; refine HC.out.mono ?_; rintro e w1 ⟨rfl, hb1⟩; rw [HR.out])
          go_ret
          exact ⟨ret_bool (by simp [ne_at HXK.out HYK.out (of_decide_eq_false HR.out)]), hbe.drew.trans (hb1.mono hsz)⟩
        · go_wp2
          go_still_tail 8, (by kernel_rfl)
          change wpList _ _ _ _ _ wr.drew
          go_wp2_with (go_at_call 66; refine HC.out.mono ?_; rintro e w1 ⟨rfl, hb1⟩; rw [HR.out])
          go_roundw
          case rel => exact ⟨k + 1, by omega, by go_num, take_eq_snoc HA.out HXK.out HYK.out (of_decide_eq_true HR.out), hbe.drew.trans (hb1.mono hsz)⟩
          case measure => simp [intOf]; omega
      · go_wp2
        go_ret
        exact ⟨ret_bool (by simp [take_all_eq HA.out (by omega) (by omega)]), hbe⟩
  · have h1 : ((xs.length : Int) != ys.length) = true := by simp; omega
    have HF : Hid (decide (xs = ys) = false) := by unfold Hid; simp; rintro rfl; exact hl rfl
    clear hl
    go_enter Tryd.func34, Tryd.ntmps34
    go_wp2
    go_ret
    exact ⟨ret_bool HF.out.symm, Below.refl _ _⟩
end Go.Proofs.YtcmopmapdomneaaDoor
end

section
namespace Go.Proofs.YtcmopmapdomneaaDoor

/-- The index behind c trees that begin with element k, of n elements. -/
def walkT (ar : Nat → Option Nat) (n : Nat) (c k : Nat) : Option Nat :=
  match c with
  | 0 => some k
  | c + 1 => if _h : k < n then (match ar k with | none => none | some a => walkT ar n (c + a) (k + 1)) else none
termination_by n - k

theorem walkT_zero {ar : Nat → Option Nat} {n k : Nat} : walkT ar n 0 k = some k := by unfold walkT; rfl
theorem walkT_out {ar : Nat → Option Nat} {n c k : Nat} (h : n ≤ k) : walkT ar n (c + 1) k = none := by
  unfold walkT; rw [dif_neg (by omega)]
theorem walkT_bad {ar : Nat → Option Nat} {n c k : Nat} (ha : ar k = none) : walkT ar n (c + 1) k = none := by
  unfold walkT; split
  · rw [ha]
  · rfl
theorem walkT_go {ar : Nat → Option Nat} {n c k a : Nat} (h : k < n) (ha : ar k = some a) : walkT ar n (c + 1) k = walkT ar n (c + a) (k + 1) := by
  conv => lhs; unfold walkT
  rw [dif_pos h, ha]
theorem walkT_add {ar : Nat → Option Nat} {n : Nat} : ∀ (m c d k : Nat), n - k ≤ m → walkT ar n (c + d) k = (walkT ar n c k).bind (walkT ar n d) := by
  intro m
  induction m with
  | zero =>
    intro c d k h
    rcases c with _ | c
    · rw [Nat.zero_add, walkT_zero]; rfl
    · rw [show c + 1 + d = (c + d) + 1 by omega, walkT_out (by omega), walkT_out (by omega)]; rfl
  | succ m ih =>
    intro c d k h
    rcases c with _ | c
    · rw [Nat.zero_add, walkT_zero]; rfl
    · rw [show c + 1 + d = (c + d) + 1 by omega]
      by_cases hk : k < n
      · cases ha : ar k with
        | none => rw [walkT_bad ha, walkT_bad ha]; rfl
        | some a => rw [walkT_go hk ha, walkT_go hk ha, show c + d + a = (c + a) + d by omega, ih _ _ _ (by omega)]
      · rw [walkT_out (by omega), walkT_out (by omega)]; rfl
theorem walkT_ge {ar : Nat → Option Nat} {n : Nat} : ∀ (m c k e : Nat), n - k ≤ m → walkT ar n c k = some e → k + c ≤ e ∧ (k ≤ n → e ≤ n) := by
  intro m
  induction m with
  | zero =>
    intro c k e h h1
    rcases c with _ | c
    · rw [walkT_zero] at h1; cases h1; omega
    · rw [walkT_out (by omega)] at h1; cases h1
  | succ m ih =>
    intro c k e h h1
    rcases c with _ | c
    · rw [walkT_zero] at h1; cases h1; omega
    · by_cases hk : k < n
      · cases ha : ar k with
        | none => rw [walkT_bad ha] at h1; cases h1
        | some a =>
          rw [walkT_go hk ha] at h1
          have := ih _ _ _ (by omega) h1
          omega
      · rw [walkT_out (by omega)] at h1; cases h1
theorem walkT_seen {ar : Nat → Option Nat} {n : Nat} : ∀ (m c k e : Nat), n - k ≤ m → walkT ar n c k = some e → ∀ i, k ≤ i → i < e → ∃ a, ar i = some a := by
  intro m
  induction m with
  | zero =>
    intro c k e h h1 i hi hie
    rcases c with _ | c
    · rw [walkT_zero] at h1; cases h1; omega
    · rw [walkT_out (by omega)] at h1; cases h1
  | succ m ih =>
    intro c k e h h1 i hi hie
    rcases c with _ | c
    · rw [walkT_zero] at h1; cases h1; omega
    · by_cases hk : k < n
      · cases ha : ar k with
        | none => rw [walkT_bad ha] at h1; cases h1
        | some a =>
          rw [walkT_go hk ha] at h1
          rcases Nat.lt_or_ge k i with h2 | h2
          · exact ih _ _ _ (by omega) h1 i (by omega) hie
          · have : i = k := by omega
            subst this; exact ⟨a, ha⟩
      · rw [walkT_out (by omega)] at h1; cases h1
theorem walkT_congr {ar br : Nat → Option Nat} {n : Nat} : ∀ (m c k : Nat), n - k ≤ m → (∀ i, i < n → k ≤ i → ar i = br i) → walkT ar n c k = walkT br n c k := by
  intro m
  induction m with
  | zero =>
    intro c k h _
    rcases c with _ | c
    · rw [walkT_zero, walkT_zero]
    · rw [walkT_out (by omega), walkT_out (by omega)]
  | succ m ih =>
    intro c k h he
    rcases c with _ | c
    · rw [walkT_zero, walkT_zero]
    · by_cases hk : k < n
      · have h1 := he k hk (Nat.le_refl _)
        cases ha : ar k with
        | none => rw [walkT_bad ha, walkT_bad (h1 ▸ ha)]
        | some a => rw [walkT_go hk ha, walkT_go hk (h1 ▸ ha), ih _ _ (by omega) fun i hi hi' => he i hi (by omega)]
      · rw [walkT_out (by omega), walkT_out (by omega)]
/-- One tree of all the elements: every element azs it should be, and the trees azs their elements alone tell. -/
def treeB (ar : Nat → Option Nat) (n : Nat) : Bool := decide (walkT ar n 1 0 = some n)
theorem tree_split (ar : Nat → Option Nat) (be : Nat → Nat) (n : Nat) (h : ∀ i a, ar i = some a → a = be i) :
    treeB ar n = ((List.range n).all (fun i => (ar i).isSome) && treeB (fun i => some (be i)) n) := by
  have hall : (List.range n).all (fun i => (ar i).isSome) = true → walkT ar n 1 0 = walkT (fun i => some (be i)) n 1 0 := by
    intro h1
    rw [List.all_eq_true] at h1
    refine walkT_congr n 1 0 (by omega) fun i hi _ => ?_
    have := h1 i (List.mem_range.2 hi)
    cases ha : ar i with
    | none => rw [ha] at this; cases this
    | some a => rw [h i a ha]
  rw [Bool.eq_iff_iff, Bool.and_eq_true]
  unfold treeB
  simp only [decide_eq_true_eq]
  constructor
  · intro h1
    have h2 : (List.range n).all (fun i => (ar i).isSome) = true := by
      rw [List.all_eq_true]
      intro i hi
      obtain ⟨a, ha⟩ := walkT_seen n 1 0 n (by omega) h1 i (Nat.zero_le _) (List.mem_range.1 hi)
      rw [ha]; rfl
    exact ⟨h2, (hall h2) ▸ h1⟩
  · rintro ⟨h1, h2⟩
    rw [hall h1]; exact h2
theorem treeB_pos {ar : Nat → Option Nat} {n : Nat} (h : treeB ar n = true) : 1 ≤ n := by
  unfold treeB at h
  rw [decide_eq_true_eq] at h
  have := walkT_ge n 1 0 n (by omega) h
  omega
theorem walkT_one {ar : Nat → Option Nat} {n k a : Nat} (h : k < n) (ha : ar k = some a) : walkT ar n 1 k = walkT ar n a (k + 1) := by
  have := walkT_go (c := 0) h ha
  rw [Nat.zero_add a] at this
  exact this
theorem walkT_step {ar : Nat → Option Nat} {n c k : Nat} : walkT ar n (c + 1) k = (walkT ar n 1 k).bind (walkT ar n c) := by
  rw [show c + 1 = 1 + c by omega]; exact walkT_add n 1 c k (by omega)
/-- The depth of the deepest of c trees. -/
def deepT (ar : Nat → Option Nat) (n : Nat) (c k : Nat) : Nat :=
  match c with
  | 0 => 0
  | c + 1 => if _h : k < n then (match ar k with
    | none => 0
    | some a => match walkT ar n a (k + 1) with
      | none => 0
      | some e => max (deepT ar n a (k + 1) + 1) (deepT ar n c (max e (k + 1)))) else 0
termination_by n - k
theorem deepT_zero {ar : Nat → Option Nat} {n k : Nat} : deepT ar n 0 k = 0 := by unfold deepT; rfl
theorem deepT_go {ar : Nat → Option Nat} {n c k a e : Nat} (h : k < n) (ha : ar k = some a) (he : walkT ar n a (k + 1) = some e) : deepT ar n (c + 1) k = max (deepT ar n a (k + 1) + 1) (deepT ar n c e) := by
  conv => lhs; unfold deepT
  rw [dif_pos h, ha]
  simp only
  rw [he]
  simp only
  have := walkT_ge n a (k + 1) e (by omega) he
  rw [show max e (k + 1) = e by omega]
theorem deepT_le {ar : Nat → Option Nat} {n : Nat} : ∀ (m c k : Nat), n - k ≤ m → deepT ar n c k ≤ n - k := by
  intro m
  induction m with
  | zero =>
    intro c k h
    unfold deepT
    split
    · omega
    · rw [dif_neg (by omega)]; omega
  | succ m ih =>
    intro c k h
    unfold deepT
    split
    · omega
    · split
      · split
        · omega
        · split
          · omega
          · exact Nat.max_le.2 ⟨Nat.le_trans (Nat.add_le_add_right (ih _ _ (by omega)) 1) (by omega), Nat.le_trans (ih _ _ (by omega)) (by omega)⟩
      · omega
theorem deepT_one {ar : Nat → Option Nat} {n k a e : Nat} (h : k < n) (ha : ar k = some a) (he : walkT ar n a (k + 1) = some e) : deepT ar n 1 k = deepT ar n a (k + 1) + 1 := by
  rw [deepT_go h ha he, deepT_zero]; omega
theorem deepT_step {ar : Nat → Option Nat} {n c k e : Nat} (he : walkT ar n 1 k = some e) : deepT ar n (c + 1) k = max (deepT ar n 1 k) (deepT ar n c e) := by
  by_cases h : k < n
  · cases ha : ar k with
    | none => rw [show (1 : Nat) = 0 + 1 from rfl, walkT_bad ha] at he; cases he
    | some a =>
      rw [walkT_one h ha] at he
      rw [deepT_go h ha he, deepT_one h ha he]
  · rw [show (1 : Nat) = 0 + 1 from rfl, walkT_out (by omega)] at he; cases he
/-- The index behind the tree at k, its depth, and whether there is one. -/
def behR (ar : Nat → Option Nat) (n k : Nat) : Nat × Nat × Bool := match walkT ar n 1 k with
  | none => (0, 0, false)
  | some e => (e, deepT ar n 1 k, true)
theorem behR_none {ar : Nat → Option Nat} {n k : Nat} (h : walkT ar n 1 k = none) : behR ar n k = (0, 0, false) := by unfold behR; rw [h]
theorem behR_some {ar : Nat → Option Nat} {n k e : Nat} (h : walkT ar n 1 k = some e) : behR ar n k = (e, deepT ar n 1 k, true) := by unfold behR; rw [h]
end Go.Proofs.YtcmopmapdomneaaDoor
end

section
namespace Go.Proofs.YtcmopmapdomneaaDoor
open Go.RowKit
abbrev Nd := Int × Int × Term × List Int
abbrev cNode : Codec Nd := cPair cInt (cPair cInt (cPair cTerm cInts))
abbrev nNode : Norm cNode := nPair nInt (nPair nInt (nPair nTerm nInts))
instance dec_Nd_1 : DecidableEq (Int × Term × List Int) := inferInstance
instance dec_Nd : DecidableEq Nd := inferInstance
theorem Nd_list {S : Nat → Prop} {w : World} {cs : List Value} {d : Nd} (h : cNode.rd S w cs d) : ∃ a3 p3 a4 p4, cs = [.int .i64 d.1, .int .i64 d.2.1, .int .i64 d.2.2.1.1, .slice a3 d.2.2.1.2.length p3, .slice a4 d.2.2.2.length p4] ∧ SlRd cInt S w a3 p3 d.2.2.1.2 ∧ SlRd cInt S w a4 p4 d.2.2.2 ∧ I64 d.1 ∧ I64 d.2.1 ∧ I64 d.2.2.1.1 := by
  obtain ⟨_, _, rfl, ⟨rfl, r0⟩, ⟨_, _, rfl, ⟨rfl, r1⟩, ⟨_, _, rfl, ⟨_, _, rfl, ⟨rfl, r2⟩, ⟨a3, p3, rfl, r3⟩⟩, ⟨a4, p4, rfl, r4⟩⟩⟩⟩ := h
  exact ⟨a3, p3, a4, p4, rfl, r3, r4, r0, r1, r2⟩
theorem Nd_arr {S : Nat → Prop} {w : World} {cs : Array Value} {d : Nd} (h : cNode.rd S w cs.toList d) : ∃ a3 p3 a4 p4, cs = #[.int .i64 d.1, .int .i64 d.2.1, .int .i64 d.2.2.1.1, .slice a3 d.2.2.1.2.length p3, .slice a4 d.2.2.2.length p4] ∧ SlRd cInt S w a3 p3 d.2.2.1.2 ∧ SlRd cInt S w a4 p4 d.2.2.2 ∧ I64 d.1 ∧ I64 d.2.1 ∧ I64 d.2.2.1.1 := by
  obtain ⟨a3, p3, a4, p4, he, hr⟩ := Nd_list h
  exact ⟨a3, p3, a4, p4, by rw [← Array.toList_inj, he], hr⟩
def RetNode (x : Nd) (w : World) (e : Ending) (w' : World) : Prop :=
  ∃ a3 p3 a4 p4, e = .returned (.agg #[.int .i64 x.1, .int .i64 x.2.1, .int .i64 x.2.2.1.1, .slice a3 x.2.2.1.2.length p3, .slice a4 x.2.2.2.length p4]) ∧ SlRd cInt (Fresh w.heap.size w') w' a3 p3 x.2.2.1.2 ∧ SlRd cInt (Fresh w.heap.size w') w' a4 p4 x.2.2.2 ∧ Below w.heap.size w w'
abbrev cNodes : Codec (List Nd) := cSl cNode
abbrev nNodes : Norm cNodes := nSl nNode
def szNd (x : Nd) : Nat := (x.2.2.1.2.length + x.2.2.2.length)
def szNds (xs : List Nd) : Nat := xs.length + (xs.map szNd).sum
theorem szNds_le {x : Nd} {xs : List Nd} (h : x ∈ xs) : szNd x ≤ szNds xs := by have := sumf_mem (f := szNd) h; unfold szNds; omega
theorem SlRd.nd_at {S : Nat → Prop} {w : World} {b off cap : Nat} {xs : List Nd} (h : SlRd cNode S w (some ⟨b, off, none⟩) cap xs) (k : Nat) (hk : k < xs.length) :
    ∃ (d0 : Int) (d1 : Int) (d2 : Int) (a3 : Option Addr) (p3 : Nat) (d3 : List Int) (a4 : Option Addr) (p4 : Nat) (d4 : List Int), xs[k]? = some (d0, d1, (d2, d3), d4) ∧ I64 d0 ∧ I64 d1 ∧ I64 d2 ∧ SlRd cInt S w a3 p3 d3 ∧ SlRd cInt S w a4 p4 d4 ∧ w.cell? ⟨b, off + k * 5, none⟩ = some (.int .i64 d0) ∧ w.cell? ⟨b, off + k * 5 + 1, none⟩ = some (.int .i64 d1) ∧ w.cell? ⟨b, off + k * 5 + 2, none⟩ = some (.int .i64 d2) ∧ w.cell? ⟨b, off + k * 5 + 3, none⟩ = some (.slice a3 d3.length p3) ∧ w.cell? ⟨b, off + k * 5 + 4, none⟩ = some (.slice a4 d4.length p4) ∧ b < w.heap.size := by
  obtain ⟨x, cs, h1, hr, h7, _, hc⟩ := h.at k hk
  obtain ⟨a3, p3, a4, p4, rfl, r3, r4, r0, r1, r2⟩ := Nd_list hr
  exact ⟨x.1, x.2.1, x.2.2.1.1, a3, p3, x.2.2.1.2, a4, p4, x.2.2.2, h1, r0, r1, r2, r3, r4, hc 0 _ rfl, hc 1 _ rfl, hc 2 _ rfl, hc 3 _ rfl, hc 4 _ rfl, h7⟩
theorem own_at_Nd {S : Nat → Prop} {w : World} {base : Nat} {e : TypeId} {zl : List Nd} {g cap n : Nat} (h : OwnSl cNode S w base e (.slice (some ⟨g, 0, none⟩) n cap) zl) (hn : zl.length = n) (k : Nat) (hk : k < n) :
    ∃ (d0 : Int) (d1 : Int) (d2 : Int) (a3 : Option Addr) (p3 : Nat) (d3 : List Int) (a4 : Option Addr) (p4 : Nat) (d4 : List Int), w.cell? ⟨g, k * 5, none⟩ = some (.int .i64 d0) ∧ w.cell? ⟨g, k * 5 + 1, none⟩ = some (.int .i64 d1) ∧ w.cell? ⟨g, k * 5 + 2, none⟩ = some (.int .i64 d2) ∧ w.cell? ⟨g, k * 5 + 3, none⟩ = some (.slice a3 d3.length p3) ∧ w.cell? ⟨g, k * 5 + 4, none⟩ = some (.slice a4 d4.length p4) ∧ w.frozen? ⟨g, k * 5, none⟩ = false ∧ w.frozen? ⟨g, k * 5 + 1, none⟩ = false ∧ w.frozen? ⟨g, k * 5 + 2, none⟩ = false ∧ w.frozen? ⟨g, k * 5 + 3, none⟩ = false ∧ w.frozen? ⟨g, k * 5 + 4, none⟩ = false ∧ g < w.heap.size := by
  obtain ⟨x, cs, h1, hr, h2, h3, h4, h5⟩ := own_at h hn k hk
  obtain ⟨a3, p3, a4, p4, rfl, r3, r4, r0, r1, r2⟩ := Nd_list hr
  exact ⟨x.1, x.2.1, x.2.2.1.1, a3, p3, x.2.2.1.2, a4, p4, x.2.2.2, h4 0 _ rfl, h4 1 _ rfl, h4 2 _ rfl, h4 3 _ rfl, h4 4 _ rfl, h5 _, h5 _, h5 _, h5 _, h5 _, h2⟩
set_option maxRecDepth 100000 in
theorem own_set_Nd {B B' base : Nat} {w : World} {e : TypeId} {zl : List Nd} {g cap n : Nat} (h : OwnSl cNode (Fresh B w) w base e (.slice (some ⟨g, 0, none⟩) n cap) zl) (hn : zl.length = n) (k : Nat) (hk : k < n)
    {d0 d1 d2 : Int} {a3 : Option Addr} {p3 : Nat} {d3 : List Int} {a4 : Option Addr} {p4 : Nat} {d4 : List Int} (i0 : I64 d0) (i1 : I64 d1) (i2 : I64 d2) (h3 : SlRd cInt (Fresh B' w) w a3 p3 d3) (h4 : SlRd cInt (Fresh B' w) w a4 p4 d4) (hB : B ≤ B') (hg : g < B') :
    OwnSl cNode (Fresh B (((((w.setCell ⟨g, k * 5, none⟩ (.int .i64 d0)).setCell ⟨g, k * 5 + 1, none⟩ (.int .i64 d1)).setCell ⟨g, k * 5 + 2, none⟩ (.int .i64 d2)).setCell ⟨g, k * 5 + 3, none⟩ (.slice a3 d3.length p3)).setCell ⟨g, k * 5 + 4, none⟩ (.slice a4 d4.length p4))) (((((w.setCell ⟨g, k * 5, none⟩ (.int .i64 d0)).setCell ⟨g, k * 5 + 1, none⟩ (.int .i64 d1)).setCell ⟨g, k * 5 + 2, none⟩ (.int .i64 d2)).setCell ⟨g, k * 5 + 3, none⟩ (.slice a3 d3.length p3)).setCell ⟨g, k * 5 + 4, none⟩ (.slice a4 d4.length p4)) base e (.slice (some ⟨g, 0, none⟩) n cap) (zl.set k (d0, d1, (d2, d3), d4)) ∧ w.grownBy (((((w.setCell ⟨g, k * 5, none⟩ (.int .i64 d0)).setCell ⟨g, k * 5 + 1, none⟩ (.int .i64 d1)).setCell ⟨g, k * 5 + 2, none⟩ (.int .i64 d2)).setCell ⟨g, k * 5 + 3, none⟩ (.slice a3 d3.length p3)).setCell ⟨g, k * 5 + 4, none⟩ (.slice a4 d4.length p4)) (some g) := by
  have k3 : SlRd cInt (fun b => Fresh B w b ∧ b ≠ g) w a3 p3 d3 := h3.keep fun b hb hl => ⟨⟨⟨Nat.le_trans hB hb.1, hb.2⟩, by have := hb.1; omega⟩, rfl⟩
  have k4 : SlRd cInt (fun b => Fresh B w b ∧ b ≠ g) w a4 p4 d4 := h4.keep fun b hb hl => ⟨⟨⟨Nat.le_trans hB hb.1, hb.2⟩, by have := hb.1; omega⟩, rfl⟩
  have h9 := own_set h hn k hk [.int .i64 d0, .int .i64 d1, .int .i64 d2, .slice a3 d3.length p3, .slice a4 d4.length p4] (d0, d1, (d2, d3), d4) (rd_pair (rd_i i0) (rd_pair (rd_i i1) (rd_pair (rd_pair (rd_i i2) (rd_sl k3)) (rd_sl k4))))
  exact ⟨own_refresh h9.1 fun b hb => thawed_setCell (thawed_setCell (thawed_setCell (thawed_setCell (thawed_setCell (hb) _ _) _ _) _ _) _ _) _ _, h9.2⟩
end Go.Proofs.YtcmopmapdomneaaDoor
end

section
namespace Go.Proofs.YtcmopmapdomneaaDoor
open Go.RowKit

def zeroT (t : Term) : Bool := (t.1 == 0) && ((t.2.length : Int) == 0)
def arI : Option Nat → Int
  | some a => a
  | none => -1
def node1 (d : Nd) : Bool := (((d.2.1 == 0) && zeroT d.2.2.1) && decide ((d.2.2.2.length : Int) ≤ 20)) && allIn d.2.2.2 0 1000000
def node2 (d : Nd) : Bool := ((d.2.1 == 0) && ((d.2.2.2.length : Int) == 0)) && validTerm d.2.2.1
def node3 (d : Nd) : Bool := ((inB d.2.1 0 19) && zeroT d.2.2.1) && ((d.2.2.2.length : Int) == 0)
def nodeBe (d : Nd) : Nat := if d.1 = 1 then 0 else if d.1 = 2 then 2 else 1
def nodeOk (d : Nd) : Bool := if d.1 = 1 then node1 d else if d.1 = 2 then node2 d else if d.1 = 3 then node3 d else false
def nodeAr (d : Nd) : Option Nat := if nodeOk d then some (nodeBe d) else none
theorem c_isZero (c : Int) (a : Option Addr) (cap n : Nat) (w : World) :
    Calls Tryd.prog 117 #[.agg #[.int .i64 c, .slice a n cap]] w fun e w' => e = .returned (.bool ((c == 0) && ((n : Int) == 0))) ∧ Below w.heap.size w w' := by
  by_cases h : c = 0
  · have h' : (c == 0) = true := by simp [h]
    have HF : Hid (((c == 0) && ((n : Int) == 0)) = ((n : Int) == 0)) := by unfold Hid; rw [h']; rfl
    clear h
    go_enter Tryd.func117, Tryd.ntmps117
    go_wp2
    go_ret
    exact ⟨ret_bool HF.out.symm, (Below.refl _ _).alloc (Nat.le_refl _) _⟩
  · have h' : (c == 0) = false := by simp [h]
    have HF : Hid (((c == 0) && ((n : Int) == 0)) = false) := by unfold Hid; rw [h']; rfl
    clear h
    go_enter Tryd.func117, Tryd.ntmps117
    go_wp2
    go_ret
    exact ⟨ret_bool HF.out.symm, (Below.refl _ _).alloc (Nat.le_refl _) _⟩
def arN (ps : List Nd) (i : Nat) : Option Nat := match ps[i]? with
  | some d => nodeAr d
  | none => none
theorem arN_at {ps : List Nd} {k : Nat} {d : Nd} (h : ps[k]? = some d) : arN ps k = nodeAr d := by unfold arN; rw [h]
theorem nodeAr_le {d : Nd} {a : Nat} (h : nodeAr d = some a) : a ≤ 2 := by
  unfold nodeAr nodeBe at h
  split at h
  · cases h; split
    · omega
    · split <;> omega
  · cases h
def behV (r : Nat × Nat × Bool) : Value := .tuple #[.int .i64 r.1, .int .i64 r.2.1, .bool r.2.2]
def isProofF (ps : List Nd) : Bool := decide (ps.length ≤ 60) && treeB (arN ps) ps.length
theorem isProof_beh {ps : List Nd} (h : ps.length ≤ 60) : isProofF ps = ((behR (arN ps) ps.length 0).2.2 && (((behR (arN ps) ps.length 0).1 : Int) == (ps.length : Int))) := by
  unfold isProofF treeB behR
  rw [decide_eq_true h, Bool.true_and]
  cases walkT (arN ps) ps.length 1 0 with
  | none => rfl
  | some e => simp only [Option.some.injEq, Bool.true_and]; rw [Bool.eq_iff_iff]; simp <;> omega
end Go.Proofs.YtcmopmapdomneaaDoor
end
