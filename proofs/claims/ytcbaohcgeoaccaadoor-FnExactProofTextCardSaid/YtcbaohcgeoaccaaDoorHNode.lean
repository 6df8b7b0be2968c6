/- Contracts of the laws' helpers over nodes. -/
import Derived.Test.YtcbaohcgeoaccaaDoorUni
import Derived.Test.YtcbaohcgeoaccaaDoorOpn
namespace Go.Proofs.YtcbaohcgeoaccaaDoor
open Go.RowKit
abbrev Nd := Int × Int × Term × List Int
abbrev cNode : Codec Nd := cPair cInt (cPair cInt (cPair cTerm cInts))
abbrev nNode : Norm cNode := nPair nInt (nPair nInt (nPair nTerm nInts))
instance dec_Nd_1 : DecidableEq (Int × Term × List Int) := inferInstance
instance dec_Nd : DecidableEq Nd := inferInstance
theorem Nd_list {S : Nat → Prop} {w : World} {cs : List Value} {d : Nd} (h : cNode.rd S w cs d) : ∃ a3 p3 a4 p4, cs = [.int .i64 d.1, .int .i64 d.2.1, .int .i64 d.2.2.1.1, .slice a3 d.2.2.1.2.length p3, .slice a4 d.2.2.2.length p4] ∧ SlRd cInt S w a3 p3 d.2.2.1.2 ∧ SlRd cInt S w a4 p4 d.2.2.2 ∧ I64 d.1 ∧ I64 d.2.1 ∧ I64 d.2.2.1.1 := by
  obtain ⟨_, _, rfl, ⟨rfl, r0⟩, ⟨_, _, rfl, ⟨rfl, r1⟩, ⟨_, _, rfl, ⟨_, _, rfl, ⟨rfl, r2⟩, ⟨a3, p3, rfl, r3⟩⟩, ⟨a4, p4, rfl, r4⟩⟩⟩⟩ := h
  exact ⟨a3, p3, a4, p4, rfl, r3, r4, r0, r1, r2⟩
theorem Nd_arr {S : Nat → Prop} {w : World} {cs : Array Value} {d : Nd} (h : cNode.rd S w cs.toList d) : ∃ a3 p3 a4 p4, cs = #[.int .i64 d.1, .int .i64 d.2.1, .int .i64 d.2.2.1.1, .slice a3 d.2.2.1.2.length p3, .slice a4 d.2.2.2.length p4] ∧ SlRd cInt S w a3 p3 d.2.2.1.2 ∧ SlRd cInt S w a4 p4 d.2.2.2 ∧ I64 d.1 ∧ I64 d.2.1 ∧ I64 d.2.2.1.1 := by
  obtain ⟨a3, p3, a4, p4, he, hr⟩ := Nd_list h
  exact ⟨a3, p3, a4, p4, by rw [← Array.toList_inj, he], hr⟩
theorem op_Nd : Opens Tryd.prog 116 cNode := opens_struct Tryd.underlying116 (by kernel_rfl) (opensFs_cons rfl op_i64 (opensFs_cons rfl op_i64 (opensFs_cons rfl op_Term (opensFs_last rfl op_ints))))
theorem op_Nds : Opens Tryd.prog 67 (cSl cNode) := opens_sl Tryd.underlying67 (by kernel_rfl) op_Nd (by decide)
set_option maxRecDepth 100000 in
theorem u_szNode {S : Nat → Prop} {d0 d1 d2 : Int} {a3 : Option Addr} {p3 : Nat} {d3 : List Int} {a4 : Option Addr} {p4 : Nat} {d4 : List Int} {left : Int} {w : World} (h3 : SlRd cInt S w a3 p3 d3) (h4 : SlRd cInt S w a4 p4 d4) (hl0 : 0 ≤ left) (hl1 : left ≤ 1048576) :
    Calls Tryd.prog 91 #[.agg #[.int .i64 d0, .int .i64 d1, .int .i64 d2, .slice a3 d3.length p3, .slice a4 d4.length p4], .int .i64 left] w fun e w' => e = .returned (.int .i64 (szR left ((d3.length + d4.length) : Nat))) ∧ Below w.heap.size w w' := by
  have R3_0 := hid (h3.alloc (.cells #[.int .i64 d0, .int .i64 d1, .int .i64 d2, .slice a3 d3.length p3, .slice a4 d4.length p4] 116))
  have R4_0 := hid (h4.alloc (.cells #[.int .i64 d0, .int .i64 d1, .int .i64 d2, .slice a3 d3.length p3, .slice a4 d4.length p4] 116))
  have HB_0 : Hid (Below w.heap.size w (w.alloc (.cells #[.int .i64 d0, .int .i64 d1, .int .i64 d2, .slice a3 d3.length p3, .slice a4 d4.length p4] 116))) := (Below.refl _ _).alloc (Nat.le_refl _) _
  have z_0 : w.heap.size < (w.alloc (.cells #[.int .i64 d0, .int .i64 d1, .int .i64 d2, .slice a3 d3.length p3, .slice a4 d4.length p4] 116)).heap.size := by simp
  have t0_0 : (w.alloc (.cells #[.int .i64 d0, .int .i64 d1, .int .i64 d2, .slice a3 d3.length p3, .slice a4 d4.length p4] 116)).cell? ⟨w.heap.size, 0, none⟩ = some (.int .i64 d0) := by rw [World.cell?_alloc_at _ _ _ _ rfl]; rfl
  have t1_0 : (w.alloc (.cells #[.int .i64 d0, .int .i64 d1, .int .i64 d2, .slice a3 d3.length p3, .slice a4 d4.length p4] 116)).cell? ⟨w.heap.size, 1, none⟩ = some (.int .i64 d1) := by rw [World.cell?_alloc_at _ _ _ _ rfl]; rfl
  have t2_0 : (w.alloc (.cells #[.int .i64 d0, .int .i64 d1, .int .i64 d2, .slice a3 d3.length p3, .slice a4 d4.length p4] 116)).cell? ⟨w.heap.size, 2, none⟩ = some (.int .i64 d2) := by rw [World.cell?_alloc_at _ _ _ _ rfl]; rfl
  have t3_0 : (w.alloc (.cells #[.int .i64 d0, .int .i64 d1, .int .i64 d2, .slice a3 d3.length p3, .slice a4 d4.length p4] 116)).cell? ⟨w.heap.size, 3, none⟩ = some (.slice a3 d3.length p3) := by rw [World.cell?_alloc_at _ _ _ _ rfl]; rfl
  have t4_0 : (w.alloc (.cells #[.int .i64 d0, .int .i64 d1, .int .i64 d2, .slice a3 d3.length p3, .slice a4 d4.length p4] 116)).cell? ⟨w.heap.size, 4, none⟩ = some (.slice a4 d4.length p4) := by rw [World.cell?_alloc_at _ _ _ _ rfl]; rfl
  clear h3 h4
  obtain ⟨r0, hr⟩ : ∃ r, szR left (d3.length : Nat) = r := ⟨_, rfl⟩
  have l0 : r0 ≤ left := by rw [← hr]; unfold szR; split <;> omega
  have m0 : r0 < 0 → r0 = -1 := by rw [← hr]; unfold szR; split <;> omega
  have HS0 : Hid (szR left ((d3.length : Nat) : Int) = r0) := by exact hr
  have HR0 := hid hr
  clear hr
  by_cases g0 : r0 < 0
  · skip
    have h8 : szR left ((d3.length : Nat) : Int) < 0 := by rw [HS0.out]; exact g0
    have h8 := szR_neg (m := d4.length) h8
    have HF := hid h8
    clear h8 m0
    go_enter Tryd.func91, Tryd.ntmps91
    go_wp2_with fail
    refine (u_szTerm R3_0.out (by omega) (by omega)).mono ?_
    rintro e w_1 ⟨rfl, hb⟩
    rw [HR0.out]
    have R3_1 := hid (R3_0.out.below (Nat.le_refl _) hb)
    have R4_1 := hid (R4_0.out.below (Nat.le_refl _) hb)
    have HB_1 := hid (bel_next HB_0.out HB_0.out.size hb)
    have t0_1 := cell_below hb z_0 t0_0
    have t1_1 := cell_below hb z_0 t1_0
    have t2_1 := cell_below hb z_0 t2_0
    have t3_1 := cell_below hb z_0 t3_0
    have t4_1 := cell_below hb z_0 t4_0
    have z_1 := Nat.lt_of_lt_of_le z_0 hb.size
    clear hb R3_0 R4_0 HB_0 t0_0 t1_0 t2_0 t3_0 t4_0 z_0
    go_wp2
    go_ret
    exact ⟨ret_int HF.out.symm, HB_1.out⟩
  clear m0
  obtain ⟨r1, hr⟩ : ∃ r, szR r0 (d4.length : Nat) = r := ⟨_, rfl⟩
  have l1 : r1 ≤ r0 := by rw [← hr]; unfold szR; split <;> omega
  have m1 : r1 < 0 → r1 = -1 := by rw [← hr]; unfold szR; split <;> omega
  have HS1 : Hid (szR left ((d3.length + d4.length : Nat) : Int) = r1) := by have h9 := HS0.out; unfold Hid; rw [← hr, ← h9, szR_add (by rw [h9]; omega)]
  have HR1 := hid hr
  clear hr
  by_cases g1 : r1 < 0
  · skip
    have h8 : szR left ((d3.length + d4.length : Nat) : Int) < 0 := by rw [HS1.out]; exact g1
    have HF := hid (HS1.out.trans (m1 g1))
    clear h8 m1
    go_enter Tryd.func91, Tryd.ntmps91
    go_wp2_with fail
    refine (u_szTerm R3_0.out (by omega) (by omega)).mono ?_
    rintro e w_1 ⟨rfl, hb⟩
    rw [HR0.out]
    have R3_1 := hid (R3_0.out.below (Nat.le_refl _) hb)
    have R4_1 := hid (R4_0.out.below (Nat.le_refl _) hb)
    have HB_1 := hid (bel_next HB_0.out HB_0.out.size hb)
    have t0_1 := cell_below hb z_0 t0_0
    have t1_1 := cell_below hb z_0 t1_0
    have t2_1 := cell_below hb z_0 t2_0
    have t3_1 := cell_below hb z_0 t3_0
    have t4_1 := cell_below hb z_0 t4_0
    have z_1 := Nat.lt_of_lt_of_le z_0 hb.size
    clear hb R3_0 R4_0 HB_0 t0_0 t1_0 t2_0 t3_0 t4_0 z_0
    go_wp2_with fail
    refine (u_szInt64S R4_1.out (by omega) (by omega)).mono ?_
    rintro e w_2 ⟨rfl, hb⟩
    rw [HR1.out]
    have R3_2 := hid (R3_1.out.below (Nat.le_refl _) hb)
    have R4_2 := hid (R4_1.out.below (Nat.le_refl _) hb)
    have HB_2 := hid (bel_next HB_1.out HB_1.out.size hb)
    have t0_2 := cell_below hb z_1 t0_1
    have t1_2 := cell_below hb z_1 t1_1
    have t2_2 := cell_below hb z_1 t2_1
    have t3_2 := cell_below hb z_1 t3_1
    have t4_2 := cell_below hb z_1 t4_1
    have z_2 := Nat.lt_of_lt_of_le z_1 hb.size
    clear hb R3_1 R4_1 HB_1 t0_1 t1_1 t2_1 t3_1 t4_1 z_1
    go_wp2
    go_ret
    exact ⟨ret_int HF.out.symm, HB_2.out⟩
  clear m1
  go_enter Tryd.func91, Tryd.ntmps91
  go_wp2_with fail
  refine (u_szTerm R3_0.out (by omega) (by omega)).mono ?_
  rintro e w_1 ⟨rfl, hb⟩
  rw [HR0.out]
  have R3_1 := hid (R3_0.out.below (Nat.le_refl _) hb)
  have R4_1 := hid (R4_0.out.below (Nat.le_refl _) hb)
  have HB_1 := hid (bel_next HB_0.out HB_0.out.size hb)
  have t0_1 := cell_below hb z_0 t0_0
  have t1_1 := cell_below hb z_0 t1_0
  have t2_1 := cell_below hb z_0 t2_0
  have t3_1 := cell_below hb z_0 t3_0
  have t4_1 := cell_below hb z_0 t4_0
  have z_1 := Nat.lt_of_lt_of_le z_0 hb.size
  clear hb R3_0 R4_0 HB_0 t0_0 t1_0 t2_0 t3_0 t4_0 z_0
  go_wp2_with fail
  refine (u_szInt64S R4_1.out (by omega) (by omega)).mono ?_
  rintro e w_2 ⟨rfl, hb⟩
  rw [HR1.out]
  have R3_2 := hid (R3_1.out.below (Nat.le_refl _) hb)
  have R4_2 := hid (R4_1.out.below (Nat.le_refl _) hb)
  have HB_2 := hid (bel_next HB_1.out HB_1.out.size hb)
  have t0_2 := cell_below hb z_1 t0_1
  have t1_2 := cell_below hb z_1 t1_1
  have t2_2 := cell_below hb z_1 t2_1
  have t3_2 := cell_below hb z_1 t3_1
  have t4_2 := cell_below hb z_1 t4_1
  have z_2 := Nat.lt_of_lt_of_le z_1 hb.size
  clear hb R3_1 R4_1 HB_1 t0_1 t1_1 t2_1 t3_1 t4_1 z_1
  go_wp2
  go_ret
  exact ⟨ret_int HS1.out.symm, HB_2.out⟩
set_option maxRecDepth 100000 in
theorem u_eqNode {S T : Nat → Prop} {d0 d1 d2 : Int} {a3 : Option Addr} {p3 : Nat} {d3 : List Int} {a4 : Option Addr} {p4 : Nat} {d4 : List Int} {yd0 yd1 yd2 : Int} {ya3 : Option Addr} {yp3 : Nat} {yd3 : List Int} {ya4 : Option Addr} {yp4 : Nat} {yd4 : List Int} {w : World} (h3 : SlRd cInt S w a3 p3 d3) (h4 : SlRd cInt S w a4 p4 d4) (yh3 : SlRd cInt T w ya3 yp3 yd3) (yh4 : SlRd cInt T w ya4 yp4 yd4) :
    Calls Tryd.prog 97 #[.agg #[.int .i64 d0, .int .i64 d1, .int .i64 d2, .slice a3 d3.length p3, .slice a4 d4.length p4], .agg #[.int .i64 yd0, .int .i64 yd1, .int .i64 yd2, .slice ya3 yd3.length yp3, .slice ya4 yd4.length yp4]] w fun e w' => e = .returned (.bool (decide (((d0, d1, (d2, d3), d4) : Nd) = (yd0, yd1, (yd2, yd3), yd4)))) ∧ Below w.heap.size w w' := by
  have R3_0 := hid ((h3.alloc (.cells #[.int .i64 d0, .int .i64 d1, .int .i64 d2, .slice a3 d3.length p3, .slice a4 d4.length p4] 120)).alloc (.cells #[.int .i64 yd0, .int .i64 yd1, .int .i64 yd2, .slice ya3 yd3.length yp3, .slice ya4 yd4.length yp4] 120))
  have R4_0 := hid ((h4.alloc (.cells #[.int .i64 d0, .int .i64 d1, .int .i64 d2, .slice a3 d3.length p3, .slice a4 d4.length p4] 120)).alloc (.cells #[.int .i64 yd0, .int .i64 yd1, .int .i64 yd2, .slice ya3 yd3.length yp3, .slice ya4 yd4.length yp4] 120))
  have yR3_0 := hid ((yh3.alloc (.cells #[.int .i64 d0, .int .i64 d1, .int .i64 d2, .slice a3 d3.length p3, .slice a4 d4.length p4] 120)).alloc (.cells #[.int .i64 yd0, .int .i64 yd1, .int .i64 yd2, .slice ya3 yd3.length yp3, .slice ya4 yd4.length yp4] 120))
  have yR4_0 := hid ((yh4.alloc (.cells #[.int .i64 d0, .int .i64 d1, .int .i64 d2, .slice a3 d3.length p3, .slice a4 d4.length p4] 120)).alloc (.cells #[.int .i64 yd0, .int .i64 yd1, .int .i64 yd2, .slice ya3 yd3.length yp3, .slice ya4 yd4.length yp4] 120))
  have HB_0 : Hid (Below w.heap.size w ((w.alloc (.cells #[.int .i64 d0, .int .i64 d1, .int .i64 d2, .slice a3 d3.length p3, .slice a4 d4.length p4] 120)).alloc (.cells #[.int .i64 yd0, .int .i64 yd1, .int .i64 yd2, .slice ya3 yd3.length yp3, .slice ya4 yd4.length yp4] 120))) := ((Below.refl _ _).alloc (Nat.le_refl _) _).alloc (by simp) _
  have z_0 : w.heap.size + 1 < ((w.alloc (.cells #[.int .i64 d0, .int .i64 d1, .int .i64 d2, .slice a3 d3.length p3, .slice a4 d4.length p4] 120)).alloc (.cells #[.int .i64 yd0, .int .i64 yd1, .int .i64 yd2, .slice ya3 yd3.length yp3, .slice ya4 yd4.length yp4] 120)).heap.size := by simp
  have t0_0 : ((w.alloc (.cells #[.int .i64 d0, .int .i64 d1, .int .i64 d2, .slice a3 d3.length p3, .slice a4 d4.length p4] 120)).alloc (.cells #[.int .i64 yd0, .int .i64 yd1, .int .i64 yd2, .slice ya3 yd3.length yp3, .slice ya4 yd4.length yp4] 120)).cell? ⟨w.heap.size, 0, none⟩ = some (.int .i64 d0) := by simp [go_sem]
  have yt0_0 : ((w.alloc (.cells #[.int .i64 d0, .int .i64 d1, .int .i64 d2, .slice a3 d3.length p3, .slice a4 d4.length p4] 120)).alloc (.cells #[.int .i64 yd0, .int .i64 yd1, .int .i64 yd2, .slice ya3 yd3.length yp3, .slice ya4 yd4.length yp4] 120)).cell? ⟨w.heap.size + 1, 0, none⟩ = some (.int .i64 yd0) := by simp [go_sem]
  have t1_0 : ((w.alloc (.cells #[.int .i64 d0, .int .i64 d1, .int .i64 d2, .slice a3 d3.length p3, .slice a4 d4.length p4] 120)).alloc (.cells #[.int .i64 yd0, .int .i64 yd1, .int .i64 yd2, .slice ya3 yd3.length yp3, .slice ya4 yd4.length yp4] 120)).cell? ⟨w.heap.size, 1, none⟩ = some (.int .i64 d1) := by simp [go_sem]
  have yt1_0 : ((w.alloc (.cells #[.int .i64 d0, .int .i64 d1, .int .i64 d2, .slice a3 d3.length p3, .slice a4 d4.length p4] 120)).alloc (.cells #[.int .i64 yd0, .int .i64 yd1, .int .i64 yd2, .slice ya3 yd3.length yp3, .slice ya4 yd4.length yp4] 120)).cell? ⟨w.heap.size + 1, 1, none⟩ = some (.int .i64 yd1) := by simp [go_sem]
  have t2_0 : ((w.alloc (.cells #[.int .i64 d0, .int .i64 d1, .int .i64 d2, .slice a3 d3.length p3, .slice a4 d4.length p4] 120)).alloc (.cells #[.int .i64 yd0, .int .i64 yd1, .int .i64 yd2, .slice ya3 yd3.length yp3, .slice ya4 yd4.length yp4] 120)).cell? ⟨w.heap.size, 2, none⟩ = some (.int .i64 d2) := by simp [go_sem]
  have yt2_0 : ((w.alloc (.cells #[.int .i64 d0, .int .i64 d1, .int .i64 d2, .slice a3 d3.length p3, .slice a4 d4.length p4] 120)).alloc (.cells #[.int .i64 yd0, .int .i64 yd1, .int .i64 yd2, .slice ya3 yd3.length yp3, .slice ya4 yd4.length yp4] 120)).cell? ⟨w.heap.size + 1, 2, none⟩ = some (.int .i64 yd2) := by simp [go_sem]
  have t3_0 : ((w.alloc (.cells #[.int .i64 d0, .int .i64 d1, .int .i64 d2, .slice a3 d3.length p3, .slice a4 d4.length p4] 120)).alloc (.cells #[.int .i64 yd0, .int .i64 yd1, .int .i64 yd2, .slice ya3 yd3.length yp3, .slice ya4 yd4.length yp4] 120)).cell? ⟨w.heap.size, 3, none⟩ = some (.slice a3 d3.length p3) := by simp [go_sem]
  have yt3_0 : ((w.alloc (.cells #[.int .i64 d0, .int .i64 d1, .int .i64 d2, .slice a3 d3.length p3, .slice a4 d4.length p4] 120)).alloc (.cells #[.int .i64 yd0, .int .i64 yd1, .int .i64 yd2, .slice ya3 yd3.length yp3, .slice ya4 yd4.length yp4] 120)).cell? ⟨w.heap.size + 1, 3, none⟩ = some (.slice ya3 yd3.length yp3) := by simp [go_sem]
  have t4_0 : ((w.alloc (.cells #[.int .i64 d0, .int .i64 d1, .int .i64 d2, .slice a3 d3.length p3, .slice a4 d4.length p4] 120)).alloc (.cells #[.int .i64 yd0, .int .i64 yd1, .int .i64 yd2, .slice ya3 yd3.length yp3, .slice ya4 yd4.length yp4] 120)).cell? ⟨w.heap.size, 4, none⟩ = some (.slice a4 d4.length p4) := by simp [go_sem]
  have yt4_0 : ((w.alloc (.cells #[.int .i64 d0, .int .i64 d1, .int .i64 d2, .slice a3 d3.length p3, .slice a4 d4.length p4] 120)).alloc (.cells #[.int .i64 yd0, .int .i64 yd1, .int .i64 yd2, .slice ya3 yd3.length yp3, .slice ya4 yd4.length yp4] 120)).cell? ⟨w.heap.size + 1, 4, none⟩ = some (.slice ya4 yd4.length yp4) := by simp [go_sem]
  clear h3 h4 yh3 yh4
  obtain ⟨b0, hb0⟩ : ∃ b, decide (d0 = yd0) = b := ⟨_, rfl⟩
  obtain ⟨b1, hb1⟩ : ∃ b, decide (d1 = yd1) = b := ⟨_, rfl⟩
  obtain ⟨b2, hb2⟩ : ∃ b, decide (((d2, d3) : Term) = (yd2, yd3)) = b := ⟨_, rfl⟩
  obtain ⟨b3, hb3⟩ : ∃ b, decide ((d4 : List Int) = yd4) = b := ⟨_, rfl⟩
  have HF : Hid (decide (((d0, d1, (d2, d3), d4) : Nd) = (yd0, yd1, (yd2, yd3), yd4)) = (b0 && b1 && b2 && b3)) := by unfold Hid; rw [← hb0, ← hb1, ← hb2, ← hb3, Bool.eq_iff_iff]; simp [Prod.ext_iff, and_assoc]
  have e0 : (d0 != yd0) = !b0 := by rw [← hb0, Bool.eq_iff_iff]; simp
  have HR0 := hid hb0
  clear hb0
  have e1 : (d1 != yd1) = !b1 := by rw [← hb1, Bool.eq_iff_iff]; simp
  have HR1 := hid hb1
  clear hb1
  have HR2 := hid hb2
  clear hb2
  have HR3 := hid hb3
  clear hb3
  cases b0
  · skip
    simp only [Bool.not_false] at e0
    go_enter Tryd.func97, Tryd.ntmps97
    go_wp2
    go_ret
    exact ⟨ret_bool (by rw [HF.out]; simp), HB_0.out⟩
  simp only [Bool.not_true] at e0
  cases b1
  · skip
    simp only [Bool.not_false] at e1
    go_enter Tryd.func97, Tryd.ntmps97
    go_wp2
    go_ret
    exact ⟨ret_bool (by rw [HF.out]; simp), HB_0.out⟩
  simp only [Bool.not_true] at e1
  cases b2
  · skip
    go_enter Tryd.func97, Tryd.ntmps97
    go_wp2_with fail
    refine (u_eqTerm R3_0.out yR3_0.out).mono ?_
    rintro e w_1 ⟨rfl, hb⟩
    rw [HR2.out]
    have R3_1 := hid (R3_0.out.below (Nat.le_refl _) hb)
    have R4_1 := hid (R4_0.out.below (Nat.le_refl _) hb)
    have yR3_1 := hid (yR3_0.out.below (Nat.le_refl _) hb)
    have yR4_1 := hid (yR4_0.out.below (Nat.le_refl _) hb)
    have HB_1 := hid (bel_next HB_0.out HB_0.out.size hb)
    have t0_1 := cell_below hb (Nat.lt_of_succ_lt z_0) t0_0
    have yt0_1 := cell_below hb z_0 yt0_0
    have t1_1 := cell_below hb (Nat.lt_of_succ_lt z_0) t1_0
    have yt1_1 := cell_below hb z_0 yt1_0
    have t2_1 := cell_below hb (Nat.lt_of_succ_lt z_0) t2_0
    have yt2_1 := cell_below hb z_0 yt2_0
    have t3_1 := cell_below hb (Nat.lt_of_succ_lt z_0) t3_0
    have yt3_1 := cell_below hb z_0 yt3_0
    have t4_1 := cell_below hb (Nat.lt_of_succ_lt z_0) t4_0
    have yt4_1 := cell_below hb z_0 yt4_0
    have z_1 := Nat.lt_of_lt_of_le z_0 hb.size
    clear hb R3_0 R4_0 yR3_0 yR4_0 HB_0 t0_0 yt0_0 t1_0 yt1_0 t2_0 yt2_0 t3_0 yt3_0 t4_0 yt4_0 z_0
    go_wp2
    go_ret
    exact ⟨ret_bool (by rw [HF.out]; simp), HB_1.out⟩
  cases b3
  · skip
    go_enter Tryd.func97, Tryd.ntmps97
    go_wp2_with fail
    refine (u_eqTerm R3_0.out yR3_0.out).mono ?_
    rintro e w_1 ⟨rfl, hb⟩
    rw [HR2.out]
    have R3_1 := hid (R3_0.out.below (Nat.le_refl _) hb)
    have R4_1 := hid (R4_0.out.below (Nat.le_refl _) hb)
    have yR3_1 := hid (yR3_0.out.below (Nat.le_refl _) hb)
    have yR4_1 := hid (yR4_0.out.below (Nat.le_refl _) hb)
    have HB_1 := hid (bel_next HB_0.out HB_0.out.size hb)
    have t0_1 := cell_below hb (Nat.lt_of_succ_lt z_0) t0_0
    have yt0_1 := cell_below hb z_0 yt0_0
    have t1_1 := cell_below hb (Nat.lt_of_succ_lt z_0) t1_0
    have yt1_1 := cell_below hb z_0 yt1_0
    have t2_1 := cell_below hb (Nat.lt_of_succ_lt z_0) t2_0
    have yt2_1 := cell_below hb z_0 yt2_0
    have t3_1 := cell_below hb (Nat.lt_of_succ_lt z_0) t3_0
    have yt3_1 := cell_below hb z_0 yt3_0
    have t4_1 := cell_below hb (Nat.lt_of_succ_lt z_0) t4_0
    have yt4_1 := cell_below hb z_0 yt4_0
    have z_1 := Nat.lt_of_lt_of_le z_0 hb.size
    clear hb R3_0 R4_0 yR3_0 yR4_0 HB_0 t0_0 yt0_0 t1_0 yt1_0 t2_0 yt2_0 t3_0 yt3_0 t4_0 yt4_0 z_0
    go_wp2_with fail
    refine (u_eqInt64S R4_1.out yR4_1.out).mono ?_
    rintro e w_2 ⟨rfl, hb⟩
    rw [HR3.out]
    have R3_2 := hid (R3_1.out.below (Nat.le_refl _) hb)
    have R4_2 := hid (R4_1.out.below (Nat.le_refl _) hb)
    have yR3_2 := hid (yR3_1.out.below (Nat.le_refl _) hb)
    have yR4_2 := hid (yR4_1.out.below (Nat.le_refl _) hb)
    have HB_2 := hid (bel_next HB_1.out HB_1.out.size hb)
    have t0_2 := cell_below hb (Nat.lt_of_succ_lt z_1) t0_1
    have yt0_2 := cell_below hb z_1 yt0_1
    have t1_2 := cell_below hb (Nat.lt_of_succ_lt z_1) t1_1
    have yt1_2 := cell_below hb z_1 yt1_1
    have t2_2 := cell_below hb (Nat.lt_of_succ_lt z_1) t2_1
    have yt2_2 := cell_below hb z_1 yt2_1
    have t3_2 := cell_below hb (Nat.lt_of_succ_lt z_1) t3_1
    have yt3_2 := cell_below hb z_1 yt3_1
    have t4_2 := cell_below hb (Nat.lt_of_succ_lt z_1) t4_1
    have yt4_2 := cell_below hb z_1 yt4_1
    have z_2 := Nat.lt_of_lt_of_le z_1 hb.size
    clear hb R3_1 R4_1 yR3_1 yR4_1 HB_1 t0_1 yt0_1 t1_1 yt1_1 t2_1 yt2_1 t3_1 yt3_1 t4_1 yt4_1 z_1
    go_wp2
    go_ret
    exact ⟨ret_bool (by rw [HF.out]; simp), HB_2.out⟩
  go_enter Tryd.func97, Tryd.ntmps97
  go_wp2_with fail
  refine (u_eqTerm R3_0.out yR3_0.out).mono ?_
  rintro e w_1 ⟨rfl, hb⟩
  rw [HR2.out]
  have R3_1 := hid (R3_0.out.below (Nat.le_refl _) hb)
  have R4_1 := hid (R4_0.out.below (Nat.le_refl _) hb)
  have yR3_1 := hid (yR3_0.out.below (Nat.le_refl _) hb)
  have yR4_1 := hid (yR4_0.out.below (Nat.le_refl _) hb)
  have HB_1 := hid (bel_next HB_0.out HB_0.out.size hb)
  have t0_1 := cell_below hb (Nat.lt_of_succ_lt z_0) t0_0
  have yt0_1 := cell_below hb z_0 yt0_0
  have t1_1 := cell_below hb (Nat.lt_of_succ_lt z_0) t1_0
  have yt1_1 := cell_below hb z_0 yt1_0
  have t2_1 := cell_below hb (Nat.lt_of_succ_lt z_0) t2_0
  have yt2_1 := cell_below hb z_0 yt2_0
  have t3_1 := cell_below hb (Nat.lt_of_succ_lt z_0) t3_0
  have yt3_1 := cell_below hb z_0 yt3_0
  have t4_1 := cell_below hb (Nat.lt_of_succ_lt z_0) t4_0
  have yt4_1 := cell_below hb z_0 yt4_0
  have z_1 := Nat.lt_of_lt_of_le z_0 hb.size
  clear hb R3_0 R4_0 yR3_0 yR4_0 HB_0 t0_0 yt0_0 t1_0 yt1_0 t2_0 yt2_0 t3_0 yt3_0 t4_0 yt4_0 z_0
  go_wp2_with fail
  refine (u_eqInt64S R4_1.out yR4_1.out).mono ?_
  rintro e w_2 ⟨rfl, hb⟩
  rw [HR3.out]
  have R3_2 := hid (R3_1.out.below (Nat.le_refl _) hb)
  have R4_2 := hid (R4_1.out.below (Nat.le_refl _) hb)
  have yR3_2 := hid (yR3_1.out.below (Nat.le_refl _) hb)
  have yR4_2 := hid (yR4_1.out.below (Nat.le_refl _) hb)
  have HB_2 := hid (bel_next HB_1.out HB_1.out.size hb)
  have t0_2 := cell_below hb (Nat.lt_of_succ_lt z_1) t0_1
  have yt0_2 := cell_below hb z_1 yt0_1
  have t1_2 := cell_below hb (Nat.lt_of_succ_lt z_1) t1_1
  have yt1_2 := cell_below hb z_1 yt1_1
  have t2_2 := cell_below hb (Nat.lt_of_succ_lt z_1) t2_1
  have yt2_2 := cell_below hb z_1 yt2_1
  have t3_2 := cell_below hb (Nat.lt_of_succ_lt z_1) t3_1
  have yt3_2 := cell_below hb z_1 yt3_1
  have t4_2 := cell_below hb (Nat.lt_of_succ_lt z_1) t4_1
  have yt4_2 := cell_below hb z_1 yt4_1
  have z_2 := Nat.lt_of_lt_of_le z_1 hb.size
  clear hb R3_1 R4_1 yR3_1 yR4_1 HB_1 t0_1 yt0_1 t1_1 yt1_1 t2_1 yt2_1 t3_1 yt3_1 t4_1 yt4_1 z_1
  go_wp2
  go_ret
  exact ⟨ret_bool (by rw [HF.out]; simp), HB_2.out⟩
def RetNode (x : Nd) (w : World) (e : Ending) (w' : World) : Prop :=
  ∃ a3 p3 a4 p4, e = .returned (.agg #[.int .i64 x.1, .int .i64 x.2.1, .int .i64 x.2.2.1.1, .slice a3 x.2.2.1.2.length p3, .slice a4 x.2.2.2.length p4]) ∧ SlRd cInt (Fresh w.heap.size w') w' a3 p3 x.2.2.1.2 ∧ SlRd cInt (Fresh w.heap.size w') w' a4 p4 x.2.2.2 ∧ Below w.heap.size w w'
set_option maxRecDepth 100000 in
set_option maxHeartbeats 1000000 in
theorem u_toNode {S : Nat → Prop} {d0 d1 d2 : Int} {a3 : Option Addr} {p3 : Nat} {d3 : List Int} {a4 : Option Addr} {p4 : Nat} {d4 : List Int} {w : World} (h3 : SlRd cInt S w a3 p3 d3) (h4 : SlRd cInt S w a4 p4 d4) (hz : (d3.length + d4.length) ≤ 1048576) :
    Calls Tryd.prog 94 #[.agg #[.int .i64 d0, .int .i64 d1, .int .i64 d2, .slice a3 d3.length p3, .slice a4 d4.length p4]] w (RetNode (d0, d1, (d2, d3), d4) w) := by
  have h3 := h3.keep (S' := fun b => S b ∧ b < w.heap.size) (w' := w) (fun b hb hlt => ⟨⟨hb, hlt⟩, rfl⟩)
  have R3_0 := hid (((h3.alloc (.cells #[.int .i64 d0, .int .i64 d1, .int .i64 d2, .slice a3 d3.length p3, .slice a4 d4.length p4] 116)).alloc (.cells #[.int .i64 0, .int .i64 0, .int .i64 0, .slice none 0 0, .slice none 0 0] 120)).alloc (.cells #[.int .i64 d0, .int .i64 d1, .int .i64 0, .slice none 0 0, .slice none 0 0] 120))
  have h4 := h4.keep (S' := fun b => S b ∧ b < w.heap.size) (w' := w) (fun b hb hlt => ⟨⟨hb, hlt⟩, rfl⟩)
  have R4_0 := hid (((h4.alloc (.cells #[.int .i64 d0, .int .i64 d1, .int .i64 d2, .slice a3 d3.length p3, .slice a4 d4.length p4] 116)).alloc (.cells #[.int .i64 0, .int .i64 0, .int .i64 0, .slice none 0 0, .slice none 0 0] 120)).alloc (.cells #[.int .i64 d0, .int .i64 d1, .int .i64 0, .slice none 0 0, .slice none 0 0] 120))
  have HB_0 : Hid (Below w.heap.size w (((w.alloc (.cells #[.int .i64 d0, .int .i64 d1, .int .i64 d2, .slice a3 d3.length p3, .slice a4 d4.length p4] 116)).alloc (.cells #[.int .i64 0, .int .i64 0, .int .i64 0, .slice none 0 0, .slice none 0 0] 120)).alloc (.cells #[.int .i64 d0, .int .i64 d1, .int .i64 0, .slice none 0 0, .slice none 0 0] 120))) := (((Below.refl _ _).alloc (Nat.le_refl _) _).alloc (by simp) _).alloc (by simp; omega) _
  have z_0 : w.heap.size + 1 + 1 < (((w.alloc (.cells #[.int .i64 d0, .int .i64 d1, .int .i64 d2, .slice a3 d3.length p3, .slice a4 d4.length p4] 116)).alloc (.cells #[.int .i64 0, .int .i64 0, .int .i64 0, .slice none 0 0, .slice none 0 0] 120)).alloc (.cells #[.int .i64 d0, .int .i64 d1, .int .i64 0, .slice none 0 0, .slice none 0 0] 120)).heap.size := by simp
  have KB_0 : Hid ((((w.alloc (.cells #[.int .i64 d0, .int .i64 d1, .int .i64 d2, .slice a3 d3.length p3, .slice a4 d4.length p4] 116)).alloc (.cells #[.int .i64 0, .int .i64 0, .int .i64 0, .slice none 0 0, .slice none 0 0] 120)).alloc (.cells #[.int .i64 d0, .int .i64 d1, .int .i64 0, .slice none 0 0, .slice none 0 0] 120)).heap[w.heap.size]? = some (.cells #[.int .i64 d0, .int .i64 d1, .int .i64 d2, .slice a3 d3.length p3, .slice a4 d4.length p4] 116 (0, 0))) := by unfold Hid; rw [Below.heap_alloc _ _ _ (by simp; omega), Below.heap_alloc _ _ _ (by simp)]; exact new_at rfl
  have KR_0 : Hid ((((w.alloc (.cells #[.int .i64 d0, .int .i64 d1, .int .i64 d2, .slice a3 d3.length p3, .slice a4 d4.length p4] 116)).alloc (.cells #[.int .i64 0, .int .i64 0, .int .i64 0, .slice none 0 0, .slice none 0 0] 120)).alloc (.cells #[.int .i64 d0, .int .i64 d1, .int .i64 0, .slice none 0 0, .slice none 0 0] 120)).heap[w.heap.size + 1]? = some (.cells #[.int .i64 0, .int .i64 0, .int .i64 0, .slice none 0 0, .slice none 0 0] 120 (0, 0))) := by unfold Hid; rw [Below.heap_alloc _ _ _ (by simp)]; exact new_at (by simp)
  have KL_0 : Hid ((((w.alloc (.cells #[.int .i64 d0, .int .i64 d1, .int .i64 d2, .slice a3 d3.length p3, .slice a4 d4.length p4] 116)).alloc (.cells #[.int .i64 0, .int .i64 0, .int .i64 0, .slice none 0 0, .slice none 0 0] 120)).alloc (.cells #[.int .i64 d0, .int .i64 d1, .int .i64 0, .slice none 0 0, .slice none 0 0] 120)).heap[w.heap.size + 1 + 1]? = some (.cells #[.int .i64 d0, .int .i64 d1, .int .i64 0, .slice none 0 0, .slice none 0 0] 120 (0, 0))) := new_at (by simp)
  clear h3 h4
  go_enter Tryd.func94, Tryd.ntmps94
  go_wp2_with fail
  generalize (((w.alloc (.cells #[.int .i64 d0, .int .i64 d1, .int .i64 d2, .slice a3 d3.length p3, .slice a4 d4.length p4] 116)).alloc (.cells #[.int .i64 0, .int .i64 0, .int .i64 0, .slice none 0 0, .slice none 0 0] 120)).alloc (.cells #[.int .i64 d0, .int .i64 d1, .int .i64 0, .slice none 0 0, .slice none 0 0] 120)) = wc_0 at *
  refine (u_toTerm R3_0.out (by omega)).mono ?_
  rintro e w_1 ⟨na3, np3, rfl, hs3, hb⟩
  simp only at hs3 ⊢
  have R3_1 := hid (R3_0.out.below (Nat.le_refl _) hb)
  have R4_1 := hid (R4_0.out.below (Nat.le_refl _) hb)
  have N3_1 := hid (hs3.lower (B' := w.heap.size + 1 + 1 + 1) z_0)
  have HB_1 := hid (bel_next HB_0.out HB_0.out.size hb)
  have KB_1 := hid ((hb.block (w.heap.size) (by omega)).trans KB_0.out)
  have KR_1 := hid ((hb.block (w.heap.size + 1) (by omega)).trans KR_0.out)
  have KL_1 := hid ((hb.block (w.heap.size + 1 + 1) (by omega)).trans KL_0.out)
  have z_1 := Nat.lt_of_lt_of_le z_0 hb.size
  clear hb hs3 R3_0 R4_0  HB_0 KB_0 KR_0 KL_0 z_0
  have tb0 := cell_of KB_1.out (j := 0) rfl
  have tl0 := cell_of KL_1.out (j := 0) rfl
  have fl0 := frz_of KL_1.out 0
  have tb1 := cell_of KB_1.out (j := 1) rfl
  have tl1 := cell_of KL_1.out (j := 1) rfl
  have fl1 := frz_of KL_1.out 1
  have tb2 := cell_of KB_1.out (j := 2) rfl
  have tl2 := cell_of KL_1.out (j := 2) rfl
  have fl2 := frz_of KL_1.out 2
  have tb3 := cell_of KB_1.out (j := 3) rfl
  have tl3 := cell_of KL_1.out (j := 3) rfl
  have fl3 := frz_of KL_1.out 3
  have tb4 := cell_of KB_1.out (j := 4) rfl
  have tl4 := cell_of KL_1.out (j := 4) rfl
  have fl4 := frz_of KL_1.out 4
  go_wp2_with fail
  clear tb0 tl0 fl0 tb1 tl1 fl1 tb2 tl2 fl2 tb3 tl3 fl3 tb4 tl4 fl4
  have R3_1 : Hid (SlRd cInt (fun b => S b ∧ b < w.heap.size) (w_1.setCell ⟨w.heap.size + 1 + 1, 2, none⟩ (.int .i64 d2)) a3 p3 d3) := R3_1.out.set_ne (p := ⟨w.heap.size + 1 + 1, 2, none⟩) (fun b h => by have h2 := h.2; show b ≠ w.heap.size + 1 + 1; omega) _
  have R4_1 : Hid (SlRd cInt (fun b => S b ∧ b < w.heap.size) (w_1.setCell ⟨w.heap.size + 1 + 1, 2, none⟩ (.int .i64 d2)) a4 p4 d4) := R4_1.out.set_ne (p := ⟨w.heap.size + 1 + 1, 2, none⟩) (fun b h => by have h2 := h.2; show b ≠ w.heap.size + 1 + 1; omega) _
  have N3_1 := hid (N3_1.out.setC (p := ⟨w.heap.size + 1 + 1, 2, none⟩) (by simp) (.int .i64 d2))
  have HB_1 := hid (HB_1.out.setCell (p := ⟨w.heap.size + 1 + 1, 2, none⟩) (by simp; omega) (.int .i64 d2))
  have KB_1 := hid (blk_ne (b := w.heap.size) (p := ⟨w.heap.size + 1 + 1, 2, none⟩) (by simp; omega) KB_1.out (.int .i64 d2))
  have KR_1 := hid (blk_ne (b := w.heap.size + 1) (p := ⟨w.heap.size + 1 + 1, 2, none⟩) (by simp) KR_1.out (.int .i64 d2))
  have KL_1 : Hid ((w_1.setCell ⟨w.heap.size + 1 + 1, 2, none⟩ (.int .i64 d2)).heap[w.heap.size + 1 + 1]? = some (.cells #[.int .i64 d0, .int .i64 d1, .int .i64 d2, .slice none 0 0, .slice none 0 0] 120 (0, 0))) := blk_set KL_1.out 2 (.int .i64 d2)
  have z_1 : w.heap.size + 1 + 1 < (w_1.setCell ⟨w.heap.size + 1 + 1, 2, none⟩ (.int .i64 d2)).heap.size := by rw [size_set]; exact z_1
  have R3_1 : Hid (SlRd cInt (fun b => S b ∧ b < w.heap.size) ((w_1.setCell ⟨w.heap.size + 1 + 1, 2, none⟩ (.int .i64 d2)).setCell ⟨w.heap.size + 1 + 1, 3, none⟩ (.slice na3 d3.length np3)) a3 p3 d3) := R3_1.out.set_ne (p := ⟨w.heap.size + 1 + 1, 3, none⟩) (fun b h => by have h2 := h.2; show b ≠ w.heap.size + 1 + 1; omega) _
  have R4_1 : Hid (SlRd cInt (fun b => S b ∧ b < w.heap.size) ((w_1.setCell ⟨w.heap.size + 1 + 1, 2, none⟩ (.int .i64 d2)).setCell ⟨w.heap.size + 1 + 1, 3, none⟩ (.slice na3 d3.length np3)) a4 p4 d4) := R4_1.out.set_ne (p := ⟨w.heap.size + 1 + 1, 3, none⟩) (fun b h => by have h2 := h.2; show b ≠ w.heap.size + 1 + 1; omega) _
  have N3_1 := hid (N3_1.out.setC (p := ⟨w.heap.size + 1 + 1, 3, none⟩) (by simp) (.slice na3 d3.length np3))
  have HB_1 := hid (HB_1.out.setCell (p := ⟨w.heap.size + 1 + 1, 3, none⟩) (by simp; omega) (.slice na3 d3.length np3))
  have KB_1 := hid (blk_ne (b := w.heap.size) (p := ⟨w.heap.size + 1 + 1, 3, none⟩) (by simp; omega) KB_1.out (.slice na3 d3.length np3))
  have KR_1 := hid (blk_ne (b := w.heap.size + 1) (p := ⟨w.heap.size + 1 + 1, 3, none⟩) (by simp) KR_1.out (.slice na3 d3.length np3))
  have KL_1 : Hid (((w_1.setCell ⟨w.heap.size + 1 + 1, 2, none⟩ (.int .i64 d2)).setCell ⟨w.heap.size + 1 + 1, 3, none⟩ (.slice na3 d3.length np3)).heap[w.heap.size + 1 + 1]? = some (.cells #[.int .i64 d0, .int .i64 d1, .int .i64 d2, .slice na3 d3.length np3, .slice none 0 0] 120 (0, 0))) := blk_set KL_1.out 3 (.slice na3 d3.length np3)
  have z_1 : w.heap.size + 1 + 1 < ((w_1.setCell ⟨w.heap.size + 1 + 1, 2, none⟩ (.int .i64 d2)).setCell ⟨w.heap.size + 1 + 1, 3, none⟩ (.slice na3 d3.length np3)).heap.size := by rw [size_set]; exact z_1
  generalize ((w_1.setCell ⟨w.heap.size + 1 + 1, 2, none⟩ (.int .i64 d2)).setCell ⟨w.heap.size + 1 + 1, 3, none⟩ (.slice na3 d3.length np3)) = wc_1 at *
  refine (u_toInt64S R4_1.out (by omega)).mono ?_
  rintro e w_2 ⟨na4, np4, rfl, hs4, hb⟩
  have R3_2 := hid (R3_1.out.below (Nat.le_refl _) hb)
  have R4_2 := hid (R4_1.out.below (Nat.le_refl _) hb)
  have N3_2 := hid (N3_1.out.fresh (Nat.le_refl _) (Nat.le_refl _) hb)
  have N4_2 := hid (hs4.lower (B' := w.heap.size + 1 + 1 + 1) z_1)
  have HB_2 := hid (bel_next HB_1.out HB_1.out.size hb)
  have KB_2 := hid ((hb.block (w.heap.size) (by omega)).trans KB_1.out)
  have KR_2 := hid ((hb.block (w.heap.size + 1) (by omega)).trans KR_1.out)
  have KL_2 := hid ((hb.block (w.heap.size + 1 + 1) (by omega)).trans KL_1.out)
  have z_2 := Nat.lt_of_lt_of_le z_1 hb.size
  clear hb hs4 R3_1 R4_1 N3_1 HB_1 KB_1 KR_1 KL_1 z_1
  have tb0 := cell_of KB_2.out (j := 0) rfl
  have tl0 := cell_of KL_2.out (j := 0) rfl
  have fl0 := frz_of KL_2.out 0
  have tr0 := cell_of KR_2.out (j := 0) rfl
  have fr0 := frz_of KR_2.out 0
  have tb1 := cell_of KB_2.out (j := 1) rfl
  have tl1 := cell_of KL_2.out (j := 1) rfl
  have fl1 := frz_of KL_2.out 1
  have tr1 := cell_of KR_2.out (j := 1) rfl
  have fr1 := frz_of KR_2.out 1
  have tb2 := cell_of KB_2.out (j := 2) rfl
  have tl2 := cell_of KL_2.out (j := 2) rfl
  have fl2 := frz_of KL_2.out 2
  have tr2 := cell_of KR_2.out (j := 2) rfl
  have fr2 := frz_of KR_2.out 2
  have tb3 := cell_of KB_2.out (j := 3) rfl
  have tl3 := cell_of KL_2.out (j := 3) rfl
  have fl3 := frz_of KL_2.out 3
  have tr3 := cell_of KR_2.out (j := 3) rfl
  have fr3 := frz_of KR_2.out 3
  have tb4 := cell_of KB_2.out (j := 4) rfl
  have tl4 := cell_of KL_2.out (j := 4) rfl
  have fl4 := frz_of KL_2.out 4
  have tr4 := cell_of KR_2.out (j := 4) rfl
  have fr4 := frz_of KR_2.out 4
  go_wp2
  refine bodyPost_ret (v := .agg #[.int .i64 d0, .int .i64 d1, .int .i64 d2, .slice na3 d3.length np3, .slice na4 d4.length np4]) (by simp [results, Tryd.results94, go_sem, tr0, tr1, tr2, tr3, tr4]) rfl ⟨na3, np3, na4, np4, rfl, ?_, ?_, ?_⟩
  · exact ((((((N3_2.out.setC (by simp) _).setC (by simp) _).setC (by simp) _).setC (by simp) _).setC (by simp) _).setC (by simp) _).lower (by omega)
  · exact ((((((N4_2.out.setC (by simp) _).setC (by simp) _).setC (by simp) _).setC (by simp) _).setC (by simp) _).setC (by simp) _).lower (by omega)
  · exact ((((((HB_2.out.setCell (by simp <;> omega) _).setCell (by simp <;> omega) _).setCell (by simp <;> omega) _).setCell (by simp <;> omega) _).setCell (by simp <;> omega) _).setCell (by simp <;> omega) _)
abbrev cNodes : Codec (List Nd) := cSl cNode
abbrev nNodes : Norm cNodes := nSl nNode
def szNd (x : Nd) : Nat := (x.2.2.1.2.length + x.2.2.2.length)
def szNds (xs : List Nd) : Nat := xs.length + (xs.map szNd).sum
theorem szNds_le {x : Nd} {xs : List Nd} (h : x ∈ xs) : szNd x ≤ szNds xs := by have := sumf_mem (f := szNd) h; unfold szNds; omega
theorem SlRd.nd_at {S : Nat → Prop} {w : World} {b off cap : Nat} {xs : List Nd} (h : SlRd cNode S w (some ⟨b, off, none⟩) cap xs) (k : Nat) (hk : k < xs.length) :
    ∃ (d0 : Int) (d1 : Int) (d2 : Int) (a3 : Option Addr) (p3 : Nat) (d3 : List Int) (a4 : Option Addr) (p4 : Nat) (d4 : List Int), xs[k]? = some (d0, d1, (d2, d3), d4) ∧ I64 d0 ∧ I64 d1 ∧ I64 d2 ∧ SlRd cInt S w a3 p3 d3 ∧ SlRd cInt S w a4 p4 d4 ∧ w.cell? ⟨b, off + k * 5, none⟩ = some (.int .i64 d0) ∧ w.cell? ⟨b, off + k * 5 + 1, none⟩ = some (.int .i64 d1) ∧ w.cell? ⟨b, off + k * 5 + 2, none⟩ = some (.int .i64 d2) ∧ w.cell? ⟨b, off + k * 5 + 3, none⟩ = some (.slice a3 d3.length p3) ∧ w.cell? ⟨b, off + k * 5 + 4, none⟩ = some (.slice a4 d4.length p4) ∧ b < w.heap.size := by
  obtain ⟨x, cs, h1, hr, h7, _, hc⟩ := h.at k hk
  obtain ⟨a3, p3, a4, p4, rfl, r3, r4, r0, r1, r2⟩ := Nd_list hr
  exact ⟨x.1, x.2.1, x.2.2.1.1, a3, p3, x.2.2.1.2, a4, p4, x.2.2.2, h1, r0, r1, r2, r3, r4, hc 0 _ rfl, hc 1 _ rfl, hc 2 _ rfl, hc 3 _ rfl, hc 4 _ rfl, h7⟩
theorem own_at_Nd {S : Nat → Prop} {w : World} {base : Nat} {e : TypeId} {zl : List Nd} {g cap n : Nat} (h : OwnSl cNode S w base e (.slice (some ⟨g, 0, none⟩) n cap) zl) (hn : zl.length = n) (k : Nat) (hk : k < n) :
    ∃ (d0 : Int) (d1 : Int) (d2 : Int) (a3 : Option Addr) (p3 : Nat) (d3 : List Int) (a4 : Option Addr) (p4 : Nat) (d4 : List Int), w.cell? ⟨g, k * 5, none⟩ = some (.int .i64 d0) ∧ w.cell? ⟨g, k * 5 + 1, none⟩ = some (.int .i64 d1) ∧ w.cell? ⟨g, k * 5 + 2, none⟩ = some (.int .i64 d2) ∧ w.cell? ⟨g, k * 5 + 3, none⟩ = some (.slice a3 d3.length p3) ∧ w.cell? ⟨g, k * 5 + 4, none⟩ = some (.slice a4 d4.length p4) ∧ w.frozen? ⟨g, k * 5, none⟩ = false ∧ w.frozen? ⟨g, k * 5 + 1, none⟩ = false ∧ w.frozen? ⟨g, k * 5 + 2, none⟩ = false ∧ w.frozen? ⟨g, k * 5 + 3, none⟩ = false ∧ w.frozen? ⟨g, k * 5 + 4, none⟩ = false ∧ g < w.heap.size := by
  obtain ⟨x, cs, h1, hr, h2, h3, h4, h5⟩ := own_at h hn k hk
  obtain ⟨a3, p3, a4, p4, rfl, r3, r4, r0, r1, r2⟩ := Nd_list hr
  exact ⟨x.1, x.2.1, x.2.2.1.1, a3, p3, x.2.2.1.2, a4, p4, x.2.2.2, h4 0 _ rfl, h4 1 _ rfl, h4 2 _ rfl, h4 3 _ rfl, h4 4 _ rfl, h5 _, h5 _, h5 _, h5 _, h5 _, h2⟩
set_option maxRecDepth 100000 in
theorem own_set_Nd {B B' base : Nat} {w : World} {e : TypeId} {zl : List Nd} {g cap n : Nat} (h : OwnSl cNode (Fresh B w) w base e (.slice (some ⟨g, 0, none⟩) n cap) zl) (hn : zl.length = n) (k : Nat) (hk : k < n)
    {d0 d1 d2 : Int} {a3 : Option Addr} {p3 : Nat} {d3 : List Int} {a4 : Option Addr} {p4 : Nat} {d4 : List Int} (i0 : I64 d0) (i1 : I64 d1) (i2 : I64 d2) (h3 : SlRd cInt (Fresh B' w) w a3 p3 d3) (h4 : SlRd cInt (Fresh B' w) w a4 p4 d4) (hB : B ≤ B') (hg : g < B') :
    OwnSl cNode (Fresh B (((((w.setCell ⟨g, k * 5, none⟩ (.int .i64 d0)).setCell ⟨g, k * 5 + 1, none⟩ (.int .i64 d1)).setCell ⟨g, k * 5 + 2, none⟩ (.int .i64 d2)).setCell ⟨g, k * 5 + 3, none⟩ (.slice a3 d3.length p3)).setCell ⟨g, k * 5 + 4, none⟩ (.slice a4 d4.length p4))) (((((w.setCell ⟨g, k * 5, none⟩ (.int .i64 d0)).setCell ⟨g, k * 5 + 1, none⟩ (.int .i64 d1)).setCell ⟨g, k * 5 + 2, none⟩ (.int .i64 d2)).setCell ⟨g, k * 5 + 3, none⟩ (.slice a3 d3.length p3)).setCell ⟨g, k * 5 + 4, none⟩ (.slice a4 d4.length p4)) base e (.slice (some ⟨g, 0, none⟩) n cap) (zl.set k (d0, d1, (d2, d3), d4)) ∧ w.grownBy (((((w.setCell ⟨g, k * 5, none⟩ (.int .i64 d0)).setCell ⟨g, k * 5 + 1, none⟩ (.int .i64 d1)).setCell ⟨g, k * 5 + 2, none⟩ (.int .i64 d2)).setCell ⟨g, k * 5 + 3, none⟩ (.slice a3 d3.length p3)).setCell ⟨g, k * 5 + 4, none⟩ (.slice a4 d4.length p4)) (some g) := by
  have k3 : SlRd cInt (fun b => Fresh B w b ∧ b ≠ g) w a3 p3 d3 := h3.keep fun b hb hl => ⟨⟨⟨Nat.le_trans hB hb.1, hb.2⟩, by have := hb.1; omega⟩, rfl⟩
  have k4 : SlRd cInt (fun b => Fresh B w b ∧ b ≠ g) w a4 p4 d4 := h4.keep fun b hb hl => ⟨⟨⟨Nat.le_trans hB hb.1, hb.2⟩, by have := hb.1; omega⟩, rfl⟩
  have h9 := own_set h hn k hk [.int .i64 d0, .int .i64 d1, .int .i64 d2, .slice a3 d3.length p3, .slice a4 d4.length p4] (d0, d1, (d2, d3), d4) (rd_pair (rd_i i0) (rd_pair (rd_i i1) (rd_pair (rd_pair (rd_i i2) (rd_sl k3)) (rd_sl k4))))
  exact ⟨own_refresh h9.1 fun b hb => thawed_setCell (thawed_setCell (thawed_setCell (thawed_setCell (thawed_setCell (hb) _ _) _ _) _ _) _ _) _ _, h9.2⟩
theorem slNd : SlT Tryd.prog 70 120 (.agg #[.int .i64 0, .int .i64 0, .int .i64 0, .slice none 0 0, .slice none 0 0]) 5 72 := ⟨Tryd.underlying70, by kernel_rfl, rfl, by decide, by decide⟩
set_option maxRecDepth 100000 in
theorem u_szNodeS {S : Nat → Prop} {a : Option Addr} {p : Nat} {xs : List Nd} {left : Int} {w : World} (h : SlRd cNode S w a p xs) (h0 : 0 ≤ left) (h1 : left ≤ 1048576) :
    Calls Tryd.prog 44 #[.slice a xs.length p, .int .i64 left] w fun e w' => e = .returned (.int .i64 (szR left (szNds xs : Nat))) ∧ Below w.heap.size w w' := by
  have H := hid h
  have hl := h.len_le
  clear h
  by_cases hs : left < xs.length
  · have HF : Hid (szR left (szNds xs : Nat) = -1) := szR_neg (n := xs.length) (by unfold szR; rw [if_pos hs]; omega)
    have h' : left - (xs.length : Int) < 0 := by omega
    go_enter Tryd.func44, Tryd.ntmps44
    go_wp2
    go_ret
    exact ⟨ret_int HF.out.symm, Below.refl _ _⟩
  · have h' : 0 ≤ left - (xs.length : Int) := by omega
    go_enter Tryd.func44, Tryd.ntmps44
    go_wp2
    go_loopw [1, 5] (fun u i wr => ∃ (k : Nat) (r : Int), k ≤ xs.length ∧ i = .int .i64 k ∧ u = .int .i64 r ∧ 0 ≤ r ∧ r ≤ left ∧ Hid (r = szR left (xs.length + ((xs.take k).map szNd).sum : Nat)) ∧ Below w.heap.size w wr) (fun _ i _ => xs.length - (intOf i).toNat)
    case atStart => exact ⟨0, _, Nat.zero_le _, rfl, rfl, h', by omega, by (unfold Hid szR; simp; omega), Below.refl _ _⟩
    case round =>
      obtain ⟨k, r, hk, rfl, rfl, hr0, hr1, HR, hbe⟩ := hrel
      have hsz := hbe.size
      by_cases hlt : k < xs.length
      · obtain ⟨b, off, rfl⟩ := H.out.some_of hlt
        obtain ⟨d0, d1, d2, a3, p3, d3, a4, p4, d4, hz, hi0, hi1, hi2, hs3, hs4, hc0, hc1, hc2, hc3, hc4, hb⟩ := (H.out.below (Nat.le_refl _) hbe).nd_at k hlt
        have HZ := hid hz
        clear hz
        have HC := hid (fun (hr1 : r ≤ 1048576) => u_szNode (w := wr) (d0 := d0) (d1 := d1) (d2 := d2) hs3 hs4 hr0 hr1)
        clear hs3 hs4
        obtain ⟨q, hq⟩ : ∃ q, szR r (szNd (d0, d1, (d2, d3), d4) : Nat) = q := ⟨_, rfl⟩
        have hqs : q = szR left (xs.length + ((xs.take (k + 1)).map szNd).sum : Nat) := by
          rw [← hq, sumf_take HZ.out]
          have hr := HR.out
          rw [hr] at hr0
          rw [hr, szR_add hr0, Nat.add_assoc]
        have hq1 : q ≤ r := by rw [← hq]; unfold szR; split <;> omega
        have HQ : Hid (szR r ((d3.length + d4.length) : Nat) = q) := hq
        have HS := hid hqs
        clear hq hqs
        by_cases hneg : q < 0
        · have HF : Hid (szR left (szNds xs : Nat) = -1) := by
            have h2 := HS.out
            rw [h2] at hneg
            have h3 : szNds xs = (xs.length + ((xs.take (k + 1)).map szNd).sum) + ((xs.map szNd).sum - ((xs.take (k + 1)).map szNd).sum) := by
              have := sumf_take_le szNd xs (k + 1)
              unfold szNds; omega
            unfold Hid; rw [h3]; exact szR_neg hneg
          go_wp2_with (go_at_call 91; refine (HC.out (by omega)).mono ?_; rintro e w1 ⟨rfl, hb1⟩; rw [HQ.out])
          go_ret
          exact ⟨ret_int HF.out.symm, bel_next hbe hsz hb1⟩
        · go_wp2_with (go_at_call 91; refine (HC.out (by omega)).mono ?_; rintro e w1 ⟨rfl, hb1⟩; rw [HQ.out])
          go_roundw
          case rel => exact ⟨k + 1, q, by omega, by go_num, rfl, by omega, by omega, HS, bel_next hbe hsz hb1⟩
          case measure => simp [intOf]; omega
      · go_wp2
        go_ret
        exact ⟨ret_int (by rw [HR.out, List.take_of_length_le (by omega)]; rfl), hbe⟩
set_option maxRecDepth 100000 in
set_option maxHeartbeats 1000000 in
theorem u_toNodeS {S : Nat → Prop} {a : Option Addr} {p : Nat} {xs : List Nd} {w : World} (h : SlRd cNode S w a p xs) (hz : szNds xs ≤ 1048576) :
    Calls Tryd.prog 46 #[.slice a xs.length p] w (RetSl cNode xs w) := by
  have H := hid h
  have hn : xs.length ≤ 1048576 := by unfold szNds at hz; omega
  have HN : Hid (∀ x ∈ xs, szNd x ≤ 1048576) := fun x hx => Nat.le_trans (szNds_le hx) hz
  clear h hz
  go_enter Tryd.func46, Tryd.ntmps46
  go_wp2_with (at_make; go_loud (refine wpList_mk rfl (.tmp 6) (.tmp 6) _ rfl rfl rfl (own_mk slNd (C := cNode) (base := w.heap.size) (fun _ => False) xs.length (by omega) (Nat.le_refl _) (0, 0, (0, []), []) (fun _ _ => rd_pair rd_int0 (rd_pair rd_int0 (rd_pair (rd_pair rd_int0 rd_nil) rd_nil))) _ _) ?_); rintro w1 ⟨hown, hg⟩)
  have hlt0 : w.heap.size < w1.heap.size := (own_lt hown _ rfl).2
  have HO := hid hown
  have HG := hid hg
  clear hown hg
  go_loopw [4] (fun i wr => ∃ k : Nat, k ≤ xs.length ∧ i = .int .i64 k ∧ Hid (OwnSl cNode (Fresh w.heap.size wr) wr w.heap.size 120 (.slice (some ⟨w.heap.size, 0, none⟩) xs.length xs.length) (xs.take k ++ List.replicate (xs.length - k) (0, 0, (0, []), []))) ∧ Below w.heap.size w wr ∧ w.heap.size < wr.heap.size) (fun i _ => xs.length - (intOf i).toNat)
  case atStart => exact ⟨0, Nat.zero_le _, rfl, by simpa [Hid] using own_keep (S' := Fresh w.heap.size w1) HO.out (fun _ h => h.elim) (fun _ _ _ => rfl), (Below.refl _ _).grown HG.out (Nat.le_refl _) (by simp), hlt0⟩
  case round =>
    obtain ⟨k, hk, rfl, HW, hbe, hgl⟩ := hrel
    have hsz := hbe.size
    by_cases hlt : k < xs.length
    · obtain ⟨b, off, rfl⟩ := H.out.some_of hlt
      obtain ⟨d0, d1, d2, a3, p3, d3, a4, p4, d4, hz, hi0, hi1, hi2, hs3, hs4, hc0, hc1, hc2, hc3, hc4, hb⟩ := (H.out.below (Nat.le_refl _) hbe).nd_at k hlt
      have hzl := HN.out _ (List.mem_of_getElem? hz)
      have HC := hid (u_toNode (w := wr) (d0 := d0) (d1 := d1) (d2 := d2) hs3 hs4 hzl)
      have HZ := hid hz
      clear hz hzl hs3 hs4
      go_wp2_with (go_at_call 94; refine HC.out.mono ?_; rintro e w2 ⟨na3, np3, na4, np4, rfl, nh3, nh4, hb2⟩; simp only at nh3 nh4 ⊢; have hw2 := own_fresh HW.out (Nat.le_refl _) (Nat.le_refl _) hb2; obtain ⟨_, _, _, _, _, _, _, _, _, g0, g1, g2, g3, g4, f0, f1, f2, f3, f4, _⟩ := own_at_Nd hw2 (fill_len rfl hk) k hlt; have HW2 := hid hw2; have NH3 := hid nh3; have NH4 := hid nh4; have hz2 := hb2.size; have HB2 := hid hb2; clear hw2 hb2 nh3 nh4)
      go_roundw
      case rel =>
        obtain ⟨h1, h2⟩ := own_set_Nd HW2.out (fill_len rfl hk) k hlt hi0 hi1 hi2 NH3.out NH4.out hsz hgl
        rw [fill_set rfl hlt HZ.out] at h1
        exact ⟨k + 1, by omega, by go_num, h1, ((((((hbe.trans (HB2.out.mono hsz)).setCell (Nat.le_refl _) _).setCell (Nat.le_refl _) _).setCell (Nat.le_refl _) _).setCell (Nat.le_refl _) _).setCell (Nat.le_refl _) _), by simp [World.setCell]; omega⟩
      case measure => simp [intOf]; omega
    · go_wp2
      go_ret
      have hown := HW.out
      rw [fill_end rfl (by omega)] at hown
      exact retSl_own hown (fun _ h _ => h) hbe
set_option maxRecDepth 100000 in
set_option maxHeartbeats 1000000 in
theorem u_eqNodeS {S T : Nat → Prop} {a b : Option Addr} {ca cb : Nat} {xs ys : List Nd} {w : World} (hx : SlRd cNode S w a ca xs) (hy : SlRd cNode T w b cb ys) :
    Calls Tryd.prog 48 #[.slice a xs.length ca, .slice b ys.length cb] w fun e w' => e = .returned (.bool (decide (xs = ys))) ∧ Below w.heap.size w w' := by
  have HX := hid hx
  have HY := hid hy
  have hlx := hx.len_le
  have hly := hy.len_le
  clear hx hy
  by_cases hl : xs.length = ys.length
  · have h1 : ((xs.length : Int) != ys.length) = false := by simp [hl]
    have hl1 : xs.length ≤ ys.length := by omega
    have hl2 : ys.length ≤ xs.length := by omega
    clear hl
    go_enter Tryd.func48, Tryd.ntmps48
    go_wp2
    go_loopw [5] (fun i wr => ∃ k : Nat, k ≤ xs.length ∧ i = .int .i64 k ∧ Hid (xs.take k = ys.take k) ∧ Below w.heap.size w wr) (fun i _ => xs.length - (intOf i).toNat)
    case atStart => exact ⟨0, Nat.zero_le _, rfl, rfl, Below.refl _ _⟩
    case round =>
      obtain ⟨k, hk, rfl, HA, hbe⟩ := hrel
      have hsz := hbe.size
      by_cases hlt : k < xs.length
      · obtain ⟨b1, off1, rfl⟩ := HX.out.some_of hlt
        obtain ⟨b2, off2, rfl⟩ := HY.out.some_of (k := k) (by omega)
        obtain ⟨d0, d1, d2, a3, p3, d3, a4, p4, d4, hxk, hi0, hi1, hi2, hs3, hs4, hc0, hc1, hc2, hc3, hc4, hb⟩ := (HX.out.below (Nat.le_refl _) hbe).nd_at k hlt
        obtain ⟨yd0, yd1, yd2, ya3, yp3, yd3, ya4, yp4, yd4, hyk, yi0, yi1, yi2, ys3, ys4, yc0, yc1, yc2, yc3, yc4, hby⟩ := (HY.out.below (Nat.le_refl _) hbe).nd_at k (by omega)
        have HXK := hid hxk
        have HYK := hid hyk
        have HC := hid (u_eqNode (w := wr.drew) (d0 := d0) (yd0 := yd0) (d1 := d1) (yd1 := yd1) (d2 := d2) (yd2 := yd2) hs3.drew hs4.drew ys3.drew ys4.drew)
        clear hxk hyk hs3 ys3 hs4 ys4
        have i1 : (0 : Int) ≤ (k : Int) := by omega
        have i2 : (k : Int) < (xs.length : Int) := by omega
        have i3 : (k : Int) < (ys.length : Int) := by omega
        obtain ⟨r, hr⟩ : ∃ r, decide (((d0, d1, (d2, d3), d4) : Nd) = (yd0, yd1, (yd2, yd3), yd4)) = r := ⟨_, rfl⟩
        have HR := hid hr
        clear hr
        cases r
        · go_wp2
          go_still_tail 8, (by kernel_rfl)
          change wpList _ _ _ _ _ wr.drew
          go_wp2_with (go_at_call 97; refine HC.out.mono ?_; rintro e w1 ⟨rfl, hb1⟩; rw [HR.out])
          go_ret
          exact ⟨ret_bool (by simp [ne_at HXK.out HYK.out (of_decide_eq_false HR.out)]), hbe.drew.trans (hb1.mono hsz)⟩
        · go_wp2
          go_still_tail 8, (by kernel_rfl)
          change wpList _ _ _ _ _ wr.drew
          go_wp2_with (go_at_call 97; refine HC.out.mono ?_; rintro e w1 ⟨rfl, hb1⟩; rw [HR.out])
          go_roundw
          case rel => exact ⟨k + 1, by omega, by go_num, take_eq_snoc HA.out HXK.out HYK.out (of_decide_eq_true HR.out), hbe.drew.trans (hb1.mono hsz)⟩
          case measure => simp [intOf]; omega
      · go_wp2
        go_ret
        exact ⟨ret_bool (by simp [take_all_eq HA.out (by omega) (by omega)]), hbe⟩
  · have h1 : ((xs.length : Int) != ys.length) = true := by simp; omega
    have HF : Hid (decide (xs = ys) = false) := by unfold Hid; simp; rintro rfl; exact hl rfl
    clear hl
    go_enter Tryd.func48, Tryd.ntmps48
    go_wp2
    go_ret
    exact ⟨ret_bool HF.out.symm, Below.refl _ _⟩
end Go.Proofs.YtcbaohcgeoaccaaDoor
