/- Contracts of the laws' helpers over sequents. -/
import Derived.Test.YtcbaohcgeoaccaaDoorUni
import Derived.Test.YtcbaohcgeoaccaaDoorOpn
namespace Go.Proofs.YtcbaohcgeoaccaaDoor
open Go.RowKit
abbrev Sq := List Term × Term
abbrev cSequent : Codec Sq := cPair cTerms cTerm
abbrev nSequent : Norm cSequent := nPair nTerms nTerm
instance dec_Sq : DecidableEq Sq := inferInstance
theorem Sq_list {S : Nat → Prop} {w : World} {cs : List Value} {d : Sq} (h : cSequent.rd S w cs d) : ∃ a0 p0 a2 p2, cs = [.slice a0 d.1.length p0, .int .i64 d.2.1, .slice a2 d.2.2.length p2] ∧ SlRd cTerm S w a0 p0 d.1 ∧ SlRd cInt S w a2 p2 d.2.2 ∧ I64 d.2.1 := by
  obtain ⟨_, _, rfl, ⟨a0, p0, rfl, r0⟩, ⟨_, _, rfl, ⟨rfl, r1⟩, ⟨a2, p2, rfl, r2⟩⟩⟩ := h
  exact ⟨a0, p0, a2, p2, rfl, r0, r2, r1⟩
theorem Sq_arr {S : Nat → Prop} {w : World} {cs : Array Value} {d : Sq} (h : cSequent.rd S w cs.toList d) : ∃ a0 p0 a2 p2, cs = #[.slice a0 d.1.length p0, .int .i64 d.2.1, .slice a2 d.2.2.length p2] ∧ SlRd cTerm S w a0 p0 d.1 ∧ SlRd cInt S w a2 p2 d.2.2 ∧ I64 d.2.1 := by
  obtain ⟨a0, p0, a2, p2, he, hr⟩ := Sq_list h
  exact ⟨a0, p0, a2, p2, by rw [← Array.toList_inj, he], hr⟩
theorem op_Sq : Opens Tryd.prog 56 cSequent := opens_struct Tryd.underlying56 (by kernel_rfl) (opensFs_cons rfl op_Terms (opensFs_last rfl op_Term))
set_option maxRecDepth 100000 in
theorem u_szSequent {S : Nat → Prop} {d1 : Int} {a0 : Option Addr} {p0 : Nat} {d0 : List Term} {a2 : Option Addr} {p2 : Nat} {d2 : List Int} {left : Int} {w : World} (h0 : SlRd cTerm S w a0 p0 d0) (h2 : SlRd cInt S w a2 p2 d2) (hl0 : 0 ≤ left) (hl1 : left ≤ 1048576) :
    Calls Tryd.prog 37 #[.agg #[.slice a0 d0.length p0, .int .i64 d1, .slice a2 d2.length p2], .int .i64 left] w fun e w' => e = .returned (.int .i64 (szR left ((szTs d0 + d2.length) : Nat))) ∧ Below w.heap.size w w' := by
  have R0_0 := hid (h0.alloc (.cells #[.slice a0 d0.length p0, .int .i64 d1, .slice a2 d2.length p2] 56))
  have R2_0 := hid (h2.alloc (.cells #[.slice a0 d0.length p0, .int .i64 d1, .slice a2 d2.length p2] 56))
  have HB_0 : Hid (Below w.heap.size w (w.alloc (.cells #[.slice a0 d0.length p0, .int .i64 d1, .slice a2 d2.length p2] 56))) := (Below.refl _ _).alloc (Nat.le_refl _) _
  have z_0 : w.heap.size < (w.alloc (.cells #[.slice a0 d0.length p0, .int .i64 d1, .slice a2 d2.length p2] 56)).heap.size := by simp
  have t0_0 : (w.alloc (.cells #[.slice a0 d0.length p0, .int .i64 d1, .slice a2 d2.length p2] 56)).cell? ⟨w.heap.size, 0, none⟩ = some (.slice a0 d0.length p0) := by rw [World.cell?_alloc_at _ _ _ _ rfl]; rfl
  have t1_0 : (w.alloc (.cells #[.slice a0 d0.length p0, .int .i64 d1, .slice a2 d2.length p2] 56)).cell? ⟨w.heap.size, 1, none⟩ = some (.int .i64 d1) := by rw [World.cell?_alloc_at _ _ _ _ rfl]; rfl
  have t2_0 : (w.alloc (.cells #[.slice a0 d0.length p0, .int .i64 d1, .slice a2 d2.length p2] 56)).cell? ⟨w.heap.size, 2, none⟩ = some (.slice a2 d2.length p2) := by rw [World.cell?_alloc_at _ _ _ _ rfl]; rfl
  clear h0 h2
  obtain ⟨r0, hr⟩ : ∃ r, szR left (szTs d0 : Nat) = r := ⟨_, rfl⟩
  have l0 : r0 ≤ left := by rw [← hr]; unfold szR; split <;> omega
  have m0 : r0 < 0 → r0 = -1 := by rw [← hr]; unfold szR; split <;> omega
  have HS0 : Hid (szR left ((szTs d0 : Nat) : Int) = r0) := by exact hr
  have HR0 := hid hr
  clear hr
  by_cases g0 : r0 < 0
  · skip
    have h8 : szR left ((szTs d0 : Nat) : Int) < 0 := by rw [HS0.out]; exact g0
    have h8 := szR_neg (m := d2.length) h8
    have HF := hid h8
    clear h8 m0
    go_enter Tryd.func37, Tryd.ntmps37
    go_wp2_with fail
    refine (u_szTermS R0_0.out (by omega) (by omega)).mono ?_
    rintro e w_1 ⟨rfl, hb⟩
    rw [HR0.out]
    have R0_1 := hid (R0_0.out.below (Nat.le_refl _) hb)
    have R2_1 := hid (R2_0.out.below (Nat.le_refl _) hb)
    have HB_1 := hid (bel_next HB_0.out HB_0.out.size hb)
    have t0_1 := cell_below hb z_0 t0_0
    have t1_1 := cell_below hb z_0 t1_0
    have t2_1 := cell_below hb z_0 t2_0
    have z_1 := Nat.lt_of_lt_of_le z_0 hb.size
    clear hb R0_0 R2_0 HB_0 t0_0 t1_0 t2_0 z_0
    go_wp2
    go_ret
    exact ⟨ret_int HF.out.symm, HB_1.out⟩
  clear m0
  obtain ⟨r1, hr⟩ : ∃ r, szR r0 (d2.length : Nat) = r := ⟨_, rfl⟩
  have l1 : r1 ≤ r0 := by rw [← hr]; unfold szR; split <;> omega
  have m1 : r1 < 0 → r1 = -1 := by rw [← hr]; unfold szR; split <;> omega
  have HS1 : Hid (szR left ((szTs d0 + d2.length : Nat) : Int) = r1) := by have h9 := HS0.out; unfold Hid; rw [← hr, ← h9, szR_add (by rw [h9]; omega)]
  have HR1 := hid hr
  clear hr
  by_cases g1 : r1 < 0
  · skip
    have h8 : szR left ((szTs d0 + d2.length : Nat) : Int) < 0 := by rw [HS1.out]; exact g1
    have HF := hid (HS1.out.trans (m1 g1))
    clear h8 m1
    go_enter Tryd.func37, Tryd.ntmps37
    go_wp2_with fail
    refine (u_szTermS R0_0.out (by omega) (by omega)).mono ?_
    rintro e w_1 ⟨rfl, hb⟩
    rw [HR0.out]
    have R0_1 := hid (R0_0.out.below (Nat.le_refl _) hb)
    have R2_1 := hid (R2_0.out.below (Nat.le_refl _) hb)
    have HB_1 := hid (bel_next HB_0.out HB_0.out.size hb)
    have t0_1 := cell_below hb z_0 t0_0
    have t1_1 := cell_below hb z_0 t1_0
    have t2_1 := cell_below hb z_0 t2_0
    have z_1 := Nat.lt_of_lt_of_le z_0 hb.size
    clear hb R0_0 R2_0 HB_0 t0_0 t1_0 t2_0 z_0
    go_wp2_with fail
    refine (u_szTerm R2_1.out (by omega) (by omega)).mono ?_
    rintro e w_2 ⟨rfl, hb⟩
    rw [HR1.out]
    have R0_2 := hid (R0_1.out.below (Nat.le_refl _) hb)
    have R2_2 := hid (R2_1.out.below (Nat.le_refl _) hb)
    have HB_2 := hid (bel_next HB_1.out HB_1.out.size hb)
    have t0_2 := cell_below hb z_1 t0_1
    have t1_2 := cell_below hb z_1 t1_1
    have t2_2 := cell_below hb z_1 t2_1
    have z_2 := Nat.lt_of_lt_of_le z_1 hb.size
    clear hb R0_1 R2_1 HB_1 t0_1 t1_1 t2_1 z_1
    go_wp2
    go_ret
    exact ⟨ret_int HF.out.symm, HB_2.out⟩
  clear m1
  go_enter Tryd.func37, Tryd.ntmps37
  go_wp2_with fail
  refine (u_szTermS R0_0.out (by omega) (by omega)).mono ?_
  rintro e w_1 ⟨rfl, hb⟩
  rw [HR0.out]
  have R0_1 := hid (R0_0.out.below (Nat.le_refl _) hb)
  have R2_1 := hid (R2_0.out.below (Nat.le_refl _) hb)
  have HB_1 := hid (bel_next HB_0.out HB_0.out.size hb)
  have t0_1 := cell_below hb z_0 t0_0
  have t1_1 := cell_below hb z_0 t1_0
  have t2_1 := cell_below hb z_0 t2_0
  have z_1 := Nat.lt_of_lt_of_le z_0 hb.size
  clear hb R0_0 R2_0 HB_0 t0_0 t1_0 t2_0 z_0
  go_wp2_with fail
  refine (u_szTerm R2_1.out (by omega) (by omega)).mono ?_
  rintro e w_2 ⟨rfl, hb⟩
  rw [HR1.out]
  have R0_2 := hid (R0_1.out.below (Nat.le_refl _) hb)
  have R2_2 := hid (R2_1.out.below (Nat.le_refl _) hb)
  have HB_2 := hid (bel_next HB_1.out HB_1.out.size hb)
  have t0_2 := cell_below hb z_1 t0_1
  have t1_2 := cell_below hb z_1 t1_1
  have t2_2 := cell_below hb z_1 t2_1
  have z_2 := Nat.lt_of_lt_of_le z_1 hb.size
  clear hb R0_1 R2_1 HB_1 t0_1 t1_1 t2_1 z_1
  go_wp2
  go_ret
  exact ⟨ret_int HS1.out.symm, HB_2.out⟩
set_option maxRecDepth 100000 in
theorem u_eqSequent {S T : Nat → Prop} {d1 : Int} {a0 : Option Addr} {p0 : Nat} {d0 : List Term} {a2 : Option Addr} {p2 : Nat} {d2 : List Int} {yd1 : Int} {ya0 : Option Addr} {yp0 : Nat} {yd0 : List Term} {ya2 : Option Addr} {yp2 : Nat} {yd2 : List Int} {w : World} (h0 : SlRd cTerm S w a0 p0 d0) (h2 : SlRd cInt S w a2 p2 d2) (yh0 : SlRd cTerm T w ya0 yp0 yd0) (yh2 : SlRd cInt T w ya2 yp2 yd2) :
    Calls Tryd.prog 41 #[.agg #[.slice a0 d0.length p0, .int .i64 d1, .slice a2 d2.length p2], .agg #[.slice ya0 yd0.length yp0, .int .i64 yd1, .slice ya2 yd2.length yp2]] w fun e w' => e = .returned (.bool (decide (((d0, (d1, d2)) : Sq) = (yd0, (yd1, yd2))))) ∧ Below w.heap.size w w' := by
  have R0_0 := hid ((h0.alloc (.cells #[.slice a0 d0.length p0, .int .i64 d1, .slice a2 d2.length p2] 61)).alloc (.cells #[.slice ya0 yd0.length yp0, .int .i64 yd1, .slice ya2 yd2.length yp2] 61))
  have R2_0 := hid ((h2.alloc (.cells #[.slice a0 d0.length p0, .int .i64 d1, .slice a2 d2.length p2] 61)).alloc (.cells #[.slice ya0 yd0.length yp0, .int .i64 yd1, .slice ya2 yd2.length yp2] 61))
  have yR0_0 := hid ((yh0.alloc (.cells #[.slice a0 d0.length p0, .int .i64 d1, .slice a2 d2.length p2] 61)).alloc (.cells #[.slice ya0 yd0.length yp0, .int .i64 yd1, .slice ya2 yd2.length yp2] 61))
  have yR2_0 := hid ((yh2.alloc (.cells #[.slice a0 d0.length p0, .int .i64 d1, .slice a2 d2.length p2] 61)).alloc (.cells #[.slice ya0 yd0.length yp0, .int .i64 yd1, .slice ya2 yd2.length yp2] 61))
  have HB_0 : Hid (Below w.heap.size w ((w.alloc (.cells #[.slice a0 d0.length p0, .int .i64 d1, .slice a2 d2.length p2] 61)).alloc (.cells #[.slice ya0 yd0.length yp0, .int .i64 yd1, .slice ya2 yd2.length yp2] 61))) := ((Below.refl _ _).alloc (Nat.le_refl _) _).alloc (by simp) _
  have z_0 : w.heap.size + 1 < ((w.alloc (.cells #[.slice a0 d0.length p0, .int .i64 d1, .slice a2 d2.length p2] 61)).alloc (.cells #[.slice ya0 yd0.length yp0, .int .i64 yd1, .slice ya2 yd2.length yp2] 61)).heap.size := by simp
  have t0_0 : ((w.alloc (.cells #[.slice a0 d0.length p0, .int .i64 d1, .slice a2 d2.length p2] 61)).alloc (.cells #[.slice ya0 yd0.length yp0, .int .i64 yd1, .slice ya2 yd2.length yp2] 61)).cell? ⟨w.heap.size, 0, none⟩ = some (.slice a0 d0.length p0) := by simp [go_sem]
  have yt0_0 : ((w.alloc (.cells #[.slice a0 d0.length p0, .int .i64 d1, .slice a2 d2.length p2] 61)).alloc (.cells #[.slice ya0 yd0.length yp0, .int .i64 yd1, .slice ya2 yd2.length yp2] 61)).cell? ⟨w.heap.size + 1, 0, none⟩ = some (.slice ya0 yd0.length yp0) := by simp [go_sem]
  have t1_0 : ((w.alloc (.cells #[.slice a0 d0.length p0, .int .i64 d1, .slice a2 d2.length p2] 61)).alloc (.cells #[.slice ya0 yd0.length yp0, .int .i64 yd1, .slice ya2 yd2.length yp2] 61)).cell? ⟨w.heap.size, 1, none⟩ = some (.int .i64 d1) := by simp [go_sem]
  have yt1_0 : ((w.alloc (.cells #[.slice a0 d0.length p0, .int .i64 d1, .slice a2 d2.length p2] 61)).alloc (.cells #[.slice ya0 yd0.length yp0, .int .i64 yd1, .slice ya2 yd2.length yp2] 61)).cell? ⟨w.heap.size + 1, 1, none⟩ = some (.int .i64 yd1) := by simp [go_sem]
  have t2_0 : ((w.alloc (.cells #[.slice a0 d0.length p0, .int .i64 d1, .slice a2 d2.length p2] 61)).alloc (.cells #[.slice ya0 yd0.length yp0, .int .i64 yd1, .slice ya2 yd2.length yp2] 61)).cell? ⟨w.heap.size, 2, none⟩ = some (.slice a2 d2.length p2) := by simp [go_sem]
  have yt2_0 : ((w.alloc (.cells #[.slice a0 d0.length p0, .int .i64 d1, .slice a2 d2.length p2] 61)).alloc (.cells #[.slice ya0 yd0.length yp0, .int .i64 yd1, .slice ya2 yd2.length yp2] 61)).cell? ⟨w.heap.size + 1, 2, none⟩ = some (.slice ya2 yd2.length yp2) := by simp [go_sem]
  clear h0 h2 yh0 yh2
  obtain ⟨b0, hb0⟩ : ∃ b, decide ((d0 : List Term) = yd0) = b := ⟨_, rfl⟩
  obtain ⟨b1, hb1⟩ : ∃ b, decide (((d1, d2) : Term) = (yd1, yd2)) = b := ⟨_, rfl⟩
  have HF : Hid (decide (((d0, (d1, d2)) : Sq) = (yd0, (yd1, yd2))) = (b0 && b1)) := by unfold Hid; rw [← hb0, ← hb1, Bool.eq_iff_iff]; simp [Prod.ext_iff]
  have HR0 := hid hb0
  clear hb0
  have HR1 := hid hb1
  clear hb1
  cases b0
  · skip
    go_enter Tryd.func41, Tryd.ntmps41
    go_wp2_with fail
    refine (u_eqTermS R0_0.out yR0_0.out).mono ?_
    rintro e w_1 ⟨rfl, hb⟩
    rw [HR0.out]
    have R0_1 := hid (R0_0.out.below (Nat.le_refl _) hb)
    have R2_1 := hid (R2_0.out.below (Nat.le_refl _) hb)
    have yR0_1 := hid (yR0_0.out.below (Nat.le_refl _) hb)
    have yR2_1 := hid (yR2_0.out.below (Nat.le_refl _) hb)
    have HB_1 := hid (bel_next HB_0.out HB_0.out.size hb)
    have t0_1 := cell_below hb (Nat.lt_of_succ_lt z_0) t0_0
    have yt0_1 := cell_below hb z_0 yt0_0
    have t1_1 := cell_below hb (Nat.lt_of_succ_lt z_0) t1_0
    have yt1_1 := cell_below hb z_0 yt1_0
    have t2_1 := cell_below hb (Nat.lt_of_succ_lt z_0) t2_0
    have yt2_1 := cell_below hb z_0 yt2_0
    have z_1 := Nat.lt_of_lt_of_le z_0 hb.size
    clear hb R0_0 R2_0 yR0_0 yR2_0 HB_0 t0_0 yt0_0 t1_0 yt1_0 t2_0 yt2_0 z_0
    go_wp2
    go_ret
    exact ⟨ret_bool (by rw [HF.out]; simp), HB_1.out⟩
  cases b1
  · skip
    go_enter Tryd.func41, Tryd.ntmps41
    go_wp2_with fail
    refine (u_eqTermS R0_0.out yR0_0.out).mono ?_
    rintro e w_1 ⟨rfl, hb⟩
    rw [HR0.out]
    have R0_1 := hid (R0_0.out.below (Nat.le_refl _) hb)
    have R2_1 := hid (R2_0.out.below (Nat.le_refl _) hb)
    have yR0_1 := hid (yR0_0.out.below (Nat.le_refl _) hb)
    have yR2_1 := hid (yR2_0.out.below (Nat.le_refl _) hb)
    have HB_1 := hid (bel_next HB_0.out HB_0.out.size hb)
    have t0_1 := cell_below hb (Nat.lt_of_succ_lt z_0) t0_0
    have yt0_1 := cell_below hb z_0 yt0_0
    have t1_1 := cell_below hb (Nat.lt_of_succ_lt z_0) t1_0
    have yt1_1 := cell_below hb z_0 yt1_0
    have t2_1 := cell_below hb (Nat.lt_of_succ_lt z_0) t2_0
    have yt2_1 := cell_below hb z_0 yt2_0
    have z_1 := Nat.lt_of_lt_of_le z_0 hb.size
    clear hb R0_0 R2_0 yR0_0 yR2_0 HB_0 t0_0 yt0_0 t1_0 yt1_0 t2_0 yt2_0 z_0
    go_wp2_with fail
    refine (u_eqTerm R2_1.out yR2_1.out).mono ?_
    rintro e w_2 ⟨rfl, hb⟩
    rw [HR1.out]
    have R0_2 := hid (R0_1.out.below (Nat.le_refl _) hb)
    have R2_2 := hid (R2_1.out.below (Nat.le_refl _) hb)
    have yR0_2 := hid (yR0_1.out.below (Nat.le_refl _) hb)
    have yR2_2 := hid (yR2_1.out.below (Nat.le_refl _) hb)
    have HB_2 := hid (bel_next HB_1.out HB_1.out.size hb)
    have t0_2 := cell_below hb (Nat.lt_of_succ_lt z_1) t0_1
    have yt0_2 := cell_below hb z_1 yt0_1
    have t1_2 := cell_below hb (Nat.lt_of_succ_lt z_1) t1_1
    have yt1_2 := cell_below hb z_1 yt1_1
    have t2_2 := cell_below hb (Nat.lt_of_succ_lt z_1) t2_1
    have yt2_2 := cell_below hb z_1 yt2_1
    have z_2 := Nat.lt_of_lt_of_le z_1 hb.size
    clear hb R0_1 R2_1 yR0_1 yR2_1 HB_1 t0_1 yt0_1 t1_1 yt1_1 t2_1 yt2_1 z_1
    go_wp2
    go_ret
    exact ⟨ret_bool (by rw [HF.out]; simp), HB_2.out⟩
  go_enter Tryd.func41, Tryd.ntmps41
  go_wp2_with fail
  refine (u_eqTermS R0_0.out yR0_0.out).mono ?_
  rintro e w_1 ⟨rfl, hb⟩
  rw [HR0.out]
  have R0_1 := hid (R0_0.out.below (Nat.le_refl _) hb)
  have R2_1 := hid (R2_0.out.below (Nat.le_refl _) hb)
  have yR0_1 := hid (yR0_0.out.below (Nat.le_refl _) hb)
  have yR2_1 := hid (yR2_0.out.below (Nat.le_refl _) hb)
  have HB_1 := hid (bel_next HB_0.out HB_0.out.size hb)
  have t0_1 := cell_below hb (Nat.lt_of_succ_lt z_0) t0_0
  have yt0_1 := cell_below hb z_0 yt0_0
  have t1_1 := cell_below hb (Nat.lt_of_succ_lt z_0) t1_0
  have yt1_1 := cell_below hb z_0 yt1_0
  have t2_1 := cell_below hb (Nat.lt_of_succ_lt z_0) t2_0
  have yt2_1 := cell_below hb z_0 yt2_0
  have z_1 := Nat.lt_of_lt_of_le z_0 hb.size
  clear hb R0_0 R2_0 yR0_0 yR2_0 HB_0 t0_0 yt0_0 t1_0 yt1_0 t2_0 yt2_0 z_0
  go_wp2_with fail
  refine (u_eqTerm R2_1.out yR2_1.out).mono ?_
  rintro e w_2 ⟨rfl, hb⟩
  rw [HR1.out]
  have R0_2 := hid (R0_1.out.below (Nat.le_refl _) hb)
  have R2_2 := hid (R2_1.out.below (Nat.le_refl _) hb)
  have yR0_2 := hid (yR0_1.out.below (Nat.le_refl _) hb)
  have yR2_2 := hid (yR2_1.out.below (Nat.le_refl _) hb)
  have HB_2 := hid (bel_next HB_1.out HB_1.out.size hb)
  have t0_2 := cell_below hb (Nat.lt_of_succ_lt z_1) t0_1
  have yt0_2 := cell_below hb z_1 yt0_1
  have t1_2 := cell_below hb (Nat.lt_of_succ_lt z_1) t1_1
  have yt1_2 := cell_below hb z_1 yt1_1
  have t2_2 := cell_below hb (Nat.lt_of_succ_lt z_1) t2_1
  have yt2_2 := cell_below hb z_1 yt2_1
  have z_2 := Nat.lt_of_lt_of_le z_1 hb.size
  clear hb R0_1 R2_1 yR0_1 yR2_1 HB_1 t0_1 yt0_1 t1_1 yt1_1 t2_1 yt2_1 z_1
  go_wp2
  go_ret
  exact ⟨ret_bool (by rw [HF.out]; simp), HB_2.out⟩
def RetSequent (x : Sq) (w : World) (e : Ending) (w' : World) : Prop :=
  ∃ a0 p0 a2 p2, e = .returned (.agg #[.slice a0 x.1.length p0, .int .i64 x.2.1, .slice a2 x.2.2.length p2]) ∧ SlRd cTerm (Fresh w.heap.size w') w' a0 p0 x.1 ∧ SlRd cInt (Fresh w.heap.size w') w' a2 p2 x.2.2 ∧ Below w.heap.size w w'
set_option maxRecDepth 100000 in
set_option maxHeartbeats 1000000 in
theorem u_toSequent {S : Nat → Prop} {d1 : Int} {a0 : Option Addr} {p0 : Nat} {d0 : List Term} {a2 : Option Addr} {p2 : Nat} {d2 : List Int} {w : World} (h0 : SlRd cTerm S w a0 p0 d0) (h2 : SlRd cInt S w a2 p2 d2) (hz : (szTs d0 + d2.length) ≤ 1048576) :
    Calls Tryd.prog 39 #[.agg #[.slice a0 d0.length p0, .int .i64 d1, .slice a2 d2.length p2]] w (RetSequent (d0, (d1, d2)) w) := by
  have h0 := h0.keep (S' := fun b => S b ∧ b < w.heap.size) (w' := w) (fun b hb hlt => ⟨⟨hb, hlt⟩, rfl⟩)
  have R0_0 := hid (((h0.alloc (.cells #[.slice a0 d0.length p0, .int .i64 d1, .slice a2 d2.length p2] 56)).alloc (.cells #[.slice none 0 0, .int .i64 0, .slice none 0 0] 61)).alloc (.cells #[.slice none 0 0, .int .i64 0, .slice none 0 0] 61))
  have h2 := h2.keep (S' := fun b => S b ∧ b < w.heap.size) (w' := w) (fun b hb hlt => ⟨⟨hb, hlt⟩, rfl⟩)
  have R2_0 := hid (((h2.alloc (.cells #[.slice a0 d0.length p0, .int .i64 d1, .slice a2 d2.length p2] 56)).alloc (.cells #[.slice none 0 0, .int .i64 0, .slice none 0 0] 61)).alloc (.cells #[.slice none 0 0, .int .i64 0, .slice none 0 0] 61))
  have HB_0 : Hid (Below w.heap.size w (((w.alloc (.cells #[.slice a0 d0.length p0, .int .i64 d1, .slice a2 d2.length p2] 56)).alloc (.cells #[.slice none 0 0, .int .i64 0, .slice none 0 0] 61)).alloc (.cells #[.slice none 0 0, .int .i64 0, .slice none 0 0] 61))) := (((Below.refl _ _).alloc (Nat.le_refl _) _).alloc (by simp) _).alloc (by simp; omega) _
  have z_0 : w.heap.size + 1 + 1 < (((w.alloc (.cells #[.slice a0 d0.length p0, .int .i64 d1, .slice a2 d2.length p2] 56)).alloc (.cells #[.slice none 0 0, .int .i64 0, .slice none 0 0] 61)).alloc (.cells #[.slice none 0 0, .int .i64 0, .slice none 0 0] 61)).heap.size := by simp
  have KB_0 : Hid ((((w.alloc (.cells #[.slice a0 d0.length p0, .int .i64 d1, .slice a2 d2.length p2] 56)).alloc (.cells #[.slice none 0 0, .int .i64 0, .slice none 0 0] 61)).alloc (.cells #[.slice none 0 0, .int .i64 0, .slice none 0 0] 61)).heap[w.heap.size]? = some (.cells #[.slice a0 d0.length p0, .int .i64 d1, .slice a2 d2.length p2] 56 (0, 0))) := by unfold Hid; rw [Below.heap_alloc _ _ _ (by simp; omega), Below.heap_alloc _ _ _ (by simp)]; exact new_at rfl
  have KR_0 : Hid ((((w.alloc (.cells #[.slice a0 d0.length p0, .int .i64 d1, .slice a2 d2.length p2] 56)).alloc (.cells #[.slice none 0 0, .int .i64 0, .slice none 0 0] 61)).alloc (.cells #[.slice none 0 0, .int .i64 0, .slice none 0 0] 61)).heap[w.heap.size + 1]? = some (.cells #[.slice none 0 0, .int .i64 0, .slice none 0 0] 61 (0, 0))) := by unfold Hid; rw [Below.heap_alloc _ _ _ (by simp)]; exact new_at (by simp)
  have KL_0 : Hid ((((w.alloc (.cells #[.slice a0 d0.length p0, .int .i64 d1, .slice a2 d2.length p2] 56)).alloc (.cells #[.slice none 0 0, .int .i64 0, .slice none 0 0] 61)).alloc (.cells #[.slice none 0 0, .int .i64 0, .slice none 0 0] 61)).heap[w.heap.size + 1 + 1]? = some (.cells #[.slice none 0 0, .int .i64 0, .slice none 0 0] 61 (0, 0))) := new_at (by simp)
  clear h0 h2
  go_enter Tryd.func39, Tryd.ntmps39
  go_wp2_with fail
  generalize (((w.alloc (.cells #[.slice a0 d0.length p0, .int .i64 d1, .slice a2 d2.length p2] 56)).alloc (.cells #[.slice none 0 0, .int .i64 0, .slice none 0 0] 61)).alloc (.cells #[.slice none 0 0, .int .i64 0, .slice none 0 0] 61)) = wc_0 at *
  refine (u_toTermS R0_0.out (by omega)).mono ?_
  rintro e w_1 ⟨na0, np0, rfl, hs0, hb⟩
  have R0_1 := hid (R0_0.out.below (Nat.le_refl _) hb)
  have R2_1 := hid (R2_0.out.below (Nat.le_refl _) hb)
  have N0_1 := hid (hs0.lower (B' := w.heap.size + 1 + 1 + 1) z_0)
  have HB_1 := hid (bel_next HB_0.out HB_0.out.size hb)
  have KB_1 := hid ((hb.block (w.heap.size) (by omega)).trans KB_0.out)
  have KR_1 := hid ((hb.block (w.heap.size + 1) (by omega)).trans KR_0.out)
  have KL_1 := hid ((hb.block (w.heap.size + 1 + 1) (by omega)).trans KL_0.out)
  have z_1 := Nat.lt_of_lt_of_le z_0 hb.size
  clear hb hs0 R0_0 R2_0  HB_0 KB_0 KR_0 KL_0 z_0
  have tb0 := cell_of KB_1.out (j := 0) rfl
  have tl0 := cell_of KL_1.out (j := 0) rfl
  have fl0 := frz_of KL_1.out 0
  have tb1 := cell_of KB_1.out (j := 1) rfl
  have tl1 := cell_of KL_1.out (j := 1) rfl
  have fl1 := frz_of KL_1.out 1
  have tb2 := cell_of KB_1.out (j := 2) rfl
  have tl2 := cell_of KL_1.out (j := 2) rfl
  have fl2 := frz_of KL_1.out 2
  go_wp2_with fail
  clear tb0 tl0 fl0 tb1 tl1 fl1 tb2 tl2 fl2
  have R0_1 : Hid (SlRd cTerm (fun b => S b ∧ b < w.heap.size) (w_1.setCell ⟨w.heap.size + 1 + 1, 0, none⟩ (.slice na0 d0.length np0)) a0 p0 d0) := R0_1.out.set_ne (p := ⟨w.heap.size + 1 + 1, 0, none⟩) (fun b h => by have h2 := h.2; show b ≠ w.heap.size + 1 + 1; omega) _
  have R2_1 : Hid (SlRd cInt (fun b => S b ∧ b < w.heap.size) (w_1.setCell ⟨w.heap.size + 1 + 1, 0, none⟩ (.slice na0 d0.length np0)) a2 p2 d2) := R2_1.out.set_ne (p := ⟨w.heap.size + 1 + 1, 0, none⟩) (fun b h => by have h2 := h.2; show b ≠ w.heap.size + 1 + 1; omega) _
  have N0_1 := hid (N0_1.out.setC (p := ⟨w.heap.size + 1 + 1, 0, none⟩) (by simp) (.slice na0 d0.length np0))
  have HB_1 := hid (HB_1.out.setCell (p := ⟨w.heap.size + 1 + 1, 0, none⟩) (by simp; omega) (.slice na0 d0.length np0))
  have KB_1 := hid (blk_ne (b := w.heap.size) (p := ⟨w.heap.size + 1 + 1, 0, none⟩) (by simp; omega) KB_1.out (.slice na0 d0.length np0))
  have KR_1 := hid (blk_ne (b := w.heap.size + 1) (p := ⟨w.heap.size + 1 + 1, 0, none⟩) (by simp) KR_1.out (.slice na0 d0.length np0))
  have KL_1 : Hid ((w_1.setCell ⟨w.heap.size + 1 + 1, 0, none⟩ (.slice na0 d0.length np0)).heap[w.heap.size + 1 + 1]? = some (.cells #[.slice na0 d0.length np0, .int .i64 0, .slice none 0 0] 61 (0, 0))) := blk_set KL_1.out 0 (.slice na0 d0.length np0)
  have z_1 : w.heap.size + 1 + 1 < (w_1.setCell ⟨w.heap.size + 1 + 1, 0, none⟩ (.slice na0 d0.length np0)).heap.size := by rw [size_set]; exact z_1
  generalize (w_1.setCell ⟨w.heap.size + 1 + 1, 0, none⟩ (.slice na0 d0.length np0)) = wc_1 at *
  refine (u_toTerm R2_1.out (by omega)).mono ?_
  rintro e w_2 ⟨na2, np2, rfl, hs2, hb⟩
  simp only at hs2 ⊢
  have R0_2 := hid (R0_1.out.below (Nat.le_refl _) hb)
  have R2_2 := hid (R2_1.out.below (Nat.le_refl _) hb)
  have N0_2 := hid (N0_1.out.fresh (Nat.le_refl _) (Nat.le_refl _) hb)
  have N2_2 := hid (hs2.lower (B' := w.heap.size + 1 + 1 + 1) z_1)
  have HB_2 := hid (bel_next HB_1.out HB_1.out.size hb)
  have KB_2 := hid ((hb.block (w.heap.size) (by omega)).trans KB_1.out)
  have KR_2 := hid ((hb.block (w.heap.size + 1) (by omega)).trans KR_1.out)
  have KL_2 := hid ((hb.block (w.heap.size + 1 + 1) (by omega)).trans KL_1.out)
  have z_2 := Nat.lt_of_lt_of_le z_1 hb.size
  clear hb hs2 R0_1 R2_1 N0_1 HB_1 KB_1 KR_1 KL_1 z_1
  have tb0 := cell_of KB_2.out (j := 0) rfl
  have tl0 := cell_of KL_2.out (j := 0) rfl
  have fl0 := frz_of KL_2.out 0
  have tr0 := cell_of KR_2.out (j := 0) rfl
  have fr0 := frz_of KR_2.out 0
  have tb1 := cell_of KB_2.out (j := 1) rfl
  have tl1 := cell_of KL_2.out (j := 1) rfl
  have fl1 := frz_of KL_2.out 1
  have tr1 := cell_of KR_2.out (j := 1) rfl
  have fr1 := frz_of KR_2.out 1
  have tb2 := cell_of KB_2.out (j := 2) rfl
  have tl2 := cell_of KL_2.out (j := 2) rfl
  have fl2 := frz_of KL_2.out 2
  have tr2 := cell_of KR_2.out (j := 2) rfl
  have fr2 := frz_of KR_2.out 2
  go_wp2
  refine bodyPost_ret (v := .agg #[.slice na0 d0.length np0, .int .i64 d1, .slice na2 d2.length np2]) (by simp [results, Tryd.results39, go_sem, tr0, tr1, tr2]) rfl ⟨na0, np0, na2, np2, rfl, ?_, ?_, ?_⟩
  · exact (((((N0_2.out.setC (by simp) _).setC (by simp) _).setC (by simp) _).setC (by simp) _).setC (by simp) _).lower (by omega)
  · exact (((((N2_2.out.setC (by simp) _).setC (by simp) _).setC (by simp) _).setC (by simp) _).setC (by simp) _).lower (by omega)
  · exact (((((HB_2.out.setCell (by simp <;> omega) _).setCell (by simp <;> omega) _).setCell (by simp <;> omega) _).setCell (by simp <;> omega) _).setCell (by simp <;> omega) _)
end Go.Proofs.YtcbaohcgeoaccaaDoor
