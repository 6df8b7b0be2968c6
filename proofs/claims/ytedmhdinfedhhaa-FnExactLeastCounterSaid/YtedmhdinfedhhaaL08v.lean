/- Contracts: valid annotated code, the program side. -/
import Derived.Test.YtedmhdinfedhhaaL08p
import Derived.Test.YtedmhdinfedhhaaL03o
import Derived.Test.YtedmhdinfedhhaaL07c
import Derived.Test.YtedmhdinfedhhaaL07p
import Derived.Deep.RegionHeld3
import Derived.Outline
namespace Go.Proofs.Ytedmhdinfedhhaa
open Go.RowKit
set_option maxRecDepth 100000 in
set_option maxHeartbeats 40000000 in
theorem c_ValidAnnotated {S : Nat → Prop} {a0 : Option Addr} {p0 : Nat} {d0 : List Term} {a1 : Option Addr} {p1 : Nat} {d1 : List Term} {a2 : Option Addr} {p2 : Nat} {d2 : List Instr} {a3 : Option Addr} {p3 : Nat} {d3 : List Pt} {w : World} (h0 : SlRd cTerm S w a0 p0 d0) (h1 : SlRd cTerm S w a1 p1 d1) (h2 : SlRd cInstr S w a2 p2 d2) (h3 : SlRd cPoint S w a3 p3 d3) :
    Calls Try.prog 52 #[.agg #[.slice a0 d0.length p0, .slice a1 d1.length p1, .slice a2 d2.length p2, .slice a3 d3.length p3]] w fun e w' => e = .returned (.bool (validAn (d0, d1, d2, d3))) ∧ Below w.heap.size w w' := by
  have hl3 := h3.len_le
  have H0 := hid (h0.alloc (.cells #[.slice a0 d0.length p0, .slice a1 d1.length p1, .slice a2 d2.length p2, .slice a3 d3.length p3] 35))
  have H1 := hid (h1.alloc (.cells #[.slice a0 d0.length p0, .slice a1 d1.length p1, .slice a2 d2.length p2, .slice a3 d3.length p3] 35))
  have H2 := hid (h2.alloc (.cells #[.slice a0 d0.length p0, .slice a1 d1.length p1, .slice a2 d2.length p2, .slice a3 d3.length p3] 35))
  have H3 := hid (h3.alloc (.cells #[.slice a0 d0.length p0, .slice a1 d1.length p1, .slice a2 d2.length p2, .slice a3 d3.length p3] 35))
  have HB : Hid (Below w.heap.size w (w.alloc (.cells #[.slice a0 d0.length p0, .slice a1 d1.length p1, .slice a2 d2.length p2, .slice a3 d3.length p3] 35))) := (Below.refl _ _).alloc (Nat.le_refl _) _
  have t0 : (w.alloc (.cells #[.slice a0 d0.length p0, .slice a1 d1.length p1, .slice a2 d2.length p2, .slice a3 d3.length p3] 35)).cell? ⟨w.heap.size, 0, none⟩ = some (.slice a0 d0.length p0) := by simp [go_sem]
  have t1 : (w.alloc (.cells #[.slice a0 d0.length p0, .slice a1 d1.length p1, .slice a2 d2.length p2, .slice a3 d3.length p3] 35)).cell? ⟨w.heap.size, 1, none⟩ = some (.slice a1 d1.length p1) := by simp [go_sem]
  have t2 : (w.alloc (.cells #[.slice a0 d0.length p0, .slice a1 d1.length p1, .slice a2 d2.length p2, .slice a3 d3.length p3] 35)).cell? ⟨w.heap.size, 2, none⟩ = some (.slice a2 d2.length p2) := by simp [go_sem]
  have t3 : (w.alloc (.cells #[.slice a0 d0.length p0, .slice a1 d1.length p1, .slice a2 d2.length p2, .slice a3 d3.length p3] 35)).cell? ⟨w.heap.size, 3, none⟩ = some (.slice a3 d3.length p3) := by simp [go_sem]
  have z0 : w.heap.size < (w.alloc (.cells #[.slice a0 d0.length p0, .slice a1 d1.length p1, .slice a2 d2.length p2, .slice a3 d3.length p3] 35)).heap.size := by simp
  clear h0 h1 h2 h3
  obtain ⟨r, hr⟩ : ∃ r, validCode d2 = r := ⟨_, rfl⟩
  obtain ⟨q, hq⟩ : ∃ q, areOverF d0 6 = q := ⟨_, rfl⟩
  obtain ⟨u, hu⟩ : ∃ u, areOverF d1 6 = u := ⟨_, rfl⟩
  have HF : Hid (validAn (d0, d1, d2, d3) = ((((r && q) && u) && decide (d3.length ≤ 8)) && ptsOk d2.length d3 d3.length)) := by unfold Hid validAn headOk; rw [hr, hq, hu]
  have HR := hid hr
  have HQ := hid hq
  have HU := hid hu
  clear hr hq hu
  cases r
  · go_enter Try.func52, Try.ntmps52
    go_wp2_with fail
    generalize w.alloc (.cells #[.slice a0 d0.length p0, .slice a1 d1.length p1, .slice a2 d2.length p2, .slice a3 d3.length p3] 35) = W0 at *
    go_wp2_with (go_at_call 115; refine (c_ValidCode _ _ _ _ H2.out).mono ?_; rintro e w1 ⟨rfl, hb1⟩; rw [HR.out])
    go_ret
    exact ⟨ret_bool (by rw [HF.out]; rfl), bel_next HB.out HB.out.size hb1⟩
  · by_cases hl8 : d3.length ≤ 8
    all_goals
      cases q
      all_goals
        cases u
        all_goals
          go_enter Try.func52, Try.ntmps52
          go_wp2_with fail
          generalize w.alloc (.cells #[.slice a0 d0.length p0, .slice a1 d1.length p1, .slice a2 d2.length p2, .slice a3 d3.length p3] 35) = W0 at *
          refine (c_ValidCode _ _ _ _ H2.out).mono ?_
          rintro e w1 ⟨rfl, hb1⟩
          rw [HR.out]
          have t10 := cell_below hb1 z0 t0
          have t11 := cell_below hb1 z0 t1
          have t12 := cell_below hb1 z0 t2
          have t13 := cell_below hb1 z0 t3
          have z1 := Nat.lt_of_lt_of_le z0 hb1.size
          have HW1 := hid hb1
          have H01 := hid (H0.out.below (Nat.le_refl _) hb1)
          have H11 := hid (H1.out.below (Nat.le_refl _) hb1)
          clear hb1
          go_wp2_with fail
          refine (c_areOver _ _ _ _ _ H01.out).mono ?_
          rintro e w2 ⟨rfl, hb2⟩
          rw [HQ.out]
          have t20 := cell_below hb2 z1 t10
          have t21 := cell_below hb2 z1 t11
          have t22 := cell_below hb2 z1 t12
          have t23 := cell_below hb2 z1 t13
          have z2 := Nat.lt_of_lt_of_le z1 hb2.size
          have HW2 := hid (bel_next HW1.out HW1.out.size hb2)
          have H12 := hid (H11.out.below (Nat.le_refl _) hb2)
          clear hb2 t10 t11 t12 t13
          first
            | (go_wp2_with fail
               refine (c_areOver _ _ _ _ _ H12.out).mono ?_
               rintro e w3 ⟨rfl, hb3⟩
               rw [HU.out]
               have t30 := cell_below hb3 z2 t20
               have t31 := cell_below hb3 z2 t21
               have t32 := cell_below hb3 z2 t22
               have t33 := cell_below hb3 z2 t23
               have HW3 := hid (bel_next HW2.out HW2.out.size hb3)
               clear hb3 t20 t21 t22 t23
               go_wp2
               first
                 | (go_ret; exact ⟨ret_bool (by rw [HF.out]; simp [hl8]), bel_next HB.out HB.out.size HW3.out⟩)
                 | skip)
            | (go_wp2
               go_ret
               exact ⟨ret_bool (by rw [HF.out]; simp [hl8]), bel_next HB.out HB.out.size HW2.out⟩)
    have HHD : Hid (validAn (d0, d1, d2, d3) = ptsOk d2.length d3 d3.length) := by unfold Hid; rw [HF.out]; simp [hl8]
    have hd80 := (validCode_iff HR.out).2.1
    have hN6 : d2.length ≤ 1000000 := by omega
    go_loopw [30] (fun i wr => ∃ k : Nat, k ≤ d3.length ∧ i = .int .i64 k ∧ Hid (ptsOk d2.length d3 k = true) ∧ Hid (Below W0.heap.size W0 wr)) (fun i _ => d3.length - (intOf i).toNat)
    case atStart => exact ⟨0, Nat.zero_le _, rfl, rfl, HW3⟩
    case round =>
      obtain ⟨k, hk, rfl, HK, HBR⟩ := hrel
      by_cases hlt : k < d3.length
      · obtain ⟨b, off, rfl⟩ := H3.out.some_of hlt
        have hszr := HBR.out.size
        obtain ⟨x, a', cap', ts, hz, hx1, hsl, hc, hc', hb⟩ := (H3.out.below (Nat.le_refl _) HBR.out).pt_at k hlt
        have HZ := hid hz
        have HS := hid (hsl.alloc (.cells #[.int .i64 x, .slice a' ts.length cap'] 90))
        have HBX := hid (HBR.out.alloc hszr (.cells #[.int .i64 x, .slice a' ts.length cap'] 90))
        have u0 : (wr.alloc (.cells #[.int .i64 x, .slice a' ts.length cap'] 90)).cell? ⟨wr.heap.size, 0, none⟩ = some (.int .i64 x) := by simp [go_sem]
        have u1 : (wr.alloc (.cells #[.int .i64 x, .slice a' ts.length cap'] 90)).cell? ⟨wr.heap.size, 1, none⟩ = some (.slice a' ts.length cap') := by simp [go_sem]
        have zu : wr.heap.size < (wr.alloc (.cells #[.int .i64 x, .slice a' ts.length cap'] 90)).heap.size := by simp
        have s2 := cell_below HBX.out z0 t2
        have s3 := cell_below HBX.out z0 t3
        have zs := Nat.lt_of_lt_of_le z0 HBX.out.size
        have zb : b < (wr.alloc (.cells #[.int .i64 x, .slice a' ts.length cap'] 90)).heap.size := by simp; omega
        clear hz hsl
        obtain ⟨A, hA⟩ : ∃ A, areOverF ts 6 = A := ⟨_, rfl⟩
        obtain ⟨I, hI⟩ : ∃ I, inB x 0 ((d2.length : Int) - 1) = I := ⟨_, rfl⟩
        have HA := hid hA
        have HI := hid hI
        have HSF : Hid ((A && I) = false → stepOk d2.length d3 k = false) := by
          have hz := HZ.out
          unfold Hid
          intro h
          unfold stepOk
          rw [hz]
          simp only []
          rw [hA, hI, h]; rfl
        clear hA hI
        cases A
        · have HST : Hid (stepOk d2.length d3 k = false) := HSF.out rfl
          go_wp2
          refine wp_region_held_drew (S := fun w' => w'.cell? ⟨wr.heap.size, 0, none⟩ = some (.int .i64 x) ∧ w'.cell? ⟨wr.heap.size, 1, none⟩ = some (.slice a' ts.length cap') ∧ w'.cell? ⟨w.heap.size, 2, none⟩ = some (.slice a2 d2.length p2) ∧ w'.cell? ⟨w.heap.size, 3, none⟩ = some (.slice (some ⟨b, off, none⟩) d3.length p3)) (by kernel_rfl) ⟨u0, u1, s2, s3⟩ (fun hHeld => ?_)
          refine rgH (i := 0) (oi := ?qo1) ?qh1 ?qr1
          case qh1 => (simp only [List.getElem?_toArray, List.getElem?_cons_succ, List.getElem?_cons_zero]; rfl)
          (refine ⟨by kernel_rfl, by kernel_rfl, by kernel_rfl, by assumption, ?qv1, fun _ _ _ h => h, Or.inl ⟨by kernel_rfl, ?qy1⟩, ?qn1⟩; case qy1 => (intro w hSw; (try dsimp only at hSw); go_simp; try with_reducible rfl))
          (try simp only [Act.put, List.setIfInBounds_toArray, List.set_cons_zero, List.set_cons_succ])
          refine rgH (i := 1) (oi := ?qo2) ?qh2 ?qr2
          case qh2 => (simp only [List.getElem?_toArray, List.getElem?_cons_succ, List.getElem?_cons_zero]; rfl)
          (refine ⟨by kernel_rfl, by kernel_rfl, by kernel_rfl, by assumption, ?qv2, fun _ _ _ h => h, Or.inl ⟨by kernel_rfl, ?qy2⟩, ?qn2⟩; case qy2 => (intro w hSw; (try dsimp only at hSw); go_simp; try with_reducible rfl))
          (try simp only [Act.put, List.setIfInBounds_toArray, List.set_cons_zero, List.set_cons_succ])
          refine wpAnyH_ready (rs := [2]) (by kernel_rfl) (by simp) ?_
          refine rgHcall (i := 2) (o := ?qo3) ?qh3 ?qk3
          case qh3 => (simp only [List.getElem?_toArray, List.getElem?_cons_succ, List.getElem?_cons_zero]; rfl)
          intro K hK
          go_simp
          (go_at_call 116; refine (c_areOver _ _ _ _ _ HS.out.drew).mono ?_; rintro e w1 ⟨rfl, hb1⟩; rw [HA.out]; have kk1 := And.intro (cell_below hb1 zu u0) (And.intro (cell_below hb1 zu u1) (And.intro (cell_below hb1 zs s2) (cell_below hb1 zs s3))); have HB1 := hid (bel_next HBX.out.drew HBX.out.drew.size hb1))
          refine hK.out _ _ kk1 (fun hHeld => ?_)
          clear hK K
          refine rgH (i := 3) (oi := ?qo4) ?qh4 ?qr4
          case qh4 => (simp only [List.getElem?_toArray, List.getElem?_cons_succ, List.getElem?_cons_zero]; rfl)
          (refine ⟨by kernel_rfl, by kernel_rfl, by kernel_rfl, by assumption, ?qv4, fun _ _ _ h => h, Or.inl ⟨by kernel_rfl, ?qy4⟩, ?qn4⟩; case qy4 => (intro w hSw; (try dsimp only at hSw); go_simp; try with_reducible rfl))
          (try simp only [Act.put, List.setIfInBounds_toArray, List.set_cons_zero, List.set_cons_succ])
          refine rgH (i := 4) (oi := ?qo5) ?qh5 ?qr5
          case qh5 => (simp only [List.getElem?_toArray, List.getElem?_cons_succ, List.getElem?_cons_zero]; rfl)
          (refine ⟨by kernel_rfl, by kernel_rfl, by kernel_rfl, by assumption, ?qv5, fun _ _ _ h => h, Or.inl ⟨by kernel_rfl, ?qy5⟩, ?qn5⟩; case qy5 => (intro w hSw; (try dsimp only at hSw); go_simp; try with_reducible rfl))
          (try simp only [Act.put, List.setIfInBounds_toArray, List.set_cons_zero, List.set_cons_succ])
          refine rgH (i := 5) (oi := ?qo6) ?qh6 ?qr6
          case qh6 => (simp only [List.getElem?_toArray, List.getElem?_cons_succ, List.getElem?_cons_zero]; rfl)
          (refine ⟨by kernel_rfl, by kernel_rfl, by kernel_rfl, by assumption, undef, fun _ _ _ h => h, Or.inr ⟨by kernel_rfl, rfl⟩, ?qm6⟩)
          refine rgH (i := 6) (oi := ?qo7) ?qh7 ?qr7
          case qh7 => (simp only [List.getElem?_toArray, List.getElem?_cons_succ, List.getElem?_cons_zero]; rfl)
          (refine ⟨by kernel_rfl, by kernel_rfl, by kernel_rfl, by assumption, undef, fun _ _ _ h => h, Or.inr ⟨by kernel_rfl, rfl⟩, ?qm7⟩)
          refine rgH (i := 7) (oi := ?qo8) ?qh8 ?qr8
          case qh8 => (simp only [List.getElem?_toArray, List.getElem?_cons_succ, List.getElem?_cons_zero]; rfl)
          (refine ⟨by kernel_rfl, by kernel_rfl, by kernel_rfl, by assumption, undef, fun _ _ _ h => h, Or.inr ⟨by kernel_rfl, rfl⟩, ?qm8⟩)
          (try simp only [Act.put, List.setIfInBounds_toArray, List.set_cons_zero, List.set_cons_succ])
          refine rgH (i := 8) (oi := ?qo9) ?qh9 ?qr9
          case qh9 => (simp only [List.getElem?_toArray, List.getElem?_cons_succ, List.getElem?_cons_zero]; rfl)
          (refine ⟨by kernel_rfl, by kernel_rfl, by kernel_rfl, by assumption, undef, fun _ _ _ h => h, Or.inr ⟨by kernel_rfl, rfl⟩, ?qm9⟩)
          refine rgH (i := 9) (oi := ?qo10) ?qh10 ?qr10
          case qh10 => (simp only [List.getElem?_toArray, List.getElem?_cons_succ, List.getElem?_cons_zero]; rfl)
          (refine ⟨by kernel_rfl, by kernel_rfl, by kernel_rfl, by assumption, undef, fun _ _ _ h => h, Or.inr ⟨by kernel_rfl, rfl⟩, ?qm10⟩)
          refine rgH (i := 10) (oi := ?qo11) ?qh11 ?qr11
          case qh11 => (simp only [List.getElem?_toArray, List.getElem?_cons_succ, List.getElem?_cons_zero]; rfl)
          (refine ⟨by kernel_rfl, by kernel_rfl, by kernel_rfl, by assumption, undef, fun _ _ _ h => h, Or.inr ⟨by kernel_rfl, rfl⟩, ?qm11⟩)
          refine rgH (i := 11) (oi := ?qo12) ?qh12 ?qr12
          case qh12 => (simp only [List.getElem?_toArray, List.getElem?_cons_succ, List.getElem?_cons_zero]; rfl)
          (refine ⟨by kernel_rfl, by kernel_rfl, by kernel_rfl, by assumption, undef, fun _ _ _ h => h, Or.inr ⟨by kernel_rfl, rfl⟩, ?qm12⟩)
          (try simp only [Act.put, List.setIfInBounds_toArray, List.set_cons_zero, List.set_cons_succ])
          refine rgH (i := 12) (oi := ?qo13) ?qh13 ?qr13
          case qh13 => (simp only [List.getElem?_toArray, List.getElem?_cons_succ, List.getElem?_cons_zero]; rfl)
          (refine ⟨by kernel_rfl, by kernel_rfl, by kernel_rfl, by assumption, ?qv13, fun _ _ _ h => h, Or.inl ⟨by kernel_rfl, ?qy13⟩, ?qn13⟩; case qy13 => (intro w hSw; (try dsimp only at hSw); go_simp; try with_reducible rfl))
          refine rgH (i := 13) (oi := ?qo14) ?qh14 ?qr14
          case qh14 => (simp only [List.getElem?_toArray, List.getElem?_cons_succ, List.getElem?_cons_zero]; rfl)
          (refine ⟨by kernel_rfl, by kernel_rfl, by kernel_rfl, by assumption, ?qv14, fun _ _ _ h => h, Or.inl ⟨by kernel_rfl, ?qy14⟩, ?qn14⟩; case qy14 => (intro w hSw; (try dsimp only at hSw); go_simp; try with_reducible rfl))
          (try simp only [Act.put, List.setIfInBounds_toArray, List.set_cons_zero, List.set_cons_succ])
          refine rgH (i := 14) (oi := ?qo15) ?qh15 ?qr15
          case qh15 => (simp only [List.getElem?_toArray, List.getElem?_cons_succ, List.getElem?_cons_zero]; rfl)
          (refine ⟨by kernel_rfl, by kernel_rfl, by kernel_rfl, by assumption, undef, fun _ _ _ h => h, Or.inr ⟨by kernel_rfl, rfl⟩, ?qm15⟩)
          refine rgH (i := 15) (oi := ?qo16) ?qh16 ?qr16
          case qh16 => (simp only [List.getElem?_toArray, List.getElem?_cons_succ, List.getElem?_cons_zero]; rfl)
          (refine ⟨by kernel_rfl, by kernel_rfl, by kernel_rfl, by assumption, undef, fun _ _ _ h => h, Or.inr ⟨by kernel_rfl, rfl⟩, ?qm16⟩)
          (try simp only [Act.put, List.setIfInBounds_toArray, List.set_cons_zero, List.set_cons_succ])
          refine rgH (i := 16) (oi := ?qo17) ?qh17 ?qr17
          case qh17 => (simp only [List.getElem?_toArray, List.getElem?_cons_succ, List.getElem?_cons_zero]; rfl)
          (refine ⟨by kernel_rfl, by kernel_rfl, by kernel_rfl, by assumption, undef, fun _ _ _ h => h, Or.inr ⟨by kernel_rfl, rfl⟩, ?qm17⟩)
          refine rgH (i := 17) (oi := ?qo18) ?qh18 ?qr18
          case qh18 => (simp only [List.getElem?_toArray, List.getElem?_cons_succ, List.getElem?_cons_zero]; rfl)
          (refine ⟨by kernel_rfl, by kernel_rfl, by kernel_rfl, by assumption, undef, fun _ _ _ h => h, Or.inr ⟨by kernel_rfl, rfl⟩, ?qm18⟩)
          refine rgH (i := 18) (oi := ?qo19) ?qh19 ?qr19
          case qh19 => (simp only [List.getElem?_toArray, List.getElem?_cons_succ, List.getElem?_cons_zero]; rfl)
          (refine ⟨by kernel_rfl, by kernel_rfl, by kernel_rfl, by assumption, undef, fun _ _ _ h => h, Or.inr ⟨by kernel_rfl, rfl⟩, ?qm19⟩)
          refine rgH (i := 19) (oi := ?qo20) ?qh20 ?qr20
          case qh20 => (simp only [List.getElem?_toArray, List.getElem?_cons_succ, List.getElem?_cons_zero]; rfl)
          (refine ⟨by kernel_rfl, by kernel_rfl, by kernel_rfl, by assumption, undef, fun _ _ _ h => h, Or.inr ⟨by kernel_rfl, rfl⟩, ?qm20⟩)
          (try simp only [Act.put, List.setIfInBounds_toArray, List.set_cons_zero, List.set_cons_succ])
          refine rgH (i := 20) (oi := ?qo21) ?qh21 ?qr21
          case qh21 => (simp only [List.getElem?_toArray, List.getElem?_cons_succ, List.getElem?_cons_zero]; rfl)
          (refine ⟨by kernel_rfl, by kernel_rfl, by kernel_rfl, by assumption, undef, fun _ _ _ h => h, Or.inr ⟨by kernel_rfl, rfl⟩, ?qm21⟩)
          refine rgH (i := 21) (oi := ?qo22) ?qh22 ?qr22
          case qh22 => (simp only [List.getElem?_toArray, List.getElem?_cons_succ, List.getElem?_cons_zero]; rfl)
          (refine ⟨by kernel_rfl, by kernel_rfl, by kernel_rfl, by assumption, undef, fun _ _ _ h => h, Or.inr ⟨by kernel_rfl, rfl⟩, ?qm22⟩)
          refine rgH (i := 22) (oi := ?qo23) ?qh23 ?qr23
          case qh23 => (simp only [List.getElem?_toArray, List.getElem?_cons_succ, List.getElem?_cons_zero]; rfl)
          (refine ⟨by kernel_rfl, by kernel_rfl, by kernel_rfl, by assumption, undef, fun _ _ _ h => h, Or.inr ⟨by kernel_rfl, rfl⟩, ?qm23⟩)
          refine rgH (i := 23) (oi := ?qo24) ?qh24 ?qr24
          case qh24 => (simp only [List.getElem?_toArray, List.getElem?_cons_succ, List.getElem?_cons_zero]; rfl)
          (refine ⟨by kernel_rfl, by kernel_rfl, by kernel_rfl, by assumption, undef, fun _ _ _ h => h, Or.inr ⟨by kernel_rfl, rfl⟩, ?qm24⟩)
          (try simp only [Act.put, List.setIfInBounds_toArray, List.set_cons_zero, List.set_cons_succ])
          refine rgH (i := 24) (oi := ?qo25) ?qh25 ?qr25
          case qh25 => (simp only [List.getElem?_toArray, List.getElem?_cons_succ, List.getElem?_cons_zero]; rfl)
          (refine ⟨by kernel_rfl, by kernel_rfl, by kernel_rfl, by assumption, undef, fun _ _ _ h => h, Or.inr ⟨by kernel_rfl, rfl⟩, ?qm25⟩)
          refine rgH (i := 25) (oi := ?qo26) ?qh26 ?qr26
          case qh26 => (simp only [List.getElem?_toArray, List.getElem?_cons_succ, List.getElem?_cons_zero]; rfl)
          (refine ⟨by kernel_rfl, by kernel_rfl, by kernel_rfl, by assumption, undef, fun _ _ _ h => h, Or.inr ⟨by kernel_rfl, rfl⟩, ?qm26⟩)
          refine rgH (i := 26) (oi := ?qo27) ?qh27 ?qr27
          case qh27 => (simp only [List.getElem?_toArray, List.getElem?_cons_succ, List.getElem?_cons_zero]; rfl)
          (refine ⟨by kernel_rfl, by kernel_rfl, by kernel_rfl, by assumption, undef, fun _ _ _ h => h, Or.inr ⟨by kernel_rfl, rfl⟩, ?qm27⟩)
          refine rgH (i := 27) (oi := ?qo28) ?qh28 ?qr28
          case qh28 => (simp only [List.getElem?_toArray, List.getElem?_cons_succ, List.getElem?_cons_zero]; rfl)
          (refine ⟨by kernel_rfl, by kernel_rfl, by kernel_rfl, by assumption, undef, fun _ _ _ h => h, Or.inr ⟨by kernel_rfl, rfl⟩, ?qm28⟩)
          (try simp only [Act.put, List.setIfInBounds_toArray, List.set_cons_zero, List.set_cons_succ])
          refine rgH (i := 28) (oi := ?qo29) ?qh29 ?qr29
          case qh29 => (simp only [List.getElem?_toArray, List.getElem?_cons_succ, List.getElem?_cons_zero]; rfl)
          (refine ⟨by kernel_rfl, by kernel_rfl, by kernel_rfl, by assumption, ?qv29, fun _ _ _ h => h, Or.inl ⟨by kernel_rfl, ?qy29⟩, ?qn29⟩; case qy29 => (intro w hSw; (try dsimp only at hSw); go_simp; try with_reducible rfl))
          (try simp only [Act.put, List.setIfInBounds_toArray, List.set_cons_zero, List.set_cons_succ])
          refine wpAnyH_done (by kernel_rfl) ?_ _
          go_wp2
          go_ret
          exact ⟨ret_bool (by rw [HHD.out, ptsOk_false HST.out hlt]), bel_next HB.out HB.out.size HB1.out⟩
        · cases I
          · have HST : Hid (stepOk d2.length d3 k = false) := HSF.out rfl
            go_wp2
            refine wp_region_held_drew (S := fun w' => w'.cell? ⟨wr.heap.size, 0, none⟩ = some (.int .i64 x) ∧ w'.cell? ⟨wr.heap.size, 1, none⟩ = some (.slice a' ts.length cap') ∧ w'.cell? ⟨w.heap.size, 2, none⟩ = some (.slice a2 d2.length p2) ∧ w'.cell? ⟨w.heap.size, 3, none⟩ = some (.slice (some ⟨b, off, none⟩) d3.length p3)) (by kernel_rfl) ⟨u0, u1, s2, s3⟩ (fun hHeld => ?_)
            refine rgH (i := 0) (oi := ?qo30) ?qh30 ?qr30
            case qh30 => (simp only [List.getElem?_toArray, List.getElem?_cons_succ, List.getElem?_cons_zero]; rfl)
            (refine ⟨by kernel_rfl, by kernel_rfl, by kernel_rfl, by assumption, ?qv30, fun _ _ _ h => h, Or.inl ⟨by kernel_rfl, ?qy30⟩, ?qn30⟩; case qy30 => (intro w hSw; (try dsimp only at hSw); go_simp; try with_reducible rfl))
            (try simp only [Act.put, List.setIfInBounds_toArray, List.set_cons_zero, List.set_cons_succ])
            refine rgH (i := 1) (oi := ?qo31) ?qh31 ?qr31
            case qh31 => (simp only [List.getElem?_toArray, List.getElem?_cons_succ, List.getElem?_cons_zero]; rfl)
            (refine ⟨by kernel_rfl, by kernel_rfl, by kernel_rfl, by assumption, ?qv31, fun _ _ _ h => h, Or.inl ⟨by kernel_rfl, ?qy31⟩, ?qn31⟩; case qy31 => (intro w hSw; (try dsimp only at hSw); go_simp; try with_reducible rfl))
            (try simp only [Act.put, List.setIfInBounds_toArray, List.set_cons_zero, List.set_cons_succ])
            refine wpAnyH_ready (rs := [2]) (by kernel_rfl) (by simp) ?_
            refine rgHcall (i := 2) (o := ?qo32) ?qh32 ?qk32
            case qh32 => (simp only [List.getElem?_toArray, List.getElem?_cons_succ, List.getElem?_cons_zero]; rfl)
            intro K hK
            go_simp
            (go_at_call 116; refine (c_areOver _ _ _ _ _ HS.out.drew).mono ?_; rintro e w1 ⟨rfl, hb1⟩; rw [HA.out]; have kk1 := And.intro (cell_below hb1 zu u0) (And.intro (cell_below hb1 zu u1) (And.intro (cell_below hb1 zs s2) (cell_below hb1 zs s3))); have HB1 := hid (bel_next HBX.out.drew HBX.out.drew.size hb1))
            refine hK.out _ _ kk1 (fun hHeld => ?_)
            clear hK K
            refine rgH (i := 3) (oi := ?qo33) ?qh33 ?qr33
            case qh33 => (simp only [List.getElem?_toArray, List.getElem?_cons_succ, List.getElem?_cons_zero]; rfl)
            (refine ⟨by kernel_rfl, by kernel_rfl, by kernel_rfl, by assumption, ?qv33, fun _ _ _ h => h, Or.inl ⟨by kernel_rfl, ?qy33⟩, ?qn33⟩; case qy33 => (intro w hSw; (try dsimp only at hSw); go_simp; try with_reducible rfl))
            refine rgH (i := 4) (oi := ?qo34) ?qh34 ?qr34
            case qh34 => (simp only [List.getElem?_toArray, List.getElem?_cons_succ, List.getElem?_cons_zero]; rfl)
            (refine ⟨by kernel_rfl, by kernel_rfl, by kernel_rfl, by assumption, ?qv34, fun _ _ _ h => h, Or.inl ⟨by kernel_rfl, ?qy34⟩, ?qn34⟩; case qy34 => (intro w hSw; (try dsimp only at hSw); go_simp; try with_reducible rfl))
            refine rgH (i := 5) (oi := ?qo35) ?qh35 ?qr35
            case qh35 => (simp only [List.getElem?_toArray, List.getElem?_cons_succ, List.getElem?_cons_zero]; rfl)
            (refine ⟨by kernel_rfl, by kernel_rfl, by kernel_rfl, by assumption, ?qv35, fun _ _ _ h => h, Or.inl ⟨by kernel_rfl, ?qy35⟩, ?qn35⟩; case qy35 => (intro w hSw; (try dsimp only at hSw); go_simp; try with_reducible rfl))
            refine rgH (i := 6) (oi := ?qo36) ?qh36 ?qr36
            case qh36 => (simp only [List.getElem?_toArray, List.getElem?_cons_succ, List.getElem?_cons_zero]; rfl)
            (refine ⟨by kernel_rfl, by kernel_rfl, by kernel_rfl, by assumption, ?qv36, fun _ _ _ h => h, Or.inl ⟨by kernel_rfl, ?qy36⟩, ?qn36⟩; case qy36 => (intro w hSw; (try dsimp only at hSw); go_simp; try with_reducible rfl))
            (try simp only [Act.put, List.setIfInBounds_toArray, List.set_cons_zero, List.set_cons_succ])
            refine rgH (i := 7) (oi := ?qo37) ?qh37 ?qr37
            case qh37 => (simp only [List.getElem?_toArray, List.getElem?_cons_succ, List.getElem?_cons_zero]; rfl)
            (refine ⟨by kernel_rfl, by kernel_rfl, by kernel_rfl, by assumption, ?qv37, fun _ _ _ h => h, Or.inl ⟨by kernel_rfl, ?qy37⟩, ?qn37⟩; case qy37 => (intro w hSw; (try dsimp only at hSw); go_simp; try with_reducible rfl))
            refine rgH (i := 8) (oi := ?qo38) ?qh38 ?qr38
            case qh38 => (simp only [List.getElem?_toArray, List.getElem?_cons_succ, List.getElem?_cons_zero]; rfl)
            (refine ⟨by kernel_rfl, by kernel_rfl, by kernel_rfl, by assumption, ?qv38, fun _ _ _ h => h, Or.inl ⟨by kernel_rfl, ?qy38⟩, ?qn38⟩; case qy38 => (intro w hSw; (try dsimp only at hSw); go_simp; try with_reducible rfl))
            refine rgH (i := 9) (oi := ?qo39) ?qh39 ?qr39
            case qh39 => (simp only [List.getElem?_toArray, List.getElem?_cons_succ, List.getElem?_cons_zero]; rfl)
            (refine ⟨by kernel_rfl, by kernel_rfl, by kernel_rfl, by assumption, ?qv39, fun _ _ _ h => h, Or.inl ⟨by kernel_rfl, ?qy39⟩, ?qn39⟩; case qy39 => (intro w hSw; (try dsimp only at hSw); go_simp; try with_reducible rfl))
            (try simp only [Act.put, List.setIfInBounds_toArray, List.set_cons_zero, List.set_cons_succ])
            refine wpAnyH_ready (rs := [10]) (by kernel_rfl) (by simp) ?_
            refine rgHcall (i := 10) (o := ?qo40) ?qh40 ?qk40
            case qh40 => (simp only [List.getElem?_toArray, List.getElem?_cons_succ, List.getElem?_cons_zero]; rfl)
            intro K hK
            go_simp
            (go_at_call 117; refine (c_isIndex _ _ _ hN6).mono ?_; rintro e w2 ⟨rfl, rfl⟩; rw [HI.out])
            refine hK.out _ _ kk1 (fun hHeld => ?_)
            clear hK K
            refine rgH (i := 11) (oi := ?qo41) ?qh41 ?qr41
            case qh41 => (simp only [List.getElem?_toArray, List.getElem?_cons_succ, List.getElem?_cons_zero]; rfl)
            (refine ⟨by kernel_rfl, by kernel_rfl, by kernel_rfl, by assumption, ?qv41, fun _ _ _ h => h, Or.inl ⟨by kernel_rfl, ?qy41⟩, ?qn41⟩; case qy41 => (intro w hSw; (try dsimp only at hSw); go_simp; try with_reducible rfl))
            refine rgH (i := 12) (oi := ?qo42) ?qh42 ?qr42
            case qh42 => (simp only [List.getElem?_toArray, List.getElem?_cons_succ, List.getElem?_cons_zero]; rfl)
            (refine ⟨by kernel_rfl, by kernel_rfl, by kernel_rfl, by assumption, ?qv42, fun _ _ _ h => h, Or.inl ⟨by kernel_rfl, ?qy42⟩, ?qn42⟩; case qy42 => (intro w hSw; (try dsimp only at hSw); go_simp; try with_reducible rfl))
            refine rgH (i := 13) (oi := ?qo43) ?qh43 ?qr43
            case qh43 => (simp only [List.getElem?_toArray, List.getElem?_cons_succ, List.getElem?_cons_zero]; rfl)
            (refine ⟨by kernel_rfl, by kernel_rfl, by kernel_rfl, by assumption, ?qv43, fun _ _ _ h => h, Or.inl ⟨by kernel_rfl, ?qy43⟩, ?qn43⟩; case qy43 => (intro w hSw; (try dsimp only at hSw); go_simp; try with_reducible rfl))
            (try simp only [Act.put, List.setIfInBounds_toArray, List.set_cons_zero, List.set_cons_succ])
            refine rgH (i := 14) (oi := ?qo44) ?qh44 ?qr44
            case qh44 => (simp only [List.getElem?_toArray, List.getElem?_cons_succ, List.getElem?_cons_zero]; rfl)
            (refine ⟨by kernel_rfl, by kernel_rfl, by kernel_rfl, by assumption, undef, fun _ _ _ h => h, Or.inr ⟨by kernel_rfl, rfl⟩, ?qm44⟩)
            (try simp only [Act.put, List.setIfInBounds_toArray, List.set_cons_zero, List.set_cons_succ])
            refine rgH (i := 15) (oi := ?qo45) ?qh45 ?qr45
            case qh45 => (simp only [List.getElem?_toArray, List.getElem?_cons_succ, List.getElem?_cons_zero]; rfl)
            (refine ⟨by kernel_rfl, by kernel_rfl, by kernel_rfl, by assumption, undef, fun _ _ _ h => h, Or.inr ⟨by kernel_rfl, rfl⟩, ?qm45⟩)
            refine rgH (i := 16) (oi := ?qo46) ?qh46 ?qr46
            case qh46 => (simp only [List.getElem?_toArray, List.getElem?_cons_succ, List.getElem?_cons_zero]; rfl)
            (refine ⟨by kernel_rfl, by kernel_rfl, by kernel_rfl, by assumption, undef, fun _ _ _ h => h, Or.inr ⟨by kernel_rfl, rfl⟩, ?qm46⟩)
            refine rgH (i := 17) (oi := ?qo47) ?qh47 ?qr47
            case qh47 => (simp only [List.getElem?_toArray, List.getElem?_cons_succ, List.getElem?_cons_zero]; rfl)
            (refine ⟨by kernel_rfl, by kernel_rfl, by kernel_rfl, by assumption, undef, fun _ _ _ h => h, Or.inr ⟨by kernel_rfl, rfl⟩, ?qm47⟩)
            refine rgH (i := 18) (oi := ?qo48) ?qh48 ?qr48
            case qh48 => (simp only [List.getElem?_toArray, List.getElem?_cons_succ, List.getElem?_cons_zero]; rfl)
            (refine ⟨by kernel_rfl, by kernel_rfl, by kernel_rfl, by assumption, undef, fun _ _ _ h => h, Or.inr ⟨by kernel_rfl, rfl⟩, ?qm48⟩)
            (try simp only [Act.put, List.setIfInBounds_toArray, List.set_cons_zero, List.set_cons_succ])
            refine rgH (i := 19) (oi := ?qo49) ?qh49 ?qr49
            case qh49 => (simp only [List.getElem?_toArray, List.getElem?_cons_succ, List.getElem?_cons_zero]; rfl)
            (refine ⟨by kernel_rfl, by kernel_rfl, by kernel_rfl, by assumption, undef, fun _ _ _ h => h, Or.inr ⟨by kernel_rfl, rfl⟩, ?qm49⟩)
            refine rgH (i := 20) (oi := ?qo50) ?qh50 ?qr50
            case qh50 => (simp only [List.getElem?_toArray, List.getElem?_cons_succ, List.getElem?_cons_zero]; rfl)
            (refine ⟨by kernel_rfl, by kernel_rfl, by kernel_rfl, by assumption, undef, fun _ _ _ h => h, Or.inr ⟨by kernel_rfl, rfl⟩, ?qm50⟩)
            refine rgH (i := 21) (oi := ?qo51) ?qh51 ?qr51
            case qh51 => (simp only [List.getElem?_toArray, List.getElem?_cons_succ, List.getElem?_cons_zero]; rfl)
            (refine ⟨by kernel_rfl, by kernel_rfl, by kernel_rfl, by assumption, undef, fun _ _ _ h => h, Or.inr ⟨by kernel_rfl, rfl⟩, ?qm51⟩)
            refine rgH (i := 22) (oi := ?qo52) ?qh52 ?qr52
            case qh52 => (simp only [List.getElem?_toArray, List.getElem?_cons_succ, List.getElem?_cons_zero]; rfl)
            (refine ⟨by kernel_rfl, by kernel_rfl, by kernel_rfl, by assumption, undef, fun _ _ _ h => h, Or.inr ⟨by kernel_rfl, rfl⟩, ?qm52⟩)
            (try simp only [Act.put, List.setIfInBounds_toArray, List.set_cons_zero, List.set_cons_succ])
            refine rgH (i := 23) (oi := ?qo53) ?qh53 ?qr53
            case qh53 => (simp only [List.getElem?_toArray, List.getElem?_cons_succ, List.getElem?_cons_zero]; rfl)
            (refine ⟨by kernel_rfl, by kernel_rfl, by kernel_rfl, by assumption, undef, fun _ _ _ h => h, Or.inr ⟨by kernel_rfl, rfl⟩, ?qm53⟩)
            refine rgH (i := 24) (oi := ?qo54) ?qh54 ?qr54
            case qh54 => (simp only [List.getElem?_toArray, List.getElem?_cons_succ, List.getElem?_cons_zero]; rfl)
            (refine ⟨by kernel_rfl, by kernel_rfl, by kernel_rfl, by assumption, undef, fun _ _ _ h => h, Or.inr ⟨by kernel_rfl, rfl⟩, ?qm54⟩)
            refine rgH (i := 25) (oi := ?qo55) ?qh55 ?qr55
            case qh55 => (simp only [List.getElem?_toArray, List.getElem?_cons_succ, List.getElem?_cons_zero]; rfl)
            (refine ⟨by kernel_rfl, by kernel_rfl, by kernel_rfl, by assumption, undef, fun _ _ _ h => h, Or.inr ⟨by kernel_rfl, rfl⟩, ?qm55⟩)
            refine rgH (i := 26) (oi := ?qo56) ?qh56 ?qr56
            case qh56 => (simp only [List.getElem?_toArray, List.getElem?_cons_succ, List.getElem?_cons_zero]; rfl)
            (refine ⟨by kernel_rfl, by kernel_rfl, by kernel_rfl, by assumption, undef, fun _ _ _ h => h, Or.inr ⟨by kernel_rfl, rfl⟩, ?qm56⟩)
            (try simp only [Act.put, List.setIfInBounds_toArray, List.set_cons_zero, List.set_cons_succ])
            refine rgH (i := 27) (oi := ?qo57) ?qh57 ?qr57
            case qh57 => (simp only [List.getElem?_toArray, List.getElem?_cons_succ, List.getElem?_cons_zero]; rfl)
            (refine ⟨by kernel_rfl, by kernel_rfl, by kernel_rfl, by assumption, undef, fun _ _ _ h => h, Or.inr ⟨by kernel_rfl, rfl⟩, ?qm57⟩)
            (try simp only [Act.put, List.setIfInBounds_toArray, List.set_cons_zero, List.set_cons_succ])
            refine rgH (i := 28) (oi := ?qo58) ?qh58 ?qr58
            case qh58 => (simp only [List.getElem?_toArray, List.getElem?_cons_succ, List.getElem?_cons_zero]; rfl)
            (refine ⟨by kernel_rfl, by kernel_rfl, by kernel_rfl, by assumption, ?qv58, fun _ _ _ h => h, Or.inl ⟨by kernel_rfl, ?qy58⟩, ?qn58⟩; case qy58 => (intro w hSw; (try dsimp only at hSw); go_simp; try with_reducible rfl))
            (try simp only [Act.put, List.setIfInBounds_toArray, List.set_cons_zero, List.set_cons_succ])
            refine wpAnyH_done (by kernel_rfl) ?_ _
            go_wp2
            go_ret
            exact ⟨ret_bool (by rw [HHD.out, ptsOk_false HST.out hlt]), bel_next HB.out HB.out.size HB1.out⟩
          · clear HSF
            by_cases hk0 : k = 0
            · have e0 : decide ((0 : Int) < (k : Int)) = false := by simp; omega
              have e0n : decide (0 < k) = false := by simp; omega
              have HST : Hid (stepOk d2.length d3 k = true) := by
                have hz := HZ.out
                unfold Hid; subst hk0; rw [stepOk_zero hz, HA.out, HI.out]; rfl
              clear hk0
              go_wp2
              refine wp_region_held_drew (S := fun w' => w'.cell? ⟨wr.heap.size, 0, none⟩ = some (.int .i64 x) ∧ w'.cell? ⟨wr.heap.size, 1, none⟩ = some (.slice a' ts.length cap') ∧ w'.cell? ⟨w.heap.size, 2, none⟩ = some (.slice a2 d2.length p2) ∧ w'.cell? ⟨w.heap.size, 3, none⟩ = some (.slice (some ⟨b, off, none⟩) d3.length p3)) (by kernel_rfl) ⟨u0, u1, s2, s3⟩ (fun hHeld => ?_)
              refine rgH (i := 0) (oi := ?qo59) ?qh59 ?qr59
              case qh59 => (simp only [List.getElem?_toArray, List.getElem?_cons_succ, List.getElem?_cons_zero]; rfl)
              (refine ⟨by kernel_rfl, by kernel_rfl, by kernel_rfl, by assumption, ?qv59, fun _ _ _ h => h, Or.inl ⟨by kernel_rfl, ?qy59⟩, ?qn59⟩; case qy59 => (intro w hSw; (try dsimp only at hSw); go_simp; try with_reducible rfl))
              (try simp only [Act.put, List.setIfInBounds_toArray, List.set_cons_zero, List.set_cons_succ])
              refine rgH (i := 1) (oi := ?qo60) ?qh60 ?qr60
              case qh60 => (simp only [List.getElem?_toArray, List.getElem?_cons_succ, List.getElem?_cons_zero]; rfl)
              (refine ⟨by kernel_rfl, by kernel_rfl, by kernel_rfl, by assumption, ?qv60, fun _ _ _ h => h, Or.inl ⟨by kernel_rfl, ?qy60⟩, ?qn60⟩; case qy60 => (intro w hSw; (try dsimp only at hSw); go_simp; try with_reducible rfl))
              (try simp only [Act.put, List.setIfInBounds_toArray, List.set_cons_zero, List.set_cons_succ])
              refine wpAnyH_ready (rs := [2]) (by kernel_rfl) (by simp) ?_
              refine rgHcall (i := 2) (o := ?qo61) ?qh61 ?qk61
              case qh61 => (simp only [List.getElem?_toArray, List.getElem?_cons_succ, List.getElem?_cons_zero]; rfl)
              intro K hK
              go_simp
              (go_at_call 116; refine (c_areOver _ _ _ _ _ HS.out.drew).mono ?_; rintro e w1 ⟨rfl, hb1⟩; rw [HA.out]; have kk1 := And.intro (cell_below hb1 zu u0) (And.intro (cell_below hb1 zu u1) (And.intro (cell_below hb1 zs s2) (cell_below hb1 zs s3))); have HB1 := hid (bel_next HBX.out.drew HBX.out.drew.size hb1))
              refine hK.out _ _ kk1 (fun hHeld => ?_)
              clear hK K
              refine rgH (i := 3) (oi := ?qo62) ?qh62 ?qr62
              case qh62 => (simp only [List.getElem?_toArray, List.getElem?_cons_succ, List.getElem?_cons_zero]; rfl)
              (refine ⟨by kernel_rfl, by kernel_rfl, by kernel_rfl, by assumption, ?qv62, fun _ _ _ h => h, Or.inl ⟨by kernel_rfl, ?qy62⟩, ?qn62⟩; case qy62 => (intro w hSw; (try dsimp only at hSw); go_simp; try with_reducible rfl))
              refine rgH (i := 4) (oi := ?qo63) ?qh63 ?qr63
              case qh63 => (simp only [List.getElem?_toArray, List.getElem?_cons_succ, List.getElem?_cons_zero]; rfl)
              (refine ⟨by kernel_rfl, by kernel_rfl, by kernel_rfl, by assumption, ?qv63, fun _ _ _ h => h, Or.inl ⟨by kernel_rfl, ?qy63⟩, ?qn63⟩; case qy63 => (intro w hSw; (try dsimp only at hSw); go_simp; try with_reducible rfl))
              refine rgH (i := 5) (oi := ?qo64) ?qh64 ?qr64
              case qh64 => (simp only [List.getElem?_toArray, List.getElem?_cons_succ, List.getElem?_cons_zero]; rfl)
              (refine ⟨by kernel_rfl, by kernel_rfl, by kernel_rfl, by assumption, ?qv64, fun _ _ _ h => h, Or.inl ⟨by kernel_rfl, ?qy64⟩, ?qn64⟩; case qy64 => (intro w hSw; (try dsimp only at hSw); go_simp; try with_reducible rfl))
              (try simp only [Act.put, List.setIfInBounds_toArray, List.set_cons_zero, List.set_cons_succ])
              refine rgH (i := 6) (oi := ?qo65) ?qh65 ?qr65
              case qh65 => (simp only [List.getElem?_toArray, List.getElem?_cons_succ, List.getElem?_cons_zero]; rfl)
              (refine ⟨by kernel_rfl, by kernel_rfl, by kernel_rfl, by assumption, ?qv65, fun _ _ _ h => h, Or.inl ⟨by kernel_rfl, ?qy65⟩, ?qn65⟩; case qy65 => (intro w hSw; (try dsimp only at hSw); go_simp; try with_reducible rfl))
              refine rgH (i := 7) (oi := ?qo66) ?qh66 ?qr66
              case qh66 => (simp only [List.getElem?_toArray, List.getElem?_cons_succ, List.getElem?_cons_zero]; rfl)
              (refine ⟨by kernel_rfl, by kernel_rfl, by kernel_rfl, by assumption, ?qv66, fun _ _ _ h => h, Or.inl ⟨by kernel_rfl, ?qy66⟩, ?qn66⟩; case qy66 => (intro w hSw; (try dsimp only at hSw); go_simp; try with_reducible rfl))
              refine rgH (i := 8) (oi := ?qo67) ?qh67 ?qr67
              case qh67 => (simp only [List.getElem?_toArray, List.getElem?_cons_succ, List.getElem?_cons_zero]; rfl)
              (refine ⟨by kernel_rfl, by kernel_rfl, by kernel_rfl, by assumption, ?qv67, fun _ _ _ h => h, Or.inl ⟨by kernel_rfl, ?qy67⟩, ?qn67⟩; case qy67 => (intro w hSw; (try dsimp only at hSw); go_simp; try with_reducible rfl))
              refine rgH (i := 9) (oi := ?qo68) ?qh68 ?qr68
              case qh68 => (simp only [List.getElem?_toArray, List.getElem?_cons_succ, List.getElem?_cons_zero]; rfl)
              (refine ⟨by kernel_rfl, by kernel_rfl, by kernel_rfl, by assumption, ?qv68, fun _ _ _ h => h, Or.inl ⟨by kernel_rfl, ?qy68⟩, ?qn68⟩; case qy68 => (intro w hSw; (try dsimp only at hSw); go_simp; try with_reducible rfl))
              (try simp only [Act.put, List.setIfInBounds_toArray, List.set_cons_zero, List.set_cons_succ])
              refine wpAnyH_ready (rs := [10]) (by kernel_rfl) (by simp) ?_
              refine rgHcall (i := 10) (o := ?qo69) ?qh69 ?qk69
              case qh69 => (simp only [List.getElem?_toArray, List.getElem?_cons_succ, List.getElem?_cons_zero]; rfl)
              intro K hK
              go_simp
              (go_at_call 117; refine (c_isIndex _ _ _ hN6).mono ?_; rintro e w2 ⟨rfl, rfl⟩; rw [HI.out])
              refine hK.out _ _ kk1 (fun hHeld => ?_)
              clear hK K
              refine rgH (i := 11) (oi := ?qo70) ?qh70 ?qr70
              case qh70 => (simp only [List.getElem?_toArray, List.getElem?_cons_succ, List.getElem?_cons_zero]; rfl)
              (refine ⟨by kernel_rfl, by kernel_rfl, by kernel_rfl, by assumption, ?qv70, fun _ _ _ h => h, Or.inl ⟨by kernel_rfl, ?qy70⟩, ?qn70⟩; case qy70 => (intro w hSw; (try dsimp only at hSw); go_simp; try with_reducible rfl))
              refine rgH (i := 12) (oi := ?qo71) ?qh71 ?qr71
              case qh71 => (simp only [List.getElem?_toArray, List.getElem?_cons_succ, List.getElem?_cons_zero]; rfl)
              (refine ⟨by kernel_rfl, by kernel_rfl, by kernel_rfl, by assumption, ?qv71, fun _ _ _ h => h, Or.inl ⟨by kernel_rfl, ?qy71⟩, ?qn71⟩; case qy71 => (intro w hSw; (try dsimp only at hSw); go_simp; try with_reducible rfl))
              refine rgH (i := 13) (oi := ?qo72) ?qh72 ?qr72
              case qh72 => (simp only [List.getElem?_toArray, List.getElem?_cons_succ, List.getElem?_cons_zero]; rfl)
              (refine ⟨by kernel_rfl, by kernel_rfl, by kernel_rfl, by assumption, ?qv72, fun _ _ _ h => h, Or.inl ⟨by kernel_rfl, ?qy72⟩, ?qn72⟩; case qy72 => (intro w hSw; (try dsimp only at hSw); go_simp; try with_reducible rfl))
              (try simp only [Act.put, List.setIfInBounds_toArray, List.set_cons_zero, List.set_cons_succ])
              refine rgH (i := 14) (oi := ?qo73) ?qh73 ?qr73
              case qh73 => (simp only [List.getElem?_toArray, List.getElem?_cons_succ, List.getElem?_cons_zero]; rfl)
              (refine ⟨by kernel_rfl, by kernel_rfl, by kernel_rfl, by assumption, ?qv73, fun _ _ _ h => h, Or.inl ⟨by kernel_rfl, ?qy73⟩, ?qn73⟩; case qy73 => (intro w hSw; (try dsimp only at hSw); go_simp; try with_reducible rfl))
              refine rgH (i := 15) (oi := ?qo74) ?qh74 ?qr74
              case qh74 => (simp only [List.getElem?_toArray, List.getElem?_cons_succ, List.getElem?_cons_zero]; rfl)
              (refine ⟨by kernel_rfl, by kernel_rfl, by kernel_rfl, by assumption, ?qv74, fun _ _ _ h => h, Or.inl ⟨by kernel_rfl, ?qy74⟩, ?qn74⟩; case qy74 => (intro w hSw; (try dsimp only at hSw); go_simp; try with_reducible rfl))
              refine rgH (i := 16) (oi := ?qo75) ?qh75 ?qr75
              case qh75 => (simp only [List.getElem?_toArray, List.getElem?_cons_succ, List.getElem?_cons_zero]; rfl)
              (refine ⟨by kernel_rfl, by kernel_rfl, by kernel_rfl, by assumption, ?qv75, fun _ _ _ h => h, Or.inl ⟨by kernel_rfl, ?qy75⟩, ?qn75⟩; case qy75 => (intro w hSw; (try dsimp only at hSw); go_simp; try with_reducible rfl))
              (try simp only [Act.put, List.setIfInBounds_toArray, List.set_cons_zero, List.set_cons_succ])
              refine rgH (i := 17) (oi := ?qo76) ?qh76 ?qr76
              case qh76 => (simp only [List.getElem?_toArray, List.getElem?_cons_succ, List.getElem?_cons_zero]; rfl)
              (refine ⟨by kernel_rfl, by kernel_rfl, by kernel_rfl, by assumption, undef, fun _ _ _ h => h, Or.inr ⟨by kernel_rfl, rfl⟩, ?qm76⟩)
              (try simp only [Act.put, List.setIfInBounds_toArray, List.set_cons_zero, List.set_cons_succ])
              refine rgH (i := 18) (oi := ?qo77) ?qh77 ?qr77
              case qh77 => (simp only [List.getElem?_toArray, List.getElem?_cons_succ, List.getElem?_cons_zero]; rfl)
              (refine ⟨by kernel_rfl, by kernel_rfl, by kernel_rfl, by assumption, undef, fun _ _ _ h => h, Or.inr ⟨by kernel_rfl, rfl⟩, ?qm77⟩)
              refine rgH (i := 19) (oi := ?qo78) ?qh78 ?qr78
              case qh78 => (simp only [List.getElem?_toArray, List.getElem?_cons_succ, List.getElem?_cons_zero]; rfl)
              (refine ⟨by kernel_rfl, by kernel_rfl, by kernel_rfl, by assumption, undef, fun _ _ _ h => h, Or.inr ⟨by kernel_rfl, rfl⟩, ?qm78⟩)
              refine rgH (i := 20) (oi := ?qo79) ?qh79 ?qr79
              case qh79 => (simp only [List.getElem?_toArray, List.getElem?_cons_succ, List.getElem?_cons_zero]; rfl)
              (refine ⟨by kernel_rfl, by kernel_rfl, by kernel_rfl, by assumption, undef, fun _ _ _ h => h, Or.inr ⟨by kernel_rfl, rfl⟩, ?qm79⟩)
              refine rgH (i := 21) (oi := ?qo80) ?qh80 ?qr80
              case qh80 => (simp only [List.getElem?_toArray, List.getElem?_cons_succ, List.getElem?_cons_zero]; rfl)
              (refine ⟨by kernel_rfl, by kernel_rfl, by kernel_rfl, by assumption, undef, fun _ _ _ h => h, Or.inr ⟨by kernel_rfl, rfl⟩, ?qm80⟩)
              (try simp only [Act.put, List.setIfInBounds_toArray, List.set_cons_zero, List.set_cons_succ])
              refine rgH (i := 22) (oi := ?qo81) ?qh81 ?qr81
              case qh81 => (simp only [List.getElem?_toArray, List.getElem?_cons_succ, List.getElem?_cons_zero]; rfl)
              (refine ⟨by kernel_rfl, by kernel_rfl, by kernel_rfl, by assumption, undef, fun _ _ _ h => h, Or.inr ⟨by kernel_rfl, rfl⟩, ?qm81⟩)
              refine rgH (i := 23) (oi := ?qo82) ?qh82 ?qr82
              case qh82 => (simp only [List.getElem?_toArray, List.getElem?_cons_succ, List.getElem?_cons_zero]; rfl)
              (refine ⟨by kernel_rfl, by kernel_rfl, by kernel_rfl, by assumption, undef, fun _ _ _ h => h, Or.inr ⟨by kernel_rfl, rfl⟩, ?qm82⟩)
              refine rgH (i := 24) (oi := ?qo83) ?qh83 ?qr83
              case qh83 => (simp only [List.getElem?_toArray, List.getElem?_cons_succ, List.getElem?_cons_zero]; rfl)
              (refine ⟨by kernel_rfl, by kernel_rfl, by kernel_rfl, by assumption, undef, fun _ _ _ h => h, Or.inr ⟨by kernel_rfl, rfl⟩, ?qm83⟩)
              refine rgH (i := 25) (oi := ?qo84) ?qh84 ?qr84
              case qh84 => (simp only [List.getElem?_toArray, List.getElem?_cons_succ, List.getElem?_cons_zero]; rfl)
              (refine ⟨by kernel_rfl, by kernel_rfl, by kernel_rfl, by assumption, undef, fun _ _ _ h => h, Or.inr ⟨by kernel_rfl, rfl⟩, ?qm84⟩)
              (try simp only [Act.put, List.setIfInBounds_toArray, List.set_cons_zero, List.set_cons_succ])
              refine rgH (i := 26) (oi := ?qo85) ?qh85 ?qr85
              case qh85 => (simp only [List.getElem?_toArray, List.getElem?_cons_succ, List.getElem?_cons_zero]; rfl)
              (refine ⟨by kernel_rfl, by kernel_rfl, by kernel_rfl, by assumption, undef, fun _ _ _ h => h, Or.inr ⟨by kernel_rfl, rfl⟩, ?qm85⟩)
              (try simp only [Act.put, List.setIfInBounds_toArray, List.set_cons_zero, List.set_cons_succ])
              refine rgH (i := 27) (oi := ?qo86) ?qh86 ?qr86
              case qh86 => (simp only [List.getElem?_toArray, List.getElem?_cons_succ, List.getElem?_cons_zero]; rfl)
              (refine ⟨by kernel_rfl, by kernel_rfl, by kernel_rfl, by assumption, ?qv86, fun _ _ _ h => h, Or.inl ⟨by kernel_rfl, ?qy86⟩, ?qn86⟩; case qy86 => (intro w hSw; (try dsimp only at hSw); go_simp; try with_reducible rfl))
              refine rgH (i := 28) (oi := ?qo87) ?qh87 ?qr87
              case qh87 => (simp only [List.getElem?_toArray, List.getElem?_cons_succ, List.getElem?_cons_zero]; rfl)
              (refine ⟨by kernel_rfl, by kernel_rfl, by kernel_rfl, by assumption, ?qv87, fun _ _ _ h => h, Or.inl ⟨by kernel_rfl, ?qy87⟩, ?qn87⟩; case qy87 => (intro w hSw; (try dsimp only at hSw); go_simp; try with_reducible rfl))
              (try simp only [Act.put, List.setIfInBounds_toArray, List.set_cons_zero, List.set_cons_succ])
              refine wpAnyH_done (by kernel_rfl) ?_ _
              go_wp2
              go_roundw
              case rel => exact ⟨k + 1, by omega, by go_num, (ptsOk_succ HK.out).trans HST.out, HB1.out⟩
              case measure => simp [intOf]; omega
            · have hk1 : k - 1 < d3.length := by omega
              obtain ⟨y, a'', cap'', ts', hy, hy1, _, hyc, _, _⟩ := (H3.out.below (Nat.le_refl _) HBR.out).pt_at (k - 1) hk1
              have yc : (wr.alloc (.cells #[.int .i64 x, .slice a' ts.length cap'] 90)).cell? ⟨b, off + (k - 1) * 2, none⟩ = some (.int .i64 y) := cell_below ((Below.refl _ _).alloc (Nat.le_refl _) _) hb hyc
              have HST0 : Hid (stepOk d2.length d3 k = decide (y < x)) := by
                have hz := HZ.out
                obtain ⟨j, rfl⟩ : ∃ j, k = j + 1 := ⟨k - 1, by omega⟩
                unfold Hid; rw [stepOk_succ hz hy, HA.out, HI.out]; simp
              have e0 : decide ((0 : Int) < (k : Int)) = true := by simp; omega
              have e0n : decide (0 < k) = true := by simp; omega
              have w1 : IntKind.i64.wrap ((k : Int) - 1) = (k : Int) - 1 := wrap_in _ (by omega) (by omega)
              have w2 : ((k : Int) - 1).toNat = k - 1 := by omega
              have w3 : (0 : Int) ≤ (k : Int) - 1 := by omega
              have w4 : (1 : Int) ≤ (k : Int) := by omega
              have w5 : (k : Int) - 1 < (d3.length : Int) := by omega
              have w6 : ¬ (k : Int) - 1 < 0 := by omega
              clear hy hyc
              by_cases hyx : y < x
              · have HST : Hid (stepOk d2.length d3 k = true) := by unfold Hid; rw [HST0.out]; simp [hyx]
                have e1 : decide (x ≤ y) = false := by simp; omega
                clear hyx HST0
                go_wp2
                refine wp_region_held_drew (S := fun w' => w'.cell? ⟨wr.heap.size, 0, none⟩ = some (.int .i64 x) ∧ w'.cell? ⟨wr.heap.size, 1, none⟩ = some (.slice a' ts.length cap') ∧ w'.cell? ⟨w.heap.size, 2, none⟩ = some (.slice a2 d2.length p2) ∧ w'.cell? ⟨w.heap.size, 3, none⟩ = some (.slice (some ⟨b, off, none⟩) d3.length p3) ∧ w'.cell? ⟨b, off + (k - 1) * 2, none⟩ = some (.int .i64 y)) (by kernel_rfl) ⟨u0, u1, s2, s3, yc⟩ (fun hHeld => ?_)
                refine rgH (i := 0) (oi := ?qo88) ?qh88 ?qr88
                case qh88 => (simp only [List.getElem?_toArray, List.getElem?_cons_succ, List.getElem?_cons_zero]; rfl)
                (refine ⟨by kernel_rfl, by kernel_rfl, by kernel_rfl, by assumption, ?qv88, fun _ _ _ h => h, Or.inl ⟨by kernel_rfl, ?qy88⟩, ?qn88⟩; case qy88 => (intro w hSw; (try dsimp only at hSw); go_simp; try with_reducible rfl))
                (try simp only [Act.put, List.setIfInBounds_toArray, List.set_cons_zero, List.set_cons_succ])
                refine rgH (i := 1) (oi := ?qo89) ?qh89 ?qr89
                case qh89 => (simp only [List.getElem?_toArray, List.getElem?_cons_succ, List.getElem?_cons_zero]; rfl)
                (refine ⟨by kernel_rfl, by kernel_rfl, by kernel_rfl, by assumption, ?qv89, fun _ _ _ h => h, Or.inl ⟨by kernel_rfl, ?qy89⟩, ?qn89⟩; case qy89 => (intro w hSw; (try dsimp only at hSw); go_simp; try with_reducible rfl))
                (try simp only [Act.put, List.setIfInBounds_toArray, List.set_cons_zero, List.set_cons_succ])
                refine wpAnyH_ready (rs := [2]) (by kernel_rfl) (by simp) ?_
                refine rgHcall (i := 2) (o := ?qo90) ?qh90 ?qk90
                case qh90 => (simp only [List.getElem?_toArray, List.getElem?_cons_succ, List.getElem?_cons_zero]; rfl)
                intro K hK
                go_simp
                (go_at_call 116; refine (c_areOver _ _ _ _ _ HS.out.drew).mono ?_; rintro e w1 ⟨rfl, hb1⟩; rw [HA.out]; have kk1 := And.intro (cell_below hb1 zu u0) (And.intro (cell_below hb1 zu u1) (And.intro (cell_below hb1 zs s2) (And.intro (cell_below hb1 zs s3) (cell_below hb1 zb yc)))); have HB1 := hid (bel_next HBX.out.drew HBX.out.drew.size hb1))
                refine hK.out _ _ kk1 (fun hHeld => ?_)
                clear hK K
                refine rgH (i := 3) (oi := ?qo91) ?qh91 ?qr91
                case qh91 => (simp only [List.getElem?_toArray, List.getElem?_cons_succ, List.getElem?_cons_zero]; rfl)
                (refine ⟨by kernel_rfl, by kernel_rfl, by kernel_rfl, by assumption, ?qv91, fun _ _ _ h => h, Or.inl ⟨by kernel_rfl, ?qy91⟩, ?qn91⟩; case qy91 => (intro w hSw; (try dsimp only at hSw); go_simp; try with_reducible rfl))
                refine rgH (i := 4) (oi := ?qo92) ?qh92 ?qr92
                case qh92 => (simp only [List.getElem?_toArray, List.getElem?_cons_succ, List.getElem?_cons_zero]; rfl)
                (refine ⟨by kernel_rfl, by kernel_rfl, by kernel_rfl, by assumption, ?qv92, fun _ _ _ h => h, Or.inl ⟨by kernel_rfl, ?qy92⟩, ?qn92⟩; case qy92 => (intro w hSw; (try dsimp only at hSw); go_simp; try with_reducible rfl))
                (try simp only [Act.put, List.setIfInBounds_toArray, List.set_cons_zero, List.set_cons_succ])
                refine rgH (i := 5) (oi := ?qo93) ?qh93 ?qr93
                case qh93 => (simp only [List.getElem?_toArray, List.getElem?_cons_succ, List.getElem?_cons_zero]; rfl)
                (refine ⟨by kernel_rfl, by kernel_rfl, by kernel_rfl, by assumption, ?qv93, fun _ _ _ h => h, Or.inl ⟨by kernel_rfl, ?qy93⟩, ?qn93⟩; case qy93 => (intro w hSw; (try dsimp only at hSw); go_simp; try with_reducible rfl))
                refine rgH (i := 6) (oi := ?qo94) ?qh94 ?qr94
                case qh94 => (simp only [List.getElem?_toArray, List.getElem?_cons_succ, List.getElem?_cons_zero]; rfl)
                (refine ⟨by kernel_rfl, by kernel_rfl, by kernel_rfl, by assumption, ?qv94, fun _ _ _ h => h, Or.inl ⟨by kernel_rfl, ?qy94⟩, ?qn94⟩; case qy94 => (intro w hSw; (try dsimp only at hSw); go_simp; try with_reducible rfl))
                refine rgH (i := 7) (oi := ?qo95) ?qh95 ?qr95
                case qh95 => (simp only [List.getElem?_toArray, List.getElem?_cons_succ, List.getElem?_cons_zero]; rfl)
                (refine ⟨by kernel_rfl, by kernel_rfl, by kernel_rfl, by assumption, ?qv95, fun _ _ _ h => h, Or.inl ⟨by kernel_rfl, ?qy95⟩, ?qn95⟩; case qy95 => (intro w hSw; (try dsimp only at hSw); go_simp; try with_reducible rfl))
                refine rgH (i := 8) (oi := ?qo96) ?qh96 ?qr96
                case qh96 => (simp only [List.getElem?_toArray, List.getElem?_cons_succ, List.getElem?_cons_zero]; rfl)
                (refine ⟨by kernel_rfl, by kernel_rfl, by kernel_rfl, by assumption, ?qv96, fun _ _ _ h => h, Or.inl ⟨by kernel_rfl, ?qy96⟩, ?qn96⟩; case qy96 => (intro w hSw; (try dsimp only at hSw); go_simp; try with_reducible rfl))
                (try simp only [Act.put, List.setIfInBounds_toArray, List.set_cons_zero, List.set_cons_succ])
                refine rgH (i := 9) (oi := ?qo97) ?qh97 ?qr97
                case qh97 => (simp only [List.getElem?_toArray, List.getElem?_cons_succ, List.getElem?_cons_zero]; rfl)
                (refine ⟨by kernel_rfl, by kernel_rfl, by kernel_rfl, by assumption, ?qv97, fun _ _ _ h => h, Or.inl ⟨by kernel_rfl, ?qy97⟩, ?qn97⟩; case qy97 => (intro w hSw; (try dsimp only at hSw); go_simp; try with_reducible rfl))
                (try simp only [Act.put, List.setIfInBounds_toArray, List.set_cons_zero, List.set_cons_succ])
                refine wpAnyH_ready (rs := [10]) (by kernel_rfl) (by simp) ?_
                refine rgHcall (i := 10) (o := ?qo98) ?qh98 ?qk98
                case qh98 => (simp only [List.getElem?_toArray, List.getElem?_cons_succ, List.getElem?_cons_zero]; rfl)
                intro K hK
                go_simp
                (go_at_call 117; refine (c_isIndex _ _ _ hN6).mono ?_; rintro e w2 ⟨rfl, rfl⟩; rw [HI.out])
                refine hK.out _ _ kk1 (fun hHeld => ?_)
                clear hK K
                refine rgH (i := 11) (oi := ?qo99) ?qh99 ?qr99
                case qh99 => (simp only [List.getElem?_toArray, List.getElem?_cons_succ, List.getElem?_cons_zero]; rfl)
                (refine ⟨by kernel_rfl, by kernel_rfl, by kernel_rfl, by assumption, ?qv99, fun _ _ _ h => h, Or.inl ⟨by kernel_rfl, ?qy99⟩, ?qn99⟩; case qy99 => (intro w hSw; (try dsimp only at hSw); go_simp; try with_reducible rfl))
                refine rgH (i := 12) (oi := ?qo100) ?qh100 ?qr100
                case qh100 => (simp only [List.getElem?_toArray, List.getElem?_cons_succ, List.getElem?_cons_zero]; rfl)
                (refine ⟨by kernel_rfl, by kernel_rfl, by kernel_rfl, by assumption, ?qv100, fun _ _ _ h => h, Or.inl ⟨by kernel_rfl, ?qy100⟩, ?qn100⟩; case qy100 => (intro w hSw; (try dsimp only at hSw); go_simp; try with_reducible rfl))
                (try simp only [Act.put, List.setIfInBounds_toArray, List.set_cons_zero, List.set_cons_succ])
                refine rgH (i := 13) (oi := ?qo101) ?qh101 ?qr101
                case qh101 => (simp only [List.getElem?_toArray, List.getElem?_cons_succ, List.getElem?_cons_zero]; rfl)
                (refine ⟨by kernel_rfl, by kernel_rfl, by kernel_rfl, by assumption, ?qv101, fun _ _ _ h => h, Or.inl ⟨by kernel_rfl, ?qy101⟩, ?qn101⟩; case qy101 => (intro w hSw; (try dsimp only at hSw); go_simp; try with_reducible rfl))
                refine rgH (i := 14) (oi := ?qo102) ?qh102 ?qr102
                case qh102 => (simp only [List.getElem?_toArray, List.getElem?_cons_succ, List.getElem?_cons_zero]; rfl)
                (refine ⟨by kernel_rfl, by kernel_rfl, by kernel_rfl, by assumption, ?qv102, fun _ _ _ h => h, Or.inl ⟨by kernel_rfl, ?qy102⟩, ?qn102⟩; case qy102 => (intro w hSw; (try dsimp only at hSw); go_simp; try with_reducible rfl))
                refine rgH (i := 15) (oi := ?qo103) ?qh103 ?qr103
                case qh103 => (simp only [List.getElem?_toArray, List.getElem?_cons_succ, List.getElem?_cons_zero]; rfl)
                (refine ⟨by kernel_rfl, by kernel_rfl, by kernel_rfl, by assumption, ?qv103, fun _ _ _ h => h, Or.inl ⟨by kernel_rfl, ?qy103⟩, ?qn103⟩; case qy103 => (intro w hSw; (try dsimp only at hSw); go_simp; try with_reducible rfl))
                refine rgH (i := 16) (oi := ?qo104) ?qh104 ?qr104
                case qh104 => (simp only [List.getElem?_toArray, List.getElem?_cons_succ, List.getElem?_cons_zero]; rfl)
                (refine ⟨by kernel_rfl, by kernel_rfl, by kernel_rfl, by assumption, ?qv104, fun _ _ _ h => h, Or.inl ⟨by kernel_rfl, ?qy104⟩, ?qn104⟩; case qy104 => (intro w hSw; (try dsimp only at hSw); go_simp; try with_reducible rfl))
                (try simp only [Act.put, List.setIfInBounds_toArray, List.set_cons_zero, List.set_cons_succ])
                refine rgH (i := 17) (oi := ?qo105) ?qh105 ?qr105
                case qh105 => (simp only [List.getElem?_toArray, List.getElem?_cons_succ, List.getElem?_cons_zero]; rfl)
                (refine ⟨by kernel_rfl, by kernel_rfl, by kernel_rfl, by assumption, ?qv105, fun _ _ _ h => h, Or.inl ⟨by kernel_rfl, ?qy105⟩, ?qn105⟩; case qy105 => (intro w hSw; (try dsimp only at hSw); go_simp; try with_reducible rfl))
                refine rgH (i := 18) (oi := ?qo106) ?qh106 ?qr106
                case qh106 => (simp only [List.getElem?_toArray, List.getElem?_cons_succ, List.getElem?_cons_zero]; rfl)
                (refine ⟨by kernel_rfl, by kernel_rfl, by kernel_rfl, by assumption, ?qv106, fun _ _ _ h => h, Or.inl ⟨by kernel_rfl, ?qy106⟩, ?qn106⟩; case qy106 => (intro w hSw; (try dsimp only at hSw); go_simp; try with_reducible rfl))
                refine rgH (i := 19) (oi := ?qo107) ?qh107 ?qr107
                case qh107 => (simp only [List.getElem?_toArray, List.getElem?_cons_succ, List.getElem?_cons_zero]; rfl)
                (refine ⟨by kernel_rfl, by kernel_rfl, by kernel_rfl, by assumption, ?qv107, fun _ _ _ h => h, Or.inl ⟨by kernel_rfl, ?qy107⟩, ?qn107⟩; case qy107 => (intro w hSw; (try dsimp only at hSw); go_simp; try with_reducible rfl))
                refine rgH (i := 20) (oi := ?qo108) ?qh108 ?qr108
                case qh108 => (simp only [List.getElem?_toArray, List.getElem?_cons_succ, List.getElem?_cons_zero]; rfl)
                (refine ⟨by kernel_rfl, by kernel_rfl, by kernel_rfl, by assumption, ?qv108, fun _ _ _ h => h, Or.inl ⟨by kernel_rfl, ?qy108⟩, ?qn108⟩; case qy108 => (intro w hSw; (try dsimp only at hSw); go_simp; try with_reducible rfl))
                (try simp only [Act.put, List.setIfInBounds_toArray, List.set_cons_zero, List.set_cons_succ])
                refine rgH (i := 21) (oi := ?qo109) ?qh109 ?qr109
                case qh109 => (simp only [List.getElem?_toArray, List.getElem?_cons_succ, List.getElem?_cons_zero]; rfl)
                (refine ⟨by kernel_rfl, by kernel_rfl, by kernel_rfl, by assumption, ?qv109, fun _ _ _ h => h, Or.inl ⟨by kernel_rfl, ?qy109⟩, ?qn109⟩; case qy109 => (intro w hSw; (try dsimp only at hSw); go_simp; try with_reducible rfl))
                refine rgH (i := 22) (oi := ?qo110) ?qh110 ?qr110
                case qh110 => (simp only [List.getElem?_toArray, List.getElem?_cons_succ, List.getElem?_cons_zero]; rfl)
                (refine ⟨by kernel_rfl, by kernel_rfl, by kernel_rfl, by assumption, ?qv110, fun _ _ _ h => h, Or.inl ⟨by kernel_rfl, ?qy110⟩, ?qn110⟩; case qy110 => (intro w hSw; (try dsimp only at hSw); go_simp; try with_reducible rfl))
                refine rgH (i := 23) (oi := ?qo111) ?qh111 ?qr111
                case qh111 => (simp only [List.getElem?_toArray, List.getElem?_cons_succ, List.getElem?_cons_zero]; rfl)
                (refine ⟨by kernel_rfl, by kernel_rfl, by kernel_rfl, by assumption, ?qv111, fun _ _ _ h => h, Or.inl ⟨by kernel_rfl, ?qy111⟩, ?qn111⟩; case qy111 => (intro w hSw; (try dsimp only at hSw); go_simp; try with_reducible rfl))
                refine rgH (i := 24) (oi := ?qo112) ?qh112 ?qr112
                case qh112 => (simp only [List.getElem?_toArray, List.getElem?_cons_succ, List.getElem?_cons_zero]; rfl)
                (refine ⟨by kernel_rfl, by kernel_rfl, by kernel_rfl, by assumption, ?qv112, fun _ _ _ h => h, Or.inl ⟨by kernel_rfl, ?qy112⟩, ?qn112⟩; case qy112 => (intro w hSw; (try dsimp only at hSw); go_simp; try with_reducible rfl))
                (try simp only [Act.put, List.setIfInBounds_toArray, List.set_cons_zero, List.set_cons_succ])
                refine rgH (i := 25) (oi := ?qo113) ?qh113 ?qr113
                case qh113 => (simp only [List.getElem?_toArray, List.getElem?_cons_succ, List.getElem?_cons_zero]; rfl)
                (refine ⟨by kernel_rfl, by kernel_rfl, by kernel_rfl, by assumption, ?qv113, fun _ _ _ h => h, Or.inl ⟨by kernel_rfl, ?qy113⟩, ?qn113⟩; case qy113 => (intro w hSw; (try dsimp only at hSw); go_simp; try with_reducible rfl))
                refine rgH (i := 26) (oi := ?qo114) ?qh114 ?qr114
                case qh114 => (simp only [List.getElem?_toArray, List.getElem?_cons_succ, List.getElem?_cons_zero]; rfl)
                (refine ⟨by kernel_rfl, by kernel_rfl, by kernel_rfl, by assumption, ?qv114, fun _ _ _ h => h, Or.inl ⟨by kernel_rfl, ?qy114⟩, ?qn114⟩; case qy114 => (intro w hSw; (try dsimp only at hSw); go_simp; try with_reducible rfl))
                refine rgH (i := 27) (oi := ?qo115) ?qh115 ?qr115
                case qh115 => (simp only [List.getElem?_toArray, List.getElem?_cons_succ, List.getElem?_cons_zero]; rfl)
                (refine ⟨by kernel_rfl, by kernel_rfl, by kernel_rfl, by assumption, ?qv115, fun _ _ _ h => h, Or.inl ⟨by kernel_rfl, ?qy115⟩, ?qn115⟩; case qy115 => (intro w hSw; (try dsimp only at hSw); go_simp; try with_reducible rfl))
                refine rgH (i := 28) (oi := ?qo116) ?qh116 ?qr116
                case qh116 => (simp only [List.getElem?_toArray, List.getElem?_cons_succ, List.getElem?_cons_zero]; rfl)
                (refine ⟨by kernel_rfl, by kernel_rfl, by kernel_rfl, by assumption, ?qv116, fun _ _ _ h => h, Or.inl ⟨by kernel_rfl, ?qy116⟩, ?qn116⟩; case qy116 => (intro w hSw; (try dsimp only at hSw); go_simp; try with_reducible rfl))
                (try simp only [Act.put, List.setIfInBounds_toArray, List.set_cons_zero, List.set_cons_succ])
                refine wpAnyH_done (by kernel_rfl) ?_ _
                go_wp2
                go_roundw
                case rel => exact ⟨k + 1, by omega, by go_num, (ptsOk_succ HK.out).trans HST.out, HB1.out⟩
                case measure => simp [intOf]; omega
              · have HST : Hid (stepOk d2.length d3 k = false) := by unfold Hid; rw [HST0.out]; simp [hyx]
                have e1 : decide (x ≤ y) = true := by simp; omega
                clear hyx HST0
                go_wp2
                refine wp_region_held_drew (S := fun w' => w'.cell? ⟨wr.heap.size, 0, none⟩ = some (.int .i64 x) ∧ w'.cell? ⟨wr.heap.size, 1, none⟩ = some (.slice a' ts.length cap') ∧ w'.cell? ⟨w.heap.size, 2, none⟩ = some (.slice a2 d2.length p2) ∧ w'.cell? ⟨w.heap.size, 3, none⟩ = some (.slice (some ⟨b, off, none⟩) d3.length p3) ∧ w'.cell? ⟨b, off + (k - 1) * 2, none⟩ = some (.int .i64 y)) (by kernel_rfl) ⟨u0, u1, s2, s3, yc⟩ (fun hHeld => ?_)
                refine rgH (i := 0) (oi := ?qo117) ?qh117 ?qr117
                case qh117 => (simp only [List.getElem?_toArray, List.getElem?_cons_succ, List.getElem?_cons_zero]; rfl)
                (refine ⟨by kernel_rfl, by kernel_rfl, by kernel_rfl, by assumption, ?qv117, fun _ _ _ h => h, Or.inl ⟨by kernel_rfl, ?qy117⟩, ?qn117⟩; case qy117 => (intro w hSw; (try dsimp only at hSw); go_simp; try with_reducible rfl))
                (try simp only [Act.put, List.setIfInBounds_toArray, List.set_cons_zero, List.set_cons_succ])
                refine rgH (i := 1) (oi := ?qo118) ?qh118 ?qr118
                case qh118 => (simp only [List.getElem?_toArray, List.getElem?_cons_succ, List.getElem?_cons_zero]; rfl)
                (refine ⟨by kernel_rfl, by kernel_rfl, by kernel_rfl, by assumption, ?qv118, fun _ _ _ h => h, Or.inl ⟨by kernel_rfl, ?qy118⟩, ?qn118⟩; case qy118 => (intro w hSw; (try dsimp only at hSw); go_simp; try with_reducible rfl))
                (try simp only [Act.put, List.setIfInBounds_toArray, List.set_cons_zero, List.set_cons_succ])
                refine wpAnyH_ready (rs := [2]) (by kernel_rfl) (by simp) ?_
                refine rgHcall (i := 2) (o := ?qo119) ?qh119 ?qk119
                case qh119 => (simp only [List.getElem?_toArray, List.getElem?_cons_succ, List.getElem?_cons_zero]; rfl)
                intro K hK
                go_simp
                (go_at_call 116; refine (c_areOver _ _ _ _ _ HS.out.drew).mono ?_; rintro e w1 ⟨rfl, hb1⟩; rw [HA.out]; have kk1 := And.intro (cell_below hb1 zu u0) (And.intro (cell_below hb1 zu u1) (And.intro (cell_below hb1 zs s2) (And.intro (cell_below hb1 zs s3) (cell_below hb1 zb yc)))); have HB1 := hid (bel_next HBX.out.drew HBX.out.drew.size hb1))
                refine hK.out _ _ kk1 (fun hHeld => ?_)
                clear hK K
                refine rgH (i := 3) (oi := ?qo120) ?qh120 ?qr120
                case qh120 => (simp only [List.getElem?_toArray, List.getElem?_cons_succ, List.getElem?_cons_zero]; rfl)
                (refine ⟨by kernel_rfl, by kernel_rfl, by kernel_rfl, by assumption, ?qv120, fun _ _ _ h => h, Or.inl ⟨by kernel_rfl, ?qy120⟩, ?qn120⟩; case qy120 => (intro w hSw; (try dsimp only at hSw); go_simp; try with_reducible rfl))
                (try simp only [Act.put, List.setIfInBounds_toArray, List.set_cons_zero, List.set_cons_succ])
                refine rgH (i := 4) (oi := ?qo121) ?qh121 ?qr121
                case qh121 => (simp only [List.getElem?_toArray, List.getElem?_cons_succ, List.getElem?_cons_zero]; rfl)
                (refine ⟨by kernel_rfl, by kernel_rfl, by kernel_rfl, by assumption, ?qv121, fun _ _ _ h => h, Or.inl ⟨by kernel_rfl, ?qy121⟩, ?qn121⟩; case qy121 => (intro w hSw; (try dsimp only at hSw); go_simp; try with_reducible rfl))
                refine rgH (i := 5) (oi := ?qo122) ?qh122 ?qr122
                case qh122 => (simp only [List.getElem?_toArray, List.getElem?_cons_succ, List.getElem?_cons_zero]; rfl)
                (refine ⟨by kernel_rfl, by kernel_rfl, by kernel_rfl, by assumption, ?qv122, fun _ _ _ h => h, Or.inl ⟨by kernel_rfl, ?qy122⟩, ?qn122⟩; case qy122 => (intro w hSw; (try dsimp only at hSw); go_simp; try with_reducible rfl))
                refine rgH (i := 6) (oi := ?qo123) ?qh123 ?qr123
                case qh123 => (simp only [List.getElem?_toArray, List.getElem?_cons_succ, List.getElem?_cons_zero]; rfl)
                (refine ⟨by kernel_rfl, by kernel_rfl, by kernel_rfl, by assumption, ?qv123, fun _ _ _ h => h, Or.inl ⟨by kernel_rfl, ?qy123⟩, ?qn123⟩; case qy123 => (intro w hSw; (try dsimp only at hSw); go_simp; try with_reducible rfl))
                refine rgH (i := 7) (oi := ?qo124) ?qh124 ?qr124
                case qh124 => (simp only [List.getElem?_toArray, List.getElem?_cons_succ, List.getElem?_cons_zero]; rfl)
                (refine ⟨by kernel_rfl, by kernel_rfl, by kernel_rfl, by assumption, ?qv124, fun _ _ _ h => h, Or.inl ⟨by kernel_rfl, ?qy124⟩, ?qn124⟩; case qy124 => (intro w hSw; (try dsimp only at hSw); go_simp; try with_reducible rfl))
                (try simp only [Act.put, List.setIfInBounds_toArray, List.set_cons_zero, List.set_cons_succ])
                refine rgH (i := 8) (oi := ?qo125) ?qh125 ?qr125
                case qh125 => (simp only [List.getElem?_toArray, List.getElem?_cons_succ, List.getElem?_cons_zero]; rfl)
                (refine ⟨by kernel_rfl, by kernel_rfl, by kernel_rfl, by assumption, ?qv125, fun _ _ _ h => h, Or.inl ⟨by kernel_rfl, ?qy125⟩, ?qn125⟩; case qy125 => (intro w hSw; (try dsimp only at hSw); go_simp; try with_reducible rfl))
                refine rgH (i := 9) (oi := ?qo126) ?qh126 ?qr126
                case qh126 => (simp only [List.getElem?_toArray, List.getElem?_cons_succ, List.getElem?_cons_zero]; rfl)
                (refine ⟨by kernel_rfl, by kernel_rfl, by kernel_rfl, by assumption, ?qv126, fun _ _ _ h => h, Or.inl ⟨by kernel_rfl, ?qy126⟩, ?qn126⟩; case qy126 => (intro w hSw; (try dsimp only at hSw); go_simp; try with_reducible rfl))
                (try simp only [Act.put, List.setIfInBounds_toArray, List.set_cons_zero, List.set_cons_succ])
                refine wpAnyH_ready (rs := [10]) (by kernel_rfl) (by simp) ?_
                refine rgHcall (i := 10) (o := ?qo127) ?qh127 ?qk127
                case qh127 => (simp only [List.getElem?_toArray, List.getElem?_cons_succ, List.getElem?_cons_zero]; rfl)
                intro K hK
                go_simp
                (go_at_call 117; refine (c_isIndex _ _ _ hN6).mono ?_; rintro e w2 ⟨rfl, rfl⟩; rw [HI.out])
                refine hK.out _ _ kk1 (fun hHeld => ?_)
                clear hK K
                refine rgH (i := 11) (oi := ?qo128) ?qh128 ?qr128
                case qh128 => (simp only [List.getElem?_toArray, List.getElem?_cons_succ, List.getElem?_cons_zero]; rfl)
                (refine ⟨by kernel_rfl, by kernel_rfl, by kernel_rfl, by assumption, ?qv128, fun _ _ _ h => h, Or.inl ⟨by kernel_rfl, ?qy128⟩, ?qn128⟩; case qy128 => (intro w hSw; (try dsimp only at hSw); go_simp; try with_reducible rfl))
                (try simp only [Act.put, List.setIfInBounds_toArray, List.set_cons_zero, List.set_cons_succ])
                refine rgH (i := 12) (oi := ?qo129) ?qh129 ?qr129
                case qh129 => (simp only [List.getElem?_toArray, List.getElem?_cons_succ, List.getElem?_cons_zero]; rfl)
                (refine ⟨by kernel_rfl, by kernel_rfl, by kernel_rfl, by assumption, ?qv129, fun _ _ _ h => h, Or.inl ⟨by kernel_rfl, ?qy129⟩, ?qn129⟩; case qy129 => (intro w hSw; (try dsimp only at hSw); go_simp; try with_reducible rfl))
                refine rgH (i := 13) (oi := ?qo130) ?qh130 ?qr130
                case qh130 => (simp only [List.getElem?_toArray, List.getElem?_cons_succ, List.getElem?_cons_zero]; rfl)
                (refine ⟨by kernel_rfl, by kernel_rfl, by kernel_rfl, by assumption, ?qv130, fun _ _ _ h => h, Or.inl ⟨by kernel_rfl, ?qy130⟩, ?qn130⟩; case qy130 => (intro w hSw; (try dsimp only at hSw); go_simp; try with_reducible rfl))
                refine rgH (i := 14) (oi := ?qo131) ?qh131 ?qr131
                case qh131 => (simp only [List.getElem?_toArray, List.getElem?_cons_succ, List.getElem?_cons_zero]; rfl)
                (refine ⟨by kernel_rfl, by kernel_rfl, by kernel_rfl, by assumption, ?qv131, fun _ _ _ h => h, Or.inl ⟨by kernel_rfl, ?qy131⟩, ?qn131⟩; case qy131 => (intro w hSw; (try dsimp only at hSw); go_simp; try with_reducible rfl))
                refine rgH (i := 15) (oi := ?qo132) ?qh132 ?qr132
                case qh132 => (simp only [List.getElem?_toArray, List.getElem?_cons_succ, List.getElem?_cons_zero]; rfl)
                (refine ⟨by kernel_rfl, by kernel_rfl, by kernel_rfl, by assumption, ?qv132, fun _ _ _ h => h, Or.inl ⟨by kernel_rfl, ?qy132⟩, ?qn132⟩; case qy132 => (intro w hSw; (try dsimp only at hSw); go_simp; try with_reducible rfl))
                (try simp only [Act.put, List.setIfInBounds_toArray, List.set_cons_zero, List.set_cons_succ])
                refine rgH (i := 16) (oi := ?qo133) ?qh133 ?qr133
                case qh133 => (simp only [List.getElem?_toArray, List.getElem?_cons_succ, List.getElem?_cons_zero]; rfl)
                (refine ⟨by kernel_rfl, by kernel_rfl, by kernel_rfl, by assumption, ?qv133, fun _ _ _ h => h, Or.inl ⟨by kernel_rfl, ?qy133⟩, ?qn133⟩; case qy133 => (intro w hSw; (try dsimp only at hSw); go_simp; try with_reducible rfl))
                refine rgH (i := 17) (oi := ?qo134) ?qh134 ?qr134
                case qh134 => (simp only [List.getElem?_toArray, List.getElem?_cons_succ, List.getElem?_cons_zero]; rfl)
                (refine ⟨by kernel_rfl, by kernel_rfl, by kernel_rfl, by assumption, ?qv134, fun _ _ _ h => h, Or.inl ⟨by kernel_rfl, ?qy134⟩, ?qn134⟩; case qy134 => (intro w hSw; (try dsimp only at hSw); go_simp; try with_reducible rfl))
                refine rgH (i := 18) (oi := ?qo135) ?qh135 ?qr135
                case qh135 => (simp only [List.getElem?_toArray, List.getElem?_cons_succ, List.getElem?_cons_zero]; rfl)
                (refine ⟨by kernel_rfl, by kernel_rfl, by kernel_rfl, by assumption, ?qv135, fun _ _ _ h => h, Or.inl ⟨by kernel_rfl, ?qy135⟩, ?qn135⟩; case qy135 => (intro w hSw; (try dsimp only at hSw); go_simp; try with_reducible rfl))
                refine rgH (i := 19) (oi := ?qo136) ?qh136 ?qr136
                case qh136 => (simp only [List.getElem?_toArray, List.getElem?_cons_succ, List.getElem?_cons_zero]; rfl)
                (refine ⟨by kernel_rfl, by kernel_rfl, by kernel_rfl, by assumption, ?qv136, fun _ _ _ h => h, Or.inl ⟨by kernel_rfl, ?qy136⟩, ?qn136⟩; case qy136 => (intro w hSw; (try dsimp only at hSw); go_simp; try with_reducible rfl))
                (try simp only [Act.put, List.setIfInBounds_toArray, List.set_cons_zero, List.set_cons_succ])
                refine rgH (i := 20) (oi := ?qo137) ?qh137 ?qr137
                case qh137 => (simp only [List.getElem?_toArray, List.getElem?_cons_succ, List.getElem?_cons_zero]; rfl)
                (refine ⟨by kernel_rfl, by kernel_rfl, by kernel_rfl, by assumption, ?qv137, fun _ _ _ h => h, Or.inl ⟨by kernel_rfl, ?qy137⟩, ?qn137⟩; case qy137 => (intro w hSw; (try dsimp only at hSw); go_simp; try with_reducible rfl))
                refine rgH (i := 21) (oi := ?qo138) ?qh138 ?qr138
                case qh138 => (simp only [List.getElem?_toArray, List.getElem?_cons_succ, List.getElem?_cons_zero]; rfl)
                (refine ⟨by kernel_rfl, by kernel_rfl, by kernel_rfl, by assumption, ?qv138, fun _ _ _ h => h, Or.inl ⟨by kernel_rfl, ?qy138⟩, ?qn138⟩; case qy138 => (intro w hSw; (try dsimp only at hSw); go_simp; try with_reducible rfl))
                refine rgH (i := 22) (oi := ?qo139) ?qh139 ?qr139
                case qh139 => (simp only [List.getElem?_toArray, List.getElem?_cons_succ, List.getElem?_cons_zero]; rfl)
                (refine ⟨by kernel_rfl, by kernel_rfl, by kernel_rfl, by assumption, ?qv139, fun _ _ _ h => h, Or.inl ⟨by kernel_rfl, ?qy139⟩, ?qn139⟩; case qy139 => (intro w hSw; (try dsimp only at hSw); go_simp; try with_reducible rfl))
                refine rgH (i := 23) (oi := ?qo140) ?qh140 ?qr140
                case qh140 => (simp only [List.getElem?_toArray, List.getElem?_cons_succ, List.getElem?_cons_zero]; rfl)
                (refine ⟨by kernel_rfl, by kernel_rfl, by kernel_rfl, by assumption, ?qv140, fun _ _ _ h => h, Or.inl ⟨by kernel_rfl, ?qy140⟩, ?qn140⟩; case qy140 => (intro w hSw; (try dsimp only at hSw); go_simp; try with_reducible rfl))
                (try simp only [Act.put, List.setIfInBounds_toArray, List.set_cons_zero, List.set_cons_succ])
                refine rgH (i := 24) (oi := ?qo141) ?qh141 ?qr141
                case qh141 => (simp only [List.getElem?_toArray, List.getElem?_cons_succ, List.getElem?_cons_zero]; rfl)
                (refine ⟨by kernel_rfl, by kernel_rfl, by kernel_rfl, by assumption, ?qv141, fun _ _ _ h => h, Or.inl ⟨by kernel_rfl, ?qy141⟩, ?qn141⟩; case qy141 => (intro w hSw; (try dsimp only at hSw); go_simp; try with_reducible rfl))
                refine rgH (i := 25) (oi := ?qo142) ?qh142 ?qr142
                case qh142 => (simp only [List.getElem?_toArray, List.getElem?_cons_succ, List.getElem?_cons_zero]; rfl)
                (refine ⟨by kernel_rfl, by kernel_rfl, by kernel_rfl, by assumption, ?qv142, fun _ _ _ h => h, Or.inl ⟨by kernel_rfl, ?qy142⟩, ?qn142⟩; case qy142 => (intro w hSw; (try dsimp only at hSw); go_simp; try with_reducible rfl))
                refine rgH (i := 26) (oi := ?qo143) ?qh143 ?qr143
                case qh143 => (simp only [List.getElem?_toArray, List.getElem?_cons_succ, List.getElem?_cons_zero]; rfl)
                (refine ⟨by kernel_rfl, by kernel_rfl, by kernel_rfl, by assumption, ?qv143, fun _ _ _ h => h, Or.inl ⟨by kernel_rfl, ?qy143⟩, ?qn143⟩; case qy143 => (intro w hSw; (try dsimp only at hSw); go_simp; try with_reducible rfl))
                refine rgH (i := 27) (oi := ?qo144) ?qh144 ?qr144
                case qh144 => (simp only [List.getElem?_toArray, List.getElem?_cons_succ, List.getElem?_cons_zero]; rfl)
                (refine ⟨by kernel_rfl, by kernel_rfl, by kernel_rfl, by assumption, ?qv144, fun _ _ _ h => h, Or.inl ⟨by kernel_rfl, ?qy144⟩, ?qn144⟩; case qy144 => (intro w hSw; (try dsimp only at hSw); go_simp; try with_reducible rfl))
                (try simp only [Act.put, List.setIfInBounds_toArray, List.set_cons_zero, List.set_cons_succ])
                refine rgH (i := 28) (oi := ?qo145) ?qh145 ?qr145
                case qh145 => (simp only [List.getElem?_toArray, List.getElem?_cons_succ, List.getElem?_cons_zero]; rfl)
                (refine ⟨by kernel_rfl, by kernel_rfl, by kernel_rfl, by assumption, ?qv145, fun _ _ _ h => h, Or.inl ⟨by kernel_rfl, ?qy145⟩, ?qn145⟩; case qy145 => (intro w hSw; (try dsimp only at hSw); go_simp; try with_reducible rfl))
                (try simp only [Act.put, List.setIfInBounds_toArray, List.set_cons_zero, List.set_cons_succ])
                refine wpAnyH_done (by kernel_rfl) ?_ _
                go_wp2
                go_ret
                exact ⟨ret_bool (by rw [HHD.out, ptsOk_false HST.out hlt]), bel_next HB.out HB.out.size HB1.out⟩
      · have HFE : Hid (validAn (d0, d1, d2, d3) = true) := by
          have h9 := HK.out
          have h8 : k = d3.length := by omega
          rw [h8] at h9
          unfold Hid; rw [HHD.out, h9]
        go_wp2
        go_ret
        exact ⟨ret_bool HFE.out.symm, bel_next HB.out HB.out.size HBR.out⟩
end Go.Proofs.Ytedmhdinfedhhaa
