/- Contracts: valid annotated code, the reference's side. -/
import Derived.Test.YtedmhdinfedhhaaL08p
import Derived.Deep.RegionHeld3
import Derived.Outline
namespace Go.Proofs.Ytedmhdinfedhhaa
open Go.RowKit
set_option maxRecDepth 100000 in
set_option maxHeartbeats 40000000 in
theorem c_l08Is {S : Nat → Prop} {a0 : Option Addr} {p0 : Nat} {d0 : List Term} {a1 : Option Addr} {p1 : Nat} {d1 : List Term} {a2 : Option Addr} {p2 : Nat} {d2 : List Instr} {a3 : Option Addr} {p3 : Nat} {d3 : List Pt} {w : World} (g : Nat) (h0 : SlRd cTerm S w a0 p0 d0) (h1 : SlRd cTerm S w a1 p1 d1) (h2 : SlRd cInstr S w a2 p2 d2) (h3 : SlRd cPoint S w a3 p3 d3)
    (t0 : w.cell? ⟨g, 0, none⟩ = some (.slice a0 d0.length p0)) (t1 : w.cell? ⟨g, 1, none⟩ = some (.slice a1 d1.length p1)) (t2 : w.cell? ⟨g, 2, none⟩ = some (.slice a2 d2.length p2)) (t3 : w.cell? ⟨g, 3, none⟩ = some (.slice a3 d3.length p3)) :
    Calls Try.prog 48 #[.pointer (some ⟨g, 0, none⟩)] w fun e w' => e = .returned (.bool (validAn (d0, d1, d2, d3))) ∧ Below w.heap.size w w' := by
  have hl3 := h3.len_le
  have zg : g < w.heap.size := World.block_lt_of_cell? w _ t0
  have H0 := hid h0
  have H1 := hid h1
  have H2 := hid h2
  have H3 := hid h3
  clear h0 h1 h2 h3
  obtain ⟨r, hr⟩ : ∃ r, validCode d2 = r := ⟨_, rfl⟩
  obtain ⟨q, hq⟩ : ∃ q, areOverF d0 6 = q := ⟨_, rfl⟩
  obtain ⟨u, hu⟩ : ∃ u, areOverF d1 6 = u := ⟨_, rfl⟩
  have HF : Hid (validAn (d0, d1, d2, d3) = ((((r && q) && u) && decide (d3.length ≤ 8)) && ptsOk d2.length d3 d3.length)) := by unfold Hid validAn headOk; rw [hr, hq, hu]
  have HR := hid hr
  have HQ := hid hq
  have HU := hid hu
  clear hr hq hu
  by_cases hl8 : d3.length ≤ 8
  all_goals
    cases r
    all_goals
      cases q
      all_goals
        cases u
        all_goals
          go_enter Try.func48, Try.ntmps48
          go_wp2_with (first
            | (go_at_call 110; refine (c_l07Is _ _ _ _ H2.out).mono ?_; rintro e w1 ⟨rfl, hb1⟩; rw [HR.out]; have t10 := cell_below hb1 zg t0; have t11 := cell_below hb1 zg t1; have t12 := cell_below hb1 zg t2; have t13 := cell_below hb1 zg t3; have zg1 := Nat.lt_of_lt_of_le zg hb1.size; have HW1 := hid hb1; have H31 := hid (H3.out.below (Nat.le_refl _) hb1); have A1 := hid (c_l08Facts a0 p0 d0 w1 (H0.out.below (Nat.le_refl _) hb1)); have A2 := hid (c_l08Facts a1 p1 d1 w1 (H1.out.below (Nat.le_refl _) hb1)); clear hb1)
            | (go_at_call 111; refine A1.out.mono ?_; rintro e wx ⟨rfl, rfl⟩; rw [HQ.out]; clear A1)
            | (go_at_call 111; refine A2.out.mono ?_; rintro e wx ⟨rfl, rfl⟩; rw [HU.out]))
          first
            | (go_ret; exact ⟨ret_bool (by rw [HF.out]; simp [hl8]), HW1.out⟩)
            | skip
  have HHD : Hid (validAn (d0, d1, d2, d3) = ptsOk d2.length d3 d3.length) := by unfold Hid; rw [HF.out]; simp [hl8]
  have hd80 := (validCode_iff HR.out).2.1
  clear HF HR HQ HU A2 H0 H1 H2
  go_loopw [3] (fun i wr => ∃ k : Nat, k ≤ d3.length ∧ i = .int .i64 k ∧ Hid (ptsOk d2.length d3 k = true) ∧ Hid (Below w1.heap.size w1 wr)) (fun i _ => d3.length - (intOf i).toNat)
  case atStart => exact ⟨0, Nat.zero_le _, rfl, rfl, Below.refl _ _⟩
  case round =>
    obtain ⟨k, hk, rfl, HK, HBR⟩ := hrel
    have s2 := cell_below HBR.out zg1 t12
    by_cases hlt : k < d3.length
    · obtain ⟨b, off, rfl⟩ := H31.out.some_of hlt
      have s3 := cell_below HBR.out zg1 t13
      have hszr := HBR.out.size
      obtain ⟨x, a', cap', ts, hz, hx1, hsl, hc, hc', hb⟩ := (H31.out.below (Nat.le_refl _) HBR.out).pt_at k hlt
      have HZ := hid hz
      have HS := hid hsl
      clear hz hsl
      obtain ⟨A, hA⟩ : ∃ A, areOverF ts 6 = A := ⟨_, rfl⟩
      obtain ⟨I, hI⟩ : ∃ I, inB x 0 ((d2.length : Int) - 1) = I := ⟨_, rfl⟩
      have HA := hid hA
      have HI := hid hI
      have v1 : IntKind.i64.wrap ((d2.length : Int) - 1) = (d2.length : Int) - 1 := wrap_in _ (by omega) (by omega)
      have HSF : Hid ((A && I) = false → stepOk d2.length d3 k = false) := by
        have hz := HZ.out
        unfold Hid
        intro h
        unfold stepOk
        rw [hz]
        simp only []
        rw [hA, hI, h]; rfl
      clear hA hI
      cases I
      · have HST : Hid (stepOk d2.length d3 k = false) := HSF.out (by simp)
        go_wp2
        refine wp_region_held_drew (S := fun w' => w'.cell? ⟨g, 2, none⟩ = some (.slice a2 d2.length p2) ∧ w'.cell? ⟨g, 3, none⟩ = some (.slice (some ⟨b, off, none⟩) d3.length p3) ∧ w'.cell? ⟨b, off + k * 2, none⟩ = some (.int .i64 x) ∧ w'.cell? ⟨b, off + k * 2 + 1, none⟩ = some (.slice a' ts.length cap')) (by kernel_rfl) ⟨s2, s3, hc, hc'⟩ (fun hHeld => ?_)
        refine rgH (i := 0) (oi := ?qo1) ?qh1 ?qr1
        case qh1 => (simp only [List.getElem?_toArray, List.getElem?_cons_succ, List.getElem?_cons_zero]; rfl)
        (refine ⟨by kernel_rfl, by kernel_rfl, by kernel_rfl, by assumption, ?qv1, fun _ _ _ h => h, Or.inl ⟨by kernel_rfl, ?qy1⟩, ?qn1⟩; case qy1 => (intro w hSw; (try dsimp only at hSw); go_simp; try with_reducible rfl))
        refine rgH (i := 1) (oi := ?qo2) ?qh2 ?qr2
        case qh2 => (simp only [List.getElem?_toArray, List.getElem?_cons_succ, List.getElem?_cons_zero]; rfl)
        (refine ⟨by kernel_rfl, by kernel_rfl, by kernel_rfl, by assumption, ?qv2, fun _ _ _ h => h, Or.inl ⟨by kernel_rfl, ?qy2⟩, ?qn2⟩; case qy2 => (intro w hSw; (try dsimp only at hSw); go_simp; try with_reducible rfl))
        refine rgH (i := 2) (oi := ?qo3) ?qh3 ?qr3
        case qh3 => (simp only [List.getElem?_toArray, List.getElem?_cons_succ, List.getElem?_cons_zero]; rfl)
        (refine ⟨by kernel_rfl, by kernel_rfl, by kernel_rfl, by assumption, ?qv3, fun _ _ _ h => h, Or.inl ⟨by kernel_rfl, ?qy3⟩, ?qn3⟩; case qy3 => (intro w hSw; (try dsimp only at hSw); go_simp; try with_reducible rfl))
        refine rgH (i := 3) (oi := ?qo4) ?qh4 ?qr4
        case qh4 => (simp only [List.getElem?_toArray, List.getElem?_cons_succ, List.getElem?_cons_zero]; rfl)
        (refine ⟨by kernel_rfl, by kernel_rfl, by kernel_rfl, by assumption, ?qv4, fun _ _ _ h => h, Or.inl ⟨by kernel_rfl, ?qy4⟩, ?qn4⟩; case qy4 => (intro w hSw; (try dsimp only at hSw); go_simp; try with_reducible rfl))
        (try simp only [Act.put, List.setIfInBounds_toArray, List.set_cons_zero, List.set_cons_succ])
        refine rgH (i := 4) (oi := ?qo5) ?qh5 ?qr5
        case qh5 => (simp only [List.getElem?_toArray, List.getElem?_cons_succ, List.getElem?_cons_zero]; rfl)
        (refine ⟨by kernel_rfl, by kernel_rfl, by kernel_rfl, by assumption, ?qv5, fun _ _ _ h => h, Or.inl ⟨by kernel_rfl, ?qy5⟩, ?qn5⟩; case qy5 => (intro w hSw; (try dsimp only at hSw); go_simp; try with_reducible rfl))
        refine rgH (i := 5) (oi := ?qo6) ?qh6 ?qr6
        case qh6 => (simp only [List.getElem?_toArray, List.getElem?_cons_succ, List.getElem?_cons_zero]; rfl)
        (refine ⟨by kernel_rfl, by kernel_rfl, by kernel_rfl, by assumption, ?qv6, fun _ _ _ h => h, Or.inl ⟨by kernel_rfl, ?qy6⟩, ?qn6⟩; case qy6 => (intro w hSw; (try dsimp only at hSw); go_simp; try with_reducible rfl))
        refine rgH (i := 6) (oi := ?qo7) ?qh7 ?qr7
        case qh7 => (simp only [List.getElem?_toArray, List.getElem?_cons_succ, List.getElem?_cons_zero]; rfl)
        (refine ⟨by kernel_rfl, by kernel_rfl, by kernel_rfl, by assumption, ?qv7, fun _ _ _ h => h, Or.inl ⟨by kernel_rfl, ?qy7⟩, ?qn7⟩; case qy7 => (intro w hSw; (try dsimp only at hSw); go_simp; try with_reducible rfl))
        refine rgH (i := 7) (oi := ?qo8) ?qh8 ?qr8
        case qh8 => (simp only [List.getElem?_toArray, List.getElem?_cons_succ, List.getElem?_cons_zero]; rfl)
        (refine ⟨by kernel_rfl, by kernel_rfl, by kernel_rfl, by assumption, ?qv8, fun _ _ _ h => h, Or.inl ⟨by kernel_rfl, ?qy8⟩, ?qn8⟩; case qy8 => (intro w hSw; (try dsimp only at hSw); go_simp; try with_reducible rfl))
        (try simp only [Act.put, List.setIfInBounds_toArray, List.set_cons_zero, List.set_cons_succ])
        refine rgH (i := 8) (oi := ?qo9) ?qh9 ?qr9
        case qh9 => (simp only [List.getElem?_toArray, List.getElem?_cons_succ, List.getElem?_cons_zero]; rfl)
        (refine ⟨by kernel_rfl, by kernel_rfl, by kernel_rfl, by assumption, ?qv9, fun _ _ _ h => h, Or.inl ⟨by kernel_rfl, ?qy9⟩, ?qn9⟩; case qy9 => (intro w hSw; (try dsimp only at hSw); go_simp; try with_reducible rfl))
        refine rgH (i := 9) (oi := ?qo10) ?qh10 ?qr10
        case qh10 => (simp only [List.getElem?_toArray, List.getElem?_cons_succ, List.getElem?_cons_zero]; rfl)
        (refine ⟨by kernel_rfl, by kernel_rfl, by kernel_rfl, by assumption, ?qv10, fun _ _ _ h => h, Or.inl ⟨by kernel_rfl, ?qy10⟩, ?qn10⟩; case qy10 => (intro w hSw; (try dsimp only at hSw); go_simp; try with_reducible rfl))
        (try simp only [Act.put, List.setIfInBounds_toArray, List.set_cons_zero, List.set_cons_succ])
        refine wpAnyH_ready (rs := [10]) (by kernel_rfl) (by simp) ?_
        refine rgHcall (i := 10) (o := ?qo11) ?qh11 ?qk11
        case qh11 => (simp only [List.getElem?_toArray, List.getElem?_cons_succ, List.getElem?_cons_zero]; rfl)
        intro K hK
        go_simp
        (go_at_call 68; refine (c_l00In _ _ _ _).mono ?_; rintro e w2 ⟨rfl, rfl⟩; rw [HI.out])
        refine hK.out _ _ hHeld (fun hHeld => ?_)
        clear hK K
        refine rgH (i := 11) (oi := ?qo12) ?qh12 ?qr12
        case qh12 => (simp only [List.getElem?_toArray, List.getElem?_cons_succ, List.getElem?_cons_zero]; rfl)
        (refine ⟨by kernel_rfl, by kernel_rfl, by kernel_rfl, by assumption, ?qv12, fun _ _ _ h => h, Or.inl ⟨by kernel_rfl, ?qy12⟩, ?qn12⟩; case qy12 => (intro w hSw; (try dsimp only at hSw); go_simp; try with_reducible rfl))
        (try simp only [Act.put, List.setIfInBounds_toArray, List.set_cons_zero, List.set_cons_succ])
        refine rgH (i := 12) (oi := ?qo13) ?qh13 ?qr13
        case qh13 => (simp only [List.getElem?_toArray, List.getElem?_cons_succ, List.getElem?_cons_zero]; rfl)
        (refine ⟨by kernel_rfl, by kernel_rfl, by kernel_rfl, by assumption, ?qv13, fun _ _ _ h => h, Or.inl ⟨by kernel_rfl, ?qy13⟩, ?qn13⟩; case qy13 => (intro w hSw; (try dsimp only at hSw); go_simp; try with_reducible rfl))
        (try simp only [Act.put, List.setIfInBounds_toArray, List.set_cons_zero, List.set_cons_succ])
        refine rgH (i := 13) (oi := ?qo14) ?qh14 ?qr14
        case qh14 => (simp only [List.getElem?_toArray, List.getElem?_cons_succ, List.getElem?_cons_zero]; rfl)
        (refine ⟨by kernel_rfl, by kernel_rfl, by kernel_rfl, by assumption, undef, fun _ _ _ h => h, Or.inr ⟨by kernel_rfl, rfl⟩, ?qm14⟩)
        refine rgH (i := 14) (oi := ?qo15) ?qh15 ?qr15
        case qh15 => (simp only [List.getElem?_toArray, List.getElem?_cons_succ, List.getElem?_cons_zero]; rfl)
        (refine ⟨by kernel_rfl, by kernel_rfl, by kernel_rfl, by assumption, undef, fun _ _ _ h => h, Or.inr ⟨by kernel_rfl, rfl⟩, ?qm15⟩)
        refine rgH (i := 15) (oi := ?qo16) ?qh16 ?qr16
        case qh16 => (simp only [List.getElem?_toArray, List.getElem?_cons_succ, List.getElem?_cons_zero]; rfl)
        (refine ⟨by kernel_rfl, by kernel_rfl, by kernel_rfl, by assumption, undef, fun _ _ _ h => h, Or.inr ⟨by kernel_rfl, rfl⟩, ?qm16⟩)
        (try simp only [Act.put, List.setIfInBounds_toArray, List.set_cons_zero, List.set_cons_succ])
        refine rgH (i := 16) (oi := ?qo17) ?qh17 ?qr17
        case qh17 => (simp only [List.getElem?_toArray, List.getElem?_cons_succ, List.getElem?_cons_zero]; rfl)
        (refine ⟨by kernel_rfl, by kernel_rfl, by kernel_rfl, by assumption, undef, fun _ _ _ h => h, Or.inr ⟨by kernel_rfl, rfl⟩, ?qm17⟩)
        refine rgH (i := 17) (oi := ?qo18) ?qh18 ?qr18
        case qh18 => (simp only [List.getElem?_toArray, List.getElem?_cons_succ, List.getElem?_cons_zero]; rfl)
        (refine ⟨by kernel_rfl, by kernel_rfl, by kernel_rfl, by assumption, undef, fun _ _ _ h => h, Or.inr ⟨by kernel_rfl, rfl⟩, ?qm18⟩)
        refine rgH (i := 18) (oi := ?qo19) ?qh19 ?qr19
        case qh19 => (simp only [List.getElem?_toArray, List.getElem?_cons_succ, List.getElem?_cons_zero]; rfl)
        (refine ⟨by kernel_rfl, by kernel_rfl, by kernel_rfl, by assumption, undef, fun _ _ _ h => h, Or.inr ⟨by kernel_rfl, rfl⟩, ?qm19⟩)
        (try simp only [Act.put, List.setIfInBounds_toArray, List.set_cons_zero, List.set_cons_succ])
        refine rgH (i := 19) (oi := ?qo20) ?qh20 ?qr20
        case qh20 => (simp only [List.getElem?_toArray, List.getElem?_cons_succ, List.getElem?_cons_zero]; rfl)
        (refine ⟨by kernel_rfl, by kernel_rfl, by kernel_rfl, by assumption, ?qv20, fun _ _ _ h => h, Or.inl ⟨by kernel_rfl, ?qy20⟩, ?qn20⟩; case qy20 => (intro w hSw; (try dsimp only at hSw); go_simp; try with_reducible rfl))
        (try simp only [Act.put, List.setIfInBounds_toArray, List.set_cons_zero, List.set_cons_succ])
        refine rgH (i := 20) (oi := ?qo21) ?qh21 ?qr21
        case qh21 => (simp only [List.getElem?_toArray, List.getElem?_cons_succ, List.getElem?_cons_zero]; rfl)
        (refine ⟨by kernel_rfl, by kernel_rfl, by kernel_rfl, by assumption, ?qv21, fun _ _ _ h => h, Or.inl ⟨by kernel_rfl, ?qy21⟩, ?qn21⟩; case qy21 => (intro w hSw; (try dsimp only at hSw); go_simp; try with_reducible rfl))
        (try simp only [Act.put, List.setIfInBounds_toArray, List.set_cons_zero, List.set_cons_succ])
        refine rgH (i := 21) (oi := ?qo22) ?qh22 ?qr22
        case qh22 => (simp only [List.getElem?_toArray, List.getElem?_cons_succ, List.getElem?_cons_zero]; rfl)
        (refine ⟨by kernel_rfl, by kernel_rfl, by kernel_rfl, by assumption, undef, fun _ _ _ h => h, Or.inr ⟨by kernel_rfl, rfl⟩, ?qm22⟩)
        refine rgH (i := 22) (oi := ?qo23) ?qh23 ?qr23
        case qh23 => (simp only [List.getElem?_toArray, List.getElem?_cons_succ, List.getElem?_cons_zero]; rfl)
        (refine ⟨by kernel_rfl, by kernel_rfl, by kernel_rfl, by assumption, undef, fun _ _ _ h => h, Or.inr ⟨by kernel_rfl, rfl⟩, ?qm23⟩)
        refine rgH (i := 23) (oi := ?qo24) ?qh24 ?qr24
        case qh24 => (simp only [List.getElem?_toArray, List.getElem?_cons_succ, List.getElem?_cons_zero]; rfl)
        (refine ⟨by kernel_rfl, by kernel_rfl, by kernel_rfl, by assumption, undef, fun _ _ _ h => h, Or.inr ⟨by kernel_rfl, rfl⟩, ?qm24⟩)
        (try simp only [Act.put, List.setIfInBounds_toArray, List.set_cons_zero, List.set_cons_succ])
        refine rgH (i := 24) (oi := ?qo25) ?qh25 ?qr25
        case qh25 => (simp only [List.getElem?_toArray, List.getElem?_cons_succ, List.getElem?_cons_zero]; rfl)
        (refine ⟨by kernel_rfl, by kernel_rfl, by kernel_rfl, by assumption, undef, fun _ _ _ h => h, Or.inr ⟨by kernel_rfl, rfl⟩, ?qm25⟩)
        refine rgH (i := 25) (oi := ?qo26) ?qh26 ?qr26
        case qh26 => (simp only [List.getElem?_toArray, List.getElem?_cons_succ, List.getElem?_cons_zero]; rfl)
        (refine ⟨by kernel_rfl, by kernel_rfl, by kernel_rfl, by assumption, undef, fun _ _ _ h => h, Or.inr ⟨by kernel_rfl, rfl⟩, ?qm26⟩)
        refine rgH (i := 26) (oi := ?qo27) ?qh27 ?qr27
        case qh27 => (simp only [List.getElem?_toArray, List.getElem?_cons_succ, List.getElem?_cons_zero]; rfl)
        (refine ⟨by kernel_rfl, by kernel_rfl, by kernel_rfl, by assumption, undef, fun _ _ _ h => h, Or.inr ⟨by kernel_rfl, rfl⟩, ?qm27⟩)
        refine rgH (i := 27) (oi := ?qo28) ?qh28 ?qr28
        case qh28 => (simp only [List.getElem?_toArray, List.getElem?_cons_succ, List.getElem?_cons_zero]; rfl)
        (refine ⟨by kernel_rfl, by kernel_rfl, by kernel_rfl, by assumption, undef, fun _ _ _ h => h, Or.inr ⟨by kernel_rfl, rfl⟩, ?qm28⟩)
        (try simp only [Act.put, List.setIfInBounds_toArray, List.set_cons_zero, List.set_cons_succ])
        refine rgH (i := 28) (oi := ?qo29) ?qh29 ?qr29
        case qh29 => (simp only [List.getElem?_toArray, List.getElem?_cons_succ, List.getElem?_cons_zero]; rfl)
        (refine ⟨by kernel_rfl, by kernel_rfl, by kernel_rfl, by assumption, undef, fun _ _ _ h => h, Or.inr ⟨by kernel_rfl, rfl⟩, ?qm29⟩)
        refine rgH (i := 29) (oi := ?qo30) ?qh30 ?qr30
        case qh30 => (simp only [List.getElem?_toArray, List.getElem?_cons_succ, List.getElem?_cons_zero]; rfl)
        (refine ⟨by kernel_rfl, by kernel_rfl, by kernel_rfl, by assumption, undef, fun _ _ _ h => h, Or.inr ⟨by kernel_rfl, rfl⟩, ?qm30⟩)
        refine rgH (i := 30) (oi := ?qo31) ?qh31 ?qr31
        case qh31 => (simp only [List.getElem?_toArray, List.getElem?_cons_succ, List.getElem?_cons_zero]; rfl)
        (refine ⟨by kernel_rfl, by kernel_rfl, by kernel_rfl, by assumption, undef, fun _ _ _ h => h, Or.inr ⟨by kernel_rfl, rfl⟩, ?qm31⟩)
        refine rgH (i := 31) (oi := ?qo32) ?qh32 ?qr32
        case qh32 => (simp only [List.getElem?_toArray, List.getElem?_cons_succ, List.getElem?_cons_zero]; rfl)
        (refine ⟨by kernel_rfl, by kernel_rfl, by kernel_rfl, by assumption, undef, fun _ _ _ h => h, Or.inr ⟨by kernel_rfl, rfl⟩, ?qm32⟩)
        (try simp only [Act.put, List.setIfInBounds_toArray, List.set_cons_zero, List.set_cons_succ])
        refine rgH (i := 32) (oi := ?qo33) ?qh33 ?qr33
        case qh33 => (simp only [List.getElem?_toArray, List.getElem?_cons_succ, List.getElem?_cons_zero]; rfl)
        (refine ⟨by kernel_rfl, by kernel_rfl, by kernel_rfl, by assumption, undef, fun _ _ _ h => h, Or.inr ⟨by kernel_rfl, rfl⟩, ?qm33⟩)
        refine rgH (i := 33) (oi := ?qo34) ?qh34 ?qr34
        case qh34 => (simp only [List.getElem?_toArray, List.getElem?_cons_succ, List.getElem?_cons_zero]; rfl)
        (refine ⟨by kernel_rfl, by kernel_rfl, by kernel_rfl, by assumption, undef, fun _ _ _ h => h, Or.inr ⟨by kernel_rfl, rfl⟩, ?qm34⟩)
        refine rgH (i := 34) (oi := ?qo35) ?qh35 ?qr35
        case qh35 => (simp only [List.getElem?_toArray, List.getElem?_cons_succ, List.getElem?_cons_zero]; rfl)
        (refine ⟨by kernel_rfl, by kernel_rfl, by kernel_rfl, by assumption, undef, fun _ _ _ h => h, Or.inr ⟨by kernel_rfl, rfl⟩, ?qm35⟩)
        refine rgH (i := 35) (oi := ?qo36) ?qh36 ?qr36
        case qh36 => (simp only [List.getElem?_toArray, List.getElem?_cons_succ, List.getElem?_cons_zero]; rfl)
        (refine ⟨by kernel_rfl, by kernel_rfl, by kernel_rfl, by assumption, undef, fun _ _ _ h => h, Or.inr ⟨by kernel_rfl, rfl⟩, ?qm36⟩)
        (try simp only [Act.put, List.setIfInBounds_toArray, List.set_cons_zero, List.set_cons_succ])
        refine rgH (i := 36) (oi := ?qo37) ?qh37 ?qr37
        case qh37 => (simp only [List.getElem?_toArray, List.getElem?_cons_succ, List.getElem?_cons_zero]; rfl)
        (refine ⟨by kernel_rfl, by kernel_rfl, by kernel_rfl, by assumption, undef, fun _ _ _ h => h, Or.inr ⟨by kernel_rfl, rfl⟩, ?qm37⟩)
        refine rgH (i := 37) (oi := ?qo38) ?qh38 ?qr38
        case qh38 => (simp only [List.getElem?_toArray, List.getElem?_cons_succ, List.getElem?_cons_zero]; rfl)
        (refine ⟨by kernel_rfl, by kernel_rfl, by kernel_rfl, by assumption, undef, fun _ _ _ h => h, Or.inr ⟨by kernel_rfl, rfl⟩, ?qm38⟩)
        refine rgH (i := 38) (oi := ?qo39) ?qh39 ?qr39
        case qh39 => (simp only [List.getElem?_toArray, List.getElem?_cons_succ, List.getElem?_cons_zero]; rfl)
        (refine ⟨by kernel_rfl, by kernel_rfl, by kernel_rfl, by assumption, undef, fun _ _ _ h => h, Or.inr ⟨by kernel_rfl, rfl⟩, ?qm39⟩)
        (try simp only [Act.put, List.setIfInBounds_toArray, List.set_cons_zero, List.set_cons_succ])
        refine rgH (i := 39) (oi := ?qo40) ?qh40 ?qr40
        case qh40 => (simp only [List.getElem?_toArray, List.getElem?_cons_succ, List.getElem?_cons_zero]; rfl)
        (refine ⟨by kernel_rfl, by kernel_rfl, by kernel_rfl, by assumption, ?qv40, fun _ _ _ h => h, Or.inl ⟨by kernel_rfl, ?qy40⟩, ?qn40⟩; case qy40 => (intro w hSw; (try dsimp only at hSw); go_simp; try with_reducible rfl))
        (try simp only [Act.put, List.setIfInBounds_toArray, List.set_cons_zero, List.set_cons_succ])
        refine wpAnyH_done (by kernel_rfl) ?_ _
        go_wp2
        go_ret
        exact ⟨ret_bool (by rw [HHD.out, ptsOk_false HST.out hlt]), bel_next HW1.out HW1.out.size HBR.out.drew⟩
      · cases A
        · have HST : Hid (stepOk d2.length d3 k = false) := HSF.out rfl
          go_wp2
          refine wp_region_held_drew (S := fun w' => w'.cell? ⟨g, 2, none⟩ = some (.slice a2 d2.length p2) ∧ w'.cell? ⟨g, 3, none⟩ = some (.slice (some ⟨b, off, none⟩) d3.length p3) ∧ w'.cell? ⟨b, off + k * 2, none⟩ = some (.int .i64 x) ∧ w'.cell? ⟨b, off + k * 2 + 1, none⟩ = some (.slice a' ts.length cap')) (by kernel_rfl) ⟨s2, s3, hc, hc'⟩ (fun hHeld => ?_)
          refine rgH (i := 0) (oi := ?qo41) ?qh41 ?qr41
          case qh41 => (simp only [List.getElem?_toArray, List.getElem?_cons_succ, List.getElem?_cons_zero]; rfl)
          (refine ⟨by kernel_rfl, by kernel_rfl, by kernel_rfl, by assumption, ?qv41, fun _ _ _ h => h, Or.inl ⟨by kernel_rfl, ?qy41⟩, ?qn41⟩; case qy41 => (intro w hSw; (try dsimp only at hSw); go_simp; try with_reducible rfl))
          refine rgH (i := 1) (oi := ?qo42) ?qh42 ?qr42
          case qh42 => (simp only [List.getElem?_toArray, List.getElem?_cons_succ, List.getElem?_cons_zero]; rfl)
          (refine ⟨by kernel_rfl, by kernel_rfl, by kernel_rfl, by assumption, ?qv42, fun _ _ _ h => h, Or.inl ⟨by kernel_rfl, ?qy42⟩, ?qn42⟩; case qy42 => (intro w hSw; (try dsimp only at hSw); go_simp; try with_reducible rfl))
          refine rgH (i := 2) (oi := ?qo43) ?qh43 ?qr43
          case qh43 => (simp only [List.getElem?_toArray, List.getElem?_cons_succ, List.getElem?_cons_zero]; rfl)
          (refine ⟨by kernel_rfl, by kernel_rfl, by kernel_rfl, by assumption, ?qv43, fun _ _ _ h => h, Or.inl ⟨by kernel_rfl, ?qy43⟩, ?qn43⟩; case qy43 => (intro w hSw; (try dsimp only at hSw); go_simp; try with_reducible rfl))
          refine rgH (i := 3) (oi := ?qo44) ?qh44 ?qr44
          case qh44 => (simp only [List.getElem?_toArray, List.getElem?_cons_succ, List.getElem?_cons_zero]; rfl)
          (refine ⟨by kernel_rfl, by kernel_rfl, by kernel_rfl, by assumption, ?qv44, fun _ _ _ h => h, Or.inl ⟨by kernel_rfl, ?qy44⟩, ?qn44⟩; case qy44 => (intro w hSw; (try dsimp only at hSw); go_simp; try with_reducible rfl))
          (try simp only [Act.put, List.setIfInBounds_toArray, List.set_cons_zero, List.set_cons_succ])
          refine rgH (i := 4) (oi := ?qo45) ?qh45 ?qr45
          case qh45 => (simp only [List.getElem?_toArray, List.getElem?_cons_succ, List.getElem?_cons_zero]; rfl)
          (refine ⟨by kernel_rfl, by kernel_rfl, by kernel_rfl, by assumption, ?qv45, fun _ _ _ h => h, Or.inl ⟨by kernel_rfl, ?qy45⟩, ?qn45⟩; case qy45 => (intro w hSw; (try dsimp only at hSw); go_simp; try with_reducible rfl))
          refine rgH (i := 5) (oi := ?qo46) ?qh46 ?qr46
          case qh46 => (simp only [List.getElem?_toArray, List.getElem?_cons_succ, List.getElem?_cons_zero]; rfl)
          (refine ⟨by kernel_rfl, by kernel_rfl, by kernel_rfl, by assumption, ?qv46, fun _ _ _ h => h, Or.inl ⟨by kernel_rfl, ?qy46⟩, ?qn46⟩; case qy46 => (intro w hSw; (try dsimp only at hSw); go_simp; try with_reducible rfl))
          refine rgH (i := 6) (oi := ?qo47) ?qh47 ?qr47
          case qh47 => (simp only [List.getElem?_toArray, List.getElem?_cons_succ, List.getElem?_cons_zero]; rfl)
          (refine ⟨by kernel_rfl, by kernel_rfl, by kernel_rfl, by assumption, ?qv47, fun _ _ _ h => h, Or.inl ⟨by kernel_rfl, ?qy47⟩, ?qn47⟩; case qy47 => (intro w hSw; (try dsimp only at hSw); go_simp; try with_reducible rfl))
          refine rgH (i := 7) (oi := ?qo48) ?qh48 ?qr48
          case qh48 => (simp only [List.getElem?_toArray, List.getElem?_cons_succ, List.getElem?_cons_zero]; rfl)
          (refine ⟨by kernel_rfl, by kernel_rfl, by kernel_rfl, by assumption, ?qv48, fun _ _ _ h => h, Or.inl ⟨by kernel_rfl, ?qy48⟩, ?qn48⟩; case qy48 => (intro w hSw; (try dsimp only at hSw); go_simp; try with_reducible rfl))
          (try simp only [Act.put, List.setIfInBounds_toArray, List.set_cons_zero, List.set_cons_succ])
          refine rgH (i := 8) (oi := ?qo49) ?qh49 ?qr49
          case qh49 => (simp only [List.getElem?_toArray, List.getElem?_cons_succ, List.getElem?_cons_zero]; rfl)
          (refine ⟨by kernel_rfl, by kernel_rfl, by kernel_rfl, by assumption, ?qv49, fun _ _ _ h => h, Or.inl ⟨by kernel_rfl, ?qy49⟩, ?qn49⟩; case qy49 => (intro w hSw; (try dsimp only at hSw); go_simp; try with_reducible rfl))
          refine rgH (i := 9) (oi := ?qo50) ?qh50 ?qr50
          case qh50 => (simp only [List.getElem?_toArray, List.getElem?_cons_succ, List.getElem?_cons_zero]; rfl)
          (refine ⟨by kernel_rfl, by kernel_rfl, by kernel_rfl, by assumption, ?qv50, fun _ _ _ h => h, Or.inl ⟨by kernel_rfl, ?qy50⟩, ?qn50⟩; case qy50 => (intro w hSw; (try dsimp only at hSw); go_simp; try with_reducible rfl))
          (try simp only [Act.put, List.setIfInBounds_toArray, List.set_cons_zero, List.set_cons_succ])
          refine wpAnyH_ready (rs := [10]) (by kernel_rfl) (by simp) ?_
          refine rgHcall (i := 10) (o := ?qo51) ?qh51 ?qk51
          case qh51 => (simp only [List.getElem?_toArray, List.getElem?_cons_succ, List.getElem?_cons_zero]; rfl)
          intro K hK
          go_simp
          (go_at_call 68; refine (c_l00In _ _ _ _).mono ?_; rintro e w2 ⟨rfl, rfl⟩; rw [HI.out])
          refine hK.out _ _ hHeld (fun hHeld => ?_)
          clear hK K
          refine rgH (i := 11) (oi := ?qo52) ?qh52 ?qr52
          case qh52 => (simp only [List.getElem?_toArray, List.getElem?_cons_succ, List.getElem?_cons_zero]; rfl)
          (refine ⟨by kernel_rfl, by kernel_rfl, by kernel_rfl, by assumption, ?qv52, fun _ _ _ h => h, Or.inl ⟨by kernel_rfl, ?qy52⟩, ?qn52⟩; case qy52 => (intro w hSw; (try dsimp only at hSw); go_simp; try with_reducible rfl))
          (try simp only [Act.put, List.setIfInBounds_toArray, List.set_cons_zero, List.set_cons_succ])
          refine rgH (i := 12) (oi := ?qo53) ?qh53 ?qr53
          case qh53 => (simp only [List.getElem?_toArray, List.getElem?_cons_succ, List.getElem?_cons_zero]; rfl)
          (refine ⟨by kernel_rfl, by kernel_rfl, by kernel_rfl, by assumption, ?qv53, fun _ _ _ h => h, Or.inl ⟨by kernel_rfl, ?qy53⟩, ?qn53⟩; case qy53 => (intro w hSw; (try dsimp only at hSw); go_simp; try with_reducible rfl))
          refine rgH (i := 13) (oi := ?qo54) ?qh54 ?qr54
          case qh54 => (simp only [List.getElem?_toArray, List.getElem?_cons_succ, List.getElem?_cons_zero]; rfl)
          (refine ⟨by kernel_rfl, by kernel_rfl, by kernel_rfl, by assumption, ?qv54, fun _ _ _ h => h, Or.inl ⟨by kernel_rfl, ?qy54⟩, ?qn54⟩; case qy54 => (intro w hSw; (try dsimp only at hSw); go_simp; try with_reducible rfl))
          refine rgH (i := 14) (oi := ?qo55) ?qh55 ?qr55
          case qh55 => (simp only [List.getElem?_toArray, List.getElem?_cons_succ, List.getElem?_cons_zero]; rfl)
          (refine ⟨by kernel_rfl, by kernel_rfl, by kernel_rfl, by assumption, ?qv55, fun _ _ _ h => h, Or.inl ⟨by kernel_rfl, ?qy55⟩, ?qn55⟩; case qy55 => (intro w hSw; (try dsimp only at hSw); go_simp; try with_reducible rfl))
          refine rgH (i := 15) (oi := ?qo56) ?qh56 ?qr56
          case qh56 => (simp only [List.getElem?_toArray, List.getElem?_cons_succ, List.getElem?_cons_zero]; rfl)
          (refine ⟨by kernel_rfl, by kernel_rfl, by kernel_rfl, by assumption, ?qv56, fun _ _ _ h => h, Or.inl ⟨by kernel_rfl, ?qy56⟩, ?qn56⟩; case qy56 => (intro w hSw; (try dsimp only at hSw); go_simp; try with_reducible rfl))
          (try simp only [Act.put, List.setIfInBounds_toArray, List.set_cons_zero, List.set_cons_succ])
          refine rgH (i := 16) (oi := ?qo57) ?qh57 ?qr57
          case qh57 => (simp only [List.getElem?_toArray, List.getElem?_cons_succ, List.getElem?_cons_zero]; rfl)
          (refine ⟨by kernel_rfl, by kernel_rfl, by kernel_rfl, by assumption, ?qv57, fun _ _ _ h => h, Or.inl ⟨by kernel_rfl, ?qy57⟩, ?qn57⟩; case qy57 => (intro w hSw; (try dsimp only at hSw); go_simp; try with_reducible rfl))
          (try simp only [Act.put, List.setIfInBounds_toArray, List.set_cons_zero, List.set_cons_succ])
          refine wpAnyH_ready (rs := [17]) (by kernel_rfl) (by simp) ?_
          refine rgHcall (i := 17) (o := ?qo58) ?qh58 ?qk58
          case qh58 => (simp only [List.getElem?_toArray, List.getElem?_cons_succ, List.getElem?_cons_zero]; rfl)
          intro K hK
          go_simp
          (go_at_call 111; refine (c_l08Facts _ _ _ _ HS.out.drew).mono ?_; rintro e w2 ⟨rfl, rfl⟩; rw [HA.out])
          refine hK.out _ _ hHeld (fun hHeld => ?_)
          clear hK K
          refine rgH (i := 18) (oi := ?qo59) ?qh59 ?qr59
          case qh59 => (simp only [List.getElem?_toArray, List.getElem?_cons_succ, List.getElem?_cons_zero]; rfl)
          (refine ⟨by kernel_rfl, by kernel_rfl, by kernel_rfl, by assumption, ?qv59, fun _ _ _ h => h, Or.inl ⟨by kernel_rfl, ?qy59⟩, ?qn59⟩; case qy59 => (intro w hSw; (try dsimp only at hSw); go_simp; try with_reducible rfl))
          refine rgH (i := 19) (oi := ?qo60) ?qh60 ?qr60
          case qh60 => (simp only [List.getElem?_toArray, List.getElem?_cons_succ, List.getElem?_cons_zero]; rfl)
          (refine ⟨by kernel_rfl, by kernel_rfl, by kernel_rfl, by assumption, ?qv60, fun _ _ _ h => h, Or.inl ⟨by kernel_rfl, ?qy60⟩, ?qn60⟩; case qy60 => (intro w hSw; (try dsimp only at hSw); go_simp; try with_reducible rfl))
          (try simp only [Act.put, List.setIfInBounds_toArray, List.set_cons_zero, List.set_cons_succ])
          refine rgH (i := 20) (oi := ?qo61) ?qh61 ?qr61
          case qh61 => (simp only [List.getElem?_toArray, List.getElem?_cons_succ, List.getElem?_cons_zero]; rfl)
          (refine ⟨by kernel_rfl, by kernel_rfl, by kernel_rfl, by assumption, ?qv61, fun _ _ _ h => h, Or.inl ⟨by kernel_rfl, ?qy61⟩, ?qn61⟩; case qy61 => (intro w hSw; (try dsimp only at hSw); go_simp; try with_reducible rfl))
          (try simp only [Act.put, List.setIfInBounds_toArray, List.set_cons_zero, List.set_cons_succ])
          refine rgH (i := 21) (oi := ?qo62) ?qh62 ?qr62
          case qh62 => (simp only [List.getElem?_toArray, List.getElem?_cons_succ, List.getElem?_cons_zero]; rfl)
          (refine ⟨by kernel_rfl, by kernel_rfl, by kernel_rfl, by assumption, undef, fun _ _ _ h => h, Or.inr ⟨by kernel_rfl, rfl⟩, ?qm62⟩)
          refine rgH (i := 22) (oi := ?qo63) ?qh63 ?qr63
          case qh63 => (simp only [List.getElem?_toArray, List.getElem?_cons_succ, List.getElem?_cons_zero]; rfl)
          (refine ⟨by kernel_rfl, by kernel_rfl, by kernel_rfl, by assumption, undef, fun _ _ _ h => h, Or.inr ⟨by kernel_rfl, rfl⟩, ?qm63⟩)
          refine rgH (i := 23) (oi := ?qo64) ?qh64 ?qr64
          case qh64 => (simp only [List.getElem?_toArray, List.getElem?_cons_succ, List.getElem?_cons_zero]; rfl)
          (refine ⟨by kernel_rfl, by kernel_rfl, by kernel_rfl, by assumption, undef, fun _ _ _ h => h, Or.inr ⟨by kernel_rfl, rfl⟩, ?qm64⟩)
          (try simp only [Act.put, List.setIfInBounds_toArray, List.set_cons_zero, List.set_cons_succ])
          refine rgH (i := 24) (oi := ?qo65) ?qh65 ?qr65
          case qh65 => (simp only [List.getElem?_toArray, List.getElem?_cons_succ, List.getElem?_cons_zero]; rfl)
          (refine ⟨by kernel_rfl, by kernel_rfl, by kernel_rfl, by assumption, undef, fun _ _ _ h => h, Or.inr ⟨by kernel_rfl, rfl⟩, ?qm65⟩)
          refine rgH (i := 25) (oi := ?qo66) ?qh66 ?qr66
          case qh66 => (simp only [List.getElem?_toArray, List.getElem?_cons_succ, List.getElem?_cons_zero]; rfl)
          (refine ⟨by kernel_rfl, by kernel_rfl, by kernel_rfl, by assumption, undef, fun _ _ _ h => h, Or.inr ⟨by kernel_rfl, rfl⟩, ?qm66⟩)
          refine rgH (i := 26) (oi := ?qo67) ?qh67 ?qr67
          case qh67 => (simp only [List.getElem?_toArray, List.getElem?_cons_succ, List.getElem?_cons_zero]; rfl)
          (refine ⟨by kernel_rfl, by kernel_rfl, by kernel_rfl, by assumption, undef, fun _ _ _ h => h, Or.inr ⟨by kernel_rfl, rfl⟩, ?qm67⟩)
          refine rgH (i := 27) (oi := ?qo68) ?qh68 ?qr68
          case qh68 => (simp only [List.getElem?_toArray, List.getElem?_cons_succ, List.getElem?_cons_zero]; rfl)
          (refine ⟨by kernel_rfl, by kernel_rfl, by kernel_rfl, by assumption, undef, fun _ _ _ h => h, Or.inr ⟨by kernel_rfl, rfl⟩, ?qm68⟩)
          (try simp only [Act.put, List.setIfInBounds_toArray, List.set_cons_zero, List.set_cons_succ])
          refine rgH (i := 28) (oi := ?qo69) ?qh69 ?qr69
          case qh69 => (simp only [List.getElem?_toArray, List.getElem?_cons_succ, List.getElem?_cons_zero]; rfl)
          (refine ⟨by kernel_rfl, by kernel_rfl, by kernel_rfl, by assumption, undef, fun _ _ _ h => h, Or.inr ⟨by kernel_rfl, rfl⟩, ?qm69⟩)
          refine rgH (i := 29) (oi := ?qo70) ?qh70 ?qr70
          case qh70 => (simp only [List.getElem?_toArray, List.getElem?_cons_succ, List.getElem?_cons_zero]; rfl)
          (refine ⟨by kernel_rfl, by kernel_rfl, by kernel_rfl, by assumption, undef, fun _ _ _ h => h, Or.inr ⟨by kernel_rfl, rfl⟩, ?qm70⟩)
          refine rgH (i := 30) (oi := ?qo71) ?qh71 ?qr71
          case qh71 => (simp only [List.getElem?_toArray, List.getElem?_cons_succ, List.getElem?_cons_zero]; rfl)
          (refine ⟨by kernel_rfl, by kernel_rfl, by kernel_rfl, by assumption, undef, fun _ _ _ h => h, Or.inr ⟨by kernel_rfl, rfl⟩, ?qm71⟩)
          refine rgH (i := 31) (oi := ?qo72) ?qh72 ?qr72
          case qh72 => (simp only [List.getElem?_toArray, List.getElem?_cons_succ, List.getElem?_cons_zero]; rfl)
          (refine ⟨by kernel_rfl, by kernel_rfl, by kernel_rfl, by assumption, undef, fun _ _ _ h => h, Or.inr ⟨by kernel_rfl, rfl⟩, ?qm72⟩)
          (try simp only [Act.put, List.setIfInBounds_toArray, List.set_cons_zero, List.set_cons_succ])
          refine rgH (i := 32) (oi := ?qo73) ?qh73 ?qr73
          case qh73 => (simp only [List.getElem?_toArray, List.getElem?_cons_succ, List.getElem?_cons_zero]; rfl)
          (refine ⟨by kernel_rfl, by kernel_rfl, by kernel_rfl, by assumption, undef, fun _ _ _ h => h, Or.inr ⟨by kernel_rfl, rfl⟩, ?qm73⟩)
          refine rgH (i := 33) (oi := ?qo74) ?qh74 ?qr74
          case qh74 => (simp only [List.getElem?_toArray, List.getElem?_cons_succ, List.getElem?_cons_zero]; rfl)
          (refine ⟨by kernel_rfl, by kernel_rfl, by kernel_rfl, by assumption, undef, fun _ _ _ h => h, Or.inr ⟨by kernel_rfl, rfl⟩, ?qm74⟩)
          refine rgH (i := 34) (oi := ?qo75) ?qh75 ?qr75
          case qh75 => (simp only [List.getElem?_toArray, List.getElem?_cons_succ, List.getElem?_cons_zero]; rfl)
          (refine ⟨by kernel_rfl, by kernel_rfl, by kernel_rfl, by assumption, undef, fun _ _ _ h => h, Or.inr ⟨by kernel_rfl, rfl⟩, ?qm75⟩)
          refine rgH (i := 35) (oi := ?qo76) ?qh76 ?qr76
          case qh76 => (simp only [List.getElem?_toArray, List.getElem?_cons_succ, List.getElem?_cons_zero]; rfl)
          (refine ⟨by kernel_rfl, by kernel_rfl, by kernel_rfl, by assumption, undef, fun _ _ _ h => h, Or.inr ⟨by kernel_rfl, rfl⟩, ?qm76⟩)
          (try simp only [Act.put, List.setIfInBounds_toArray, List.set_cons_zero, List.set_cons_succ])
          refine rgH (i := 36) (oi := ?qo77) ?qh77 ?qr77
          case qh77 => (simp only [List.getElem?_toArray, List.getElem?_cons_succ, List.getElem?_cons_zero]; rfl)
          (refine ⟨by kernel_rfl, by kernel_rfl, by kernel_rfl, by assumption, undef, fun _ _ _ h => h, Or.inr ⟨by kernel_rfl, rfl⟩, ?qm77⟩)
          refine rgH (i := 37) (oi := ?qo78) ?qh78 ?qr78
          case qh78 => (simp only [List.getElem?_toArray, List.getElem?_cons_succ, List.getElem?_cons_zero]; rfl)
          (refine ⟨by kernel_rfl, by kernel_rfl, by kernel_rfl, by assumption, undef, fun _ _ _ h => h, Or.inr ⟨by kernel_rfl, rfl⟩, ?qm78⟩)
          refine rgH (i := 38) (oi := ?qo79) ?qh79 ?qr79
          case qh79 => (simp only [List.getElem?_toArray, List.getElem?_cons_succ, List.getElem?_cons_zero]; rfl)
          (refine ⟨by kernel_rfl, by kernel_rfl, by kernel_rfl, by assumption, undef, fun _ _ _ h => h, Or.inr ⟨by kernel_rfl, rfl⟩, ?qm79⟩)
          (try simp only [Act.put, List.setIfInBounds_toArray, List.set_cons_zero, List.set_cons_succ])
          refine rgH (i := 39) (oi := ?qo80) ?qh80 ?qr80
          case qh80 => (simp only [List.getElem?_toArray, List.getElem?_cons_succ, List.getElem?_cons_zero]; rfl)
          (refine ⟨by kernel_rfl, by kernel_rfl, by kernel_rfl, by assumption, ?qv80, fun _ _ _ h => h, Or.inl ⟨by kernel_rfl, ?qy80⟩, ?qn80⟩; case qy80 => (intro w hSw; (try dsimp only at hSw); go_simp; try with_reducible rfl))
          (try simp only [Act.put, List.setIfInBounds_toArray, List.set_cons_zero, List.set_cons_succ])
          refine wpAnyH_done (by kernel_rfl) ?_ _
          go_wp2
          go_ret
          exact ⟨ret_bool (by rw [HHD.out, ptsOk_false HST.out hlt]), bel_next HW1.out HW1.out.size HBR.out.drew⟩
        · clear HSF
          by_cases hk0 : k = 0
          · have e0 : decide ((0 : Int) < (k : Int)) = false := by simp; omega
            have e0n : decide (0 < k) = false := by simp; omega
            have HST : Hid (stepOk d2.length d3 k = true) := by
              have hz := HZ.out
              unfold Hid; subst hk0; rw [stepOk_zero hz, HA.out, HI.out]; rfl
            clear hk0
            go_wp2
            refine wp_region_held_drew (S := fun w' => w'.cell? ⟨g, 2, none⟩ = some (.slice a2 d2.length p2) ∧ w'.cell? ⟨g, 3, none⟩ = some (.slice (some ⟨b, off, none⟩) d3.length p3) ∧ w'.cell? ⟨b, off + k * 2, none⟩ = some (.int .i64 x) ∧ w'.cell? ⟨b, off + k * 2 + 1, none⟩ = some (.slice a' ts.length cap')) (by kernel_rfl) ⟨s2, s3, hc, hc'⟩ (fun hHeld => ?_)
            refine rgH (i := 0) (oi := ?qo81) ?qh81 ?qr81
            case qh81 => (simp only [List.getElem?_toArray, List.getElem?_cons_succ, List.getElem?_cons_zero]; rfl)
            (refine ⟨by kernel_rfl, by kernel_rfl, by kernel_rfl, by assumption, ?qv81, fun _ _ _ h => h, Or.inl ⟨by kernel_rfl, ?qy81⟩, ?qn81⟩; case qy81 => (intro w hSw; (try dsimp only at hSw); go_simp; try with_reducible rfl))
            refine rgH (i := 1) (oi := ?qo82) ?qh82 ?qr82
            case qh82 => (simp only [List.getElem?_toArray, List.getElem?_cons_succ, List.getElem?_cons_zero]; rfl)
            (refine ⟨by kernel_rfl, by kernel_rfl, by kernel_rfl, by assumption, ?qv82, fun _ _ _ h => h, Or.inl ⟨by kernel_rfl, ?qy82⟩, ?qn82⟩; case qy82 => (intro w hSw; (try dsimp only at hSw); go_simp; try with_reducible rfl))
            refine rgH (i := 2) (oi := ?qo83) ?qh83 ?qr83
            case qh83 => (simp only [List.getElem?_toArray, List.getElem?_cons_succ, List.getElem?_cons_zero]; rfl)
            (refine ⟨by kernel_rfl, by kernel_rfl, by kernel_rfl, by assumption, ?qv83, fun _ _ _ h => h, Or.inl ⟨by kernel_rfl, ?qy83⟩, ?qn83⟩; case qy83 => (intro w hSw; (try dsimp only at hSw); go_simp; try with_reducible rfl))
            refine rgH (i := 3) (oi := ?qo84) ?qh84 ?qr84
            case qh84 => (simp only [List.getElem?_toArray, List.getElem?_cons_succ, List.getElem?_cons_zero]; rfl)
            (refine ⟨by kernel_rfl, by kernel_rfl, by kernel_rfl, by assumption, ?qv84, fun _ _ _ h => h, Or.inl ⟨by kernel_rfl, ?qy84⟩, ?qn84⟩; case qy84 => (intro w hSw; (try dsimp only at hSw); go_simp; try with_reducible rfl))
            (try simp only [Act.put, List.setIfInBounds_toArray, List.set_cons_zero, List.set_cons_succ])
            refine rgH (i := 4) (oi := ?qo85) ?qh85 ?qr85
            case qh85 => (simp only [List.getElem?_toArray, List.getElem?_cons_succ, List.getElem?_cons_zero]; rfl)
            (refine ⟨by kernel_rfl, by kernel_rfl, by kernel_rfl, by assumption, ?qv85, fun _ _ _ h => h, Or.inl ⟨by kernel_rfl, ?qy85⟩, ?qn85⟩; case qy85 => (intro w hSw; (try dsimp only at hSw); go_simp; try with_reducible rfl))
            refine rgH (i := 5) (oi := ?qo86) ?qh86 ?qr86
            case qh86 => (simp only [List.getElem?_toArray, List.getElem?_cons_succ, List.getElem?_cons_zero]; rfl)
            (refine ⟨by kernel_rfl, by kernel_rfl, by kernel_rfl, by assumption, ?qv86, fun _ _ _ h => h, Or.inl ⟨by kernel_rfl, ?qy86⟩, ?qn86⟩; case qy86 => (intro w hSw; (try dsimp only at hSw); go_simp; try with_reducible rfl))
            refine rgH (i := 6) (oi := ?qo87) ?qh87 ?qr87
            case qh87 => (simp only [List.getElem?_toArray, List.getElem?_cons_succ, List.getElem?_cons_zero]; rfl)
            (refine ⟨by kernel_rfl, by kernel_rfl, by kernel_rfl, by assumption, ?qv87, fun _ _ _ h => h, Or.inl ⟨by kernel_rfl, ?qy87⟩, ?qn87⟩; case qy87 => (intro w hSw; (try dsimp only at hSw); go_simp; try with_reducible rfl))
            refine rgH (i := 7) (oi := ?qo88) ?qh88 ?qr88
            case qh88 => (simp only [List.getElem?_toArray, List.getElem?_cons_succ, List.getElem?_cons_zero]; rfl)
            (refine ⟨by kernel_rfl, by kernel_rfl, by kernel_rfl, by assumption, ?qv88, fun _ _ _ h => h, Or.inl ⟨by kernel_rfl, ?qy88⟩, ?qn88⟩; case qy88 => (intro w hSw; (try dsimp only at hSw); go_simp; try with_reducible rfl))
            (try simp only [Act.put, List.setIfInBounds_toArray, List.set_cons_zero, List.set_cons_succ])
            refine rgH (i := 8) (oi := ?qo89) ?qh89 ?qr89
            case qh89 => (simp only [List.getElem?_toArray, List.getElem?_cons_succ, List.getElem?_cons_zero]; rfl)
            (refine ⟨by kernel_rfl, by kernel_rfl, by kernel_rfl, by assumption, ?qv89, fun _ _ _ h => h, Or.inl ⟨by kernel_rfl, ?qy89⟩, ?qn89⟩; case qy89 => (intro w hSw; (try dsimp only at hSw); go_simp; try with_reducible rfl))
            refine rgH (i := 9) (oi := ?qo90) ?qh90 ?qr90
            case qh90 => (simp only [List.getElem?_toArray, List.getElem?_cons_succ, List.getElem?_cons_zero]; rfl)
            (refine ⟨by kernel_rfl, by kernel_rfl, by kernel_rfl, by assumption, ?qv90, fun _ _ _ h => h, Or.inl ⟨by kernel_rfl, ?qy90⟩, ?qn90⟩; case qy90 => (intro w hSw; (try dsimp only at hSw); go_simp; try with_reducible rfl))
            (try simp only [Act.put, List.setIfInBounds_toArray, List.set_cons_zero, List.set_cons_succ])
            refine wpAnyH_ready (rs := [10]) (by kernel_rfl) (by simp) ?_
            refine rgHcall (i := 10) (o := ?qo91) ?qh91 ?qk91
            case qh91 => (simp only [List.getElem?_toArray, List.getElem?_cons_succ, List.getElem?_cons_zero]; rfl)
            intro K hK
            go_simp
            (go_at_call 68; refine (c_l00In _ _ _ _).mono ?_; rintro e w2 ⟨rfl, rfl⟩; rw [HI.out])
            refine hK.out _ _ hHeld (fun hHeld => ?_)
            clear hK K
            refine rgH (i := 11) (oi := ?qo92) ?qh92 ?qr92
            case qh92 => (simp only [List.getElem?_toArray, List.getElem?_cons_succ, List.getElem?_cons_zero]; rfl)
            (refine ⟨by kernel_rfl, by kernel_rfl, by kernel_rfl, by assumption, ?qv92, fun _ _ _ h => h, Or.inl ⟨by kernel_rfl, ?qy92⟩, ?qn92⟩; case qy92 => (intro w hSw; (try dsimp only at hSw); go_simp; try with_reducible rfl))
            (try simp only [Act.put, List.setIfInBounds_toArray, List.set_cons_zero, List.set_cons_succ])
            refine rgH (i := 12) (oi := ?qo93) ?qh93 ?qr93
            case qh93 => (simp only [List.getElem?_toArray, List.getElem?_cons_succ, List.getElem?_cons_zero]; rfl)
            (refine ⟨by kernel_rfl, by kernel_rfl, by kernel_rfl, by assumption, ?qv93, fun _ _ _ h => h, Or.inl ⟨by kernel_rfl, ?qy93⟩, ?qn93⟩; case qy93 => (intro w hSw; (try dsimp only at hSw); go_simp; try with_reducible rfl))
            refine rgH (i := 13) (oi := ?qo94) ?qh94 ?qr94
            case qh94 => (simp only [List.getElem?_toArray, List.getElem?_cons_succ, List.getElem?_cons_zero]; rfl)
            (refine ⟨by kernel_rfl, by kernel_rfl, by kernel_rfl, by assumption, ?qv94, fun _ _ _ h => h, Or.inl ⟨by kernel_rfl, ?qy94⟩, ?qn94⟩; case qy94 => (intro w hSw; (try dsimp only at hSw); go_simp; try with_reducible rfl))
            refine rgH (i := 14) (oi := ?qo95) ?qh95 ?qr95
            case qh95 => (simp only [List.getElem?_toArray, List.getElem?_cons_succ, List.getElem?_cons_zero]; rfl)
            (refine ⟨by kernel_rfl, by kernel_rfl, by kernel_rfl, by assumption, ?qv95, fun _ _ _ h => h, Or.inl ⟨by kernel_rfl, ?qy95⟩, ?qn95⟩; case qy95 => (intro w hSw; (try dsimp only at hSw); go_simp; try with_reducible rfl))
            refine rgH (i := 15) (oi := ?qo96) ?qh96 ?qr96
            case qh96 => (simp only [List.getElem?_toArray, List.getElem?_cons_succ, List.getElem?_cons_zero]; rfl)
            (refine ⟨by kernel_rfl, by kernel_rfl, by kernel_rfl, by assumption, ?qv96, fun _ _ _ h => h, Or.inl ⟨by kernel_rfl, ?qy96⟩, ?qn96⟩; case qy96 => (intro w hSw; (try dsimp only at hSw); go_simp; try with_reducible rfl))
            (try simp only [Act.put, List.setIfInBounds_toArray, List.set_cons_zero, List.set_cons_succ])
            refine rgH (i := 16) (oi := ?qo97) ?qh97 ?qr97
            case qh97 => (simp only [List.getElem?_toArray, List.getElem?_cons_succ, List.getElem?_cons_zero]; rfl)
            (refine ⟨by kernel_rfl, by kernel_rfl, by kernel_rfl, by assumption, ?qv97, fun _ _ _ h => h, Or.inl ⟨by kernel_rfl, ?qy97⟩, ?qn97⟩; case qy97 => (intro w hSw; (try dsimp only at hSw); go_simp; try with_reducible rfl))
            (try simp only [Act.put, List.setIfInBounds_toArray, List.set_cons_zero, List.set_cons_succ])
            refine wpAnyH_ready (rs := [17]) (by kernel_rfl) (by simp) ?_
            refine rgHcall (i := 17) (o := ?qo98) ?qh98 ?qk98
            case qh98 => (simp only [List.getElem?_toArray, List.getElem?_cons_succ, List.getElem?_cons_zero]; rfl)
            intro K hK
            go_simp
            (go_at_call 111; refine (c_l08Facts _ _ _ _ HS.out.drew).mono ?_; rintro e w2 ⟨rfl, rfl⟩; rw [HA.out])
            refine hK.out _ _ hHeld (fun hHeld => ?_)
            clear hK K
            refine rgH (i := 18) (oi := ?qo99) ?qh99 ?qr99
            case qh99 => (simp only [List.getElem?_toArray, List.getElem?_cons_succ, List.getElem?_cons_zero]; rfl)
            (refine ⟨by kernel_rfl, by kernel_rfl, by kernel_rfl, by assumption, ?qv99, fun _ _ _ h => h, Or.inl ⟨by kernel_rfl, ?qy99⟩, ?qn99⟩; case qy99 => (intro w hSw; (try dsimp only at hSw); go_simp; try with_reducible rfl))
            refine rgH (i := 19) (oi := ?qo100) ?qh100 ?qr100
            case qh100 => (simp only [List.getElem?_toArray, List.getElem?_cons_succ, List.getElem?_cons_zero]; rfl)
            (refine ⟨by kernel_rfl, by kernel_rfl, by kernel_rfl, by assumption, ?qv100, fun _ _ _ h => h, Or.inl ⟨by kernel_rfl, ?qy100⟩, ?qn100⟩; case qy100 => (intro w hSw; (try dsimp only at hSw); go_simp; try with_reducible rfl))
            (try simp only [Act.put, List.setIfInBounds_toArray, List.set_cons_zero, List.set_cons_succ])
            refine rgH (i := 20) (oi := ?qo101) ?qh101 ?qr101
            case qh101 => (simp only [List.getElem?_toArray, List.getElem?_cons_succ, List.getElem?_cons_zero]; rfl)
            (refine ⟨by kernel_rfl, by kernel_rfl, by kernel_rfl, by assumption, ?qv101, fun _ _ _ h => h, Or.inl ⟨by kernel_rfl, ?qy101⟩, ?qn101⟩; case qy101 => (intro w hSw; (try dsimp only at hSw); go_simp; try with_reducible rfl))
            refine rgH (i := 21) (oi := ?qo102) ?qh102 ?qr102
            case qh102 => (simp only [List.getElem?_toArray, List.getElem?_cons_succ, List.getElem?_cons_zero]; rfl)
            (refine ⟨by kernel_rfl, by kernel_rfl, by kernel_rfl, by assumption, ?qv102, fun _ _ _ h => h, Or.inl ⟨by kernel_rfl, ?qy102⟩, ?qn102⟩; case qy102 => (intro w hSw; (try dsimp only at hSw); go_simp; try with_reducible rfl))
            refine rgH (i := 22) (oi := ?qo103) ?qh103 ?qr103
            case qh103 => (simp only [List.getElem?_toArray, List.getElem?_cons_succ, List.getElem?_cons_zero]; rfl)
            (refine ⟨by kernel_rfl, by kernel_rfl, by kernel_rfl, by assumption, ?qv103, fun _ _ _ h => h, Or.inl ⟨by kernel_rfl, ?qy103⟩, ?qn103⟩; case qy103 => (intro w hSw; (try dsimp only at hSw); go_simp; try with_reducible rfl))
            refine rgH (i := 23) (oi := ?qo104) ?qh104 ?qr104
            case qh104 => (simp only [List.getElem?_toArray, List.getElem?_cons_succ, List.getElem?_cons_zero]; rfl)
            (refine ⟨by kernel_rfl, by kernel_rfl, by kernel_rfl, by assumption, ?qv104, fun _ _ _ h => h, Or.inl ⟨by kernel_rfl, ?qy104⟩, ?qn104⟩; case qy104 => (intro w hSw; (try dsimp only at hSw); go_simp; try with_reducible rfl))
            (try simp only [Act.put, List.setIfInBounds_toArray, List.set_cons_zero, List.set_cons_succ])
            refine rgH (i := 24) (oi := ?qo105) ?qh105 ?qr105
            case qh105 => (simp only [List.getElem?_toArray, List.getElem?_cons_succ, List.getElem?_cons_zero]; rfl)
            (refine ⟨by kernel_rfl, by kernel_rfl, by kernel_rfl, by assumption, undef, fun _ _ _ h => h, Or.inr ⟨by kernel_rfl, rfl⟩, ?qm105⟩)
            refine rgH (i := 25) (oi := ?qo106) ?qh106 ?qr106
            case qh106 => (simp only [List.getElem?_toArray, List.getElem?_cons_succ, List.getElem?_cons_zero]; rfl)
            (refine ⟨by kernel_rfl, by kernel_rfl, by kernel_rfl, by assumption, undef, fun _ _ _ h => h, Or.inr ⟨by kernel_rfl, rfl⟩, ?qm106⟩)
            refine rgH (i := 26) (oi := ?qo107) ?qh107 ?qr107
            case qh107 => (simp only [List.getElem?_toArray, List.getElem?_cons_succ, List.getElem?_cons_zero]; rfl)
            (refine ⟨by kernel_rfl, by kernel_rfl, by kernel_rfl, by assumption, undef, fun _ _ _ h => h, Or.inr ⟨by kernel_rfl, rfl⟩, ?qm107⟩)
            refine rgH (i := 27) (oi := ?qo108) ?qh108 ?qr108
            case qh108 => (simp only [List.getElem?_toArray, List.getElem?_cons_succ, List.getElem?_cons_zero]; rfl)
            (refine ⟨by kernel_rfl, by kernel_rfl, by kernel_rfl, by assumption, undef, fun _ _ _ h => h, Or.inr ⟨by kernel_rfl, rfl⟩, ?qm108⟩)
            (try simp only [Act.put, List.setIfInBounds_toArray, List.set_cons_zero, List.set_cons_succ])
            refine rgH (i := 28) (oi := ?qo109) ?qh109 ?qr109
            case qh109 => (simp only [List.getElem?_toArray, List.getElem?_cons_succ, List.getElem?_cons_zero]; rfl)
            (refine ⟨by kernel_rfl, by kernel_rfl, by kernel_rfl, by assumption, undef, fun _ _ _ h => h, Or.inr ⟨by kernel_rfl, rfl⟩, ?qm109⟩)
            refine rgH (i := 29) (oi := ?qo110) ?qh110 ?qr110
            case qh110 => (simp only [List.getElem?_toArray, List.getElem?_cons_succ, List.getElem?_cons_zero]; rfl)
            (refine ⟨by kernel_rfl, by kernel_rfl, by kernel_rfl, by assumption, undef, fun _ _ _ h => h, Or.inr ⟨by kernel_rfl, rfl⟩, ?qm110⟩)
            refine rgH (i := 30) (oi := ?qo111) ?qh111 ?qr111
            case qh111 => (simp only [List.getElem?_toArray, List.getElem?_cons_succ, List.getElem?_cons_zero]; rfl)
            (refine ⟨by kernel_rfl, by kernel_rfl, by kernel_rfl, by assumption, undef, fun _ _ _ h => h, Or.inr ⟨by kernel_rfl, rfl⟩, ?qm111⟩)
            refine rgH (i := 31) (oi := ?qo112) ?qh112 ?qr112
            case qh112 => (simp only [List.getElem?_toArray, List.getElem?_cons_succ, List.getElem?_cons_zero]; rfl)
            (refine ⟨by kernel_rfl, by kernel_rfl, by kernel_rfl, by assumption, undef, fun _ _ _ h => h, Or.inr ⟨by kernel_rfl, rfl⟩, ?qm112⟩)
            (try simp only [Act.put, List.setIfInBounds_toArray, List.set_cons_zero, List.set_cons_succ])
            refine rgH (i := 32) (oi := ?qo113) ?qh113 ?qr113
            case qh113 => (simp only [List.getElem?_toArray, List.getElem?_cons_succ, List.getElem?_cons_zero]; rfl)
            (refine ⟨by kernel_rfl, by kernel_rfl, by kernel_rfl, by assumption, undef, fun _ _ _ h => h, Or.inr ⟨by kernel_rfl, rfl⟩, ?qm113⟩)
            refine rgH (i := 33) (oi := ?qo114) ?qh114 ?qr114
            case qh114 => (simp only [List.getElem?_toArray, List.getElem?_cons_succ, List.getElem?_cons_zero]; rfl)
            (refine ⟨by kernel_rfl, by kernel_rfl, by kernel_rfl, by assumption, undef, fun _ _ _ h => h, Or.inr ⟨by kernel_rfl, rfl⟩, ?qm114⟩)
            refine rgH (i := 34) (oi := ?qo115) ?qh115 ?qr115
            case qh115 => (simp only [List.getElem?_toArray, List.getElem?_cons_succ, List.getElem?_cons_zero]; rfl)
            (refine ⟨by kernel_rfl, by kernel_rfl, by kernel_rfl, by assumption, undef, fun _ _ _ h => h, Or.inr ⟨by kernel_rfl, rfl⟩, ?qm115⟩)
            refine rgH (i := 35) (oi := ?qo116) ?qh116 ?qr116
            case qh116 => (simp only [List.getElem?_toArray, List.getElem?_cons_succ, List.getElem?_cons_zero]; rfl)
            (refine ⟨by kernel_rfl, by kernel_rfl, by kernel_rfl, by assumption, undef, fun _ _ _ h => h, Or.inr ⟨by kernel_rfl, rfl⟩, ?qm116⟩)
            (try simp only [Act.put, List.setIfInBounds_toArray, List.set_cons_zero, List.set_cons_succ])
            refine rgH (i := 36) (oi := ?qo117) ?qh117 ?qr117
            case qh117 => (simp only [List.getElem?_toArray, List.getElem?_cons_succ, List.getElem?_cons_zero]; rfl)
            (refine ⟨by kernel_rfl, by kernel_rfl, by kernel_rfl, by assumption, undef, fun _ _ _ h => h, Or.inr ⟨by kernel_rfl, rfl⟩, ?qm117⟩)
            refine rgH (i := 37) (oi := ?qo118) ?qh118 ?qr118
            case qh118 => (simp only [List.getElem?_toArray, List.getElem?_cons_succ, List.getElem?_cons_zero]; rfl)
            (refine ⟨by kernel_rfl, by kernel_rfl, by kernel_rfl, by assumption, undef, fun _ _ _ h => h, Or.inr ⟨by kernel_rfl, rfl⟩, ?qm118⟩)
            (try simp only [Act.put, List.setIfInBounds_toArray, List.set_cons_zero, List.set_cons_succ])
            refine rgH (i := 38) (oi := ?qo119) ?qh119 ?qr119
            case qh119 => (simp only [List.getElem?_toArray, List.getElem?_cons_succ, List.getElem?_cons_zero]; rfl)
            (refine ⟨by kernel_rfl, by kernel_rfl, by kernel_rfl, by assumption, ?qv119, fun _ _ _ h => h, Or.inl ⟨by kernel_rfl, ?qy119⟩, ?qn119⟩; case qy119 => (intro w hSw; (try dsimp only at hSw); go_simp; try with_reducible rfl))
            refine rgH (i := 39) (oi := ?qo120) ?qh120 ?qr120
            case qh120 => (simp only [List.getElem?_toArray, List.getElem?_cons_succ, List.getElem?_cons_zero]; rfl)
            (refine ⟨by kernel_rfl, by kernel_rfl, by kernel_rfl, by assumption, ?qv120, fun _ _ _ h => h, Or.inl ⟨by kernel_rfl, ?qy120⟩, ?qn120⟩; case qy120 => (intro w hSw; (try dsimp only at hSw); go_simp; try with_reducible rfl))
            (try simp only [Act.put, List.setIfInBounds_toArray, List.set_cons_zero, List.set_cons_succ])
            refine wpAnyH_done (by kernel_rfl) ?_ _
            go_wp2
            go_roundw
            case rel => exact ⟨k + 1, by omega, by go_num, (ptsOk_succ HK.out).trans HST.out, HBR.out.drew⟩
            case measure => simp [intOf]; omega
          · have hk1 : k - 1 < d3.length := by omega
            obtain ⟨y, a'', cap'', ts', hy, hy1, _, yc, _, _⟩ := (H31.out.below (Nat.le_refl _) HBR.out).pt_at (k - 1) hk1
            have HST0 : Hid (stepOk d2.length d3 k = decide (y < x)) := by
              have hz := HZ.out
              obtain ⟨j, rfl⟩ : ∃ j, k = j + 1 := ⟨k - 1, by omega⟩
              unfold Hid; rw [stepOk_succ hz hy, HA.out, HI.out]; simp
            have e0 : decide ((0 : Int) < (k : Int)) = true := by simp; omega
            have e0n : decide (0 < k) = true := by simp; omega
            have vw1 : IntKind.i64.wrap ((k : Int) - 1) = (k : Int) - 1 := wrap_in _ (by omega) (by omega)
            have w2 : ((k : Int) - 1).toNat = k - 1 := by omega
            have w3 : (0 : Int) ≤ (k : Int) - 1 := by omega
            have w4 : (1 : Int) ≤ (k : Int) := by omega
            have w5 : (k : Int) - 1 < (d3.length : Int) := by omega
            have w6 : ¬ (k : Int) - 1 < 0 := by omega
            clear hy
            by_cases hyx : y < x
            · have HST : Hid (stepOk d2.length d3 k = true) := by unfold Hid; rw [HST0.out]; simp [hyx]
              have e1 : decide (x ≤ y) = false := by simp; omega
              go_wp2
              refine wp_region_held_drew (S := fun w' => w'.cell? ⟨g, 2, none⟩ = some (.slice a2 d2.length p2) ∧ w'.cell? ⟨g, 3, none⟩ = some (.slice (some ⟨b, off, none⟩) d3.length p3) ∧ w'.cell? ⟨b, off + k * 2, none⟩ = some (.int .i64 x) ∧ w'.cell? ⟨b, off + k * 2 + 1, none⟩ = some (.slice a' ts.length cap') ∧ w'.cell? ⟨b, off + (k - 1) * 2, none⟩ = some (.int .i64 y)) (by kernel_rfl) ⟨s2, s3, hc, hc', yc⟩ (fun hHeld => ?_)
              refine rgH (i := 0) (oi := ?qo121) ?qh121 ?qr121
              case qh121 => (simp only [List.getElem?_toArray, List.getElem?_cons_succ, List.getElem?_cons_zero]; rfl)
              (refine ⟨by kernel_rfl, by kernel_rfl, by kernel_rfl, by assumption, ?qv121, fun _ _ _ h => h, Or.inl ⟨by kernel_rfl, ?qy121⟩, ?qn121⟩; case qy121 => (intro w hSw; (try dsimp only at hSw); go_simp; try with_reducible rfl))
              refine rgH (i := 1) (oi := ?qo122) ?qh122 ?qr122
              case qh122 => (simp only [List.getElem?_toArray, List.getElem?_cons_succ, List.getElem?_cons_zero]; rfl)
              (refine ⟨by kernel_rfl, by kernel_rfl, by kernel_rfl, by assumption, ?qv122, fun _ _ _ h => h, Or.inl ⟨by kernel_rfl, ?qy122⟩, ?qn122⟩; case qy122 => (intro w hSw; (try dsimp only at hSw); go_simp; try with_reducible rfl))
              refine rgH (i := 2) (oi := ?qo123) ?qh123 ?qr123
              case qh123 => (simp only [List.getElem?_toArray, List.getElem?_cons_succ, List.getElem?_cons_zero]; rfl)
              (refine ⟨by kernel_rfl, by kernel_rfl, by kernel_rfl, by assumption, ?qv123, fun _ _ _ h => h, Or.inl ⟨by kernel_rfl, ?qy123⟩, ?qn123⟩; case qy123 => (intro w hSw; (try dsimp only at hSw); go_simp; try with_reducible rfl))
              refine rgH (i := 3) (oi := ?qo124) ?qh124 ?qr124
              case qh124 => (simp only [List.getElem?_toArray, List.getElem?_cons_succ, List.getElem?_cons_zero]; rfl)
              (refine ⟨by kernel_rfl, by kernel_rfl, by kernel_rfl, by assumption, ?qv124, fun _ _ _ h => h, Or.inl ⟨by kernel_rfl, ?qy124⟩, ?qn124⟩; case qy124 => (intro w hSw; (try dsimp only at hSw); go_simp; try with_reducible rfl))
              (try simp only [Act.put, List.setIfInBounds_toArray, List.set_cons_zero, List.set_cons_succ])
              refine rgH (i := 4) (oi := ?qo125) ?qh125 ?qr125
              case qh125 => (simp only [List.getElem?_toArray, List.getElem?_cons_succ, List.getElem?_cons_zero]; rfl)
              (refine ⟨by kernel_rfl, by kernel_rfl, by kernel_rfl, by assumption, ?qv125, fun _ _ _ h => h, Or.inl ⟨by kernel_rfl, ?qy125⟩, ?qn125⟩; case qy125 => (intro w hSw; (try dsimp only at hSw); go_simp; try with_reducible rfl))
              refine rgH (i := 5) (oi := ?qo126) ?qh126 ?qr126
              case qh126 => (simp only [List.getElem?_toArray, List.getElem?_cons_succ, List.getElem?_cons_zero]; rfl)
              (refine ⟨by kernel_rfl, by kernel_rfl, by kernel_rfl, by assumption, ?qv126, fun _ _ _ h => h, Or.inl ⟨by kernel_rfl, ?qy126⟩, ?qn126⟩; case qy126 => (intro w hSw; (try dsimp only at hSw); go_simp; try with_reducible rfl))
              refine rgH (i := 6) (oi := ?qo127) ?qh127 ?qr127
              case qh127 => (simp only [List.getElem?_toArray, List.getElem?_cons_succ, List.getElem?_cons_zero]; rfl)
              (refine ⟨by kernel_rfl, by kernel_rfl, by kernel_rfl, by assumption, ?qv127, fun _ _ _ h => h, Or.inl ⟨by kernel_rfl, ?qy127⟩, ?qn127⟩; case qy127 => (intro w hSw; (try dsimp only at hSw); go_simp; try with_reducible rfl))
              refine rgH (i := 7) (oi := ?qo128) ?qh128 ?qr128
              case qh128 => (simp only [List.getElem?_toArray, List.getElem?_cons_succ, List.getElem?_cons_zero]; rfl)
              (refine ⟨by kernel_rfl, by kernel_rfl, by kernel_rfl, by assumption, ?qv128, fun _ _ _ h => h, Or.inl ⟨by kernel_rfl, ?qy128⟩, ?qn128⟩; case qy128 => (intro w hSw; (try dsimp only at hSw); go_simp; try with_reducible rfl))
              (try simp only [Act.put, List.setIfInBounds_toArray, List.set_cons_zero, List.set_cons_succ])
              refine rgH (i := 8) (oi := ?qo129) ?qh129 ?qr129
              case qh129 => (simp only [List.getElem?_toArray, List.getElem?_cons_succ, List.getElem?_cons_zero]; rfl)
              (refine ⟨by kernel_rfl, by kernel_rfl, by kernel_rfl, by assumption, ?qv129, fun _ _ _ h => h, Or.inl ⟨by kernel_rfl, ?qy129⟩, ?qn129⟩; case qy129 => (intro w hSw; (try dsimp only at hSw); go_simp; try with_reducible rfl))
              refine rgH (i := 9) (oi := ?qo130) ?qh130 ?qr130
              case qh130 => (simp only [List.getElem?_toArray, List.getElem?_cons_succ, List.getElem?_cons_zero]; rfl)
              (refine ⟨by kernel_rfl, by kernel_rfl, by kernel_rfl, by assumption, ?qv130, fun _ _ _ h => h, Or.inl ⟨by kernel_rfl, ?qy130⟩, ?qn130⟩; case qy130 => (intro w hSw; (try dsimp only at hSw); go_simp; try with_reducible rfl))
              (try simp only [Act.put, List.setIfInBounds_toArray, List.set_cons_zero, List.set_cons_succ])
              refine wpAnyH_ready (rs := [10]) (by kernel_rfl) (by simp) ?_
              refine rgHcall (i := 10) (o := ?qo131) ?qh131 ?qk131
              case qh131 => (simp only [List.getElem?_toArray, List.getElem?_cons_succ, List.getElem?_cons_zero]; rfl)
              intro K hK
              go_simp
              (go_at_call 68; refine (c_l00In _ _ _ _).mono ?_; rintro e w2 ⟨rfl, rfl⟩; rw [HI.out])
              refine hK.out _ _ hHeld (fun hHeld => ?_)
              clear hK K
              refine rgH (i := 11) (oi := ?qo132) ?qh132 ?qr132
              case qh132 => (simp only [List.getElem?_toArray, List.getElem?_cons_succ, List.getElem?_cons_zero]; rfl)
              (refine ⟨by kernel_rfl, by kernel_rfl, by kernel_rfl, by assumption, ?qv132, fun _ _ _ h => h, Or.inl ⟨by kernel_rfl, ?qy132⟩, ?qn132⟩; case qy132 => (intro w hSw; (try dsimp only at hSw); go_simp; try with_reducible rfl))
              (try simp only [Act.put, List.setIfInBounds_toArray, List.set_cons_zero, List.set_cons_succ])
              refine rgH (i := 12) (oi := ?qo133) ?qh133 ?qr133
              case qh133 => (simp only [List.getElem?_toArray, List.getElem?_cons_succ, List.getElem?_cons_zero]; rfl)
              (refine ⟨by kernel_rfl, by kernel_rfl, by kernel_rfl, by assumption, ?qv133, fun _ _ _ h => h, Or.inl ⟨by kernel_rfl, ?qy133⟩, ?qn133⟩; case qy133 => (intro w hSw; (try dsimp only at hSw); go_simp; try with_reducible rfl))
              refine rgH (i := 13) (oi := ?qo134) ?qh134 ?qr134
              case qh134 => (simp only [List.getElem?_toArray, List.getElem?_cons_succ, List.getElem?_cons_zero]; rfl)
              (refine ⟨by kernel_rfl, by kernel_rfl, by kernel_rfl, by assumption, ?qv134, fun _ _ _ h => h, Or.inl ⟨by kernel_rfl, ?qy134⟩, ?qn134⟩; case qy134 => (intro w hSw; (try dsimp only at hSw); go_simp; try with_reducible rfl))
              refine rgH (i := 14) (oi := ?qo135) ?qh135 ?qr135
              case qh135 => (simp only [List.getElem?_toArray, List.getElem?_cons_succ, List.getElem?_cons_zero]; rfl)
              (refine ⟨by kernel_rfl, by kernel_rfl, by kernel_rfl, by assumption, ?qv135, fun _ _ _ h => h, Or.inl ⟨by kernel_rfl, ?qy135⟩, ?qn135⟩; case qy135 => (intro w hSw; (try dsimp only at hSw); go_simp; try with_reducible rfl))
              refine rgH (i := 15) (oi := ?qo136) ?qh136 ?qr136
              case qh136 => (simp only [List.getElem?_toArray, List.getElem?_cons_succ, List.getElem?_cons_zero]; rfl)
              (refine ⟨by kernel_rfl, by kernel_rfl, by kernel_rfl, by assumption, ?qv136, fun _ _ _ h => h, Or.inl ⟨by kernel_rfl, ?qy136⟩, ?qn136⟩; case qy136 => (intro w hSw; (try dsimp only at hSw); go_simp; try with_reducible rfl))
              (try simp only [Act.put, List.setIfInBounds_toArray, List.set_cons_zero, List.set_cons_succ])
              refine rgH (i := 16) (oi := ?qo137) ?qh137 ?qr137
              case qh137 => (simp only [List.getElem?_toArray, List.getElem?_cons_succ, List.getElem?_cons_zero]; rfl)
              (refine ⟨by kernel_rfl, by kernel_rfl, by kernel_rfl, by assumption, ?qv137, fun _ _ _ h => h, Or.inl ⟨by kernel_rfl, ?qy137⟩, ?qn137⟩; case qy137 => (intro w hSw; (try dsimp only at hSw); go_simp; try with_reducible rfl))
              (try simp only [Act.put, List.setIfInBounds_toArray, List.set_cons_zero, List.set_cons_succ])
              refine wpAnyH_ready (rs := [17]) (by kernel_rfl) (by simp) ?_
              refine rgHcall (i := 17) (o := ?qo138) ?qh138 ?qk138
              case qh138 => (simp only [List.getElem?_toArray, List.getElem?_cons_succ, List.getElem?_cons_zero]; rfl)
              intro K hK
              go_simp
              (go_at_call 111; refine (c_l08Facts _ _ _ _ HS.out.drew).mono ?_; rintro e w2 ⟨rfl, rfl⟩; rw [HA.out])
              refine hK.out _ _ hHeld (fun hHeld => ?_)
              clear hK K
              refine rgH (i := 18) (oi := ?qo139) ?qh139 ?qr139
              case qh139 => (simp only [List.getElem?_toArray, List.getElem?_cons_succ, List.getElem?_cons_zero]; rfl)
              (refine ⟨by kernel_rfl, by kernel_rfl, by kernel_rfl, by assumption, ?qv139, fun _ _ _ h => h, Or.inl ⟨by kernel_rfl, ?qy139⟩, ?qn139⟩; case qy139 => (intro w hSw; (try dsimp only at hSw); go_simp; try with_reducible rfl))
              refine rgH (i := 19) (oi := ?qo140) ?qh140 ?qr140
              case qh140 => (simp only [List.getElem?_toArray, List.getElem?_cons_succ, List.getElem?_cons_zero]; rfl)
              (refine ⟨by kernel_rfl, by kernel_rfl, by kernel_rfl, by assumption, ?qv140, fun _ _ _ h => h, Or.inl ⟨by kernel_rfl, ?qy140⟩, ?qn140⟩; case qy140 => (intro w hSw; (try dsimp only at hSw); go_simp; try with_reducible rfl))
              (try simp only [Act.put, List.setIfInBounds_toArray, List.set_cons_zero, List.set_cons_succ])
              refine rgH (i := 20) (oi := ?qo141) ?qh141 ?qr141
              case qh141 => (simp only [List.getElem?_toArray, List.getElem?_cons_succ, List.getElem?_cons_zero]; rfl)
              (refine ⟨by kernel_rfl, by kernel_rfl, by kernel_rfl, by assumption, ?qv141, fun _ _ _ h => h, Or.inl ⟨by kernel_rfl, ?qy141⟩, ?qn141⟩; case qy141 => (intro w hSw; (try dsimp only at hSw); go_simp; try with_reducible rfl))
              refine rgH (i := 21) (oi := ?qo142) ?qh142 ?qr142
              case qh142 => (simp only [List.getElem?_toArray, List.getElem?_cons_succ, List.getElem?_cons_zero]; rfl)
              (refine ⟨by kernel_rfl, by kernel_rfl, by kernel_rfl, by assumption, ?qv142, fun _ _ _ h => h, Or.inl ⟨by kernel_rfl, ?qy142⟩, ?qn142⟩; case qy142 => (intro w hSw; (try dsimp only at hSw); go_simp; try with_reducible rfl))
              refine rgH (i := 22) (oi := ?qo143) ?qh143 ?qr143
              case qh143 => (simp only [List.getElem?_toArray, List.getElem?_cons_succ, List.getElem?_cons_zero]; rfl)
              (refine ⟨by kernel_rfl, by kernel_rfl, by kernel_rfl, by assumption, ?qv143, fun _ _ _ h => h, Or.inl ⟨by kernel_rfl, ?qy143⟩, ?qn143⟩; case qy143 => (intro w hSw; (try dsimp only at hSw); go_simp; try with_reducible rfl))
              refine rgH (i := 23) (oi := ?qo144) ?qh144 ?qr144
              case qh144 => (simp only [List.getElem?_toArray, List.getElem?_cons_succ, List.getElem?_cons_zero]; rfl)
              (refine ⟨by kernel_rfl, by kernel_rfl, by kernel_rfl, by assumption, ?qv144, fun _ _ _ h => h, Or.inl ⟨by kernel_rfl, ?qy144⟩, ?qn144⟩; case qy144 => (intro w hSw; (try dsimp only at hSw); go_simp; try with_reducible rfl))
              (try simp only [Act.put, List.setIfInBounds_toArray, List.set_cons_zero, List.set_cons_succ])
              refine rgH (i := 24) (oi := ?qo145) ?qh145 ?qr145
              case qh145 => (simp only [List.getElem?_toArray, List.getElem?_cons_succ, List.getElem?_cons_zero]; rfl)
              (refine ⟨by kernel_rfl, by kernel_rfl, by kernel_rfl, by assumption, ?qv145, fun _ _ _ h => h, Or.inl ⟨by kernel_rfl, ?qy145⟩, ?qn145⟩; case qy145 => (intro w hSw; (try dsimp only at hSw); go_simp; try with_reducible rfl))
              refine rgH (i := 25) (oi := ?qo146) ?qh146 ?qr146
              case qh146 => (simp only [List.getElem?_toArray, List.getElem?_cons_succ, List.getElem?_cons_zero]; rfl)
              (refine ⟨by kernel_rfl, by kernel_rfl, by kernel_rfl, by assumption, ?qv146, fun _ _ _ h => h, Or.inl ⟨by kernel_rfl, ?qy146⟩, ?qn146⟩; case qy146 => (intro w hSw; (try dsimp only at hSw); go_simp; try with_reducible rfl))
              refine rgH (i := 26) (oi := ?qo147) ?qh147 ?qr147
              case qh147 => (simp only [List.getElem?_toArray, List.getElem?_cons_succ, List.getElem?_cons_zero]; rfl)
              (refine ⟨by kernel_rfl, by kernel_rfl, by kernel_rfl, by assumption, ?qv147, fun _ _ _ h => h, Or.inl ⟨by kernel_rfl, ?qy147⟩, ?qn147⟩; case qy147 => (intro w hSw; (try dsimp only at hSw); go_simp; try with_reducible rfl))
              refine rgH (i := 27) (oi := ?qo148) ?qh148 ?qr148
              case qh148 => (simp only [List.getElem?_toArray, List.getElem?_cons_succ, List.getElem?_cons_zero]; rfl)
              (refine ⟨by kernel_rfl, by kernel_rfl, by kernel_rfl, by assumption, ?qv148, fun _ _ _ h => h, Or.inl ⟨by kernel_rfl, ?qy148⟩, ?qn148⟩; case qy148 => (intro w hSw; (try dsimp only at hSw); go_simp; try with_reducible rfl))
              (try simp only [Act.put, List.setIfInBounds_toArray, List.set_cons_zero, List.set_cons_succ])
              refine rgH (i := 28) (oi := ?qo149) ?qh149 ?qr149
              case qh149 => (simp only [List.getElem?_toArray, List.getElem?_cons_succ, List.getElem?_cons_zero]; rfl)
              (refine ⟨by kernel_rfl, by kernel_rfl, by kernel_rfl, by assumption, ?qv149, fun _ _ _ h => h, Or.inl ⟨by kernel_rfl, ?qy149⟩, ?qn149⟩; case qy149 => (intro w hSw; (try dsimp only at hSw); go_simp; try with_reducible rfl))
              refine rgH (i := 29) (oi := ?qo150) ?qh150 ?qr150
              case qh150 => (simp only [List.getElem?_toArray, List.getElem?_cons_succ, List.getElem?_cons_zero]; rfl)
              (refine ⟨by kernel_rfl, by kernel_rfl, by kernel_rfl, by assumption, ?qv150, fun _ _ _ h => h, Or.inl ⟨by kernel_rfl, ?qy150⟩, ?qn150⟩; case qy150 => (intro w hSw; (try dsimp only at hSw); go_simp; try with_reducible rfl))
              refine rgH (i := 30) (oi := ?qo151) ?qh151 ?qr151
              case qh151 => (simp only [List.getElem?_toArray, List.getElem?_cons_succ, List.getElem?_cons_zero]; rfl)
              (refine ⟨by kernel_rfl, by kernel_rfl, by kernel_rfl, by assumption, ?qv151, fun _ _ _ h => h, Or.inl ⟨by kernel_rfl, ?qy151⟩, ?qn151⟩; case qy151 => (intro w hSw; (try dsimp only at hSw); go_simp; try with_reducible rfl))
              refine rgH (i := 31) (oi := ?qo152) ?qh152 ?qr152
              case qh152 => (simp only [List.getElem?_toArray, List.getElem?_cons_succ, List.getElem?_cons_zero]; rfl)
              (refine ⟨by kernel_rfl, by kernel_rfl, by kernel_rfl, by assumption, ?qv152, fun _ _ _ h => h, Or.inl ⟨by kernel_rfl, ?qy152⟩, ?qn152⟩; case qy152 => (intro w hSw; (try dsimp only at hSw); go_simp; try with_reducible rfl))
              (try simp only [Act.put, List.setIfInBounds_toArray, List.set_cons_zero, List.set_cons_succ])
              refine rgH (i := 32) (oi := ?qo153) ?qh153 ?qr153
              case qh153 => (simp only [List.getElem?_toArray, List.getElem?_cons_succ, List.getElem?_cons_zero]; rfl)
              (refine ⟨by kernel_rfl, by kernel_rfl, by kernel_rfl, by assumption, ?qv153, fun _ _ _ h => h, Or.inl ⟨by kernel_rfl, ?qy153⟩, ?qn153⟩; case qy153 => (intro w hSw; (try dsimp only at hSw); go_simp; try with_reducible rfl))
              refine rgH (i := 33) (oi := ?qo154) ?qh154 ?qr154
              case qh154 => (simp only [List.getElem?_toArray, List.getElem?_cons_succ, List.getElem?_cons_zero]; rfl)
              (refine ⟨by kernel_rfl, by kernel_rfl, by kernel_rfl, by assumption, ?qv154, fun _ _ _ h => h, Or.inl ⟨by kernel_rfl, ?qy154⟩, ?qn154⟩; case qy154 => (intro w hSw; (try dsimp only at hSw); go_simp; try with_reducible rfl))
              refine rgH (i := 34) (oi := ?qo155) ?qh155 ?qr155
              case qh155 => (simp only [List.getElem?_toArray, List.getElem?_cons_succ, List.getElem?_cons_zero]; rfl)
              (refine ⟨by kernel_rfl, by kernel_rfl, by kernel_rfl, by assumption, ?qv155, fun _ _ _ h => h, Or.inl ⟨by kernel_rfl, ?qy155⟩, ?qn155⟩; case qy155 => (intro w hSw; (try dsimp only at hSw); go_simp; try with_reducible rfl))
              refine rgH (i := 35) (oi := ?qo156) ?qh156 ?qr156
              case qh156 => (simp only [List.getElem?_toArray, List.getElem?_cons_succ, List.getElem?_cons_zero]; rfl)
              (refine ⟨by kernel_rfl, by kernel_rfl, by kernel_rfl, by assumption, ?qv156, fun _ _ _ h => h, Or.inl ⟨by kernel_rfl, ?qy156⟩, ?qn156⟩; case qy156 => (intro w hSw; (try dsimp only at hSw); go_simp; try with_reducible rfl))
              (try simp only [Act.put, List.setIfInBounds_toArray, List.set_cons_zero, List.set_cons_succ])
              refine rgH (i := 36) (oi := ?qo157) ?qh157 ?qr157
              case qh157 => (simp only [List.getElem?_toArray, List.getElem?_cons_succ, List.getElem?_cons_zero]; rfl)
              (refine ⟨by kernel_rfl, by kernel_rfl, by kernel_rfl, by assumption, ?qv157, fun _ _ _ h => h, Or.inl ⟨by kernel_rfl, ?qy157⟩, ?qn157⟩; case qy157 => (intro w hSw; (try dsimp only at hSw); go_simp; try with_reducible rfl))
              refine rgH (i := 37) (oi := ?qo158) ?qh158 ?qr158
              case qh158 => (simp only [List.getElem?_toArray, List.getElem?_cons_succ, List.getElem?_cons_zero]; rfl)
              (refine ⟨by kernel_rfl, by kernel_rfl, by kernel_rfl, by assumption, ?qv158, fun _ _ _ h => h, Or.inl ⟨by kernel_rfl, ?qy158⟩, ?qn158⟩; case qy158 => (intro w hSw; (try dsimp only at hSw); go_simp; try with_reducible rfl))
              refine rgH (i := 38) (oi := ?qo159) ?qh159 ?qr159
              case qh159 => (simp only [List.getElem?_toArray, List.getElem?_cons_succ, List.getElem?_cons_zero]; rfl)
              (refine ⟨by kernel_rfl, by kernel_rfl, by kernel_rfl, by assumption, ?qv159, fun _ _ _ h => h, Or.inl ⟨by kernel_rfl, ?qy159⟩, ?qn159⟩; case qy159 => (intro w hSw; (try dsimp only at hSw); go_simp; try with_reducible rfl))
              refine rgH (i := 39) (oi := ?qo160) ?qh160 ?qr160
              case qh160 => (simp only [List.getElem?_toArray, List.getElem?_cons_succ, List.getElem?_cons_zero]; rfl)
              (refine ⟨by kernel_rfl, by kernel_rfl, by kernel_rfl, by assumption, ?qv160, fun _ _ _ h => h, Or.inl ⟨by kernel_rfl, ?qy160⟩, ?qn160⟩; case qy160 => (intro w hSw; (try dsimp only at hSw); go_simp; try with_reducible rfl))
              (try simp only [Act.put, List.setIfInBounds_toArray, List.set_cons_zero, List.set_cons_succ])
              refine wpAnyH_done (by kernel_rfl) ?_ _
              clear w2 w3 w4 w5 w6 vw1 e0 e0n hk1 yc
              go_wp2
              go_roundw
              case rel => exact ⟨k + 1, by omega, by go_num, (ptsOk_succ HK.out).trans HST.out, HBR.out.drew⟩
              case measure => simp [intOf]; omega
            · have HST : Hid (stepOk d2.length d3 k = false) := by unfold Hid; rw [HST0.out]; simp [hyx]
              have e1 : decide (x ≤ y) = true := by simp; omega
              go_wp2
              refine wp_region_held_drew (S := fun w' => w'.cell? ⟨g, 2, none⟩ = some (.slice a2 d2.length p2) ∧ w'.cell? ⟨g, 3, none⟩ = some (.slice (some ⟨b, off, none⟩) d3.length p3) ∧ w'.cell? ⟨b, off + k * 2, none⟩ = some (.int .i64 x) ∧ w'.cell? ⟨b, off + k * 2 + 1, none⟩ = some (.slice a' ts.length cap') ∧ w'.cell? ⟨b, off + (k - 1) * 2, none⟩ = some (.int .i64 y)) (by kernel_rfl) ⟨s2, s3, hc, hc', yc⟩ (fun hHeld => ?_)
              refine rgH (i := 0) (oi := ?qo161) ?qh161 ?qr161
              case qh161 => (simp only [List.getElem?_toArray, List.getElem?_cons_succ, List.getElem?_cons_zero]; rfl)
              (refine ⟨by kernel_rfl, by kernel_rfl, by kernel_rfl, by assumption, ?qv161, fun _ _ _ h => h, Or.inl ⟨by kernel_rfl, ?qy161⟩, ?qn161⟩; case qy161 => (intro w hSw; (try dsimp only at hSw); go_simp; try with_reducible rfl))
              refine rgH (i := 1) (oi := ?qo162) ?qh162 ?qr162
              case qh162 => (simp only [List.getElem?_toArray, List.getElem?_cons_succ, List.getElem?_cons_zero]; rfl)
              (refine ⟨by kernel_rfl, by kernel_rfl, by kernel_rfl, by assumption, ?qv162, fun _ _ _ h => h, Or.inl ⟨by kernel_rfl, ?qy162⟩, ?qn162⟩; case qy162 => (intro w hSw; (try dsimp only at hSw); go_simp; try with_reducible rfl))
              refine rgH (i := 2) (oi := ?qo163) ?qh163 ?qr163
              case qh163 => (simp only [List.getElem?_toArray, List.getElem?_cons_succ, List.getElem?_cons_zero]; rfl)
              (refine ⟨by kernel_rfl, by kernel_rfl, by kernel_rfl, by assumption, ?qv163, fun _ _ _ h => h, Or.inl ⟨by kernel_rfl, ?qy163⟩, ?qn163⟩; case qy163 => (intro w hSw; (try dsimp only at hSw); go_simp; try with_reducible rfl))
              refine rgH (i := 3) (oi := ?qo164) ?qh164 ?qr164
              case qh164 => (simp only [List.getElem?_toArray, List.getElem?_cons_succ, List.getElem?_cons_zero]; rfl)
              (refine ⟨by kernel_rfl, by kernel_rfl, by kernel_rfl, by assumption, ?qv164, fun _ _ _ h => h, Or.inl ⟨by kernel_rfl, ?qy164⟩, ?qn164⟩; case qy164 => (intro w hSw; (try dsimp only at hSw); go_simp; try with_reducible rfl))
              (try simp only [Act.put, List.setIfInBounds_toArray, List.set_cons_zero, List.set_cons_succ])
              refine rgH (i := 4) (oi := ?qo165) ?qh165 ?qr165
              case qh165 => (simp only [List.getElem?_toArray, List.getElem?_cons_succ, List.getElem?_cons_zero]; rfl)
              (refine ⟨by kernel_rfl, by kernel_rfl, by kernel_rfl, by assumption, ?qv165, fun _ _ _ h => h, Or.inl ⟨by kernel_rfl, ?qy165⟩, ?qn165⟩; case qy165 => (intro w hSw; (try dsimp only at hSw); go_simp; try with_reducible rfl))
              refine rgH (i := 5) (oi := ?qo166) ?qh166 ?qr166
              case qh166 => (simp only [List.getElem?_toArray, List.getElem?_cons_succ, List.getElem?_cons_zero]; rfl)
              (refine ⟨by kernel_rfl, by kernel_rfl, by kernel_rfl, by assumption, ?qv166, fun _ _ _ h => h, Or.inl ⟨by kernel_rfl, ?qy166⟩, ?qn166⟩; case qy166 => (intro w hSw; (try dsimp only at hSw); go_simp; try with_reducible rfl))
              refine rgH (i := 6) (oi := ?qo167) ?qh167 ?qr167
              case qh167 => (simp only [List.getElem?_toArray, List.getElem?_cons_succ, List.getElem?_cons_zero]; rfl)
              (refine ⟨by kernel_rfl, by kernel_rfl, by kernel_rfl, by assumption, ?qv167, fun _ _ _ h => h, Or.inl ⟨by kernel_rfl, ?qy167⟩, ?qn167⟩; case qy167 => (intro w hSw; (try dsimp only at hSw); go_simp; try with_reducible rfl))
              refine rgH (i := 7) (oi := ?qo168) ?qh168 ?qr168
              case qh168 => (simp only [List.getElem?_toArray, List.getElem?_cons_succ, List.getElem?_cons_zero]; rfl)
              (refine ⟨by kernel_rfl, by kernel_rfl, by kernel_rfl, by assumption, ?qv168, fun _ _ _ h => h, Or.inl ⟨by kernel_rfl, ?qy168⟩, ?qn168⟩; case qy168 => (intro w hSw; (try dsimp only at hSw); go_simp; try with_reducible rfl))
              (try simp only [Act.put, List.setIfInBounds_toArray, List.set_cons_zero, List.set_cons_succ])
              refine rgH (i := 8) (oi := ?qo169) ?qh169 ?qr169
              case qh169 => (simp only [List.getElem?_toArray, List.getElem?_cons_succ, List.getElem?_cons_zero]; rfl)
              (refine ⟨by kernel_rfl, by kernel_rfl, by kernel_rfl, by assumption, ?qv169, fun _ _ _ h => h, Or.inl ⟨by kernel_rfl, ?qy169⟩, ?qn169⟩; case qy169 => (intro w hSw; (try dsimp only at hSw); go_simp; try with_reducible rfl))
              refine rgH (i := 9) (oi := ?qo170) ?qh170 ?qr170
              case qh170 => (simp only [List.getElem?_toArray, List.getElem?_cons_succ, List.getElem?_cons_zero]; rfl)
              (refine ⟨by kernel_rfl, by kernel_rfl, by kernel_rfl, by assumption, ?qv170, fun _ _ _ h => h, Or.inl ⟨by kernel_rfl, ?qy170⟩, ?qn170⟩; case qy170 => (intro w hSw; (try dsimp only at hSw); go_simp; try with_reducible rfl))
              (try simp only [Act.put, List.setIfInBounds_toArray, List.set_cons_zero, List.set_cons_succ])
              refine wpAnyH_ready (rs := [10]) (by kernel_rfl) (by simp) ?_
              refine rgHcall (i := 10) (o := ?qo171) ?qh171 ?qk171
              case qh171 => (simp only [List.getElem?_toArray, List.getElem?_cons_succ, List.getElem?_cons_zero]; rfl)
              intro K hK
              go_simp
              (go_at_call 68; refine (c_l00In _ _ _ _).mono ?_; rintro e w2 ⟨rfl, rfl⟩; rw [HI.out])
              refine hK.out _ _ hHeld (fun hHeld => ?_)
              clear hK K
              refine rgH (i := 11) (oi := ?qo172) ?qh172 ?qr172
              case qh172 => (simp only [List.getElem?_toArray, List.getElem?_cons_succ, List.getElem?_cons_zero]; rfl)
              (refine ⟨by kernel_rfl, by kernel_rfl, by kernel_rfl, by assumption, ?qv172, fun _ _ _ h => h, Or.inl ⟨by kernel_rfl, ?qy172⟩, ?qn172⟩; case qy172 => (intro w hSw; (try dsimp only at hSw); go_simp; try with_reducible rfl))
              (try simp only [Act.put, List.setIfInBounds_toArray, List.set_cons_zero, List.set_cons_succ])
              refine rgH (i := 12) (oi := ?qo173) ?qh173 ?qr173
              case qh173 => (simp only [List.getElem?_toArray, List.getElem?_cons_succ, List.getElem?_cons_zero]; rfl)
              (refine ⟨by kernel_rfl, by kernel_rfl, by kernel_rfl, by assumption, ?qv173, fun _ _ _ h => h, Or.inl ⟨by kernel_rfl, ?qy173⟩, ?qn173⟩; case qy173 => (intro w hSw; (try dsimp only at hSw); go_simp; try with_reducible rfl))
              refine rgH (i := 13) (oi := ?qo174) ?qh174 ?qr174
              case qh174 => (simp only [List.getElem?_toArray, List.getElem?_cons_succ, List.getElem?_cons_zero]; rfl)
              (refine ⟨by kernel_rfl, by kernel_rfl, by kernel_rfl, by assumption, ?qv174, fun _ _ _ h => h, Or.inl ⟨by kernel_rfl, ?qy174⟩, ?qn174⟩; case qy174 => (intro w hSw; (try dsimp only at hSw); go_simp; try with_reducible rfl))
              refine rgH (i := 14) (oi := ?qo175) ?qh175 ?qr175
              case qh175 => (simp only [List.getElem?_toArray, List.getElem?_cons_succ, List.getElem?_cons_zero]; rfl)
              (refine ⟨by kernel_rfl, by kernel_rfl, by kernel_rfl, by assumption, ?qv175, fun _ _ _ h => h, Or.inl ⟨by kernel_rfl, ?qy175⟩, ?qn175⟩; case qy175 => (intro w hSw; (try dsimp only at hSw); go_simp; try with_reducible rfl))
              refine rgH (i := 15) (oi := ?qo176) ?qh176 ?qr176
              case qh176 => (simp only [List.getElem?_toArray, List.getElem?_cons_succ, List.getElem?_cons_zero]; rfl)
              (refine ⟨by kernel_rfl, by kernel_rfl, by kernel_rfl, by assumption, ?qv176, fun _ _ _ h => h, Or.inl ⟨by kernel_rfl, ?qy176⟩, ?qn176⟩; case qy176 => (intro w hSw; (try dsimp only at hSw); go_simp; try with_reducible rfl))
              (try simp only [Act.put, List.setIfInBounds_toArray, List.set_cons_zero, List.set_cons_succ])
              refine rgH (i := 16) (oi := ?qo177) ?qh177 ?qr177
              case qh177 => (simp only [List.getElem?_toArray, List.getElem?_cons_succ, List.getElem?_cons_zero]; rfl)
              (refine ⟨by kernel_rfl, by kernel_rfl, by kernel_rfl, by assumption, ?qv177, fun _ _ _ h => h, Or.inl ⟨by kernel_rfl, ?qy177⟩, ?qn177⟩; case qy177 => (intro w hSw; (try dsimp only at hSw); go_simp; try with_reducible rfl))
              (try simp only [Act.put, List.setIfInBounds_toArray, List.set_cons_zero, List.set_cons_succ])
              refine wpAnyH_ready (rs := [17]) (by kernel_rfl) (by simp) ?_
              refine rgHcall (i := 17) (o := ?qo178) ?qh178 ?qk178
              case qh178 => (simp only [List.getElem?_toArray, List.getElem?_cons_succ, List.getElem?_cons_zero]; rfl)
              intro K hK
              go_simp
              (go_at_call 111; refine (c_l08Facts _ _ _ _ HS.out.drew).mono ?_; rintro e w2 ⟨rfl, rfl⟩; rw [HA.out])
              refine hK.out _ _ hHeld (fun hHeld => ?_)
              clear hK K
              refine rgH (i := 18) (oi := ?qo179) ?qh179 ?qr179
              case qh179 => (simp only [List.getElem?_toArray, List.getElem?_cons_succ, List.getElem?_cons_zero]; rfl)
              (refine ⟨by kernel_rfl, by kernel_rfl, by kernel_rfl, by assumption, ?qv179, fun _ _ _ h => h, Or.inl ⟨by kernel_rfl, ?qy179⟩, ?qn179⟩; case qy179 => (intro w hSw; (try dsimp only at hSw); go_simp; try with_reducible rfl))
              refine rgH (i := 19) (oi := ?qo180) ?qh180 ?qr180
              case qh180 => (simp only [List.getElem?_toArray, List.getElem?_cons_succ, List.getElem?_cons_zero]; rfl)
              (refine ⟨by kernel_rfl, by kernel_rfl, by kernel_rfl, by assumption, ?qv180, fun _ _ _ h => h, Or.inl ⟨by kernel_rfl, ?qy180⟩, ?qn180⟩; case qy180 => (intro w hSw; (try dsimp only at hSw); go_simp; try with_reducible rfl))
              (try simp only [Act.put, List.setIfInBounds_toArray, List.set_cons_zero, List.set_cons_succ])
              refine rgH (i := 20) (oi := ?qo181) ?qh181 ?qr181
              case qh181 => (simp only [List.getElem?_toArray, List.getElem?_cons_succ, List.getElem?_cons_zero]; rfl)
              (refine ⟨by kernel_rfl, by kernel_rfl, by kernel_rfl, by assumption, ?qv181, fun _ _ _ h => h, Or.inl ⟨by kernel_rfl, ?qy181⟩, ?qn181⟩; case qy181 => (intro w hSw; (try dsimp only at hSw); go_simp; try with_reducible rfl))
              refine rgH (i := 21) (oi := ?qo182) ?qh182 ?qr182
              case qh182 => (simp only [List.getElem?_toArray, List.getElem?_cons_succ, List.getElem?_cons_zero]; rfl)
              (refine ⟨by kernel_rfl, by kernel_rfl, by kernel_rfl, by assumption, ?qv182, fun _ _ _ h => h, Or.inl ⟨by kernel_rfl, ?qy182⟩, ?qn182⟩; case qy182 => (intro w hSw; (try dsimp only at hSw); go_simp; try with_reducible rfl))
              refine rgH (i := 22) (oi := ?qo183) ?qh183 ?qr183
              case qh183 => (simp only [List.getElem?_toArray, List.getElem?_cons_succ, List.getElem?_cons_zero]; rfl)
              (refine ⟨by kernel_rfl, by kernel_rfl, by kernel_rfl, by assumption, ?qv183, fun _ _ _ h => h, Or.inl ⟨by kernel_rfl, ?qy183⟩, ?qn183⟩; case qy183 => (intro w hSw; (try dsimp only at hSw); go_simp; try with_reducible rfl))
              refine rgH (i := 23) (oi := ?qo184) ?qh184 ?qr184
              case qh184 => (simp only [List.getElem?_toArray, List.getElem?_cons_succ, List.getElem?_cons_zero]; rfl)
              (refine ⟨by kernel_rfl, by kernel_rfl, by kernel_rfl, by assumption, ?qv184, fun _ _ _ h => h, Or.inl ⟨by kernel_rfl, ?qy184⟩, ?qn184⟩; case qy184 => (intro w hSw; (try dsimp only at hSw); go_simp; try with_reducible rfl))
              (try simp only [Act.put, List.setIfInBounds_toArray, List.set_cons_zero, List.set_cons_succ])
              refine rgH (i := 24) (oi := ?qo185) ?qh185 ?qr185
              case qh185 => (simp only [List.getElem?_toArray, List.getElem?_cons_succ, List.getElem?_cons_zero]; rfl)
              (refine ⟨by kernel_rfl, by kernel_rfl, by kernel_rfl, by assumption, ?qv185, fun _ _ _ h => h, Or.inl ⟨by kernel_rfl, ?qy185⟩, ?qn185⟩; case qy185 => (intro w hSw; (try dsimp only at hSw); go_simp; try with_reducible rfl))
              refine rgH (i := 25) (oi := ?qo186) ?qh186 ?qr186
              case qh186 => (simp only [List.getElem?_toArray, List.getElem?_cons_succ, List.getElem?_cons_zero]; rfl)
              (refine ⟨by kernel_rfl, by kernel_rfl, by kernel_rfl, by assumption, ?qv186, fun _ _ _ h => h, Or.inl ⟨by kernel_rfl, ?qy186⟩, ?qn186⟩; case qy186 => (intro w hSw; (try dsimp only at hSw); go_simp; try with_reducible rfl))
              refine rgH (i := 26) (oi := ?qo187) ?qh187 ?qr187
              case qh187 => (simp only [List.getElem?_toArray, List.getElem?_cons_succ, List.getElem?_cons_zero]; rfl)
              (refine ⟨by kernel_rfl, by kernel_rfl, by kernel_rfl, by assumption, ?qv187, fun _ _ _ h => h, Or.inl ⟨by kernel_rfl, ?qy187⟩, ?qn187⟩; case qy187 => (intro w hSw; (try dsimp only at hSw); go_simp; try with_reducible rfl))
              refine rgH (i := 27) (oi := ?qo188) ?qh188 ?qr188
              case qh188 => (simp only [List.getElem?_toArray, List.getElem?_cons_succ, List.getElem?_cons_zero]; rfl)
              (refine ⟨by kernel_rfl, by kernel_rfl, by kernel_rfl, by assumption, ?qv188, fun _ _ _ h => h, Or.inl ⟨by kernel_rfl, ?qy188⟩, ?qn188⟩; case qy188 => (intro w hSw; (try dsimp only at hSw); go_simp; try with_reducible rfl))
              (try simp only [Act.put, List.setIfInBounds_toArray, List.set_cons_zero, List.set_cons_succ])
              refine rgH (i := 28) (oi := ?qo189) ?qh189 ?qr189
              case qh189 => (simp only [List.getElem?_toArray, List.getElem?_cons_succ, List.getElem?_cons_zero]; rfl)
              (refine ⟨by kernel_rfl, by kernel_rfl, by kernel_rfl, by assumption, ?qv189, fun _ _ _ h => h, Or.inl ⟨by kernel_rfl, ?qy189⟩, ?qn189⟩; case qy189 => (intro w hSw; (try dsimp only at hSw); go_simp; try with_reducible rfl))
              refine rgH (i := 29) (oi := ?qo190) ?qh190 ?qr190
              case qh190 => (simp only [List.getElem?_toArray, List.getElem?_cons_succ, List.getElem?_cons_zero]; rfl)
              (refine ⟨by kernel_rfl, by kernel_rfl, by kernel_rfl, by assumption, ?qv190, fun _ _ _ h => h, Or.inl ⟨by kernel_rfl, ?qy190⟩, ?qn190⟩; case qy190 => (intro w hSw; (try dsimp only at hSw); go_simp; try with_reducible rfl))
              refine rgH (i := 30) (oi := ?qo191) ?qh191 ?qr191
              case qh191 => (simp only [List.getElem?_toArray, List.getElem?_cons_succ, List.getElem?_cons_zero]; rfl)
              (refine ⟨by kernel_rfl, by kernel_rfl, by kernel_rfl, by assumption, ?qv191, fun _ _ _ h => h, Or.inl ⟨by kernel_rfl, ?qy191⟩, ?qn191⟩; case qy191 => (intro w hSw; (try dsimp only at hSw); go_simp; try with_reducible rfl))
              refine rgH (i := 31) (oi := ?qo192) ?qh192 ?qr192
              case qh192 => (simp only [List.getElem?_toArray, List.getElem?_cons_succ, List.getElem?_cons_zero]; rfl)
              (refine ⟨by kernel_rfl, by kernel_rfl, by kernel_rfl, by assumption, ?qv192, fun _ _ _ h => h, Or.inl ⟨by kernel_rfl, ?qy192⟩, ?qn192⟩; case qy192 => (intro w hSw; (try dsimp only at hSw); go_simp; try with_reducible rfl))
              (try simp only [Act.put, List.setIfInBounds_toArray, List.set_cons_zero, List.set_cons_succ])
              refine rgH (i := 32) (oi := ?qo193) ?qh193 ?qr193
              case qh193 => (simp only [List.getElem?_toArray, List.getElem?_cons_succ, List.getElem?_cons_zero]; rfl)
              (refine ⟨by kernel_rfl, by kernel_rfl, by kernel_rfl, by assumption, ?qv193, fun _ _ _ h => h, Or.inl ⟨by kernel_rfl, ?qy193⟩, ?qn193⟩; case qy193 => (intro w hSw; (try dsimp only at hSw); go_simp; try with_reducible rfl))
              refine rgH (i := 33) (oi := ?qo194) ?qh194 ?qr194
              case qh194 => (simp only [List.getElem?_toArray, List.getElem?_cons_succ, List.getElem?_cons_zero]; rfl)
              (refine ⟨by kernel_rfl, by kernel_rfl, by kernel_rfl, by assumption, ?qv194, fun _ _ _ h => h, Or.inl ⟨by kernel_rfl, ?qy194⟩, ?qn194⟩; case qy194 => (intro w hSw; (try dsimp only at hSw); go_simp; try with_reducible rfl))
              refine rgH (i := 34) (oi := ?qo195) ?qh195 ?qr195
              case qh195 => (simp only [List.getElem?_toArray, List.getElem?_cons_succ, List.getElem?_cons_zero]; rfl)
              (refine ⟨by kernel_rfl, by kernel_rfl, by kernel_rfl, by assumption, ?qv195, fun _ _ _ h => h, Or.inl ⟨by kernel_rfl, ?qy195⟩, ?qn195⟩; case qy195 => (intro w hSw; (try dsimp only at hSw); go_simp; try with_reducible rfl))
              refine rgH (i := 35) (oi := ?qo196) ?qh196 ?qr196
              case qh196 => (simp only [List.getElem?_toArray, List.getElem?_cons_succ, List.getElem?_cons_zero]; rfl)
              (refine ⟨by kernel_rfl, by kernel_rfl, by kernel_rfl, by assumption, ?qv196, fun _ _ _ h => h, Or.inl ⟨by kernel_rfl, ?qy196⟩, ?qn196⟩; case qy196 => (intro w hSw; (try dsimp only at hSw); go_simp; try with_reducible rfl))
              (try simp only [Act.put, List.setIfInBounds_toArray, List.set_cons_zero, List.set_cons_succ])
              refine rgH (i := 36) (oi := ?qo197) ?qh197 ?qr197
              case qh197 => (simp only [List.getElem?_toArray, List.getElem?_cons_succ, List.getElem?_cons_zero]; rfl)
              (refine ⟨by kernel_rfl, by kernel_rfl, by kernel_rfl, by assumption, ?qv197, fun _ _ _ h => h, Or.inl ⟨by kernel_rfl, ?qy197⟩, ?qn197⟩; case qy197 => (intro w hSw; (try dsimp only at hSw); go_simp; try with_reducible rfl))
              refine rgH (i := 37) (oi := ?qo198) ?qh198 ?qr198
              case qh198 => (simp only [List.getElem?_toArray, List.getElem?_cons_succ, List.getElem?_cons_zero]; rfl)
              (refine ⟨by kernel_rfl, by kernel_rfl, by kernel_rfl, by assumption, ?qv198, fun _ _ _ h => h, Or.inl ⟨by kernel_rfl, ?qy198⟩, ?qn198⟩; case qy198 => (intro w hSw; (try dsimp only at hSw); go_simp; try with_reducible rfl))
              refine rgH (i := 38) (oi := ?qo199) ?qh199 ?qr199
              case qh199 => (simp only [List.getElem?_toArray, List.getElem?_cons_succ, List.getElem?_cons_zero]; rfl)
              (refine ⟨by kernel_rfl, by kernel_rfl, by kernel_rfl, by assumption, ?qv199, fun _ _ _ h => h, Or.inl ⟨by kernel_rfl, ?qy199⟩, ?qn199⟩; case qy199 => (intro w hSw; (try dsimp only at hSw); go_simp; try with_reducible rfl))
              refine rgH (i := 39) (oi := ?qo200) ?qh200 ?qr200
              case qh200 => (simp only [List.getElem?_toArray, List.getElem?_cons_succ, List.getElem?_cons_zero]; rfl)
              (refine ⟨by kernel_rfl, by kernel_rfl, by kernel_rfl, by assumption, ?qv200, fun _ _ _ h => h, Or.inl ⟨by kernel_rfl, ?qy200⟩, ?qn200⟩; case qy200 => (intro w hSw; (try dsimp only at hSw); go_simp; try with_reducible rfl))
              (try simp only [Act.put, List.setIfInBounds_toArray, List.set_cons_zero, List.set_cons_succ])
              refine wpAnyH_done (by kernel_rfl) ?_ _
              clear w2 w3 w4 w5 w6 vw1 e0 e0n hk1 yc
              go_wp2
              go_ret
              exact ⟨ret_bool (by rw [HHD.out, ptsOk_false HST.out hlt]), bel_next HW1.out HW1.out.size HBR.out.drew⟩
    · have HFE : Hid (validAn (d0, d1, d2, d3) = true) := by
        have h9 := HK.out
        have h8 : k = d3.length := by omega
        rw [h8] at h9
        unfold Hid; rw [HHD.out, h9]
      have s3 := cell_below HBR.out zg1 t13
      go_wp2
      go_ret
      exact ⟨ret_bool HFE.out.symm, bel_next HW1.out HW1.out.size HBR.out⟩
end Go.Proofs.Ytedmhdinfedhhaa
