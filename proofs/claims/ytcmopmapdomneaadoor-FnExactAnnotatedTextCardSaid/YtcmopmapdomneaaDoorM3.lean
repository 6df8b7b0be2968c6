/- Contracts and laws of data, 17 texts joined (they are printed one by one from wip/src). -/
import Derived.Test.YtcmopmapdomneaaDoorM2
import Derived.Deep.RegionHeld3
import Derived.Outline
import Derived.Test.YtcmopmapdomneaaDoorShelf
import Derived.BigRegion
import Derived.Lib.SliceRun
import Derived.Deep.QuietTactic
import Derived.BigQuiet
import Derived.Test.YtcmopmapdomneaaDoorProg
import Derived.Laws.AppendOwn
import Derived.Deep.LoopGhost
import Derived.Deep.RegionLaw
import Derived.Deep.AppendLies

section
namespace Go.Proofs.YtcmopmapdomneaaDoor
open Go.RowKit
set_option maxRecDepth 100000 in
set_option maxHeartbeats 40000000 in
theorem c_l08Is {S : Nat → Prop} {a0 : Option Addr} {p0 : Nat} {d0 : List Term} {a1 : Option Addr} {p1 : Nat} {d1 : List Term} {a2 : Option Addr} {p2 : Nat} {d2 : List Instr} {a3 : Option Addr} {p3 : Nat} {d3 : List Pt} {w : World} (g : Nat) (h0 : SlRd cTerm S w a0 p0 d0) (h1 : SlRd cTerm S w a1 p1 d1) (h2 : SlRd cInstr S w a2 p2 d2) (h3 : SlRd cPoint S w a3 p3 d3)
    (t0 : w.cell? ⟨g, 0, none⟩ = some (.slice a0 d0.length p0)) (t1 : w.cell? ⟨g, 1, none⟩ = some (.slice a1 d1.length p1)) (t2 : w.cell? ⟨g, 2, none⟩ = some (.slice a2 d2.length p2)) (t3 : w.cell? ⟨g, 3, none⟩ = some (.slice a3 d3.length p3)) :
    Calls Tryd.prog 18 #[.pointer (some ⟨g, 0, none⟩)] w fun e w' => e = .returned (.bool (validAn (d0, d1, d2, d3))) ∧ Below w.heap.size w w' := by
  have hl3 := h3.len_le
  have zg : g < w.heap.size := World.block_lt_of_cell? w _ t0
  have H0 := hid h0
  have H1 := hid h1
  have H2 := hid h2
  have H3 := hid h3
  clear h0 h1 h2 h3
  obtain ⟨r, hr⟩ : ∃ r, validCode d2 = r := ⟨_, rfl⟩
  obtain ⟨q, hq⟩ : ∃ q, areOverF d0 6 = q := ⟨_, rfl⟩
  obtain ⟨u, hu⟩ : ∃ u, areOverF d1 6 = u := ⟨_, rfl⟩
  have HF : Hid (validAn (d0, d1, d2, d3) = ((((r && q) && u) && decide (d3.length ≤ 8)) && ptsOk d2.length d3 d3.length)) := by unfold Hid validAn headOk; rw [hr, hq, hu]
  have HR := hid hr
  have HQ := hid hq
  have HU := hid hu
  clear hr hq hu
  by_cases hl8 : d3.length ≤ 8
  all_goals
    cases r
    all_goals
      cases q
      all_goals
        cases u
        all_goals
          go_enter Tryd.func18, Tryd.ntmps18
          go_wp2_with (first
            | (go_at_call 37; refine (c_l07Is _ _ _ _ H2.out).mono ?_; rintro e w1 ⟨rfl, hb1⟩; rw [HR.out]; have t10 := cell_below hb1 zg t0; have t11 := cell_below hb1 zg t1; have t12 := cell_below hb1 zg t2; have t13 := cell_below hb1 zg t3; have zg1 := Nat.lt_of_lt_of_le zg hb1.size; have HW1 := hid hb1; have H31 := hid (H3.out.below (Nat.le_refl _) hb1); have A1 := hid (c_l08Facts a0 p0 d0 w1 (H0.out.below (Nat.le_refl _) hb1)); have A2 := hid (c_l08Facts a1 p1 d1 w1 (H1.out.below (Nat.le_refl _) hb1)); clear hb1)
            | (go_at_call 38; refine A1.out.mono ?_; rintro e wx ⟨rfl, rfl⟩; rw [HQ.out]; clear A1)
            | (go_at_call 38; refine A2.out.mono ?_; rintro e wx ⟨rfl, rfl⟩; rw [HU.out]))
          first
            | (go_ret; exact ⟨ret_bool (by rw [HF.out]; simp [hl8]), HW1.out⟩)
            | skip
  have HHD : Hid (validAn (d0, d1, d2, d3) = ptsOk d2.length d3 d3.length) := by unfold Hid; rw [HF.out]; simp [hl8]
  have hd80 := (validCode_iff HR.out).2.1
  clear HF HR HQ HU A2 H0 H1 H2
  go_loopw [3] (fun i wr => ∃ k : Nat, k ≤ d3.length ∧ i = .int .i64 k ∧ Hid (ptsOk d2.length d3 k = true) ∧ Hid (Below w1.heap.size w1 wr)) (fun i _ => d3.length - (intOf i).toNat)
  case atStart => exact ⟨0, Nat.zero_le _, rfl, rfl, Below.refl _ _⟩
  case round =>
    obtain ⟨k, hk, rfl, HK, HBR⟩ := hrel
    have s2 := cell_below HBR.out zg1 t12
    by_cases hlt : k < d3.length
    · obtain ⟨b, off, rfl⟩ := H31.out.some_of hlt
      have s3 := cell_below HBR.out zg1 t13
      have hszr := HBR.out.size
      obtain ⟨x, a', cap', ts, hz, hx1, hsl, hc, hc', hb⟩ := (H31.out.below (Nat.le_refl _) HBR.out).pt_at k hlt
      have HZ := hid hz
      have HS := hid hsl
      clear hz hsl
      obtain ⟨A, hA⟩ : ∃ A, areOverF ts 6 = A := ⟨_, rfl⟩
      obtain ⟨I, hI⟩ : ∃ I, inB x 0 ((d2.length : Int) - 1) = I := ⟨_, rfl⟩
      have HA := hid hA
      have HI := hid hI
      have v1 : IntKind.i64.wrap ((d2.length : Int) - 1) = (d2.length : Int) - 1 := wrap_in _ (by omega) (by omega)
      have HSF : Hid ((A && I) = false → stepOk d2.length d3 k = false) := by
        have hz := HZ.out
        unfold Hid
        intro h
        unfold stepOk
        rw [hz]
        simp only []
        rw [hA, hI, h]; rfl
      clear hA hI
      cases I
      · have HST : Hid (stepOk d2.length d3 k = false) := HSF.out (by simp)
        go_wp2
        refine wp_region_held_drew (S := fun w' => w'.cell? ⟨g, 2, none⟩ = some (.slice a2 d2.length p2) ∧ w'.cell? ⟨g, 3, none⟩ = some (.slice (some ⟨b, off, none⟩) d3.length p3) ∧ w'.cell? ⟨b, off + k * 2, none⟩ = some (.int .i64 x) ∧ w'.cell? ⟨b, off + k * 2 + 1, none⟩ = some (.slice a' ts.length cap')) (by kernel_rfl) ⟨s2, s3, hc, hc'⟩ (fun hHeld => ?_)
        refine rgH (i := 0) (oi := ?qo1) ?qh1 ?qr1
        case qh1 => (simp only [List.getElem?_toArray, List.getElem?_cons_succ, List.getElem?_cons_zero]; rfl)
        (refine ⟨by kernel_rfl, by kernel_rfl, by kernel_rfl, by assumption, ?qv1, fun _ _ _ h => h, Or.inl ⟨by kernel_rfl, ?qy1⟩, ?qn1⟩; case qy1 => (intro w hSw; (try dsimp only at hSw); go_simp; try with_reducible rfl))
        refine rgH (i := 1) (oi := ?qo2) ?qh2 ?qr2
        case qh2 => (simp only [List.getElem?_toArray, List.getElem?_cons_succ, List.getElem?_cons_zero]; rfl)
        (refine ⟨by kernel_rfl, by kernel_rfl, by kernel_rfl, by assumption, ?qv2, fun _ _ _ h => h, Or.inl ⟨by kernel_rfl, ?qy2⟩, ?qn2⟩; case qy2 => (intro w hSw; (try dsimp only at hSw); go_simp; try with_reducible rfl))
        refine rgH (i := 2) (oi := ?qo3) ?qh3 ?qr3
        case qh3 => (simp only [List.getElem?_toArray, List.getElem?_cons_succ, List.getElem?_cons_zero]; rfl)
        (refine ⟨by kernel_rfl, by kernel_rfl, by kernel_rfl, by assumption, ?qv3, fun _ _ _ h => h, Or.inl ⟨by kernel_rfl, ?qy3⟩, ?qn3⟩; case qy3 => (intro w hSw; (try dsimp only at hSw); go_simp; try with_reducible rfl))
        refine rgH (i := 3) (oi := ?qo4) ?qh4 ?qr4
        case qh4 => (simp only [List.getElem?_toArray, List.getElem?_cons_succ, List.getElem?_cons_zero]; rfl)
        (refine ⟨by kernel_rfl, by kernel_rfl, by kernel_rfl, by assumption, ?qv4, fun _ _ _ h => h, Or.inl ⟨by kernel_rfl, ?qy4⟩, ?qn4⟩; case qy4 => (intro w hSw; (try dsimp only at hSw); go_simp; try with_reducible rfl))
        (try simp only [Act.put, List.setIfInBounds_toArray, List.set_cons_zero, List.set_cons_succ])
        refine rgH (i := 4) (oi := ?qo5) ?qh5 ?qr5
        case qh5 => (simp only [List.getElem?_toArray, List.getElem?_cons_succ, List.getElem?_cons_zero]; rfl)
        (refine ⟨by kernel_rfl, by kernel_rfl, by kernel_rfl, by assumption, ?qv5, fun _ _ _ h => h, Or.inl ⟨by kernel_rfl, ?qy5⟩, ?qn5⟩; case qy5 => (intro w hSw; (try dsimp only at hSw); go_simp; try with_reducible rfl))
        refine rgH (i := 5) (oi := ?qo6) ?qh6 ?qr6
        case qh6 => (simp only [List.getElem?_toArray, List.getElem?_cons_succ, List.getElem?_cons_zero]; rfl)
        (refine ⟨by kernel_rfl, by kernel_rfl, by kernel_rfl, by assumption, ?qv6, fun _ _ _ h => h, Or.inl ⟨by kernel_rfl, ?qy6⟩, ?qn6⟩; case qy6 => (intro w hSw; (try dsimp only at hSw); go_simp; try with_reducible rfl))
        refine rgH (i := 6) (oi := ?qo7) ?qh7 ?qr7
        case qh7 => (simp only [List.getElem?_toArray, List.getElem?_cons_succ, List.getElem?_cons_zero]; rfl)
        (refine ⟨by kernel_rfl, by kernel_rfl, by kernel_rfl, by assumption, ?qv7, fun _ _ _ h => h, Or.inl ⟨by kernel_rfl, ?qy7⟩, ?qn7⟩; case qy7 => (intro w hSw; (try dsimp only at hSw); go_simp; try with_reducible rfl))
        refine rgH (i := 7) (oi := ?qo8) ?qh8 ?qr8
        case qh8 => (simp only [List.getElem?_toArray, List.getElem?_cons_succ, List.getElem?_cons_zero]; rfl)
        (refine ⟨by kernel_rfl, by kernel_rfl, by kernel_rfl, by assumption, ?qv8, fun _ _ _ h => h, Or.inl ⟨by kernel_rfl, ?qy8⟩, ?qn8⟩; case qy8 => (intro w hSw; (try dsimp only at hSw); go_simp; try with_reducible rfl))
        (try simp only [Act.put, List.setIfInBounds_toArray, List.set_cons_zero, List.set_cons_succ])
        refine rgH (i := 8) (oi := ?qo9) ?qh9 ?qr9
        case qh9 => (simp only [List.getElem?_toArray, List.getElem?_cons_succ, List.getElem?_cons_zero]; rfl)
        (refine ⟨by kernel_rfl, by kernel_rfl, by kernel_rfl, by assumption, ?qv9, fun _ _ _ h => h, Or.inl ⟨by kernel_rfl, ?qy9⟩, ?qn9⟩; case qy9 => (intro w hSw; (try dsimp only at hSw); go_simp; try with_reducible rfl))
        refine rgH (i := 9) (oi := ?qo10) ?qh10 ?qr10
        case qh10 => (simp only [List.getElem?_toArray, List.getElem?_cons_succ, List.getElem?_cons_zero]; rfl)
        (refine ⟨by kernel_rfl, by kernel_rfl, by kernel_rfl, by assumption, ?qv10, fun _ _ _ h => h, Or.inl ⟨by kernel_rfl, ?qy10⟩, ?qn10⟩; case qy10 => (intro w hSw; (try dsimp only at hSw); go_simp; try with_reducible rfl))
        (try simp only [Act.put, List.setIfInBounds_toArray, List.set_cons_zero, List.set_cons_succ])
        refine wpAnyH_ready (rs := [10]) (by kernel_rfl) (by simp) ?_
        refine rgHcall (i := 10) (o := ?qo11) ?qh11 ?qk11
        case qh11 => (simp only [List.getElem?_toArray, List.getElem?_cons_succ, List.getElem?_cons_zero]; rfl)
        intro K hK
        go_simp
        (go_at_call 39; refine (c_l00In _ _ _ _).mono ?_; rintro e w2 ⟨rfl, rfl⟩; rw [HI.out])
        refine hK.out _ _ hHeld (fun hHeld => ?_)
        clear hK K
        refine rgH (i := 11) (oi := ?qo12) ?qh12 ?qr12
        case qh12 => (simp only [List.getElem?_toArray, List.getElem?_cons_succ, List.getElem?_cons_zero]; rfl)
        (refine ⟨by kernel_rfl, by kernel_rfl, by kernel_rfl, by assumption, ?qv12, fun _ _ _ h => h, Or.inl ⟨by kernel_rfl, ?qy12⟩, ?qn12⟩; case qy12 => (intro w hSw; (try dsimp only at hSw); go_simp; try with_reducible rfl))
        (try simp only [Act.put, List.setIfInBounds_toArray, List.set_cons_zero, List.set_cons_succ])
        refine rgH (i := 12) (oi := ?qo13) ?qh13 ?qr13
        case qh13 => (simp only [List.getElem?_toArray, List.getElem?_cons_succ, List.getElem?_cons_zero]; rfl)
        (refine ⟨by kernel_rfl, by kernel_rfl, by kernel_rfl, by assumption, ?qv13, fun _ _ _ h => h, Or.inl ⟨by kernel_rfl, ?qy13⟩, ?qn13⟩; case qy13 => (intro w hSw; (try dsimp only at hSw); go_simp; try with_reducible rfl))
        (try simp only [Act.put, List.setIfInBounds_toArray, List.set_cons_zero, List.set_cons_succ])
        refine rgH (i := 13) (oi := ?qo14) ?qh14 ?qr14
        case qh14 => (simp only [List.getElem?_toArray, List.getElem?_cons_succ, List.getElem?_cons_zero]; rfl)
        (refine ⟨by kernel_rfl, by kernel_rfl, by kernel_rfl, by assumption, undef, fun _ _ _ h => h, Or.inr ⟨by kernel_rfl, rfl⟩, ?qm14⟩)
        refine rgH (i := 14) (oi := ?qo15) ?qh15 ?qr15
        case qh15 => (simp only [List.getElem?_toArray, List.getElem?_cons_succ, List.getElem?_cons_zero]; rfl)
        (refine ⟨by kernel_rfl, by kernel_rfl, by kernel_rfl, by assumption, undef, fun _ _ _ h => h, Or.inr ⟨by kernel_rfl, rfl⟩, ?qm15⟩)
        refine rgH (i := 15) (oi := ?qo16) ?qh16 ?qr16
        case qh16 => (simp only [List.getElem?_toArray, List.getElem?_cons_succ, List.getElem?_cons_zero]; rfl)
        (refine ⟨by kernel_rfl, by kernel_rfl, by kernel_rfl, by assumption, undef, fun _ _ _ h => h, Or.inr ⟨by kernel_rfl, rfl⟩, ?qm16⟩)
        (try simp only [Act.put, List.setIfInBounds_toArray, List.set_cons_zero, List.set_cons_succ])
        refine rgH (i := 16) (oi := ?qo17) ?qh17 ?qr17
        case qh17 => (simp only [List.getElem?_toArray, List.getElem?_cons_succ, List.getElem?_cons_zero]; rfl)
        (refine ⟨by kernel_rfl, by kernel_rfl, by kernel_rfl, by assumption, undef, fun _ _ _ h => h, Or.inr ⟨by kernel_rfl, rfl⟩, ?qm17⟩)
        refine rgH (i := 17) (oi := ?qo18) ?qh18 ?qr18
        case qh18 => (simp only [List.getElem?_toArray, List.getElem?_cons_succ, List.getElem?_cons_zero]; rfl)
        (refine ⟨by kernel_rfl, by kernel_rfl, by kernel_rfl, by assumption, undef, fun _ _ _ h => h, Or.inr ⟨by kernel_rfl, rfl⟩, ?qm18⟩)
        refine rgH (i := 18) (oi := ?qo19) ?qh19 ?qr19
        case qh19 => (simp only [List.getElem?_toArray, List.getElem?_cons_succ, List.getElem?_cons_zero]; rfl)
        (refine ⟨by kernel_rfl, by kernel_rfl, by kernel_rfl, by assumption, undef, fun _ _ _ h => h, Or.inr ⟨by kernel_rfl, rfl⟩, ?qm19⟩)
        (try simp only [Act.put, List.setIfInBounds_toArray, List.set_cons_zero, List.set_cons_succ])
        refine rgH (i := 19) (oi := ?qo20) ?qh20 ?qr20
        case qh20 => (simp only [List.getElem?_toArray, List.getElem?_cons_succ, List.getElem?_cons_zero]; rfl)
        (refine ⟨by kernel_rfl, by kernel_rfl, by kernel_rfl, by assumption, ?qv20, fun _ _ _ h => h, Or.inl ⟨by kernel_rfl, ?qy20⟩, ?qn20⟩; case qy20 => (intro w hSw; (try dsimp only at hSw); go_simp; try with_reducible rfl))
        (try simp only [Act.put, List.setIfInBounds_toArray, List.set_cons_zero, List.set_cons_succ])
        refine rgH (i := 20) (oi := ?qo21) ?qh21 ?qr21
        case qh21 => (simp only [List.getElem?_toArray, List.getElem?_cons_succ, List.getElem?_cons_zero]; rfl)
        (refine ⟨by kernel_rfl, by kernel_rfl, by kernel_rfl, by assumption, ?qv21, fun _ _ _ h => h, Or.inl ⟨by kernel_rfl, ?qy21⟩, ?qn21⟩; case qy21 => (intro w hSw; (try dsimp only at hSw); go_simp; try with_reducible rfl))
        (try simp only [Act.put, List.setIfInBounds_toArray, List.set_cons_zero, List.set_cons_succ])
        refine rgH (i := 21) (oi := ?qo22) ?qh22 ?qr22
        case qh22 => (simp only [List.getElem?_toArray, List.getElem?_cons_succ, List.getElem?_cons_zero]; rfl)
        (refine ⟨by kernel_rfl, by kernel_rfl, by kernel_rfl, by assumption, undef, fun _ _ _ h => h, Or.inr ⟨by kernel_rfl, rfl⟩, ?qm22⟩)
        refine rgH (i := 22) (oi := ?qo23) ?qh23 ?qr23
        case qh23 => (simp only [List.getElem?_toArray, List.getElem?_cons_succ, List.getElem?_cons_zero]; rfl)
        (refine ⟨by kernel_rfl, by kernel_rfl, by kernel_rfl, by assumption, undef, fun _ _ _ h => h, Or.inr ⟨by kernel_rfl, rfl⟩, ?qm23⟩)
        refine rgH (i := 23) (oi := ?qo24) ?qh24 ?qr24
        case qh24 => (simp only [List.getElem?_toArray, List.getElem?_cons_succ, List.getElem?_cons_zero]; rfl)
        (refine ⟨by kernel_rfl, by kernel_rfl, by kernel_rfl, by assumption, undef, fun _ _ _ h => h, Or.inr ⟨by kernel_rfl, rfl⟩, ?qm24⟩)
        (try simp only [Act.put, List.setIfInBounds_toArray, List.set_cons_zero, List.set_cons_succ])
        refine rgH (i := 24) (oi := ?qo25) ?qh25 ?qr25
        case qh25 => (simp only [List.getElem?_toArray, List.getElem?_cons_succ, List.getElem?_cons_zero]; rfl)
        (refine ⟨by kernel_rfl, by kernel_rfl, by kernel_rfl, by assumption, undef, fun _ _ _ h => h, Or.inr ⟨by kernel_rfl, rfl⟩, ?qm25⟩)
        refine rgH (i := 25) (oi := ?qo26) ?qh26 ?qr26
        case qh26 => (simp only [List.getElem?_toArray, List.getElem?_cons_succ, List.getElem?_cons_zero]; rfl)
        (refine ⟨by kernel_rfl, by kernel_rfl, by kernel_rfl, by assumption, undef, fun _ _ _ h => h, Or.inr ⟨by kernel_rfl, rfl⟩, ?qm26⟩)
        refine rgH (i := 26) (oi := ?qo27) ?qh27 ?qr27
        case qh27 => (simp only [List.getElem?_toArray, List.getElem?_cons_succ, List.getElem?_cons_zero]; rfl)
        (refine ⟨by kernel_rfl, by kernel_rfl, by kernel_rfl, by assumption, undef, fun _ _ _ h => h, Or.inr ⟨by kernel_rfl, rfl⟩, ?qm27⟩)
        refine rgH (i := 27) (oi := ?qo28) ?qh28 ?qr28
        case qh28 => (simp only [List.getElem?_toArray, List.getElem?_cons_succ, List.getElem?_cons_zero]; rfl)
        (refine ⟨by kernel_rfl, by kernel_rfl, by kernel_rfl, by assumption, undef, fun _ _ _ h => h, Or.inr ⟨by kernel_rfl, rfl⟩, ?qm28⟩)
        (try simp only [Act.put, List.setIfInBounds_toArray, List.set_cons_zero, List.set_cons_succ])
        refine rgH (i := 28) (oi := ?qo29) ?qh29 ?qr29
        case qh29 => (simp only [List.getElem?_toArray, List.getElem?_cons_succ, List.getElem?_cons_zero]; rfl)
        (refine ⟨by kernel_rfl, by kernel_rfl, by kernel_rfl, by assumption, undef, fun _ _ _ h => h, Or.inr ⟨by kernel_rfl, rfl⟩, ?qm29⟩)
        refine rgH (i := 29) (oi := ?qo30) ?qh30 ?qr30
        case qh30 => (simp only [List.getElem?_toArray, List.getElem?_cons_succ, List.getElem?_cons_zero]; rfl)
        (refine ⟨by kernel_rfl, by kernel_rfl, by kernel_rfl, by assumption, undef, fun _ _ _ h => h, Or.inr ⟨by kernel_rfl, rfl⟩, ?qm30⟩)
        refine rgH (i := 30) (oi := ?qo31) ?qh31 ?qr31
        case qh31 => (simp only [List.getElem?_toArray, List.getElem?_cons_succ, List.getElem?_cons_zero]; rfl)
        (refine ⟨by kernel_rfl, by kernel_rfl, by kernel_rfl, by assumption, undef, fun _ _ _ h => h, Or.inr ⟨by kernel_rfl, rfl⟩, ?qm31⟩)
        refine rgH (i := 31) (oi := ?qo32) ?qh32 ?qr32
        case qh32 => (simp only [List.getElem?_toArray, List.getElem?_cons_succ, List.getElem?_cons_zero]; rfl)
        (refine ⟨by kernel_rfl, by kernel_rfl, by kernel_rfl, by assumption, undef, fun _ _ _ h => h, Or.inr ⟨by kernel_rfl, rfl⟩, ?qm32⟩)
        (try simp only [Act.put, List.setIfInBounds_toArray, List.set_cons_zero, List.set_cons_succ])
        refine rgH (i := 32) (oi := ?qo33) ?qh33 ?qr33
        case qh33 => (simp only [List.getElem?_toArray, List.getElem?_cons_succ, List.getElem?_cons_zero]; rfl)
        (refine ⟨by kernel_rfl, by kernel_rfl, by kernel_rfl, by assumption, undef, fun _ _ _ h => h, Or.inr ⟨by kernel_rfl, rfl⟩, ?qm33⟩)
        refine rgH (i := 33) (oi := ?qo34) ?qh34 ?qr34
        case qh34 => (simp only [List.getElem?_toArray, List.getElem?_cons_succ, List.getElem?_cons_zero]; rfl)
        (refine ⟨by kernel_rfl, by kernel_rfl, by kernel_rfl, by assumption, undef, fun _ _ _ h => h, Or.inr ⟨by kernel_rfl, rfl⟩, ?qm34⟩)
        refine rgH (i := 34) (oi := ?qo35) ?qh35 ?qr35
        case qh35 => (simp only [List.getElem?_toArray, List.getElem?_cons_succ, List.getElem?_cons_zero]; rfl)
        (refine ⟨by kernel_rfl, by kernel_rfl, by kernel_rfl, by assumption, undef, fun _ _ _ h => h, Or.inr ⟨by kernel_rfl, rfl⟩, ?qm35⟩)
        refine rgH (i := 35) (oi := ?qo36) ?qh36 ?qr36
        case qh36 => (simp only [List.getElem?_toArray, List.getElem?_cons_succ, List.getElem?_cons_zero]; rfl)
        (refine ⟨by kernel_rfl, by kernel_rfl, by kernel_rfl, by assumption, undef, fun _ _ _ h => h, Or.inr ⟨by kernel_rfl, rfl⟩, ?qm36⟩)
        (try simp only [Act.put, List.setIfInBounds_toArray, List.set_cons_zero, List.set_cons_succ])
        refine rgH (i := 36) (oi := ?qo37) ?qh37 ?qr37
        case qh37 => (simp only [List.getElem?_toArray, List.getElem?_cons_succ, List.getElem?_cons_zero]; rfl)
        (refine ⟨by kernel_rfl, by kernel_rfl, by kernel_rfl, by assumption, undef, fun _ _ _ h => h, Or.inr ⟨by kernel_rfl, rfl⟩, ?qm37⟩)
        refine rgH (i := 37) (oi := ?qo38) ?qh38 ?qr38
        case qh38 => (simp only [List.getElem?_toArray, List.getElem?_cons_succ, List.getElem?_cons_zero]; rfl)
        (refine ⟨by kernel_rfl, by kernel_rfl, by kernel_rfl, by assumption, undef, fun _ _ _ h => h, Or.inr ⟨by kernel_rfl, rfl⟩, ?qm38⟩)
        refine rgH (i := 38) (oi := ?qo39) ?qh39 ?qr39
        case qh39 => (simp only [List.getElem?_toArray, List.getElem?_cons_succ, List.getElem?_cons_zero]; rfl)
        (refine ⟨by kernel_rfl, by kernel_rfl, by kernel_rfl, by assumption, undef, fun _ _ _ h => h, Or.inr ⟨by kernel_rfl, rfl⟩, ?qm39⟩)
        (try simp only [Act.put, List.setIfInBounds_toArray, List.set_cons_zero, List.set_cons_succ])
        refine rgH (i := 39) (oi := ?qo40) ?qh40 ?qr40
        case qh40 => (simp only [List.getElem?_toArray, List.getElem?_cons_succ, List.getElem?_cons_zero]; rfl)
        (refine ⟨by kernel_rfl, by kernel_rfl, by kernel_rfl, by assumption, ?qv40, fun _ _ _ h => h, Or.inl ⟨by kernel_rfl, ?qy40⟩, ?qn40⟩; case qy40 => (intro w hSw; (try dsimp only at hSw); go_simp; try with_reducible rfl))
        (try simp only [Act.put, List.setIfInBounds_toArray, List.set_cons_zero, List.set_cons_succ])
        refine wpAnyH_done (by kernel_rfl) ?_ _
        go_wp2
        go_ret
        exact ⟨ret_bool (by rw [HHD.out, ptsOk_false HST.out hlt]), bel_next HW1.out HW1.out.size HBR.out.drew⟩
      · cases A
        · have HST : Hid (stepOk d2.length d3 k = false) := HSF.out rfl
          go_wp2
          refine wp_region_held_drew (S := fun w' => w'.cell? ⟨g, 2, none⟩ = some (.slice a2 d2.length p2) ∧ w'.cell? ⟨g, 3, none⟩ = some (.slice (some ⟨b, off, none⟩) d3.length p3) ∧ w'.cell? ⟨b, off + k * 2, none⟩ = some (.int .i64 x) ∧ w'.cell? ⟨b, off + k * 2 + 1, none⟩ = some (.slice a' ts.length cap')) (by kernel_rfl) ⟨s2, s3, hc, hc'⟩ (fun hHeld => ?_)
          refine rgH (i := 0) (oi := ?qo41) ?qh41 ?qr41
          case qh41 => (simp only [List.getElem?_toArray, List.getElem?_cons_succ, List.getElem?_cons_zero]; rfl)
          (refine ⟨by kernel_rfl, by kernel_rfl, by kernel_rfl, by assumption, ?qv41, fun _ _ _ h => h, Or.inl ⟨by kernel_rfl, ?qy41⟩, ?qn41⟩; case qy41 => (intro w hSw; (try dsimp only at hSw); go_simp; try with_reducible rfl))
          refine rgH (i := 1) (oi := ?qo42) ?qh42 ?qr42
          case qh42 => (simp only [List.getElem?_toArray, List.getElem?_cons_succ, List.getElem?_cons_zero]; rfl)
          (refine ⟨by kernel_rfl, by kernel_rfl, by kernel_rfl, by assumption, ?qv42, fun _ _ _ h => h, Or.inl ⟨by kernel_rfl, ?qy42⟩, ?qn42⟩; case qy42 => (intro w hSw; (try dsimp only at hSw); go_simp; try with_reducible rfl))
          refine rgH (i := 2) (oi := ?qo43) ?qh43 ?qr43
          case qh43 => (simp only [List.getElem?_toArray, List.getElem?_cons_succ, List.getElem?_cons_zero]; rfl)
          (refine ⟨by kernel_rfl, by kernel_rfl, by kernel_rfl, by assumption, ?qv43, fun _ _ _ h => h, Or.inl ⟨by kernel_rfl, ?qy43⟩, ?qn43⟩; case qy43 => (intro w hSw; (try dsimp only at hSw); go_simp; try with_reducible rfl))
          refine rgH (i := 3) (oi := ?qo44) ?qh44 ?qr44
          case qh44 => (simp only [List.getElem?_toArray, List.getElem?_cons_succ, List.getElem?_cons_zero]; rfl)
          (refine ⟨by kernel_rfl, by kernel_rfl, by kernel_rfl, by assumption, ?qv44, fun _ _ _ h => h, Or.inl ⟨by kernel_rfl, ?qy44⟩, ?qn44⟩; case qy44 => (intro w hSw; (try dsimp only at hSw); go_simp; try with_reducible rfl))
          (try simp only [Act.put, List.setIfInBounds_toArray, List.set_cons_zero, List.set_cons_succ])
          refine rgH (i := 4) (oi := ?qo45) ?qh45 ?qr45
          case qh45 => (simp only [List.getElem?_toArray, List.getElem?_cons_succ, List.getElem?_cons_zero]; rfl)
          (refine ⟨by kernel_rfl, by kernel_rfl, by kernel_rfl, by assumption, ?qv45, fun _ _ _ h => h, Or.inl ⟨by kernel_rfl, ?qy45⟩, ?qn45⟩; case qy45 => (intro w hSw; (try dsimp only at hSw); go_simp; try with_reducible rfl))
          refine rgH (i := 5) (oi := ?qo46) ?qh46 ?qr46
          case qh46 => (simp only [List.getElem?_toArray, List.getElem?_cons_succ, List.getElem?_cons_zero]; rfl)
          (refine ⟨by kernel_rfl, by kernel_rfl, by kernel_rfl, by assumption, ?qv46, fun _ _ _ h => h, Or.inl ⟨by kernel_rfl, ?qy46⟩, ?qn46⟩; case qy46 => (intro w hSw; (try dsimp only at hSw); go_simp; try with_reducible rfl))
          refine rgH (i := 6) (oi := ?qo47) ?qh47 ?qr47
          case qh47 => (simp only [List.getElem?_toArray, List.getElem?_cons_succ, List.getElem?_cons_zero]; rfl)
          (refine ⟨by kernel_rfl, by kernel_rfl, by kernel_rfl, by assumption, ?qv47, fun _ _ _ h => h, Or.inl ⟨by kernel_rfl, ?qy47⟩, ?qn47⟩; case qy47 => (intro w hSw; (try dsimp only at hSw); go_simp; try with_reducible rfl))
          refine rgH (i := 7) (oi := ?qo48) ?qh48 ?qr48
          case qh48 => (simp only [List.getElem?_toArray, List.getElem?_cons_succ, List.getElem?_cons_zero]; rfl)
          (refine ⟨by kernel_rfl, by kernel_rfl, by kernel_rfl, by assumption, ?qv48, fun _ _ _ h => h, Or.inl ⟨by kernel_rfl, ?qy48⟩, ?qn48⟩; case qy48 => (intro w hSw; (try dsimp only at hSw); go_simp; try with_reducible rfl))
          (try simp only [Act.put, List.setIfInBounds_toArray, List.set_cons_zero, List.set_cons_succ])
          refine rgH (i := 8) (oi := ?qo49) ?qh49 ?qr49
          case qh49 => (simp only [List.getElem?_toArray, List.getElem?_cons_succ, List.getElem?_cons_zero]; rfl)
          (refine ⟨by kernel_rfl, by kernel_rfl, by kernel_rfl, by assumption, ?qv49, fun _ _ _ h => h, Or.inl ⟨by kernel_rfl, ?qy49⟩, ?qn49⟩; case qy49 => (intro w hSw; (try dsimp only at hSw); go_simp; try with_reducible rfl))
          refine rgH (i := 9) (oi := ?qo50) ?qh50 ?qr50
          case qh50 => (simp only [List.getElem?_toArray, List.getElem?_cons_succ, List.getElem?_cons_zero]; rfl)
          (refine ⟨by kernel_rfl, by kernel_rfl, by kernel_rfl, by assumption, ?qv50, fun _ _ _ h => h, Or.inl ⟨by kernel_rfl, ?qy50⟩, ?qn50⟩; case qy50 => (intro w hSw; (try dsimp only at hSw); go_simp; try with_reducible rfl))
          (try simp only [Act.put, List.setIfInBounds_toArray, List.set_cons_zero, List.set_cons_succ])
          refine wpAnyH_ready (rs := [10]) (by kernel_rfl) (by simp) ?_
          refine rgHcall (i := 10) (o := ?qo51) ?qh51 ?qk51
          case qh51 => (simp only [List.getElem?_toArray, List.getElem?_cons_succ, List.getElem?_cons_zero]; rfl)
          intro K hK
          go_simp
          (go_at_call 39; refine (c_l00In _ _ _ _).mono ?_; rintro e w2 ⟨rfl, rfl⟩; rw [HI.out])
          refine hK.out _ _ hHeld (fun hHeld => ?_)
          clear hK K
          refine rgH (i := 11) (oi := ?qo52) ?qh52 ?qr52
          case qh52 => (simp only [List.getElem?_toArray, List.getElem?_cons_succ, List.getElem?_cons_zero]; rfl)
          (refine ⟨by kernel_rfl, by kernel_rfl, by kernel_rfl, by assumption, ?qv52, fun _ _ _ h => h, Or.inl ⟨by kernel_rfl, ?qy52⟩, ?qn52⟩; case qy52 => (intro w hSw; (try dsimp only at hSw); go_simp; try with_reducible rfl))
          (try simp only [Act.put, List.setIfInBounds_toArray, List.set_cons_zero, List.set_cons_succ])
          refine rgH (i := 12) (oi := ?qo53) ?qh53 ?qr53
          case qh53 => (simp only [List.getElem?_toArray, List.getElem?_cons_succ, List.getElem?_cons_zero]; rfl)
          (refine ⟨by kernel_rfl, by kernel_rfl, by kernel_rfl, by assumption, ?qv53, fun _ _ _ h => h, Or.inl ⟨by kernel_rfl, ?qy53⟩, ?qn53⟩; case qy53 => (intro w hSw; (try dsimp only at hSw); go_simp; try with_reducible rfl))
          refine rgH (i := 13) (oi := ?qo54) ?qh54 ?qr54
          case qh54 => (simp only [List.getElem?_toArray, List.getElem?_cons_succ, List.getElem?_cons_zero]; rfl)
          (refine ⟨by kernel_rfl, by kernel_rfl, by kernel_rfl, by assumption, ?qv54, fun _ _ _ h => h, Or.inl ⟨by kernel_rfl, ?qy54⟩, ?qn54⟩; case qy54 => (intro w hSw; (try dsimp only at hSw); go_simp; try with_reducible rfl))
          refine rgH (i := 14) (oi := ?qo55) ?qh55 ?qr55
          case qh55 => (simp only [List.getElem?_toArray, List.getElem?_cons_succ, List.getElem?_cons_zero]; rfl)
          (refine ⟨by kernel_rfl, by kernel_rfl, by kernel_rfl, by assumption, ?qv55, fun _ _ _ h => h, Or.inl ⟨by kernel_rfl, ?qy55⟩, ?qn55⟩; case qy55 => (intro w hSw; (try dsimp only at hSw); go_simp; try with_reducible rfl))
          refine rgH (i := 15) (oi := ?qo56) ?qh56 ?qr56
          case qh56 => (simp only [List.getElem?_toArray, List.getElem?_cons_succ, List.getElem?_cons_zero]; rfl)
          (refine ⟨by kernel_rfl, by kernel_rfl, by kernel_rfl, by assumption, ?qv56, fun _ _ _ h => h, Or.inl ⟨by kernel_rfl, ?qy56⟩, ?qn56⟩; case qy56 => (intro w hSw; (try dsimp only at hSw); go_simp; try with_reducible rfl))
          (try simp only [Act.put, List.setIfInBounds_toArray, List.set_cons_zero, List.set_cons_succ])
          refine rgH (i := 16) (oi := ?qo57) ?qh57 ?qr57
          case qh57 => (simp only [List.getElem?_toArray, List.getElem?_cons_succ, List.getElem?_cons_zero]; rfl)
          (refine ⟨by kernel_rfl, by kernel_rfl, by kernel_rfl, by assumption, ?qv57, fun _ _ _ h => h, Or.inl ⟨by kernel_rfl, ?qy57⟩, ?qn57⟩; case qy57 => (intro w hSw; (try dsimp only at hSw); go_simp; try with_reducible rfl))
          (try simp only [Act.put, List.setIfInBounds_toArray, List.set_cons_zero, List.set_cons_succ])
          refine wpAnyH_ready (rs := [17]) (by kernel_rfl) (by simp) ?_
          refine rgHcall (i := 17) (o := ?qo58) ?qh58 ?qk58
          case qh58 => (simp only [List.getElem?_toArray, List.getElem?_cons_succ, List.getElem?_cons_zero]; rfl)
          intro K hK
          go_simp
          (go_at_call 38; refine (c_l08Facts _ _ _ _ HS.out.drew).mono ?_; rintro e w2 ⟨rfl, rfl⟩; rw [HA.out])
          refine hK.out _ _ hHeld (fun hHeld => ?_)
          clear hK K
          refine rgH (i := 18) (oi := ?qo59) ?qh59 ?qr59
          case qh59 => (simp only [List.getElem?_toArray, List.getElem?_cons_succ, List.getElem?_cons_zero]; rfl)
          (refine ⟨by kernel_rfl, by kernel_rfl, by kernel_rfl, by assumption, ?qv59, fun _ _ _ h => h, Or.inl ⟨by kernel_rfl, ?qy59⟩, ?qn59⟩; case qy59 => (intro w hSw; (try dsimp only at hSw); go_simp; try with_reducible rfl))
          refine rgH (i := 19) (oi := ?qo60) ?qh60 ?qr60
          case qh60 => (simp only [List.getElem?_toArray, List.getElem?_cons_succ, List.getElem?_cons_zero]; rfl)
          (refine ⟨by kernel_rfl, by kernel_rfl, by kernel_rfl, by assumption, ?qv60, fun _ _ _ h => h, Or.inl ⟨by kernel_rfl, ?qy60⟩, ?qn60⟩; case qy60 => (intro w hSw; (try dsimp only at hSw); go_simp; try with_reducible rfl))
          (try simp only [Act.put, List.setIfInBounds_toArray, List.set_cons_zero, List.set_cons_succ])
          refine rgH (i := 20) (oi := ?qo61) ?qh61 ?qr61
          case qh61 => (simp only [List.getElem?_toArray, List.getElem?_cons_succ, List.getElem?_cons_zero]; rfl)
          (refine ⟨by kernel_rfl, by kernel_rfl, by kernel_rfl, by assumption, ?qv61, fun _ _ _ h => h, Or.inl ⟨by kernel_rfl, ?qy61⟩, ?qn61⟩; case qy61 => (intro w hSw; (try dsimp only at hSw); go_simp; try with_reducible rfl))
          (try simp only [Act.put, List.setIfInBounds_toArray, List.set_cons_zero, List.set_cons_succ])
          refine rgH (i := 21) (oi := ?qo62) ?qh62 ?qr62
          case qh62 => (simp only [List.getElem?_toArray, List.getElem?_cons_succ, List.getElem?_cons_zero]; rfl)
          (refine ⟨by kernel_rfl, by kernel_rfl, by kernel_rfl, by assumption, undef, fun _ _ _ h => h, Or.inr ⟨by kernel_rfl, rfl⟩, ?qm62⟩)
          refine rgH (i := 22) (oi := ?qo63) ?qh63 ?qr63
          case qh63 => (simp only [List.getElem?_toArray, List.getElem?_cons_succ, List.getElem?_cons_zero]; rfl)
          (refine ⟨by kernel_rfl, by kernel_rfl, by kernel_rfl, by assumption, undef, fun _ _ _ h => h, Or.inr ⟨by kernel_rfl, rfl⟩, ?qm63⟩)
          refine rgH (i := 23) (oi := ?qo64) ?qh64 ?qr64
          case qh64 => (simp only [List.getElem?_toArray, List.getElem?_cons_succ, List.getElem?_cons_zero]; rfl)
          (refine ⟨by kernel_rfl, by kernel_rfl, by kernel_rfl, by assumption, undef, fun _ _ _ h => h, Or.inr ⟨by kernel_rfl, rfl⟩, ?qm64⟩)
          (try simp only [Act.put, List.setIfInBounds_toArray, List.set_cons_zero, List.set_cons_succ])
          refine rgH (i := 24) (oi := ?qo65) ?qh65 ?qr65
          case qh65 => (simp only [List.getElem?_toArray, List.getElem?_cons_succ, List.getElem?_cons_zero]; rfl)
          (refine ⟨by kernel_rfl, by kernel_rfl, by kernel_rfl, by assumption, undef, fun _ _ _ h => h, Or.inr ⟨by kernel_rfl, rfl⟩, ?qm65⟩)
          refine rgH (i := 25) (oi := ?qo66) ?qh66 ?qr66
          case qh66 => (simp only [List.getElem?_toArray, List.getElem?_cons_succ, List.getElem?_cons_zero]; rfl)
          (refine ⟨by kernel_rfl, by kernel_rfl, by kernel_rfl, by assumption, undef, fun _ _ _ h => h, Or.inr ⟨by kernel_rfl, rfl⟩, ?qm66⟩)
          refine rgH (i := 26) (oi := ?qo67) ?qh67 ?qr67
          case qh67 => (simp only [List.getElem?_toArray, List.getElem?_cons_succ, List.getElem?_cons_zero]; rfl)
          (refine ⟨by kernel_rfl, by kernel_rfl, by kernel_rfl, by assumption, undef, fun _ _ _ h => h, Or.inr ⟨by kernel_rfl, rfl⟩, ?qm67⟩)
          refine rgH (i := 27) (oi := ?qo68) ?qh68 ?qr68
          case qh68 => (simp only [List.getElem?_toArray, List.getElem?_cons_succ, List.getElem?_cons_zero]; rfl)
          (refine ⟨by kernel_rfl, by kernel_rfl, by kernel_rfl, by assumption, undef, fun _ _ _ h => h, Or.inr ⟨by kernel_rfl, rfl⟩, ?qm68⟩)
          (try simp only [Act.put, List.setIfInBounds_toArray, List.set_cons_zero, List.set_cons_succ])
          refine rgH (i := 28) (oi := ?qo69) ?qh69 ?qr69
          case qh69 => (simp only [List.getElem?_toArray, List.getElem?_cons_succ, List.getElem?_cons_zero]; rfl)
          (refine ⟨by kernel_rfl, by kernel_rfl, by kernel_rfl, by assumption, undef, fun _ _ _ h => h, Or.inr ⟨by kernel_rfl, rfl⟩, ?qm69⟩)
          refine rgH (i := 29) (oi := ?qo70) ?qh70 ?qr70
          case qh70 => (simp only [List.getElem?_toArray, List.getElem?_cons_succ, List.getElem?_cons_zero]; rfl)
          (refine ⟨by kernel_rfl, by kernel_rfl, by kernel_rfl, by assumption, undef, fun _ _ _ h => h, Or.inr ⟨by kernel_rfl, rfl⟩, ?qm70⟩)
          refine rgH (i := 30) (oi := ?qo71) ?qh71 ?qr71
          case qh71 => (simp only [List.getElem?_toArray, List.getElem?_cons_succ, List.getElem?_cons_zero]; rfl)
          (refine ⟨by kernel_rfl, by kernel_rfl, by kernel_rfl, by assumption, undef, fun _ _ _ h => h, Or.inr ⟨by kernel_rfl, rfl⟩, ?qm71⟩)
          refine rgH (i := 31) (oi := ?qo72) ?qh72 ?qr72
          case qh72 => (simp only [List.getElem?_toArray, List.getElem?_cons_succ, List.getElem?_cons_zero]; rfl)
          (refine ⟨by kernel_rfl, by kernel_rfl, by kernel_rfl, by assumption, undef, fun _ _ _ h => h, Or.inr ⟨by kernel_rfl, rfl⟩, ?qm72⟩)
          (try simp only [Act.put, List.setIfInBounds_toArray, List.set_cons_zero, List.set_cons_succ])
          refine rgH (i := 32) (oi := ?qo73) ?qh73 ?qr73
          case qh73 => (simp only [List.getElem?_toArray, List.getElem?_cons_succ, List.getElem?_cons_zero]; rfl)
          (refine ⟨by kernel_rfl, by kernel_rfl, by kernel_rfl, by assumption, undef, fun _ _ _ h => h, Or.inr ⟨by kernel_rfl, rfl⟩, ?qm73⟩)
          refine rgH (i := 33) (oi := ?qo74) ?qh74 ?qr74
          case qh74 => (simp only [List.getElem?_toArray, List.getElem?_cons_succ, List.getElem?_cons_zero]; rfl)
          (refine ⟨by kernel_rfl, by kernel_rfl, by kernel_rfl, by assumption, undef, fun _ _ _ h => h, Or.inr ⟨by kernel_rfl, rfl⟩, ?qm74⟩)
          refine rgH (i := 34) (oi := ?qo75) ?qh75 ?qr75
          case qh75 => (simp only [List.getElem?_toArray, List.getElem?_cons_succ, List.getElem?_cons_zero]; rfl)
          (refine ⟨by kernel_rfl, by kernel_rfl, by kernel_rfl, by assumption, undef, fun _ _ _ h => h, Or.inr ⟨by kernel_rfl, rfl⟩, ?qm75⟩)
          refine rgH (i := 35) (oi := ?qo76) ?qh76 ?qr76
          case qh76 => (simp only [List.getElem?_toArray, List.getElem?_cons_succ, List.getElem?_cons_zero]; rfl)
          (refine ⟨by kernel_rfl, by kernel_rfl, by kernel_rfl, by assumption, undef, fun _ _ _ h => h, Or.inr ⟨by kernel_rfl, rfl⟩, ?qm76⟩)
          (try simp only [Act.put, List.setIfInBounds_toArray, List.set_cons_zero, List.set_cons_succ])
          refine rgH (i := 36) (oi := ?qo77) ?qh77 ?qr77
          case qh77 => (simp only [List.getElem?_toArray, List.getElem?_cons_succ, List.getElem?_cons_zero]; rfl)
          (refine ⟨by kernel_rfl, by kernel_rfl, by kernel_rfl, by assumption, undef, fun _ _ _ h => h, Or.inr ⟨by kernel_rfl, rfl⟩, ?qm77⟩)
          refine rgH (i := 37) (oi := ?qo78) ?qh78 ?qr78
          case qh78 => (simp only [List.getElem?_toArray, List.getElem?_cons_succ, List.getElem?_cons_zero]; rfl)
          (refine ⟨by kernel_rfl, by kernel_rfl, by kernel_rfl, by assumption, undef, fun _ _ _ h => h, Or.inr ⟨by kernel_rfl, rfl⟩, ?qm78⟩)
          refine rgH (i := 38) (oi := ?qo79) ?qh79 ?qr79
          case qh79 => (simp only [List.getElem?_toArray, List.getElem?_cons_succ, List.getElem?_cons_zero]; rfl)
          (refine ⟨by kernel_rfl, by kernel_rfl, by kernel_rfl, by assumption, undef, fun _ _ _ h => h, Or.inr ⟨by kernel_rfl, rfl⟩, ?qm79⟩)
          (try simp only [Act.put, List.setIfInBounds_toArray, List.set_cons_zero, List.set_cons_succ])
          refine rgH (i := 39) (oi := ?qo80) ?qh80 ?qr80
          case qh80 => (simp only [List.getElem?_toArray, List.getElem?_cons_succ, List.getElem?_cons_zero]; rfl)
          (refine ⟨by kernel_rfl, by kernel_rfl, by kernel_rfl, by assumption, ?qv80, fun _ _ _ h => h, Or.inl ⟨by kernel_rfl, ?qy80⟩, ?qn80⟩; case qy80 => (intro w hSw; (try dsimp only at hSw); go_simp; try with_reducible rfl))
          (try simp only [Act.put, List.setIfInBounds_toArray, List.set_cons_zero, List.set_cons_succ])
          refine wpAnyH_done (by kernel_rfl) ?_ _
          go_wp2
          go_ret
          exact ⟨ret_bool (by rw [HHD.out, ptsOk_false HST.out hlt]), bel_next HW1.out HW1.out.size HBR.out.drew⟩
        · clear HSF
          by_cases hk0 : k = 0
          · have e0 : decide ((0 : Int) < (k : Int)) = false := by simp; omega
            have e0n : decide (0 < k) = false := by simp; omega
            have HST : Hid (stepOk d2.length d3 k = true) := by
              have hz := HZ.out
              unfold Hid; subst hk0; rw [stepOk_zero hz, HA.out, HI.out]; rfl
            clear hk0
            go_wp2
            refine wp_region_held_drew (S := fun w' => w'.cell? ⟨g, 2, none⟩ = some (.slice a2 d2.length p2) ∧ w'.cell? ⟨g, 3, none⟩ = some (.slice (some ⟨b, off, none⟩) d3.length p3) ∧ w'.cell? ⟨b, off + k * 2, none⟩ = some (.int .i64 x) ∧ w'.cell? ⟨b, off + k * 2 + 1, none⟩ = some (.slice a' ts.length cap')) (by kernel_rfl) ⟨s2, s3, hc, hc'⟩ (fun hHeld => ?_)
            refine rgH (i := 0) (oi := ?qo81) ?qh81 ?qr81
            case qh81 => (simp only [List.getElem?_toArray, List.getElem?_cons_succ, List.getElem?_cons_zero]; rfl)
            (refine ⟨by kernel_rfl, by kernel_rfl, by kernel_rfl, by assumption, ?qv81, fun _ _ _ h => h, Or.inl ⟨by kernel_rfl, ?qy81⟩, ?qn81⟩; case qy81 => (intro w hSw; (try dsimp only at hSw); go_simp; try with_reducible rfl))
            refine rgH (i := 1) (oi := ?qo82) ?qh82 ?qr82
            case qh82 => (simp only [List.getElem?_toArray, List.getElem?_cons_succ, List.getElem?_cons_zero]; rfl)
            (refine ⟨by kernel_rfl, by kernel_rfl, by kernel_rfl, by assumption, ?qv82, fun _ _ _ h => h, Or.inl ⟨by kernel_rfl, ?qy82⟩, ?qn82⟩; case qy82 => (intro w hSw; (try dsimp only at hSw); go_simp; try with_reducible rfl))
            refine rgH (i := 2) (oi := ?qo83) ?qh83 ?qr83
            case qh83 => (simp only [List.getElem?_toArray, List.getElem?_cons_succ, List.getElem?_cons_zero]; rfl)
            (refine ⟨by kernel_rfl, by kernel_rfl, by kernel_rfl, by assumption, ?qv83, fun _ _ _ h => h, Or.inl ⟨by kernel_rfl, ?qy83⟩, ?qn83⟩; case qy83 => (intro w hSw; (try dsimp only at hSw); go_simp; try with_reducible rfl))
            refine rgH (i := 3) (oi := ?qo84) ?qh84 ?qr84
            case qh84 => (simp only [List.getElem?_toArray, List.getElem?_cons_succ, List.getElem?_cons_zero]; rfl)
            (refine ⟨by kernel_rfl, by kernel_rfl, by kernel_rfl, by assumption, ?qv84, fun _ _ _ h => h, Or.inl ⟨by kernel_rfl, ?qy84⟩, ?qn84⟩; case qy84 => (intro w hSw; (try dsimp only at hSw); go_simp; try with_reducible rfl))
            (try simp only [Act.put, List.setIfInBounds_toArray, List.set_cons_zero, List.set_cons_succ])
            refine rgH (i := 4) (oi := ?qo85) ?qh85 ?qr85
            case qh85 => (simp only [List.getElem?_toArray, List.getElem?_cons_succ, List.getElem?_cons_zero]; rfl)
            (refine ⟨by kernel_rfl, by kernel_rfl, by kernel_rfl, by assumption, ?qv85, fun _ _ _ h => h, Or.inl ⟨by kernel_rfl, ?qy85⟩, ?qn85⟩; case qy85 => (intro w hSw; (try dsimp only at hSw); go_simp; try with_reducible rfl))
            refine rgH (i := 5) (oi := ?qo86) ?qh86 ?qr86
            case qh86 => (simp only [List.getElem?_toArray, List.getElem?_cons_succ, List.getElem?_cons_zero]; rfl)
            (refine ⟨by kernel_rfl, by kernel_rfl, by kernel_rfl, by assumption, ?qv86, fun _ _ _ h => h, Or.inl ⟨by kernel_rfl, ?qy86⟩, ?qn86⟩; case qy86 => (intro w hSw; (try dsimp only at hSw); go_simp; try with_reducible rfl))
            refine rgH (i := 6) (oi := ?qo87) ?qh87 ?qr87
            case qh87 => (simp only [List.getElem?_toArray, List.getElem?_cons_succ, List.getElem?_cons_zero]; rfl)
            (refine ⟨by kernel_rfl, by kernel_rfl, by kernel_rfl, by assumption, ?qv87, fun _ _ _ h => h, Or.inl ⟨by kernel_rfl, ?qy87⟩, ?qn87⟩; case qy87 => (intro w hSw; (try dsimp only at hSw); go_simp; try with_reducible rfl))
            refine rgH (i := 7) (oi := ?qo88) ?qh88 ?qr88
            case qh88 => (simp only [List.getElem?_toArray, List.getElem?_cons_succ, List.getElem?_cons_zero]; rfl)
            (refine ⟨by kernel_rfl, by kernel_rfl, by kernel_rfl, by assumption, ?qv88, fun _ _ _ h => h, Or.inl ⟨by kernel_rfl, ?qy88⟩, ?qn88⟩; case qy88 => (intro w hSw; (try dsimp only at hSw); go_simp; try with_reducible rfl))
            (try simp only [Act.put, List.setIfInBounds_toArray, List.set_cons_zero, List.set_cons_succ])
            refine rgH (i := 8) (oi := ?qo89) ?qh89 ?qr89
            case qh89 => (simp only [List.getElem?_toArray, List.getElem?_cons_succ, List.getElem?_cons_zero]; rfl)
            (refine ⟨by kernel_rfl, by kernel_rfl, by kernel_rfl, by assumption, ?qv89, fun _ _ _ h => h, Or.inl ⟨by kernel_rfl, ?qy89⟩, ?qn89⟩; case qy89 => (intro w hSw; (try dsimp only at hSw); go_simp; try with_reducible rfl))
            refine rgH (i := 9) (oi := ?qo90) ?qh90 ?qr90
            case qh90 => (simp only [List.getElem?_toArray, List.getElem?_cons_succ, List.getElem?_cons_zero]; rfl)
            (refine ⟨by kernel_rfl, by kernel_rfl, by kernel_rfl, by assumption, ?qv90, fun _ _ _ h => h, Or.inl ⟨by kernel_rfl, ?qy90⟩, ?qn90⟩; case qy90 => (intro w hSw; (try dsimp only at hSw); go_simp; try with_reducible rfl))
            (try simp only [Act.put, List.setIfInBounds_toArray, List.set_cons_zero, List.set_cons_succ])
            refine wpAnyH_ready (rs := [10]) (by kernel_rfl) (by simp) ?_
            refine rgHcall (i := 10) (o := ?qo91) ?qh91 ?qk91
            case qh91 => (simp only [List.getElem?_toArray, List.getElem?_cons_succ, List.getElem?_cons_zero]; rfl)
            intro K hK
            go_simp
            (go_at_call 39; refine (c_l00In _ _ _ _).mono ?_; rintro e w2 ⟨rfl, rfl⟩; rw [HI.out])
            refine hK.out _ _ hHeld (fun hHeld => ?_)
            clear hK K
            refine rgH (i := 11) (oi := ?qo92) ?qh92 ?qr92
            case qh92 => (simp only [List.getElem?_toArray, List.getElem?_cons_succ, List.getElem?_cons_zero]; rfl)
            (refine ⟨by kernel_rfl, by kernel_rfl, by kernel_rfl, by assumption, ?qv92, fun _ _ _ h => h, Or.inl ⟨by kernel_rfl, ?qy92⟩, ?qn92⟩; case qy92 => (intro w hSw; (try dsimp only at hSw); go_simp; try with_reducible rfl))
            (try simp only [Act.put, List.setIfInBounds_toArray, List.set_cons_zero, List.set_cons_succ])
            refine rgH (i := 12) (oi := ?qo93) ?qh93 ?qr93
            case qh93 => (simp only [List.getElem?_toArray, List.getElem?_cons_succ, List.getElem?_cons_zero]; rfl)
            (refine ⟨by kernel_rfl, by kernel_rfl, by kernel_rfl, by assumption, ?qv93, fun _ _ _ h => h, Or.inl ⟨by kernel_rfl, ?qy93⟩, ?qn93⟩; case qy93 => (intro w hSw; (try dsimp only at hSw); go_simp; try with_reducible rfl))
            refine rgH (i := 13) (oi := ?qo94) ?qh94 ?qr94
            case qh94 => (simp only [List.getElem?_toArray, List.getElem?_cons_succ, List.getElem?_cons_zero]; rfl)
            (refine ⟨by kernel_rfl, by kernel_rfl, by kernel_rfl, by assumption, ?qv94, fun _ _ _ h => h, Or.inl ⟨by kernel_rfl, ?qy94⟩, ?qn94⟩; case qy94 => (intro w hSw; (try dsimp only at hSw); go_simp; try with_reducible rfl))
            refine rgH (i := 14) (oi := ?qo95) ?qh95 ?qr95
            case qh95 => (simp only [List.getElem?_toArray, List.getElem?_cons_succ, List.getElem?_cons_zero]; rfl)
            (refine ⟨by kernel_rfl, by kernel_rfl, by kernel_rfl, by assumption, ?qv95, fun _ _ _ h => h, Or.inl ⟨by kernel_rfl, ?qy95⟩, ?qn95⟩; case qy95 => (intro w hSw; (try dsimp only at hSw); go_simp; try with_reducible rfl))
            refine rgH (i := 15) (oi := ?qo96) ?qh96 ?qr96
            case qh96 => (simp only [List.getElem?_toArray, List.getElem?_cons_succ, List.getElem?_cons_zero]; rfl)
            (refine ⟨by kernel_rfl, by kernel_rfl, by kernel_rfl, by assumption, ?qv96, fun _ _ _ h => h, Or.inl ⟨by kernel_rfl, ?qy96⟩, ?qn96⟩; case qy96 => (intro w hSw; (try dsimp only at hSw); go_simp; try with_reducible rfl))
            (try simp only [Act.put, List.setIfInBounds_toArray, List.set_cons_zero, List.set_cons_succ])
            refine rgH (i := 16) (oi := ?qo97) ?qh97 ?qr97
            case qh97 => (simp only [List.getElem?_toArray, List.getElem?_cons_succ, List.getElem?_cons_zero]; rfl)
            (refine ⟨by kernel_rfl, by kernel_rfl, by kernel_rfl, by assumption, ?qv97, fun _ _ _ h => h, Or.inl ⟨by kernel_rfl, ?qy97⟩, ?qn97⟩; case qy97 => (intro w hSw; (try dsimp only at hSw); go_simp; try with_reducible rfl))
            (try simp only [Act.put, List.setIfInBounds_toArray, List.set_cons_zero, List.set_cons_succ])
            refine wpAnyH_ready (rs := [17]) (by kernel_rfl) (by simp) ?_
            refine rgHcall (i := 17) (o := ?qo98) ?qh98 ?qk98
            case qh98 => (simp only [List.getElem?_toArray, List.getElem?_cons_succ, List.getElem?_cons_zero]; rfl)
            intro K hK
            go_simp
            (go_at_call 38; refine (c_l08Facts _ _ _ _ HS.out.drew).mono ?_; rintro e w2 ⟨rfl, rfl⟩; rw [HA.out])
            refine hK.out _ _ hHeld (fun hHeld => ?_)
            clear hK K
            refine rgH (i := 18) (oi := ?qo99) ?qh99 ?qr99
            case qh99 => (simp only [List.getElem?_toArray, List.getElem?_cons_succ, List.getElem?_cons_zero]; rfl)
            (refine ⟨by kernel_rfl, by kernel_rfl, by kernel_rfl, by assumption, ?qv99, fun _ _ _ h => h, Or.inl ⟨by kernel_rfl, ?qy99⟩, ?qn99⟩; case qy99 => (intro w hSw; (try dsimp only at hSw); go_simp; try with_reducible rfl))
            refine rgH (i := 19) (oi := ?qo100) ?qh100 ?qr100
            case qh100 => (simp only [List.getElem?_toArray, List.getElem?_cons_succ, List.getElem?_cons_zero]; rfl)
            (refine ⟨by kernel_rfl, by kernel_rfl, by kernel_rfl, by assumption, ?qv100, fun _ _ _ h => h, Or.inl ⟨by kernel_rfl, ?qy100⟩, ?qn100⟩; case qy100 => (intro w hSw; (try dsimp only at hSw); go_simp; try with_reducible rfl))
            (try simp only [Act.put, List.setIfInBounds_toArray, List.set_cons_zero, List.set_cons_succ])
            refine rgH (i := 20) (oi := ?qo101) ?qh101 ?qr101
            case qh101 => (simp only [List.getElem?_toArray, List.getElem?_cons_succ, List.getElem?_cons_zero]; rfl)
            (refine ⟨by kernel_rfl, by kernel_rfl, by kernel_rfl, by assumption, ?qv101, fun _ _ _ h => h, Or.inl ⟨by kernel_rfl, ?qy101⟩, ?qn101⟩; case qy101 => (intro w hSw; (try dsimp only at hSw); go_simp; try with_reducible rfl))
            refine rgH (i := 21) (oi := ?qo102) ?qh102 ?qr102
            case qh102 => (simp only [List.getElem?_toArray, List.getElem?_cons_succ, List.getElem?_cons_zero]; rfl)
            (refine ⟨by kernel_rfl, by kernel_rfl, by kernel_rfl, by assumption, ?qv102, fun _ _ _ h => h, Or.inl ⟨by kernel_rfl, ?qy102⟩, ?qn102⟩; case qy102 => (intro w hSw; (try dsimp only at hSw); go_simp; try with_reducible rfl))
            refine rgH (i := 22) (oi := ?qo103) ?qh103 ?qr103
            case qh103 => (simp only [List.getElem?_toArray, List.getElem?_cons_succ, List.getElem?_cons_zero]; rfl)
            (refine ⟨by kernel_rfl, by kernel_rfl, by kernel_rfl, by assumption, ?qv103, fun _ _ _ h => h, Or.inl ⟨by kernel_rfl, ?qy103⟩, ?qn103⟩; case qy103 => (intro w hSw; (try dsimp only at hSw); go_simp; try with_reducible rfl))
            refine rgH (i := 23) (oi := ?qo104) ?qh104 ?qr104
            case qh104 => (simp only [List.getElem?_toArray, List.getElem?_cons_succ, List.getElem?_cons_zero]; rfl)
            (refine ⟨by kernel_rfl, by kernel_rfl, by kernel_rfl, by assumption, ?qv104, fun _ _ _ h => h, Or.inl ⟨by kernel_rfl, ?qy104⟩, ?qn104⟩; case qy104 => (intro w hSw; (try dsimp only at hSw); go_simp; try with_reducible rfl))
            (try simp only [Act.put, List.setIfInBounds_toArray, List.set_cons_zero, List.set_cons_succ])
            refine rgH (i := 24) (oi := ?qo105) ?qh105 ?qr105
            case qh105 => (simp only [List.getElem?_toArray, List.getElem?_cons_succ, List.getElem?_cons_zero]; rfl)
            (refine ⟨by kernel_rfl, by kernel_rfl, by kernel_rfl, by assumption, undef, fun _ _ _ h => h, Or.inr ⟨by kernel_rfl, rfl⟩, ?qm105⟩)
            refine rgH (i := 25) (oi := ?qo106) ?qh106 ?qr106
            case qh106 => (simp only [List.getElem?_toArray, List.getElem?_cons_succ, List.getElem?_cons_zero]; rfl)
            (refine ⟨by kernel_rfl, by kernel_rfl, by kernel_rfl, by assumption, undef, fun _ _ _ h => h, Or.inr ⟨by kernel_rfl, rfl⟩, ?qm106⟩)
            refine rgH (i := 26) (oi := ?qo107) ?qh107 ?qr107
            case qh107 => (simp only [List.getElem?_toArray, List.getElem?_cons_succ, List.getElem?_cons_zero]; rfl)
            (refine ⟨by kernel_rfl, by kernel_rfl, by kernel_rfl, by assumption, undef, fun _ _ _ h => h, Or.inr ⟨by kernel_rfl, rfl⟩, ?qm107⟩)
            refine rgH (i := 27) (oi := ?qo108) ?qh108 ?qr108
            case qh108 => (simp only [List.getElem?_toArray, List.getElem?_cons_succ, List.getElem?_cons_zero]; rfl)
            (refine ⟨by kernel_rfl, by kernel_rfl, by kernel_rfl, by assumption, undef, fun _ _ _ h => h, Or.inr ⟨by kernel_rfl, rfl⟩, ?qm108⟩)
            (try simp only [Act.put, List.setIfInBounds_toArray, List.set_cons_zero, List.set_cons_succ])
            refine rgH (i := 28) (oi := ?qo109) ?qh109 ?qr109
            case qh109 => (simp only [List.getElem?_toArray, List.getElem?_cons_succ, List.getElem?_cons_zero]; rfl)
            (refine ⟨by kernel_rfl, by kernel_rfl, by kernel_rfl, by assumption, undef, fun _ _ _ h => h, Or.inr ⟨by kernel_rfl, rfl⟩, ?qm109⟩)
            refine rgH (i := 29) (oi := ?qo110) ?qh110 ?qr110
            case qh110 => (simp only [List.getElem?_toArray, List.getElem?_cons_succ, List.getElem?_cons_zero]; rfl)
            (refine ⟨by kernel_rfl, by kernel_rfl, by kernel_rfl, by assumption, undef, fun _ _ _ h => h, Or.inr ⟨by kernel_rfl, rfl⟩, ?qm110⟩)
            refine rgH (i := 30) (oi := ?qo111) ?qh111 ?qr111
            case qh111 => (simp only [List.getElem?_toArray, List.getElem?_cons_succ, List.getElem?_cons_zero]; rfl)
            (refine ⟨by kernel_rfl, by kernel_rfl, by kernel_rfl, by assumption, undef, fun _ _ _ h => h, Or.inr ⟨by kernel_rfl, rfl⟩, ?qm111⟩)
            refine rgH (i := 31) (oi := ?qo112) ?qh112 ?qr112
            case qh112 => (simp only [List.getElem?_toArray, List.getElem?_cons_succ, List.getElem?_cons_zero]; rfl)
            (refine ⟨by kernel_rfl, by kernel_rfl, by kernel_rfl, by assumption, undef, fun _ _ _ h => h, Or.inr ⟨by kernel_rfl, rfl⟩, ?qm112⟩)
            (try simp only [Act.put, List.setIfInBounds_toArray, List.set_cons_zero, List.set_cons_succ])
            refine rgH (i := 32) (oi := ?qo113) ?qh113 ?qr113
            case qh113 => (simp only [List.getElem?_toArray, List.getElem?_cons_succ, List.getElem?_cons_zero]; rfl)
            (refine ⟨by kernel_rfl, by kernel_rfl, by kernel_rfl, by assumption, undef, fun _ _ _ h => h, Or.inr ⟨by kernel_rfl, rfl⟩, ?qm113⟩)
            refine rgH (i := 33) (oi := ?qo114) ?qh114 ?qr114
            case qh114 => (simp only [List.getElem?_toArray, List.getElem?_cons_succ, List.getElem?_cons_zero]; rfl)
            (refine ⟨by kernel_rfl, by kernel_rfl, by kernel_rfl, by assumption, undef, fun _ _ _ h => h, Or.inr ⟨by kernel_rfl, rfl⟩, ?qm114⟩)
            refine rgH (i := 34) (oi := ?qo115) ?qh115 ?qr115
            case qh115 => (simp only [List.getElem?_toArray, List.getElem?_cons_succ, List.getElem?_cons_zero]; rfl)
            (refine ⟨by kernel_rfl, by kernel_rfl, by kernel_rfl, by assumption, undef, fun _ _ _ h => h, Or.inr ⟨by kernel_rfl, rfl⟩, ?qm115⟩)
            refine rgH (i := 35) (oi := ?qo116) ?qh116 ?qr116
            case qh116 => (simp only [List.getElem?_toArray, List.getElem?_cons_succ, List.getElem?_cons_zero]; rfl)
            (refine ⟨by kernel_rfl, by kernel_rfl, by kernel_rfl, by assumption, undef, fun _ _ _ h => h, Or.inr ⟨by kernel_rfl, rfl⟩, ?qm116⟩)
            (try simp only [Act.put, List.setIfInBounds_toArray, List.set_cons_zero, List.set_cons_succ])
            refine rgH (i := 36) (oi := ?qo117) ?qh117 ?qr117
            case qh117 => (simp only [List.getElem?_toArray, List.getElem?_cons_succ, List.getElem?_cons_zero]; rfl)
            (refine ⟨by kernel_rfl, by kernel_rfl, by kernel_rfl, by assumption, undef, fun _ _ _ h => h, Or.inr ⟨by kernel_rfl, rfl⟩, ?qm117⟩)
            refine rgH (i := 37) (oi := ?qo118) ?qh118 ?qr118
            case qh118 => (simp only [List.getElem?_toArray, List.getElem?_cons_succ, List.getElem?_cons_zero]; rfl)
            (refine ⟨by kernel_rfl, by kernel_rfl, by kernel_rfl, by assumption, undef, fun _ _ _ h => h, Or.inr ⟨by kernel_rfl, rfl⟩, ?qm118⟩)
            (try simp only [Act.put, List.setIfInBounds_toArray, List.set_cons_zero, List.set_cons_succ])
            refine rgH (i := 38) (oi := ?qo119) ?qh119 ?qr119
            case qh119 => (simp only [List.getElem?_toArray, List.getElem?_cons_succ, List.getElem?_cons_zero]; rfl)
            (refine ⟨by kernel_rfl, by kernel_rfl, by kernel_rfl, by assumption, ?qv119, fun _ _ _ h => h, Or.inl ⟨by kernel_rfl, ?qy119⟩, ?qn119⟩; case qy119 => (intro w hSw; (try dsimp only at hSw); go_simp; try with_reducible rfl))
            refine rgH (i := 39) (oi := ?qo120) ?qh120 ?qr120
            case qh120 => (simp only [List.getElem?_toArray, List.getElem?_cons_succ, List.getElem?_cons_zero]; rfl)
            (refine ⟨by kernel_rfl, by kernel_rfl, by kernel_rfl, by assumption, ?qv120, fun _ _ _ h => h, Or.inl ⟨by kernel_rfl, ?qy120⟩, ?qn120⟩; case qy120 => (intro w hSw; (try dsimp only at hSw); go_simp; try with_reducible rfl))
            (try simp only [Act.put, List.setIfInBounds_toArray, List.set_cons_zero, List.set_cons_succ])
            refine wpAnyH_done (by kernel_rfl) ?_ _
            go_wp2
            go_roundw
            case rel => exact ⟨k + 1, by omega, by go_num, (ptsOk_succ HK.out).trans HST.out, HBR.out.drew⟩
            case measure => simp [intOf]; omega
          · have hk1 : k - 1 < d3.length := by omega
            obtain ⟨y, a'', cap'', ts', hy, hy1, _, yc, _, _⟩ := (H31.out.below (Nat.le_refl _) HBR.out).pt_at (k - 1) hk1
            have HST0 : Hid (stepOk d2.length d3 k = decide (y < x)) := by
              have hz := HZ.out
              obtain ⟨j, rfl⟩ : ∃ j, k = j + 1 := ⟨k - 1, by omega⟩
              unfold Hid; rw [stepOk_succ hz hy, HA.out, HI.out]; simp
            have e0 : decide ((0 : Int) < (k : Int)) = true := by simp; omega
            have e0n : decide (0 < k) = true := by simp; omega
            have vw1 : IntKind.i64.wrap ((k : Int) - 1) = (k : Int) - 1 := wrap_in _ (by omega) (by omega)
            have w2 : ((k : Int) - 1).toNat = k - 1 := by omega
            have w3 : (0 : Int) ≤ (k : Int) - 1 := by omega
            have w4 : (1 : Int) ≤ (k : Int) := by omega
            have w5 : (k : Int) - 1 < (d3.length : Int) := by omega
            have w6 : ¬ (k : Int) - 1 < 0 := by omega
            clear hy
            by_cases hyx : y < x
            · have HST : Hid (stepOk d2.length d3 k = true) := by unfold Hid; rw [HST0.out]; simp [hyx]
              have e1 : decide (x ≤ y) = false := by simp; omega
              go_wp2
              refine wp_region_held_drew (S := fun w' => w'.cell? ⟨g, 2, none⟩ = some (.slice a2 d2.length p2) ∧ w'.cell? ⟨g, 3, none⟩ = some (.slice (some ⟨b, off, none⟩) d3.length p3) ∧ w'.cell? ⟨b, off + k * 2, none⟩ = some (.int .i64 x) ∧ w'.cell? ⟨b, off + k * 2 + 1, none⟩ = some (.slice a' ts.length cap') ∧ w'.cell? ⟨b, off + (k - 1) * 2, none⟩ = some (.int .i64 y)) (by kernel_rfl) ⟨s2, s3, hc, hc', yc⟩ (fun hHeld => ?_)
              refine rgH (i := 0) (oi := ?qo121) ?qh121 ?qr121
              case qh121 => (simp only [List.getElem?_toArray, List.getElem?_cons_succ, List.getElem?_cons_zero]; rfl)
              (refine ⟨by kernel_rfl, by kernel_rfl, by kernel_rfl, by assumption, ?qv121, fun _ _ _ h => h, Or.inl ⟨by kernel_rfl, ?qy121⟩, ?qn121⟩; case qy121 => (intro w hSw; (try dsimp only at hSw); go_simp; try with_reducible rfl))
              refine rgH (i := 1) (oi := ?qo122) ?qh122 ?qr122
              case qh122 => (simp only [List.getElem?_toArray, List.getElem?_cons_succ, List.getElem?_cons_zero]; rfl)
              (refine ⟨by kernel_rfl, by kernel_rfl, by kernel_rfl, by assumption, ?qv122, fun _ _ _ h => h, Or.inl ⟨by kernel_rfl, ?qy122⟩, ?qn122⟩; case qy122 => (intro w hSw; (try dsimp only at hSw); go_simp; try with_reducible rfl))
              refine rgH (i := 2) (oi := ?qo123) ?qh123 ?qr123
              case qh123 => (simp only [List.getElem?_toArray, List.getElem?_cons_succ, List.getElem?_cons_zero]; rfl)
              (refine ⟨by kernel_rfl, by kernel_rfl, by kernel_rfl, by assumption, ?qv123, fun _ _ _ h => h, Or.inl ⟨by kernel_rfl, ?qy123⟩, ?qn123⟩; case qy123 => (intro w hSw; (try dsimp only at hSw); go_simp; try with_reducible rfl))
              refine rgH (i := 3) (oi := ?qo124) ?qh124 ?qr124
              case qh124 => (simp only [List.getElem?_toArray, List.getElem?_cons_succ, List.getElem?_cons_zero]; rfl)
              (refine ⟨by kernel_rfl, by kernel_rfl, by kernel_rfl, by assumption, ?qv124, fun _ _ _ h => h, Or.inl ⟨by kernel_rfl, ?qy124⟩, ?qn124⟩; case qy124 => (intro w hSw; (try dsimp only at hSw); go_simp; try with_reducible rfl))
              (try simp only [Act.put, List.setIfInBounds_toArray, List.set_cons_zero, List.set_cons_succ])
              refine rgH (i := 4) (oi := ?qo125) ?qh125 ?qr125
              case qh125 => (simp only [List.getElem?_toArray, List.getElem?_cons_succ, List.getElem?_cons_zero]; rfl)
              (refine ⟨by kernel_rfl, by kernel_rfl, by kernel_rfl, by assumption, ?qv125, fun _ _ _ h => h, Or.inl ⟨by kernel_rfl, ?qy125⟩, ?qn125⟩; case qy125 => (intro w hSw; (try dsimp only at hSw); go_simp; try with_reducible rfl))
              refine rgH (i := 5) (oi := ?qo126) ?qh126 ?qr126
              case qh126 => (simp only [List.getElem?_toArray, List.getElem?_cons_succ, List.getElem?_cons_zero]; rfl)
              (refine ⟨by kernel_rfl, by kernel_rfl, by kernel_rfl, by assumption, ?qv126, fun _ _ _ h => h, Or.inl ⟨by kernel_rfl, ?qy126⟩, ?qn126⟩; case qy126 => (intro w hSw; (try dsimp only at hSw); go_simp; try with_reducible rfl))
              refine rgH (i := 6) (oi := ?qo127) ?qh127 ?qr127
              case qh127 => (simp only [List.getElem?_toArray, List.getElem?_cons_succ, List.getElem?_cons_zero]; rfl)
              (refine ⟨by kernel_rfl, by kernel_rfl, by kernel_rfl, by assumption, ?qv127, fun _ _ _ h => h, Or.inl ⟨by kernel_rfl, ?qy127⟩, ?qn127⟩; case qy127 => (intro w hSw; (try dsimp only at hSw); go_simp; try with_reducible rfl))
              refine rgH (i := 7) (oi := ?qo128) ?qh128 ?qr128
              case qh128 => (simp only [List.getElem?_toArray, List.getElem?_cons_succ, List.getElem?_cons_zero]; rfl)
              (refine ⟨by kernel_rfl, by kernel_rfl, by kernel_rfl, by assumption, ?qv128, fun _ _ _ h => h, Or.inl ⟨by kernel_rfl, ?qy128⟩, ?qn128⟩; case qy128 => (intro w hSw; (try dsimp only at hSw); go_simp; try with_reducible rfl))
              (try simp only [Act.put, List.setIfInBounds_toArray, List.set_cons_zero, List.set_cons_succ])
              refine rgH (i := 8) (oi := ?qo129) ?qh129 ?qr129
              case qh129 => (simp only [List.getElem?_toArray, List.getElem?_cons_succ, List.getElem?_cons_zero]; rfl)
              (refine ⟨by kernel_rfl, by kernel_rfl, by kernel_rfl, by assumption, ?qv129, fun _ _ _ h => h, Or.inl ⟨by kernel_rfl, ?qy129⟩, ?qn129⟩; case qy129 => (intro w hSw; (try dsimp only at hSw); go_simp; try with_reducible rfl))
              refine rgH (i := 9) (oi := ?qo130) ?qh130 ?qr130
              case qh130 => (simp only [List.getElem?_toArray, List.getElem?_cons_succ, List.getElem?_cons_zero]; rfl)
              (refine ⟨by kernel_rfl, by kernel_rfl, by kernel_rfl, by assumption, ?qv130, fun _ _ _ h => h, Or.inl ⟨by kernel_rfl, ?qy130⟩, ?qn130⟩; case qy130 => (intro w hSw; (try dsimp only at hSw); go_simp; try with_reducible rfl))
              (try simp only [Act.put, List.setIfInBounds_toArray, List.set_cons_zero, List.set_cons_succ])
              refine wpAnyH_ready (rs := [10]) (by kernel_rfl) (by simp) ?_
              refine rgHcall (i := 10) (o := ?qo131) ?qh131 ?qk131
              case qh131 => (simp only [List.getElem?_toArray, List.getElem?_cons_succ, List.getElem?_cons_zero]; rfl)
              intro K hK
              go_simp
              (go_at_call 39; refine (c_l00In _ _ _ _).mono ?_; rintro e w2 ⟨rfl, rfl⟩; rw [HI.out])
              refine hK.out _ _ hHeld (fun hHeld => ?_)
              clear hK K
              refine rgH (i := 11) (oi := ?qo132) ?qh132 ?qr132
              case qh132 => (simp only [List.getElem?_toArray, List.getElem?_cons_succ, List.getElem?_cons_zero]; rfl)
              (refine ⟨by kernel_rfl, by kernel_rfl, by kernel_rfl, by assumption, ?qv132, fun _ _ _ h => h, Or.inl ⟨by kernel_rfl, ?qy132⟩, ?qn132⟩; case qy132 => (intro w hSw; (try dsimp only at hSw); go_simp; try with_reducible rfl))
              (try simp only [Act.put, List.setIfInBounds_toArray, List.set_cons_zero, List.set_cons_succ])
              refine rgH (i := 12) (oi := ?qo133) ?qh133 ?qr133
              case qh133 => (simp only [List.getElem?_toArray, List.getElem?_cons_succ, List.getElem?_cons_zero]; rfl)
              (refine ⟨by kernel_rfl, by kernel_rfl, by kernel_rfl, by assumption, ?qv133, fun _ _ _ h => h, Or.inl ⟨by kernel_rfl, ?qy133⟩, ?qn133⟩; case qy133 => (intro w hSw; (try dsimp only at hSw); go_simp; try with_reducible rfl))
              refine rgH (i := 13) (oi := ?qo134) ?qh134 ?qr134
              case qh134 => (simp only [List.getElem?_toArray, List.getElem?_cons_succ, List.getElem?_cons_zero]; rfl)
              (refine ⟨by kernel_rfl, by kernel_rfl, by kernel_rfl, by assumption, ?qv134, fun _ _ _ h => h, Or.inl ⟨by kernel_rfl, ?qy134⟩, ?qn134⟩; case qy134 => (intro w hSw; (try dsimp only at hSw); go_simp; try with_reducible rfl))
              refine rgH (i := 14) (oi := ?qo135) ?qh135 ?qr135
              case qh135 => (simp only [List.getElem?_toArray, List.getElem?_cons_succ, List.getElem?_cons_zero]; rfl)
              (refine ⟨by kernel_rfl, by kernel_rfl, by kernel_rfl, by assumption, ?qv135, fun _ _ _ h => h, Or.inl ⟨by kernel_rfl, ?qy135⟩, ?qn135⟩; case qy135 => (intro w hSw; (try dsimp only at hSw); go_simp; try with_reducible rfl))
              refine rgH (i := 15) (oi := ?qo136) ?qh136 ?qr136
              case qh136 => (simp only [List.getElem?_toArray, List.getElem?_cons_succ, List.getElem?_cons_zero]; rfl)
              (refine ⟨by kernel_rfl, by kernel_rfl, by kernel_rfl, by assumption, ?qv136, fun _ _ _ h => h, Or.inl ⟨by kernel_rfl, ?qy136⟩, ?qn136⟩; case qy136 => (intro w hSw; (try dsimp only at hSw); go_simp; try with_reducible rfl))
              (try simp only [Act.put, List.setIfInBounds_toArray, List.set_cons_zero, List.set_cons_succ])
              refine rgH (i := 16) (oi := ?qo137) ?qh137 ?qr137
              case qh137 => (simp only [List.getElem?_toArray, List.getElem?_cons_succ, List.getElem?_cons_zero]; rfl)
              (refine ⟨by kernel_rfl, by kernel_rfl, by kernel_rfl, by assumption, ?qv137, fun _ _ _ h => h, Or.inl ⟨by kernel_rfl, ?qy137⟩, ?qn137⟩; case qy137 => (intro w hSw; (try dsimp only at hSw); go_simp; try with_reducible rfl))
              (try simp only [Act.put, List.setIfInBounds_toArray, List.set_cons_zero, List.set_cons_succ])
              refine wpAnyH_ready (rs := [17]) (by kernel_rfl) (by simp) ?_
              refine rgHcall (i := 17) (o := ?qo138) ?qh138 ?qk138
              case qh138 => (simp only [List.getElem?_toArray, List.getElem?_cons_succ, List.getElem?_cons_zero]; rfl)
              intro K hK
              go_simp
              (go_at_call 38; refine (c_l08Facts _ _ _ _ HS.out.drew).mono ?_; rintro e w2 ⟨rfl, rfl⟩; rw [HA.out])
              refine hK.out _ _ hHeld (fun hHeld => ?_)
              clear hK K
              refine rgH (i := 18) (oi := ?qo139) ?qh139 ?qr139
              case qh139 => (simp only [List.getElem?_toArray, List.getElem?_cons_succ, List.getElem?_cons_zero]; rfl)
              (refine ⟨by kernel_rfl, by kernel_rfl, by kernel_rfl, by assumption, ?qv139, fun _ _ _ h => h, Or.inl ⟨by kernel_rfl, ?qy139⟩, ?qn139⟩; case qy139 => (intro w hSw; (try dsimp only at hSw); go_simp; try with_reducible rfl))
              refine rgH (i := 19) (oi := ?qo140) ?qh140 ?qr140
              case qh140 => (simp only [List.getElem?_toArray, List.getElem?_cons_succ, List.getElem?_cons_zero]; rfl)
              (refine ⟨by kernel_rfl, by kernel_rfl, by kernel_rfl, by assumption, ?qv140, fun _ _ _ h => h, Or.inl ⟨by kernel_rfl, ?qy140⟩, ?qn140⟩; case qy140 => (intro w hSw; (try dsimp only at hSw); go_simp; try with_reducible rfl))
              (try simp only [Act.put, List.setIfInBounds_toArray, List.set_cons_zero, List.set_cons_succ])
              refine rgH (i := 20) (oi := ?qo141) ?qh141 ?qr141
              case qh141 => (simp only [List.getElem?_toArray, List.getElem?_cons_succ, List.getElem?_cons_zero]; rfl)
              (refine ⟨by kernel_rfl, by kernel_rfl, by kernel_rfl, by assumption, ?qv141, fun _ _ _ h => h, Or.inl ⟨by kernel_rfl, ?qy141⟩, ?qn141⟩; case qy141 => (intro w hSw; (try dsimp only at hSw); go_simp; try with_reducible rfl))
              refine rgH (i := 21) (oi := ?qo142) ?qh142 ?qr142
              case qh142 => (simp only [List.getElem?_toArray, List.getElem?_cons_succ, List.getElem?_cons_zero]; rfl)
              (refine ⟨by kernel_rfl, by kernel_rfl, by kernel_rfl, by assumption, ?qv142, fun _ _ _ h => h, Or.inl ⟨by kernel_rfl, ?qy142⟩, ?qn142⟩; case qy142 => (intro w hSw; (try dsimp only at hSw); go_simp; try with_reducible rfl))
              refine rgH (i := 22) (oi := ?qo143) ?qh143 ?qr143
              case qh143 => (simp only [List.getElem?_toArray, List.getElem?_cons_succ, List.getElem?_cons_zero]; rfl)
              (refine ⟨by kernel_rfl, by kernel_rfl, by kernel_rfl, by assumption, ?qv143, fun _ _ _ h => h, Or.inl ⟨by kernel_rfl, ?qy143⟩, ?qn143⟩; case qy143 => (intro w hSw; (try dsimp only at hSw); go_simp; try with_reducible rfl))
              refine rgH (i := 23) (oi := ?qo144) ?qh144 ?qr144
              case qh144 => (simp only [List.getElem?_toArray, List.getElem?_cons_succ, List.getElem?_cons_zero]; rfl)
              (refine ⟨by kernel_rfl, by kernel_rfl, by kernel_rfl, by assumption, ?qv144, fun _ _ _ h => h, Or.inl ⟨by kernel_rfl, ?qy144⟩, ?qn144⟩; case qy144 => (intro w hSw; (try dsimp only at hSw); go_simp; try with_reducible rfl))
              (try simp only [Act.put, List.setIfInBounds_toArray, List.set_cons_zero, List.set_cons_succ])
              refine rgH (i := 24) (oi := ?qo145) ?qh145 ?qr145
              case qh145 => (simp only [List.getElem?_toArray, List.getElem?_cons_succ, List.getElem?_cons_zero]; rfl)
              (refine ⟨by kernel_rfl, by kernel_rfl, by kernel_rfl, by assumption, ?qv145, fun _ _ _ h => h, Or.inl ⟨by kernel_rfl, ?qy145⟩, ?qn145⟩; case qy145 => (intro w hSw; (try dsimp only at hSw); go_simp; try with_reducible rfl))
              refine rgH (i := 25) (oi := ?qo146) ?qh146 ?qr146
              case qh146 => (simp only [List.getElem?_toArray, List.getElem?_cons_succ, List.getElem?_cons_zero]; rfl)
              (refine ⟨by kernel_rfl, by kernel_rfl, by kernel_rfl, by assumption, ?qv146, fun _ _ _ h => h, Or.inl ⟨by kernel_rfl, ?qy146⟩, ?qn146⟩; case qy146 => (intro w hSw; (try dsimp only at hSw); go_simp; try with_reducible rfl))
              refine rgH (i := 26) (oi := ?qo147) ?qh147 ?qr147
              case qh147 => (simp only [List.getElem?_toArray, List.getElem?_cons_succ, List.getElem?_cons_zero]; rfl)
              (refine ⟨by kernel_rfl, by kernel_rfl, by kernel_rfl, by assumption, ?qv147, fun _ _ _ h => h, Or.inl ⟨by kernel_rfl, ?qy147⟩, ?qn147⟩; case qy147 => (intro w hSw; (try dsimp only at hSw); go_simp; try with_reducible rfl))
              refine rgH (i := 27) (oi := ?qo148) ?qh148 ?qr148
              case qh148 => (simp only [List.getElem?_toArray, List.getElem?_cons_succ, List.getElem?_cons_zero]; rfl)
              (refine ⟨by kernel_rfl, by kernel_rfl, by kernel_rfl, by assumption, ?qv148, fun _ _ _ h => h, Or.inl ⟨by kernel_rfl, ?qy148⟩, ?qn148⟩; case qy148 => (intro w hSw; (try dsimp only at hSw); go_simp; try with_reducible rfl))
              (try simp only [Act.put, List.setIfInBounds_toArray, List.set_cons_zero, List.set_cons_succ])
              refine rgH (i := 28) (oi := ?qo149) ?qh149 ?qr149
              case qh149 => (simp only [List.getElem?_toArray, List.getElem?_cons_succ, List.getElem?_cons_zero]; rfl)
              (refine ⟨by kernel_rfl, by kernel_rfl, by kernel_rfl, by assumption, ?qv149, fun _ _ _ h => h, Or.inl ⟨by kernel_rfl, ?qy149⟩, ?qn149⟩; case qy149 => (intro w hSw; (try dsimp only at hSw); go_simp; try with_reducible rfl))
              refine rgH (i := 29) (oi := ?qo150) ?qh150 ?qr150
              case qh150 => (simp only [List.getElem?_toArray, List.getElem?_cons_succ, List.getElem?_cons_zero]; rfl)
              (refine ⟨by kernel_rfl, by kernel_rfl, by kernel_rfl, by assumption, ?qv150, fun _ _ _ h => h, Or.inl ⟨by kernel_rfl, ?qy150⟩, ?qn150⟩; case qy150 => (intro w hSw; (try dsimp only at hSw); go_simp; try with_reducible rfl))
              refine rgH (i := 30) (oi := ?qo151) ?qh151 ?qr151
              case qh151 => (simp only [List.getElem?_toArray, List.getElem?_cons_succ, List.getElem?_cons_zero]; rfl)
              (refine ⟨by kernel_rfl, by kernel_rfl, by kernel_rfl, by assumption, ?qv151, fun _ _ _ h => h, Or.inl ⟨by kernel_rfl, ?qy151⟩, ?qn151⟩; case qy151 => (intro w hSw; (try dsimp only at hSw); go_simp; try with_reducible rfl))
              refine rgH (i := 31) (oi := ?qo152) ?qh152 ?qr152
              case qh152 => (simp only [List.getElem?_toArray, List.getElem?_cons_succ, List.getElem?_cons_zero]; rfl)
              (refine ⟨by kernel_rfl, by kernel_rfl, by kernel_rfl, by assumption, ?qv152, fun _ _ _ h => h, Or.inl ⟨by kernel_rfl, ?qy152⟩, ?qn152⟩; case qy152 => (intro w hSw; (try dsimp only at hSw); go_simp; try with_reducible rfl))
              (try simp only [Act.put, List.setIfInBounds_toArray, List.set_cons_zero, List.set_cons_succ])
              refine rgH (i := 32) (oi := ?qo153) ?qh153 ?qr153
              case qh153 => (simp only [List.getElem?_toArray, List.getElem?_cons_succ, List.getElem?_cons_zero]; rfl)
              (refine ⟨by kernel_rfl, by kernel_rfl, by kernel_rfl, by assumption, ?qv153, fun _ _ _ h => h, Or.inl ⟨by kernel_rfl, ?qy153⟩, ?qn153⟩; case qy153 => (intro w hSw; (try dsimp only at hSw); go_simp; try with_reducible rfl))
              refine rgH (i := 33) (oi := ?qo154) ?qh154 ?qr154
              case qh154 => (simp only [List.getElem?_toArray, List.getElem?_cons_succ, List.getElem?_cons_zero]; rfl)
              (refine ⟨by kernel_rfl, by kernel_rfl, by kernel_rfl, by assumption, ?qv154, fun _ _ _ h => h, Or.inl ⟨by kernel_rfl, ?qy154⟩, ?qn154⟩; case qy154 => (intro w hSw; (try dsimp only at hSw); go_simp; try with_reducible rfl))
              refine rgH (i := 34) (oi := ?qo155) ?qh155 ?qr155
              case qh155 => (simp only [List.getElem?_toArray, List.getElem?_cons_succ, List.getElem?_cons_zero]; rfl)
              (refine ⟨by kernel_rfl, by kernel_rfl, by kernel_rfl, by assumption, ?qv155, fun _ _ _ h => h, Or.inl ⟨by kernel_rfl, ?qy155⟩, ?qn155⟩; case qy155 => (intro w hSw; (try dsimp only at hSw); go_simp; try with_reducible rfl))
              refine rgH (i := 35) (oi := ?qo156) ?qh156 ?qr156
              case qh156 => (simp only [List.getElem?_toArray, List.getElem?_cons_succ, List.getElem?_cons_zero]; rfl)
              (refine ⟨by kernel_rfl, by kernel_rfl, by kernel_rfl, by assumption, ?qv156, fun _ _ _ h => h, Or.inl ⟨by kernel_rfl, ?qy156⟩, ?qn156⟩; case qy156 => (intro w hSw; (try dsimp only at hSw); go_simp; try with_reducible rfl))
              (try simp only [Act.put, List.setIfInBounds_toArray, List.set_cons_zero, List.set_cons_succ])
              refine rgH (i := 36) (oi := ?qo157) ?qh157 ?qr157
              case qh157 => (simp only [List.getElem?_toArray, List.getElem?_cons_succ, List.getElem?_cons_zero]; rfl)
              (refine ⟨by kernel_rfl, by kernel_rfl, by kernel_rfl, by assumption, ?qv157, fun _ _ _ h => h, Or.inl ⟨by kernel_rfl, ?qy157⟩, ?qn157⟩; case qy157 => (intro w hSw; (try dsimp only at hSw); go_simp; try with_reducible rfl))
              refine rgH (i := 37) (oi := ?qo158) ?qh158 ?qr158
              case qh158 => (simp only [List.getElem?_toArray, List.getElem?_cons_succ, List.getElem?_cons_zero]; rfl)
              (refine ⟨by kernel_rfl, by kernel_rfl, by kernel_rfl, by assumption, ?qv158, fun _ _ _ h => h, Or.inl ⟨by kernel_rfl, ?qy158⟩, ?qn158⟩; case qy158 => (intro w hSw; (try dsimp only at hSw); go_simp; try with_reducible rfl))
              refine rgH (i := 38) (oi := ?qo159) ?qh159 ?qr159
              case qh159 => (simp only [List.getElem?_toArray, List.getElem?_cons_succ, List.getElem?_cons_zero]; rfl)
              (refine ⟨by kernel_rfl, by kernel_rfl, by kernel_rfl, by assumption, ?qv159, fun _ _ _ h => h, Or.inl ⟨by kernel_rfl, ?qy159⟩, ?qn159⟩; case qy159 => (intro w hSw; (try dsimp only at hSw); go_simp; try with_reducible rfl))
              refine rgH (i := 39) (oi := ?qo160) ?qh160 ?qr160
              case qh160 => (simp only [List.getElem?_toArray, List.getElem?_cons_succ, List.getElem?_cons_zero]; rfl)
              (refine ⟨by kernel_rfl, by kernel_rfl, by kernel_rfl, by assumption, ?qv160, fun _ _ _ h => h, Or.inl ⟨by kernel_rfl, ?qy160⟩, ?qn160⟩; case qy160 => (intro w hSw; (try dsimp only at hSw); go_simp; try with_reducible rfl))
              (try simp only [Act.put, List.setIfInBounds_toArray, List.set_cons_zero, List.set_cons_succ])
              refine wpAnyH_done (by kernel_rfl) ?_ _
              clear w2 w3 w4 w5 w6 vw1 e0 e0n hk1 yc
              go_wp2
              go_roundw
              case rel => exact ⟨k + 1, by omega, by go_num, (ptsOk_succ HK.out).trans HST.out, HBR.out.drew⟩
              case measure => simp [intOf]; omega
            · have HST : Hid (stepOk d2.length d3 k = false) := by unfold Hid; rw [HST0.out]; simp [hyx]
              have e1 : decide (x ≤ y) = true := by simp; omega
              go_wp2
              refine wp_region_held_drew (S := fun w' => w'.cell? ⟨g, 2, none⟩ = some (.slice a2 d2.length p2) ∧ w'.cell? ⟨g, 3, none⟩ = some (.slice (some ⟨b, off, none⟩) d3.length p3) ∧ w'.cell? ⟨b, off + k * 2, none⟩ = some (.int .i64 x) ∧ w'.cell? ⟨b, off + k * 2 + 1, none⟩ = some (.slice a' ts.length cap') ∧ w'.cell? ⟨b, off + (k - 1) * 2, none⟩ = some (.int .i64 y)) (by kernel_rfl) ⟨s2, s3, hc, hc', yc⟩ (fun hHeld => ?_)
              refine rgH (i := 0) (oi := ?qo161) ?qh161 ?qr161
              case qh161 => (simp only [List.getElem?_toArray, List.getElem?_cons_succ, List.getElem?_cons_zero]; rfl)
              (refine ⟨by kernel_rfl, by kernel_rfl, by kernel_rfl, by assumption, ?qv161, fun _ _ _ h => h, Or.inl ⟨by kernel_rfl, ?qy161⟩, ?qn161⟩; case qy161 => (intro w hSw; (try dsimp only at hSw); go_simp; try with_reducible rfl))
              refine rgH (i := 1) (oi := ?qo162) ?qh162 ?qr162
              case qh162 => (simp only [List.getElem?_toArray, List.getElem?_cons_succ, List.getElem?_cons_zero]; rfl)
              (refine ⟨by kernel_rfl, by kernel_rfl, by kernel_rfl, by assumption, ?qv162, fun _ _ _ h => h, Or.inl ⟨by kernel_rfl, ?qy162⟩, ?qn162⟩; case qy162 => (intro w hSw; (try dsimp only at hSw); go_simp; try with_reducible rfl))
              refine rgH (i := 2) (oi := ?qo163) ?qh163 ?qr163
              case qh163 => (simp only [List.getElem?_toArray, List.getElem?_cons_succ, List.getElem?_cons_zero]; rfl)
              (refine ⟨by kernel_rfl, by kernel_rfl, by kernel_rfl, by assumption, ?qv163, fun _ _ _ h => h, Or.inl ⟨by kernel_rfl, ?qy163⟩, ?qn163⟩; case qy163 => (intro w hSw; (try dsimp only at hSw); go_simp; try with_reducible rfl))
              refine rgH (i := 3) (oi := ?qo164) ?qh164 ?qr164
              case qh164 => (simp only [List.getElem?_toArray, List.getElem?_cons_succ, List.getElem?_cons_zero]; rfl)
              (refine ⟨by kernel_rfl, by kernel_rfl, by kernel_rfl, by assumption, ?qv164, fun _ _ _ h => h, Or.inl ⟨by kernel_rfl, ?qy164⟩, ?qn164⟩; case qy164 => (intro w hSw; (try dsimp only at hSw); go_simp; try with_reducible rfl))
              (try simp only [Act.put, List.setIfInBounds_toArray, List.set_cons_zero, List.set_cons_succ])
              refine rgH (i := 4) (oi := ?qo165) ?qh165 ?qr165
              case qh165 => (simp only [List.getElem?_toArray, List.getElem?_cons_succ, List.getElem?_cons_zero]; rfl)
              (refine ⟨by kernel_rfl, by kernel_rfl, by kernel_rfl, by assumption, ?qv165, fun _ _ _ h => h, Or.inl ⟨by kernel_rfl, ?qy165⟩, ?qn165⟩; case qy165 => (intro w hSw; (try dsimp only at hSw); go_simp; try with_reducible rfl))
              refine rgH (i := 5) (oi := ?qo166) ?qh166 ?qr166
              case qh166 => (simp only [List.getElem?_toArray, List.getElem?_cons_succ, List.getElem?_cons_zero]; rfl)
              (refine ⟨by kernel_rfl, by kernel_rfl, by kernel_rfl, by assumption, ?qv166, fun _ _ _ h => h, Or.inl ⟨by kernel_rfl, ?qy166⟩, ?qn166⟩; case qy166 => (intro w hSw; (try dsimp only at hSw); go_simp; try with_reducible rfl))
              refine rgH (i := 6) (oi := ?qo167) ?qh167 ?qr167
              case qh167 => (simp only [List.getElem?_toArray, List.getElem?_cons_succ, List.getElem?_cons_zero]; rfl)
              (refine ⟨by kernel_rfl, by kernel_rfl, by kernel_rfl, by assumption, ?qv167, fun _ _ _ h => h, Or.inl ⟨by kernel_rfl, ?qy167⟩, ?qn167⟩; case qy167 => (intro w hSw; (try dsimp only at hSw); go_simp; try with_reducible rfl))
              refine rgH (i := 7) (oi := ?qo168) ?qh168 ?qr168
              case qh168 => (simp only [List.getElem?_toArray, List.getElem?_cons_succ, List.getElem?_cons_zero]; rfl)
              (refine ⟨by kernel_rfl, by kernel_rfl, by kernel_rfl, by assumption, ?qv168, fun _ _ _ h => h, Or.inl ⟨by kernel_rfl, ?qy168⟩, ?qn168⟩; case qy168 => (intro w hSw; (try dsimp only at hSw); go_simp; try with_reducible rfl))
              (try simp only [Act.put, List.setIfInBounds_toArray, List.set_cons_zero, List.set_cons_succ])
              refine rgH (i := 8) (oi := ?qo169) ?qh169 ?qr169
              case qh169 => (simp only [List.getElem?_toArray, List.getElem?_cons_succ, List.getElem?_cons_zero]; rfl)
              (refine ⟨by kernel_rfl, by kernel_rfl, by kernel_rfl, by assumption, ?qv169, fun _ _ _ h => h, Or.inl ⟨by kernel_rfl, ?qy169⟩, ?qn169⟩; case qy169 => (intro w hSw; (try dsimp only at hSw); go_simp; try with_reducible rfl))
              refine rgH (i := 9) (oi := ?qo170) ?qh170 ?qr170
              case qh170 => (simp only [List.getElem?_toArray, List.getElem?_cons_succ, List.getElem?_cons_zero]; rfl)
              (refine ⟨by kernel_rfl, by kernel_rfl, by kernel_rfl, by assumption, ?qv170, fun _ _ _ h => h, Or.inl ⟨by kernel_rfl, ?qy170⟩, ?qn170⟩; case qy170 => (intro w hSw; (try dsimp only at hSw); go_simp; try with_reducible rfl))
              (try simp only [Act.put, List.setIfInBounds_toArray, List.set_cons_zero, List.set_cons_succ])
              refine wpAnyH_ready (rs := [10]) (by kernel_rfl) (by simp) ?_
              refine rgHcall (i := 10) (o := ?qo171) ?qh171 ?qk171
              case qh171 => (simp only [List.getElem?_toArray, List.getElem?_cons_succ, List.getElem?_cons_zero]; rfl)
              intro K hK
              go_simp
              (go_at_call 39; refine (c_l00In _ _ _ _).mono ?_; rintro e w2 ⟨rfl, rfl⟩; rw [HI.out])
              refine hK.out _ _ hHeld (fun hHeld => ?_)
              clear hK K
              refine rgH (i := 11) (oi := ?qo172) ?qh172 ?qr172
              case qh172 => (simp only [List.getElem?_toArray, List.getElem?_cons_succ, List.getElem?_cons_zero]; rfl)
              (refine ⟨by kernel_rfl, by kernel_rfl, by kernel_rfl, by assumption, ?qv172, fun _ _ _ h => h, Or.inl ⟨by kernel_rfl, ?qy172⟩, ?qn172⟩; case qy172 => (intro w hSw; (try dsimp only at hSw); go_simp; try with_reducible rfl))
              (try simp only [Act.put, List.setIfInBounds_toArray, List.set_cons_zero, List.set_cons_succ])
              refine rgH (i := 12) (oi := ?qo173) ?qh173 ?qr173
              case qh173 => (simp only [List.getElem?_toArray, List.getElem?_cons_succ, List.getElem?_cons_zero]; rfl)
              (refine ⟨by kernel_rfl, by kernel_rfl, by kernel_rfl, by assumption, ?qv173, fun _ _ _ h => h, Or.inl ⟨by kernel_rfl, ?qy173⟩, ?qn173⟩; case qy173 => (intro w hSw; (try dsimp only at hSw); go_simp; try with_reducible rfl))
              refine rgH (i := 13) (oi := ?qo174) ?qh174 ?qr174
              case qh174 => (simp only [List.getElem?_toArray, List.getElem?_cons_succ, List.getElem?_cons_zero]; rfl)
              (refine ⟨by kernel_rfl, by kernel_rfl, by kernel_rfl, by assumption, ?qv174, fun _ _ _ h => h, Or.inl ⟨by kernel_rfl, ?qy174⟩, ?qn174⟩; case qy174 => (intro w hSw; (try dsimp only at hSw); go_simp; try with_reducible rfl))
              refine rgH (i := 14) (oi := ?qo175) ?qh175 ?qr175
              case qh175 => (simp only [List.getElem?_toArray, List.getElem?_cons_succ, List.getElem?_cons_zero]; rfl)
              (refine ⟨by kernel_rfl, by kernel_rfl, by kernel_rfl, by assumption, ?qv175, fun _ _ _ h => h, Or.inl ⟨by kernel_rfl, ?qy175⟩, ?qn175⟩; case qy175 => (intro w hSw; (try dsimp only at hSw); go_simp; try with_reducible rfl))
              refine rgH (i := 15) (oi := ?qo176) ?qh176 ?qr176
              case qh176 => (simp only [List.getElem?_toArray, List.getElem?_cons_succ, List.getElem?_cons_zero]; rfl)
              (refine ⟨by kernel_rfl, by kernel_rfl, by kernel_rfl, by assumption, ?qv176, fun _ _ _ h => h, Or.inl ⟨by kernel_rfl, ?qy176⟩, ?qn176⟩; case qy176 => (intro w hSw; (try dsimp only at hSw); go_simp; try with_reducible rfl))
              (try simp only [Act.put, List.setIfInBounds_toArray, List.set_cons_zero, List.set_cons_succ])
              refine rgH (i := 16) (oi := ?qo177) ?qh177 ?qr177
              case qh177 => (simp only [List.getElem?_toArray, List.getElem?_cons_succ, List.getElem?_cons_zero]; rfl)
              (refine ⟨by kernel_rfl, by kernel_rfl, by kernel_rfl, by assumption, ?qv177, fun _ _ _ h => h, Or.inl ⟨by kernel_rfl, ?qy177⟩, ?qn177⟩; case qy177 => (intro w hSw; (try dsimp only at hSw); go_simp; try with_reducible rfl))
              (try simp only [Act.put, List.setIfInBounds_toArray, List.set_cons_zero, List.set_cons_succ])
              refine wpAnyH_ready (rs := [17]) (by kernel_rfl) (by simp) ?_
              refine rgHcall (i := 17) (o := ?qo178) ?qh178 ?qk178
              case qh178 => (simp only [List.getElem?_toArray, List.getElem?_cons_succ, List.getElem?_cons_zero]; rfl)
              intro K hK
              go_simp
              (go_at_call 38; refine (c_l08Facts _ _ _ _ HS.out.drew).mono ?_; rintro e w2 ⟨rfl, rfl⟩; rw [HA.out])
              refine hK.out _ _ hHeld (fun hHeld => ?_)
              clear hK K
              refine rgH (i := 18) (oi := ?qo179) ?qh179 ?qr179
              case qh179 => (simp only [List.getElem?_toArray, List.getElem?_cons_succ, List.getElem?_cons_zero]; rfl)
              (refine ⟨by kernel_rfl, by kernel_rfl, by kernel_rfl, by assumption, ?qv179, fun _ _ _ h => h, Or.inl ⟨by kernel_rfl, ?qy179⟩, ?qn179⟩; case qy179 => (intro w hSw; (try dsimp only at hSw); go_simp; try with_reducible rfl))
              refine rgH (i := 19) (oi := ?qo180) ?qh180 ?qr180
              case qh180 => (simp only [List.getElem?_toArray, List.getElem?_cons_succ, List.getElem?_cons_zero]; rfl)
              (refine ⟨by kernel_rfl, by kernel_rfl, by kernel_rfl, by assumption, ?qv180, fun _ _ _ h => h, Or.inl ⟨by kernel_rfl, ?qy180⟩, ?qn180⟩; case qy180 => (intro w hSw; (try dsimp only at hSw); go_simp; try with_reducible rfl))
              (try simp only [Act.put, List.setIfInBounds_toArray, List.set_cons_zero, List.set_cons_succ])
              refine rgH (i := 20) (oi := ?qo181) ?qh181 ?qr181
              case qh181 => (simp only [List.getElem?_toArray, List.getElem?_cons_succ, List.getElem?_cons_zero]; rfl)
              (refine ⟨by kernel_rfl, by kernel_rfl, by kernel_rfl, by assumption, ?qv181, fun _ _ _ h => h, Or.inl ⟨by kernel_rfl, ?qy181⟩, ?qn181⟩; case qy181 => (intro w hSw; (try dsimp only at hSw); go_simp; try with_reducible rfl))
              refine rgH (i := 21) (oi := ?qo182) ?qh182 ?qr182
              case qh182 => (simp only [List.getElem?_toArray, List.getElem?_cons_succ, List.getElem?_cons_zero]; rfl)
              (refine ⟨by kernel_rfl, by kernel_rfl, by kernel_rfl, by assumption, ?qv182, fun _ _ _ h => h, Or.inl ⟨by kernel_rfl, ?qy182⟩, ?qn182⟩; case qy182 => (intro w hSw; (try dsimp only at hSw); go_simp; try with_reducible rfl))
              refine rgH (i := 22) (oi := ?qo183) ?qh183 ?qr183
              case qh183 => (simp only [List.getElem?_toArray, List.getElem?_cons_succ, List.getElem?_cons_zero]; rfl)
              (refine ⟨by kernel_rfl, by kernel_rfl, by kernel_rfl, by assumption, ?qv183, fun _ _ _ h => h, Or.inl ⟨by kernel_rfl, ?qy183⟩, ?qn183⟩; case qy183 => (intro w hSw; (try dsimp only at hSw); go_simp; try with_reducible rfl))
              refine rgH (i := 23) (oi := ?qo184) ?qh184 ?qr184
              case qh184 => (simp only [List.getElem?_toArray, List.getElem?_cons_succ, List.getElem?_cons_zero]; rfl)
              (refine ⟨by kernel_rfl, by kernel_rfl, by kernel_rfl, by assumption, ?qv184, fun _ _ _ h => h, Or.inl ⟨by kernel_rfl, ?qy184⟩, ?qn184⟩; case qy184 => (intro w hSw; (try dsimp only at hSw); go_simp; try with_reducible rfl))
              (try simp only [Act.put, List.setIfInBounds_toArray, List.set_cons_zero, List.set_cons_succ])
              refine rgH (i := 24) (oi := ?qo185) ?qh185 ?qr185
              case qh185 => (simp only [List.getElem?_toArray, List.getElem?_cons_succ, List.getElem?_cons_zero]; rfl)
              (refine ⟨by kernel_rfl, by kernel_rfl, by kernel_rfl, by assumption, ?qv185, fun _ _ _ h => h, Or.inl ⟨by kernel_rfl, ?qy185⟩, ?qn185⟩; case qy185 => (intro w hSw; (try dsimp only at hSw); go_simp; try with_reducible rfl))
              refine rgH (i := 25) (oi := ?qo186) ?qh186 ?qr186
              case qh186 => (simp only [List.getElem?_toArray, List.getElem?_cons_succ, List.getElem?_cons_zero]; rfl)
              (refine ⟨by kernel_rfl, by kernel_rfl, by kernel_rfl, by assumption, ?qv186, fun _ _ _ h => h, Or.inl ⟨by kernel_rfl, ?qy186⟩, ?qn186⟩; case qy186 => (intro w hSw; (try dsimp only at hSw); go_simp; try with_reducible rfl))
              refine rgH (i := 26) (oi := ?qo187) ?qh187 ?qr187
              case qh187 => (simp only [List.getElem?_toArray, List.getElem?_cons_succ, List.getElem?_cons_zero]; rfl)
              (refine ⟨by kernel_rfl, by kernel_rfl, by kernel_rfl, by assumption, ?qv187, fun _ _ _ h => h, Or.inl ⟨by kernel_rfl, ?qy187⟩, ?qn187⟩; case qy187 => (intro w hSw; (try dsimp only at hSw); go_simp; try with_reducible rfl))
              refine rgH (i := 27) (oi := ?qo188) ?qh188 ?qr188
              case qh188 => (simp only [List.getElem?_toArray, List.getElem?_cons_succ, List.getElem?_cons_zero]; rfl)
              (refine ⟨by kernel_rfl, by kernel_rfl, by kernel_rfl, by assumption, ?qv188, fun _ _ _ h => h, Or.inl ⟨by kernel_rfl, ?qy188⟩, ?qn188⟩; case qy188 => (intro w hSw; (try dsimp only at hSw); go_simp; try with_reducible rfl))
              (try simp only [Act.put, List.setIfInBounds_toArray, List.set_cons_zero, List.set_cons_succ])
              refine rgH (i := 28) (oi := ?qo189) ?qh189 ?qr189
              case qh189 => (simp only [List.getElem?_toArray, List.getElem?_cons_succ, List.getElem?_cons_zero]; rfl)
              (refine ⟨by kernel_rfl, by kernel_rfl, by kernel_rfl, by assumption, ?qv189, fun _ _ _ h => h, Or.inl ⟨by kernel_rfl, ?qy189⟩, ?qn189⟩; case qy189 => (intro w hSw; (try dsimp only at hSw); go_simp; try with_reducible rfl))
              refine rgH (i := 29) (oi := ?qo190) ?qh190 ?qr190
              case qh190 => (simp only [List.getElem?_toArray, List.getElem?_cons_succ, List.getElem?_cons_zero]; rfl)
              (refine ⟨by kernel_rfl, by kernel_rfl, by kernel_rfl, by assumption, ?qv190, fun _ _ _ h => h, Or.inl ⟨by kernel_rfl, ?qy190⟩, ?qn190⟩; case qy190 => (intro w hSw; (try dsimp only at hSw); go_simp; try with_reducible rfl))
              refine rgH (i := 30) (oi := ?qo191) ?qh191 ?qr191
              case qh191 => (simp only [List.getElem?_toArray, List.getElem?_cons_succ, List.getElem?_cons_zero]; rfl)
              (refine ⟨by kernel_rfl, by kernel_rfl, by kernel_rfl, by assumption, ?qv191, fun _ _ _ h => h, Or.inl ⟨by kernel_rfl, ?qy191⟩, ?qn191⟩; case qy191 => (intro w hSw; (try dsimp only at hSw); go_simp; try with_reducible rfl))
              refine rgH (i := 31) (oi := ?qo192) ?qh192 ?qr192
              case qh192 => (simp only [List.getElem?_toArray, List.getElem?_cons_succ, List.getElem?_cons_zero]; rfl)
              (refine ⟨by kernel_rfl, by kernel_rfl, by kernel_rfl, by assumption, ?qv192, fun _ _ _ h => h, Or.inl ⟨by kernel_rfl, ?qy192⟩, ?qn192⟩; case qy192 => (intro w hSw; (try dsimp only at hSw); go_simp; try with_reducible rfl))
              (try simp only [Act.put, List.setIfInBounds_toArray, List.set_cons_zero, List.set_cons_succ])
              refine rgH (i := 32) (oi := ?qo193) ?qh193 ?qr193
              case qh193 => (simp only [List.getElem?_toArray, List.getElem?_cons_succ, List.getElem?_cons_zero]; rfl)
              (refine ⟨by kernel_rfl, by kernel_rfl, by kernel_rfl, by assumption, ?qv193, fun _ _ _ h => h, Or.inl ⟨by kernel_rfl, ?qy193⟩, ?qn193⟩; case qy193 => (intro w hSw; (try dsimp only at hSw); go_simp; try with_reducible rfl))
              refine rgH (i := 33) (oi := ?qo194) ?qh194 ?qr194
              case qh194 => (simp only [List.getElem?_toArray, List.getElem?_cons_succ, List.getElem?_cons_zero]; rfl)
              (refine ⟨by kernel_rfl, by kernel_rfl, by kernel_rfl, by assumption, ?qv194, fun _ _ _ h => h, Or.inl ⟨by kernel_rfl, ?qy194⟩, ?qn194⟩; case qy194 => (intro w hSw; (try dsimp only at hSw); go_simp; try with_reducible rfl))
              refine rgH (i := 34) (oi := ?qo195) ?qh195 ?qr195
              case qh195 => (simp only [List.getElem?_toArray, List.getElem?_cons_succ, List.getElem?_cons_zero]; rfl)
              (refine ⟨by kernel_rfl, by kernel_rfl, by kernel_rfl, by assumption, ?qv195, fun _ _ _ h => h, Or.inl ⟨by kernel_rfl, ?qy195⟩, ?qn195⟩; case qy195 => (intro w hSw; (try dsimp only at hSw); go_simp; try with_reducible rfl))
              refine rgH (i := 35) (oi := ?qo196) ?qh196 ?qr196
              case qh196 => (simp only [List.getElem?_toArray, List.getElem?_cons_succ, List.getElem?_cons_zero]; rfl)
              (refine ⟨by kernel_rfl, by kernel_rfl, by kernel_rfl, by assumption, ?qv196, fun _ _ _ h => h, Or.inl ⟨by kernel_rfl, ?qy196⟩, ?qn196⟩; case qy196 => (intro w hSw; (try dsimp only at hSw); go_simp; try with_reducible rfl))
              (try simp only [Act.put, List.setIfInBounds_toArray, List.set_cons_zero, List.set_cons_succ])
              refine rgH (i := 36) (oi := ?qo197) ?qh197 ?qr197
              case qh197 => (simp only [List.getElem?_toArray, List.getElem?_cons_succ, List.getElem?_cons_zero]; rfl)
              (refine ⟨by kernel_rfl, by kernel_rfl, by kernel_rfl, by assumption, ?qv197, fun _ _ _ h => h, Or.inl ⟨by kernel_rfl, ?qy197⟩, ?qn197⟩; case qy197 => (intro w hSw; (try dsimp only at hSw); go_simp; try with_reducible rfl))
              refine rgH (i := 37) (oi := ?qo198) ?qh198 ?qr198
              case qh198 => (simp only [List.getElem?_toArray, List.getElem?_cons_succ, List.getElem?_cons_zero]; rfl)
              (refine ⟨by kernel_rfl, by kernel_rfl, by kernel_rfl, by assumption, ?qv198, fun _ _ _ h => h, Or.inl ⟨by kernel_rfl, ?qy198⟩, ?qn198⟩; case qy198 => (intro w hSw; (try dsimp only at hSw); go_simp; try with_reducible rfl))
              refine rgH (i := 38) (oi := ?qo199) ?qh199 ?qr199
              case qh199 => (simp only [List.getElem?_toArray, List.getElem?_cons_succ, List.getElem?_cons_zero]; rfl)
              (refine ⟨by kernel_rfl, by kernel_rfl, by kernel_rfl, by assumption, ?qv199, fun _ _ _ h => h, Or.inl ⟨by kernel_rfl, ?qy199⟩, ?qn199⟩; case qy199 => (intro w hSw; (try dsimp only at hSw); go_simp; try with_reducible rfl))
              refine rgH (i := 39) (oi := ?qo200) ?qh200 ?qr200
              case qh200 => (simp only [List.getElem?_toArray, List.getElem?_cons_succ, List.getElem?_cons_zero]; rfl)
              (refine ⟨by kernel_rfl, by kernel_rfl, by kernel_rfl, by assumption, ?qv200, fun _ _ _ h => h, Or.inl ⟨by kernel_rfl, ?qy200⟩, ?qn200⟩; case qy200 => (intro w hSw; (try dsimp only at hSw); go_simp; try with_reducible rfl))
              (try simp only [Act.put, List.setIfInBounds_toArray, List.set_cons_zero, List.set_cons_succ])
              refine wpAnyH_done (by kernel_rfl) ?_ _
              clear w2 w3 w4 w5 w6 vw1 e0 e0n hk1 yc
              go_wp2
              go_ret
              exact ⟨ret_bool (by rw [HHD.out, ptsOk_false HST.out hlt]), bel_next HW1.out HW1.out.size HBR.out.drew⟩
    · have HFE : Hid (validAn (d0, d1, d2, d3) = true) := by
        have h9 := HK.out
        have h8 : k = d3.length := by omega
        rw [h8] at h9
        unfold Hid; rw [HHD.out, h9]
      have s3 := cell_below HBR.out zg1 t13
      go_wp2
      go_ret
      exact ⟨ret_bool HFE.out.symm, bel_next HW1.out HW1.out.size HBR.out⟩
end Go.Proofs.YtcmopmapdomneaaDoor
end

section
namespace Go.Proofs.YtcmopmapdomneaaDoor
open Go.RowKit

/-- The two numbers of block g stand in order. -/
def Srt2 (g : Nat) (x y : Int) (e : TypeId) (w w' : World) : Prop := w'.heap[g]? = some (.cells #[.int .i64 (min x y), .int .i64 (max x y)] e (0, 0)) ∧ w.grownBy w' (some g)
theorem grown_drewN (w : World) (n : Nat) (r : Option Nat) : w.grownBy (w.drewN n) r := ⟨rfl, rfl, rfl, Nat.le_refl _, fun _ _ _ => rfl⟩
theorem srt2_drewN {g : Nat} {x y : Int} {e : TypeId} {w w' : World} (h : Srt2 g x y e w w') (n : Nat) : Srt2 g x y e w (w'.drewN n) :=
  ⟨h.1, ⟨h.2.os, h.2.tape, h.2.output, h.2.size, fun i hi hn => h.2.block i hi hn⟩⟩
theorem grown_tr {a b c : World} {row : Option Nat} (h : a.grownBy b row) (k : b.grownBy c row) : a.grownBy c row :=
  ⟨k.os.trans h.os, k.tape.trans h.tape, k.output.trans h.output, Nat.le_trans h.size k.size, fun i hi hn => (k.block i (Nat.lt_of_lt_of_le hi h.size) hn).trans (h.block i hi hn)⟩
theorem srt2_swap {g : Nat} {x y : Int} {e : TypeId} {w : World} (hyx : y < x) (hw : w.heap[g]? = some (.cells #[.int .i64 x, .int .i64 y] e (0, 0))) (n : Nat) :
    Srt2 g x y e w (((w.drewN n).setCell ⟨g, 1, none⟩ (.int .i64 x)).setCell ⟨g, 0, none⟩ (.int .i64 y)) := by
  have h := blk_set (w := (w.drewN n).setCell ⟨g, 1, none⟩ (.int .i64 x)) (blk_set (w := w.drewN n) hw 1 (.int .i64 x)) 0 (.int .i64 y)
  refine ⟨?_, rfl, rfl, rfl, ?_, fun i hi hn => ?_⟩
  · rw [Int.min_eq_right (by omega), Int.max_eq_left (by omega)]; exact h
  · rw [size_set, size_set]; exact Nat.le_refl _
  · have h1 : i ≠ g := fun e => hn (by rw [e])
    rw [Below.heap_setCell _ _ _ _ h1, Below.heap_setCell _ _ _ _ h1]; rfl
theorem srt2_same {g : Nat} {x y : Int} {e : TypeId} {w : World} (hyx : ¬ y < x) (hw : w.heap[g]? = some (.cells #[.int .i64 x, .int .i64 y] e (0, 0))) : Srt2 g x y e w w :=
  ⟨by rw [Int.min_eq_left (by omega), Int.max_eq_right (by omega)]; exact hw, rfl, rfl, rfl, Nat.le_refl _, fun _ _ _ => rfl⟩
/-- What is left of two numbers in order: one, if they are equal. -/
def RetComp2 (g : Nat) (x y : Int) (e : TypeId) (cap : Nat) (w : World) (r : Ending) (w' : World) : Prop :=
  ∃ (n : Nat) (cs : Array Value), r = .returned (.slice (some ⟨g, 0, none⟩) n cap) ∧ n = (if x = y then 1 else 2) ∧ w'.heap[g]? = some (.cells cs e (0, 0)) ∧ cs[0]? = some (.int .i64 x) ∧ (x ≠ y → cs[1]? = some (.int .i64 y)) ∧ cs.size = 2 ∧ w.grownBy w' (some g)
end Go.Proofs.YtcmopmapdomneaaDoor
end

section
namespace Go.Proofs.YtcmopmapdomneaaDoor

def coefAt (t : Term) (k : Nat) : Int := t.2.getD k 0
def hasSym (ts : List Term) (k : Nat) : Bool := ts.any fun t => coefAt t k != 0
def symK (ts : List Term) (k : Nat) : List Int := ((List.range k).filter (hasSym ts)).map fun j : Nat => (j : Int)
def symF (ts : List Term) : List Int := symK ts 10
def symbolsF (ts : List Term) : List Int × Bool := if areTerms ts 14 then (symF ts, true) else ([], false)
theorem symK_succ (ts : List Term) (k : Nat) : symK ts (k + 1) = symK ts k ++ if hasSym ts k then [(k : Int)] else [] := by
  unfold symK
  rw [List.range_succ, List.filter_append, List.map_append]
  congr 1
  by_cases h : hasSym ts k = true
  · simp [h]
  · simp [h]
theorem symK_len (ts : List Term) (k : Nat) : (symK ts k).length ≤ k := by
  unfold symK
  rw [List.length_map]
  exact Nat.le_trans (List.length_filter_le _ _) (by simp)
theorem symbolsF_len (ts : List Term) : (symbolsF ts).1.length ≤ 1048576 := by
  unfold symbolsF
  split
  · have := symK_len ts 10; simp only [symF]; omega
  · simp
/-- A number put to its place among rising ones, once. -/
def putL : List Int → Int → List Int
  | [], n => [n]
  | x :: xs, n => if n ≤ x then (if n < x then n :: x :: xs else x :: xs) else x :: putL xs n
theorem putL_take {l : List Int} {n : Int} {k : Nat} (h : ∀ x ∈ l.take k, x < n) : putL l n = l.take k ++ putL (l.drop k) n := by
  induction l generalizing k with
  | nil => simp
  | cons x xs ih =>
    cases k with
    | zero => simp
    | succ k =>
      have h1 := h x (by simp)
      simp only [putL, List.take_succ_cons, List.drop_succ_cons, List.cons_append]
      rw [if_neg (by omega), ih (k := k) fun y hy => h y (by simp [hy])]
def Srt (l : List Int) : Prop := l.Pairwise (· < ·)
theorem mem_putL {l : List Int} {n x : Int} : x ∈ putL l n ↔ x = n ∨ x ∈ l := by
  induction l with
  | nil => simp [putL]
  | cons y ys ih =>
    simp only [putL]
    split
    · split
      · simp
      · have : n = y := by omega
        subst this; simp
    · simp [ih]
      constructor
      · rintro (h | h | h) <;> simp [h]
      · rintro (h | h | h) <;> simp [h]
theorem putL_len {l : List Int} {n : Int} : (putL l n).length ≤ l.length + 1 := by
  induction l with
  | nil => simp [putL]
  | cons y ys ih =>
    simp only [putL]
    split
    · split <;> simp
    · simp; omega
theorem putL_srt {l : List Int} {n : Int} (h : Srt l) : Srt (putL l n) := by
  induction l with
  | nil => simp [putL, Srt]
  | cons y ys ih =>
    unfold Srt at h ih ⊢
    rw [List.pairwise_cons] at h
    simp only [putL]
    split
    · split
      · rw [List.pairwise_cons, List.pairwise_cons]
        refine ⟨fun z hz => ?_, h⟩
        rcases List.mem_cons.1 hz with rfl | hz
        · assumption
        · have := h.1 z hz; omega
      · rw [List.pairwise_cons]; exact h
    · rw [List.pairwise_cons]
      refine ⟨fun z hz => ?_, ih h.2⟩
      rcases mem_putL.1 hz with rfl | hz
      · omega
      · exact h.1 z hz
theorem srt_ext : ∀ {l m : List Int}, Srt l → Srt m → (∀ x, x ∈ l ↔ x ∈ m) → l = m
  | [], [], _, _, _ => rfl
  | [], y :: ys, _, _, h => by have := (h y).2 (by simp); simp at this
  | x :: xs, [], _, _, h => by have := (h x).1 (by simp); simp at this
  | x :: xs, y :: ys, h1, h2, h => by
    unfold Srt at h1 h2
    rw [List.pairwise_cons] at h1 h2
    have hxy : x = y := by
      have a := (h x).1 (by simp)
      have b := (h y).2 (by simp)
      rcases List.mem_cons.1 a with a | a
      · exact a
      · rcases List.mem_cons.1 b with b | b
        · exact b.symm
        · have := h1.1 y b; have := h2.1 x a; omega
    subst hxy
    rw [srt_ext h1.2 h2.2 fun z => ?_]
    constructor
    · intro hz
      have := (h z).1 (by simp [hz])
      rcases List.mem_cons.1 this with rfl | this
      · have := h1.1 z hz; omega
      · exact this
    · intro hz
      have := (h z).2 (by simp [hz])
      rcases List.mem_cons.1 this with rfl | this
      · have := h2.1 z hz; omega
      · exact this
theorem srt_len : ∀ {l : List Int} {a b : Int}, Srt l → (∀ x ∈ l, a ≤ x ∧ x < b) → (l.length : Int) ≤ max 0 (b - a)
  | [], a, b, _, _ => by simp; omega
  | x :: xs, a, b, h, hm => by
    unfold Srt at h
    rw [List.pairwise_cons] at h
    have h0 := hm x (by simp)
    have := srt_len (a := x + 1) (b := b) h.2 fun y hy => ⟨by have := h.1 y hy; omega, (hm y (by simp [hy])).2⟩
    simp only [List.length_cons]; omega
theorem symK_srt (ts : List Term) (k : Nat) : Srt (symK ts k) := by
  unfold Srt symK
  rw [List.pairwise_map]
  exact (List.Pairwise.filter _ List.pairwise_lt_range).imp fun h => by omega
theorem mem_symK {ts : List Term} {k : Nat} {x : Int} : x ∈ symK ts k ↔ ∃ j : Nat, x = j ∧ j < k ∧ hasSym ts j = true := by
  unfold symK
  simp only [List.mem_map, List.mem_filter, List.mem_range]
  constructor
  · rintro ⟨j, ⟨h1, h2⟩, rfl⟩; exact ⟨j, rfl, h1, h2⟩
  · rintro ⟨j, rfl, h1, h2⟩; exact ⟨j, ⟨h1, h2⟩, rfl⟩
/-- What has been collected behind i terms and j coefficients of the next one. -/
def SymAt (ts : List Term) (i j : Nat) (out : List Int) : Prop :=
  Srt out ∧ ∀ x, x ∈ out ↔ ∃ k : Nat, x = k ∧ ((∃ t ∈ ts.take i, coefAt t k ≠ 0) ∨ ∃ t, ts[i]? = some t ∧ k < j ∧ coefAt t k ≠ 0)
theorem symAt_start (ts : List Term) : SymAt ts 0 0 [] := ⟨by simp [Srt], by simp⟩
theorem symAt_zero {ts : List Term} {i j : Nat} {out : List Int} {t : Term} (h : SymAt ts i j out) (ht : ts[i]? = some t) (hc : coefAt t j = 0) : SymAt ts i (j + 1) out := by
  refine ⟨h.1, fun x => (h.2 x).trans ?_⟩
  constructor
  · rintro ⟨k, rfl, h1 | ⟨t', h2, h3, h4⟩⟩
    · exact ⟨k, rfl, .inl h1⟩
    · exact ⟨k, rfl, .inr ⟨t', h2, by omega, h4⟩⟩
  · rintro ⟨k, rfl, h1 | ⟨t', h2, h3, h4⟩⟩
    · exact ⟨k, rfl, .inl h1⟩
    · rw [ht] at h2; cases h2
      have : k ≠ j := by rintro rfl; exact h4 hc
      exact ⟨k, rfl, .inr ⟨t, ht, by omega, h4⟩⟩
theorem symAt_put {ts : List Term} {i j : Nat} {out : List Int} {t : Term} (h : SymAt ts i j out) (ht : ts[i]? = some t) (hc : coefAt t j ≠ 0) : SymAt ts i (j + 1) (putL out j) := by
  refine ⟨putL_srt h.1, fun x => ?_⟩
  rw [mem_putL, h.2 x]
  constructor
  · rintro (rfl | ⟨k, rfl, h1 | ⟨t', h2, h3, h4⟩⟩)
    · exact ⟨j, rfl, .inr ⟨t, ht, by omega, hc⟩⟩
    · exact ⟨k, rfl, .inl h1⟩
    · exact ⟨k, rfl, .inr ⟨t', h2, by omega, h4⟩⟩
  · rintro ⟨k, rfl, h1 | ⟨t', h2, h3, h4⟩⟩
    · exact .inr ⟨k, rfl, .inl h1⟩
    · by_cases hk : k = j
      · exact .inl (by rw [hk])
      · exact .inr ⟨k, rfl, .inr ⟨t', h2, by omega, h4⟩⟩
theorem symAt_next {ts : List Term} {i : Nat} {out : List Int} {t : Term} (h : SymAt ts i t.2.length out) (ht : ts[i]? = some t) : SymAt ts (i + 1) 0 out := by
  refine ⟨h.1, fun x => (h.2 x).trans ?_⟩
  have hk : ts.take (i + 1) = ts.take i ++ [t] := by rw [List.take_add_one, ht]; rfl
  constructor
  · rintro ⟨k, rfl, ⟨t', h1, h2⟩ | ⟨t', h2, h3, h4⟩⟩
    · exact ⟨k, rfl, .inl ⟨t', by rw [hk]; simp [h1], h2⟩⟩
    · rw [ht] at h2; cases h2
      exact ⟨k, rfl, .inl ⟨t, by rw [hk]; simp, h4⟩⟩
  · rintro ⟨k, rfl, ⟨t', h1, h2⟩ | ⟨t', h2, h3, h4⟩⟩
    · rw [hk] at h1
      rcases List.mem_append.1 h1 with h1 | h1
      · exact ⟨k, rfl, .inl ⟨t', h1, h2⟩⟩
      · simp at h1; subst h1
        refine ⟨k, rfl, .inr ⟨t', ht, ?_, h2⟩⟩
        rcases Nat.lt_or_ge k t'.2.length with h3 | h3
        · exact h3
        · exfalso; apply h2; unfold coefAt; rw [List.getD_eq_getElem?_getD, List.getElem?_eq_none h3]; rfl
    · omega
theorem symAt_end {ts : List Term} {out : List Int} {i : Nat} (h : SymAt ts i 0 out) (hi : ts.length ≤ i) (hv : ∀ t ∈ ts, t.2.length ≤ 10) : out = symF ts := by
  refine srt_ext h.1 (symK_srt _ _) fun x => (h.2 x).trans ?_
  rw [List.take_of_length_le hi, symF, mem_symK]
  constructor
  · rintro ⟨k, rfl, ⟨t, h1, h2⟩ | ⟨t', h2, h3, h4⟩⟩
    · refine ⟨k, rfl, ?_, by unfold hasSym; rw [List.any_eq_true]; exact ⟨t, h1, by simp [h2]⟩⟩
      have := hv t h1
      rcases Nat.lt_or_ge k t.2.length with h3 | h3
      · omega
      · exfalso; apply h2; unfold coefAt; rw [List.getD_eq_getElem?_getD, List.getElem?_eq_none h3]; rfl
    · omega
  · rintro ⟨k, rfl, h1, h2⟩
    unfold hasSym at h2
    rw [List.any_eq_true] at h2
    obtain ⟨t, h3, h4⟩ := h2
    exact ⟨k, rfl, .inl ⟨t, h3, by simpa using h4⟩⟩
theorem symAt_len {ts : List Term} {out : List Int} {i j : Nat} (h : SymAt ts i j out) (hv : ∀ t ∈ ts, t.2.length ≤ 10) : out.length ≤ 10 := by
  have := srt_len (a := 0) (b := 10) h.1 fun x hx => by
    obtain ⟨k, rfl, hk⟩ := (h.2 x).1 hx
    have hk10 : ∀ t ∈ ts, coefAt t k ≠ 0 → k < 10 := fun t ht hc => by
      have := hv t ht
      rcases Nat.lt_or_ge k t.2.length with h3 | h3
      · omega
      · exfalso; apply hc; unfold coefAt; rw [List.getD_eq_getElem?_getD, List.getElem?_eq_none h3]; rfl
    rcases hk with ⟨t, h1, h2⟩ | ⟨t, h1, h2, h3⟩
    · have := hk10 t (List.mem_of_mem_take h1) h2; omega
    · have := hk10 t (List.mem_of_getElem? h1) h3; omega
  omega
end Go.Proofs.YtcmopmapdomneaaDoor
end

section
namespace Go.Proofs.YtcmopmapdomneaaDoor
open Go.RowKit

end Go.Proofs.YtcmopmapdomneaaDoor
end

section
namespace Go.Proofs.YtcmopmapdomneaaDoor
open Go.RowKit

def targI (k : Nat) (x : Instr) : List Int := if x.1 = 11 then [] else if x.1 = 5 then [x.2] else if x.1 = 6 then putL [(k : Int) + 1] x.2 else [(k : Int) + 1]
def targF (code : List Instr) (k : Nat) : List Int := match code[k]? with
  | some x => targI k x
  | none => []
theorem targF_at {code : List Instr} {k : Nat} {x : Instr} (h : code[k]? = some x) : targF code k = targI k x := by unfold targF; rw [h]
theorem targI_len (k : Nat) (x : Instr) : (targI k x).length ≤ 2 := by
  unfold targI
  split
  · simp
  · split
    · simp
    · split
      · exact putL_len
      · simp
theorem rd_blk {B g cap : Nat} {w : World} {cs : Array Value} {e : TypeId} {zs : List Int} (h : w.heap[g]? = some (.cells cs e (0, 0))) (hB : B ≤ g) (hc : zs.length ≤ cap) (hc2 : cap ≤ 9223372036854775807) (hz : ∀ (i : Nat) (z : Int), zs[i]? = some z → cs[i]? = some (Value.int .i64 z) ∧ I64 z) :
    SlRd cInt (Fresh B w) w (some ⟨g, 0, none⟩) cap zs := by
  refine ⟨hc, hc2, by simp, ?_⟩
  rintro x ⟨⟩ i d hi
  obtain ⟨h1, h2⟩ := hz i d hi
  refine ⟨⟨rfl, ⟨hB, cs, e, h⟩, (Array.getElem?_eq_some_iff.1 h).1⟩, [.int .i64 d], ⟨rfl, h2⟩, fun j u hj => ?_⟩
  match j, hj with
  | 0, hj =>
    simp at hj; subst hj
    rw [cell_of_row w g _ cs e (0, 0) h]
    simpa [cInt] using h1
theorem rd_one {B cap : Nat} {w : World} {e : TypeId} {z : Int} {g : Nat} (h : w.heap[g]? = some (.cells #[.int .i64 z] e (0, 0))) (hB : B ≤ g) (hc : 1 ≤ cap) (hc2 : cap ≤ 9223372036854775807) (hz : I64 z) : SlRd cInt (Fresh B w) w (some ⟨g, 0, none⟩) cap [z] :=
  rd_blk h hB hc hc2 fun i y hi => by
    match i, hi with
    | 0, hi => simp at hi; subst hi; exact ⟨rfl, hz⟩
    | i + 1, hi => simp at hi
theorem grown_bel {w w' : World} {g B : Nat} (h : w.grownBy w' (some g)) (hB : B ≤ g) (hBs : B ≤ w.heap.size) : Below B w w' := ⟨h.os, h.tape, h.output, h.size, fun k hk => h.block k (by omega) (by simp; omega)⟩
def targetsOfF (code : List Instr) (k : Int) : List Int × Bool := if validCode code && inB k 0 ((code.length : Int) - 1) then (targF code k.toNat, true) else ([], false)
theorem targF_len (code : List Instr) (k : Nat) : (targF code k).length ≤ 2 := by
  unfold targF; split
  · exact targI_len _ _
  · simp
theorem targetsOfF_len (code : List Instr) (k : Int) : (targetsOfF code k).1.length ≤ 1048576 := by
  unfold targetsOfF; split
  · have := targF_len code k.toNat; simp only; omega
  · simp
end Go.Proofs.YtcmopmapdomneaaDoor
end

section
namespace Go.Proofs.YtcmopmapdomneaaDoor
open Go.RowKit

theorem SlRd.bool_at {S : Nat → Prop} {w : World} {b off cap : Nat} {zs : List Bool} (h : SlRd cBool S w (some ⟨b, off, none⟩) cap zs) (k : Nat) (hk : k < zs.length) :
    ∃ z, zs[k]? = some z ∧ w.cell? ⟨b, off + k, none⟩ = some (.bool z) ∧ b < w.heap.size := by
  obtain ⟨d, cs, h1, rfl, h7, _, hc⟩ := h.at k hk
  have := hc 0 _ rfl
  simp only [cBool, Nat.mul_one, Nat.add_zero] at this
  exact ⟨_, h1, this, h7⟩
theorem own_set_bool {S : Nat → Prop} {w : World} {base : Nat} {e : TypeId} {zl : List Bool} {g cap n : Nat} (h : OwnSl cBool S w base e (.slice (some ⟨g, 0, none⟩) n cap) zl) (hn : zl.length = n) (k : Nat) (hk : k < n) (z : Bool) :
    OwnSl cBool S (w.setCell ⟨g, k, none⟩ (.bool z)) base e (.slice (some ⟨g, 0, none⟩) n cap) (zl.set k z) ∧ w.grownBy (w.setCell ⟨g, k, none⟩ (.bool z)) (some g) := by
  have := own_set h hn k hk [.bool z] z rfl
  simpa [stores, cBool] using this
theorem own_at_bool {S : Nat → Prop} {w : World} {base : Nat} {e : TypeId} {zl : List Bool} {g cap n : Nat} (h : OwnSl cBool S w base e (.slice (some ⟨g, 0, none⟩) n cap) zl) (hn : zl.length = n) (k : Nat) (hk : k < n) :
    ∃ z, zl[k]? = some z ∧ w.cell? ⟨g, k, none⟩ = some (.bool z) ∧ w.frozen? ⟨g, k, none⟩ = false ∧ g < w.heap.size ∧ base ≤ g := by
  obtain ⟨z, cs, h1, rfl, h2, h3, h4, h5⟩ := own_at h hn k hk
  have := h4 0 _ rfl
  simp only [cBool, Nat.mul_one, Nat.add_zero] at this
  exact ⟨z, h1, this, h5 _, h2, h3⟩
/-- The first elements of a slice. -/
theorem SlRd.take {α : Type} {C : Codec α} {S : Nat → Prop} {w : World} {a : Option Addr} {cap : Nat} {xs : List α} (h : SlRd C S w a cap xs) (n : Nat) : SlRd C S w a cap (xs.take n) := by
  refine ⟨Nat.le_trans (by simp; omega) h.1, h.2.1, h.2.2.1, fun x hx i d hi => ?_⟩
  rw [List.getElem?_take] at hi
  split at hi
  · exact h.2.2.2 x hx i d hi
  · cases hi
/-- The places of what is true. -/
def idxK (bs : List Bool) (k : Nat) : List Int := ((List.range k).filter fun j => bs.getD j false).map fun j : Nat => (j : Int)
def idxL (bs : List Bool) : List Int := idxK bs bs.length
theorem idxK_succ {bs : List Bool} {k : Nat} {z : Bool} (h : bs[k]? = some z) : idxK bs (k + 1) = idxK bs k ++ if z then [(k : Int)] else [] := by
  unfold idxK
  rw [List.range_succ, List.filter_append, List.map_append]
  congr 1
  cases z
  · simp [h]
  · simp [h]
theorem idxK_len (bs : List Bool) (k : Nat) : (idxK bs k).length ≤ k := by
  unfold idxK
  rw [List.length_map]
  exact Nat.le_trans (List.length_filter_le _ _) (by simp)
end Go.Proofs.YtcmopmapdomneaaDoor
end

section
namespace Go.Proofs.YtcmopmapdomneaaDoor

theorem place_arg {x : Instr} (h : validI x = true) (hj : x.1 = 5 ∨ x.1 = 6) : 0 ≤ x.2 ∧ x.2 ≤ 79 := by
  obtain ⟨op, arg⟩ := x
  unfold validI at h
  simp only at h hj ⊢
  rcases hj with rfl | rfl
  · have := inB_iff.1 (show inB arg 0 79 = true by simpa using h); omega
  · have := inB_iff.1 (show inB arg 0 79 = true by simpa using h); omega
inductive Rch (code : List Instr) : Int → Prop
  | zero : Rch code 0
  | step {k : Nat} {t : Int} : Rch code k → k < code.length → t ∈ targF code k → Rch code t
/-- The state of a search: what is marked, and what is still to be visited. -/
structure RInv (code : List Instr) (out : List Bool) (work : List Int) : Prop where
  len : out.length = code.length
  sound : ∀ i : Nat, out[i]? = some true → Rch code i
  workR : ∀ t ∈ work, Rch code t
  closed : ∀ i : Nat, out[i]? = some true → ∀ t ∈ targF code i, t ∈ work ∨ out[t.toNat]? = some true ∧ 0 ≤ t ∨ ¬ (0 ≤ t ∧ t < code.length)
  start : (0 : Int) ∈ work ∨ out[0]? = some true
theorem RInv.begin (code : List Instr) : RInv code (List.replicate code.length false) [0] := by
  have h0 : ∀ i : Nat, (List.replicate code.length false)[i]? ≠ some true := fun i h => by
    rw [List.getElem?_replicate] at h; split at h <;> simp at h
  exact ⟨by simp, fun i h => absurd h (h0 i), fun t ht => by simp at ht; subst ht; exact .zero, fun i h => absurd h (h0 i), .inl (by simp)⟩
theorem RInv.same {code : List Instr} {out : List Bool} {w1 w2 : List Int} (h : RInv code out w1) (he : ∀ x, x ∈ w1 ↔ x ∈ w2) : RInv code out w2 :=
  ⟨h.len, h.sound, fun t ht => h.workR t ((he t).2 ht), fun i hi t ht => (h.closed i hi t ht).imp (fun g => (he t).1 g) id, h.start.imp (fun g => (he 0).1 g) id⟩
theorem RInv.skip {code : List Instr} {out : List Bool} {work : List Int} {t : Int} (h : RInv code out (t :: work)) (ht : ¬ (0 ≤ t ∧ t < code.length) ∨ (out[t.toNat]? = some true ∧ 0 ≤ t)) (hn : 1 ≤ code.length) : RInv code out work := by
  refine ⟨h.len, h.sound, fun x hx => h.workR x (List.mem_cons_of_mem _ hx), fun i hi x hx => ?_, ?_⟩
  · rcases h.closed i hi x hx with g | g
    · rcases List.mem_cons.1 g with rfl | g
      · rcases ht with ht | ht
        · exact .inr (.inr ht)
        · exact .inr (.inl ht)
      · exact .inl g
    · exact .inr g
  · rcases h.start with g | g
    · rcases List.mem_cons.1 g with rfl | g
      · rcases ht with ht | ht
        · omega
        · exact .inr ht.1
      · exact .inl g
    · exact .inr g
theorem RInv.push {code : List Instr} {out : List Bool} {work : List Int} {k : Nat} (h : RInv code out ((k : Int) :: work)) (hk : k < code.length) : RInv code (out.set k true) (work ++ targF code k) := by
  have hR := h.workR k (by simp)
  have hl := h.len
  have hset : ∀ i : Nat, (out.set k true)[i]? = some true → i = k ∨ out[i]? = some true := fun i hi => by
    by_cases e : k = i
    · exact .inl e.symm
    · rw [List.getElem?_set_ne e] at hi; exact .inr hi
  have hkeep : ∀ i : Nat, out[i]? = some true → (out.set k true)[i]? = some true := fun i hi => by
    by_cases e : k = i
    · subst e; rw [List.getElem?_set_self (by omega)]
    · rw [List.getElem?_set_ne e]; exact hi
  refine ⟨by rw [List.length_set]; exact hl, fun i hi => ?_, fun x hx => ?_, fun i hi x hx => ?_, ?_⟩
  · rcases hset i hi with rfl | g
    · exact hR
    · exact h.sound i g
  · rcases List.mem_append.1 hx with g | g
    · exact h.workR x (List.mem_cons_of_mem _ g)
    · exact .step hR hk g
  · rcases hset i hi with rfl | g
    · exact .inl (List.mem_append_right _ hx)
    · rcases h.closed i g x hx with g | g | g
      · rcases List.mem_cons.1 g with rfl | g
        · exact .inr (.inl ⟨by rw [Int.toNat_natCast, List.getElem?_set_self (by omega)], by omega⟩)
        · exact .inl (List.mem_append_left _ g)
      · exact .inr (.inl ⟨hkeep _ g.1, g.2⟩)
      · exact .inr (.inr g)
  · rcases h.start with g | g
    · rcases List.mem_cons.1 g with g | g
      · have : k = 0 := by omega
        subst this
        exact .inr (by rw [List.getElem?_set_self (by omega)])
      · exact .inl (List.mem_append_left _ g)
    · exact .inr (hkeep 0 g)
theorem RInv.complete {code : List Instr} {out : List Bool} (h : RInv code out []) {t : Int} (ht : Rch code t) (h0 : 0 ≤ t) (h1 : t < code.length) : out[t.toNat]? = some true := by
  have key : ∀ t, Rch code t → 0 ≤ t ∧ t < code.length → out[t.toNat]? = some true := by
    intro t ht
    induction ht with
    | zero => intro _; rcases h.start with g | g
              · cases g
              · exact g
    | step hk hlt hm ih =>
      intro hb
      have hi := ih ⟨by omega, by omega⟩
      rw [Int.toNat_natCast] at hi
      rcases h.closed _ hi _ hm with g | g | g
      · cases g
      · exact g.1
      · exact absurd hb g
  exact key t ht ⟨h0, h1⟩
theorem RInv.unique {code : List Instr} {o1 o2 : List Bool} (h1 : RInv code o1 []) (h2 : RInv code o2 []) : o1 = o2 := by
  have key : ∀ {a b : List Bool}, RInv code a [] → RInv code b [] → ∀ i : Nat, a[i]? = some true → b[i]? = some true := fun ha hb i hi => by
    have hlt : i < code.length := by rw [← ha.len]; exact (List.getElem?_eq_some_iff.1 hi).1
    have := hb.complete (ha.sound i hi) (by omega) (by omega)
    rwa [Int.toNat_natCast] at this
  apply List.ext_getElem (by rw [h1.len, h2.len])
  intro i hi hi'
  have g1 := List.getElem?_eq_getElem hi
  have g2 := List.getElem?_eq_getElem hi'
  cases e1 : o1[i] with
  | true =>
    rw [e1] at g1
    have := key h1 h2 i g1
    rw [g2] at this
    simpa using this.symm
  | false =>
    cases e2 : o2[i] with
    | true =>
      rw [e2] at g2
      have := key h2 h1 i g2
      rw [g1, e1] at this; simp at this
    | false => rfl
/-- How much is still to be done at most. -/
def msr (out : List Bool) (work : List Int) : Nat := 3 * out.count false + work.length
theorem count_set {out : List Bool} {k : Nat} (h : out[k]? = some false) : (out.set k true).count false + 1 = out.count false := by
  induction out generalizing k with
  | nil => simp at h
  | cons b bs ih =>
    cases k with
    | zero => simp at h; subst h; simp
    | succ k =>
      simp only [List.getElem?_cons_succ] at h
      simp only [List.set_cons_succ, List.count_cons]
      have := ih h
      omega
theorem msr_push {code : List Instr} {out : List Bool} {work : List Int} {k : Nat} (h : out[k]? = some false) : msr (out.set k true) (work ++ targF code k) < msr out ((k : Int) :: work) := by
  have h1 := count_set h
  have h2 := targF_len code k
  unfold msr
  rw [List.length_append, List.length_cons]; omega
/-- The search, with places taken from the front. -/
def runR (code : List Instr) : Nat → List Bool → List Int → List Bool
  | 0, out, _ => out
  | _ + 1, out, [] => out
  | f + 1, out, t :: work => if (decide (0 ≤ t) && decide (t < (code.length : Int))) && (out[t.toNat]? == some false) then runR code f (out.set t.toNat true) (work ++ targF code t.toNat) else runR code f out work
theorem runR_inv {code : List Instr} (hn : 1 ≤ code.length) : ∀ (f : Nat) (out : List Bool) (work : List Int), RInv code out work → msr out work ≤ f → RInv code (runR code f out work) [] := by
  intro f
  induction f with
  | zero =>
    intro out work h hm
    cases work with
    | nil => exact h
    | cons t work => unfold msr at hm; simp at hm
  | succ f ih =>
    intro out work h hm
    cases work with
    | nil => exact h
    | cons t work =>
      unfold runR
      split
      · rename_i hc
        simp only [Bool.and_eq_true, decide_eq_true_eq, beq_iff_eq] at hc
        obtain ⟨⟨h0, h1⟩, h2⟩ := hc
        obtain ⟨k, rfl⟩ := Int.eq_ofNat_of_zero_le h0
        rw [Int.toNat_natCast] at h2 ⊢
        refine ih _ _ (h.push (by omega)) ?_
        have := msr_push (code := code) (work := work) h2
        omega
      · rename_i hc
        refine ih _ _ (h.skip ?_ hn) (by unfold msr at hm ⊢; simp only [List.length_cons] at hm; omega)
        by_cases hb : 0 ≤ t ∧ t < (code.length : Int)
        · refine .inr ⟨?_, hb.1⟩
          simp only [hb.1, hb.2, decide_true, Bool.true_and, beq_iff_eq, Bool.not_eq_true] at hc
          have hlt : t.toNat < out.length := by rw [h.len]; omega
          rw [List.getElem?_eq_getElem hlt] at hc ⊢
          cases e : out[t.toNat] with
          | true => rfl
          | false => rw [e] at hc; simp at hc
        · exact .inl hb
def reachB (code : List Instr) : List Bool := runR code (3 * code.length + 1) (List.replicate code.length false) [0]
theorem reachB_inv {code : List Instr} (hn : 1 ≤ code.length) : RInv code (reachB code) [] :=
  runR_inv hn _ _ _ (.begin code) (by unfold msr; simp)
theorem reachB_of {code : List Instr} (hn : 1 ≤ code.length) {out : List Bool} (h : RInv code out []) : out = reachB code := h.unique (reachB_inv hn)
def reachF (code : List Instr) : List Int × Bool := if validCode code then (idxL (reachB code), true) else ([], false)
theorem reachF_len (code : List Instr) : (reachF code).1.length ≤ 1048576 := by
  unfold reachF
  split
  · rename_i hv
    obtain ⟨h1, h80, _⟩ := validCode_iff hv
    have := idxK_len (reachB code) (reachB code).length
    have hl := (reachB_inv (code := code) (by omega)).len
    simp only [idxL]; omega
  · simp
/-- The places behind an instruction of valid code are not negative. -/
theorem targF_nonneg {code : List Instr} (hv : ∀ x ∈ code, validI x = true) {k : Nat} {t : Int} (h : t ∈ targF code k) : 0 ≤ t ∧ t ≤ 80 + k := by
  unfold targF at h
  cases hx : code[k]? with
  | none => rw [hx] at h; cases h
  | some x =>
    rw [hx] at h
    have hm := hv x (List.mem_of_getElem? hx)
    have hj := place_arg hm
    simp only [targI] at h
    split at h
    · cases h
    · split at h
      · rename_i e5
        have := hj (.inl e5)
        simp at h; omega
      · split at h
        · rename_i e6
          have := hj (.inr e6)
          rcases mem_putL.1 h with e | e
          · omega
          · simp at e; omega
        · simp at h; omega
end Go.Proofs.YtcmopmapdomneaaDoor
end

section
namespace Go.Proofs.YtcmopmapdomneaaDoor

def popsI (op : Int) : Int := if op = 2 ∨ op = 4 ∨ op = 6 ∨ op = 7 ∨ op = 10 then 1 else if op = 3 ∨ op = 8 then 2 else 0
def pushI (op : Int) : Int := if op = 0 ∨ op = 1 ∨ op = 3 ∨ op = 4 ∨ op = 7 then 1 else 0
theorem popsI_bd (op : Int) : 0 ≤ popsI op ∧ popsI op ≤ 2 := by unfold popsI; split; omega; split <;> omega
theorem pushI_bd (op : Int) : 0 ≤ pushI op ∧ pushI op ≤ 1 := by unfold pushI; split <;> omega
def opAt (code : List Instr) (k : Nat) : Int := match code[k]? with
  | some x => x.1
  | none => 0
/-- How high it is behind instruction k, if it is h there. -/
def nxt (code : List Instr) (k : Nat) (h : Int) : Int := h - popsI (opAt code k) + pushI (opAt code k)
def okAt (code : List Instr) (k : Nat) (h : Int) : Prop := 0 ≤ h - popsI (opAt code k) ∧ nxt code k h ≤ 6
theorem nxt_nonneg {code : List Instr} {k : Nat} {h : Int} (ho : okAt code k h) : 0 ≤ nxt code k h := by
  have := (pushI_bd (opAt code k)).1
  have := ho.1
  unfold nxt; omega
inductive Ht (code : List Instr) : Int → Int → Prop
  | zero : Ht code 0 0
  | step {k : Nat} {h t : Int} : Ht code k h → k < code.length → okAt code k h → t ∈ targF code k → Ht code t (nxt code k h)
def BadH (code : List Instr) : Prop := ∃ (k : Nat) (h : Int), Ht code k h ∧ k < code.length ∧ (¬ okAt code k h ∨ (okAt code k h ∧ ∃ t ∈ targF code k, ¬ (0 ≤ t ∧ t < (code.length : Int)) ∨ ∃ h', Ht code t h' ∧ h' ≠ nxt code k h))
/-- The state of the search: what is known, what is still to be visited, and of instruction k the places ts that are still to be looked at. -/
structure HInv (code : List Instr) (out work : List Int) (k : Nat) (ts : List Int) : Prop where
  len : out.length = code.length
  sound : ∀ (i : Nat) (h : Int), out[i]? = some h → 0 ≤ h → Ht code i h
  lo : ∀ (i : Nat) (h : Int), out[i]? = some h → -1 ≤ h ∧ h ≤ 6
  workS : ∀ t ∈ work, 0 ≤ t ∧ t < (code.length : Int) ∧ ∃ h, out[t.toNat]? = some h ∧ 0 ≤ h
  closed : ∀ (i : Nat) (h : Int), out[i]? = some h → 0 ≤ h → (i : Int) ∈ work ∨ (okAt code i h ∧ ∀ t ∈ targF code i, (i = k ∧ t ∈ ts) ∨ (0 ≤ t ∧ t < (code.length : Int) ∧ out[t.toNat]? = some (nxt code i h)))
  start : out[0]? = some 0
theorem HInv.begin {code : List Instr} (hn : 1 ≤ code.length) : HInv code ((List.replicate code.length (-1)).set 0 0) [0] 0 [] := by
  have hat : ∀ (i : Nat) (h : Int), ((List.replicate code.length (-1 : Int)).set 0 0)[i]? = some h → (i = 0 ∧ h = 0) ∨ (i ≠ 0 ∧ h = -1) := fun i h hi => by
    by_cases e : i = 0
    · subst e; rw [List.getElem?_set_self (by rw [List.length_replicate]; omega)] at hi; simp at hi; exact .inl ⟨rfl, hi.symm⟩
    · rw [List.getElem?_set_ne (fun h => e h.symm), List.getElem?_replicate] at hi
      split at hi
      · simp at hi; exact .inr ⟨e, hi.symm⟩
      · cases hi
  have h0 : ((List.replicate code.length (-1 : Int)).set 0 0)[0]? = some 0 := List.getElem?_set_self (by rw [List.length_replicate]; omega)
  refine ⟨by simp, fun i h hi h1 => ?_, fun i h hi => ?_, fun t ht => ?_, fun i h hi h1 => ?_, h0⟩
  · rcases hat i h hi with ⟨rfl, rfl⟩ | ⟨_, rfl⟩
    · exact .zero
    · omega
  · rcases hat i h hi with ⟨rfl, rfl⟩ | ⟨_, rfl⟩ <;> omega
  · simp at ht; subst ht; exact ⟨by omega, by omega, 0, h0, by omega⟩
  · rcases hat i h hi with ⟨rfl, rfl⟩ | ⟨_, rfl⟩
    · exact .inl (by simp)
    · omega
theorem HInv.same {code : List Instr} {out w1 w2 : List Int} {k : Nat} {ts : List Int} (h : HInv code out w1 k ts) (he : ∀ x, x ∈ w1 ↔ x ∈ w2) : HInv code out w2 k ts :=
  ⟨h.len, h.sound, h.lo, fun t ht => h.workS t ((he t).2 ht), fun i v hi hv => (h.closed i v hi hv).imp (fun g => (he _).1 g) id, h.start⟩
theorem HInv.pop {code : List Instr} {out work : List Int} {k k0 : Nat} {h : Int} (hI : HInv code out ((k : Int) :: work) k0 []) (hk : out[k]? = some h) (ho : okAt code k h) : HInv code out work k (targF code k) := by
  refine ⟨hI.len, hI.sound, hI.lo, fun t ht => hI.workS t (List.mem_cons_of_mem _ ht), fun i v hi hv => ?_, hI.start⟩
  rcases hI.closed i v hi hv with g | ⟨g1, g2⟩
  · rcases List.mem_cons.1 g with g | g
    · have : i = k := by omega
      subst this
      rw [hk] at hi; cases hi
      exact .inr ⟨ho, fun t ht => .inl ⟨rfl, ht⟩⟩
    · exact .inl g
  · exact .inr ⟨g1, fun t ht => .inr (by rcases g2 t ht with ⟨_, g⟩ | g; cases g; exact g)⟩
theorem HInv.put {code : List Instr} {out work : List Int} {k : Nat} {ts : List Int} {h t v : Int} (hI : HInv code out work k (t :: ts)) (hkn : k < code.length) (hk : out[k]? = some h) (h0 : 0 ≤ h) (ho : okAt code k h) (htm : t ∈ targF code k) (ht0 : 0 ≤ t) (htn : t < (code.length : Int)) (hv : out[t.toNat]? = some v) (hneg : v < 0) :
    HInv code (out.set t.toNat (nxt code k h)) (work ++ [t]) k ts := by
  have hnx := nxt_nonneg ho
  have hHt : Ht code t (nxt code k h) := .step (hI.sound k h hk h0) hkn ho htm
  have hlt : t.toNat < out.length := (List.getElem?_eq_some_iff.1 hv).1
  have hne : ∀ (i : Nat) (u : Int), out[i]? = some u → 0 ≤ u → t.toNat ≠ i := fun i u hi hu e => by subst e; rw [hv] at hi; cases hi; omega
  have hkeep : ∀ (i : Nat) (u : Int), out[i]? = some u → 0 ≤ u → (out.set t.toNat (nxt code k h))[i]? = some u := fun i u hi hu => by rw [List.getElem?_set_ne (hne i u hi hu)]; exact hi
  have hself : (out.set t.toNat (nxt code k h))[t.toNat]? = some (nxt code k h) := List.getElem?_set_self hlt
  have hback : ∀ (i : Nat) (u : Int), (out.set t.toNat (nxt code k h))[i]? = some u → (i = t.toNat ∧ u = nxt code k h) ∨ out[i]? = some u := fun i u hi => by
    by_cases e : t.toNat = i
    · subst e; rw [hself] at hi; cases hi; exact .inl ⟨rfl, rfl⟩
    · rw [List.getElem?_set_ne e] at hi; exact .inr hi
  have htt : ((t.toNat : Nat) : Int) = t := by omega
  refine ⟨by rw [List.length_set]; exact hI.len, fun i u hi hu => ?_, fun i u hi => ?_, fun x hx => ?_, fun i u hi hu => ?_, hkeep 0 0 hI.start (by omega)⟩
  · rcases hback i u hi with ⟨rfl, rfl⟩ | g
    · rw [htt]; exact hHt
    · exact hI.sound i u g hu
  · rcases hback i u hi with ⟨rfl, rfl⟩ | g
    · exact ⟨by omega, ho.2⟩
    · exact hI.lo i u g
  · rcases List.mem_append.1 hx with g | g
    · obtain ⟨a1, a2, u, a3, a4⟩ := hI.workS x g
      exact ⟨a1, a2, u, hkeep _ u a3 a4, a4⟩
    · simp at g; subst g; exact ⟨ht0, htn, _, hself, hnx⟩
  · rcases hback i u hi with ⟨rfl, rfl⟩ | g
    · rw [htt]; exact .inl (by simp)
    · rcases hI.closed i u g hu with g | ⟨g1, g2⟩
      · exact .inl (List.mem_append_left _ g)
      · refine .inr ⟨g1, fun t' ht' => ?_⟩
        rcases g2 t' ht' with ⟨rfl, g3⟩ | ⟨g3, g4, g5⟩
        · rcases List.mem_cons.1 g3 with rfl | g3
          · rw [hk] at g; cases g
            exact .inr ⟨ht0, htn, hself⟩
          · exact .inl ⟨rfl, g3⟩
        · exact .inr ⟨g3, g4, hkeep _ _ g5 (nxt_nonneg g1)⟩
theorem HInv.seen {code : List Instr} {out work : List Int} {k : Nat} {ts : List Int} {h t : Int} (hI : HInv code out work k (t :: ts)) (hk : out[k]? = some h) (_h0 : 0 ≤ h) (ht0 : 0 ≤ t) (htn : t < (code.length : Int)) (hv : out[t.toNat]? = some (nxt code k h)) : HInv code out work k ts := by
  refine ⟨hI.len, hI.sound, hI.lo, hI.workS, fun i u hi hu => ?_, hI.start⟩
  rcases hI.closed i u hi hu with g | ⟨g1, g2⟩
  · exact .inl g
  · refine .inr ⟨g1, fun t' ht' => ?_⟩
    rcases g2 t' ht' with ⟨rfl, g3⟩ | g3
    · rcases List.mem_cons.1 g3 with rfl | g3
      · rw [hk] at hi; cases hi
        exact .inr ⟨ht0, htn, hv⟩
      · exact .inl ⟨rfl, g3⟩
    · exact .inr g3
theorem HInv.all {code : List Instr} {out : List Int} {k : Nat} (hI : HInv code out [] k []) {t h : Int} (ht : Ht code t h) (hn : 1 ≤ code.length) : 0 ≤ t ∧ t < (code.length : Int) ∧ out[t.toNat]? = some h ∧ 0 ≤ h := by
  induction ht with
  | zero => exact ⟨by omega, by omega, hI.start, by omega⟩
  | step hk hlt hok hm ih =>
    obtain ⟨a1, a2, a3, a4⟩ := ih
    rw [Int.toNat_natCast] at a3
    rcases hI.closed _ _ a3 a4 with g | ⟨g1, g2⟩
    · cases g
    · rcases g2 _ hm with ⟨_, g⟩ | ⟨g3, g4, g5⟩
      · cases g
      · exact ⟨g3, g4, g5, nxt_nonneg hok⟩
theorem HInv.good {code : List Instr} {out : List Int} {k : Nat} (hI : HInv code out [] k []) (hn : 1 ≤ code.length) : ¬ BadH code := by
  rintro ⟨i, h, hH, hlt, hbad⟩
  obtain ⟨a1, a2, a3, a4⟩ := hI.all hH hn
  rw [Int.toNat_natCast] at a3
  rcases hI.closed _ _ a3 a4 with g | ⟨g1, g2⟩
  · cases g
  · rcases hbad with hb | ⟨_, t, htm, hb⟩
    · exact hb g1
    · rcases g2 t htm with ⟨_, g⟩ | ⟨g3, g4, g5⟩
      · cases g
      · rcases hb with hb | ⟨h', hh, hne⟩
        · exact hb ⟨g3, g4⟩
        · obtain ⟨_, _, b3, _⟩ := hI.all hh hn
          rw [g5] at b3
          exact hne (Option.some.inj b3).symm
theorem HInv.unique {code : List Instr} {o1 o2 : List Int} {k1 k2 : Nat} (h1 : HInv code o1 [] k1 []) (h2 : HInv code o2 [] k2 []) (hn : 1 ≤ code.length) : o1 = o2 := by
  apply List.ext_getElem (by rw [h1.len, h2.len])
  intro i hi hi'
  have g1 := List.getElem?_eq_getElem hi
  have g2 := List.getElem?_eq_getElem hi'
  have l1 := h1.lo i _ g1
  have l2 := h2.lo i _ g2
  by_cases p1 : 0 ≤ o1[i]
  · have := (h2.all (h1.sound i _ g1 p1) hn).2.2.1
    rw [Int.toNat_natCast, g2] at this
    exact (Option.some.inj this).symm
  · by_cases p2 : 0 ≤ o2[i]
    · have := (h1.all (h2.sound i _ g2 p2) hn).2.2.1
      rw [Int.toNat_natCast, g1] at this
      exact Option.some.inj this
    · omega
def negs (out : List Int) : Nat := out.countP (fun v => decide (v < 0))
def msrH (out work : List Int) : Nat := 2 * negs out + work.length
theorem negs_set {out : List Int} {k : Nat} {v x : Int} (h : out[k]? = some v) (hv : v < 0) (hx : 0 ≤ x) : negs (out.set k x) + 1 = negs out := by
  unfold negs
  induction out generalizing k with
  | nil => simp at h
  | cons b bs ih =>
    cases k with
    | zero =>
      simp at h; subst h
      simp only [List.set_cons_zero, List.countP_cons, decide_eq_true_eq]
      rw [if_neg (by omega), if_pos hv]
    | succ k =>
      simp only [List.getElem?_cons_succ] at h
      simp only [List.set_cons_succ, List.countP_cons]
      have := ih h
      omega
theorem msrH_put {out work : List Int} {t v x : Int} (h : out[t.toNat]? = some v) (hv : v < 0) (hx : 0 ≤ x) : msrH (out.set t.toNat x) (work ++ [t]) + 1 = msrH out work := by
  have := negs_set h hv hx
  unfold msrH; rw [List.length_append]; simp only [List.length_singleton]; omega
theorem bad_of {code : List Instr} {out work : List Int} {k k0 : Nat} {h : Int} (hI : HInv code out work k0 []) (hk : out[k]? = some h) (h0 : 0 ≤ h) (hn : k < code.length) (ho : ¬ okAt code k h) : BadH code := ⟨k, h, hI.sound k h hk h0, hn, .inl ho⟩
theorem bad_to {code : List Instr} {out work ts : List Int} {k k0 : Nat} {h t : Int} (hI : HInv code out work k0 ts) (hk : out[k]? = some h) (h0 : 0 ≤ h) (hn : k < code.length) (ho : okAt code k h) (htm : t ∈ targF code k) (ht : ¬ (0 ≤ t ∧ t < (code.length : Int))) : BadH code :=
  ⟨k, h, hI.sound k h hk h0, hn, .inr ⟨ho, t, htm, .inl ht⟩⟩
theorem bad_two {code : List Instr} {out work ts : List Int} {k k0 : Nat} {h t v : Int} (hI : HInv code out work k0 ts) (hk : out[k]? = some h) (h0 : 0 ≤ h) (hn : k < code.length) (ho : okAt code k h) (htm : t ∈ targF code k) (ht : 0 ≤ t) (hv : out[t.toNat]? = some v) (hv0 : 0 ≤ v) (hne : v ≠ nxt code k h) : BadH code :=
  ⟨k, h, hI.sound k h hk h0, hn, .inr ⟨ho, t, htm, .inr ⟨v, by have := hI.sound _ v hv hv0; rwa [show ((t.toNat : Nat) : Int) = t by omega] at this, hne⟩⟩⟩
/-- The places behind an instruction, one after another. -/
def procT (n : Nat) (nx : Int) : List Int → List Int → List Int → Option (List Int × List Int)
  | [], out, work => some (out, work)
  | t :: ts, out, work => if decide (0 ≤ t) && decide (t < (n : Int)) then
      (match out[t.toNat]? with
        | some v => if v < 0 then procT n nx ts (out.set t.toNat nx) (work ++ [t]) else if v = nx then procT n nx ts out work else none
        | none => none)
    else none
theorem procT_spec {code : List Instr} {k : Nat} {h : Int} (hkn : k < code.length) (h0 : 0 ≤ h) (ho : okAt code k h) : ∀ (ts out work : List Int), HInv code out work k ts → out[k]? = some h → (∀ t ∈ ts, t ∈ targF code k) →
    (∃ o w, procT code.length (nxt code k h) ts out work = some (o, w) ∧ HInv code o w k [] ∧ msrH o w ≤ msrH out work) ∨ (procT code.length (nxt code k h) ts out work = none ∧ BadH code)
  | [], out, work, hI, _, _ => .inl ⟨out, work, rfl, hI, Nat.le_refl _⟩
  | t :: ts, out, work, hI, hk, hm => by
    have htm := hm t (by simp)
    unfold procT
    by_cases hb : 0 ≤ t ∧ t < (code.length : Int)
    · rw [if_pos (by simp [hb.1, hb.2])]
      have hlt : t.toNat < out.length := by rw [hI.len]; omega
      obtain ⟨v, hv⟩ : ∃ v, out[t.toNat]? = some v := ⟨_, List.getElem?_eq_getElem hlt⟩
      rw [hv]
      simp only
      by_cases hneg : v < 0
      · rw [if_pos hneg]
        have hI' := hI.put hkn hk h0 ho htm hb.1 hb.2 hv hneg
        have hne : t.toNat ≠ k := fun e => by rw [e, hk] at hv; cases hv; omega
        have hk' : (out.set t.toNat (nxt code k h))[k]? = some h := by rw [List.getElem?_set_ne hne]; exact hk
        have hms := msrH_put (work := work) hv hneg (nxt_nonneg ho)
        rcases procT_spec hkn h0 ho ts _ _ hI' hk' (fun x hx => hm x (List.mem_cons_of_mem _ hx)) with ⟨o, w, e, g1, g2⟩ | g
        · exact .inl ⟨o, w, e, g1, by omega⟩
        · exact .inr g
      · rw [if_neg hneg]
        by_cases he : v = nxt code k h
        · rw [if_pos he]
          exact procT_spec hkn h0 ho ts _ _ (hI.seen hk h0 hb.1 hb.2 (by rw [hv, he])) hk (fun x hx => hm x (List.mem_cons_of_mem _ hx))
        · rw [if_neg he]
          exact .inr ⟨rfl, bad_two hI hk h0 hkn ho htm hb.1 hv (by omega) he⟩
    · rw [if_neg (by simp; omega)]
      exact .inr ⟨rfl, bad_to hI hk h0 hkn ho htm hb⟩
def runH (code : List Instr) : Nat → List Int → List Int → Option (List Int)
  | 0, out, _ => some out
  | _ + 1, out, [] => some out
  | f + 1, out, t :: rest => match out[t.toNat]? with
    | some h => if decide (0 ≤ h - popsI (opAt code t.toNat)) && decide (nxt code t.toNat h ≤ 6) then
        (match procT code.length (nxt code t.toNat h) (targF code t.toNat) out rest with
          | some (o, w) => runH code f o w
          | none => none)
      else none
    | none => none
theorem runH_spec {code : List Instr} : ∀ (f : Nat) (out work : List Int) (k0 : Nat), HInv code out work k0 [] → msrH out work ≤ f →
    (∃ o k, runH code f out work = some o ∧ HInv code o [] k []) ∨ (runH code f out work = none ∧ BadH code)
  | 0, out, work, k0, hI, hm => by
    cases work with
    | nil => exact .inl ⟨out, k0, rfl, hI⟩
    | cons t rest => unfold msrH at hm; simp at hm
  | f + 1, out, [], k0, hI, hm => .inl ⟨out, k0, rfl, hI⟩
  | f + 1, out, t :: rest, k0, hI, hm => by
    obtain ⟨a1, a2, h, a3, a4⟩ := hI.workS t (by simp)
    obtain ⟨k, rfl⟩ := Int.eq_ofNat_of_zero_le a1
    rw [Int.toNat_natCast] at a3
    unfold runH
    rw [Int.toNat_natCast, a3]
    simp only
    by_cases ho : okAt code k h
    · rw [if_pos (by rw [decide_eq_true ho.1, decide_eq_true ho.2]; rfl)]
      have hI' := hI.pop a3 ho
      have hms : msrH out rest ≤ f := by unfold msrH at hm ⊢; simp only [List.length_cons] at hm; omega
      rcases procT_spec (by omega) a4 ho (targF code k) out rest hI' a3 (fun _ h => h) with ⟨o, w, e, g1, g2⟩ | ⟨e, g⟩
      · rw [e]
        exact runH_spec f o w k g1 (by omega)
      · rw [e]; exact .inr ⟨rfl, g⟩
    · rw [if_neg (by unfold okAt at ho; simp; omega)]
      exact .inr ⟨rfl, bad_of hI a3 a4 (by omega) ho⟩
def heightsO (code : List Instr) : Option (List Int) := runH code (2 * code.length + 1) ((List.replicate code.length (-1)).set 0 0) [0]
def heightsF (code : List Instr) : List Int × Bool := if validCode code then (match heightsO code with
  | some o => (o, true)
  | none => ([], false)) else ([], false)
theorem heights_spec {code : List Instr} (hn : 1 ≤ code.length) : (∃ o k, heightsO code = some o ∧ HInv code o [] k []) ∨ (heightsO code = none ∧ BadH code) := by
  refine runH_spec _ _ _ 0 (.begin hn) ?_
  have h1 : negs (List.replicate code.length (-1 : Int)) ≤ code.length := by
    unfold negs; exact Nat.le_trans List.countP_le_length (by simp)
  have h2 := negs_set (out := List.replicate code.length (-1 : Int)) (k := 0) (v := -1) (x := 0) (by rw [List.getElem?_replicate, if_pos (by omega)]) (by omega) (by omega)
  unfold msrH
  simp only [List.length_singleton]
  omega
theorem heights_yes {code : List Instr} (hv : validCode code = true) (hn : 1 ≤ code.length) {out : List Int} {k : Nat} (hI : HInv code out [] k []) : heightsF code = (out, true) := by
  unfold heightsF
  rw [if_pos hv]
  rcases heights_spec hn with ⟨o, k', e, g⟩ | ⟨e, g⟩
  · rw [e, g.unique hI hn]
  · exact absurd g (hI.good hn)
theorem heights_no {code : List Instr} (hv : validCode code = true) (hn : 1 ≤ code.length) (hb : BadH code) : heightsF code = ([], false) := by
  unfold heightsF
  rw [if_pos hv]
  rcases heights_spec hn with ⟨o, k', e, g⟩ | ⟨e, g⟩
  · exact absurd hb (g.good hn)
  · rw [e]
theorem heights_inv {code : List Instr} (hv : validCode code = false) : heightsF code = ([], false) := by
  unfold heightsF; rw [if_neg (by rw [hv]; simp)]
theorem heightsF_len (code : List Instr) : (heightsF code).1.length ≤ 1048576 := by
  cases hv : validCode code with
  | false => rw [heights_inv hv]; simp
  | true =>
    obtain ⟨h1, h80, _⟩ := validCode_iff hv
    unfold heightsF
    rw [if_pos hv]
    rcases heights_spec (code := code) (by omega) with ⟨o, k', e, g⟩ | ⟨e, g⟩
    · rw [e]; have := g.len; simp only; omega
    · rw [e]; simp
end Go.Proofs.YtcmopmapdomneaaDoor
end

section
namespace Go.Proofs.YtcmopmapdomneaaDoor
open Go.RowKit

/-- v is a slice of numbers in one of the blocks Bk, which nothing else reads. -/
def OwnQ (w : World) (Bk : Nat → Prop) (v : Value) (zs : List Int) : Prop :=
  ∃ (g off cap : Nat) (cur : Array Value) (e : TypeId), v = .slice (some ⟨g, off, none⟩) zs.length cap ∧ Bk g ∧ w.heap[g]? = some (.cells cur e (0, 0)) ∧ zs.length ≤ cap ∧ cap ≤ 9223372036854775807 ∧ off + cap ≤ cur.size ∧
    ∀ (i : Nat) (z : Int), zs[i]? = some z → cur[off + i]? = some (Value.int .i64 z) ∧ I64 z
theorem ownQ_lit {w : World} {Bk : Nat → Prop} {e : TypeId} {z : Int} (hb : Bk w.heap.size) (hz : I64 z) : OwnQ (w.alloc (.cells #[.int .i64 z] e)) Bk (.slice (some ⟨w.heap.size, 0, none⟩) 1 1) [z] :=
  ⟨w.heap.size, 0, 1, #[.int .i64 z], e, rfl, hb, heap_new _ _, by simp, by omega, by simp, fun i y hi => by
    match i, hi with
    | 0, hi => simp at hi; subst hi; exact ⟨rfl, hz⟩
    | i + 1, hi => simp at hi⟩
theorem ownQ_keep {w w' : World} {Bk : Nat → Prop} {v : Value} {zs : List Int} (h : OwnQ w Bk v zs) (hk : ∀ b, Bk b → b < w.heap.size → w'.heap[b]? = w.heap[b]?) : OwnQ w' Bk v zs := by
  obtain ⟨g, off, cap, cur, e, h1, h2, h3, h4⟩ := h
  exact ⟨g, off, cap, cur, e, h1, h2, by rw [hk g h2 (Array.getElem?_eq_some_iff.1 h3).1]; exact h3, h4⟩
theorem ownQ_below {w w' : World} {Bk : Nat → Prop} {n : Nat} {v : Value} {zs : List Int} (h : OwnQ w Bk v zs) (hn : w.heap.size ≤ n) (hb : Below n w w') : OwnQ w' Bk v zs := ownQ_keep h fun b _ hl => hb.block b (by omega)
theorem ownQ_head {w : World} {Bk : Nat → Prop} {v : Value} {z : Int} {zs : List Int} (h : OwnQ w Bk v (z :: zs)) :
    ∃ g off off' cap, v = .slice (some ⟨g, off, none⟩) (zs.length + 1) cap ∧ w.cell? ⟨g, off, none⟩ = some (.int .i64 z) ∧ I64 z ∧ zs.length + 1 ≤ cap ∧ cap ≤ 9223372036854775807 ∧ OwnQ w Bk (.slice (some ⟨g, off', none⟩) zs.length (cap - 1)) zs ∧ ((cap = 1 ∧ off' = off) ∨ (cap ≠ 1 ∧ off' = off + 1)) := by
  obtain ⟨g, off, cap, cur, e, rfl, h2, h3, h4, h5, h6, h7⟩ := h
  obtain ⟨c0, hz⟩ := h7 0 z rfl
  simp only [List.length_cons] at h4
  by_cases hc : cap = 1
  · refine ⟨g, off, off, cap, rfl, by rw [cell_of_row w g off cur e (0, 0) h3]; exact c0, hz, h4, h5, ⟨g, off, cap - 1, cur, e, rfl, h2, h3, by omega, by omega, by omega, fun i y hi => ?_⟩, .inl ⟨hc, rfl⟩⟩
    have := (List.getElem?_eq_some_iff.1 hi).1
    omega
  · refine ⟨g, off, off + 1, cap, rfl, by rw [cell_of_row w g off cur e (0, 0) h3]; exact c0, hz, h4, h5, ⟨g, off + 1, cap - 1, cur, e, rfl, h2, h3, by omega, by omega, by omega, fun i y hi => ?_⟩, .inr ⟨hc, rfl⟩⟩
    have := h7 (i + 1) y (by simpa using hi)
    rwa [show off + (i + 1) = off + 1 + i by omega] at this
/-- The last one. -/
theorem ownQ_last {w : World} {Bk : Nat → Prop} {v : Value} {z : Int} {zs : List Int} (h : OwnQ w Bk v (zs ++ [z])) :
    ∃ g off cap, v = .slice (some ⟨g, off, none⟩) (zs.length + 1) cap ∧ w.cell? ⟨g, off + zs.length, none⟩ = some (.int .i64 z) ∧ I64 z ∧ zs.length + 1 ≤ cap ∧ cap ≤ 9223372036854775807 ∧ OwnQ w Bk (.slice (some ⟨g, off, none⟩) zs.length cap) zs := by
  obtain ⟨g, off, cap, cur, e, rfl, h2, h3, h4, h5, h6, h7⟩ := h
  obtain ⟨c0, hz⟩ := h7 zs.length z (by simp)
  simp only [List.length_append, List.length_singleton] at h4
  refine ⟨g, off, cap, by simp, by rw [cell_of_row w g _ cur e (0, 0) h3]; exact c0, hz, h4, h5, g, off, cap, cur, e, rfl, h2, h3, by omega, h5, h6, fun i y hi => ?_⟩
  have hlt := (List.getElem?_eq_some_iff.1 hi).1
  exact h7 i y (by rw [List.getElem?_append_left hlt]; exact hi)
/-- Only blocks Bk have changed. -/
structure KeptB (Bk : Nat → Prop) (w w' : World) : Prop where
  os : w'.os = w.os
  tape : w'.tape = w.tape
  output : w'.output = w.output
  size : w.heap.size ≤ w'.heap.size
  block : ∀ k, k < w.heap.size → ¬ Bk k → w'.heap[k]? = w.heap[k]?
theorem KeptB.below {Bk : Nat → Prop} {w w' : World} {B : Nat} (h : KeptB Bk w w') (hB : ∀ b, Bk b → B ≤ b) (hs : B ≤ w.heap.size) : Below B w w' :=
  ⟨h.os, h.tape, h.output, h.size, fun k hk => h.block k (by omega) fun hb => by have := hB k hb; omega⟩
theorem setRow_at (g : Nat) : ∀ (news : List Value) (off : Nat) (w : World) (cur : Array Value) (e : TypeId), w.heap[g]? = some (.cells cur e (0, 0)) →
    ∃ cur', (w.setCells g off news).heap[g]? = some (.cells cur' e (0, 0)) ∧ cur'.size = cur.size ∧ (∀ j, j < off → cur'[j]? = cur[j]?) ∧ (∀ (j : Nat) u, news[j]? = some u → off + j < cur.size → cur'[off + j]? = some u)
  | [], off, w, cur, e, h => ⟨cur, h, rfl, fun _ _ => rfl, fun j u hj => by simp at hj⟩
  | v :: r, off, w, cur, e, h => by
    have h1 := blk_set h off v
    obtain ⟨cur', g1, g2, g3, g4⟩ := setRow_at g r (off + 1) (w.setCell ⟨g, off, none⟩ v) (cur.setIfInBounds off v) e h1
    refine ⟨cur', g1, by rw [g2]; simp, fun j hj => ?_, fun j u hj hl => ?_⟩
    · rw [g3 j (by omega), Array.getElem?_setIfInBounds, if_neg (by omega)]
    · match j, hj with
      | 0, hj =>
        simp at hj; subst hj
        rw [Nat.add_zero, g3 off (by omega), Array.getElem?_setIfInBounds, if_pos rfl]
        simp; omega
      | j + 1, hj =>
        have := g4 j u (by simpa using hj) (by simp; omega)
        rwa [show off + 1 + j = off + (j + 1) by omega] at this
theorem setCells_other {g b : Nat} (hb : b ≠ g) : ∀ (news : List Value) (off : Nat) (w : World), (w.setCells g off news).heap[b]? = w.heap[b]? ∧ (w.setCells g off news).heap.size = w.heap.size ∧ (w.setCells g off news).os = w.os ∧ (w.setCells g off news).tape = w.tape ∧ (w.setCells g off news).output = w.output
  | [], off, w => ⟨rfl, rfl, rfl, rfl, rfl⟩
  | v :: r, off, w => by
    obtain ⟨h1, h2, h3, h4, h5⟩ := setCells_other hb r (off + 1) (w.setCell ⟨g, off, none⟩ v)
    exact ⟨h1.trans (heap_setCell_ne _ _ _ hb), h2.trans (size_set _ _ _), h3, h4, h5⟩
theorem zeros_size (z : Array Value) (n : Nat) : (Builtin.zeroCells z n).size = z.size * n := by simp [Builtin.zeroCells, Nat.mul_comm]
/-- append(v, s...), s a slice of numbers. -/
theorem ownQ_append {P : Program} {t e : TypeId} (hT : SlT P t e (.int .i64 0) 1 8) {w : World} {Bk : Nat → Prop} {v : Value} {zs : List Int} (h : OwnQ w Bk v zs) {T : Nat → Prop} {a : Option Addr} {c : Nat} {bs : List Int} (hsrc : SlRd cInt T w a c bs)
    (hn : zs.length + bs.length ≤ 1099511627776) (hbase : ∀ b, w.heap.size ≤ b → Bk b) (ty : TypeId) :
    ∃ v' w', (Builtin.append_ #[t, t] ty #[v, .slice a bs.length c]).run P w = .ok v' w' ∧ OwnQ w' Bk v' (zs ++ bs) ∧ KeptB Bk w w' := by
  obtain ⟨news, g1, g2, g3, g4⟩ := hsrc.cells_all (C := cInt) (by decide)
  have hbz : ∀ (i : Nat) (z : Int), bs[i]? = some z → news[i]? = some (Value.int .i64 z) ∧ I64 z := fun i z hi => by
    obtain ⟨cs, ⟨rfl, hz⟩, hc⟩ := g4 i z hi
    have := hc 0 _ rfl
    simp only [cInt, Nat.mul_one, Nat.add_zero] at this
    exact ⟨this, hz⟩
  have hnl : news.length = bs.length := by simpa [cInt] using g1
  obtain ⟨g, off, cap, cur, e', rfl, h2, h3, h4, h5, h6, h7⟩ := h
  have hgl := (Array.getElem?_eq_some_iff.1 h3).1
  obtain ⟨ht, hi, hz, hsz, hb⟩ := hT
  cases hie : P.info? e with
  | none => simp [hie] at hi
  | some i =>
    simp only [hie, Option.map_some, Option.some.injEq, Prod.mk.injEq] at hi
    obtain ⟨hz0, hz1, hz2⟩ := hi
    cases a with
    | none =>
      have hl0 := hsrc.2.2.1 rfl
      have hle := hsrc.1
      obtain rfl : bs = [] := List.eq_nil_of_length_eq_zero (by omega)
      subst hl0
      refine ⟨.slice (some ⟨g, off, none⟩) zs.length cap, w, ?_, ⟨g, off, cap, cur, e', by simp, h2, h3, by simpa using h4, h5, h6, by simpa using h7⟩, ⟨rfl, rfl, rfl, Nat.le_refl _, fun _ _ _ => rfl⟩⟩
      simp [Builtin.append_, run_underlying ht, sizeOf, typeInfo, hie, Builtin.lenOf, Builtin.firstCells, h4, storeCells]
    | some ad =>
      by_cases hroom : zs.length + bs.length ≤ cap
      · have hcell : ∀ j, j < news.length → (w.cell? ⟨g, off + zs.length * i.size + j, none⟩).isSome = true := fun j hj => by
          rw [hz1, Nat.mul_one, cell_of_row w g _ cur e' (0, 0) h3, Array.getElem?_eq_getElem (by omega)]; rfl
        have hfrz : ∀ j, j < news.length → w.frozen? ⟨g, off + zs.length * i.size + j, none⟩ = false := fun j _ => frozen_of_row w g _ cur e' h3
        have hr := run_append_room_cells (P := P) w t ty e i ht hie g off zs.length cap ad bs.length c news (by rw [hz1]; omega) (g2 ad rfl) g3 hroom hcell hfrz
        obtain ⟨cur', k1, k2, k3, k4⟩ := setRow_at g news (off + zs.length * i.size) w cur e' h3
        rw [hz1, Nat.mul_one] at hr k1 k3 k4
        refine ⟨_, _, hr, ⟨g, off, cap, cur', e', by rw [List.length_append], h2, k1, by rw [List.length_append]; exact hroom, h5, by omega, fun j z hj => ?_⟩, ?_⟩
        · rw [List.getElem?_append] at hj
          split at hj
          · rename_i hlt
            rw [k3 (off + j) (by omega)]; exact h7 j z hj
          · rename_i hge
            obtain ⟨c1, c2⟩ := hbz _ z hj
            have hlt2 := (List.getElem?_eq_some_iff.1 hj).1
            have := k4 _ _ c1 (by omega)
            rw [show off + zs.length + (j - zs.length) = off + j by omega] at this
            exact ⟨this, c2⟩
        · obtain ⟨q1, q2, q3, q4, q5⟩ := setCells_other (g := g) (b := g + 1) (by omega) news (off + zs.length) w
          exact ⟨q3, q4, q5, Nat.le_of_eq q2.symm, fun k hk hnb => (setCells_other (b := k) (g := g) (fun e => hnb (by rw [e]; exact h2)) news _ w).1⟩
      · have holds : ∀ (j : Nat) u, (zs.map (Value.int .i64))[j]? = some u → w.cell? ((⟨g, off, none⟩ : Addr).add j) = some u := fun j u hj => by
          rw [List.getElem?_map] at hj
          cases hzj : zs[j]? with
          | none => rw [hzj] at hj; cases hj
          | some z =>
            rw [hzj] at hj
            simp at hj; subst hj
            rw [addr_add, cell_of_row w g _ cur e' (0, 0) h3]; exact (h7 j z hzj).1
        have hge := grownCap_ge w (zs.length + bs.length) cap e
        have hcm := grownCap_le_maxLen w (zs.length + bs.length) cap e (by unfold maxLen; omega)
        have hr := run_append_grow (P := P) w t ty e i (.int .i64 0) ht hie hz0 ⟨g, off, none⟩ zs.length cap (zs.map (Value.int .i64)) (by rw [hz1]; simp) holds ad bs.length c news (by rw [hz1]; omega) (g2 ad rfl) (by omega) (by omega) (growslice_fits (by omega) (by rw [hz2]; omega))
        refine ⟨_, _, hr, ⟨w.heap.size, 0, _, _, e, by rw [List.length_append], hbase _ (Nat.le_refl _), heap_alloc_new w.drew _, by rw [List.length_append]; exact hge, by unfold maxLen at hcm; exact hcm, ?_, fun j z hj => ?_⟩, ⟨rfl, rfl, rfl, by simp, fun k hk _ => Below.heap_alloc w.drew _ k (by show k < w.heap.size; omega)⟩⟩
        · simp only [Array.size_append, List.size_toArray, zeros_size, List.length_map, hnl]
          simp [Value.cells]; omega
        · rw [Nat.zero_add, Array.getElem?_append_left (by simp only [Array.size_append, List.size_toArray, List.length_map, hnl]; have := (List.getElem?_eq_some_iff.1 hj).1; rw [List.length_append] at this; omega)]
          rw [List.getElem?_append] at hj
          split at hj
          · rename_i hlt
            rw [Array.getElem?_append_left (by simpa using hlt)]
            simp [hj]; exact (h7 j z hj).2
          · rename_i hge2
            rw [Array.getElem?_append_right (by simp; omega)]
            obtain ⟨c1, c2⟩ := hbz _ z hj
            simp only [List.size_toArray, List.length_map, List.getElem?_toArray]
            exact ⟨c1, c2⟩
theorem app_q {P : Program} {ops : Array Oper} {rest : List Oper} {o : Oper} {a : Act} {Q : Exit → Act → World → Prop} (hgd : o.guard = none) (s x : Operand) (t : TypeId) {e : TypeId}
    (ho : o.op = .call { callee := .builtin .append, args := #[s, x], argTypes := #[t, t] }) (hT : SlT P t e (.int .i64 0) 1 8) {w : World} {Bk : Nat → Prop} {v : Value} {zs : List Int} {T : Nat → Prop} {ad : Option Addr} {c : Nat} {bs : List Int}
    (hs : a.eval s = v) (hx : a.eval x = .slice ad bs.length c) (hown : OwnQ w Bk v zs) (hsrc : SlRd cInt T w ad c bs) (hn : zs.length + bs.length ≤ 1099511627776) (hbase : ∀ b, w.heap.size ≤ b → Bk b)
    (h : ∀ v' w', OwnQ w' Bk v' (zs ++ bs) → KeptB Bk w w' → wpList P ops Q rest (a.put o.dst v') w') : wpList P ops Q (o :: rest) a w := by
  obtain ⟨v', w', h1, h2, h3⟩ := ownQ_append hT hown hsrc hn hbase o.type
  exact wpList_app hgd s x t ho hs hx (R := fun v' w' => OwnQ w' Bk v' (zs ++ bs) ∧ KeptB Bk w w') ⟨v', w', h1, h2, h3⟩ fun v' w' hr => h v' w' hr.1 hr.2
end Go.Proofs.YtcmopmapdomneaaDoor
end

section
namespace Go.Proofs.YtcmopmapdomneaaDoor
open Go.RowKit

theorem op_any (P : Int → Prop) (hs : ∀ op, 0 ≤ op → op ≤ 11 → P op) (ho : ∀ op, op < 0 ∨ 11 < op → P op) (op : Int) : P op := by
  by_cases h : 0 ≤ op ∧ op ≤ 11
  · exact hs op h.1 h.2
  · exact ho op (by omega)
theorem effs_out {op : Int} (h : op < 0 ∨ 11 < op) : popsI op = 0 ∧ pushI op = 0 := by
  unfold popsI pushI
  rw [if_neg (by omega), if_neg (by omega), if_neg (by omega)]; exact ⟨rfl, rfl⟩
theorem ownQ_mono {w : World} {B1 B2 : Nat → Prop} {v : Value} {zs : List Int} (h : OwnQ w B1 v zs) (hb : ∀ b, B1 b → b < w.heap.size → B2 b) : OwnQ w B2 v zs := by
  obtain ⟨g, off, cap, cur, e, h1, h2, h3, h4⟩ := h
  exact ⟨g, off, cap, cur, e, h1, hb g h2 (Array.getElem?_eq_some_iff.1 h3).1, h3, h4⟩
theorem own_some {α : Type} {C : Codec α} {S : Nat → Prop} {w : World} {base : Nat} {e : TypeId} {v : Value} {zl : List α} (h : OwnSl C S w base e v zl) (hn : 1 ≤ zl.length) : ∃ g cap, v = .slice (some ⟨g, 0, none⟩) zl.length cap ∧ base ≤ g ∧ g < w.heap.size := by
  obtain ⟨xs, hr, _⟩ := h
  rcases hr.2 with ⟨h1, h2⟩ | ⟨g, cap, cur, h1, h2, h3, _⟩
  · omega
  · exact ⟨g, cap, h1, h2, (Array.getElem?_eq_some_iff.1 h3).1⟩
theorem opAt_at {code : List Instr} {k : Nat} {x : Instr} (h : code[k]? = some x) : opAt code k = x.1 := by unfold opAt; rw [h]
/-- Heights, or that there are none. -/
def RetHt (code : List Instr) (w : World) (e : Ending) (w' : World) : Prop :=
  ∃ a cap zs ok, e = .returned (.tuple #[.slice a (zs : List Int).length cap, .bool ok]) ∧ SlRd cInt (Fresh w.heap.size w') w' a cap zs ∧ Below w.heap.size w w' ∧ ((ok = true ∧ heightsF code = (zs, true)) ∨ (ok = false ∧ heightsF code = ([], false)))
end Go.Proofs.YtcmopmapdomneaaDoor
end

section
namespace Go.Proofs.YtcmopmapdomneaaDoor
open Go.RowKit

end Go.Proofs.YtcmopmapdomneaaDoor
end

section
namespace Go.Proofs.YtcmopmapdomneaaDoor
open Go.RowKit

def pointF (ps : List Pt) (at_ : Int) : Int := match ps.findIdx? (fun p => p.1 == at_) with
  | some i => (i : Int)
  | none => -1
theorem pointF_hit {ps : List Pt} {at_ : Int} {k : Nat} {p : Pt} (hn : ∀ q ∈ ps.take k, q.1 ≠ at_) (hk : ps[k]? = some p) (hp : p.1 = at_) : pointF ps at_ = (k : Int) := by
  have hlt := (List.getElem?_eq_some_iff.1 hk).1
  have he := (List.getElem?_eq_some_iff.1 hk).2
  have : ps.findIdx? (fun p => p.1 == at_) = some k := by
    rw [List.findIdx?_eq_some_iff_getElem]
    refine ⟨hlt, by rw [he]; simpa using hp, fun j hj => ?_⟩
    have h9 := hn ps[j] (List.mem_take_iff_getElem.2 ⟨j, by omega, rfl⟩)
    simpa using h9
  unfold pointF; rw [this]
theorem pointF_miss {ps : List Pt} {at_ : Int} (hn : ∀ q ∈ ps, q.1 ≠ at_) : pointF ps at_ = -1 := by
  have : ps.findIdx? (fun p => p.1 == at_) = none := by
    rw [List.findIdx?_eq_none_iff]; intro x hx; simpa using hn x hx
  unfold pointF; rw [this]
theorem pointF_cases (ps : List Pt) (at_ : Int) : (∃ k p, pointF ps at_ = ((k : Nat) : Int) ∧ ps[k]? = some p ∧ p.1 = at_) ∨ (pointF ps at_ = -1 ∧ ∀ q ∈ ps, q.1 ≠ at_) := by
  cases h : ps.findIdx? (fun p => p.1 == at_) with
  | none =>
    refine .inr ⟨by unfold pointF; rw [h], fun q hq => ?_⟩
    have := (List.findIdx?_eq_none_iff.1 h) q hq
    simpa using this
  | some i =>
    obtain ⟨h1, h2, _⟩ := List.findIdx?_eq_some_iff_getElem.1 h
    exact .inl ⟨i, ps[i], by unfold pointF; rw [h], List.getElem?_eq_getElem h1, by simpa using h2⟩
def nextI (k : Nat) (x : Instr) : List Int := if x.1 = 11 then [] else if x.1 = 5 then [x.2] else if x.1 = 6 then [(k : Int) + 1, x.2] else [(k : Int) + 1]
def nextL (code : List Instr) (k : Nat) : List Int := match code[k]? with
  | some x => nextI k x
  | none => []
theorem nextL_at {code : List Instr} {k : Nat} {x : Instr} (h : code[k]? = some x) : nextL code k = nextI k x := by unfold nextL; rw [h]
theorem nextL_mem {code : List Instr} {k : Nat} {t : Int} : t ∈ nextL code k ↔ t ∈ targF code k := by
  unfold nextL targF
  cases code[k]? with
  | none => rfl
  | some x =>
    simp only
    unfold nextI targI
    split
    · rfl
    · split
      · rfl
      · split
        · rw [mem_putL]; simp; exact Or.comm
        · rfl
theorem nextL_len (code : List Instr) (k : Nat) : (nextL code k).length ≤ 2 := by
  unfold nextL
  split
  · unfold nextI; split
    · simp
    · split
      · simp
      · split <;> simp
  · simp
/-- Annotated code in a block g: its code and its points, all below block N. -/
structure An2 (N : Nat) (w : World) (g : Nat) (a2 : Option Addr) (p2 : Nat) (d2 : List Instr) (a3 : Option Addr) (p3 : Nat) (d3 : List Pt) : Prop where
  lt : g < N
  le : N ≤ w.heap.size
  c2 : w.cell? ⟨g, 2, none⟩ = some (.slice a2 d2.length p2)
  c3 : w.cell? ⟨g, 3, none⟩ = some (.slice a3 d3.length p3)
  code : SlRd cInstr (fun b => b < N) w a2 p2 d2
  pts : SlRd cPoint (fun b => b < N) w a3 p3 d3
theorem An2.on {N : Nat} {w w' : World} {g : Nat} {a2 : Option Addr} {p2 : Nat} {d2 : List Instr} {a3 : Option Addr} {p3 : Nat} {d3 : List Pt} (h : An2 N w g a2 p2 d2 a3 p3 d3) (hb : Below N w w') : An2 N w' g a2 p2 d2 a3 p3 d3 :=
  ⟨h.lt, Nat.le_trans h.le hb.size, (hb.cell (p := ⟨g, 2, none⟩) h.lt).trans h.c2, (hb.cell (p := ⟨g, 3, none⟩) h.lt).trans h.c3,
    h.code.keep fun b hb' _ => ⟨hb', hb.block b hb'⟩, h.pts.keep fun b hb' _ => ⟨hb', hb.block b hb'⟩⟩
theorem heap_new2 (w : World) (o o' : Obj) : ((w.alloc o).alloc o').heap[w.heap.size + 1]? = some o' := by
  have := heap_new (w.alloc o) o'; rwa [World.size_alloc] at this
set_option maxRecDepth 100000 in
theorem c_l08Point {N : Nat} {g : Nat} {a2 : Option Addr} {p2 : Nat} {d2 : List Instr} {a3 : Option Addr} {p3 : Nat} {d3 : List Pt} {w : World} (h : An2 N w g a2 p2 d2 a3 p3 d3) (at_ : Int) :
    Calls Tryd.prog 41 #[.pointer (some ⟨g, 0, none⟩), .int .i64 at_] w fun e w' => e = .returned (.int .i64 (pointF d3 at_)) ∧ Below w.heap.size w w' := by
  have H := hid h
  have c3 := h.c3
  have hl := h.pts.len_le
  have glt := Nat.lt_of_lt_of_le h.lt h.le
  clear h
  go_enter Tryd.func41, Tryd.ntmps41
  go_wp2
  go_loopw [5] (fun i wr => ∃ k : Nat, k ≤ d3.length ∧ i = .int .i64 k ∧ Hid (∀ q ∈ d3.take k, q.1 ≠ at_) ∧ Hid (Below w.heap.size w wr)) (fun i _ => d3.length - (intOf i).toNat)
  case atStart => exact ⟨0, Nat.zero_le _, rfl, by unfold Hid; simp, Below.refl _ _⟩
  case round =>
    obtain ⟨k, hk, rfl, HK, HB⟩ := hrel
    have cr := cell_below HB.out glt c3
    by_cases hlt : k < d3.length
    · obtain ⟨b, off, rfl⟩ := H.out.pts.some_of hlt
      obtain ⟨x, a', cap', ts, hz, hx1, hsl, hc, hc', hb⟩ := (H.out.on (HB.out.mono H.out.le)).pts.pt_at k hlt
      have i0 : (0 : Int) ≤ (k : Int) := by omega
      have i1 : (k : Int) < (d3.length : Int) := by omega
      have e1 : decide ((k : Int) < (d3.length : Int)) = true := decide_eq_true i1
      by_cases hxa : x = at_
      · have e2 : (x == at_) = true := by simp [hxa]
        have HF := hid (pointF_hit HK.out hz hxa)
        clear hz hsl hxa
        go_wp2
        go_ret
        rw [HF.out]
        exact ⟨rfl, HB.out⟩
      · have e2 : (x == at_) = false := by simp [hxa]
        have HK2 : Hid (∀ q ∈ d3.take (k + 1), q.1 ≠ at_) := by
          intro q hq
          rw [List.take_add_one, hz] at hq
          rcases List.mem_append.1 hq with h1 | h1
          · exact HK.out q h1
          · simp at h1; rw [h1]; exact hxa
        clear hz hsl hxa
        go_wp2
        go_roundw
        case rel => exact ⟨k + 1, by omega, by go_num, HK2, HB⟩
        case measure => simp [intOf]; omega
    · have e1 : decide ((k : Int) < (d3.length : Int)) = false := by simp; omega
      have HF := hid (pointF_miss (ps := d3) (at_ := at_) fun q hq => HK.out q (by rw [List.take_of_length_le (by omega)]; exact hq))
      go_wp2
      go_ret
      rw [HF.out]
      exact ⟨rfl, HB.out⟩
end Go.Proofs.YtcmopmapdomneaaDoor
end

section
namespace Go.Proofs.YtcmopmapdomneaaDoor
open Go.RowKit

def ptsFlat (ps : List Pt) (out : List Int) : Bool := ps.all fun p => match out[p.1.toNat]? with
  | some h => decide (¬ 0 < h)
  | none => true
def annO (code : List Instr) (ps : List Pt) : List Int × Bool := if (heightsF code).2 = true ∧ ptsFlat ps (heightsF code).1 = true then heightsF code else ([], false)
theorem annO_no {code : List Instr} {ps : List Pt} (h : heightsF code = ([], false)) : annO code ps = ([], false) := by
  unfold annO; rw [h, if_neg (by simp)]
def PInv (ps : List Pt) (out work : List Int) : Prop := ∀ (k : Nat) (h : Int), out[k]? = some h → 0 ≤ h → (k : Int) ∈ work ∨ ((∃ p ∈ ps, p.1 = (k : Int)) → h = 0)
theorem PInv.begin (ps : List Pt) (n : Nat) : PInv ps ((List.replicate n (-1)).set 0 0) [0] := fun k h hk h0 => by
  by_cases e : k = 0
  · subst e; exact .inl (by simp)
  · rw [List.getElem?_set_ne (fun h => e h.symm), List.getElem?_replicate] at hk
    split at hk
    · simp at hk; omega
    · cases hk
theorem PInv.pop {ps : List Pt} {out work : List Int} {k : Nat} {h : Int} (hI : PInv ps out ((k : Int) :: work)) (hk : out[k]? = some h) (hp : (∃ p ∈ ps, p.1 = (k : Int)) → h = 0) : PInv ps out work := fun i v hi hv => by
  rcases hI i v hi hv with g | g
  · rcases List.mem_cons.1 g with g | g
    · have : i = k := by omega
      subst this
      rw [hk] at hi; cases hi
      exact .inr hp
    · exact .inl g
  · exact .inr g
theorem PInv.put {ps : List Pt} {out work : List Int} {t : Nat} {v x : Int} (hI : PInv ps out work) (hv : out[t]? = some v) (hneg : v < 0) : PInv ps (out.set t x) (work ++ [(t : Int)]) := fun i u hi hu => by
  by_cases e : t = i
  · subst e; exact .inl (by simp)
  · rw [List.getElem?_set_ne e] at hi
    exact (hI i u hi hu).imp (fun g => List.mem_append_left _ g) id
theorem annO_yes {code : List Instr} {ps : List Pt} {out : List Int} {k : Nat} (hv : validCode code = true) (hn : 1 ≤ code.length) (hp : ∀ p ∈ ps, (0 : Int) ≤ p.1) (hI : HInv code out [] k []) (hP : PInv ps out []) : annO code ps = (out, true) := by
  have h1 := heights_yes hv hn hI
  unfold annO
  rw [h1, if_pos]
  refine ⟨rfl, ?_⟩
  unfold ptsFlat
  rw [List.all_eq_true]
  intro p hpm
  cases ho : out[p.1.toNat]? with
  | none => rfl
  | some h =>
    simp only [decide_eq_true_eq]
    intro hh
    rcases hP p.1.toNat h ho (by omega) with g | g
    · cases g
    · have := g ⟨p, hpm, by have := hp p hpm; omega⟩
      omega
theorem annO_pt {code : List Instr} {ps : List Pt} {out work ts : List Int} {k k0 : Nat} {h : Int} {p : Pt} (hv : validCode code = true) (hn : 1 ≤ code.length) (hI : HInv code out work k0 ts) (hk : out[k]? = some h) (h0 : 0 < h) (hp : p ∈ ps) (hpk : p.1 = (k : Int)) : annO code ps = ([], false) := by
  have hH := hI.sound k h hk (by omega)
  unfold annO
  rcases heights_spec hn with ⟨o, k', e, g⟩ | ⟨e, g⟩
  · have h9 := heights_yes hv hn g
    rw [h9, if_neg]
    rintro ⟨_, hf⟩
    obtain ⟨_, _, g3, _⟩ := g.all hH hn
    unfold ptsFlat at hf
    have := List.all_eq_true.1 hf p hp
    rw [hpk, g3] at this
    simp at this; omega
  · rw [heights_no hv hn g, if_neg (by simp)]
theorem HInv.sameT {code : List Instr} {out work : List Int} {k : Nat} {t1 t2 : List Int} (h : HInv code out work k t1) (he : ∀ x, x ∈ t1 ↔ x ∈ t2) : HInv code out work k t2 :=
  ⟨h.len, h.sound, h.lo, h.workS, fun i v hi hv => (h.closed i v hi hv).imp id fun g => ⟨g.1, fun t ht => (g.2 t ht).imp (fun q => ⟨q.1, (he t).1 q.2⟩) id⟩, h.start⟩
theorem SlRd.blk_at {α : Type} {C : Codec α} {S : Nat → Prop} {w : World} {b off cap : Nat} {xs : List α} (h : SlRd C S w (some ⟨b, off, none⟩) cap xs) (k : Nat) (hk : k < xs.length) : S b := by
  obtain ⟨_, _, _, _, _, hs, _⟩ := h.at k hk; exact hs
theorem cell_set_other (w : World) (p : Addr) {q : Addr} (v : Value) (h : q.block ≠ p.block) : (w.setCell p v).cell? q = w.cell? q := by
  unfold World.cell?; rw [heap_setCell_ne _ _ _ h]
theorem ownQ_at {w : World} {Bk : Nat → Prop} {v : Value} {zs : List Int} (h : OwnQ w Bk v zs) (k : Nat) (hk : k < zs.length) :
    ∃ g off cap z, v = .slice (some ⟨g, off, none⟩) zs.length cap ∧ zs[k]? = some z ∧ w.cell? ⟨g, off + k, none⟩ = some (.int .i64 z) ∧ I64 z ∧ zs.length ≤ cap ∧ cap ≤ 9223372036854775807 ∧ Bk g ∧ g < w.heap.size := by
  obtain ⟨g, off, cap, cur, e, rfl, h2, h3, h4, h5, h6, h7⟩ := h
  have hz := List.getElem?_eq_getElem hk
  obtain ⟨c0, h8⟩ := h7 k _ hz
  exact ⟨g, off, cap, _, rfl, hz, by rw [cell_of_row w g _ cur e (0, 0) h3]; exact c0, h8, h4, h5, h2, (Array.getElem?_eq_some_iff.1 h3).1⟩
theorem ownQ_sl {w : World} {Bk : Nat → Prop} {v : Value} {zs : List Int} (h : OwnQ w Bk v zs) : ∃ g off cap, v = .slice (some ⟨g, off, none⟩) zs.length cap := by
  obtain ⟨g, off, cap, _, _, rfl, _⟩ := h; exact ⟨g, off, cap, rfl⟩
end Go.Proofs.YtcmopmapdomneaaDoor
end

section
namespace Go.Proofs.YtcmopmapdomneaaDoor
open Go.RowKit

def annH (a : An) : List Int × Bool := if validAn a then annO a.2.2.1 a.2.2.2 else ([], false)
theorem heightsF_ok {code : List Instr} (hn : 1 ≤ code.length) (h : (heightsF code).2 = true) : (heightsF code).1.length = code.length := by
  rcases heights_spec hn with ⟨o, k', e, g⟩ | ⟨e, g⟩
  · unfold heightsF at h ⊢
    split
    · rw [e]; exact g.len
    · rename_i hv; rw [if_neg hv] at h; cases h
  · unfold heightsF at h
    split at h
    · rw [e] at h; cases h
    · cases h
theorem annO_len (code : List Instr) (ps : List Pt) : (annO code ps).1.length ≤ 1048576 := by
  unfold annO
  split
  · exact heightsF_len code
  · simp
theorem annH_len (a : An) : (annH a).1.length ≤ 1048576 := by
  unfold annH
  split
  · exact annO_len _ _
  · simp
theorem ptsOk_at {n : Nat} {ps : List Pt} {k m : Nat} (h : ptsOk n ps m = true) (hk : k < m) : stepOk n ps k = true := by
  unfold ptsOk at h; rw [List.all_eq_true] at h; exact h k (by simpa using hk)
theorem validAn_iff {d0 d1 : List Term} {d2 : List Instr} {d3 : List Pt} (h : validAn (d0, d1, d2, d3) = true) : validCode d2 = true ∧ areOverF d0 6 = true ∧ areOverF d1 6 = true ∧ d3.length ≤ 8 ∧ ∀ p ∈ d3, (0 ≤ p.1 ∧ p.1 < (d2.length : Int)) ∧ areOverF p.2 6 = true := by
  unfold validAn headOk at h
  simp only [Bool.and_eq_true, decide_eq_true_eq] at h
  obtain ⟨⟨⟨⟨h1, h2⟩, h3⟩, h4⟩, h5⟩ := h
  refine ⟨h1, h2, h3, h4, fun p hp => ?_⟩
  obtain ⟨k, hk, he⟩ := List.mem_iff_getElem.1 hp
  have h6 := ptsOk_at h5 hk
  unfold stepOk at h6
  rw [List.getElem?_eq_getElem hk, he] at h6
  simp only [Bool.and_eq_true] at h6
  have h7 := inB_iff.1 h6.1.2
  exact ⟨⟨h7.1, by omega⟩, h6.1.1⟩
theorem An2.boxed {S : Nat → Prop} {w : World} {a0 : Option Addr} {p0 : Nat} {d0 : List Term} {a1 : Option Addr} {p1 : Nat} {d1 : List Term} {a2 : Option Addr} {p2 : Nat} {d2 : List Instr} {a3 : Option Addr} {p3 : Nat} {d3 : List Pt} {T : TypeId} (h2 : SlRd cInstr S w a2 p2 d2) (h3 : SlRd cPoint S w a3 p3 d3) :
    An2 (w.heap.size + 1) (w.alloc (.cells #[.slice a0 d0.length p0, .slice a1 d1.length p1, .slice a2 d2.length p2, .slice a3 d3.length p3] T)) w.heap.size a2 p2 d2 a3 p3 d3 :=
  ⟨Nat.lt_succ_self _, by simp, by simp [go_sem], by simp [go_sem],
    (h2.keep (S' := fun b => b < w.heap.size + 1) (w' := w) fun b _ hl => ⟨by omega, rfl⟩).alloc _, (h3.keep (S' := fun b => b < w.heap.size + 1) (w' := w) fun b _ hl => ⟨by omega, rfl⟩).alloc _⟩
end Go.Proofs.YtcmopmapdomneaaDoor
end

section
namespace Go.Proofs.YtcmopmapdomneaaDoor
open Go.RowKit

def ptT (ps : List Pt) (k : Nat) : List (List UInt8) := if 0 ≤ pointF ps k then [112, 111, 105, 110, 116] :: factT [97, 116] (ps.getD (pointF ps k).toNat (0, [])).2 else []
def codeT (code : List Instr) (ps : List Pt) : Nat → List (List UInt8)
  | 0 => []
  | k + 1 => codeT code ps k ++ (ptT ps k ++ [lineF (code.getD k (0, 0))])
def annT (a : An) : List (List UInt8) := (factT [112, 114, 101] a.1 ++ factT [112, 111, 115, 116] a.2.1) ++ codeT a.2.2.1 a.2.2.2 a.2.2.1.length
def annTextF (a : An) : List UInt8 × Bool := if validAn a then (nlF (annT a), true) else ([], false)
theorem point_at {ps : List Pt} {k : Nat} (h : 0 ≤ pointF ps k) : ∃ (j : Nat) (p : Pt), pointF ps k = (j : Int) ∧ ps[j]? = some p := by
  rcases pointF_cases ps k with ⟨j, p, h1, h2, _⟩ | ⟨h1, _⟩
  · exact ⟨j, p, h1, h2⟩
  · rw [h1] at h; omega
theorem ptT_bounds {ps : List Pt} (hp : ∀ p ∈ ps, areOverF p.2 6 = true) (k : Nat) : (∀ l ∈ ptT ps k, l.length ≤ 262) ∧ (ptT ps k).length ≤ 7 := by
  unfold ptT
  by_cases h : 0 ≤ pointF ps k
  · rw [if_pos h]
    obtain ⟨j, p, h1, h2⟩ := point_at h
    have hj : (ps.getD (pointF ps k).toNat (0, [])) = p := by rw [h1, Int.toNat_natCast, List.getD_eq_getElem?_getD, h2]; rfl
    rw [hj]
    have hv := hp p (List.mem_of_getElem? h2)
    have h6 := over_len hv
    refine ⟨fun l hl => ?_, by rw [List.length_cons, factT_len]; omega⟩
    rcases List.mem_cons.1 hl with rfl | hl
    · decide
    · exact factT_line (by decide) hv l hl
  · rw [if_neg h]; exact ⟨fun l hl => by simp at hl, by simp⟩
theorem codeT_bounds {code : List Instr} {ps : List Pt} (hc : ∀ x ∈ code, I64 x.2) (hp : ∀ p ∈ ps, areOverF p.2 6 = true) : ∀ k, (∀ l ∈ codeT code ps k, l.length ≤ 262) ∧ (codeT code ps k).length ≤ 8 * k
  | 0 => ⟨fun l hl => by simp [codeT] at hl, by simp [codeT]⟩
  | k + 1 => by
    obtain ⟨h1, h2⟩ := codeT_bounds hc hp k
    obtain ⟨h3, h4⟩ := ptT_bounds hp k
    have h5 : (lineF (code.getD k (0, 0))).length ≤ 27 := by
      rw [List.getD_eq_getElem?_getD]
      cases hx : code[k]? with
      | none => exact lineF_len _ i64_0
      | some x => exact lineF_len _ (hc x (List.mem_of_getElem? hx))
    unfold codeT
    refine ⟨fun l hl => ?_, by simp only [List.length_append, List.length_cons, List.length_nil]; omega⟩
    rcases List.mem_append.1 hl with hl | hl
    · exact h1 l hl
    · rcases List.mem_append.1 hl with hl | hl
      · exact h3 l hl
      · rw [List.mem_singleton.1 hl]; omega
def headT (d0 d1 : List Term) : List (List UInt8) := factT [112, 114, 101] d0 ++ factT [112, 111, 115, 116] d1
theorem ann_bounds {d0 d1 : List Term} {d2 : List Instr} {d3 : List Pt} (h : validAn (d0, d1, d2, d3) = true) (k : Nat) (hk : k ≤ d2.length) :
    (∀ l ∈ headT d0 d1 ++ codeT d2 d3 k, l.length ≤ 262) ∧ (headT d0 d1 ++ codeT d2 d3 k).length ≤ 700 ∧ (nlF (headT d0 d1 ++ codeT d2 d3 k)).length ≤ 200000 ∧ d2.length ≤ 80 ∧ (∀ x ∈ d2, validI x = true) ∧ areOverF d0 6 = true ∧ areOverF d1 6 = true ∧ d3.length ≤ 8 ∧ ∀ p ∈ d3, areOverF p.2 6 = true := by
  obtain ⟨v2, v0, v1, v3, vp⟩ := validAn_iff h
  obtain ⟨_, x80, vx⟩ := validCode_iff v2
  obtain ⟨c1, c2⟩ := codeT_bounds (fun x hx => (validI_i64 (vx x hx)).2) (fun p hp => (vp p hp).2) k
  have o0 := over_len v0
  have o1 := over_len v1
  have g1 : ∀ l ∈ headT d0 d1 ++ codeT d2 d3 k, l.length ≤ 262 := by
    intro l hl
    rcases List.mem_append.1 hl with hl | hl
    · rcases List.mem_append.1 hl with hl | hl
      · exact factT_line (by decide) v0 l hl
      · exact factT_line (by decide) v1 l hl
    · exact c1 l hl
  have g2 : (headT d0 d1 ++ codeT d2 d3 k).length ≤ 700 := by
    unfold headT
    rw [List.length_append, List.length_append, factT_len, factT_len]; omega
  exact ⟨g1, g2, by have := nlF_le_len g1 g2; omega, x80, vx, v0, v1, v3, fun p hp => (vp p hp).2⟩
theorem ptT_none {ps : List Pt} {k : Nat} (h : pointF ps k < 0) : ptT ps k = [] := by unfold ptT; rw [if_neg (by omega)]
theorem ptT_some {ps : List Pt} {k j : Nat} {p : Pt} (h1 : pointF ps k = (j : Int)) (h2 : ps[j]? = some p) : ptT ps k = [112, 111, 105, 110, 116] :: factT [97, 116] p.2 := by
  unfold ptT
  rw [if_pos (by omega), h1, Int.toNat_natCast, List.getD_eq_getElem?_getD, h2]; rfl
theorem codeT_succ {code : List Instr} {ps : List Pt} {k : Nat} {x : Instr} (h : code[k]? = some x) : codeT code ps (k + 1) = codeT code ps k ++ (ptT ps k ++ [lineF x]) := by
  show codeT code ps k ++ (ptT ps k ++ [lineF (code.getD k (0, 0))]) = _
  rw [List.getD_eq_getElem?_getD, h]; rfl
theorem nlF_cons (z : List UInt8) (zs : List (List UInt8)) : nlF (z :: zs) = (z ++ [10]) ++ nlF zs := by simp [nlF]
theorem nlF_one' (z : List UInt8) : nlF [z] = z ++ [10] := by simp [nlF]
set_option maxRecDepth 100000 in
theorem c_l08Given {S : Nat → Prop} {wd : List UInt8} {a : Option Addr} {p : Nat} {ts : List Term} {w : World} (h : SlRd cTerm S w a p ts) (hw : wd.length ≤ 8) (hv : areOverF ts 6 = true) :
    Calls Tryd.prog 40 #[.string ⟨wd.toArray⟩, .slice a ts.length p] w fun e w' => e = .returned (strOf (nlF (factT wd ts))) ∧ Below w.heap.size w w' := by
  have hn6 := over_len hv
  have H := hid h
  have HV := hid (areOverF_iff hv)
  have ew := badd wd [32]
  obtain ⟨V, hV⟩ : ∃ V, wd ++ [32] = V := ⟨_, rfl⟩
  have hVl : V.length ≤ 9 := by rw [← hV]; simp; omega
  rw [hV] at ew
  have HV9 := hid hV
  have nw : ¬ 9223372036854775807 < wd.length + 1 := by omega
  clear hV
  clear h hv
  go_enter Tryd.func40, Tryd.ntmps40
  go_wp2
  go_loopw [5, 6] (fun u i wr => ∃ (k : Nat) (l : List UInt8), k ≤ ts.length ∧ i = .int .i64 k ∧ u = .string ⟨l.toArray⟩ ∧ l.length ≤ 263 * k ∧ Hid (l = nlF (factT wd (ts.take k))) ∧ Hid (Below w.heap.size w wr)) (fun _ i _ => ts.length - (intOf i).toNat)
  case atStart => exact ⟨0, [], Nat.zero_le _, rfl, rfl, by simp, rfl, Below.refl _ _⟩
  case round =>
    obtain ⟨k, l, hk, rfl, rfl, hll, HL, HBR⟩ := hrel
    have hsz := HBR.out.size
    by_cases hlt : k < ts.length
    · obtain ⟨b, off, rfl⟩ := H.out.some_of hlt
      obtain ⟨c, zs, a', cap', hz, hc1, hsl, hc, hc', hb⟩ := (H.out.below (Nat.le_refl _) HBR.out).term_at k hlt
      have hvt := (HV.out _ (List.mem_of_getElem? hz)).1
      have hll2 := textF_len hvt
      have HN := hid (factT_take (wd := wd) hz)
      have HC := hid (c_l02Text hc hc' hb hsl hvt)
      obtain ⟨Z, hZ⟩ : ∃ Z, textF (c, zs) = Z := ⟨_, rfl⟩
      rw [HV9.out] at HN
      rw [hZ] at HC HN hll2
      have i0 : (0 : Int) ≤ (k : Int) := by omega
      have i1 : (k : Int) < (ts.length : Int) := by omega
      have e1 := badd V Z
      obtain ⟨Y2, hY2⟩ : ∃ Y, V ++ Z = Y := ⟨_, rfl⟩
      have hl2 : Y2.length = V.length + Z.length := by rw [← hY2]; simp
      have e2 := badd Y2 [10]
      obtain ⟨Y3, hY3⟩ : ∃ Y, Y2 ++ [10] = Y := ⟨_, rfl⟩
      have hl3 : Y3.length = Y2.length + 1 := by rw [← hY3]; simp
      have e3 := badd l Y3
      have hl4 : Y3.length ≤ 263 := by omega
      have hl5 : Y2.length ≤ 263 := by omega
      rw [hY2] at e1 HN
      rw [hY3] at e2
      have hn : (l ++ Y3).length ≤ 263 * (k + 1) := by simp; omega
      have HLN : Hid (l ++ Y3 = nlF (factT wd (ts.take (k + 1)))) := by unfold Hid; rw [HN.out, nlF_snoc, ← HL.out, hY3]
      have n2 : ¬ 9223372036854775807 < V.length + Z.length := by omega
      have n3 : ¬ 9223372036854775807 < Y2.length + 1 := by omega
      have n4 : ¬ 9223372036854775807 < l.length + Y3.length := by omega
      clear hY2 hY3 hl2 hl3
      clear hz hvt hZ hsl hc hc'
      go_wp2_with (go_at_call 70; refine HC.out.mono ?_; rintro e w2 ⟨rfl, hb2⟩; have HB2 := hid (bel_next HBR.out hsz hb2); clear hb2; unfold strOf)
      go_roundw
      case rel => exact ⟨k + 1, _, by omega, by go_num, rfl, hn, HLN, HB2⟩
      case measure => simp [intOf]; omega
    · have HK : Hid (ts.take k = ts) := List.take_of_length_le (by omega)
      rw [HK.out] at HL
      have e1 : decide ((k : Int) < (ts.length : Int)) = false := decide_eq_false (by omega)
      go_wp2
      go_ret
      rw [← HL.out]
      exact ⟨rfl, HBR.out⟩
set_option maxHeartbeats 2000000 in
set_option maxRecDepth 100000 in
theorem c_l08Text {S : Nat → Prop} {g : Nat} {a0 : Option Addr} {p0 : Nat} {d0 : List Term} {a1 : Option Addr} {p1 : Nat} {d1 : List Term} {a2 : Option Addr} {p2 : Nat} {d2 : List Instr} {a3 : Option Addr} {p3 : Nat} {d3 : List Pt} {w : World} (h0 : SlRd cTerm S w a0 p0 d0) (h1 : SlRd cTerm S w a1 p1 d1) (hA : An2 w.heap.size w g a2 p2 d2 a3 p3 d3)
    (t0 : w.cell? ⟨g, 0, none⟩ = some (.slice a0 d0.length p0)) (t1 : w.cell? ⟨g, 1, none⟩ = some (.slice a1 d1.length p1)) (hv : validAn (d0, d1, d2, d3) = true) :
    Calls Tryd.prog 19 #[.pointer (some ⟨g, 0, none⟩)] w fun e w' => e = .returned (strOf (nlF (annT (d0, d1, d2, d3)))) ∧ Below w.heap.size w w' := by
  obtain ⟨_, _, _, x80, vx, v0, v1, l8, vp⟩ := ann_bounds hv 0 (Nat.zero_le _)
  have HVA := hid hv
  have HVX := hid vx
  have HVP := hid vp
  have hgl := hA.lt
  have HA := hid hA
  have HC1 := hid (fun (w' : World) (hb : Below w.heap.size w w') => c_l08Given (wd := [112, 114, 101]) (h0.below (Nat.le_refl _) hb) (by decide) v0)
  have HC2 := hid (fun (w' : World) (hb : Below w.heap.size w w') => c_l08Given (wd := [112, 111, 115, 116]) (h1.below (Nat.le_refl _) hb) (by decide) v1)
  have b1 := (factT_bounds2 (wd := [112, 114, 101]) (by decide) v0)
  have b2 := (factT_bounds2 (wd := [112, 111, 115, 116]) (by decide) v1)
  have HHD : Hid (nlF (headT d0 d1) = nlF (factT [112, 114, 101] d0) ++ nlF (factT [112, 111, 115, 116] d1)) := nlF_append _ _
  obtain ⟨P0, hP0⟩ : ∃ P, nlF (factT [112, 114, 101] d0) = P := ⟨_, rfl⟩
  obtain ⟨P1, hP1⟩ : ∃ P, nlF (factT [112, 111, 115, 116] d1) = P := ⟨_, rfl⟩
  rw [hP0, hP1] at HHD
  rw [hP0] at HC1 b1
  rw [hP1] at HC2 b2
  have e1 := badd P0 P1
  have n1 : ¬ 9223372036854775807 < P0.length + P1.length := by omega
  have HG : Hid True := trivial
  clear hP0 hP1 h0 h1 hA hv vx vp
  go_enter Tryd.func19, Tryd.ntmps19
  go_wp2
  go_region_held3 (fun w' => w'.cell? ⟨g, 0, none⟩ = some (.slice a0 d0.length p0) ∧ w'.cell? ⟨g, 1, none⟩ = some (.slice a1 d1.length p1)) (first | exact ⟨t0, t1⟩ | exact kk1 | exact kk2) (first | (have hq := HG.out; clear hq HG; go_at_call 40; refine (HC1.out _ (below_drewN _ _ 1)).mono ?_; rintro e w2 ⟨rfl, hb2⟩; unfold strOf; have HB2 := hid ((below_drewN _ w 1).trans hb2); have kk1 := And.intro (cell_below HB2.out hgl t0) (cell_below HB2.out hgl t1); clear hb2) | (go_at_call 40; refine (HC2.out _ HB2.out).mono ?_; rintro e w3 ⟨rfl, hb3⟩; unfold strOf; have HB3 := hid (bel_next HB2.out HB2.out.size hb3); have kk2 := And.intro (cell_below HB3.out hgl t0) (cell_below HB3.out hgl t1); clear hb3))
  have hPL : (P0 ++ P1).length ≤ 200000 := by simp; omega
  generalize P0 ++ P1 = PP at *
  clear kk1 kk2 t0 t1 n1
  go_wp2
  go_loopw [3, 4] (fun u i wr => ∃ (k : Nat) (l : List UInt8), k ≤ d2.length ∧ i = .int .i64 k ∧ u = .string ⟨l.toArray⟩ ∧ l.length ≤ 200000 ∧ Hid (l = nlF (headT d0 d1 ++ codeT d2 d3 k)) ∧ Hid (Below w.heap.size w wr)) (fun _ i _ => d2.length - (intOf i).toNat)
  case atStart => exact ⟨0, PP, Nat.zero_le _, rfl, rfl, hPL, by unfold Hid; rw [← HHD.out]; simp [codeT], HB3⟩
  case round =>
    obtain ⟨k, l, hk, rfl, rfl, hll, HL, HBR⟩ := hrel
    have HAR := HA.out.on HBR.out
    have r2 := HAR.c2
    have HPC := hid (c_l08Point HAR (k : Int))
    by_cases hlt : k < d2.length
    · obtain ⟨_, _, hnl, _⟩ := ann_bounds HVA.out (k + 1) hlt
      have e1 : decide ((k : Int) < (d2.length : Int)) = true := decide_eq_true (by omega)
      have i0 : (0 : Int) ≤ (k : Int) := by omega
      have i1 : (k : Int) < (d2.length : Int) := by omega
      clear HAR
      go_wp2_with fail
      refine HPC.out.mono ?_
      rintro e w2 ⟨rfl, hb2⟩
      have HB2 := hid (bel_next HBR.out HBR.out.size hb2)
      clear hb2 r2
      have HA2 := HA.out.on HB2.out
      have m2 := HA2.c2
      have m3 := HA2.c3
      have glt2 := Nat.lt_of_lt_of_le hgl HB2.out.size
      obtain ⟨bc, oc, rfl⟩ := HA2.code.some_of hlt
      obtain ⟨op, arg, hz, hi1, hi2, hc, hc', hb⟩ := HA2.code.instr_at k hlt
      have hm := HVX.out _ (List.mem_of_getElem? hz)
      obtain ⟨h0, h1⟩ := validI_op hm
      simp only at h0 h1
      have HLC := hid (fun (w' : World) => c_l07Line op arg w' h0 h1 hi2)
      have hlen := lineF_len (op, arg) hi2
      have HN : Hid (nlF (headT d0 d1 ++ codeT d2 d3 (k + 1)) = l ++ nlF (ptT d3 k ++ [lineF (op, arg)])) := by unfold Hid; rw [codeT_succ hz, ← List.append_assoc, nlF_append, ← HL.out]
      obtain ⟨LN, hLN⟩ : ∃ L, lineF (op, arg) = L := ⟨_, rfl⟩
      rw [hLN] at HLC hlen HN
      have e5 := badd LN [10]
      have n5 : ¬ 9223372036854775807 < LN.length + 1 := by omega
      clear hm hLN
      by_cases hp : 0 ≤ pointF d3 k
      · obtain ⟨j, p, hpj, hj⟩ := point_at hp
        have hjl := (List.getElem?_eq_some_iff.1 hj).1
        obtain ⟨bp, ob, rfl⟩ := HA2.pts.some_of hjl
        obtain ⟨x, a', cap', fs, hz', hx1, hsl, hcp, hcp', hbp⟩ := HA2.pts.pt_at j hjl
        have hmp := HVP.out _ (List.mem_of_getElem? hz')
        have hpt := ptT_some hpj hz'
        have hb9 := factT_bounds2 (wd := [97, 116]) (by decide) hmp
        have HCG := hid (c_l08Given (wd := [97, 116]) hsl (by decide) hmp)
        rw [hpj]
        simp only at hpt hb9 HCG
        rw [hpt] at HN
        obtain ⟨FT, hFT⟩ : ∃ F, nlF (factT [97, 116] fs) = F := ⟨_, rfl⟩
        have HN2 : Hid (nlF (headT d0 d1 ++ codeT d2 d3 (k + 1)) = (l ++ ([112, 111, 105, 110, 116, 10] ++ FT)) ++ (LN ++ [10])) := by unfold Hid; rw [HN.out, List.cons_append, nlF_cons, nlF_append, nlF_one', hFT]; simp
        rw [hFT] at HCG hb9
        rw [HN2.out] at hnl
        have e2 : decide ((0 : Int) ≤ (j : Int)) = true := decide_eq_true (by omega)
        have e3 := badd [112, 111, 105, 110, 116, 10] FT
        have hY : ([112, 111, 105, 110, 116, 10] ++ FT).length = FT.length + 6 := by simp
        obtain ⟨Y, hYe⟩ : ∃ Y, [112, 111, 105, 110, 116, 10] ++ FT = Y := ⟨_, rfl⟩
        rw [hYe] at e3 hY hnl HN2
        have e4 := badd l Y
        have hX : (l ++ Y).length = l.length + Y.length := by simp
        obtain ⟨X, hXe⟩ : ∃ X, l ++ Y = X := ⟨_, rfl⟩
        rw [hXe] at e4 hX hnl HN2
        have e6 := badd X (LN ++ [10])
        have n3 : ¬ 9223372036854775807 < 6 + FT.length := by omega
        have n4 : ¬ 9223372036854775807 < l.length + Y.length := by omega
        have n6 : ¬ 9223372036854775807 < X.length + (LN.length + 1) := by omega
        have j0 : (0 : Int) ≤ (j : Int) := by omega
        have j1 : (j : Int) < (d3.length : Int) := by omega
        clear hp hpj hj hz hz' hmp hpt hFT hsl hYe hXe HN HA2
        go_wp2_with fail
        refine HCG.out.mono ?_
        rintro e w3 ⟨rfl, hb3⟩
        unfold strOf
        have q2 := cell_below hb3 glt2 m2
        have qc := cell_below hb3 hb hc
        have qc' := cell_below hb3 hb hc'
        have HB3 := hid (bel_next HB2.out HB2.out.size hb3)
        clear hb3
        go_wp2_with (go_at_call 42; refine (HLC.out _).mono ?_; rintro e w4 ⟨rfl, hb4⟩; have HB4 := hid (bel_next HB3.out HB3.out.size hb4); clear hb4; unfold strOf)
        go_roundw
        case rel => exact ⟨k + 1, X ++ (LN ++ [10]), by omega, by go_num, rfl, hnl, HN2.out.symm, HB4⟩
        case measure => simp [intOf]; omega
      · rcases pointF_cases d3 k with ⟨j, p, h9, _, _⟩ | ⟨hpn, _⟩
        · exfalso; apply hp; rw [h9]; omega
        have HN2 : Hid (nlF (headT d0 d1 ++ codeT d2 d3 (k + 1)) = l ++ (LN ++ [10])) := by unfold Hid; rw [HN.out, ptT_none (by rw [hpn]; decide), List.nil_append, nlF_one']
        rw [HN2.out] at hnl
        have e6 := badd l (LN ++ [10])
        have n6 : ¬ 9223372036854775807 < l.length + (LN.length + 1) := by omega
        rw [hpn]
        clear hp hpn hz HN HA2
        go_wp2_with (go_at_call 42; refine (HLC.out _).mono ?_; rintro e w4 ⟨rfl, hb4⟩; have HB4 := hid (bel_next HB2.out HB2.out.size hb4); clear hb4; unfold strOf)
        go_roundw
        case rel => exact ⟨k + 1, l ++ (LN ++ [10]), by omega, by go_num, rfl, hnl, HN2.out.symm, HB4⟩
        case measure => simp [intOf]; omega
    · have hkk : k = d2.length := by omega
      have HK : Hid (l = nlF (annT (d0, d1, d2, d3))) := by rw [hkk] at HL; exact HL
      have e1 : decide ((k : Int) < (d2.length : Int)) = false := decide_eq_false (by omega)
      clear hkk HPC HAR
      go_wp2
      go_ret
      rw [← HK.out]
      exact ⟨rfl, HBR.out⟩
theorem An2.top {N : Nat} {w : World} {g : Nat} {a2 : Option Addr} {p2 : Nat} {d2 : List Instr} {a3 : Option Addr} {p3 : Nat} {d3 : List Pt} (h : An2 N w g a2 p2 d2 a3 p3 d3) : An2 w.heap.size w g a2 p2 d2 a3 p3 d3 :=
  ⟨Nat.lt_of_lt_of_le h.lt h.le, Nat.le_refl _, h.c2, h.c3, h.code.keep fun b hb _ => ⟨Nat.lt_of_lt_of_le hb h.le, rfl⟩, h.pts.keep fun b hb _ => ⟨Nat.lt_of_lt_of_le hb h.le, rfl⟩⟩
theorem c_sAnnotatedText {S : Nat → Prop} {a0 : Option Addr} {p0 : Nat} {d0 : List Term} {a1 : Option Addr} {p1 : Nat} {d1 : List Term} {a2 : Option Addr} {p2 : Nat} {d2 : List Instr} {a3 : Option Addr} {p3 : Nat} {d3 : List Pt} {w : World} (h0 : SlRd cTerm S w a0 p0 d0) (h1 : SlRd cTerm S w a1 p1 d1) (h2 : SlRd cInstr S w a2 p2 d2) (h3 : SlRd cPoint S w a3 p3 d3) :
    Calls Tryd.prog 6 #[.agg #[.slice a0 d0.length p0, .slice a1 d1.length p1, .slice a2 d2.length p2, .slice a3 d3.length p3]] w fun e w' => e = .returned (.tuple #[strOf (annTextF (d0, d1, d2, d3)).1, .bool (annTextF (d0, d1, d2, d3)).2]) ∧ Below w.heap.size w w' := by
  have HC := hid (c_l08Is w.heap.size (h0.alloc (.cells #[.slice a0 d0.length p0, .slice a1 d1.length p1, .slice a2 d2.length p2, .slice a3 d3.length p3] 34)) (h1.alloc _) (h2.alloc _) (h3.alloc _) (by simp [go_sem]) (by simp [go_sem]) (by simp [go_sem]) (by simp [go_sem]))
  have HA : Hid (An2 (w.heap.size + 1) (w.alloc (.cells #[.slice a0 d0.length p0, .slice a1 d1.length p1, .slice a2 d2.length p2, .slice a3 d3.length p3] 34)) w.heap.size a2 p2 d2 a3 p3 d3) := An2.boxed h2 h3
  have H0 := hid (h0.alloc (.cells #[.slice a0 d0.length p0, .slice a1 d1.length p1, .slice a2 d2.length p2, .slice a3 d3.length p3] 34))
  have H1 := hid (h1.alloc (.cells #[.slice a0 d0.length p0, .slice a1 d1.length p1, .slice a2 d2.length p2, .slice a3 d3.length p3] 34))
  have t0 : (w.alloc (.cells #[.slice a0 d0.length p0, .slice a1 d1.length p1, .slice a2 d2.length p2, .slice a3 d3.length p3] 34)).cell? ⟨w.heap.size, 0, none⟩ = some (.slice a0 d0.length p0) := by rw [World.cell?_alloc_at _ _ _ _ rfl]; rfl
  have t1 : (w.alloc (.cells #[.slice a0 d0.length p0, .slice a1 d1.length p1, .slice a2 d2.length p2, .slice a3 d3.length p3] 34)).cell? ⟨w.heap.size, 1, none⟩ = some (.slice a1 d1.length p1) := by rw [World.cell?_alloc_at _ _ _ _ rfl]; rfl
  have HB : Hid (Below w.heap.size w (w.alloc (.cells #[.slice a0 d0.length p0, .slice a1 d1.length p1, .slice a2 d2.length p2, .slice a3 d3.length p3] 34))) := (Below.refl _ _).alloc (Nat.le_refl _) _
  have hs1 : (w.alloc (.cells #[.slice a0 d0.length p0, .slice a1 d1.length p1, .slice a2 d2.length p2, .slice a3 d3.length p3] 34)).heap.size = w.heap.size + 1 := by simp
  clear h0 h1 h2 h3
  obtain ⟨r, hr⟩ : ∃ r, validAn (d0, d1, d2, d3) = r := ⟨_, rfl⟩
  rw [hr] at HC
  cases r
  · have HF : Hid (annTextF (d0, d1, d2, d3) = ([], false)) := by unfold Hid annTextF; rw [hr]; rfl
    clear hr hs1 t0 t1
    go_enter Tryd.func6, Tryd.ntmps6
    go_wp2_with (go_at_call 18; refine HC.out.mono ?_; rintro e w1 ⟨rfl, hb1⟩; have HB1 := hid (bel_next HB.out HB.out.size hb1); clear hb1)
    go_ret2
    rw [HF.out]
    exact ⟨rfl, HB1.out⟩
  · have HF : Hid (annTextF (d0, d1, d2, d3) = (nlF (annT (d0, d1, d2, d3)), true)) := by unfold Hid annTextF; rw [hr]; rfl
    have HV := hid hr
    clear hr
    go_enter Tryd.func6, Tryd.ntmps6
    go_wp2_with fail
    generalize w.alloc (.cells #[.slice a0 d0.length p0, .slice a1 d1.length p1, .slice a2 d2.length p2, .slice a3 d3.length p3] 34) = W0 at *
    refine HC.out.mono ?_
    rintro e w1 ⟨rfl, hb1⟩
    have HA1 := hid (HA.out.on (hb1.mono (Nat.le_of_eq hs1.symm)))
    have HB1 := hid (bel_next HB.out HB.out.size hb1)
    have HT := hid (c_l08Text (H0.out.below (Nat.le_refl _) hb1) (H1.out.below (Nat.le_refl _) hb1) HA1.out.top (cell_below hb1 (by omega) t0) (cell_below hb1 (by omega) t1) HV.out)
    clear hb1 hs1 HA HC t0 t1
    obtain ⟨X, hX⟩ : ∃ X, nlF (annT (d0, d1, d2, d3)) = X := ⟨_, rfl⟩
    rw [hX] at HT HF
    clear hX
    go_wp2_with (go_at_call 19; refine HT.out.mono ?_; rintro e w2 ⟨rfl, hb2⟩; have HB2 := hid (bel_next HB1.out HB1.out.size hb2); clear hb2; unfold strOf)
    go_ret2
    rw [HF.out]
    exact ⟨rfl, HB2.out⟩
end Go.Proofs.YtcmopmapdomneaaDoor
end

section
namespace Go.Proofs.YtcmopmapdomneaaDoor
open Go.RowKit

def noPt (ps : List Pt) (t : Int) : Bool := decide (pointF ps t < 0)
def bareF (code : List Instr) (ps : List Pt) (k : Nat) : List Int := (targF code k).filter fun t => inB t 0 ((code.length : Int) - 1) && noPt ps t
theorem filter_take {p : Int → Bool} {T : List Int} {j : Nat} {t : Int} (h : T[j]? = some t) : (T.take (j + 1)).filter p = (T.take j).filter p ++ if p t then [t] else [] := by
  rw [List.take_add_one, h, List.filter_append]
  congr 1
  cases hp : p t <;> simp [hp]
/-- A block with annotated code. -/
structure AnB (w : World) (g : Nat) (a0 : Option Addr) (n0 p0 : Nat) (a1 : Option Addr) (n1 p1 : Nat) (a2 : Option Addr) (n2 p2 : Nat) (a3 : Option Addr) (n3 p3 : Nat) : Prop where
  lt : g < w.heap.size
  c0 : w.cell? ⟨g, 0, none⟩ = some (.slice a0 n0 p0)
  c1 : w.cell? ⟨g, 1, none⟩ = some (.slice a1 n1 p1)
  c2 : w.cell? ⟨g, 2, none⟩ = some (.slice a2 n2 p2)
  c3 : w.cell? ⟨g, 3, none⟩ = some (.slice a3 n3 p3)
theorem AnB.below {w w' : World} {g : Nat} {a0 : Option Addr} {n0 p0 : Nat} {a1 : Option Addr} {n1 p1 : Nat} {a2 : Option Addr} {n2 p2 : Nat} {a3 : Option Addr} {n3 p3 : Nat} (h : AnB w g a0 n0 p0 a1 n1 p1 a2 n2 p2 a3 n3 p3) (hb : Below w.heap.size w w') : AnB w' g a0 n0 p0 a1 n1 p1 a2 n2 p2 a3 n3 p3 :=
  ⟨Nat.lt_of_lt_of_le h.lt hb.size, cell_below hb h.lt h.c0, cell_below hb h.lt h.c1, cell_below hb h.lt h.c2, cell_below hb h.lt h.c3⟩
theorem AnB.on {N : Nat} {w w' : World} {g : Nat} {a0 : Option Addr} {n0 p0 : Nat} {a1 : Option Addr} {n1 p1 : Nat} {a2 : Option Addr} {n2 p2 : Nat} {a3 : Option Addr} {n3 p3 : Nat} (h : AnB w g a0 n0 p0 a1 n1 p1 a2 n2 p2 a3 n3 p3) (hN : g < N) (hb : Below N w w') : AnB w' g a0 n0 p0 a1 n1 p1 a2 n2 p2 a3 n3 p3 :=
  ⟨Nat.lt_of_lt_of_le h.lt hb.size, (hb.cell (p := ⟨g, 0, none⟩) hN).trans h.c0, (hb.cell (p := ⟨g, 1, none⟩) hN).trans h.c1, (hb.cell (p := ⟨g, 2, none⟩) hN).trans h.c2, (hb.cell (p := ⟨g, 3, none⟩) hN).trans h.c3⟩
theorem AnB.new (w : World) (a0 : Option Addr) (n0 p0 : Nat) (a1 : Option Addr) (n1 p1 : Nat) (a2 : Option Addr) (n2 p2 : Nat) (a3 : Option Addr) (n3 p3 : Nat) (T : TypeId) :
    AnB (w.alloc (.cells #[.slice a0 n0 p0, .slice a1 n1 p1, .slice a2 n2 p2, .slice a3 n3 p3] T)) w.heap.size a0 n0 p0 a1 n1 p1 a2 n2 p2 a3 n3 p3 :=
  ⟨by simp, by simp [go_sem], by simp [go_sem], by simp [go_sem], by simp [go_sem]⟩
theorem c_point1 {S : Nat → Prop} (x at_ : Int) (a : Option Addr) (p : Nat) (zs : List Term) (g : Nat) (w : World) (h : SlRd cTerm S w a p zs) (hg : w.cell? ⟨g, 0, none⟩ = some (.int .i64 at_)) (hgl : g < w.heap.size) :
    Calls Tryd.prog 87 #[.agg #[.int .i64 x, .slice a zs.length p], .pointer (some ⟨g, 0, none⟩)] w fun e w' => e = .returned (.bool (x == at_)) ∧ Below w.heap.size w w' := by
  have HB : Hid (Below w.heap.size w (w.alloc (.cells #[.int .i64 x, .slice a zs.length p] 82))) := (Below.refl _ _).alloc (Nat.le_refl _) _
  have hg2 := cell_below HB.out hgl hg
  clear h
  go_enter Tryd.func87, Tryd.ntmps87
  go_wp2
  go_ret
  exact ⟨rfl, HB.out⟩
theorem c_idxPt {S : Nat → Prop} (a : Option Addr) (cap : Nat) (xs : List Pt) (j : Int) (g : Nat) (w : World) (h : SlRd cPoint S w a cap xs) (hg : w.cell? ⟨g, 0, none⟩ = some (.int .i64 j)) (hgl : g < w.heap.size) :
    Calls Tryd.prog 86 #[.slice a xs.length cap, .func (.func 87) #[] #[.pointer (some ⟨g, 0, none⟩)]] w fun e w' => e = .returned (.int .i64 (pointF xs j)) ∧ Below w.heap.size w w' := by
  have hl := h.len_le
  have H := hid h
  have HG := hid hg
  clear h hg
  go_enter Tryd.func86, Tryd.ntmps86
  go_wp2
  go_loopw [8] (fun i wr => ∃ k : Nat, k ≤ xs.length ∧ i = .int .i64 k ∧ Hid (∀ q ∈ xs.take k, q.1 ≠ j) ∧ Below w.heap.size w wr) (fun i _ => xs.length - (intOf i).toNat)
  case atStart => exact ⟨0, Nat.zero_le _, rfl, by unfold Hid; simp, Below.refl _ _⟩
  case round =>
    obtain ⟨k, hk, rfl, HA, hbe⟩ := hrel
    have hsz := hbe.size
    by_cases hlt : k < xs.length
    · obtain ⟨b, off, rfl⟩ := H.out.some_of hlt
      obtain ⟨x, a', cap', zs, hz, hc1, hsl, hc, hc', hb⟩ := (H.out.below (Nat.le_refl _) hbe).pt_at k hlt
      have HC := hid (c_point1 x j a' cap' zs g wr hsl (cell_below hbe hgl HG.out) (by omega))
      have HP : Hid (x = j → pointF xs j = (k : Int)) := fun e => pointF_hit HA.out hz e
      have HN : Hid (x ≠ j → ∀ q ∈ xs.take (k + 1), q.1 ≠ j) := fun hxj q hq => by
        rw [List.take_add_one, hz] at hq
        rcases List.mem_append.1 hq with h1 | h1
        · exact HA.out q h1
        · simp at h1; rw [h1]; exact hxj
      clear hz hsl
      by_cases hxj : x = j
      · have HF := hid (HP.out hxj)
        have HR : Hid ((x == j) = true) := by unfold Hid; simp [hxj]
        clear hxj
        go_wp2_with (go_at_call 87; refine HC.out.mono ?_; rintro e w1 ⟨rfl, hb1⟩; rw [HR.out])
        go_ret
        exact ⟨by rw [HF.out]; rfl, bel_next hbe hsz hb1⟩
      · have HN2 := hid (HN.out hxj)
        have HR : Hid ((x == j) = false) := by unfold Hid; simp [hxj]
        clear hxj
        go_wp2_with (go_at_call 87; refine HC.out.mono ?_; rintro e w1 ⟨rfl, hb1⟩; rw [HR.out])
        go_roundw
        case rel => exact ⟨k + 1, by omega, by go_num, HN2, bel_next hbe hsz hb1⟩
        case measure => simp [intOf]; omega
    · have HF := hid (pointF_miss (ps := xs) (at_ := j) fun q hq => HA.out q (by rw [List.take_of_length_le (by omega)]; exact hq))
      go_wp2
      go_ret
      exact ⟨by rw [HF.out]; rfl, hbe⟩
set_option maxRecDepth 100000 in
theorem c_anPoint {S : Nat → Prop} {a0 : Option Addr} {n0 p0 : Nat} {a1 : Option Addr} {n1 p1 : Nat} {a2 : Option Addr} {n2 p2 : Nat} {a3 : Option Addr} {p3 : Nat} {d3 : List Pt} {w : World} (h3 : SlRd cPoint S w a3 p3 d3) (at_ : Int) :
    Calls Tryd.prog 51 #[.agg #[.slice a0 n0 p0, .slice a1 n1 p1, .slice a2 n2 p2, .slice a3 d3.length p3], .int .i64 at_] w fun e w' => e = .returned (.int .i64 (pointF d3 at_)) ∧ Below w.heap.size w w' := by
  have HB : Hid (Below w.heap.size w ((w.alloc (.cells #[.slice a0 n0 p0, .slice a1 n1 p1, .slice a2 n2 p2, .slice a3 d3.length p3] 34)).alloc (.cells #[.int .i64 at_] 2))) := ((Below.refl _ _).alloc (Nat.le_refl _) _).alloc (by simp) _
  have HC := hid (c_idxPt a3 p3 d3 at_ (w.heap.size + 1) ((w.alloc (.cells #[.slice a0 n0 p0, .slice a1 n1 p1, .slice a2 n2 p2, .slice a3 d3.length p3] 34)).alloc (.cells #[.int .i64 at_] 2)) ((h3.alloc _).alloc _) (cell_of (heap_new2 _ _ _) rfl) (by simp))
  clear h3
  go_enter Tryd.func51, Tryd.ntmps51
  go_wp2_with (go_at_call 86; refine HC.out.mono ?_; rintro e w1 ⟨rfl, hb1⟩)
  go_ret
  exact ⟨rfl, bel_next HB.out HB.out.size hb1⟩
end Go.Proofs.YtcmopmapdomneaaDoor
end

section
namespace Go.Proofs.YtcmopmapdomneaaDoor
open Go.RowKit

section
variable {α : Type} {C : Codec α} {S : Nat → Prop} {w : World} {base : Nat} {e : TypeId} {v : Value} {xs : List α}
/-- append(v, d), and which blocks it writes and makes. -/
theorem app_oneG {P : Program} {t : TypeId} {z : Value} {bytes : Nat} (hT : SlT P t e z C.n bytes) (hS : ∀ b, S b → b < w.heap.size) (hown : OwnSl C S w base e v xs) {g c : Nat} {cs : Array Value} {e' : TypeId} {fr : Nat × Nat}
    (hblk : w.heap[g]? = some (.cells cs e' fr)) (d : α) (hd : C.rd (fun b => S b ∧ some b ≠ v.ownBlock) w cs.toList d) (hn : xs.length + 1 ≤ 1099511627776) (hbase : base ≤ w.heap.size) (ty : TypeId) :
    ∃ v' w', (Builtin.append_ #[t, t] ty #[v, .slice (some ⟨g, 0, none⟩) 1 c]).run P w = .ok v' w' ∧ OwnSl C S w' base e v' (xs ++ [d]) ∧ w.grownBy w' v.ownBlock ∧ (∀ k, v'.ownBlock = some k → v.ownBlock = some k ∨ w.heap.size ≤ k) := by
  obtain ⟨ys, hr, hel⟩ := hown
  obtain ⟨v', w', h1, h2, h3, h4⟩ := run_app (ty := ty) hT hr (some ⟨g, 0, none⟩) 1 c cs.toList (by simp) (by rw [C.len hd]; simp)
    (by
      rintro x hx j u hj
      cases hx
      have hadd : (⟨g, 0, none⟩ : Addr).add j = ⟨g, j, none⟩ := by unfold Addr.add; split <;> simp_all
      rw [hadd, cell_of_row w g j cs e' fr hblk]; simpa using hj) (C.one hd) hn hbase
  refine ⟨v', w', h1, own_grow (azs := xs) (bs := [d]) hS hel (fun i x hi => ?_) hr.1 (by simpa using h2) h3 h4, h3, h4⟩
  match i, hi with
  | 0, hi => simp at hi; subst hi; exact ⟨cs.toList, hd, fun j u hj => by simpa using hj⟩
theorem step_ownG {P : Program} {ops : Array Oper} {o : Oper} {a : Act} {Q : Exit → Act → World → Prop} {K : Act → World → Prop} {E : Prop} (hgd : o.guard = none) (s x : Operand) (t : TypeId)
    (ho : o.op = .call { callee := .builtin .append, args := #[s, x], argTypes := #[t, t] }) {z : Value} {bytes : Nat} (hT : SlT P t e z C.n bytes)
    {cs : Array Value} {e' : TypeId} {fr : Nat × Nat} {c g : Nat} (hs : a.eval s = v) (hx : a.eval x = .slice (some ⟨g, 0, none⟩) 1 c) (hown : OwnSl C S w base e v xs) (hblk : w.heap[g]? = some (.cells cs e' fr))
    (hS : ∀ b, S b → b < w.heap.size) (d : α) (hd : C.rd (fun b => S b ∧ some b ≠ v.ownBlock) w cs.toList d) (hn : xs.length + 1 ≤ 1099511627776) (hbase : base ≤ w.heap.size)
    (h : ∀ v' w', OwnSl C S w' base e v' (xs ++ [d]) → Below base w w' → w.grownBy w' v.ownBlock → (∀ k, v'.ownBlock = some k → v.ownBlock = some k ∨ w.heap.size ≤ k) → K (a.put o.dst v') w') :
    if Region.wanted o (yielded ops a.tmps) = true then Oper.wp P o a w K Q else E := by
  obtain ⟨v', w', h1, h2, h3, h4⟩ := app_oneG hT hS hown hblk d hd hn hbase o.type (c := c)
  exact stepR_app hgd s x t ho hs hx (R := fun v' w' => OwnSl C S w' base e v' (xs ++ [d]) ∧ Below base w w' ∧ w.grownBy w' v.ownBlock ∧ (∀ k, v'.ownBlock = some k → v.ownBlock = some k ∨ w.heap.size ≤ k)) ⟨v', w', h1, h2, bel_own hown h3 (Nat.le_refl _) hbase, h3, h4⟩ fun v' w' hr => h v' w' hr.1 hr.2.1 hr.2.2.1 hr.2.2.2
theorem app_ownG {P : Program} {ops : Array Oper} {rest : List Oper} {o : Oper} {a : Act} {Q : Exit → Act → World → Prop} (hgd : o.guard = none) (s x : Operand) (t : TypeId)
    (ho : o.op = .call { callee := .builtin .append, args := #[s, x], argTypes := #[t, t] }) {z : Value} {bytes : Nat} (hT : SlT P t e z C.n bytes)
    {cs : Array Value} {e' : TypeId} {fr : Nat × Nat} {c g : Nat} (hs : a.eval s = v) (hx : a.eval x = .slice (some ⟨g, 0, none⟩) 1 c) (hown : OwnSl C S w base e v xs) (hblk : w.heap[g]? = some (.cells cs e' fr))
    (hS : ∀ b, S b → b < w.heap.size) (d : α) (hd : C.rd (fun b => S b ∧ some b ≠ v.ownBlock) w cs.toList d) (hn : xs.length + 1 ≤ 1099511627776) (hbase : base ≤ w.heap.size)
    (h : ∀ v' w', OwnSl C S w' base e v' (xs ++ [d]) → Below base w w' → w.grownBy w' v.ownBlock → (∀ k, v'.ownBlock = some k → v.ownBlock = some k ∨ w.heap.size ≤ k) → wpList P ops Q rest (a.put o.dst v') w') : wpList P ops Q (o :: rest) a w := by
  obtain ⟨v', w', h1, h2, h3, h4⟩ := app_oneG hT hS hown hblk d hd hn hbase o.type (c := c)
  exact wpList_app hgd s x t ho hs hx (R := fun v' w' => OwnSl C S w' base e v' (xs ++ [d]) ∧ Below base w w' ∧ w.grownBy w' v.ownBlock ∧ (∀ k, v'.ownBlock = some k → v.ownBlock = some k ∨ w.heap.size ≤ k)) ⟨v', w', h1, h2, bel_own hown h3 (Nat.le_refl _) hbase, h3, h4⟩ fun v' w' hr => h v' w' hr.1 hr.2.1 hr.2.2.1 hr.2.2.2
end
/-- All blocks are azs before but g and the slice's own one. -/
def Kept (g : Nat) (v : Value) (w w' : World) : Prop := ∀ b, b < w.heap.size → b ≠ g → some b ≠ v.ownBlock → w'.heap[b]? = w.heap[b]?
def NotIn (w : World) (g : Nat) (v u : Value) : Prop := ∀ b, b < w.heap.size → b ≠ g → some b ≠ v.ownBlock → some b ≠ u.ownBlock
theorem kept_cell {g : Nat} {v : Value} {w w' : World} {b o : Nat} {u : Value} (h : Kept g v w w') (hb : b ≠ g) (hv : some b ≠ v.ownBlock) (hc : w.cell? ⟨b, o, none⟩ = some u) : w'.cell? ⟨b, o, none⟩ = some u :=
  (World.cell?_of_block (w := w) (a := ⟨b, o, none⟩) (h b (World.block_lt_of_cell? w _ hc) hb hv)).trans hc
set_option maxHeartbeats 1000000 in
set_option maxRecDepth 100000 in
theorem c_facts1 {g B : Nat} {wd : List UInt8} {a : Option Addr} {p : Nat} {ts : List Term} {ls : List (List UInt8)} {v : Value} {w : World} (h : SlRd cTerm (fun b => b < g) w a p ts) (hw : wd.length ≤ 8) (hv : areOverF ts 6 = true) (hg : g < w.heap.size) (c0 : w.cell? ⟨g, 0, none⟩ = some v) (f0 : w.frozen? ⟨g, 0, none⟩ = false)
    (ho : OwnSl cStr (fun _ => False) w (g + 1) 9 v ls) (hn : ls.length ≤ 10000) (ht : TabE B w) (hB : B ≤ g) :
    Calls Tryd.prog 49 #[.string ⟨wd.toArray⟩, .slice a ts.length p, .pointer (some ⟨g, 0, none⟩)] w fun e w' => e = .returned (.tuple #[]) ∧ ∃ v', w'.cell? ⟨g, 0, none⟩ = some v' ∧ w'.frozen? ⟨g, 0, none⟩ = false ∧ g < w'.heap.size ∧ OwnSl cStr (fun _ => False) w' (g + 1) 9 v' (ls ++ factT wd ts) ∧ Below g w w' ∧ Kept g v w w' := by
  have hn6 := over_len hv
  have H := hid h
  have HV := hid (areOverF_iff hv)
  have HT := hid ht
  have HO0 : Hid (OwnSl cStr (fun _ => False) w (g + 1) 9 v (ls ++ factT wd (ts.take 0))) := by rw [List.take_zero, factT_nil, List.append_nil]; exact ho
  have ew := badd wd [32]
  obtain ⟨V, hV⟩ : ∃ V, wd ++ [32] = V := ⟨_, rfl⟩
  have hVl : V.length ≤ 9 := by rw [← hV]; simp; omega
  rw [hV] at ew
  have HV9 := hid hV
  have nw : ¬ 9223372036854775807 < wd.length + 1 := by omega
  clear hV h hv ht ho
  go_enter Tryd.func49, Tryd.ntmps49
  go_wp2
  go_loopw [9] (fun i wr => ∃ (k : Nat) (u : Value), k ≤ ts.length ∧ i = .int .i64 k ∧ g < wr.heap.size ∧ wr.cell? ⟨g, 0, none⟩ = some u ∧ wr.frozen? ⟨g, 0, none⟩ = false ∧ Hid (OwnSl cStr (fun _ => False) wr (g + 1) 9 u (ls ++ factT wd (ts.take k))) ∧ Hid (Below g w wr) ∧ Hid (Kept g v w wr) ∧ Hid (NotIn w g v u)) (fun i _ => ts.length - (intOf i).toNat)
  case atStart => exact ⟨0, v, Nat.zero_le _, rfl, hg, c0, f0, HO0, Below.refl _ _, fun _ _ _ _ => rfl, fun _ _ _ h => h⟩
  case round =>
    obtain ⟨k, u, hk, rfl, hgr, cr, fr, HO, HBR, HKP, HNI⟩ := hrel
    by_cases hlt : k < ts.length
    · obtain ⟨b, off, rfl⟩ := H.out.some_of hlt
      obtain ⟨c, zs, a', cap', hz, hc1, hsl, hc, hc', hb⟩ := (H.out.keep (S' := fun b => b < g) (w' := wr) fun b hb _ => ⟨hb, HBR.out.block b hb⟩).term_at k hlt
      have hvt := (HV.out _ (List.mem_of_getElem? hz)).1
      have hll2 := textF_len hvt
      have HN := hid (factT_take (wd := wd) hz)
      have HBX : Hid (Below wr.heap.size wr (wr.alloc (.cells #[.int .i64 c, .slice a' zs.length cap'] 89))) := (Below.refl _ _).alloc (Nat.le_refl _) _
      have i0 : (0 : Int) ≤ (k : Int) := by omega
      have i1 : (k : Int) < (ts.length : Int) := by omega
      have HCF := hid (fun (w2 : World) (hb2 : Below wr.heap.size wr w2) => c_termText (hsl.below (Nat.le_refl _) hb2) hvt (HT.out.belows ((HBR.out.trans (hb2.mono (Nat.le_of_lt hgr))).mono hB)))
      obtain ⟨Z, hZ⟩ : ∃ Z, textF (c, zs) = Z := ⟨_, rfl⟩
      rw [HV9.out] at HN
      rw [hZ] at HCF HN hll2
      have e1 := badd V Z
      have n2 : ¬ 9223372036854775807 < V.length + Z.length := by omega
      have hlk : (ls ++ factT wd (ts.take k)).length ≤ 10006 := by rw [List.length_append, factT_len, List.length_take]; omega
      clear hz hvt hZ hsl
      go_wp2
      go_region_law (first | (refine step_ownG (C := cStr) rfl (.tmp 13) (.tmp 19) _ rfl slTx rfl rfl HO2.out HBK.out no_blk (V ++ Z) (rd_str (by simp only [List.length_append]; omega)) (Nat.le_trans (Nat.succ_le_succ hlk) (by decide)) (Nat.le_trans hz2 (by rw [World.size_alloc]; omega)) ?_; intro v3 w3 hO3 hb3 hgb3 hnb3; have HKP3 := hid (hgb3.block); have HNB3 := hid hnb3; clear hgb3 hnb3; obtain ⟨av, pv, hv⟩ := own_len hO3; generalize ((ls ++ factT wd (ts.take k)) ++ [V ++ Z]).length = nl at hv; subst hv; have c3 := cell_below hb3 (Nat.lt_succ_self g) c2; have f3 := frz_below hb3 (Nat.lt_succ_self g) f2; have HO3 := hid hO3; have hg3 : g < w3.heap.size := Nat.lt_of_lt_of_le (by rw [World.size_alloc]; omega) hb3.size; have HB3 := hid (HB2A.out.trans (hb3.mono (Nat.le_succ g))); clear hO3 hb3) | (go_simp; go_at_call 50; refine (HCF.out _ HBX.out.drew).mono ?_; rintro e w2 ⟨rfl, hb2⟩; unfold strOf; have HB2 := hid ((HBR.out.trans (HBX.out.drew.mono (Nat.le_of_lt hgr))).trans (hb2.mono (by simp; omega))); have HB2D := hid ((HBX.out.drew.trans (hb2.mono (by simp))).alloc (Nat.le_trans (by simp) hb2.size) (.cells #[.string ⟨(V ++ Z).toArray⟩] 9)); have HO2 := hid (own_alloc (own_below HO.out (Nat.le_refl _) (HBX.out.drew.trans (hb2.mono (by simp)))) (.cells #[.string ⟨(V ++ Z).toArray⟩] 9)); have hz2 : g + 1 ≤ w2.heap.size := Nat.le_trans (by simp; omega) hb2.size; have HBK := hid (heap_new w2 (.cells #[.string ⟨(V ++ Z).toArray⟩] 9)); have HB2A := hid (HB2.out.alloc (by omega) (.cells #[.string ⟨(V ++ Z).toArray⟩] 9)); have cw := cell_below (HBX.out.drew.trans (hb2.mono (by simp))) hgr cr; have c2 := cell_below HB2D.out hgr cr; have f2 := frz_below HB2D.out hgr fr; clear hb2))
      all_goals
        go_wp2
        go_roundw
        case rel => exact ⟨k + 1, _, by omega, by go_num, by rw [size_set]; exact hg3, World.cell?_setCell_same _ _ _ c3, by rw [World.frozen?_setCell]; exact f3, by rw [HN.out, ← List.append_assoc]; exact own_keep HO3.out (fun _ h _ => h) fun b hl hs => heap_setCell_ne _ _ _ (by rcases hs with hs | hs; (exact hs.elim); (have := own_lt HO3.out b hs.symm; show b ≠ g; omega)), HB3.out.setCell (Nat.le_refl g) _, fun b hb hbg hbv => by rw [heap_setCell_ne _ _ _ hbg, HKP3.out b (Nat.lt_of_lt_of_le (Nat.lt_of_lt_of_le hb HBR.out.size) HB2D.out.size) (HNI.out b hb hbg hbv), HB2D.out.block b (Nat.lt_of_lt_of_le hb HBR.out.size), HKP.out b hb hbg hbv], fun b hb hbg hbv he => by rcases HNB3.out b he.symm with h9 | h9; (exact HNI.out b hb hbg hbv h9.symm); (have := HB2D.out.size; have := HBR.out.size; omega)⟩
        case measure => simp [intOf]; omega
    · have HK : Hid (ts.take k = ts) := List.take_of_length_le (by omega)
      rw [HK.out] at HO
      have e1 : decide ((k : Int) < (ts.length : Int)) = false := decide_eq_false (by omega)
      go_wp2
      go_end0
      exact ⟨rfl, u, cr, fr, hgr, HO.out, HBR.out, HKP.out⟩
set_option maxHeartbeats 4000000 in
set_option maxRecDepth 100000 in
theorem c_annotatedText {S : Nat → Prop} {B : Nat} {a0 : Option Addr} {p0 : Nat} {d0 : List Term} {a1 : Option Addr} {p1 : Nat} {d1 : List Term} {a2 : Option Addr} {p2 : Nat} {d2 : List Instr} {a3 : Option Addr} {p3 : Nat} {d3 : List Pt} {w : World} (h0 : SlRd cTerm S w a0 p0 d0) (h1 : SlRd cTerm S w a1 p1 d1) (h2 : SlRd cInstr S w a2 p2 d2) (h3 : SlRd cPoint S w a3 p3 d3) (hv : validAn (d0, d1, d2, d3) = true) (ht : TabE B w) :
    Calls Tryd.prog 24 #[.agg #[.slice a0 d0.length p0, .slice a1 d1.length p1, .slice a2 d2.length p2, .slice a3 d3.length p3]] w fun e w' => e = .returned (strOf (nlF (annT (d0, d1, d2, d3)))) ∧ Below w.heap.size w w' := by
  obtain ⟨_, _, _, x80, vx, v0, v1, l8, vp⟩ := ann_bounds hv 0 (Nat.zero_le _)
  have HVA := hid hv
  have HVX := hid vx
  have HVP := hid vp
  have HV0 := hid v0
  have HV1 := hid v1
  have hBw := ht.2
  obtain ⟨g, hg⟩ : ∃ g, g = w.heap.size + 1 := ⟨_, rfl⟩
  obtain ⟨W1, hW1⟩ : ∃ W1, W1 = ((w.alloc (.cells #[.slice a0 d0.length p0, .slice a1 d1.length p1, .slice a2 d2.length p2, .slice a3 d3.length p3] 34)).alloc (.cells #[.slice none 0 0] 96)) := ⟨_, rfl⟩
  have HX : Hid (AnB W1 w.heap.size a0 d0.length p0 a1 d1.length p1 a2 d2.length p2 a3 d3.length p3) := by rw [hW1]; exact (AnB.new _ _ _ _ _ _ _ _ _ _ _ _ _ _).below ((Below.refl _ _).alloc (Nat.le_refl _) _)
  have c0 : W1.cell? ⟨g, 0, none⟩ = some (.slice none 0 0) := by rw [hW1, hg]; exact cell_of (heap_new2 _ _ _) rfl
  have f0 : W1.frozen? ⟨g, 0, none⟩ = false := by rw [hW1, hg]; exact frozen_of_row _ _ _ _ _ (heap_new2 _ _ _)
  have hs1 : W1.heap.size = g + 1 := by rw [hW1, hg]; simp
  have HB1 : Hid (Below w.heap.size w W1) := by rw [hW1]; exact ((Below.refl _ _).alloc (Nat.le_refl _) _).alloc (by simp) _
  have H0 : Hid (SlRd cTerm (fun b => b < g) W1 a0 p0 d0) := h0.keep fun b _ hl => ⟨by omega, HB1.out.block b hl⟩
  have H1 : Hid (SlRd cTerm (fun b => b < g) W1 a1 p1 d1) := h1.keep fun b _ hl => ⟨by omega, HB1.out.block b hl⟩
  have H2 : Hid (SlRd cInstr (fun b => b < g) W1 a2 p2 d2) := h2.keep fun b _ hl => ⟨by omega, HB1.out.block b hl⟩
  have H3 : Hid (SlRd cPoint (fun b => b < g) W1 a3 p3 d3) := h3.keep fun b _ hl => ⟨by omega, HB1.out.block b hl⟩
  have HT1 := hid (ht.belows (HB1.out.mono hBw))
  have hl3 := h3.len_le
  have hgw : w.heap.size < g := by omega
  have hBg : B ≤ g := by omega
  have HTO := hid (fun (w' : World) (hb : Below g W1 w') => HT1.out.belows (hb.mono hBg))
  have hg1 : g < W1.heap.size := by omega
  have HG := hid hg
  have HW1 := hid hW1
  clear h0 h1 h2 h3 ht hv vx v0 v1 vp hg hW1 hs1
  go_enter Tryd.func24, Tryd.ntmps24
  go_wp2_with fail
  rw [← HG.out, ← HW1.out]
  clear HW1 HG
  refine (c_facts1 (g := g) (wd := [112, 114, 101]) (ls := []) H0.out (by decide) HV0.out hg1 c0 f0 (own_nil _ _ _ _ _) (by decide) HT1.out hBg).mono ?_
  rintro e w2 ⟨rfl, v2, c2, f2, hg2, ho2, hb2, _⟩
  have HO2 := hid ho2
  have HB2 := hid hb2
  obtain ⟨_, q0, q1, q2, q3⟩ := HX.out.on hgw hb2
  clear ho2 hb2 c0 f0
  have H12 : Hid (SlRd cTerm (fun b => b < g) w2 a1 p1 d1) := H1.out.keep (S' := fun b => b < g) (w' := w2) fun b hb _ => ⟨hb, HB2.out.block b hb⟩
  have hl1 : ([] ++ factT [112, 114, 101] d0).length ≤ 10000 := by have := over_len HV0.out; rw [List.nil_append, factT_len]; omega
  have HTW := hid (HTO.out _ HB2.out)
  have HCW := hid (c_facts1 (g := g) (wd := [112, 111, 115, 116]) (ls := [] ++ factT [112, 114, 101] d0) H12.out (by decide) HV1.out hg2 c2 f2 HO2.out hl1 HTW.out hBg)
  go_wp2_with fail
  refine HCW.out.mono ?_
  rintro e w3 ⟨rfl, v3, c3, f3, hg3, ho3, hb3, _⟩
  have HO3 : Hid (OwnSl cStr (fun _ => False) w3 (g + 1) 9 v3 (headT d0 d1 ++ codeT d2 d3 0)) := by
    have h9 := ho3
    rw [List.nil_append] at h9
    show OwnSl _ _ _ _ _ _ (headT d0 d1 ++ [])
    rw [List.append_nil]; exact h9
  have HB3 := hid (HB2.out.trans hb3)
  clear ho3 hb3 q0 q1 q2 q3 HO2
  obtain ⟨_, q0, q1, q2, q3⟩ := HX.out.on hgw HB3.out
  clear c2 f2 hg2 HB2
  go_wp2
  clear q0 q1 q2 q3
  go_loopw [20] (fun i wr => ∃ (k : Nat) (u : Value), k ≤ d2.length ∧ i = .int .i64 k ∧ g < wr.heap.size ∧ wr.cell? ⟨g, 0, none⟩ = some u ∧ wr.frozen? ⟨g, 0, none⟩ = false ∧ Hid (OwnSl cStr (fun _ => False) wr (g + 1) 9 u (headT d0 d1 ++ codeT d2 d3 k)) ∧ Hid (Below g W1 wr)) (fun i _ => d2.length - (intOf i).toNat)
  case atStart => exact ⟨0, v3, Nat.zero_le _, rfl, hg3, c3, f3, HO3, HB3⟩
  case round =>
    obtain ⟨k, u, hk, rfl, hgr, cr, fr, HO, HBR⟩ := hrel
    have HXR := hid (HX.out.on hgw HBR.out)
    clear c3 f3 hg3 HO3 HB3
    by_cases hlt : k < d2.length
    · obtain ⟨_, hn700, _⟩ := ann_bounds HVA.out (k + 1) hlt
      obtain ⟨_, hn701, _⟩ := ann_bounds HVA.out k hk
      obtain ⟨bc, oc, rfl⟩ := H2.out.some_of hlt
      obtain ⟨op, arg, hz, hi1, hi2, hc, hc', hb⟩ := (H2.out.keep (S' := fun b => b < g) (w' := wr) (fun b hb _ => ⟨hb, HBR.out.block b hb⟩)).instr_at k hlt
      have hm := HVX.out _ (List.mem_of_getElem? hz)
      obtain ⟨h0, h1⟩ := validI_op hm
      simp only at h0 h1
      have hlen := lineF_len (op, arg) hi2
      have HN := hid (codeT_succ (ps := d3) hz)
      have HBX : Hid (Below wr.heap.size wr (wr.alloc (.cells #[.int .i64 op, .int .i64 arg] 88))) := (Below.refl _ _).alloc (Nat.le_refl _) _
      have x0 : (wr.alloc (.cells #[.int .i64 op, .int .i64 arg] 88)).cell? ⟨wr.heap.size, 0, none⟩ = some (.int .i64 op) := by rw [World.cell?_alloc_at _ _ _ _ rfl]; rfl
      have x1 : (wr.alloc (.cells #[.int .i64 op, .int .i64 arg] 88)).cell? ⟨wr.heap.size, 1, none⟩ = some (.int .i64 arg) := by rw [World.cell?_alloc_at _ _ _ _ rfl]; rfl
      have z0 : wr.heap.size < (wr.alloc (.cells #[.int .i64 op, .int .i64 arg] 88)).heap.size := by simp
      have HPC := hid (c_anPoint (a0 := a0) (n0 := d0.length) (p0 := p0) (a1 := a1) (n1 := d1.length) (p1 := p1) (a2 := some ⟨bc, oc, none⟩) (n2 := d2.length) (p2 := p2) (w := wr.alloc (.cells #[.int .i64 op, .int .i64 arg] 88)) ((H3.out.keep (S' := fun b => b < g) (w' := wr) (fun b hb _ => ⟨hb, HBR.out.block b hb⟩)).below (Nat.le_refl _) HBX.out) (k : Int))
      obtain ⟨_, q0, q1, q2, q3⟩ := HXR.out
      have i0 : (0 : Int) ≤ (k : Int) := by omega
      have i1 : (k : Int) < (d2.length : Int) := by omega
      have e1 : decide ((k : Int) < (d2.length : Int)) = true := decide_eq_true i1
      clear hz hm
      go_wp2_with fail
      refine HPC.out.mono ?_
      rintro e w4 ⟨rfl, hb4⟩
      have HB4 := hid (HBX.out.trans (hb4.mono (Nat.le_of_lt z0)))
      have y0 := cell_below hb4 z0 x0
      have y1 := cell_below hb4 z0 x1
      have z4 := Nat.lt_of_lt_of_le z0 hb4.size
      have cr4 := cell_below HB4.out hgr cr
      have fr4 := frz_below HB4.out hgr fr
      have hg4 := Nat.lt_of_lt_of_le hgr HB4.out.size
      have HO4 := hid (own_below HO.out (Nat.le_refl _) HB4.out)
      have HBW := hid (bel_next HBR.out (Nat.le_of_lt hgr) HB4.out)
      have hvl := own_lt HO.out
      obtain ⟨X, hX⟩ : ∃ X, X = wr.heap.size := ⟨_, rfl⟩
      rw [← hX] at y0 y1 z4 hvl ⊢
      have hgX : g < X := by omega
      have hXw : w.heap.size < X := by omega
      clear hX
      clear hb4 x0 x1 z0 q0 q1 q2 q3 HBX HB4 HPC HO cr fr hc hc' hb HXR
      by_cases hp : 0 ≤ pointF d3 k
      · obtain ⟨j, p, hpj, hj⟩ := point_at hp
        have hjl := (List.getElem?_eq_some_iff.1 hj).1
        rw [hpj]
        have e2 : decide ((0 : Int) ≤ (j : Int)) = true := decide_eq_true (by omega)
        have HO5 := hid (own_alloc HO4.out (.cells #[.string ⟨#[112, 111, 105, 110, 116]⟩] 9))
        have HBK5 := hid (heap_new w4 (.cells #[.string ⟨#[112, 111, 105, 110, 116]⟩] 9))
        have HBL5 : Hid (Below w4.heap.size w4 (w4.alloc (.cells #[.string ⟨#[112, 111, 105, 110, 116]⟩] 9))) := (Below.refl _ _).alloc (Nat.le_refl _) _
        have cr5 := cell_below HBL5.out hg4 cr4
        have fr5 := frz_below HBL5.out hg4 fr4
        clear hp
        obtain ⟨bp, ob, rfl⟩ := H3.out.some_of hjl
        have j0 : (0 : Int) ≤ (j : Int) := by omega
        have j1 : (j : Int) < (d3.length : Int) := by omega
        have HJ := hid hj
        have HPJ := hid hpj
        clear hj hpj
        go_wp2_with (first | (at_builtin; refine app_ownG (C := cStr) rfl (.tmp 30) (.tmp 31) _ rfl slTx rfl rfl HO5.out HBK5.out no_blk [112, 111, 105, 110, 116] (rd_str (by decide)) (by omega) (by rw [World.size_alloc]; omega) ?_; intro v6 w6 hO6 hb6 hgb6 hnb6; have HO6 := hid hO6; have HB6 := hid hb6; have HGB6 := hid hgb6.block; have HNB6 := hid hnb6; obtain ⟨av, pv, hv⟩ := own_len hO6; generalize ((headT d0 d1 ++ codeT d2 d3 k) ++ [[112, 111, 105, 110, 116]]).length = nl at hv; subst hv; have cr6 := cell_below hb6 (Nat.lt_succ_self g) cr5; have fr6 := frz_below hb6 (Nat.lt_succ_self g) fr5; clear hO6 hb6 hgb6 hnb6; have HB7 : Hid (Below g W1 (w6.setCell ⟨g, 0, none⟩ (.slice av nl pv))) := (((HBW.out.trans (HBL5.out.mono (Nat.le_of_lt hg4))).trans (HB6.out.mono (Nat.le_succ g))).setCell (Nat.le_refl g) _); obtain ⟨_, q0, q1, q2, q3⟩ := HX.out.on hgw HB7.out; obtain ⟨x, a', cap', fs, hz', hx1, hsl, hcp, hcp', hbp⟩ := (H3.out.keep (S' := fun b => b < g) (w' := w6.setCell ⟨g, 0, none⟩ (.slice av nl pv)) (fun b hb _ => ⟨hb, HB7.out.block b hb⟩)).pt_at j hjl; have HZ' := hid hz'; have HSL := hid hsl; clear hz' hsl) | (go_at_call 49; refine (c_facts1 (g := g) (wd := [97, 116]) (ls := (headT d0 d1 ++ codeT d2 d3 k) ++ [[112, 111, 105, 110, 116]]) HSL.out (by decide) (HVP.out _ (List.mem_of_getElem? HZ'.out)) (by rw [size_set]; exact Nat.lt_of_lt_of_le (by rw [World.size_alloc]; omega) HB6.out.size) (World.cell?_setCell_same _ _ _ cr6) (by rw [World.frozen?_setCell]; exact fr6) (own_keep HO6.out (fun _ h _ => h) fun b hl hs => heap_setCell_ne _ _ _ (by rcases hs with hs | hs; (exact hs.elim); (have := own_lt HO6.out b hs.symm; show b ≠ g; omega))) (by simp only [List.length_append, List.length_cons, List.length_nil] at hn701 ⊢; omega) (HTO.out _ HB7.out) hBg).mono ?_; rintro e wA ⟨rfl, vA, cA, fA, hgA, hoA, hbA, hkA⟩; have HOA := hid hoA; have HBA := hid (HB7.out.trans hbA); have HKA := hid hkA; clear hoA hbA hkA q0 q1 q2 q3 hcp hcp'))
        have hX6 : some X ≠ (Value.slice av nl pv).ownBlock := fun he => by
          rcases HNB6.out X he.symm with h9 | h9
          · have := (hvl X h9).2; omega
          · rw [World.size_alloc] at h9; omega
        have hXA0 : ∀ (o : Nat) (y : Value), w4.cell? ⟨X, o, none⟩ = some y → wA.cell? ⟨X, o, none⟩ = some y := fun o y hy => by
          refine kept_cell HKA.out (by omega) hX6 ?_
          refine cell_set_ne (show X ≠ g by omega) ?_
          have h8 := cell_below HBL5.out z4 hy
          exact (World.cell?_of_block (w := w4.alloc (.cells #[.string ⟨#[112, 111, 105, 110, 116]⟩] 9)) (a := ⟨X, o, none⟩) (HGB6.out X (by rw [World.size_alloc]; omega) (fun he => by have := (hvl X he.symm).2; omega))).trans h8
        have yA0 := hXA0 0 _ y0
        have yA1 := hXA0 1 _ y1
        have hXA : X < wA.heap.size := World.block_lt_of_cell? wA _ yA0
        obtain ⟨LS, hLS⟩ : ∃ LS, ((headT d0 d1 ++ codeT d2 d3 k) ++ [[112, 111, 105, 110, 116]]) ++ factT [97, 116] fs = LS := ⟨_, rfl⟩
        have hlsn : LS.length ≤ 1000 := by
          have h9 : fs.length ≤ 6 := over_len (HVP.out _ (List.mem_of_getElem? HZ'.out))
          rw [← hLS]
          simp only [List.length_append, List.length_cons, List.length_nil, factT_len] at hn701 ⊢
          omega
        have HLS : Hid (LS ++ [lineF (op, arg)] = headT d0 d1 ++ codeT d2 d3 (k + 1)) := by
          unfold Hid
          rw [HN.out, ptT_some HPJ.out HZ'.out, ← hLS]
          simp
        rw [hLS] at HOA
        have HCI := hid (fun (w' : World) (hb : Below g W1 w') => c_instrText op arg w' h0 h1 hi2 (HTO.out w' hb))
        obtain ⟨LN, hLN⟩ : ∃ L, lineF (op, arg) = L := ⟨_, rfl⟩
        rw [hLN] at HCI hlen HLS
        clear hLN hLS y0 y1 z4 cr4 fr4 hg4 cr5 fr5 cr6 fr6 HO4 HO5 HO6 HBK5 HBL5 HGB6 HNB6 HB6 HB7 HKA hX6 hXA0 HN hvl
        have hAs : wA.heap.size ≤ wA.drew.heap.size := Nat.le_refl _
        go_wp2
        go_region_law (first | (refine step_own (C := cStr) rfl (.tmp 41) (.tmp 44) _ rfl slTx rfl rfl HO9.out HBK9.out no_blk LN (rd_str (by omega)) (by omega) (by rw [World.size_alloc]; omega) ?_; intro v10 w10 hO10 hb10; obtain ⟨ax, px, hvx⟩ := own_len hO10; generalize (LS ++ [LN]).length = nx at hvx; subst hvx; have c10 := cell_below hb10 (Nat.lt_succ_self g) c9; have f10 := frz_below hb10 (Nat.lt_succ_self g) f9; have HO10 := hid hO10; have hg10 : g < w10.heap.size := Nat.lt_of_lt_of_le (by rw [World.size_alloc]; omega) hb10.size; have HB10 := hid (HB9A.out.trans (hb10.mono (Nat.le_succ g))); clear hO10 hb10) | (go_simp; go_at_call 52; refine (HCI.out _ (HBA.out.drew)).mono ?_; rintro e w9 ⟨rfl, hb9⟩; unfold strOf; have HBD : Hid (Below wA.heap.size wA w9) := (Below.refl _ wA).drew.trans hb9; have HB9D := hid (HBD.out.alloc (HBD.out.size) (.cells #[.string ⟨LN.toArray⟩] 9)); have HB9A := hid (HBA.out.trans (HB9D.out.mono (Nat.le_of_lt hgA))); have HO9 := hid (own_alloc (own_below HOA.out (Nat.le_refl _) HBD.out) (.cells #[.string ⟨LN.toArray⟩] 9)); have HBK9 := hid (heap_new w9 (.cells #[.string ⟨LN.toArray⟩] 9)); have hz9 : g + 1 ≤ w9.heap.size := Nat.lt_of_lt_of_le hgA HBD.out.size; have cw := cell_below HBD.out hgA cA; have yw0 := cell_below HBD.out hXA yA0; have yw1 := cell_below HBD.out hXA yA1; have c9 := cell_below HB9D.out hgA cA; have f9 := frz_below HB9D.out hgA fA; clear hb9))
        all_goals
          go_wp2
          go_roundw
          case rel => exact ⟨k + 1, _, by omega, by go_num, by rw [size_set]; exact hg10, World.cell?_setCell_same _ _ _ c10, by rw [World.frozen?_setCell]; exact f10, by rw [← HLS.out]; exact own_keep HO10.out (fun _ h _ => h) fun b hl hs => heap_setCell_ne _ _ _ (by rcases hs with hs | hs; (exact hs.elim); (have := own_lt HO10.out b hs.symm; show b ≠ g; omega)), HB10.out.setCell (Nat.le_refl g) _⟩
          case measure => simp [intOf]; omega
      · skip
        rcases pointF_cases d3 k with ⟨j, p, h9, _, _⟩ | ⟨hpn, _⟩
        · exfalso; apply hp; rw [h9]; omega
        rw [hpn]
        obtain ⟨wA, hwA⟩ : ∃ wA, wA = w4 := ⟨_, rfl⟩
        obtain ⟨vA, hvA⟩ : ∃ vA, vA = u := ⟨_, rfl⟩
        rw [← hwA] at y0 y1 z4 cr4 fr4 hg4 HO4 HBW ⊢
        rw [← hvA] at HO4 cr4
        have yA0 := y0
        have yA1 := y1
        have hXA := z4
        have cA := cr4
        have fA := fr4
        have hgA := hg4
        have HBA := HBW
        obtain ⟨LS, hLS⟩ : ∃ LS, headT d0 d1 ++ codeT d2 d3 k = LS := ⟨_, rfl⟩
        have hlsn : LS.length ≤ 1000 := by rw [← hLS]; omega
        have HLS : Hid (LS ++ [lineF (op, arg)] = headT d0 d1 ++ codeT d2 d3 (k + 1)) := by
          unfold Hid
          rw [HN.out, ptT_none (by rw [hpn]; decide), List.nil_append, ← hLS, List.append_assoc]
        rw [hLS] at HO4
        have HOA := HO4
        have HCI := hid (fun (w' : World) (hb : Below g W1 w') => c_instrText op arg w' h0 h1 hi2 (HTO.out w' hb))
        obtain ⟨LN, hLN⟩ : ∃ L, lineF (op, arg) = L := ⟨_, rfl⟩
        rw [hLN] at HCI hlen HLS
        clear hp hpn hLN hLS y0 y1 z4 cr4 fr4 hg4 HO4 HN hvl hwA hvA HBW
        have hAs : wA.heap.size ≤ wA.drew.heap.size := Nat.le_refl _
        go_wp2
        go_region_law (first | (refine step_own (C := cStr) rfl (.tmp 41) (.tmp 44) _ rfl slTx rfl rfl HO9.out HBK9.out no_blk LN (rd_str (by omega)) (by omega) (by rw [World.size_alloc]; omega) ?_; intro v10 w10 hO10 hb10; obtain ⟨ax, px, hvx⟩ := own_len hO10; generalize (LS ++ [LN]).length = nx at hvx; subst hvx; have c10 := cell_below hb10 (Nat.lt_succ_self g) c9; have f10 := frz_below hb10 (Nat.lt_succ_self g) f9; have HO10 := hid hO10; have hg10 : g < w10.heap.size := Nat.lt_of_lt_of_le (by rw [World.size_alloc]; omega) hb10.size; have HB10 := hid (HB9A.out.trans (hb10.mono (Nat.le_succ g))); clear hO10 hb10) | (go_simp; go_at_call 52; refine (HCI.out _ (HBA.out.drew)).mono ?_; rintro e w9 ⟨rfl, hb9⟩; unfold strOf; have HBD : Hid (Below wA.heap.size wA w9) := (Below.refl _ wA).drew.trans hb9; have HB9D := hid (HBD.out.alloc (HBD.out.size) (.cells #[.string ⟨LN.toArray⟩] 9)); have HB9A := hid (HBA.out.trans (HB9D.out.mono (Nat.le_of_lt hgA))); have HO9 := hid (own_alloc (own_below HOA.out (Nat.le_refl _) HBD.out) (.cells #[.string ⟨LN.toArray⟩] 9)); have HBK9 := hid (heap_new w9 (.cells #[.string ⟨LN.toArray⟩] 9)); have hz9 : g + 1 ≤ w9.heap.size := Nat.lt_of_lt_of_le hgA HBD.out.size; have cw := cell_below HBD.out hgA cA; have yw0 := cell_below HBD.out hXA yA0; have yw1 := cell_below HBD.out hXA yA1; have c9 := cell_below HB9D.out hgA cA; have f9 := frz_below HB9D.out hgA fA; clear hb9))
        all_goals
          go_wp2
          go_roundw
          case rel => exact ⟨k + 1, _, by omega, by go_num, by rw [size_set]; exact hg10, World.cell?_setCell_same _ _ _ c10, by rw [World.frozen?_setCell]; exact f10, by rw [← HLS.out]; exact own_keep HO10.out (fun _ h _ => h) fun b hl hs => heap_setCell_ne _ _ _ (by rcases hs with hs | hs; (exact hs.elim); (have := own_lt HO10.out b hs.symm; show b ≠ g; omega)), HB10.out.setCell (Nat.le_refl g) _⟩
          case measure => simp [intOf]; omega
    · have HK : Hid (nlF (annT (d0, d1, d2, d3)) = nlF (headT d0 d1 ++ codeT d2 d3 k)) := by rw [show k = d2.length by omega]; exact rfl
      obtain ⟨_, _, hnl, _⟩ := ann_bounds HVA.out k hk
      have e1 : decide ((k : Int) < (d2.length : Int)) = false := decide_eq_false (by omega)
      obtain ⟨LS, hLS⟩ : ∃ LS, headT d0 d1 ++ codeT d2 d3 k = LS := ⟨_, rfl⟩
      rw [hLS] at HO HK hnl
      obtain ⟨a9, p9, rfl, hs9⟩ := own_rd (own_keep (S' := Fresh (g + 1) wr) HO.out (fun _ h => h.elim) fun _ _ _ => rfl) (Nat.le_refl _)
      have HC := hid (c_withNewlines hs9 (by omega))
      clear hLS hs9 HXR
      go_wp2_with (go_at_call 53; refine HC.out.mono ?_; rintro e w9 ⟨rfl, hb9⟩; have HB9 := hid (bel_next HBR.out (Nat.le_of_lt hgr) hb9); clear hb9; unfold strOf)
      go_ret
      rw [HK.out]
      exact ⟨rfl, HB1.out.trans (HB9.out.mono (Nat.le_of_lt hgw))⟩
theorem c_AnnotatedText {S : Nat → Prop} {B : Nat} {a0 : Option Addr} {p0 : Nat} {d0 : List Term} {a1 : Option Addr} {p1 : Nat} {d1 : List Term} {a2 : Option Addr} {p2 : Nat} {d2 : List Instr} {a3 : Option Addr} {p3 : Nat} {d3 : List Pt} {w : World} (h0 : SlRd cTerm S w a0 p0 d0) (h1 : SlRd cTerm S w a1 p1 d1) (h2 : SlRd cInstr S w a2 p2 d2) (h3 : SlRd cPoint S w a3 p3 d3) (ht : TabE B w) :
    Calls Tryd.prog 8 #[.agg #[.slice a0 d0.length p0, .slice a1 d1.length p1, .slice a2 d2.length p2, .slice a3 d3.length p3]] w fun e w' => e = .returned (.tuple #[strOf (annTextF (d0, d1, d2, d3)).1, .bool (annTextF (d0, d1, d2, d3)).2]) ∧ Below w.heap.size w w' := by
  have H0 := hid (h0.alloc (.cells #[.slice a0 d0.length p0, .slice a1 d1.length p1, .slice a2 d2.length p2, .slice a3 d3.length p3] 34))
  have H1 := hid (h1.alloc (.cells #[.slice a0 d0.length p0, .slice a1 d1.length p1, .slice a2 d2.length p2, .slice a3 d3.length p3] 34))
  have H2 := hid (h2.alloc (.cells #[.slice a0 d0.length p0, .slice a1 d1.length p1, .slice a2 d2.length p2, .slice a3 d3.length p3] 34))
  have H3 := hid (h3.alloc (.cells #[.slice a0 d0.length p0, .slice a1 d1.length p1, .slice a2 d2.length p2, .slice a3 d3.length p3] 34))
  have HX : Hid (AnB (w.alloc (.cells #[.slice a0 d0.length p0, .slice a1 d1.length p1, .slice a2 d2.length p2, .slice a3 d3.length p3] 34)) w.heap.size a0 d0.length p0 a1 d1.length p1 a2 d2.length p2 a3 d3.length p3) := AnB.new _ _ _ _ _ _ _ _ _ _ _ _ _ _
  have HB : Hid (Below w.heap.size w (w.alloc (.cells #[.slice a0 d0.length p0, .slice a1 d1.length p1, .slice a2 d2.length p2, .slice a3 d3.length p3] 34))) := (Below.refl _ _).alloc (Nat.le_refl _) _
  have HT := hid (ht.belows (HB.out.mono ht.2))
  clear h0 h1 h2 h3 ht
  obtain ⟨r, hr⟩ : ∃ r, validAn (d0, d1, d2, d3) = r := ⟨_, rfl⟩
  have HR := hid hr
  cases r
  · have HF : Hid (annTextF (d0, d1, d2, d3) = ([], false)) := by unfold Hid annTextF; rw [hr]; rfl
    clear hr
    go_enter Tryd.func8, Tryd.ntmps8
    go_wp2_with fail
    refine (c_ValidAnnotated H0.out H1.out H2.out H3.out).mono ?_
    rintro e w1 ⟨rfl, hb1⟩
    rw [HR.out]
    have HB1 := hid (bel_next HB.out HB.out.size hb1)
    clear hb1
    go_wp2
    go_ret2
    rw [HF.out]
    exact ⟨rfl, HB1.out⟩
  · have HF : Hid (annTextF (d0, d1, d2, d3) = (nlF (annT (d0, d1, d2, d3)), true)) := by unfold Hid annTextF; rw [hr]; rfl
    clear hr
    go_enter Tryd.func8, Tryd.ntmps8
    go_wp2_with fail
    refine (c_ValidAnnotated H0.out H1.out H2.out H3.out).mono ?_
    rintro e w1 ⟨rfl, hb1⟩
    rw [HR.out]
    have HB1 := hid (bel_next HB.out HB.out.size hb1)
    obtain ⟨_, q0, q1, q2, q3⟩ := HX.out.below hb1
    have HC := hid (c_annotatedText (H0.out.below (Nat.le_refl _) hb1) (H1.out.below (Nat.le_refl _) hb1) (H2.out.below (Nat.le_refl _) hb1) (H3.out.below (Nat.le_refl _) hb1) HR.out (HT.out.on hb1))
    clear hb1 H0 H1 H2 H3 HX HB
    obtain ⟨X, hX⟩ : ∃ X, nlF (annT (d0, d1, d2, d3)) = X := ⟨_, rfl⟩
    rw [hX] at HC HF
    clear hX
    go_wp2_with (go_at_call 24; refine HC.out.mono ?_; rintro e w2 ⟨rfl, hb2⟩; have HB2 := hid (bel_next HB1.out HB1.out.size hb2); clear hb2; unfold strOf)
    go_ret2
    rw [HF.out]
    exact ⟨rfl, HB2.out⟩
end Go.Proofs.YtcmopmapdomneaaDoor
end
