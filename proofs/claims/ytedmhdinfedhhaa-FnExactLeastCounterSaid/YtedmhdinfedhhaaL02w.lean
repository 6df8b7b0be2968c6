/- Contracts: the least counterexample. -/
import Derived.Test.YtedmhdinfedhhaaL02z
namespace Go.Proofs.Ytedmhdinfedhhaa
open Go.RowKit

set_option maxHeartbeats 4000000 in
set_option maxRecDepth 100000 in
theorem c_sLeastCounter {S : Nat → Prop} {d1 : Int} {a0 : Option Addr} {p0 : Nat} {d0 : List Term} {a2 : Option Addr} {p2 : Nat} {d2 : List Int} {r : Int} {w : World} (h0 : SlRd cTerm S w a0 p0 d0) (h2 : SlRd cInt S w a2 p2 d2) :
    Calls Try.prog 24 #[.agg #[.slice a0 d0.length p0, .int .i64 d1, .slice a2 d2.length p2], .int .i64 r] w (RetSlB cInt (leastF (d0, d1, d2) r).1 (leastF (d0, d1, d2) r).2 w) := by
  have H0 := hid ((h0.keep (S' := fun b => b < w.heap.size) (w' := w) fun b _ hl => ⟨hl, rfl⟩).alloc (.cells #[.slice a0 d0.length p0, .int .i64 d1, .slice a2 d2.length p2] 52))
  have H2 := hid ((h2.keep (S' := fun b => b < w.heap.size) (w' := w) fun b _ hl => ⟨hl, rfl⟩).alloc (.cells #[.slice a0 d0.length p0, .int .i64 d1, .slice a2 d2.length p2] 52))
  have HB : Hid (Below w.heap.size w (w.alloc (.cells #[.slice a0 d0.length p0, .int .i64 d1, .slice a2 d2.length p2] 52))) := (Below.refl _ _).alloc (Nat.le_refl _) _
  have t0 : (w.alloc (.cells #[.slice a0 d0.length p0, .int .i64 d1, .slice a2 d2.length p2] 52)).cell? ⟨w.heap.size, 0, none⟩ = some (.slice a0 d0.length p0) := by rw [World.cell?_alloc_at _ _ _ _ rfl]; rfl
  have t1 : (w.alloc (.cells #[.slice a0 d0.length p0, .int .i64 d1, .slice a2 d2.length p2] 52)).cell? ⟨w.heap.size, 0 + 1, none⟩ = some (.int .i64 d1) := by rw [World.cell?_alloc_at _ _ _ _ rfl]; rfl
  have t2 : (w.alloc (.cells #[.slice a0 d0.length p0, .int .i64 d1, .slice a2 d2.length p2] 52)).cell? ⟨w.heap.size, 0 + 1 + 1, none⟩ = some (.slice a2 d2.length p2) := by rw [World.cell?_alloc_at _ _ _ _ rfl]; rfl
  have hs0 : (w.alloc (.cells #[.slice a0 d0.length p0, .int .i64 d1, .slice a2 d2.length p2] 52)).heap.size = w.heap.size + 1 := by simp
  have HV := hid (c_l02Sequent t0 t1 t2 H0.out H2.out)
  have hl0 := h0.len_le
  have hl2 := h2.len_le
  obtain ⟨q, hq⟩ : ∃ q, validSq (d0, d1, d2) = q := ⟨_, rfl⟩
  obtain ⟨u, hu⟩ : ∃ u, inB r 0 4 = u := ⟨_, rfl⟩
  have HQ := hid hq
  have HU := hid hu
  have HF : Hid (leastF (d0, d1, d2) r = if (q && u) && decide ((symF (d0 ++ [(d1, d2)])).length ≤ 4) then optB (leastO (d0, d1, d2) (symF (d0 ++ [(d1, d2)])) r) else ([], false)) := by unfold Hid leastF; rw [hq, hu]
  clear h0 h2 hq hu
  go_enter Try.func24, Try.ntmps24
  go_wp2_with fail
  generalize w.alloc (.cells #[.slice a0 d0.length p0, .int .i64 d1, .slice a2 d2.length p2] 52) = W at *
  refine HV.out.mono ?_
  rintro e w1 ⟨rfl, rfl⟩
  rw [HQ.out]
  cases q
  · go_wp2
    go_ret2
    rw [HF.out]
    exact ⟨none, 0, rfl, nil_rd _ _ _, HB.out⟩
  · cases u
    · go_wp2_with (go_at_call 68; refine (c_l00In _ _ _ _).mono ?_; rintro e w2 ⟨rfl, rfl⟩; rw [HU.out])
      go_ret2
      rw [HF.out]
      exact ⟨none, 0, rfl, nil_rd _ _ _, HB.out⟩
    · obtain ⟨hr0, hr4⟩ := inB_iff.1 HU.out
      obtain ⟨hn13, hvt, hvg, hg10⟩ := validSq_iff HQ.out
      simp only at hn13 hvt hvg hg10
      have HVL : Hid (∀ t ∈ d0 ++ [(d1, d2)], t.2.length ≤ 10) := fun t ht => by
        rcases List.mem_append.1 ht with h | h
        · exact (hvt t h).2
        · simp at h; subst h; exact hg10
      obtain ⟨AL, hAL⟩ : ∃ AL, d0 ++ [(d1, d2)] = AL := ⟨_, rfl⟩
      have HAL := hid hAL
      rw [hAL] at HVL HF
      clear hAL
      have HVL0 : Hid (∀ t ∈ d0, t.2.length ≤ 1048576) := fun t ht => by have := (hvt t ht).2; omega
      have HCO : Hid (∀ wz : World, Below (w.heap.size + 1) W wz → Calls Try.prog 70 #[.slice a0 d0.length p0] wz fun e w' => ∃ v, e = .returned v ∧ OwnSl cTerm (fun b => wz.heap.size ≤ b ∧ b < w'.heap.size) w' wz.heap.size 50 v d0 ∧ Below wz.heap.size wz w') := fun wz hz => c_l02OwnAll (H0.out.below (by omega) hz) (by omega) HVL0.out
      have hd1 : I64 d1 := by
        obtain ⟨_, hgc, _⟩ := validTerm_iff hvg
        unfold Mid at hgc; unfold I64; simp only at hgc; omega
      have HD : Hid (Below (w.heap.size + 1) W W.drew) := below_drewN _ _ 1
      have HDA : Hid (Below (w.heap.size + 1) W (W.alloc (.cells #[.int .i64 d1, .slice a2 d2.length p2] 50)).drew) := ((Below.refl _ _).alloc (by omega) _).trans (below_drewN _ _ 1)
      have hda : (W.alloc (.cells #[.int .i64 d1, .slice a2 d2.length p2] 50)).drew.heap.size = w.heap.size + 2 := by show (W.alloc (.cells #[.int .i64 d1, .slice a2 d2.length p2] 50)).heap.size = _; rw [World.size_alloc]; omega
      have hXN : Hid ((W.alloc (.cells #[.int .i64 d1, .slice a2 d2.length p2] 50)).drew.heap[w.heap.size + 1]? = some (.cells #[.int .i64 d1, .slice a2 d2.length p2] 50 (0, 0))) := by unfold Hid; rw [← hs0]; exact heap_new _ _
      have HK : Hid (∀ wz : World, Below (w.heap.size + 1) W wz → wz.cell? ⟨w.heap.size, 0, none⟩ = some (.slice a0 d0.length p0) ∧ wz.cell? ⟨w.heap.size, 1, none⟩ = some (.int .i64 d1) ∧ wz.cell? ⟨w.heap.size, 2, none⟩ = some (.slice a2 d2.length p2)) := fun wz hz => ⟨cell_below hz (by omega) t0, cell_below hz (by omega) t1, cell_below hz (by omega) t2⟩
      have HGL : Hid (∀ wz : World, Below (w.heap.size + 1) W wz → SlRd cInt (fun b => b < w.heap.size) wz a2 p2 d2) := fun wz hz => H2.out.below (by omega) hz
      have hdz : W.drew.heap.size = w.heap.size + 1 := hs0
      clear hvt hvg
      go_wp2_with (go_at_call 68; refine (c_l00In _ _ _ _).mono ?_; rintro e w2 ⟨rfl, rfl⟩; rw [HU.out])
      go_region_held3 (fun w' => w'.cell? ⟨w.heap.size, 0, none⟩ = some (.slice a0 d0.length p0) ∧ w'.cell? ⟨w.heap.size, 1, none⟩ = some (.int .i64 d1) ∧ w'.cell? ⟨w.heap.size, 2, none⟩ = some (.slice a2 d2.length p2)) (exact HK.out _ (by with_reducible first | exact HD.out | exact HDA.out | exact HB4.out | exact HB3.out | exact HB2.out | exact HB2A.out)) (first | (go_at_call 70; refine (HCO.out _ (by with_reducible first | exact HD.out | exact HDA.out)).mono ?_; rintro e w2 ⟨v2, rfl, hO2, hb2⟩; have HB2 : Below (w.heap.size + 1) W w2 := (by with_reducible first | exact bel_next HD.out (Nat.le_of_eq hdz.symm) hb2 | exact bel_next HDA.out (by rw [hda]; omega) hb2); have HB2 := hid HB2; have hz2 : w.heap.size + 1 ≤ w2.heap.size := Nat.le_trans (by omega) HB2.out.size; have HB2A : Hid (Below (w.heap.size + 1) W (w2.alloc (.cells #[.int .i64 d1, .slice a2 d2.length p2] 50))) := HB2.out.alloc hz2 _; have hob2 : ∀ b, some b = v2.ownBlock → w.heap.size + 1 ≤ b := (fun b e => by have h9 := (own_lt hO2 b e.symm).1; first | (rw [hdz] at h9; exact h9) | (rw [hda] at h9; omega)); have HOB := hid (fun (bb : Nat) (hb : w.heap.size + 1 ≤ bb) => (hb : w.heap.size + 1 ≤ bb)); have HOA1 : Hid (OwnSl cTerm (fun b => b < (w2.alloc (.cells #[.int .i64 d1, .slice a2 d2.length p2] 50)).heap.size) (w2.alloc (.cells #[.int .i64 d1, .slice a2 d2.length p2] 50)) (w.heap.size + 1) 50 v2 d0) := own_base (own_wide (own_alloc hO2 _) fun b _ hl => hl) (by first | exact Nat.le_of_eq hdz.symm | (rw [hda]; omega)); have HBK1 : Hid ((w2.alloc (.cells #[.int .i64 d1, .slice a2 d2.length p2] 50)).heap[w2.heap.size]? = some (.cells #[.int .i64 d1, .slice a2 d2.length p2] 50 (0, 0))) := heap_new _ _; have HRD1 : Hid (cTerm.rd (fun b => b < (w2.alloc (.cells #[.int .i64 d1, .slice a2 d2.length p2] 50)).heap.size ∧ some b ≠ v2.ownBlock) (w2.alloc (.cells #[.int .i64 d1, .slice a2 d2.length p2] 50)) #[.int .i64 d1, .slice a2 d2.length p2].toList (d1, d2)) := rd_term hd1 ((HGL.out _ HB2A.out).keep fun b hb hl => ⟨⟨hl, fun e => by have := hob2 b e; omega⟩, rfl⟩); have HOA2 : Hid (OwnSl cTerm (fun b => b < w2.heap.size) w2 (w.heap.size + 1) 50 v2 d0) := own_base (own_wide hO2 fun b _ hl => hl) (by first | exact Nat.le_of_eq hdz.symm | (rw [hda]; omega)); have HRD2 : Hid (cTerm.rd (fun b => b < w2.heap.size ∧ some b ≠ v2.ownBlock) w2 #[.int .i64 d1, .slice a2 d2.length p2].toList (d1, d2)) := rd_term hd1 ((HGL.out _ HB2.out).keep fun b hb hl => ⟨⟨hl, fun e => by have := hob2 b e; omega⟩, rfl⟩); (try (have HBK2 : w2.heap[w.heap.size + 1]? = some (.cells #[.int .i64 d1, .slice a2 d2.length p2] 50 (0, 0)) := (by with_reducible exact (hb2.block (w.heap.size + 1) (by rw [hda]; omega)).trans hXN.out); have HBK2 := hid HBK2)); clear hO2 hb2 hob2 HOB) | (go_at_call 69; refine (c_l02Symbols HS3.out HVL.out).mono ?_; rintro e w4 ⟨a6, p6, rfl, hs6, hb6⟩; have HS6 := hid hs6; have HB4 : Hid (Below (w.heap.size + 1) W w4) := bel_next HB3.out (Nat.le_trans (by omega) HB3.out.size) hb6; clear hs6 hb6) | (refine step_own (C := cTerm) rfl (.tmp 16) (.tmp 19) _ rfl slTerm rfl rfl HOA2.out HBK2.out (fun b h => h) (d1, d2) HRD2.out (by omega) (hz2) ?_; intro v3 w3 hO3 hb3; rw [HAL.out] at hO3; obtain ⟨a3, p3, rfl, hs3⟩ := own_rdS hO3; have HS3 := hid hs3; have HB3 : Hid (Below (w.heap.size + 1) W w3) := HB2.out.trans hb3; clear hO3 hs3 hb3) | (refine step_own (C := cTerm) rfl (.tmp 16) (.tmp 19) _ rfl slTerm rfl rfl HOA1.out HBK1.out (fun b h => h) (d1, d2) HRD1.out (by omega) (by rw [World.size_alloc]; omega) ?_; intro v3 w3 hO3 hb3; rw [HAL.out] at hO3; obtain ⟨a3, p3, rfl, hs3⟩ := own_rdS hO3; have HS3 := hid hs3; have HB3 : Hid (Below (w.heap.size + 1) W w3) := HB2A.out.trans hb3; clear hO3 hs3 hb3))
      all_goals
        have hsyo := symF_ok AL
        obtain ⟨SY, hSY⟩ : ∃ SY, symF AL = SY := ⟨_, rfl⟩
        rw [hSY] at HS6 HF hsyo ⊢
        have HSO := hid hsyo
        have hs10 := hsyo.le
        obtain ⟨s0, s1, s2⟩ := HK.out w4 HB4.out
        have HBW := hid (HB.out.trans (HB4.out.mono (Nat.le_succ _)))
        have hw4 : w.heap.size < w4.heap.size := by have h9 := HB4.out.size; omega
        have H04 := hid (H0.out.below (by omega) HB4.out)
        have H24 := hid (H2.out.below (by omega) HB4.out)
        clear hSY hsyo
        by_cases h4 : SY.length ≤ 4
        · have e1 : decide (4 < SY.length) = false := by simp; omega
          have HF2 : Hid (leastF (d0, d1, d2) r = optB (leastO (d0, d1, d2) SY r)) := by unfold Hid; rw [HF.out]; simp [h4]
          have HC := hid (c_l02Least s0 s1 s2 hw4 H04.out H24.out HS6.out HQ.out HSO.out h4 hr0 hr4)
          go_wp2_with (go_at_call 71; refine HC.out.mono ?_; rintro e w5 ⟨a7, p7, rfl, hs7, hb7⟩; have HS7 := hid hs7; have HB7 := hid (bel_next HBW.out HBW.out.size hb7); clear hs7 hb7)
          go_ret2
          rw [HF2.out]
          exact ⟨a7, p7, rfl, HS7.out.lower (by omega), HB7.out⟩
        · have e1 : decide (4 < SY.length) = true := by simp; omega
          have HF2 : Hid (leastF (d0, d1, d2) r = ([], false)) := by unfold Hid; rw [HF.out]; simp [h4]
          go_wp2
          go_ret2
          rw [HF2.out]
          exact ⟨none, 0, rfl, nil_rd _ _ _, HBW.out⟩
end Go.Proofs.Ytedmhdinfedhhaa
