/- Contracts: the least counterexample, the program's side. -/
import Derived.Test.YtedmhdinfedhhaaL02z
namespace Go.Proofs.Ytedmhdinfedhhaa
open Go.RowKit

set_option maxHeartbeats 4000000 in
set_option maxRecDepth 100000 in
theorem c_LeastCounter {S : Nat → Prop} {d1 : Int} {a0 : Option Addr} {p0 : Nat} {d0 : List Term} {a2 : Option Addr} {p2 : Nat} {d2 : List Int} {r : Int} {w : World} (h0 : SlRd cTerm S w a0 p0 d0) (h2 : SlRd cInt S w a2 p2 d2) :
    Calls Try.prog 26 #[.agg #[.slice a0 d0.length p0, .int .i64 d1, .slice a2 d2.length p2], .int .i64 r] w (RetSlB cInt (leastF (d0, d1, d2) r).1 (leastF (d0, d1, d2) r).2 w) := by
  have H0 := hid ((h0.keep (S' := fun b => b < w.heap.size) (w' := w) fun b _ hl => ⟨hl, rfl⟩).alloc (.cells #[.slice a0 d0.length p0, .int .i64 d1, .slice a2 d2.length p2] 52))
  have H2 := hid ((h2.keep (S' := fun b => b < w.heap.size) (w' := w) fun b _ hl => ⟨hl, rfl⟩).alloc (.cells #[.slice a0 d0.length p0, .int .i64 d1, .slice a2 d2.length p2] 52))
  have HB : Hid (Below w.heap.size w (w.alloc (.cells #[.slice a0 d0.length p0, .int .i64 d1, .slice a2 d2.length p2] 52))) := (Below.refl _ _).alloc (Nat.le_refl _) _
  have t0 : (w.alloc (.cells #[.slice a0 d0.length p0, .int .i64 d1, .slice a2 d2.length p2] 52)).cell? ⟨w.heap.size, 0, none⟩ = some (.slice a0 d0.length p0) := by rw [World.cell?_alloc_at _ _ _ _ rfl]; rfl
  have t1 : (w.alloc (.cells #[.slice a0 d0.length p0, .int .i64 d1, .slice a2 d2.length p2] 52)).cell? ⟨w.heap.size, 1, none⟩ = some (.int .i64 d1) := by rw [World.cell?_alloc_at _ _ _ _ rfl]; rfl
  have t2 : (w.alloc (.cells #[.slice a0 d0.length p0, .int .i64 d1, .slice a2 d2.length p2] 52)).cell? ⟨w.heap.size, 2, none⟩ = some (.slice a2 d2.length p2) := by rw [World.cell?_alloc_at _ _ _ _ rfl]; rfl
  have hs0 : (w.alloc (.cells #[.slice a0 d0.length p0, .int .i64 d1, .slice a2 d2.length p2] 52)).heap.size = w.heap.size + 1 := by simp
  have HV := hid (c_ValidSequent (d1 := d1) H0.out H2.out)
  have hl0 := h0.len_le
  have hl2 := h2.len_le
  obtain ⟨q, hq⟩ : ∃ q, validSq (d0, d1, d2) = q := ⟨_, rfl⟩
  obtain ⟨u, hu⟩ : ∃ u, inB r 0 4 = u := ⟨_, rfl⟩
  have HQ := hid hq
  have HU := hid hu
  have HF : Hid (leastF (d0, d1, d2) r = if (q && u) && decide ((symF (d0 ++ [(d1, d2)])).length ≤ 4) then optB (leastO (d0, d1, d2) (symF (d0 ++ [(d1, d2)])) r) else ([], false)) := by unfold Hid leastF; rw [hq, hu]
  clear h0 h2 hq hu
  go_enter Try.func26, Try.ntmps26
  go_wp2_with fail
  generalize w.alloc (.cells #[.slice a0 d0.length p0, .int .i64 d1, .slice a2 d2.length p2] 52) = W at *
  refine HV.out.mono ?_
  rintro e W2 ⟨rfl, hbv⟩
  rw [HQ.out]
  have HBV := hid (HB.out.trans (hbv.mono (by omega)))
  have H0v := hid (H0.out.below (Nat.le_refl _) hbv)
  have H2v := hid (H2.out.below (Nat.le_refl _) hbv)
  have t0v := cell_below hbv (by omega) t0
  have t1v := cell_below hbv (by omega) t1
  have t2v := cell_below hbv (by omega) t2
  have hsv : w.heap.size + 1 ≤ W2.heap.size := by have := hbv.size; omega
  clear hbv t0 t1 t2 H0 H2 HB HV hs0
  cases q
  · go_wp2
    go_ret2
    rw [HF.out]
    exact ⟨none, 0, rfl, nil_rd _ _ _, HBV.out⟩
  · cases u
    · go_wp2_with (go_at_call 73; refine (c_within _ _ _ _).mono ?_; rintro e w2 ⟨rfl, rfl⟩; rw [HU.out])
      go_ret2
      rw [HF.out]
      exact ⟨none, 0, rfl, nil_rd _ _ _, HBV.out⟩
    · obtain ⟨hr0, hr4⟩ := inB_iff.1 HU.out
      obtain ⟨hn13, hvt, hvg, hg10⟩ := validSq_iff HQ.out
      simp only at hn13 hvt hvg hg10
      obtain ⟨AL, hAL⟩ : ∃ AL, d0 ++ [(d1, d2)] = AL := ⟨_, rfl⟩
      have HAL := hid hAL
      rw [hAL] at HF
      clear hAL
      obtain ⟨N, hN⟩ : ∃ N, W2.heap.size = N := ⟨_, rfl⟩
      have hs0 : W2.heap.size = N := hN
      have hwN : w.heap.size + 1 ≤ N := by omega
      clear hN
      have HCO : Hid (∀ wz : World, Below N W2 wz → Calls Try.prog 75 #[.slice a0 d0.length p0] wz fun e w' => ∃ v, e = .returned v ∧ OwnSl cTerm (fun b => b < wz.heap.size) w' wz.heap.size 50 v d0 ∧ Below wz.heap.size wz w') := fun wz hz => c_cloneTerms (H0v.out.below (by omega) hz) (by omega)
      have hd1 : I64 d1 := by
        obtain ⟨_, hgc, _⟩ := validTerm_iff hvg
        unfold Mid at hgc; unfold I64; simp only at hgc; omega
      have HD : Hid (Below (N) W2 W2.drew) := below_drewN _ _ 1
      have HDA : Hid (Below (N) W2 (W2.alloc (.cells #[.int .i64 d1, .slice a2 d2.length p2] 50)).drew) := ((Below.refl _ _).alloc (by omega) _).trans (below_drewN _ _ 1)
      have hda : (W2.alloc (.cells #[.int .i64 d1, .slice a2 d2.length p2] 50)).drew.heap.size = N + 1 := by show (W2.alloc (.cells #[.int .i64 d1, .slice a2 d2.length p2] 50)).heap.size = _; rw [World.size_alloc]; omega
      have hXN : Hid ((W2.alloc (.cells #[.int .i64 d1, .slice a2 d2.length p2] 50)).drew.heap[N]? = some (.cells #[.int .i64 d1, .slice a2 d2.length p2] 50 (0, 0))) := by unfold Hid; rw [← hs0]; exact heap_new _ _
      have HK : Hid (∀ wz : World, Below (N) W2 wz → wz.cell? ⟨w.heap.size, 0, none⟩ = some (.slice a0 d0.length p0) ∧ wz.cell? ⟨w.heap.size, 1, none⟩ = some (.int .i64 d1) ∧ wz.cell? ⟨w.heap.size, 2, none⟩ = some (.slice a2 d2.length p2)) := fun wz hz => ⟨cell_below hz (by omega) t0v, cell_below hz (by omega) t1v, cell_below hz (by omega) t2v⟩
      have HGL : Hid (∀ wz : World, Below (N) W2 wz → SlRd cInt (fun b => b < w.heap.size) wz a2 p2 d2) := fun wz hz => H2v.out.below (by omega) hz
      have hdz : W2.drew.heap.size = N := hs0
      clear hvt hvg
      go_wp2_with (go_at_call 73; refine (c_within _ _ _ _).mono ?_; rintro e w2 ⟨rfl, rfl⟩; rw [HU.out])
      go_region_held3 (fun w' => w'.cell? ⟨w.heap.size, 0, none⟩ = some (.slice a0 d0.length p0) ∧ w'.cell? ⟨w.heap.size, 1, none⟩ = some (.int .i64 d1) ∧ w'.cell? ⟨w.heap.size, 2, none⟩ = some (.slice a2 d2.length p2)) (exact HK.out _ (by with_reducible first | exact HD.out | exact HDA.out | exact HB4.out | exact HB3.out | exact HB2.out | exact HB2A.out)) (first | (go_at_call 75; refine (HCO.out _ (by with_reducible first | exact HD.out | exact HDA.out)).mono ?_; rintro e w2 ⟨v2, rfl, hO2, hb2⟩; have HB2 : Below (N) W2 w2 := (by with_reducible first | exact bel_next HD.out (Nat.le_of_eq hdz.symm) hb2 | exact bel_next HDA.out (by rw [hda]; omega) hb2); have HB2 := hid HB2; have hz2 : N ≤ w2.heap.size := Nat.le_trans (by omega) HB2.out.size; have HB2A : Hid (Below (N) W2 (w2.alloc (.cells #[.int .i64 d1, .slice a2 d2.length p2] 50))) := HB2.out.alloc hz2 _; have hob2 : ∀ b, some b = v2.ownBlock → N ≤ b := (fun b e => by have h9 := (own_lt hO2 b e.symm).1; first | (rw [hdz] at h9; exact h9) | (rw [hda] at h9; omega)); have HOB := hid (fun (bb : Nat) (hb : N ≤ bb) => (hb : N ≤ bb)); have HOA1 : Hid (OwnSl cTerm (fun b => b < (w2.alloc (.cells #[.int .i64 d1, .slice a2 d2.length p2] 50)).heap.size) (w2.alloc (.cells #[.int .i64 d1, .slice a2 d2.length p2] 50)) (N) 50 v2 d0) := own_base (own_wide (own_alloc hO2 _) fun b _ hl => hl) (by first | exact Nat.le_of_eq hdz.symm | (rw [hda]; omega)); have HBK1 : Hid ((w2.alloc (.cells #[.int .i64 d1, .slice a2 d2.length p2] 50)).heap[w2.heap.size]? = some (.cells #[.int .i64 d1, .slice a2 d2.length p2] 50 (0, 0))) := heap_new _ _; have HRD1 : Hid (cTerm.rd (fun b => b < (w2.alloc (.cells #[.int .i64 d1, .slice a2 d2.length p2] 50)).heap.size ∧ some b ≠ v2.ownBlock) (w2.alloc (.cells #[.int .i64 d1, .slice a2 d2.length p2] 50)) #[.int .i64 d1, .slice a2 d2.length p2].toList (d1, d2)) := rd_term hd1 ((HGL.out _ HB2A.out).keep fun b hb hl => ⟨⟨hl, fun e => by have := hob2 b e; omega⟩, rfl⟩); have HOA2 : Hid (OwnSl cTerm (fun b => b < w2.heap.size) w2 (N) 50 v2 d0) := own_base (own_wide hO2 fun b _ hl => hl) (by first | exact Nat.le_of_eq hdz.symm | (rw [hda]; omega)); have HRD2 : Hid (cTerm.rd (fun b => b < w2.heap.size ∧ some b ≠ v2.ownBlock) w2 #[.int .i64 d1, .slice a2 d2.length p2].toList (d1, d2)) := rd_term hd1 ((HGL.out _ HB2.out).keep fun b hb hl => ⟨⟨hl, fun e => by have := hob2 b e; omega⟩, rfl⟩); (try (have HBK2 : w2.heap[N]? = some (.cells #[.int .i64 d1, .slice a2 d2.length p2] 50 (0, 0)) := (by with_reducible exact (hb2.block (N) (by rw [hda]; omega)).trans hXN.out); have HBK2 := hid HBK2)); clear hO2 hb2 hob2 HOB) | (go_at_call 74; refine (c_symbolsOf HS3.out).mono ?_; rintro e w4 ⟨a6, p6, rfl, hs6, hb6⟩; have HS6 := hid hs6; have HB4 : Hid (Below (N) W2 w4) := bel_next HB3.out (Nat.le_trans (by omega) HB3.out.size) hb6; clear hs6 hb6) | (refine step_own (C := cTerm) rfl (.tmp 21) (.tmp 24) _ rfl slTerm rfl rfl HOA2.out HBK2.out (fun b h => h) (d1, d2) HRD2.out (by omega) (hz2) ?_; intro v3 w3 hO3 hb3; rw [HAL.out] at hO3; obtain ⟨a3, p3, rfl, hs3⟩ := own_rdS hO3; have HS3 := hid hs3; have HB3 : Hid (Below (N) W2 w3) := HB2.out.trans hb3; clear hO3 hs3 hb3) | (refine step_own (C := cTerm) rfl (.tmp 21) (.tmp 24) _ rfl slTerm rfl rfl HOA1.out HBK1.out (fun b h => h) (d1, d2) HRD1.out (by omega) (by rw [World.size_alloc]; omega) ?_; intro v3 w3 hO3 hb3; rw [HAL.out] at hO3; obtain ⟨a3, p3, rfl, hs3⟩ := own_rdS hO3; have HS3 := hid hs3; have HB3 : Hid (Below (N) W2 w3) := HB2A.out.trans hb3; clear hO3 hs3 hb3))
      all_goals
        have HSY := hid (symF_ok AL)
        have hs10 := HSY.out.le
        obtain ⟨sy, hSY⟩ : ∃ SY, symF AL = SY := ⟨_, rfl⟩
        rw [hSY] at HS6 HF HSY hs10 ⊢
        obtain ⟨s0, s1, s2⟩ := HK.out w4 HB4.out
        have HBW := hid (HBV.out.trans (HB4.out.mono (by omega)))
        have hw4 : N ≤ w4.heap.size := by have h9 := HB4.out.size; omega
        have H04 := hid (H0v.out.below (by omega) HB4.out)
        have H24 := hid (H2v.out.below (by omega) HB4.out)
        clear hSY
        by_cases h4 : sy.length ≤ 4
        · have e1 : decide (4 < sy.length) = false := by simp; omega
          have HF2 : Hid (leastF (d0, d1, d2) r = optB (leastO (d0, d1, d2) sy r)) := by unfold Hid; rw [HF.out]; simp [h4]
          have hl4 := h4
          obtain ⟨RES, hRES⟩ : ∃ x, leastO (d0, d1, d2) sy r = x := ⟨_, rfl⟩
          have HBG : Hid (LInv (d0, d1, d2) sy r RES 6561 (begF sy r sy.length)) := by unfold Hid; rw [← hRES]; exact LInv.begin _ hr0 hr4 hl4
          rw [hRES] at HF2
          have hwr : IntKind.i64.wrap (-r) = -r := wrap_in _ (by omega) (by omega)
          obtain ⟨g1, hg1⟩ : ∃ g1, g1 = w4.heap.size := ⟨_, rfl⟩
          have hg1a : w4.heap.size ≤ g1 := by omega
          have hg1c : N ≤ g1 := by omega
          have H6 : Hid (SlRd cInt (fun b => b < g1) w4 a6 p6 sy) := HS6.out.keep fun b _ hl => ⟨by omega, rfl⟩
          clear hRES h4 HS6
          go_wp2_with (at_make; go_loud (refine wpList_mk rfl (.const (.int .i64 10)) (.const (.int .i64 10)) _ rfl rfl rfl (own_mk slI64 (C := cInt) (base := w4.heap.size) (fun _ => False) 10 (by omega) (Nat.le_refl _) 0 (fun _ _ => ⟨rfl, by omega, by omega⟩) _ _) ?_); rintro w2' ⟨hown, hg⟩; have HO2 := hid hown; have HG2 := hid ((Below.refl w4.heap.size w4).grown hg (Nat.le_refl _) (by simp)); clear hown hg)
          rw [← hg1] at HO2 HG2 ⊢
          have hgl2 : g1 < w2'.heap.size := (own_lt HO2.out g1 rfl).2
          clear hg1
          have HBG0 : Hid (begF sy r 0 = List.replicate 10 0) := rfl
          rw [← HBG0.out] at HO2
          go_loopw [33] (fun i wr => ∃ k : Nat, k ≤ sy.length ∧ i = .int .i64 k ∧ Hid (OwnSl cInt (fun _ => False) wr g1 2 (.slice (some ⟨g1, 0, none⟩) 10 10) (begF sy r k)) ∧ Hid (Below g1 w4 wr) ∧ g1 < wr.heap.size) (fun i _ => sy.length - (intOf i).toNat)
          case atStart => exact ⟨0, Nat.zero_le _, rfl, HO2, HG2, hgl2⟩
          case round =>
            obtain ⟨k, hk, rfl, HO, HBR, hgz⟩ := hrel
            have H6R := hid (H6.out.keep (S' := fun b => b < g1) (w' := wr) fun b hb _ => ⟨by omega, HBR.out.block b (by omega)⟩)
            by_cases hlt : k < sy.length
            · obtain ⟨b6, off6, rfl⟩ := H6R.out.some_of hlt
              obtain ⟨x, hx, hx64, hcx, hbx⟩ := H6R.out.int_at k hlt
              obtain ⟨x0, x1⟩ := HSY.out.rng x (List.mem_of_getElem? hx)
              obtain ⟨q, rfl⟩ := Int.eq_ofNat_of_zero_le x0
              have hq : q < 10 := by omega
              obtain ⟨z, hz, hz64, hcz, hfz, hgl, _⟩ := own_at_int HO.out (begF_len hr0 k) q hq
              have HS := hid (begF_succ (r := r) hx)
              have hset := own_set_int HO.out (begF_len hr0 k) q hq (-r) ⟨by omega, by omega⟩
              have HOS := hid hset.1
              have HBS := hid (HBR.out.setCell (p := ⟨g1, q, none⟩) (Nat.le_refl _) (.int .i64 (-r)))
              have hgs : g1 < (wr.setCell ⟨g1, q, none⟩ (.int .i64 (-r))).heap.size := by rw [size_set]; exact hgz
              have i0 : (0 : Int) ≤ (k : Int) := by omega
              have i1 : (k : Int) < (sy.length : Int) := by omega
              have q0 : (0 : Int) ≤ (q : Int) := by omega
              have q1 : (q : Int) < 10 := by omega
              clear hx hz hset
              go_wp2
              go_roundw
              case rel => exact ⟨k + 1, by omega, by go_num, by rw [HS.out, Int.toNat_natCast]; exact HOS, HBS, hgs⟩
              case measure => simp [intOf]; omega
            · have hke : k = sy.length := by omega
              subst hke
              have e1 : decide ((sy.length : Int) < (sy.length : Int)) = false := by simp
              go_wp2
              go_loopg [] 6561 (fun K wq => ∃ vs : List Int, K ≤ 6561 ∧ Hid (LInv (d0, d1, d2) sy r RES K vs) ∧ Hid (OwnSl cInt (fun _ => False) wq g1 2 (.slice (some ⟨g1, 0, none⟩) 10 10) vs) ∧ Hid (Below g1 w4 wq) ∧ g1 < wq.heap.size)
              case atStart => exact ⟨_, Nat.le_refl _, HBG, HO, HBR, hgz⟩
              case round =>
                clear HO HBR hgz H6R
                obtain ⟨vs, hK, HI, HO, HBR, hgz⟩ := hrel
                have hvok := HI.out.1
                have HVL := hid hvok.1
                have HVO := hid hvok
                obtain ⟨a7, p7, he7, hs7⟩ := own_rd (own_keep (S' := Fresh g1 wr) HO.out (fun _ h => h.elim) fun _ _ _ => rfl) (Nat.le_refl _)
                rw [hvok.1] at he7
                cases he7
                have HS7 := hid hs7
                have H6R := hid (H6.out.keep (S' := fun b => b < g1) (w' := wr) fun b hb _ => ⟨by omega, HBR.out.block b (by omega)⟩)
                obtain ⟨s0, s1, s2⟩ := HK.out wr (HB4.out.trans (HBR.out.mono (by omega)))
                have H0R := hid (H04.out.keep (S' := fun b => b < g1) (w' := wr) fun b hb _ => ⟨by omega, HBR.out.block b (by omega)⟩)
                have H2R := hid (H24.out.keep (S' := fun b => b < g1) (w' := wr) fun b hb _ => ⟨by omega, HBR.out.block b (by omega)⟩)
                obtain ⟨cb, hcb⟩ : ∃ cb, counterB (d0, d1, d2) vs = cb := ⟨_, rfl⟩
                have HC := hid (c_IsCounter (d1 := d1) H0R.out H2R.out HS7.out)
                have hcf : counterF (d0, d1, d2) vs = cb := by unfold counterF; rw [HQ.out, hvok.values hr4, hcb]; rfl
                rw [hcf, hvok.1] at HC
                clear hcf
                have HCB := hid hcb
                clear hs7 hcb hvok
                cases cb
                · have HOK := HI.out
                  go_wp2_with fail
                  refine HC.out.mono ?_
                  rintro e w5 ⟨rfl, hb5⟩
                  have HO5 := hid (own_below HO.out (Nat.le_refl _) hb5)
                  have HB5 := hid (HBR.out.trans (hb5.mono (by omega)))
                  have hgz5 := Nat.lt_of_lt_of_le hgz hb5.size
                  clear hb5 HC HO HBR HS7 H6R hgz HOK s0 s1 s2 H0R H2R
                  have hsw : IntKind.i64.wrap ((sy.length : Int) - 1) = (sy.length : Int) - 1 := wrap_in _ (by omega) (by omega)
                  go_wp2
                  go_loopw [10] (fun jj wz => ∃ (j : Nat) (us : List Int), j ≤ sy.length ∧ jj = .int .i64 ((j : Int) - 1) ∧ Hid (incF sy r j us = incF sy r sy.length vs) ∧ Hid (VOk r us) ∧ Hid (OwnSl cInt (fun _ => False) wz g1 2 (.slice (some ⟨g1, 0, none⟩) 10 10) us) ∧ Hid (Below g1 w4 wz) ∧ g1 < wz.heap.size) (fun jj _ => (intOf jj + 1).toNat)
                  case atStart => exact ⟨sy.length, vs, Nat.le_refl _, rfl, rfl, HVO, HO5, HB5, hgz5⟩
                  case round =>
                    clear HO5 HB5 hgz5
                    obtain ⟨j, us, hj, rfl, HIN, HUO, HO, HBR, hgz⟩ := hrel
                    have H6R := hid (H6.out.keep (S' := fun b => b < g1) (w' := wr) fun b hb _ => ⟨by omega, HBR.out.block b (by omega)⟩)
                    cases j with
                    | zero =>
                      have HNO : Hid (incF sy r sy.length vs = none) := HIN.out.symm.trans rfl
                      have HRE := hid (HI.out.stop hr0 HCB.out HNO.out)
                      have e3 : ((0 : Nat) : Int) - 1 = -1 := rfl
                      rw [e3]
                      go_wp2
                      go_ret2
                      rw [HF2.out, HRE.out]
                      exact ⟨none, 0, rfl, nil_rd _ _ _, HBW.out.trans (HBR.out.mono (by omega))⟩
                    | succ j =>
                      have e3 : ((j + 1 : Nat) : Int) - 1 = (j : Int) := by omega
                      rw [e3]
                      have hjl : j < sy.length := by omega
                      obtain ⟨b6, off6, rfl⟩ := H6R.out.some_of hjl
                      obtain ⟨x, hx, hx64, hcx, hbx⟩ := H6R.out.int_at j hjl
                      obtain ⟨x0, x1⟩ := HSY.out.rng x (List.mem_of_getElem? hx)
                      obtain ⟨q, rfl⟩ := Int.eq_ofNat_of_zero_le x0
                      have hq : q < 10 := by omega
                      obtain ⟨z, hz, hz64, hcz, hfz, hgl, _⟩ := own_at_int HO.out HUO.out.1 q hq
                      obtain ⟨hz1, hz2⟩ := HUO.out.at hz
                      have j0 : (0 : Int) ≤ (j : Int) := by omega
                      have j1 : (j : Int) < (sy.length : Int) := by omega
                      have q0 : (0 : Int) ≤ (q : Int) := by omega
                      have q1 : (q : Int) < 10 := by omega
                      have hj1 : IntKind.i64.wrap ((j : Int) - 1) = (j : Int) - 1 := wrap_in _ (by omega) (by omega)
                      by_cases hzr : z = r
                      · have e4 : (z == r) = true := by simpa using hzr
                        have HIN2 : Hid (incF sy r j (us.set q (-r)) = incF sy r sy.length vs) := by
                          have h9 := incF_full (sy := sy) (r := r) hx (vs := us) (v := z) (by rw [Int.toNat_natCast]; exact hz) hzr
                          rw [Int.toNat_natCast] at h9
                          unfold Hid; rw [← h9]; exact HIN.out
                        have HUO2 : Hid (VOk r (us.set q (-r))) := HUO.out.set (by omega) (by omega)
                        have hset := own_set_int HO.out HUO.out.1 q hq (-r) ⟨by omega, by omega⟩
                        have HOS := hid hset.1
                        have HBS := hid (HBR.out.setCell (p := ⟨g1, q, none⟩) (Nat.le_refl _) (.int .i64 (-r)))
                        have hgs : g1 < (wr.setCell ⟨g1, q, none⟩ (.int .i64 (-r))).heap.size := by rw [size_set]; exact hgz
                        clear hx hz hset hzr
                        go_wp2
                        go_roundw
                        case rel => exact ⟨j, _, by omega, rfl, HIN2, HUO2, HOS, HBS, hgs⟩
                        case measure => simp [intOf]
                      · have e4 : (z == r) = false := by simpa using hzr
                        have hzw : IntKind.i64.wrap (z + 1) = z + 1 := wrap_in _ (by omega) (by omega)
                        have HIS : Hid (incF sy r sy.length vs = some (us.set q (z + 1))) := by
                          have h9 := incF_step (sy := sy) (r := r) hx (vs := us) (v := z) (by rw [Int.toNat_natCast]; exact hz) hzr
                          rw [Int.toNat_natCast] at h9
                          unfold Hid; rw [← h9]; exact HIN.out.symm
                        obtain ⟨K2, hK2, hI2⟩ := HI.out.next HSY.out hr0 HCB.out HIS.out
                        have HI2 := hid hI2
                        have hset := own_set_int HO.out HUO.out.1 q hq (z + 1) ⟨by omega, by omega⟩
                        have HOS := hid hset.1
                        have HBS := hid (HBR.out.setCell (p := ⟨g1, q, none⟩) (Nat.le_refl _) (.int .i64 (z + 1)))
                        have hgs : g1 < (wr.setCell ⟨g1, q, none⟩ (.int .i64 (z + 1))).heap.size := by rw [size_set]; exact hgz
                        have j2 : decide ((j : Int) < 0) = false := by simp
                        clear hx hz hset hzr hI2
                        go_wp2
                        go_roundg K2
                        case measure => exact hK2
                        case rel => exact ⟨_, by omega, HI2, HOS, HBS, hgs⟩
                · have HRE := hid (HI.out.found hr0 HCB.out)
                  go_wp2_with fail
                  refine HC.out.mono ?_
                  rintro e w5 ⟨rfl, hb5⟩
                  have HB5 := hid (HBR.out.trans (hb5.mono (by omega)))
                  have HS5 : Hid (SlRd cInt (Fresh w.heap.size w5) w5 (some ⟨g1, 0, none⟩) 10 vs) := HS7.out.fresh (by omega) (Nat.le_refl _) hb5
                  clear hb5 HC
                  go_wp2
                  go_ret2
                  rw [HF2.out, HRE.out]
                  exact ⟨some ⟨g1, 0, none⟩, 10, by simp only [optB]; rw [HVL.out]; rfl, HS5.out, HBW.out.trans (HB5.out.mono (by omega))⟩

        · have e1 : decide (4 < sy.length) = true := by simp; omega
          have HF2 : Hid (leastF (d0, d1, d2) r = ([], false)) := by unfold Hid; rw [HF.out]; simp [h4]
          go_wp2
          go_ret2
          rw [HF2.out]
          exact ⟨none, 0, rfl, nil_rd _ _ _, HBW.out⟩
end Go.Proofs.Ytedmhdinfedhhaa
