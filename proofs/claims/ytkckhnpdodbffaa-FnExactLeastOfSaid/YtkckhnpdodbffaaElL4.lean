/- Contracts: the least number that a goal is at least, the reference's sum. -/
import Derived.Test.YtkckhnpdodbffaaElL3
namespace Go.Proofs.Ytkckhnpdodbffaa
open Go.RowKit

theorem unit9_at (k : Nat) : 0 ≤ unit9.getD k 0 ∧ unit9.getD k 0 ≤ 1 := by
  unfold unit9
  by_cases h : k = 9
  · subst h; decide
  · rw [List.getD_eq_getElem?_getD, List.getElem?_set_ne (by omega), List.getElem?_replicate]
    split <;> decide
theorem valid_sm {t : Term} (h : validTerm t = true) : sm t.1 ∧ (∀ z ∈ t.2, sm z) ∧ t.2.length ≤ 10 := by
  unfold validTerm at h
  simp only [Bool.and_eq_true, decide_eq_true_eq] at h
  exact ⟨inB_iff.1 h.1.1.2, fun z hz => inB_iff.1 (List.all_eq_true.1 h.1.2 z hz), h.1.1.1⟩
theorem added_take {g : Term} {j : Nat} (h : j < 10) : (addedT g).2.take (j + 1) = (addedT g).2.take j ++ [unit9.getD j 0 - g.2.getD j 0] := by
  rw [List.take_add_one]
  unfold addedT rng
  rw [List.getElem?_map, List.getElem?_range h]; rfl
set_option maxHeartbeats 2000000 in
set_option maxRecDepth 100000 in
theorem c_l02Sum9 {S : Nat → Prop} {ba oa bb ob : Nat} {aa ag : Option Addr} {pa pg : Nat} {g : Term} {w : World} (ta0 : w.cell? ⟨ba, oa, none⟩ = some (.int .i64 0)) (ta1 : w.cell? ⟨ba, oa + 1, none⟩ = some (.slice aa unit9.length pa)) (ha : SlRd cInt S w aa pa unit9) (hba : ba < w.heap.size)
    (tb0 : w.cell? ⟨bb, ob, none⟩ = some (.int .i64 g.1)) (tb1 : w.cell? ⟨bb, ob + 1, none⟩ = some (.slice ag g.2.length pg)) (hg : SlRd cInt S w ag pg g.2) (hbb : bb < w.heap.size) (hv : validTerm g = true) :
    Calls Try.prog 30 #[.pointer (some ⟨ba, oa, none⟩), .int .i64 1, .pointer (some ⟨bb, ob, none⟩), .int .i64 (-1)] w (makeRes (addedT g).1 (addedT g).2 w) := by
  obtain ⟨hs1, hs2, hs3⟩ := valid_sm hv
  have HSM := hid hs2
  have HCA := hid (fun (w' : World) (hb' : Below w.heap.size w w') (k : Nat) => c_l02Coeff k (cell_below hb' hba ta1) (ha.below (Nat.le_refl _) hb'))
  have HCB := hid (fun (w' : World) (hb' : Below w.heap.size w w') (k : Nat) => c_l02Coeff k (cell_below hb' hbb tb1) (hg.below (Nat.le_refl _) hb'))
  have HCS : Hid (∀ w' : World, Below w.heap.size w w' → w'.cell? ⟨ba, oa, none⟩ = some (.int .i64 0) ∧ w'.cell? ⟨bb, ob, none⟩ = some (.int .i64 g.1)) := fun w' hb' => ⟨cell_below hb' hba ta0, cell_below hb' hbb tb0⟩
  have HBK : Hid ((w.alloc (.cells #[.int .i64 0, .slice none 0 0] 39)).heap[w.heap.size]? = some (.cells #[.int .i64 0, .slice none 0 0] 39 (0, 0))) := heap_new _ _
  have HB0 : Hid (Below w.heap.size w (w.alloc (.cells #[.int .i64 0, .slice none 0 0] 39))) := (Below.refl _ _).alloc (Nat.le_refl _) _
  have hs0 : (w.alloc (.cells #[.int .i64 0, .slice none 0 0] 39)).heap.size = w.heap.size + 1 := by simp
  obtain ⟨W0, hW0⟩ : ∃ x, w.alloc (.cells #[.int .i64 0, .slice none 0 0] 39) = x := ⟨_, rfl⟩
  have HW0 := hid hW0
  rw [hW0] at HBK HB0 hs0
  have HGT : Hid True := trivial
  have HO0 : Hid (OwnSl cInt (fun _ => False) (W0.alloc (.cells #[] 2)) W0.heap.size 2 (.slice (some ⟨W0.heap.size, 0, none⟩) 0 0) []) := own_made _ _ _ _ _ (Nat.le_refl _)
  have HB1 : Hid (Below W0.heap.size W0 (W0.alloc (.cells #[] 2))) := (Below.refl _ _).alloc (Nat.le_refl _) _
  rw [hs0] at HO0
  clear ta0 ta1 ha tb0 tb1 hg hv hs2 hs3 hW0 hba hbb
  go_enter Try.func30, Try.ntmps30
  go_wp2
  rw [HW0.out]
  go_loopw [10, 11] (fun v i wr => ∃ j : Nat, j ≤ 10 ∧ i = .int .i64 j ∧ Hid (OwnSl cInt (fun _ => False) wr (w.heap.size + 1) 2 v ((addedT g).2.take j)) ∧ Hid (Below W0.heap.size W0 wr)) (fun _ i _ => 10 - (intOf i).toNat)
  case atStart => exact ⟨0, by omega, rfl, HO0, HB1⟩
  case round =>
    clear HO0 HB1
    obtain ⟨j, hj, rfl, HO, HBR⟩ := hrel
    have HBW := hid (HB0.out.trans (HBR.out.mono (by omega)))
    by_cases hlt : j < 10
    · have HC1 := hid (HCA.out wr HBW.out j)
      have HC2 := hid (HCB.out wr HBW.out j)
      have HT := hid (added_take (g := g) hlt)
      have hx := unit9_at j
      have hy := getD_sm HSM.out j
      obtain ⟨X, hX⟩ : ∃ X, unit9.getD j 0 = X := ⟨_, rfl⟩
      obtain ⟨Y, hY⟩ : ∃ Y, g.2.getD j 0 = Y := ⟨_, rfl⟩
      rw [hX] at HC1 HT hx
      rw [hY] at HC2 HT hy
      unfold sm at hy
      have w1 : IntKind.i64.wrap X = X := wrap_in _ (by omega) (by omega)
      have w2 : IntKind.i64.wrap (-Y) = -Y := wrap_in _ (by omega) (by omega)
      have w3 : IntKind.i64.wrap (X + -Y) = X - Y := by rw [wrap_in _ (by omega) (by omega)]; omega
      have htl : ((addedT g).2.take j).length ≤ 10 := by rw [List.length_take]; omega
      have i1 : (j : Int) < 10 := by omega
      have hbs : w.heap.size + 1 ≤ wr.heap.size := by have := HBR.out.size; omega
      clear hX hY
      go_wp2_with (first | (have hq := HGT.out; clear hq HGT; go_at_call 45; refine HC1.out.mono ?_; rintro e w5 ⟨rfl, rfl⟩) | (go_at_call 45; refine HC2.out.mono ?_; rintro e w5 ⟨rfl, rfl⟩) | (at_builtin; go_loud (refine app_own (C := cInt) rfl (.tmp 17) (.tmp 29) _ rfl slI64 rfl rfl HO.out no_blk (X - Y) (rd_int ⟨by omega, by omega⟩) (by omega) hbs ?_); intro v3 w3' hO3 hb3; rw [← HT.out] at hO3; have HO3 := hid hO3; have HB3 := hid (HBR.out.trans (hb3.mono (by omega))); clear hO3 hb3))
      go_roundw
      case rel => exact ⟨j + 1, by omega, by go_num, HO3, HB3⟩
      case measure => simp [intOf]; omega
    · have hj10 : j = 10 := by omega
      have hwz : w.heap.size < wr.heap.size := by have := HBR.out.size; omega
      have h9 := HO.out
      rw [List.take_of_length_le (by rw [added_len]; omega)] at h9
      obtain ⟨gv, cv, rfl⟩ := own_some h9 (by rw [added_len]; decide)
      have h8 := (own_rdG h9).2
      have HMK := hid (fun (w' : World) (hb' : Below wr.heap.size wr w') => c_l02Make (c := (addedT g).1) (h8.below (Nat.le_refl _) hb') (by rw [added_len]; decide))
      have HAD : Hid ((addedT g).1 = -g.1) := rfl
      rw [HAD.out, added_len] at HMK
      rw [HAD.out, added_len]
      unfold sm at hs1
      have w2 : IntKind.i64.wrap (-g.1) = -g.1 := wrap_in _ (by omega) (by omega)
      have hw0 : IntKind.i64.wrap 0 = 0 := wrap_in _ (by omega) (by omega)
      have hw4 : IntKind.i64.wrap (0 + -g.1) = -g.1 := by rw [Int.zero_add]; exact w2
      have hc := (HCS.out _ HBW.out).1
      have hc' := (HCS.out _ HBW.out).2
      have i1 : ¬ ((j : Int) < 10) := by omega
      have hbk := (HBR.out.block w.heap.size (by omega)).trans HBK.out
      have HBKR := hid hbk
      have HBD : Hid (Below wr.heap.size wr wr.drew) := (Below.refl _ _).drew
      unfold makeRes at HMK ⊢
      clear h9 h8 hj10 HO hbk
      cases hv : validTerm (-g.1, trimL (addedT g).2) with
      | true =>
        have HV := hid hv
        rw [HV.out] at HMK
        clear hv
        go_wp2
        have HBDw : Hid (Below w.heap.size w wr.drew) := HBW.out.drew
        refine wp_region_held_drew (S := fun w' => w'.cell? ⟨ba, oa, none⟩ = some (.int .i64 0) ∧ w'.cell? ⟨bb, ob, none⟩ = some (.int .i64 g.1)) (by kernel_rfl) (HCS.out _ HBDw.out) (fun hHeld => ?_)
        refine rgH (i := 0) (oi := ?qo1) ?qh1 ?qr1
        case qh1 => (simp only [List.getElem?_toArray, List.getElem?_cons_zero]; rfl)
        (refine ⟨by kernel_rfl, by kernel_rfl, by kernel_rfl, by assumption, ?qv1, fun _ _ _ h => h, Or.inl ⟨by kernel_rfl, ?qy1⟩, ?qn1⟩; case qy1 => (intro w hSw; (try dsimp only at hSw); go_simp; try with_reducible rfl))
        refine rgH (i := 1) (oi := ?qo2) ?qh2 ?qr2
        case qh2 => (simp only [List.getElem?_toArray, List.getElem?_cons_succ, List.getElem?_cons_zero]; rfl)
        (refine ⟨by kernel_rfl, by kernel_rfl, by kernel_rfl, by assumption, ?qv2, fun _ _ _ h => h, Or.inl ⟨by kernel_rfl, ?qy2⟩, ?qn2⟩; case qy2 => (intro w hSw; (try dsimp only at hSw); go_simp; try with_reducible rfl))
        refine rgH (i := 2) (oi := ?qo3) ?qh3 ?qr3
        case qh3 => (simp only [List.getElem?_toArray, List.getElem?_cons_succ, List.getElem?_cons_zero]; rfl)
        (refine ⟨by kernel_rfl, by kernel_rfl, by kernel_rfl, by assumption, ?qv3, fun _ _ _ h => h, Or.inl ⟨by kernel_rfl, ?qy3⟩, ?qn3⟩; case qy3 => (intro w hSw; (try dsimp only at hSw); go_simp; try with_reducible rfl))
        refine rgH (i := 3) (oi := ?qo4) ?qh4 ?qr4
        case qh4 => (simp only [List.getElem?_toArray, List.getElem?_cons_succ, List.getElem?_cons_zero]; rfl)
        (refine ⟨by kernel_rfl, by kernel_rfl, by kernel_rfl, by assumption, ?qv4, fun _ _ _ h => h, Or.inl ⟨by kernel_rfl, ?qy4⟩, ?qn4⟩; case qy4 => (intro w hSw; (try dsimp only at hSw); go_simp; try with_reducible rfl))
        (try simp only [Act.put, List.setIfInBounds_toArray, List.set_cons_zero, List.set_cons_succ])
        refine rgH (i := 4) (oi := ?qo5) ?qh5 ?qr5
        case qh5 => (simp only [List.getElem?_toArray, List.getElem?_cons_succ, List.getElem?_cons_zero]; rfl)
        (refine ⟨by kernel_rfl, by kernel_rfl, by kernel_rfl, by assumption, ?qv5, fun _ _ _ h => h, Or.inl ⟨by kernel_rfl, ?qy5⟩, ?qn5⟩; case qy5 => (intro w hSw; (try dsimp only at hSw); go_simp; try with_reducible rfl))
        refine rgH (i := 5) (oi := ?qo6) ?qh6 ?qr6
        case qh6 => (simp only [List.getElem?_toArray, List.getElem?_cons_succ, List.getElem?_cons_zero]; rfl)
        (refine ⟨by kernel_rfl, by kernel_rfl, by kernel_rfl, by assumption, ?qv6, fun _ _ _ h => h, Or.inl ⟨by kernel_rfl, ?qy6⟩, ?qn6⟩; case qy6 => (intro w hSw; (try dsimp only at hSw); go_simp; try with_reducible rfl))
        refine rgH (i := 6) (oi := ?qo7) ?qh7 ?qr7
        case qh7 => (simp only [List.getElem?_toArray, List.getElem?_cons_succ, List.getElem?_cons_zero]; rfl)
        (refine ⟨by kernel_rfl, by kernel_rfl, by kernel_rfl, by assumption, ?qv7, fun _ _ _ h => h, Or.inl ⟨by kernel_rfl, ?qy7⟩, ?qn7⟩; case qy7 => (intro w hSw; (try dsimp only at hSw); go_simp; try with_reducible rfl))
        refine rgH (i := 7) (oi := ?qo8) ?qh8 ?qr8
        case qh8 => (simp only [List.getElem?_toArray, List.getElem?_cons_succ, List.getElem?_cons_zero]; rfl)
        (refine ⟨by kernel_rfl, by kernel_rfl, by kernel_rfl, by assumption, ?qv8, fun _ _ _ h => h, Or.inl ⟨by kernel_rfl, ?qy8⟩, ?qn8⟩; case qy8 => (intro w hSw; (try dsimp only at hSw); go_simp; try with_reducible rfl))
        (try simp only [Act.put, List.setIfInBounds_toArray, List.set_cons_zero, List.set_cons_succ])
        refine rgH (i := 8) (oi := ?qo9) ?qh9 ?qr9
        case qh9 => (simp only [List.getElem?_toArray, List.getElem?_cons_succ, List.getElem?_cons_zero]; rfl)
        (refine ⟨by kernel_rfl, by kernel_rfl, by kernel_rfl, by assumption, ?qv9, fun _ _ _ h => h, Or.inl ⟨by kernel_rfl, ?qy9⟩, ?qn9⟩; case qy9 => (intro w hSw; (try dsimp only at hSw); go_simp; try with_reducible rfl))
        refine rgH (i := 9) (oi := ?qo10) ?qh10 ?qr10
        case qh10 => (simp only [List.getElem?_toArray, List.getElem?_cons_succ, List.getElem?_cons_zero]; rfl)
        (refine ⟨by kernel_rfl, by kernel_rfl, by kernel_rfl, by assumption, ?qv10, fun _ _ _ h => h, Or.inl ⟨by kernel_rfl, ?qy10⟩, ?qn10⟩; case qy10 => (intro w hSw; (try dsimp only at hSw); go_simp; try with_reducible rfl))
        refine rgH (i := 10) (oi := ?qo11) ?qh11 ?qr11
        case qh11 => (simp only [List.getElem?_toArray, List.getElem?_cons_succ, List.getElem?_cons_zero]; rfl)
        (refine ⟨by kernel_rfl, by kernel_rfl, by kernel_rfl, by assumption, ?qv11, fun _ _ _ h => h, Or.inl ⟨by kernel_rfl, ?qy11⟩, ?qn11⟩; case qy11 => (intro w hSw; (try dsimp only at hSw); go_simp; try with_reducible rfl))
        refine rgH (i := 11) (oi := ?qo12) ?qh12 ?qr12
        case qh12 => (simp only [List.getElem?_toArray, List.getElem?_cons_succ, List.getElem?_cons_zero]; rfl)
        (refine ⟨by kernel_rfl, by kernel_rfl, by kernel_rfl, by assumption, ?qv12, fun _ _ _ h => h, Or.inl ⟨by kernel_rfl, ?qy12⟩, ?qn12⟩; case qy12 => (intro w hSw; (try dsimp only at hSw); go_simp; try with_reducible rfl))
        (try simp only [Act.put, List.setIfInBounds_toArray, List.set_cons_zero, List.set_cons_succ])
        refine rgH (i := 12) (oi := ?qo13) ?qh13 ?qr13
        case qh13 => (simp only [List.getElem?_toArray, List.getElem?_cons_succ, List.getElem?_cons_zero]; rfl)
        (refine ⟨by kernel_rfl, by kernel_rfl, by kernel_rfl, by assumption, ?qv13, fun _ _ _ h => h, Or.inl ⟨by kernel_rfl, ?qy13⟩, ?qn13⟩; case qy13 => (intro w hSw; (try dsimp only at hSw); go_simp; try with_reducible rfl))
        refine rgH (i := 13) (oi := ?qo14) ?qh14 ?qr14
        case qh14 => (simp only [List.getElem?_toArray, List.getElem?_cons_succ, List.getElem?_cons_zero]; rfl)
        (refine ⟨by kernel_rfl, by kernel_rfl, by kernel_rfl, by assumption, ?qv14, fun _ _ _ h => h, Or.inl ⟨by kernel_rfl, ?qy14⟩, ?qn14⟩; case qy14 => (intro w hSw; (try dsimp only at hSw); go_simp; try with_reducible rfl))
        (try simp only [Act.put, List.setIfInBounds_toArray, List.set_cons_zero, List.set_cons_succ])
        refine wpAnyH_ready (rs := [14]) (by kernel_rfl) (by simp) ?_
        refine rgHcall (i := 14) (o := ?qo15) ?qh15 ?qk15
        case qh15 => (simp only [List.getElem?_toArray, List.getElem?_cons_succ, List.getElem?_cons_zero]; rfl)
        intro K hK
        go_simp
        (go_at_call 46; refine (HMK.out _ HBD.out).mono ?_; rintro e w5 ⟨hb5, a5, p5, rfl, hs5⟩; have HB5 := hid (HBW.out.trans ((HBD.out.trans (show Below wr.heap.size wr.drew w5 from hb5)).mono HBW.out.size)); have hbk5 := (hb5.block w.heap.size (show w.heap.size < wr.heap.size by omega)).trans HBKR.out; have r0 := cell_of hbk5 (j := 0) rfl; have r1 := cell_of hbk5 (j := 1) rfl; have f0 := frz_of hbk5 0; have f1 := frz_of hbk5 1; have HBK6 := hid (blk_set (blk_set hbk5 0 (.int .i64 (-g.1))) 1 (.slice a5 (trimL (addedT g).2).length p5)); have HB6 := hid ((HB5.out.setCell (p := ⟨w.heap.size, 0, none⟩) (Nat.le_refl _) (.int .i64 (-g.1))).setCell (p := ⟨w.heap.size, 1, none⟩) (Nat.le_refl _) (.slice a5 (trimL (addedT g).2).length p5)); clear hbk5)
        refine hK.out _ _ (HCS.out _ HB5.out) (fun hHeld => ?_)
        clear hK K
        (try simp only [Act.put, List.setIfInBounds_toArray, List.set_cons_zero, List.set_cons_succ])
        refine rgH (i := 15) (oi := ?qo16) ?qh16 ?qr16
        case qh16 => (simp only [List.getElem?_toArray, List.getElem?_cons_succ, List.getElem?_cons_zero]; rfl)
        (refine ⟨by kernel_rfl, by kernel_rfl, by kernel_rfl, by assumption, ?qv16, fun _ _ _ h => h, Or.inl ⟨by kernel_rfl, ?qy16⟩, ?qn16⟩; case qy16 => (intro w hSw; (try dsimp only at hSw); go_simp; try with_reducible rfl))
        (try simp only [Act.put, List.setIfInBounds_toArray, List.set_cons_zero, List.set_cons_succ])
        refine rgH (i := 16) (oi := ?qo17) ?qh17 ?qr17
        case qh17 => (simp only [List.getElem?_toArray, List.getElem?_cons_succ, List.getElem?_cons_zero]; rfl)
        (refine ⟨by kernel_rfl, by kernel_rfl, by kernel_rfl, by assumption, ?qv17, fun _ _ _ h => h, Or.inl ⟨by kernel_rfl, ?qy17⟩, ?qn17⟩; case qy17 => (intro w hSw; (try dsimp only at hSw); go_simp; try with_reducible rfl))
        (try simp only [Act.put, List.setIfInBounds_toArray, List.set_cons_zero, List.set_cons_succ])
        refine wpAnyH_ready (rs := [17]) (by kernel_rfl) (by simp) ?_
        refine rgHcall (i := 17) (o := ?qo18) ?qh18 ?qk18
        case qh18 => (simp only [List.getElem?_toArray, List.getElem?_cons_succ, List.getElem?_cons_zero]; rfl)
        intro K hK
        go_simp
        skip
        refine hK.out _ _ (HCS.out _ HB6.out) (fun hHeld => ?_)
        clear hK K
        (try simp only [Act.put, List.setIfInBounds_toArray, List.set_cons_zero, List.set_cons_succ])
        refine rgH (i := 18) (oi := ?qo19) ?qh19 ?qr19
        case qh19 => (simp only [List.getElem?_toArray, List.getElem?_cons_succ, List.getElem?_cons_zero]; rfl)
        (refine ⟨by kernel_rfl, by kernel_rfl, by kernel_rfl, by assumption, ?qv19, fun _ _ _ h => h, Or.inl ⟨by kernel_rfl, ?qy19⟩, ?qn19⟩; case qy19 => (intro w hSw; (try dsimp only at hSw); go_simp; try with_reducible rfl))
        (try simp only [Act.put, List.setIfInBounds_toArray, List.set_cons_zero, List.set_cons_succ])
        refine wpAnyH_done (by kernel_rfl) ?_ _
        go_wp2
        have k0 := cell_of HBK6.out (j := 0) (u := (.int .i64 (-g.1))) rfl
        have k1 := cell_of HBK6.out (j := 1) (u := (.slice a5 (trimL (addedT g).2).length p5)) rfl
        refine bodyPost_ret (v := .tuple #[.agg #[.int .i64 (-g.1), .slice a5 (trimL (addedT g).2).length p5], .bool true]) (by simp [results, Try.results30, go_sem, k0, k1]) rfl ?_
        rw [HAD.out]
        unfold makeRes
        rw [HV.out]
        refine ⟨HB6.out, a5, p5, rfl, ?_⟩
        have hsz := HBW.out.size
        exact hs5.keep fun b hb hl => by
          have h7 : wr.heap.size ≤ b := hb.1
          have hn : b ≠ w.heap.size := by omega
          exact ⟨⟨by omega, by rw [size_set, size_set]; exact hl⟩, by rw [heap_setCell_ne _ _ _ hn, heap_setCell_ne _ _ _ hn]⟩
      | false =>
        have HV := hid hv
        rw [HV.out] at HMK
        clear hv
        go_wp2
        have HBDw : Hid (Below w.heap.size w wr.drew) := HBW.out.drew
        refine wp_region_held_drew (S := fun w' => w'.cell? ⟨ba, oa, none⟩ = some (.int .i64 0) ∧ w'.cell? ⟨bb, ob, none⟩ = some (.int .i64 g.1)) (by kernel_rfl) (HCS.out _ HBDw.out) (fun hHeld => ?_)
        refine rgH (i := 0) (oi := ?qo20) ?qh20 ?qr20
        case qh20 => (simp only [List.getElem?_toArray, List.getElem?_cons_zero]; rfl)
        (refine ⟨by kernel_rfl, by kernel_rfl, by kernel_rfl, by assumption, ?qv20, fun _ _ _ h => h, Or.inl ⟨by kernel_rfl, ?qy20⟩, ?qn20⟩; case qy20 => (intro w hSw; (try dsimp only at hSw); go_simp; try with_reducible rfl))
        (try simp only [Act.put, List.setIfInBounds_toArray, List.set_cons_zero, List.set_cons_succ])
        refine rgH (i := 1) (oi := ?qo21) ?qh21 ?qr21
        case qh21 => (simp only [List.getElem?_toArray, List.getElem?_cons_succ, List.getElem?_cons_zero]; rfl)
        (refine ⟨by kernel_rfl, by kernel_rfl, by kernel_rfl, by assumption, ?qv21, fun _ _ _ h => h, Or.inl ⟨by kernel_rfl, ?qy21⟩, ?qn21⟩; case qy21 => (intro w hSw; (try dsimp only at hSw); go_simp; try with_reducible rfl))
        refine rgH (i := 2) (oi := ?qo22) ?qh22 ?qr22
        case qh22 => (simp only [List.getElem?_toArray, List.getElem?_cons_succ, List.getElem?_cons_zero]; rfl)
        (refine ⟨by kernel_rfl, by kernel_rfl, by kernel_rfl, by assumption, ?qv22, fun _ _ _ h => h, Or.inl ⟨by kernel_rfl, ?qy22⟩, ?qn22⟩; case qy22 => (intro w hSw; (try dsimp only at hSw); go_simp; try with_reducible rfl))
        refine rgH (i := 3) (oi := ?qo23) ?qh23 ?qr23
        case qh23 => (simp only [List.getElem?_toArray, List.getElem?_cons_succ, List.getElem?_cons_zero]; rfl)
        (refine ⟨by kernel_rfl, by kernel_rfl, by kernel_rfl, by assumption, ?qv23, fun _ _ _ h => h, Or.inl ⟨by kernel_rfl, ?qy23⟩, ?qn23⟩; case qy23 => (intro w hSw; (try dsimp only at hSw); go_simp; try with_reducible rfl))
        refine rgH (i := 4) (oi := ?qo24) ?qh24 ?qr24
        case qh24 => (simp only [List.getElem?_toArray, List.getElem?_cons_succ, List.getElem?_cons_zero]; rfl)
        (refine ⟨by kernel_rfl, by kernel_rfl, by kernel_rfl, by assumption, ?qv24, fun _ _ _ h => h, Or.inl ⟨by kernel_rfl, ?qy24⟩, ?qn24⟩; case qy24 => (intro w hSw; (try dsimp only at hSw); go_simp; try with_reducible rfl))
        (try simp only [Act.put, List.setIfInBounds_toArray, List.set_cons_zero, List.set_cons_succ])
        refine rgH (i := 5) (oi := ?qo25) ?qh25 ?qr25
        case qh25 => (simp only [List.getElem?_toArray, List.getElem?_cons_succ, List.getElem?_cons_zero]; rfl)
        (refine ⟨by kernel_rfl, by kernel_rfl, by kernel_rfl, by assumption, ?qv25, fun _ _ _ h => h, Or.inl ⟨by kernel_rfl, ?qy25⟩, ?qn25⟩; case qy25 => (intro w hSw; (try dsimp only at hSw); go_simp; try with_reducible rfl))
        refine rgH (i := 6) (oi := ?qo26) ?qh26 ?qr26
        case qh26 => (simp only [List.getElem?_toArray, List.getElem?_cons_succ, List.getElem?_cons_zero]; rfl)
        (refine ⟨by kernel_rfl, by kernel_rfl, by kernel_rfl, by assumption, ?qv26, fun _ _ _ h => h, Or.inl ⟨by kernel_rfl, ?qy26⟩, ?qn26⟩; case qy26 => (intro w hSw; (try dsimp only at hSw); go_simp; try with_reducible rfl))
        refine rgH (i := 7) (oi := ?qo27) ?qh27 ?qr27
        case qh27 => (simp only [List.getElem?_toArray, List.getElem?_cons_succ, List.getElem?_cons_zero]; rfl)
        (refine ⟨by kernel_rfl, by kernel_rfl, by kernel_rfl, by assumption, ?qv27, fun _ _ _ h => h, Or.inl ⟨by kernel_rfl, ?qy27⟩, ?qn27⟩; case qy27 => (intro w hSw; (try dsimp only at hSw); go_simp; try with_reducible rfl))
        refine rgH (i := 8) (oi := ?qo28) ?qh28 ?qr28
        case qh28 => (simp only [List.getElem?_toArray, List.getElem?_cons_succ, List.getElem?_cons_zero]; rfl)
        (refine ⟨by kernel_rfl, by kernel_rfl, by kernel_rfl, by assumption, ?qv28, fun _ _ _ h => h, Or.inl ⟨by kernel_rfl, ?qy28⟩, ?qn28⟩; case qy28 => (intro w hSw; (try dsimp only at hSw); go_simp; try with_reducible rfl))
        (try simp only [Act.put, List.setIfInBounds_toArray, List.set_cons_zero, List.set_cons_succ])
        refine rgH (i := 9) (oi := ?qo29) ?qh29 ?qr29
        case qh29 => (simp only [List.getElem?_toArray, List.getElem?_cons_succ, List.getElem?_cons_zero]; rfl)
        (refine ⟨by kernel_rfl, by kernel_rfl, by kernel_rfl, by assumption, ?qv29, fun _ _ _ h => h, Or.inl ⟨by kernel_rfl, ?qy29⟩, ?qn29⟩; case qy29 => (intro w hSw; (try dsimp only at hSw); go_simp; try with_reducible rfl))
        refine rgH (i := 10) (oi := ?qo30) ?qh30 ?qr30
        case qh30 => (simp only [List.getElem?_toArray, List.getElem?_cons_succ, List.getElem?_cons_zero]; rfl)
        (refine ⟨by kernel_rfl, by kernel_rfl, by kernel_rfl, by assumption, ?qv30, fun _ _ _ h => h, Or.inl ⟨by kernel_rfl, ?qy30⟩, ?qn30⟩; case qy30 => (intro w hSw; (try dsimp only at hSw); go_simp; try with_reducible rfl))
        refine rgH (i := 11) (oi := ?qo31) ?qh31 ?qr31
        case qh31 => (simp only [List.getElem?_toArray, List.getElem?_cons_succ, List.getElem?_cons_zero]; rfl)
        (refine ⟨by kernel_rfl, by kernel_rfl, by kernel_rfl, by assumption, ?qv31, fun _ _ _ h => h, Or.inl ⟨by kernel_rfl, ?qy31⟩, ?qn31⟩; case qy31 => (intro w hSw; (try dsimp only at hSw); go_simp; try with_reducible rfl))
        refine rgH (i := 12) (oi := ?qo32) ?qh32 ?qr32
        case qh32 => (simp only [List.getElem?_toArray, List.getElem?_cons_succ, List.getElem?_cons_zero]; rfl)
        (refine ⟨by kernel_rfl, by kernel_rfl, by kernel_rfl, by assumption, ?qv32, fun _ _ _ h => h, Or.inl ⟨by kernel_rfl, ?qy32⟩, ?qn32⟩; case qy32 => (intro w hSw; (try dsimp only at hSw); go_simp; try with_reducible rfl))
        (try simp only [Act.put, List.setIfInBounds_toArray, List.set_cons_zero, List.set_cons_succ])
        refine rgH (i := 13) (oi := ?qo33) ?qh33 ?qr33
        case qh33 => (simp only [List.getElem?_toArray, List.getElem?_cons_succ, List.getElem?_cons_zero]; rfl)
        (refine ⟨by kernel_rfl, by kernel_rfl, by kernel_rfl, by assumption, ?qv33, fun _ _ _ h => h, Or.inl ⟨by kernel_rfl, ?qy33⟩, ?qn33⟩; case qy33 => (intro w hSw; (try dsimp only at hSw); go_simp; try with_reducible rfl))
        (try simp only [Act.put, List.setIfInBounds_toArray, List.set_cons_zero, List.set_cons_succ])
        refine wpAnyH_ready (rs := [14]) (by kernel_rfl) (by simp) ?_
        refine rgHcall (i := 14) (o := ?qo34) ?qh34 ?qk34
        case qh34 => (simp only [List.getElem?_toArray, List.getElem?_cons_succ, List.getElem?_cons_zero]; rfl)
        intro K hK
        go_simp
        (go_at_call 46; refine (HMK.out _ HBD.out).mono ?_; rintro e w5 ⟨hb5, rfl⟩; have HB5 := hid (HBW.out.trans ((HBD.out.trans (show Below wr.heap.size wr.drew w5 from hb5)).mono HBW.out.size)); have hbk5 := (hb5.block w.heap.size (show w.heap.size < wr.heap.size by omega)).trans HBKR.out; have r0 := cell_of hbk5 (j := 0) rfl; have r1 := cell_of hbk5 (j := 1) rfl; have f0 := frz_of hbk5 0; have f1 := frz_of hbk5 1; have HBK6 := hid (blk_set (blk_set hbk5 0 (.int .i64 0)) 1 (.slice none 0 0)); have HB6 := hid ((HB5.out.setCell (p := ⟨w.heap.size, 0, none⟩) (Nat.le_refl _) (.int .i64 0)).setCell (p := ⟨w.heap.size, 1, none⟩) (Nat.le_refl _) (.slice none 0 0)); clear hbk5)
        refine hK.out _ _ (HCS.out _ HB5.out) (fun hHeld => ?_)
        clear hK K
        (try simp only [Act.put, List.setIfInBounds_toArray, List.set_cons_zero, List.set_cons_succ])
        refine rgH (i := 15) (oi := ?qo35) ?qh35 ?qr35
        case qh35 => (simp only [List.getElem?_toArray, List.getElem?_cons_succ, List.getElem?_cons_zero]; rfl)
        (refine ⟨by kernel_rfl, by kernel_rfl, by kernel_rfl, by assumption, ?qv35, fun _ _ _ h => h, Or.inl ⟨by kernel_rfl, ?qy35⟩, ?qn35⟩; case qy35 => (intro w hSw; (try dsimp only at hSw); go_simp; try with_reducible rfl))
        (try simp only [Act.put, List.setIfInBounds_toArray, List.set_cons_zero, List.set_cons_succ])
        refine rgH (i := 16) (oi := ?qo36) ?qh36 ?qr36
        case qh36 => (simp only [List.getElem?_toArray, List.getElem?_cons_succ, List.getElem?_cons_zero]; rfl)
        (refine ⟨by kernel_rfl, by kernel_rfl, by kernel_rfl, by assumption, ?qv36, fun _ _ _ h => h, Or.inl ⟨by kernel_rfl, ?qy36⟩, ?qn36⟩; case qy36 => (intro w hSw; (try dsimp only at hSw); go_simp; try with_reducible rfl))
        (try simp only [Act.put, List.setIfInBounds_toArray, List.set_cons_zero, List.set_cons_succ])
        refine wpAnyH_ready (rs := [17]) (by kernel_rfl) (by simp) ?_
        refine rgHcall (i := 17) (o := ?qo37) ?qh37 ?qk37
        case qh37 => (simp only [List.getElem?_toArray, List.getElem?_cons_succ, List.getElem?_cons_zero]; rfl)
        intro K hK
        go_simp
        skip
        refine hK.out _ _ (HCS.out _ HB6.out) (fun hHeld => ?_)
        clear hK K
        (try simp only [Act.put, List.setIfInBounds_toArray, List.set_cons_zero, List.set_cons_succ])
        refine rgH (i := 18) (oi := ?qo38) ?qh38 ?qr38
        case qh38 => (simp only [List.getElem?_toArray, List.getElem?_cons_succ, List.getElem?_cons_zero]; rfl)
        (refine ⟨by kernel_rfl, by kernel_rfl, by kernel_rfl, by assumption, ?qv38, fun _ _ _ h => h, Or.inl ⟨by kernel_rfl, ?qy38⟩, ?qn38⟩; case qy38 => (intro w hSw; (try dsimp only at hSw); go_simp; try with_reducible rfl))
        (try simp only [Act.put, List.setIfInBounds_toArray, List.set_cons_zero, List.set_cons_succ])
        refine wpAnyH_done (by kernel_rfl) ?_ _
        go_wp2
        have k0 := cell_of HBK6.out (j := 0) (u := (.int .i64 0)) rfl
        have k1 := cell_of HBK6.out (j := 1) (u := (.slice none 0 0)) rfl
        refine bodyPost_ret (v := .tuple #[.agg #[.int .i64 0, .slice none 0 0], .bool false]) (by simp [results, Try.results30, go_sem, k0, k1]) rfl ?_
        rw [HAD.out]
        unfold makeRes
        rw [HV.out]
        exact ⟨HB6.out, rfl⟩
end Go.Proofs.Ytkckhnpdodbffaa
