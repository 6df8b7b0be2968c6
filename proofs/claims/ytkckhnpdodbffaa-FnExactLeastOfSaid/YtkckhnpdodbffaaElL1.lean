/- Contracts: a symbol's term, a list with a term more. -/
import Derived.Test.YtkckhnpdodbffaaElLp
import Derived.Test.YtkckhnpdodbffaaEl4
namespace Go.Proofs.Ytkckhnpdodbffaa
open Go.RowKit

set_option maxHeartbeats 1000000 in
set_option maxRecDepth 100000 in
theorem c_symbolTerm (w : World) : Calls Try.prog 39 #[.int .i64 9] w fun e w' => ∃ L, e = .returned (.agg #[.int .i64 0, .slice (some ⟨L, 0, none⟩) 10 10]) ∧ SlRd cInt (fun b => w.heap.size ≤ b ∧ b < w'.heap.size) w' (some ⟨L, 0, none⟩) 10 unit9 ∧ Below w.heap.size w w' := by
  have HBK : Hid ((w.alloc (.cells #[.int .i64 0, .slice none 0 0] 39)).heap[w.heap.size]? = some (.cells #[.int .i64 0, .slice none 0 0] 39 (0, 0))) := heap_new _ _
  have HB0 : Hid (Below w.heap.size w (w.alloc (.cells #[.int .i64 0, .slice none 0 0] 39))) := (Below.refl _ _).alloc (Nat.le_refl _) _
  go_enter Try.func39, Try.ntmps39
  go_wp2_with (at_make; go_loud (refine wpList_mk rfl (.tmp 5) (.tmp 5) _ rfl rfl rfl (own_mk slI64 (C := cInt) (base := w.heap.size + 1) (fun _ => False) 10 (by omega) (by simp) 0 (fun _ _ => ⟨rfl, i64_0⟩) _ _) ?_); rintro w1 ⟨hown, hg⟩; rw [World.size_alloc] at hown; have hL := own_lt hown (w.heap.size + 1) rfl; have HOWN := hid hown; have HG := hid hg; have HB1 := hid (HB0.out.grown hg (by simp) (by simp)); clear hown hg; revert HG)
  intro HG
  have hbk1 := (HG.out.block w.heap.size (by simp) (by simp)).trans HBK.out
  have HBK1 := hid hbk1
  obtain ⟨z, _, _, cz, fz, _, _⟩ := own_at_int HOWN.out (by simp) 9 (by decide)
  have HS2 := hid (own_set_int HOWN.out (by simp) 9 (by decide) 1 ⟨by omega, by omega⟩).1
  have HB2 := hid (HB1.out.setCell (p := ⟨w.heap.size + 1, 9, none⟩) (Nat.le_succ _) (.int .i64 1))
  have r0 := cell_of hbk1 (j := 0) rfl
  have r1 := cell_of hbk1 (j := 1) rfl
  have f0 := frz_of hbk1 0
  have f1 := frz_of hbk1 1
  have hsz1 : w.heap.size < w1.heap.size := by omega
  have hbk2 : (w1.setCell ⟨w.heap.size + 1, 9, none⟩ (.int .i64 1)).heap[w.heap.size]? = some (.cells #[.int .i64 0, .slice none 0 0] 39 (0, 0)) := (heap_setCell_ne _ _ _ (by simp)).trans hbk1
  have hbk3 := hid (blk_set (blk_set hbk2 0 (.int .i64 0)) 1 (.slice (some ⟨w.heap.size + 1, 0, none⟩) 10 10))
  have HB3 := hid ((HB2.out.setCell (p := ⟨w.heap.size, 0, none⟩) (Nat.le_refl _) (.int .i64 0)).setCell (p := ⟨w.heap.size, 1, none⟩) (Nat.le_refl _) (.slice (some ⟨w.heap.size + 1, 0, none⟩) 10 10))
  clear hbk1 hbk2 HBK HB0
  go_wp2
  have k0 := cell_of hbk3.out (j := 0) (u := .int .i64 0) rfl
  have k1 := cell_of hbk3.out (j := 1) (u := .slice (some ⟨w.heap.size + 1, 0, none⟩) 10 10) rfl
  refine bodyPost_ret (v := .agg #[.int .i64 0, .slice (some ⟨w.heap.size + 1, 0, none⟩) 10 10]) (by simp [results, Try.results39, go_sem, k0, k1, hsz1]) rfl ?_
  refine ⟨w.heap.size + 1, rfl, ?_, HB3.out.alloc HB3.out.size _⟩
  refine SlRd.alloc ?_ _ |>.keep fun b hb hl => ⟨hb, rfl⟩
  exact (own_rdG HS2.out).2.keep fun b hb hl => by
    have hn : b ≠ w.heap.size := by have := hb.1; omega
    have he : (((w1.setCell ⟨w.heap.size + 1, 9, none⟩ (.int .i64 1)).setCell ⟨w.heap.size, 0, none⟩ (.int .i64 0)).setCell ⟨w.heap.size, 1, none⟩ (.slice (some ⟨w.heap.size + 1, 0, none⟩) 10 10)).heap[b]? = (w1.setCell ⟨w.heap.size + 1, 9, none⟩ (.int .i64 1)).heap[b]? := by
      rw [heap_setCell_ne _ _ _ hn, heap_setCell_ne _ _ _ hn]
    exact ⟨⟨Nat.le_of_succ_le hb.1, by rw [World.size_alloc, size_set, size_set]; omega⟩, he⟩
set_option maxHeartbeats 1000000 in
set_option maxRecDepth 100000 in
theorem c_with {S T : Nat → Prop} {a : Option Addr} {p : Nat} {ts : List Term} {c : Int} {g : Option Addr} {q : Nat} {zs : List Int} {w : World} (h : SlRd cTerm S w a p ts) (hc : I64 c) (hg : SlRd cInt T w g q zs) (hn : ts.length ≤ 1000000) :
    Calls Try.prog 40 #[.slice a ts.length p, .agg #[.int .i64 c, .slice g zs.length q]] w fun e w' => ∃ a' p', e = .returned (.slice a' (ts.length + 1) p') ∧ SlRd cTerm (fun _ => True) w' a' p' (ts ++ [(c, zs)]) ∧ Below w.heap.size w w' := by
  have HBX : Hid (Below w.heap.size w (w.alloc (.cells #[.int .i64 c, .slice g zs.length q] 39))) := (Below.refl _ _).alloc (Nat.le_refl _) _
  have HGL := hid (fun (w' : World) (hb' : Below w.heap.size w w') => (hg.keep (S' := fun b => b < w.heap.size) (w' := w) fun b _ hl => ⟨hl, rfl⟩).below (Nat.le_refl _) hb')
  have HCO := hid (fun (w' : World) (hb' : Below w.heap.size w w') => c_cloneTerms (h.below (Nat.le_refl _) hb') hn)
  have HAL : Hid ((ts ++ [(c, zs)]).length = ts.length + 1) := by unfold Hid; simp
  have u0 : (w.alloc (.cells #[.int .i64 c, .slice g zs.length q] 39)).cell? ⟨w.heap.size, 0, none⟩ = some (.int .i64 c) := by rw [World.cell?_alloc_at _ _ _ _ rfl]; rfl
  have u1 : (w.alloc (.cells #[.int .i64 c, .slice g zs.length q] 39)).cell? ⟨w.heap.size, 1, none⟩ = some (.slice g zs.length q) := by rw [World.cell?_alloc_at _ _ _ _ rfl]; rfl
  clear h hg
  obtain ⟨W, hW⟩ : ∃ x, w.alloc (.cells #[.int .i64 c, .slice g zs.length q] 39) = x := ⟨_, rfl⟩
  have HWE := hid hW
  have hWs : W.heap.size = w.heap.size + 1 := by rw [← hW]; simp
  rw [hW] at HBX u0 u1
  have HS : Hid (∀ w' : World, Below W.heap.size W w' → w'.cell? ⟨w.heap.size, 0, none⟩ = some (.int .i64 c) ∧ w'.cell? ⟨w.heap.size, 1, none⟩ = some (.slice g zs.length q)) := fun w' hb' => ⟨cell_below hb' (by omega) u0, cell_below hb' (by omega) u1⟩
  have HD : Hid (Below W.heap.size W W.drew) := (Below.refl _ _).drew
  have HZ : Hid (Below W.heap.size W (W.alloc (.cells #[.int .i64 c, .slice g zs.length q] 39)).drew) := ((Below.refl _ _).alloc (Nat.le_refl _) _).drew
  have HZK : Hid ((W.alloc (.cells #[.int .i64 c, .slice g zs.length q] 39)).drew.heap[W.heap.size]? = some (.cells #[.int .i64 c, .slice g zs.length q] 39 (0, 0))) := heap_new W _
  have HZS : Hid ((W.alloc (.cells #[.int .i64 c, .slice g zs.length q] 39)).drew.heap.size = W.heap.size + 1) := World.size_alloc _ _
  clear hW u0 u1
  go_enter Try.func40, Try.ntmps40
  go_wp2
  rw [HWE.out]
  refine wp_region_held_drew (S := fun w' => w'.cell? ⟨w.heap.size, 0, none⟩ = some (.int .i64 c) ∧ w'.cell? ⟨w.heap.size, 1, none⟩ = some (.slice g zs.length q)) (by kernel_rfl) (HS.out _ HD.out) (fun hHeld => ?_)
  refine rgH (i := 0) (oi := ?qo1) ?qh1 ?qr1
  case qh1 => (simp only [List.getElem?_toArray, List.getElem?_cons_zero]; rfl)
  (refine ⟨by kernel_rfl, by kernel_rfl, by kernel_rfl, by assumption, ?qv1, fun _ _ _ h => h, Or.inl ⟨by kernel_rfl, ?qy1⟩, ?qn1⟩; case qy1 => (intro w hSw; (try dsimp only at hSw); go_simp; try with_reducible rfl))
  (try simp only [Act.put, List.setIfInBounds_toArray, List.set_cons_zero, List.set_cons_succ])
  refine rgH (i := 2) (oi := ?qo2) ?qh2 ?qr2
  case qh2 => (simp only [List.getElem?_toArray, List.getElem?_cons_succ, List.getElem?_cons_zero]; rfl)
  (refine ⟨by kernel_rfl, by kernel_rfl, by kernel_rfl, by assumption, ?qv2, fun _ _ _ h => h, Or.inl ⟨by kernel_rfl, ?qy2⟩, ?qn2⟩; case qy2 => (intro w hSw; (try dsimp only at hSw); go_simp; try with_reducible rfl))
  (try simp only [Act.put, List.setIfInBounds_toArray, List.set_cons_zero, List.set_cons_succ])
  refine wpAnyH_ready (rs := [1, 3]) (by kernel_rfl) (by simp) ?_
  refine rgHcall2 (i := 1) (j := 3) (o := ?to1) (o' := ?to2) ?th1 ?th2 ?way1 ?way2
  case th1 => (simp only [List.getElem?_toArray, List.getElem?_cons_succ, List.getElem?_cons_zero]; rfl)
  case th2 => (simp only [List.getElem?_toArray, List.getElem?_cons_succ, List.getElem?_cons_zero]; rfl)
  case way1 =>
    intro K hK
    go_simp
    go_at_call 51
    refine (HCO.out _ (HBX.out.drew)).mono ?_
    rintro e w2 ⟨v2, rfl, hO2, hb2⟩
    have HB2 : Hid (Below W.heap.size W w2) := HD.out.trans hb2
    have hw2 := HB2.out.size
    refine hK.out _ _ (HS.out _ HB2.out) (fun hHeld => ?_)
    clear hK K
    (try simp only [Act.put, List.setIfInBounds_toArray, List.set_cons_zero, List.set_cons_succ])
    refine wpAnyH_ready (rs := [3]) (by kernel_rfl) (by simp) ?_
    refine rgHcall (i := 3) (o := ?qo3) ?qh3 ?qk3
    case qh3 => (simp only [List.getElem?_toArray, List.getElem?_cons_succ, List.getElem?_cons_zero]; rfl)
    intro K hK
    go_simp
    skip
    have HB3 := hid (HB2.out.alloc HB2.out.size (.cells #[.int .i64 c, .slice g zs.length q] 39))
    refine hK.out _ _ (HS.out _ HB3.out) (fun hHeld => ?_)
    clear hK K
    (try simp only [Act.put, List.setIfInBounds_toArray, List.set_cons_zero, List.set_cons_succ])
    have HO3 := hid (own_alloc (own_base hO2 (show W.heap.size ≤ W.drew.heap.size from Nat.le_refl _)) (.cells #[.int .i64 c, .slice g zs.length q] 39))
    have HRD := hid (rd_term hc ((HGL.out _ ((HBX.out.trans (HB3.out.mono (by omega))))).keep (S' := fun b => b < W.drew.heap.size ∧ some b ≠ v2.ownBlock) fun b hb hl => ⟨⟨by show b < W.heap.size; omega, fun e => by have h9 : W.heap.size ≤ b := (own_lt hO2 b e.symm).1; omega⟩, rfl⟩))
    refine wpAnyH_ready (rs := [4]) (by kernel_rfl) (by simp) ?_
    refine rgHcall (i := 4) (o := ?qo4) ?qh4 ?qk4
    case qh4 => (simp only [List.getElem?_toArray, List.getElem?_cons_succ, List.getElem?_cons_zero]; rfl)
    intro K hK
    (refine step_own (C := cTerm) rfl (.tmp 6) (.tmp 8) _ rfl slTerm rfl rfl HO3.out (heap_new w2 _) (fun b hb => by have h9 : b < W.heap.size := hb; rw [World.size_alloc]; omega) (c, zs) HRD.out (by omega) HB3.out.size ?_; intro v3 w3 hO4 hb4)
    obtain ⟨a3, p3, rfl, hs3⟩ := own_rdS hO4
    have HS3 := hid hs3
    have HB4 := hid (HB3.out.trans hb4)
    refine hK.out _ _ (HS.out _ HB4.out) (fun hHeld => ?_)
    clear hK K
    (try simp only [Act.put, List.setIfInBounds_toArray, List.set_cons_zero, List.set_cons_succ])
    refine rgH (i := 5) (oi := ?qo5) ?qh5 ?qr5
    case qh5 => (simp only [List.getElem?_toArray, List.getElem?_cons_succ, List.getElem?_cons_zero]; rfl)
    (refine ⟨by kernel_rfl, by kernel_rfl, by kernel_rfl, by assumption, ?qv5, fun _ _ _ h => h, Or.inl ⟨by kernel_rfl, ?qy5⟩, ?qn5⟩; case qy5 => (intro w hSw; (try dsimp only at hSw); go_simp; try with_reducible rfl))
    (try simp only [Act.put, List.setIfInBounds_toArray, List.set_cons_zero, List.set_cons_succ])
    refine wpAnyH_done (by kernel_rfl) ?_ _
    clear hO4 hs3 hb4 HO3 HRD hO2 hb2
    go_wp2
    refine bodyPost_ret (v := .slice a3 (ts.length + 1) p3) (by simp [results, Try.results40, go_sem]) rfl ?_
    exact ⟨a3, p3, rfl, HS3.out.keep fun _ _ _ => ⟨trivial, rfl⟩, HBX.out.trans (HB4.out.mono (by omega))⟩
  case way2 =>
    intro K hK
    go_simp
    refine hK.out _ _ (HS.out _ HZ.out) (fun hHeld => ?_)
    clear hK K
    (try simp only [Act.put, List.setIfInBounds_toArray, List.set_cons_zero, List.set_cons_succ])
    refine wpAnyH_ready (rs := [1]) (by kernel_rfl) (by simp) ?_
    refine rgHcall (i := 1) (o := ?qo6) ?qh6 ?qk6
    case qh6 => (simp only [List.getElem?_toArray, List.getElem?_cons_succ, List.getElem?_cons_zero]; rfl)
    intro K hK
    go_simp
    (go_at_call 51; refine (HCO.out _ (HBX.out.trans (HZ.out.mono (by omega)))).mono ?_; rintro e w2 ⟨v2, rfl, hO2, hb2⟩)
    rw [HZS.out] at hO2 hb2
    have hblk := (hb2.block W.heap.size (by omega)).trans HZK.out
    have hblk9 : w2.heap[w.heap.size + 1]? = some (.cells #[.int .i64 c, .slice g zs.length q] 39 (0, 0)) := by rw [← hWs]; exact hblk
    have HB2 : Hid (Below W.heap.size W w2) := HZ.out.trans (hb2.mono (Nat.le_succ _))
    have hw2 := hb2.size
    rw [HZS.out] at hw2
    refine hK.out _ _ (HS.out _ HB2.out) (fun hHeld => ?_)
    clear hK K
    (try simp only [Act.put, List.setIfInBounds_toArray, List.set_cons_zero, List.set_cons_succ])
    have HRD := hid (rd_term hc ((HGL.out _ ((HBX.out.trans (HB2.out.mono (by omega))))).keep (S' := fun b => b < W.heap.size + 1 ∧ some b ≠ v2.ownBlock) fun b hb hl => ⟨⟨by omega, fun e => by have h9 := (own_lt hO2 b e.symm).1; omega⟩, rfl⟩))
    refine wpAnyH_ready (rs := [4]) (by kernel_rfl) (by simp) ?_
    refine rgHcall (i := 4) (o := ?qo7) ?qh7 ?qk7
    case qh7 => (simp only [List.getElem?_toArray, List.getElem?_cons_succ, List.getElem?_cons_zero]; rfl)
    intro K hK
    (refine step_own (C := cTerm) rfl (.tmp 6) (.tmp 8) _ rfl slTerm rfl rfl (own_base hO2 (Nat.le_succ _)) hblk9 (fun b hb => by omega) (c, zs) HRD.out (by omega) HB2.out.size ?_; intro v3 w3 hO4 hb4)
    obtain ⟨a3, p3, rfl, hs3⟩ := own_rdS hO4
    have HS3 := hid hs3
    have HB4 := hid (HB2.out.trans hb4)
    refine hK.out _ _ (HS.out _ HB4.out) (fun hHeld => ?_)
    clear hK K
    (try simp only [Act.put, List.setIfInBounds_toArray, List.set_cons_zero, List.set_cons_succ])
    refine rgH (i := 5) (oi := ?qo8) ?qh8 ?qr8
    case qh8 => (simp only [List.getElem?_toArray, List.getElem?_cons_succ, List.getElem?_cons_zero]; rfl)
    (refine ⟨by kernel_rfl, by kernel_rfl, by kernel_rfl, by assumption, ?qv8, fun _ _ _ h => h, Or.inl ⟨by kernel_rfl, ?qy8⟩, ?qn8⟩; case qy8 => (intro w hSw; (try dsimp only at hSw); go_simp; try with_reducible rfl))
    (try simp only [Act.put, List.setIfInBounds_toArray, List.set_cons_zero, List.set_cons_succ])
    refine wpAnyH_done (by kernel_rfl) ?_ _
    clear hO4 hs3 hb4 HRD hO2 hb2 hblk hblk9
    go_wp2
    refine bodyPost_ret (v := .slice a3 (ts.length + 1) p3) (by simp [results, Try.results40, go_sem]) rfl ?_
    exact ⟨a3, p3, rfl, HS3.out.keep fun _ _ _ => ⟨trivial, rfl⟩, HBX.out.trans (HB4.out.mono (by omega))⟩
end Go.Proofs.Ytkckhnpdodbffaa
