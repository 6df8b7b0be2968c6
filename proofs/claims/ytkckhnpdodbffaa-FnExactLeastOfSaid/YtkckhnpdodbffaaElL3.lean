/- Contracts: the least number that a goal is at least, the reference's parts. -/
import Derived.Test.YtkckhnpdodbffaaElLp
import Derived.Test.YtkckhnpdodbffaaElS3
namespace Go.Proofs.Ytkckhnpdodbffaa
open Go.RowKit

theorem c_l06Up (c m : Int) (hc : sm c) (hm : 1 ≤ m) (hm2 : m ≤ 1000000) (w : World) : Calls Try.prog 33 #[.int .i64 c, .int .i64 m] w fun e w' => e = .returned (.int .i64 (-(divFl c m))) ∧ w = w' := by
  unfold sm at hc
  have wn : IntKind.i64.wrap (-c) = -c := wrap_in _ (by omega) (by omega)
  have hq : ((-c).tdiv m).natAbs ≤ 1000000 := by rw [Int.natAbs_tdiv]; exact Nat.le_trans (Nat.div_le_self _ _) (by omega)
  have HU := hid (up_eq c m)
  have hmi : m ≠ 0 := by omega
  obtain ⟨q, hqe⟩ : ∃ q, (-c).tdiv m = q := ⟨_, rfl⟩
  rw [hqe] at hq HU
  have wq : IntKind.i64.wrap (-(c.tdiv m)) = q := by rw [← Int.neg_tdiv, hqe]; exact wrap_in _ (by omega) (by omega)
  have hp := mul_abs (x := q) (y := m) (a := 1000000) (b := 1000000) hq (by omega)
  obtain ⟨r, hr⟩ : ∃ r, q * m = r := ⟨_, rfl⟩
  rw [hr] at hp HU
  have wr : IntKind.i64.wrap (q * m) = r := by rw [hr]; exact wrap_in _ (by omega) (by omega)
  have w1 : IntKind.i64.wrap (q + 1) = q + 1 := wrap_in _ (by omega) (by omega)
  clear hqe hr hp
  by_cases h : r < -c
  · have HF : Hid (q + 1 = -(divFl c m)) := by unfold Hid; rw [← HU.out, if_pos h]
    go_enter Try.func33, Try.ntmps33
    go_wp2
    go_ret
    exact ⟨ret_int HF.out, rfl⟩
  · have HF : Hid (q = -(divFl c m)) := by unfold Hid; rw [← HU.out, if_neg h]
    go_enter Try.func33, Try.ntmps33
    go_wp2
    go_ret
    exact ⟨ret_int HF.out, rfl⟩
def makeRes (c : Int) (zs : List Int) (w : World) (e : Ending) (w' : World) : Prop := Below w.heap.size w w' ∧ match validTerm (c, trimL zs) with
  | true => ∃ a p, e = .returned (.tuple #[.agg #[.int .i64 c, .slice a (trimL zs).length p], .bool true]) ∧ SlRd cInt (fun b => w.heap.size ≤ b ∧ b < w'.heap.size) w' a p (trimL zs)
  | false => e = .returned (.tuple #[.agg #[.int .i64 0, .slice none 0 0], .bool false])
set_option maxHeartbeats 2000000 in
set_option maxRecDepth 100000 in
theorem c_l02Make {S : Nat → Prop} {b off cap : Nat} {c : Int} {zs : List Int} {w : World} (h : SlRd cInt S w (some ⟨b, off, none⟩) cap zs) (hn : zs.length ≤ 1000) :
    Calls Try.prog 46 #[.int .i64 c, .slice (some ⟨b, off, none⟩) zs.length cap] w (makeRes c zs w) := by
  have hcap := h.1
  have hcap2 := h.2.1
  have HBK : Hid ((w.alloc (.cells #[.int .i64 0, .slice none 0 0] 39)).heap[w.heap.size]? = some (.cells #[.int .i64 0, .slice none 0 0] 39 (0, 0))) := heap_new _ _
  have HB0 : Hid (Below w.heap.size w (w.alloc (.cells #[.int .i64 0, .slice none 0 0] 39))) := (Below.refl _ _).alloc (Nat.le_refl _) _
  have H := hid (h.below (Nat.le_refl _) HB0.out)
  have hs0 : (w.alloc (.cells #[.int .i64 0, .slice none 0 0] 39)).heap.size = w.heap.size + 1 := by simp
  obtain ⟨W0, hW0⟩ : ∃ x, w.alloc (.cells #[.int .i64 0, .slice none 0 0] 39) = x := ⟨_, rfl⟩
  have HW0 := hid hW0
  rw [hW0] at HBK HB0 H hs0
  clear h hW0
  go_enter Try.func46, Try.ntmps46
  go_wp2
  rw [HW0.out]
  go_loop [6] (fun n => ∃ k : Nat, n = .int .i64 k ∧ k ≤ zs.length ∧ Hid (trimN zs zs.length = trimN zs k)) (fun n => (intOf n).toNat)
  case atStart => exact ⟨zs.length, rfl, Nat.le_refl _, rfl⟩
  case round =>
    obtain ⟨k, rfl, hk, HK⟩ := hrel
    by_cases h0 : k = 0
    · have HT : Hid (trimN zs zs.length = 0) := by unfold Hid; rw [HK.out, h0]; rfl
      subst h0
      clear HK
      have htl : (zs.take 0).length = 0 := by rw [List.length_take]; omega
      have HTR : Hid (zs.take 0 = trimL zs) := by unfold Hid trimL; rw [HT.out]
      have HCO := hid (c_l00Own (H.out.front 0) (by rw [htl]; omega))
      rw [htl, HTR.out] at HCO
      rw [HTR.out] at htl
      have HTL := hid htl
      cases hv : validTerm (c, trimL zs) with
      | true =>
        have HV := hid hv
        clear hv htl
        go_wp2_with (first | (go_at_call 21; go_loud (refine HCO.out.mono ?_; rintro e w2 ⟨a2, p2, rfl, hs2, hb2⟩; rw [HTL.out]); go_loud (have HB2 := hid (HB0.out.trans (hb2.mono (by omega))); have hw2 := hb2.size; have hbk := (hb2.block w.heap.size (by omega)).trans HBK.out; have r0 := cell_of hbk (j := 0) rfl; have r1 := cell_of hbk (j := 1) rfl; have f0 := frz_of hbk 0; have f1 := frz_of hbk 1; have hbk3 := hid (blk_set (blk_set hbk 0 (.int .i64 c)) 1 (.slice a2 (trimL zs).length p2)); have hsz2 : w.heap.size < w2.heap.size := (by omega); have HS2 := hid (hs2.alloc (.cells #[.int .i64 c, .slice a2 0 p2] 39)); have x0 : (w2.alloc (.cells #[.int .i64 c, .slice a2 0 p2] 39)).cell? ⟨w2.heap.size, 0, none⟩ = some (.int .i64 c) := (by rw [World.cell?_alloc_at _ _ _ _ rfl]; try rfl); have x1 : (w2.alloc (.cells #[.int .i64 c, .slice a2 0 p2] 39)).cell? ⟨w2.heap.size, 0 + 1, none⟩ = some (.slice a2 (trimL zs).length p2) := (by rw [World.cell?_alloc_at _ _ _ _ rfl, HTL.out]; try rfl); have HS2' := hid hs2; clear hs2 hb2 hbk)) | (go_at_call 27; go_loud (refine (c_l02Is _ _ _ _ _ _ _ x0 x1 HS2.out).mono ?_; rintro e w3 ⟨rfl, rfl⟩; rw [HV.out])))
        have k0 := cell_of hbk3.out (j := 0) (u := .int .i64 c) rfl
        have k1 := cell_of hbk3.out (j := 1) (u := .slice a2 (trimL zs).length p2) rfl
        refine bodyPost_ret (v := .tuple #[.agg #[.int .i64 c, .slice a2 (trimL zs).length p2], .bool true]) (by simp [results, Try.results46, go_sem, k0, k1, hsz2]) rfl ?_
        unfold makeRes
        rw [HV.out]
        refine ⟨((HB2.out.setCell (Nat.le_refl _) _).setCell (Nat.le_refl _) _).alloc (by rw [size_set, size_set]; omega) _, a2, p2, rfl, ?_⟩
        have hsw : SlRd cInt (fun b => w.heap.size ≤ b) ((w2.setCell ⟨w.heap.size, 0, none⟩ (.int .i64 c)).setCell ⟨w.heap.size, 1, none⟩ (.slice a2 (trimL zs).length p2)) a2 p2 (trimL zs) := HS2'.out.keep fun b hb hl => by
          have hn : b ≠ w.heap.size := by have := hb.1; omega
          exact ⟨by have := hb.1; omega, by rw [heap_setCell_ne _ _ _ hn, heap_setCell_ne _ _ _ hn]⟩
        exact (hsw.alloc _).keep fun b hb hl => ⟨⟨hb, hl⟩, rfl⟩
      | false =>
        have HV := hid hv
        clear hv htl
        go_wp2_with (first | (go_at_call 21; go_loud (refine HCO.out.mono ?_; rintro e w2 ⟨a2, p2, rfl, hs2, hb2⟩; rw [HTL.out]); go_loud (have HB2 := hid (HB0.out.trans (hb2.mono (by omega))); have hw2 := hb2.size; have hbk := (hb2.block w.heap.size (by omega)).trans HBK.out; have r0 := cell_of hbk (j := 0) rfl; have r1 := cell_of hbk (j := 1) rfl; have f0 := frz_of hbk 0; have f1 := frz_of hbk 1; have hbk3 := hid (blk_set (blk_set hbk 0 (.int .i64 0)) 1 (.slice none 0 0)); have hsz2 : w.heap.size < w2.heap.size := (by omega); have HS2 := hid (hs2.alloc (.cells #[.int .i64 c, .slice a2 0 p2] 39)); have x0 : (w2.alloc (.cells #[.int .i64 c, .slice a2 0 p2] 39)).cell? ⟨w2.heap.size, 0, none⟩ = some (.int .i64 c) := (by rw [World.cell?_alloc_at _ _ _ _ rfl]; try rfl); have x1 : (w2.alloc (.cells #[.int .i64 c, .slice a2 0 p2] 39)).cell? ⟨w2.heap.size, 0 + 1, none⟩ = some (.slice a2 (trimL zs).length p2) := (by rw [World.cell?_alloc_at _ _ _ _ rfl, HTL.out]; try rfl); clear hs2 hb2 hbk)) | (go_at_call 27; go_loud (refine (c_l02Is _ _ _ _ _ _ _ x0 x1 HS2.out).mono ?_; rintro e w3 ⟨rfl, rfl⟩; rw [HV.out])))
        have k0 := cell_of hbk3.out (j := 0) (u := .int .i64 0) rfl
        have k1 := cell_of hbk3.out (j := 1) (u := .slice none 0 0) rfl
        refine bodyPost_ret (v := .tuple #[.agg #[.int .i64 0, .slice none 0 0], .bool false]) (by simp [results, Try.results46, go_sem, k0, k1, hsz2]) rfl ?_
        unfold makeRes
        rw [HV.out]
        exact ⟨((HB2.out.setCell (Nat.le_refl _) _).setCell (Nat.le_refl _) _).alloc (by rw [size_set, size_set]; omega) _, rfl⟩
    · obtain ⟨k, rfl⟩ : ∃ k', k = k' + 1 := ⟨k - 1, by omega⟩
      obtain ⟨z, hz, hzz, hc, hb⟩ := H.out.int_at k (by omega)
      have hgd : zs.getD k 0 = z := by rw [List.getD_eq_getElem?_getD, hz]; rfl
      have i0 : (0 : Int) ≤ (k : Int) := by omega
      have i1 : (k : Int) < (zs.length : Int) := by omega
      have i2 : (0 : Int) < (k : Int) + 1 := by omega
      have hw1 : IntKind.i64.wrap ((k : Int) + 1 - 1) = (k : Int) := by rw [wrap_in _ (by omega) (by omega)]; omega
      clear hz h0
      by_cases hz0 : z = 0
      · subst hz0
        have HK2 : Hid (trimN zs zs.length = trimN zs k) := by unfold Hid; rw [HK.out]; show (if zs.getD k 0 = 0 then trimN zs k else k + 1) = _; rw [if_pos hgd]
        clear hgd HK
        go_wp2
        go_round
        case rel => exact ⟨k, by go_num, by omega, HK2⟩
        case measure => simp [intOf] <;> omega
      · have HT : Hid (trimN zs zs.length = k + 1) := by unfold Hid; rw [HK.out]; show (if zs.getD k 0 = 0 then trimN zs k else k + 1) = _; rw [if_neg (by rw [hgd]; exact hz0)]
        have e0 : (z == 0) = false := by simpa using hz0
        clear hgd HK hz0
        have htl : (zs.take (k + 1)).length = (k + 1) := by rw [List.length_take]; omega
        have HTR : Hid (zs.take (k + 1) = trimL zs) := by unfold Hid trimL; rw [HT.out]
        have HCO := hid (c_l00Own (H.out.front (k + 1)) (by rw [htl]; omega))
        rw [htl, HTR.out] at HCO
        rw [HTR.out] at htl
        have HTL := hid htl
        have i3 : (0 : Int) ≤ (k : Int) + 1 := by omega
        have i4 : (k : Int) + 1 ≤ (cap : Int) := by omega
        have i7 : ((k : Int) + 1).toNat = k + 1 := by omega
        cases hv : validTerm (c, trimL zs) with
        | true =>
          have HV := hid hv
          clear hv htl
          go_wp2_with (first | (go_at_call 21; go_loud (refine HCO.out.mono ?_; rintro e w2 ⟨a2, p2, rfl, hs2, hb2⟩; rw [HTL.out]); go_loud (have HB2 := hid (HB0.out.trans (hb2.mono (by omega))); have hw2 := hb2.size; have hbk := (hb2.block w.heap.size (by omega)).trans HBK.out; have r0 := cell_of hbk (j := 0) rfl; have r1 := cell_of hbk (j := 1) rfl; have f0 := frz_of hbk 0; have f1 := frz_of hbk 1; have hbk3 := hid (blk_set (blk_set hbk 0 (.int .i64 c)) 1 (.slice a2 (trimL zs).length p2)); have hsz2 : w.heap.size < w2.heap.size := (by omega); have HS2 := hid (hs2.alloc (.cells #[.int .i64 c, .slice a2 (k + 1) p2] 39)); have x0 : (w2.alloc (.cells #[.int .i64 c, .slice a2 (k + 1) p2] 39)).cell? ⟨w2.heap.size, 0, none⟩ = some (.int .i64 c) := (by rw [World.cell?_alloc_at _ _ _ _ rfl]; try rfl); have x1 : (w2.alloc (.cells #[.int .i64 c, .slice a2 (k + 1) p2] 39)).cell? ⟨w2.heap.size, 0 + 1, none⟩ = some (.slice a2 (trimL zs).length p2) := (by rw [World.cell?_alloc_at _ _ _ _ rfl, HTL.out]; try rfl); have HS2' := hid hs2; clear hs2 hb2 hbk)) | (go_at_call 27; go_loud (refine (c_l02Is _ _ _ _ _ _ _ x0 x1 HS2.out).mono ?_; rintro e w3 ⟨rfl, rfl⟩; rw [HV.out])))
          have k0 := cell_of hbk3.out (j := 0) (u := .int .i64 c) rfl
          have k1 := cell_of hbk3.out (j := 1) (u := .slice a2 (trimL zs).length p2) rfl
          refine bodyPost_ret (v := .tuple #[.agg #[.int .i64 c, .slice a2 (trimL zs).length p2], .bool true]) (by simp [results, Try.results46, go_sem, k0, k1, hsz2]) rfl ?_
          unfold makeRes
          rw [HV.out]
          refine ⟨((HB2.out.setCell (Nat.le_refl _) _).setCell (Nat.le_refl _) _).alloc (by rw [size_set, size_set]; omega) _, a2, p2, rfl, ?_⟩
          have hsw : SlRd cInt (fun b => w.heap.size ≤ b) ((w2.setCell ⟨w.heap.size, 0, none⟩ (.int .i64 c)).setCell ⟨w.heap.size, 1, none⟩ (.slice a2 (trimL zs).length p2)) a2 p2 (trimL zs) := HS2'.out.keep fun b hb hl => by
            have hn : b ≠ w.heap.size := by have := hb.1; omega
            exact ⟨by have := hb.1; omega, by rw [heap_setCell_ne _ _ _ hn, heap_setCell_ne _ _ _ hn]⟩
          exact (hsw.alloc _).keep fun b hb hl => ⟨⟨hb, hl⟩, rfl⟩
        | false =>
          have HV := hid hv
          clear hv htl
          go_wp2_with (first | (go_at_call 21; go_loud (refine HCO.out.mono ?_; rintro e w2 ⟨a2, p2, rfl, hs2, hb2⟩; rw [HTL.out]); go_loud (have HB2 := hid (HB0.out.trans (hb2.mono (by omega))); have hw2 := hb2.size; have hbk := (hb2.block w.heap.size (by omega)).trans HBK.out; have r0 := cell_of hbk (j := 0) rfl; have r1 := cell_of hbk (j := 1) rfl; have f0 := frz_of hbk 0; have f1 := frz_of hbk 1; have hbk3 := hid (blk_set (blk_set hbk 0 (.int .i64 0)) 1 (.slice none 0 0)); have hsz2 : w.heap.size < w2.heap.size := (by omega); have HS2 := hid (hs2.alloc (.cells #[.int .i64 c, .slice a2 (k + 1) p2] 39)); have x0 : (w2.alloc (.cells #[.int .i64 c, .slice a2 (k + 1) p2] 39)).cell? ⟨w2.heap.size, 0, none⟩ = some (.int .i64 c) := (by rw [World.cell?_alloc_at _ _ _ _ rfl]; try rfl); have x1 : (w2.alloc (.cells #[.int .i64 c, .slice a2 (k + 1) p2] 39)).cell? ⟨w2.heap.size, 0 + 1, none⟩ = some (.slice a2 (trimL zs).length p2) := (by rw [World.cell?_alloc_at _ _ _ _ rfl, HTL.out]; try rfl); clear hs2 hb2 hbk)) | (go_at_call 27; go_loud (refine (c_l02Is _ _ _ _ _ _ _ x0 x1 HS2.out).mono ?_; rintro e w3 ⟨rfl, rfl⟩; rw [HV.out])))
          have k0 := cell_of hbk3.out (j := 0) (u := .int .i64 0) rfl
          have k1 := cell_of hbk3.out (j := 1) (u := .slice none 0 0) rfl
          refine bodyPost_ret (v := .tuple #[.agg #[.int .i64 0, .slice none 0 0], .bool false]) (by simp [results, Try.results46, go_sem, k0, k1, hsz2]) rfl ?_
          unfold makeRes
          rw [HV.out]
          exact ⟨((HB2.out.setCell (Nat.le_refl _) _).setCell (Nat.le_refl _) _).alloc (by rw [size_set, size_set]; omega) _, rfl⟩
end Go.Proofs.Ytkckhnpdodbffaa
