/- Contracts: the least counterexample, the reference's side. -/
import Derived.Test.YtedmhdinfedhhaaL02zp
import Derived.Test.YtedmhdinfedhhaaL02o
import Derived.Test.YtedmhdinfedhhaaL02y
import Derived.Test.YtedmhdinfedhhaaL02q
namespace Go.Proofs.Ytedmhdinfedhhaa
open Go.RowKit

theorem VOk.big {r : Int} {vs : List Int} (hr : r ≤ 4) (h : VOk r vs) : ∀ v ∈ vs, Big v := fun v hv => by have := h.2 v hv; unfold Big; omega
theorem VOk.values {r : Int} {vs : List Int} (hr : r ≤ 4) (h : VOk r vs) : valuesOk vs = true := by
  unfold valuesOk allIn
  rw [decide_eq_true h.1, Bool.true_and, List.all_eq_true]
  intro v hv
  have := h.big hr v hv
  unfold Big at this
  exact inB_iff.2 (by omega)
theorem begF_len {sy : List Int} {r : Int} (hr : 0 ≤ r) (k : Nat) : (begF sy r k).length = 10 := (begF_ok hr k).1
set_option maxHeartbeats 4000000 in
set_option maxRecDepth 100000 in
theorem c_l02Least {S T : Nat → Prop} {b o : Nat} {d1 : Int} {a0 : Option Addr} {p0 : Nat} {d0 : List Term} {a2 : Option Addr} {p2 : Nat} {d2 : List Int} {a6 : Option Addr} {p6 : Nat} {sy : List Int} {r : Int} {w : World} (t0 : w.cell? ⟨b, o, none⟩ = some (.slice a0 d0.length p0)) (t1 : w.cell? ⟨b, o + 1, none⟩ = some (.int .i64 d1)) (t2 : w.cell? ⟨b, o + 1 + 1, none⟩ = some (.slice a2 d2.length p2)) (hb : b < w.heap.size)
    (h0 : SlRd cTerm S w a0 p0 d0) (h2 : SlRd cInt S w a2 p2 d2) (h6 : SlRd cInt T w a6 p6 sy) (hs : validSq (d0, d1, d2) = true) (hsy : SyOk sy) (hl4 : sy.length ≤ 4) (hr0 : 0 ≤ r) (hr4 : r ≤ 4) :
    Calls Try.prog 71 #[.pointer (some ⟨b, o, none⟩), .slice a6 sy.length p6, .int .i64 r] w (RetSlB cInt (optB (leastO (d0, d1, d2) sy r)).1 (optB (leastO (d0, d1, d2) sy r)).2 w) := by
  have H0 := hid (h0.keep (S' := fun b => b < w.heap.size) (w' := w) fun b _ hl => ⟨hl, rfl⟩)
  have H2 := hid (h2.keep (S' := fun b => b < w.heap.size) (w' := w) fun b _ hl => ⟨hl, rfl⟩)
  have H6 := hid (h6.keep (S' := fun b => b < w.heap.size) (w' := w) fun b _ hl => ⟨hl, rfl⟩)
  have HSQ := hid hs
  have HSY := hid hsy
  have T0 := hid t0
  have T1 := hid t1
  have T2 := hid t2
  obtain ⟨RES, hRES⟩ : ∃ x, leastO (d0, d1, d2) sy r = x := ⟨_, rfl⟩
  have HBG : Hid (LInv (d0, d1, d2) sy r RES 6561 (begF sy r sy.length)) := by unfold Hid; rw [← hRES]; exact LInv.begin _ hr0 hr4 hl4
  rw [hRES]
  have hwr : IntKind.i64.wrap (-r) = -r := wrap_in _ (by omega) (by omega)
  clear h0 h2 h6 hs hsy t0 t1 t2 hRES
  obtain ⟨g1, hg1⟩ : ∃ g1, g1 = w.heap.size := ⟨_, rfl⟩
  have hg1a : w.heap.size ≤ g1 := by omega
  have hg1b : g1 ≤ w.heap.size := by omega
  have hbg : b < g1 := by omega
  go_enter Try.func71, Try.ntmps71
  go_wp2_with (at_make; go_loud (refine wpList_mk rfl (.const (.int .i64 10)) (.const (.int .i64 10)) _ rfl rfl rfl (own_mk slI64 (C := cInt) (base := w.heap.size) (fun _ => False) 10 (by omega) (Nat.le_refl _) 0 (fun _ _ => ⟨rfl, by omega, by omega⟩) _ _) ?_); rintro w2 ⟨hown, hg⟩; have HO2 := hid hown; have HG2 := hid ((Below.refl w.heap.size w).grown hg (Nat.le_refl _) (by simp)); clear hown hg)
  rw [← hg1] at HO2 HG2 ⊢
  have hgl2 : g1 < w2.heap.size := (own_lt HO2.out g1 rfl).2
  clear hg1
  have HBG0 : Hid (begF sy r 0 = List.replicate 10 0) := rfl
  rw [← HBG0.out] at HO2
  go_loopw [9] (fun i wr => ∃ k : Nat, k ≤ sy.length ∧ i = .int .i64 k ∧ Hid (OwnSl cInt (fun _ => False) wr g1 2 (.slice (some ⟨g1, 0, none⟩) 10 10) (begF sy r k)) ∧ Hid (Below g1 w wr) ∧ g1 < wr.heap.size) (fun i _ => sy.length - (intOf i).toNat)
  case atStart => exact ⟨0, Nat.zero_le _, rfl, HO2, HG2, hgl2⟩
  case round =>
    obtain ⟨k, hk, rfl, HO, HBR, hgz⟩ := hrel
    have H6R := hid (H6.out.keep (S' := fun b => b < g1) (w' := wr) fun b hb _ => ⟨by omega, HBR.out.block b (by omega)⟩)
    by_cases hlt : k < sy.length
    · obtain ⟨b6, off6, rfl⟩ := H6R.out.some_of hlt
      obtain ⟨x, hx, hx64, hcx, hbx⟩ := H6R.out.int_at k hlt
      obtain ⟨x0, x1⟩ := HSY.out.rng x (List.mem_of_getElem? hx)
      obtain ⟨q, rfl⟩ := Int.eq_ofNat_of_zero_le x0
      have hq : q < 10 := by omega
      obtain ⟨z, hz, hz64, hcz, hfz, hgl, _⟩ := own_at_int HO.out (begF_len hr0 k) q hq
      have HS := hid (begF_succ (r := r) hx)
      have hset := own_set_int HO.out (begF_len hr0 k) q hq (-r) ⟨by omega, by omega⟩
      have HOS := hid hset.1
      have HBS := hid (HBR.out.setCell (p := ⟨g1, q, none⟩) (Nat.le_refl _) (.int .i64 (-r)))
      have hgs : g1 < (wr.setCell ⟨g1, q, none⟩ (.int .i64 (-r))).heap.size := by rw [size_set]; exact hgz
      have i0 : (0 : Int) ≤ (k : Int) := by omega
      have i1 : (k : Int) < (sy.length : Int) := by omega
      have q0 : (0 : Int) ≤ (q : Int) := by omega
      have q1 : (q : Int) < 10 := by omega
      clear hx hz hset
      go_wp2
      go_roundw
      case rel => exact ⟨k + 1, by omega, by go_num, by rw [HS.out, Int.toNat_natCast]; exact HOS, HBS, hgs⟩
      case measure => simp [intOf]; omega
    · have hke : k = sy.length := by omega
      subst hke
      have e1 : decide ((sy.length : Int) < (sy.length : Int)) = false := by simp
      go_wp2
      go_loopg [] 6561 (fun K wq => ∃ vs : List Int, K ≤ 6561 ∧ Hid (LInv (d0, d1, d2) sy r RES K vs) ∧ Hid (OwnSl cInt (fun _ => False) wq g1 2 (.slice (some ⟨g1, 0, none⟩) 10 10) vs) ∧ Hid (Below g1 w wq) ∧ g1 < wq.heap.size)
      case atStart => exact ⟨_, Nat.le_refl _, HBG, HO, HBR, hgz⟩
      case round =>
        clear HO HBR hgz H6R
        obtain ⟨vs, hK, HI, HO, HBR, hgz⟩ := hrel
        have hvok := HI.out.1
        have HVL := hid hvok.1
        have HVO := hid hvok
        obtain ⟨a7, p7, he7, hs7⟩ := own_rd (own_keep (S' := Fresh g1 wr) HO.out (fun _ h => h.elim) fun _ _ _ => rfl) (Nat.le_refl _)
        rw [hvok.1] at he7
        cases he7
        have HS7 := hid hs7
        have H6R := hid (H6.out.keep (S' := fun b => b < g1) (w' := wr) fun b hb _ => ⟨by omega, HBR.out.block b (by omega)⟩)
        have s0 := cell_below HBR.out (by omega) T0.out
        have s1 := cell_below HBR.out (by omega) T1.out
        have s2 := cell_below HBR.out (by omega) T2.out
        have H0R := hid (H0.out.keep (S' := fun b => b < g1) (w' := wr) fun b hb _ => ⟨by omega, HBR.out.block b (by omega)⟩)
        have H2R := hid (H2.out.keep (S' := fun b => b < g1) (w' := wr) fun b hb _ => ⟨by omega, HBR.out.block b (by omega)⟩)
        obtain ⟨cb, hcb⟩ : ∃ cb, counterB (d0, d1, d2) vs = cb := ⟨_, rfl⟩
        have HC := hid (c_l02Counter s0 s1 s2 (by omega) H0R.out H2R.out HS7.out HSQ.out (hvok.big hr4) (by rw [hvok.1]; omega))
        rw [hcb, hvok.1] at HC
        have HCB := hid hcb
        clear hs7 hcb hvok
        cases cb
        · have HOK := HI.out
          go_wp2_with fail
          refine HC.out.mono ?_
          rintro e w5 ⟨rfl, hb5⟩
          have HO5 := hid (own_below HO.out (Nat.le_refl _) hb5)
          have HB5 := hid (HBR.out.trans (hb5.mono (by omega)))
          have hgz5 := Nat.lt_of_lt_of_le hgz hb5.size
          clear hb5 HC HO HBR HS7 H6R hgz HOK s0 s1 s2 H0R H2R
          have hsw : IntKind.i64.wrap ((sy.length : Int) - 1) = (sy.length : Int) - 1 := wrap_in _ (by omega) (by omega)
          go_wp2
          go_loopw [10] (fun jj wz => ∃ (j : Nat) (us : List Int), j ≤ sy.length ∧ jj = .int .i64 ((j : Int) - 1) ∧ Hid (incF sy r j us = incF sy r sy.length vs) ∧ Hid (VOk r us) ∧ Hid (OwnSl cInt (fun _ => False) wz g1 2 (.slice (some ⟨g1, 0, none⟩) 10 10) us) ∧ Hid (Below g1 w wz) ∧ g1 < wz.heap.size) (fun jj _ => (intOf jj + 1).toNat)
          case atStart => exact ⟨sy.length, vs, Nat.le_refl _, rfl, rfl, HVO, HO5, HB5, hgz5⟩
          case round =>
            clear HO5 HB5 hgz5
            obtain ⟨j, us, hj, rfl, HIN, HUO, HO, HBR, hgz⟩ := hrel
            have H6R := hid (H6.out.keep (S' := fun b => b < g1) (w' := wr) fun b hb _ => ⟨by omega, HBR.out.block b (by omega)⟩)
            cases j with
            | zero =>
              have HNO : Hid (incF sy r sy.length vs = none) := HIN.out.symm.trans rfl
              have HRE := hid (HI.out.stop hr0 HCB.out HNO.out)
              have e3 : ((0 : Nat) : Int) - 1 = -1 := rfl
              rw [e3]
              go_wp2
              go_ret2
              rw [HRE.out]
              exact ⟨none, 0, rfl, nil_rd _ _ _, HBR.out.mono hg1a⟩
            | succ j =>
              have e3 : ((j + 1 : Nat) : Int) - 1 = (j : Int) := by omega
              rw [e3]
              have hjl : j < sy.length := by omega
              obtain ⟨b6, off6, rfl⟩ := H6R.out.some_of hjl
              obtain ⟨x, hx, hx64, hcx, hbx⟩ := H6R.out.int_at j hjl
              obtain ⟨x0, x1⟩ := HSY.out.rng x (List.mem_of_getElem? hx)
              obtain ⟨q, rfl⟩ := Int.eq_ofNat_of_zero_le x0
              have hq : q < 10 := by omega
              obtain ⟨z, hz, hz64, hcz, hfz, hgl, _⟩ := own_at_int HO.out HUO.out.1 q hq
              obtain ⟨hz1, hz2⟩ := HUO.out.at hz
              have j0 : (0 : Int) ≤ (j : Int) := by omega
              have j1 : (j : Int) < (sy.length : Int) := by omega
              have q0 : (0 : Int) ≤ (q : Int) := by omega
              have q1 : (q : Int) < 10 := by omega
              have hj1 : IntKind.i64.wrap ((j : Int) - 1) = (j : Int) - 1 := wrap_in _ (by omega) (by omega)
              by_cases hzr : z = r
              · have e4 : (z == r) = true := by simpa using hzr
                have HIN2 : Hid (incF sy r j (us.set q (-r)) = incF sy r sy.length vs) := by
                  have h9 := incF_full (sy := sy) (r := r) hx (vs := us) (v := z) (by rw [Int.toNat_natCast]; exact hz) hzr
                  rw [Int.toNat_natCast] at h9
                  unfold Hid; rw [← h9]; exact HIN.out
                have HUO2 : Hid (VOk r (us.set q (-r))) := HUO.out.set (by omega) (by omega)
                have hset := own_set_int HO.out HUO.out.1 q hq (-r) ⟨by omega, by omega⟩
                have HOS := hid hset.1
                have HBS := hid (HBR.out.setCell (p := ⟨g1, q, none⟩) (Nat.le_refl _) (.int .i64 (-r)))
                have hgs : g1 < (wr.setCell ⟨g1, q, none⟩ (.int .i64 (-r))).heap.size := by rw [size_set]; exact hgz
                clear hx hz hset hzr
                go_wp2
                go_roundw
                case rel => exact ⟨j, _, by omega, rfl, HIN2, HUO2, HOS, HBS, hgs⟩
                case measure => simp [intOf]
              · have e4 : (z == r) = false := by simpa using hzr
                have hzw : IntKind.i64.wrap (z + 1) = z + 1 := wrap_in _ (by omega) (by omega)
                have HIS : Hid (incF sy r sy.length vs = some (us.set q (z + 1))) := by
                  have h9 := incF_step (sy := sy) (r := r) hx (vs := us) (v := z) (by rw [Int.toNat_natCast]; exact hz) hzr
                  rw [Int.toNat_natCast] at h9
                  unfold Hid; rw [← h9]; exact HIN.out.symm
                obtain ⟨K2, hK2, hI2⟩ := HI.out.next HSY.out hr0 HCB.out HIS.out
                have HI2 := hid hI2
                have hset := own_set_int HO.out HUO.out.1 q hq (z + 1) ⟨by omega, by omega⟩
                have HOS := hid hset.1
                have HBS := hid (HBR.out.setCell (p := ⟨g1, q, none⟩) (Nat.le_refl _) (.int .i64 (z + 1)))
                have hgs : g1 < (wr.setCell ⟨g1, q, none⟩ (.int .i64 (z + 1))).heap.size := by rw [size_set]; exact hgz
                have j2 : decide ((j : Int) < 0) = false := by simp
                clear hx hz hset hzr hI2
                go_wp2
                go_roundg K2
                case measure => exact hK2
                case rel => exact ⟨_, by omega, HI2, HOS, HBS, hgs⟩
        · have HRE := hid (HI.out.found hr0 HCB.out)
          go_wp2_with fail
          refine HC.out.mono ?_
          rintro e w5 ⟨rfl, hb5⟩
          have HB5 := hid (HBR.out.trans (hb5.mono (by omega)))
          have HS5 : Hid (SlRd cInt (Fresh w.heap.size w5) w5 (some ⟨g1, 0, none⟩) 10 vs) := HS7.out.fresh (by omega) (Nat.le_refl _) hb5
          clear hb5 HC
          go_wp2
          go_ret2
          rw [HRE.out]
          exact ⟨some ⟨g1, 0, none⟩, 10, by simp only [optB]; rw [HVL.out]; rfl, HS5.out, HB5.out.mono hg1a⟩
end Go.Proofs.Ytedmhdinfedhhaa
