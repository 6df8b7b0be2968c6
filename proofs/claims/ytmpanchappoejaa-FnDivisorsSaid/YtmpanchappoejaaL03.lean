/- Contracts of chapter 3: states, and the laws' helpers over states. -/
import Derived.Test.YtmpanchappoejaaL02
import Derived.Test.YtmpanchappoejaaHlp
namespace Go.Proofs.Ytmpanchappoejaa
open Go.RowKit

def numsOk (zs : List Int) (n : Nat) : Bool := decide (zs.length = n) && allIn zs (-1000000000) 1000000000
def validState (s : St) : Bool := numsOk s.1 4 && numsOk s.2 8

theorem c_l03Numbers {S : Nat → Prop} (a : Option Addr) (cap : Nat) (zs : List Int) (n : Nat) (w : World) (h : SlRd cInt S w a cap zs) (_hn : n ≤ 100) :
    Calls Try.prog 127 #[.slice a zs.length cap, .int .i64 n] w fun e w' => e = .returned (.bool (numsOk zs n)) ∧ w = w' := by
  have hl := h.len_le
  have H := hid h
  clear h
  go_enter Try.func127, Try.ntmps127
  go_wp2
  go_loop [5] (fun i => ∃ k : Nat, k ≤ zs.length ∧ i = .int .i64 k ∧ Hid ((zs.take k).all (fun z => inB z (-1000000000) 1000000000) = true)) (fun i => zs.length - (intOf i).toNat)
  case atStart => exact ⟨0, Nat.zero_le _, rfl, rfl⟩
  case round =>
    obtain ⟨k, hk, rfl, HA⟩ := hrel
    by_cases hlt : k < zs.length
    · obtain ⟨b, off, rfl⟩ := H.out.some_of hlt
      obtain ⟨z, hz, hz2, hc, hb⟩ := H.out.int_at k hlt
      have HZ := hid hz
      clear hz
      by_cases hin : inB z (-1000000000) 1000000000 = true
      · go_wp2_with (go_at_call 90; refine (c_l00In _ _ _ _).mono ?_; rintro e w' ⟨rfl, rfl⟩)
        go_round
        case rel => exact ⟨k + 1, by omega, by go_num, (all_take HA.out HZ.out).trans hin⟩
        case measure => simp [intOf]; omega
      · have hin' : inB z (-1000000000) 1000000000 = false := by simpa using hin
        go_wp2_with (go_at_call 90; refine (c_l00In _ _ _ _).mono ?_; rintro e w' ⟨rfl, rfl⟩)
        go_ret
        exact ⟨ret_bool (by have := all_false (p := fun z => inB z (-1000000000) 1000000000) HZ.out hin'; simp only [numsOk, allIn, this]; simp), rfl⟩
    · have hge : zs.length ≤ k := by omega
      have HE := hid (all_end HA.out hge)
      go_wp2
      go_ret
      exact ⟨ret_bool (by have := HE.out; simp only [numsOk, allIn, this]; rw [Bool.eq_iff_iff]; simp; omega), rfl⟩
theorem c_l03State {S : Nat → Prop} (b o : Nat) (a a' : Option Addr) (cap cap' : Nat) (us vs : List Int) (w : World) (h0 : w.cell? ⟨b, o, none⟩ = some (.slice a us.length cap)) (h1 : w.cell? ⟨b, o + 1, none⟩ = some (.slice a' vs.length cap')) (hu : SlRd cInt S w a cap us) (hv : SlRd cInt S w a' cap' vs) :
    Calls Try.prog 106 #[.pointer (some ⟨b, o, none⟩)] w fun e w' => e = .returned (.bool (validState (us, vs))) ∧ w = w' := by
  have HU := hid hu
  have HV := hid hv
  clear hu hv
  obtain ⟨p, hp⟩ : ∃ p, numsOk us 4 = p := ⟨_, rfl⟩
  have HP := hid hp
  clear hp
  cases p
  · have HF : Hid (validState (us, vs) = false) := by unfold Hid; simp [validState, HP.out]
    go_enter Try.func106, Try.ntmps106
    go_wp2_with (go_at_call 127; refine (c_l03Numbers _ _ _ 4 _ HU.out (by omega)).mono ?_; rintro e w' ⟨rfl, rfl⟩; rw [HP.out])
    go_ret
    exact ⟨ret_bool HF.out.symm, rfl⟩
  · have HF : Hid (validState (us, vs) = numsOk vs 8) := by unfold Hid; simp [validState, HP.out]
    go_enter Try.func106, Try.ntmps106
    go_wp2_with fail
    refine (c_l03Numbers _ _ _ 4 _ HU.out (by omega)).mono ?_
    rintro e w' ⟨rfl, rfl⟩
    rw [HP.out]
    go_wp2_with fail
    refine (c_l03Numbers _ _ _ 8 _ HV.out (by omega)).mono ?_
    rintro e w' ⟨rfl, rfl⟩
    go_wp2
    go_ret
    exact ⟨ret_bool HF.out.symm, rfl⟩
theorem c_ValidState {S : Nat → Prop} (a a' : Option Addr) (cap cap' : Nat) (us vs : List Int) (w : World) (hu : SlRd cInt S w a cap us) (hv : SlRd cInt S w a' cap' vs) :
    Calls Try.prog 109 #[.agg #[.slice a us.length cap, .slice a' vs.length cap']] w fun e w' => e = .returned (.bool (validState (us, vs))) ∧ Below w.heap.size w w' := by
  have HU := hid (hu.alloc (.cells #[.slice a us.length cap, .slice a' vs.length cap'] 88))
  have HV := hid (hv.alloc (.cells #[.slice a us.length cap, .slice a' vs.length cap'] 88))
  have HB : Hid (Below w.heap.size w (w.alloc (.cells #[.slice a us.length cap, .slice a' vs.length cap'] 88))) := (Below.refl _ _).alloc (Nat.le_refl _) _
  clear hu hv
  by_cases h1 : us.length = 4
  · by_cases h2 : vs.length = 8
    · have e1 : ((us.length : Int) == 4) = true := by simp [h1]
      have e2 : ((vs.length : Int) == 8) = true := by simp [h2]
      obtain ⟨p, hp⟩ : ∃ p, allIn us (-1000000000) 1000000000 = p := ⟨_, rfl⟩
      have HP := hid hp
      have HF : Hid (validState (us, vs) = (p && allIn vs (-1000000000) 1000000000)) := by unfold Hid; simp [validState, numsOk, h1, h2, hp]
      clear hp h1 h2
      cases p
      · go_enter Try.func109, Try.ntmps109
        go_wp2_with (go_at_call 70; refine (c_allWithin _ _ _ _ _ _ HU.out).mono ?_; rintro e w' ⟨rfl, rfl⟩; rw [HP.out])
        go_ret
        exact ⟨ret_bool (by rw [HF.out]; rfl), HB.out⟩
      · go_enter Try.func109, Try.ntmps109
        go_wp2_with fail
        refine (c_allWithin _ _ _ _ _ _ HU.out).mono ?_
        rintro e w' ⟨rfl, rfl⟩
        rw [HP.out]
        go_wp2_with fail
        refine (c_allWithin _ _ _ _ _ _ HV.out).mono ?_
        rintro e w' ⟨rfl, rfl⟩
        go_wp2
        go_ret
        exact ⟨ret_bool (by rw [HF.out]; rfl), HB.out⟩
    · have e1 : ((us.length : Int) == 4) = true := by simp [h1]
      have e2 : ((vs.length : Int) == 8) = false := by simp; omega
      have HF : Hid (validState (us, vs) = false) := by unfold Hid; simp [validState, numsOk, h2]
      clear h1 h2
      go_enter Try.func109, Try.ntmps109
      go_wp2
      go_ret
      exact ⟨ret_bool HF.out.symm, HB.out⟩
  · have e1 : ((us.length : Int) == 4) = false := by simp; omega
    have HF : Hid (validState (us, vs) = false) := by unfold Hid; simp [validState, numsOk, h1]
    clear h1
    go_enter Try.func109, Try.ntmps109
    go_wp2
    go_ret
    exact ⟨ret_bool HF.out.symm, HB.out⟩
theorem c_szState (a a' : Option Addr) (n cap m cap' : Nat) (left : Int) (w : World) (hn : n ≤ 9223372036854775807) (hm : m ≤ 9223372036854775807) (h0 : 0 ≤ left) (h1 : left ≤ 1048576) :
    Calls Try.prog 57 #[.agg #[.slice a n cap, .slice a' m cap'], .int .i64 left] w fun e w' => e = .returned (.int .i64 (szR left (n + m : Nat))) ∧ Below w.heap.size w w' := by
  have HB : Hid (Below w.heap.size w (w.alloc (.cells #[.slice a n cap, .slice a' m cap'] 82))) := (Below.refl _ _).alloc (Nat.le_refl _) _
  obtain ⟨r, hr⟩ : ∃ r, szR left n = r := ⟨_, rfl⟩
  have hrl : r ≤ left := by rw [← hr]; unfold szR; split <;> omega
  by_cases h : r < 0
  · have HF : Hid (szR left (n + m : Nat) = -1) := szR_neg (by rw [hr]; exact h)
    have HR := hid hr
    clear hr
    go_enter Try.func57, Try.ntmps57
    go_wp2_with (go_at_call 83; refine (c_szInt64S _ _ _ _ _ hn (by omega) (by omega)).mono ?_; rintro e w' ⟨rfl, rfl⟩; rw [HR.out])
    go_ret
    exact ⟨ret_int HF.out.symm, HB.out⟩
  · obtain ⟨q, hq⟩ : ∃ q, szR r m = q := ⟨_, rfl⟩
    have HF : Hid (szR left (n + m : Nat) = q) := by unfold Hid; rw [← hq, ← hr, szR_add (by rw [hr]; omega)]
    have hqn : q < 0 → q = -1 := by rw [← hq]; unfold szR; split <;> omega
    have HR := hid hr
    have HQ := hid hq
    clear hr hq
    by_cases h2 : q < 0
    · have HQ1 := hid (hqn h2)
      clear hqn
      go_enter Try.func57, Try.ntmps57
      go_wp2_with fail
      refine (c_szInt64S _ _ _ _ _ hn (by omega) (by omega)).mono ?_
      rintro e w' ⟨rfl, rfl⟩
      rw [HR.out]
      go_wp2_with fail
      refine (c_szInt64S _ _ _ _ _ hm (by omega) (by omega)).mono ?_
      rintro e w' ⟨rfl, rfl⟩
      rw [HQ.out]
      go_wp2
      go_ret
      exact ⟨ret_int (by rw [HF.out, HQ1.out]), HB.out⟩
    · clear hqn
      go_enter Try.func57, Try.ntmps57
      go_wp2_with fail
      refine (c_szInt64S _ _ _ _ _ hn (by omega) (by omega)).mono ?_
      rintro e w' ⟨rfl, rfl⟩
      rw [HR.out]
      go_wp2_with fail
      refine (c_szInt64S _ _ _ _ _ hm (by omega) (by omega)).mono ?_
      rintro e w' ⟨rfl, rfl⟩
      rw [HQ.out]
      go_wp2
      go_ret
      exact ⟨ret_int HF.out.symm, HB.out⟩
def RetState (s : St) (w : World) (e : Ending) (w' : World) : Prop :=
  ∃ a cap b cap', e = .returned (.agg #[.slice a s.1.length cap, .slice b s.2.length cap']) ∧ SlRd cInt (Fresh w.heap.size w') w' a cap s.1 ∧ SlRd cInt (Fresh w.heap.size w') w' b cap' s.2 ∧ Below w.heap.size w w'
theorem c_toState {S : Nat → Prop} (a a' : Option Addr) (cap cap' : Nat) (us vs : List Int) (w : World) (hu : SlRd cInt S w a cap us) (hv : SlRd cInt S w a' cap' vs) (hn : us.length ≤ 1048576) (hm : vs.length ≤ 1048576) :
    Calls Try.prog 60 #[.agg #[.slice a us.length cap, .slice a' vs.length cap']] w (RetState (us, vs) w) := by
  have HU := hid (((hu.alloc (.cells #[.slice a us.length cap, .slice a' vs.length cap'] 82)).alloc (.cells #[.slice none 0 0, .slice none 0 0] 88)).alloc (.cells #[.slice none 0 0, .slice none 0 0] 88))
  have hv := hv.keep (S' := fun b => S b ∧ b < w.heap.size) (w' := w) (fun b hb hlt => ⟨⟨hb, hlt⟩, rfl⟩)
  have HV := hid (((hv.alloc (.cells #[.slice a us.length cap, .slice a' vs.length cap'] 82)).alloc (.cells #[.slice none 0 0, .slice none 0 0] 88)).alloc (.cells #[.slice none 0 0, .slice none 0 0] 88))
  clear hu hv
  go_enter Try.func60, Try.ntmps60
  go_wp2_with fail
  refine (c_toInt64S _ _ _ _ HU.out hn).mono ?_
  rintro e w1 ⟨a1, cap1, rfl, hs1, hb1⟩
  have hz1 := hb1.size
  have z1 : w.heap.size + 1 + 1 < w1.heap.size := by simp at hz1; omega
  have t1 := cell_below hb1 (b := w.heap.size) (o := 1) (v := .slice a' vs.length cap') (by simp; omega) (by simp [go_sem])
  have c0 := cell_below hb1 (b := w.heap.size + 1 + 1) (o := 0) (v := .slice none 0 0) (by simp) (by simp [go_sem])
  have c1 := cell_below hb1 (b := w.heap.size + 1 + 1) (o := 1) (v := .slice none 0 0) (by simp) (by simp [go_sem])
  have r0 := cell_below hb1 (b := w.heap.size + 1) (o := 0) (v := .slice none 0 0) (by simp) (by simp [go_sem])
  have r1 := cell_below hb1 (b := w.heap.size + 1) (o := 1) (v := .slice none 0 0) (by simp) (by simp [go_sem])
  have f0 := frz_below hb1 (b := w.heap.size + 1 + 1) (o := 0) (by simp) (by simp [go_sem])
  have f1 := frz_below hb1 (b := w.heap.size + 1 + 1) (o := 1) (by simp) (by simp [go_sem])
  have g0 := frz_below hb1 (b := w.heap.size + 1) (o := 0) (by simp) (by simp [go_sem])
  have g1 := frz_below hb1 (b := w.heap.size + 1) (o := 1) (by simp) (by simp [go_sem])
  have HV1 := hid (HV.out.below (Nat.le_refl _) hb1)
  have hbw : Below w.heap.size w w1 := ((((Below.refl _ _).alloc (Nat.le_refl _) _).alloc (by simp) _).alloc (by simp; omega) _).trans (hb1.mono (by simp; omega))
  have HS1 : Hid (SlRd cInt (Fresh (w.heap.size + 1 + 1 + 1) w1) w1 a1 cap1 us) := by simp only [World.size_alloc] at hs1; exact hs1
  have HBW := hid hbw
  clear hb1 hs1 hz1 hbw
  go_wp2_with fail
  have c0' : (w1.setCell ⟨w.heap.size + 1 + 1, 0, none⟩ (.slice a1 us.length cap1)).cell? ⟨w.heap.size + 1 + 1, 0, none⟩ = some (.slice a1 us.length cap1) := by simp [go_sem, c0]
  have c1' : (w1.setCell ⟨w.heap.size + 1 + 1, 0, none⟩ (.slice a1 us.length cap1)).cell? ⟨w.heap.size + 1 + 1, 1, none⟩ = some (.slice none 0 0) := by simp [go_sem, c1]
  have f1' : (w1.setCell ⟨w.heap.size + 1 + 1, 0, none⟩ (.slice a1 us.length cap1)).frozen? ⟨w.heap.size + 1 + 1, 1, none⟩ = false := by simp [go_sem, f1]
  have r0' := cell_set_ne (p := ⟨w.heap.size + 1 + 1, 0, none⟩) (u := .slice a1 us.length cap1) (by simp) r0
  have r1' := cell_set_ne (p := ⟨w.heap.size + 1 + 1, 0, none⟩) (u := .slice a1 us.length cap1) (by simp) r1
  have g0' := frz_set_ne (p := ⟨w.heap.size + 1 + 1, 0, none⟩) (u := .slice a1 us.length cap1) (by simp) g0
  have g1' := frz_set_ne (p := ⟨w.heap.size + 1 + 1, 0, none⟩) (u := .slice a1 us.length cap1) (by simp) g1
  have z1' : w.heap.size + 1 + 1 < (w1.setCell ⟨w.heap.size + 1 + 1, 0, none⟩ (.slice a1 us.length cap1)).heap.size := by rw [size_set]; exact z1
  have HS1' := hid (HS1.out.setC (p := ⟨w.heap.size + 1 + 1, 0, none⟩) (by simp) (.slice a1 us.length cap1))
  have HBW' := hid (HBW.out.setCell (p := ⟨w.heap.size + 1 + 1, 0, none⟩) (by simp; omega) (.slice a1 us.length cap1))
  have HV1' : Hid (SlRd cInt (fun b => S b ∧ b < w.heap.size) (w1.setCell ⟨w.heap.size + 1 + 1, 0, none⟩ (.slice a1 us.length cap1)) a' cap' vs) := HV1.out.set_ne (p := ⟨w.heap.size + 1 + 1, 0, none⟩) (fun b h => by have h2 := h.2; show b ≠ w.heap.size + 1 + 1; omega) _
  clear c0 c1 f1 f0 r0 r1 g0 g1 z1 HS1 HBW t1
  generalize w1.setCell ⟨w.heap.size + 1 + 1, 0, none⟩ (.slice a1 us.length cap1) = w1' at *
  refine (c_toInt64S _ _ _ _ HV1'.out hm).mono ?_
  rintro e w2 ⟨a2, cap2, rfl, hs2, hb2⟩
  have c0 := cell_below hb2 z1' c0'
  have c1 := cell_below hb2 z1' c1'
  have f1 := frz_below hb2 z1' f1'
  have r0 := cell_below hb2 (by omega) r0'
  have r1 := cell_below hb2 (by omega) r1'
  have g0 := frz_below hb2 (by omega) g0'
  have g1 := frz_below hb2 (by omega) g1'
  have HS1 := hid (HS1'.out.fresh (Nat.le_refl _) (Nat.le_refl _) hb2)
  have HS2 := hid (hs2.lower (B' := w.heap.size + 1 + 1 + 1) (by omega))
  have HBW := hid (HBW'.out.trans (hb2.mono HBW'.out.size))
  clear hb2 hs2 c0' c1' f1' r0' r1' g0' g1'
  go_wp2
  refine bodyPost_ret (v := .agg #[.slice a1 us.length cap1, .slice a2 vs.length cap2]) (by simp [results, Try.results60, go_sem, r0, r1]) rfl ⟨a1, cap1, a2, cap2, rfl, ?_, ?_, ?_⟩
  · exact (((HS1.out.setC (by simp) _).setC (by simp) _).setC (by simp) _).lower (by omega)
  · exact (((HS2.out.setC (by simp) _).setC (by simp) _).setC (by simp) _).lower (by omega)
  · exact ((HBW.out.setCell (by simp; omega) _).setCell (by simp) _).setCell (by simp) _
theorem c_eqState {S T : Nat → Prop} (a a' b b' : Option Addr) (ca ca' cb cb' : Nat) (us vs us' vs' : List Int) (w : World) (hx : SlRd cInt S w a ca us) (hy : SlRd cInt T w b cb us') (hx' : SlRd cInt S w a' ca' vs) (hy' : SlRd cInt T w b' cb' vs') :
    Calls Try.prog 63 #[.agg #[.slice a us.length ca, .slice a' vs.length ca'], .agg #[.slice b us'.length cb, .slice b' vs'.length cb']] w fun e w' => e = .returned (.bool (decide (((us, vs) : St) = (us', vs')))) ∧ Below w.heap.size w w' := by
  have HX := hid ((hx.alloc (.cells #[.slice a us.length ca, .slice a' vs.length ca'] 88)).alloc (.cells #[.slice b us'.length cb, .slice b' vs'.length cb'] 88))
  have HX' := hid ((hx'.alloc (.cells #[.slice a us.length ca, .slice a' vs.length ca'] 88)).alloc (.cells #[.slice b us'.length cb, .slice b' vs'.length cb'] 88))
  have HY := hid ((hy.alloc (.cells #[.slice a us.length ca, .slice a' vs.length ca'] 88)).alloc (.cells #[.slice b us'.length cb, .slice b' vs'.length cb'] 88))
  have HY' := hid ((hy'.alloc (.cells #[.slice a us.length ca, .slice a' vs.length ca'] 88)).alloc (.cells #[.slice b us'.length cb, .slice b' vs'.length cb'] 88))
  have HB : Hid (Below w.heap.size w ((w.alloc (.cells #[.slice a us.length ca, .slice a' vs.length ca'] 88)).alloc (.cells #[.slice b us'.length cb, .slice b' vs'.length cb'] 88))) := ((Below.refl _ _).alloc (Nat.le_refl _) _).alloc (by simp) _
  clear hx hy hx' hy'
  obtain ⟨r, hr⟩ : ∃ r, decide (us = us') = r := ⟨_, rfl⟩
  obtain ⟨q, hq⟩ : ∃ q, decide (vs = vs') = q := ⟨_, rfl⟩
  have HF : Hid (decide (((us, vs) : St) = (us', vs')) = (r && q)) := by unfold Hid; rw [← hr, ← hq, Bool.eq_iff_iff]; simp
  have HR := hid hr
  have HQ := hid hq
  clear hr hq
  cases r
  · go_enter Try.func63, Try.ntmps63
    go_wp2_with fail
    refine (c_eqInt64S _ _ _ _ _ _ _ HX.out HY.out).mono ?_
    rintro e w1 ⟨rfl, hb1⟩
    rw [HR.out]
    have HB1 := hid (bel_next HB.out HB.out.size hb1)
    clear hb1
    go_wp2
    go_ret
    exact ⟨ret_bool HF.out.symm, HB1.out⟩
  · cases q
    all_goals
      go_enter Try.func63, Try.ntmps63
      go_wp2_with fail
      refine (c_eqInt64S _ _ _ _ _ _ _ HX.out HY.out).mono ?_
      rintro e w1 ⟨rfl, hb1⟩
      rw [HR.out]
      have t0 := cell_below hb1 (b := w.heap.size) (o := 1) (v := .slice a' vs.length ca') (by simp; omega) (by simp [go_sem])
      have t1 := cell_below hb1 (b := w.heap.size + 1) (o := 1) (v := .slice b' vs'.length cb') (by simp) (by simp [go_sem])
      have HB1 := hid (bel_next HB.out HB.out.size hb1)
      have HX1 := hid (HX'.out.below (Nat.le_refl _) hb1)
      have HY1 := hid (HY'.out.below (Nat.le_refl _) hb1)
      clear hb1
      go_wp2_with fail
      refine (c_eqInt64S _ _ _ _ _ _ _ HX1.out HY1.out).mono ?_
      rintro e w2 ⟨rfl, hb2⟩
      rw [HQ.out]
      have HB2 := hid (bel_next HB1.out HB1.out.size hb2)
      clear hb2
      go_wp2
      go_ret
      exact ⟨ret_bool HF.out.symm, HB2.out⟩
end Go.Proofs.Ytmpanchappoejaa
