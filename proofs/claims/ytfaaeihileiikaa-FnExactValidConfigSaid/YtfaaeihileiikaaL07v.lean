/- Contracts: valid configs. -/
import Derived.Test.YtfaaeihileiikaaHCfg
import Derived.Test.YtfaaeihileiikaaL07c
import Derived.Test.YtfaaeihileiikaaL03
namespace Go.Proofs.Ytfaaeihileiikaa
open Go.RowKit

def validCfg (c : Cfg) : Bool := (((validState c.1 && decide (c.2.1.length ≤ 6)) && allIn c.2.1 (-10000000000000000) 10000000000000000) && inB c.2.2 0 80)
def configF (xs : List Instr) (c : Cfg) : Bool := validCode xs && validCfg c
set_option maxRecDepth 100000 in
set_option maxHeartbeats 1000000 in
theorem c_ValidConfig {S T : Nat → Prop} {a : Option Addr} {p : Nat} {xs : List Instr} {a0 : Option Addr} {p0 : Nat} {d0 : List Int} {a1 : Option Addr} {p1 : Nat} {d1 : List Int} {a2 : Option Addr} {p2 : Nat} {d2 : List Int} {d3 : Int} {w : World} (h : SlRd cInstr S w a p xs) (h0 : SlRd cInt T w a0 p0 d0) (h1 : SlRd cInt T w a1 p1 d1) (h2 : SlRd cInt T w a2 p2 d2) :
    Calls Try.prog 18 #[.slice a xs.length p, .agg #[.slice a0 d0.length p0, .slice a1 d1.length p1, .slice a2 d2.length p2, .int .i64 d3]] w fun e w' => e = .returned (.bool (configF xs ((d0, d1), d2, d3))) ∧ Below w.heap.size w w' := by
  have hl2 := h2.len_le
  have H := hid (h.alloc (.cells #[.slice a0 d0.length p0, .slice a1 d1.length p1, .slice a2 d2.length p2, .int .i64 d3] 35))
  have H0 := hid (h0.alloc (.cells #[.slice a0 d0.length p0, .slice a1 d1.length p1, .slice a2 d2.length p2, .int .i64 d3] 35))
  have H1 := hid (h1.alloc (.cells #[.slice a0 d0.length p0, .slice a1 d1.length p1, .slice a2 d2.length p2, .int .i64 d3] 35))
  have H2 := hid (h2.alloc (.cells #[.slice a0 d0.length p0, .slice a1 d1.length p1, .slice a2 d2.length p2, .int .i64 d3] 35))
  have HB : Hid (Below w.heap.size w (w.alloc (.cells #[.slice a0 d0.length p0, .slice a1 d1.length p1, .slice a2 d2.length p2, .int .i64 d3] 35))) := (Below.refl _ _).alloc (Nat.le_refl _) _
  clear h h0 h1 h2
  obtain ⟨r, hr⟩ : ∃ r, validCode xs = r := ⟨_, rfl⟩
  obtain ⟨q, hq⟩ : ∃ q, validState (d0, d1) = q := ⟨_, rfl⟩
  obtain ⟨u, hu⟩ : ∃ u, allIn d2 (-10000000000000000) 10000000000000000 = u := ⟨_, rfl⟩
  have HF : Hid (configF xs ((d0, d1), d2, d3) = (r && (((q && decide (d2.length ≤ 6)) && u) && inB d3 0 80))) := by unfold Hid configF validCfg; rw [hr, hq, hu]
  have HR := hid hr
  have HQ := hid hq
  have HU := hid hu
  clear hr hq hu
  cases r
  · go_enter Try.func18, Try.ntmps18
    go_wp2_with (go_at_call 66; refine (c_ValidCode _ _ _ _ H.out).mono ?_; rintro e w1 ⟨rfl, hb1⟩; rw [HR.out])
    go_ret
    exact ⟨ret_bool (by rw [HF.out]; rfl), bel_next HB.out HB.out.size hb1⟩
  · by_cases hl6 : d2.length ≤ 6
    all_goals
      cases q
      all_goals
        cases u
        all_goals
          go_enter Try.func18, Try.ntmps18
          go_wp2_with fail
          refine (c_ValidCode _ _ _ _ H.out).mono ?_
          rintro e w1 ⟨rfl, hb1⟩
          rw [HR.out]
          have t0 := cell_below hb1 (b := w.heap.size) (o := 0) (v := .slice a0 d0.length p0) (by simp) (by simp [go_sem])
          have t1 := cell_below hb1 (b := w.heap.size) (o := 1) (v := .slice a1 d1.length p1) (by simp) (by simp [go_sem])
          have t2 := cell_below hb1 (b := w.heap.size) (o := 2) (v := .slice a2 d2.length p2) (by simp) (by simp [go_sem])
          have t3 := cell_below hb1 (b := w.heap.size) (o := 3) (v := .int .i64 d3) (by simp) (by simp [go_sem])
          have z1 : w.heap.size < w1.heap.size := by have := hb1.size; simp at this; omega
          have HB1 := hid (bel_next HB.out HB.out.size hb1)
          have H01 := hid (H0.out.below (Nat.le_refl _) hb1)
          have H11 := hid (H1.out.below (Nat.le_refl _) hb1)
          have H21 := hid (H2.out.below (Nat.le_refl _) hb1)
          clear hb1
          go_wp2_with fail
          refine (c_ValidState _ _ _ _ _ _ _ H01.out H11.out).mono ?_
          rintro e w2 ⟨rfl, hb2⟩
          rw [HQ.out]
          have s2 := cell_below hb2 z1 t2
          have s3 := cell_below hb2 z1 t3
          have HB2 := hid (bel_next HB1.out HB1.out.size hb2)
          have H22 := hid (H21.out.below (Nat.le_refl _) hb2)
          clear hb2 t0 t1 t2 t3
          go_wp2_with (first | (go_at_call 68; refine (c_allWithin _ _ _ _ _ _ H22.out).mono ?_; rintro e w3 ⟨rfl, rfl⟩; rw [HU.out]) | (go_at_call 69; refine (c_within _ _ _ _).mono ?_; rintro e w3 ⟨rfl, rfl⟩))
          go_ret
          exact ⟨ret_bool (by rw [HF.out]; simp [hl6]), HB2.out⟩
theorem c_l07Wide (n : Int) (w : World) : Calls Try.prog 116 #[.int .i64 n] w fun e w' => e = .returned (.bool (inB n (-10000000000000000) 10000000000000000)) ∧ w = w' := by
  go_enter Try.func116, Try.ntmps116
  go_wp2_with (go_at_call 93; refine (c_l00In _ _ _ _).mono ?_; rintro e w' ⟨rfl, rfl⟩)
  go_ret
  exact ⟨rfl, rfl⟩
set_option maxRecDepth 100000 in
theorem c_l07Config {T : Nat → Prop} {b o : Nat} {a0 : Option Addr} {p0 : Nat} {d0 : List Int} {a1 : Option Addr} {p1 : Nat} {d1 : List Int} {a2 : Option Addr} {p2 : Nat} {d2 : List Int} {d3 : Int} {w : World} (t0 : w.cell? ⟨b, o, none⟩ = some (.slice a0 d0.length p0)) (t1 : w.cell? ⟨b, o + 1, none⟩ = some (.slice a1 d1.length p1)) (t2 : w.cell? ⟨b, o + 1 + 1, none⟩ = some (.slice a2 d2.length p2)) (t3 : w.cell? ⟨b, o + 1 + 1 + 1, none⟩ = some (.int .i64 d3))
    (h0 : SlRd cInt T w a0 p0 d0) (h1 : SlRd cInt T w a1 p1 d1) (h2 : SlRd cInt T w a2 p2 d2) :
    Calls Try.prog 62 #[.pointer (some ⟨b, o, none⟩)] w fun e w' => e = .returned (.bool (validCfg ((d0, d1), d2, d3))) ∧ w = w' := by
  have hl2 := h2.len_le
  have HC := hid (c_l03State _ _ _ _ _ _ _ _ _ t0 t1 h0 h1)
  have H2 := hid h2
  clear h0 h1 h2
  obtain ⟨q, hq⟩ : ∃ q, validState (d0, d1) = q := ⟨_, rfl⟩
  have HF : Hid (validCfg ((d0, d1), d2, d3) = (((q && decide (d2.length ≤ 6)) && allIn d2 (-10000000000000000) 10000000000000000) && inB d3 0 80)) := by unfold Hid validCfg; rw [hq]
  have HQ := hid hq
  clear hq
  go_enter Try.func62, Try.ntmps62
  go_wp2
  go_loop [3] (fun i => ∃ k : Nat, k ≤ d2.length ∧ i = .int .i64 k ∧ Hid ((d2.take k).all (fun z => inB z (-10000000000000000) 10000000000000000) = true)) (fun i => d2.length - (intOf i).toNat)
  case atStart => exact ⟨0, Nat.zero_le _, rfl, rfl⟩
  case round =>
    obtain ⟨k, hk, rfl, HA⟩ := hrel
    by_cases hlt : k < d2.length
    · obtain ⟨b1, off, rfl⟩ := H2.out.some_of hlt
      obtain ⟨z, hz, hz2, hc, hb⟩ := H2.out.int_at k hlt
      have HZ := hid hz
      clear hz
      by_cases hin : inB z (-10000000000000000) 10000000000000000 = true
      · go_wp2_with (go_at_call 116; refine (c_l07Wide _ _).mono ?_; rintro e w' ⟨rfl, rfl⟩)
        go_round
        case rel => exact ⟨k + 1, by omega, by go_num, (all_take HA.out HZ.out).trans hin⟩
        case measure => simp [intOf]; omega
      · have hin' : inB z (-10000000000000000) 10000000000000000 = false := by simpa using hin
        have HF2 : Hid (validCfg ((d0, d1), d2, d3) = false) := by
          have h9 : allIn d2 (-10000000000000000) 10000000000000000 = false := all_false HZ.out hin'
          unfold Hid; rw [HF.out, h9]; simp
        go_wp2_with (go_at_call 116; refine (c_l07Wide _ _).mono ?_; rintro e w' ⟨rfl, rfl⟩)
        go_ret
        exact ⟨ret_bool HF2.out.symm, rfl⟩
    · have HF2 : Hid (validCfg ((d0, d1), d2, d3) = ((q && decide (d2.length ≤ 6)) && inB d3 0 80)) := by
        have h9 : allIn d2 (-10000000000000000) 10000000000000000 = true := all_end HA.out (by omega)
        unfold Hid; rw [HF.out, h9]; simp
      by_cases hl6 : d2.length ≤ 6
      all_goals
        cases q
        all_goals
          go_wp2_with (first | (go_at_call 117; refine HC.out.mono ?_; rintro e w3 ⟨rfl, rfl⟩; rw [HQ.out]) | (go_at_call 93; refine (c_l00In _ _ _ _).mono ?_; rintro e w3 ⟨rfl, rfl⟩))
          go_ret
          exact ⟨ret_bool (by rw [HF2.out]; simp [hl6]), rfl⟩
theorem c_sValidConfig {S T : Nat → Prop} {a : Option Addr} {p : Nat} {xs : List Instr} {a0 : Option Addr} {p0 : Nat} {d0 : List Int} {a1 : Option Addr} {p1 : Nat} {d1 : List Int} {a2 : Option Addr} {p2 : Nat} {d2 : List Int} {d3 : Int} {w : World} (h : SlRd cInstr S w a p xs) (h0 : SlRd cInt T w a0 p0 d0) (h1 : SlRd cInt T w a1 p1 d1) (h2 : SlRd cInt T w a2 p2 d2) :
    Calls Try.prog 15 #[.slice a xs.length p, .agg #[.slice a0 d0.length p0, .slice a1 d1.length p1, .slice a2 d2.length p2, .int .i64 d3]] w fun e w' => e = .returned (.bool (configF xs ((d0, d1), d2, d3))) ∧ Below w.heap.size w w' := by
  have H := hid (h.alloc (.cells #[.slice a0 d0.length p0, .slice a1 d1.length p1, .slice a2 d2.length p2, .int .i64 d3] 35))
  have HB : Hid (Below w.heap.size w (w.alloc (.cells #[.slice a0 d0.length p0, .slice a1 d1.length p1, .slice a2 d2.length p2, .int .i64 d3] 35))) := (Below.refl _ _).alloc (Nat.le_refl _) _
  have H0 := hid (h0.alloc (.cells #[.slice a0 d0.length p0, .slice a1 d1.length p1, .slice a2 d2.length p2, .int .i64 d3] 35))
  have H1 := hid (h1.alloc (.cells #[.slice a0 d0.length p0, .slice a1 d1.length p1, .slice a2 d2.length p2, .int .i64 d3] 35))
  have H2 := hid (h2.alloc (.cells #[.slice a0 d0.length p0, .slice a1 d1.length p1, .slice a2 d2.length p2, .int .i64 d3] 35))
  clear h h0 h1 h2
  obtain ⟨r, hr⟩ : ∃ r, validCode xs = r := ⟨_, rfl⟩
  have HR := hid hr
  have HF : Hid (configF xs ((d0, d1), d2, d3) = (r && validCfg ((d0, d1), d2, d3))) := by unfold Hid configF; rw [hr]
  clear hr
  cases r
  · go_enter Try.func15, Try.ntmps15
    go_wp2_with (go_at_call 61; refine (c_l07Is _ _ _ _ H.out).mono ?_; rintro e w1 ⟨rfl, hb1⟩; rw [HR.out])
    go_ret
    exact ⟨ret_bool (by rw [HF.out]; rfl), bel_next HB.out HB.out.size hb1⟩
  · go_enter Try.func15, Try.ntmps15
    go_wp2_with fail
    refine (c_l07Is _ _ _ _ H.out).mono ?_
    rintro e w1 ⟨rfl, hb1⟩
    rw [HR.out]
    have t0 := cell_below hb1 (b := w.heap.size) (o := 0) (v := .slice a0 d0.length p0) (by simp) (by simp [go_sem])
    have t1 := cell_below hb1 (b := w.heap.size) (o := 1) (v := .slice a1 d1.length p1) (by simp) (by simp [go_sem])
    have t2 := cell_below hb1 (b := w.heap.size) (o := 2) (v := .slice a2 d2.length p2) (by simp) (by simp [go_sem])
    have t3 := cell_below hb1 (b := w.heap.size) (o := 3) (v := .int .i64 d3) (by simp) (by simp [go_sem])
    have HB1 := hid (bel_next HB.out HB.out.size hb1)
    have HC := hid (c_l07Config (b := w.heap.size) (o := 0) t0 t1 t2 t3 (H0.out.below (Nat.le_refl _) hb1) (H1.out.below (Nat.le_refl _) hb1) (H2.out.below (Nat.le_refl _) hb1))
    clear hb1 t0 t1 t2 t3
    go_wp2_with (go_at_call 62; refine HC.out.mono ?_; rintro e w2 ⟨rfl, rfl⟩)
    go_ret
    exact ⟨ret_bool (by rw [HF.out]; rfl), HB1.out⟩
end Go.Proofs.Ytfaaeihileiikaa
