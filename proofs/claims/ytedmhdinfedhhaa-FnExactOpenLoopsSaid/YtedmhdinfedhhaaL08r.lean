/- Contracts: the instructions on circles without points. -/
import Derived.Test.YtedmhdinfedhhaaL08q
namespace Go.Proofs.Ytedmhdinfedhhaa
open Go.RowKit

set_option maxRecDepth 100000 in
set_option maxHeartbeats 4000000 in
theorem c_sOpenLoops {S : Nat → Prop} {a0 : Option Addr} {p0 : Nat} {d0 : List Term} {a1 : Option Addr} {p1 : Nat} {d1 : List Term} {a2 : Option Addr} {p2 : Nat} {d2 : List Instr} {a3 : Option Addr} {p3 : Nat} {d3 : List Pt} {w : World} (h0 : SlRd cTerm S w a0 p0 d0) (h1 : SlRd cTerm S w a1 p1 d1) (h2 : SlRd cInstr S w a2 p2 d2) (h3 : SlRd cPoint S w a3 p3 d3) :
    Calls Try.prog 19 #[.agg #[.slice a0 d0.length p0, .slice a1 d1.length p1, .slice a2 d2.length p2, .slice a3 d3.length p3]] w (RetSlB cInt (openF (d0, d1, d2, d3)).1 (openF (d0, d1, d2, d3)).2 w) := by
  have HC := hid (c_l08Is w.heap.size (h0.alloc (.cells #[.slice a0 d0.length p0, .slice a1 d1.length p1, .slice a2 d2.length p2, .slice a3 d3.length p3] 35)) (h1.alloc _) (h2.alloc _) (h3.alloc _) (by simp [go_sem]) (by simp [go_sem]) (by simp [go_sem]) (by simp [go_sem]))
  have HA : Hid (An2 (w.heap.size + 1) (w.alloc (.cells #[.slice a0 d0.length p0, .slice a1 d1.length p1, .slice a2 d2.length p2, .slice a3 d3.length p3] 35)) w.heap.size a2 p2 d2 a3 p3 d3) := An2.boxed h2 h3
  have HB : Hid (Below w.heap.size w (w.alloc (.cells #[.slice a0 d0.length p0, .slice a1 d1.length p1, .slice a2 d2.length p2, .slice a3 d3.length p3] 35))) := (Below.refl _ _).alloc (Nat.le_refl _) _
  have hs1 : (w.alloc (.cells #[.slice a0 d0.length p0, .slice a1 d1.length p1, .slice a2 d2.length p2, .slice a3 d3.length p3] 35)).heap.size = w.heap.size + 1 := by simp
  clear h0 h1 h2 h3
  obtain ⟨r, hr⟩ : ∃ r, validAn (d0, d1, d2, d3) = r := ⟨_, rfl⟩
  rw [hr] at HC
  cases r
  · have HF : Hid (openF (d0, d1, d2, d3) = ([], false)) := by unfold Hid openF; rw [hr]; rfl
    clear hr hs1
    go_enter Try.func19, Try.ntmps19
    go_wp2_with (go_at_call 48; refine HC.out.mono ?_; rintro e w1 ⟨rfl, hb1⟩; have HB1 := hid (bel_next HB.out HB.out.size hb1); clear hb1)
    go_ret2
    rw [HF.out]
    exact ⟨none, 0, rfl, nil_rd _ _ _, HB1.out⟩
  · have HF : Hid (openF (d0, d1, d2, d3) = (idxL (openBs d2 d3), true)) := by unfold Hid openF; rw [hr]; rfl
    obtain ⟨hv, _⟩ := validAn_iff hr
    have HV := hid hv
    clear hr hv
    go_enter Try.func19, Try.ntmps19
    go_wp2_with fail
    generalize w.alloc (.cells #[.slice a0 d0.length p0, .slice a1 d1.length p1, .slice a2 d2.length p2, .slice a3 d3.length p3] 35) = W0 at *
    refine HC.out.mono ?_
    rintro e w1 ⟨rfl, hb1⟩
    have HA1 := hid (HA.out.on (hb1.mono (Nat.le_of_eq hs1.symm)))
    have HB1 := hid (bel_next HB.out HB.out.size hb1)
    clear hb1 hs1 HA HC
    have HH := hid (c_l08Open HA1.out HV.out)
    obtain ⟨o, ho⟩ : ∃ q, idxL (openBs d2 d3) = q := ⟨_, rfl⟩
    rw [ho] at HH HF
    clear ho
    go_wp2_with fail
    refine HH.out.mono ?_
    rintro e w2 ⟨a5, p5, rfl, hs5, hb5⟩
    have HS5 := hid hs5
    have HB5 := hid hb5
    clear hs5 hb5 HH
    go_wp2
    go_ret2
    rw [HF.out]
    exact ⟨a5, p5, rfl, HS5.out.keep fun b hb hl => ⟨⟨Nat.le_trans HB1.out.size hb.1, hb.2⟩, rfl⟩, bel_next HB1.out HB1.out.size HB5.out⟩
set_option maxRecDepth 100000 in
set_option maxHeartbeats 4000000 in
theorem c_OpenLoops {S : Nat → Prop} {a0 : Option Addr} {p0 : Nat} {d0 : List Term} {a1 : Option Addr} {p1 : Nat} {d1 : List Term} {a2 : Option Addr} {p2 : Nat} {d2 : List Instr} {a3 : Option Addr} {p3 : Nat} {d3 : List Pt} {w : World} (h0 : SlRd cTerm S w a0 p0 d0) (h1 : SlRd cTerm S w a1 p1 d1) (h2 : SlRd cInstr S w a2 p2 d2) (h3 : SlRd cPoint S w a3 p3 d3) :
    Calls Try.prog 20 #[.agg #[.slice a0 d0.length p0, .slice a1 d1.length p1, .slice a2 d2.length p2, .slice a3 d3.length p3]] w (RetSlB cInt (openF (d0, d1, d2, d3)).1 (openF (d0, d1, d2, d3)).2 w) := by
  have hl3 := h3.len_le
  have HC := hid (c_ValidAnnotated (h0.alloc (.cells #[.slice a0 d0.length p0, .slice a1 d1.length p1, .slice a2 d2.length p2, .slice a3 d3.length p3] 35)) (h1.alloc _) (h2.alloc _) (h3.alloc _))
  have HX : Hid (AnB (w.alloc (.cells #[.slice a0 d0.length p0, .slice a1 d1.length p1, .slice a2 d2.length p2, .slice a3 d3.length p3] 35)) w.heap.size a0 d0.length p0 a1 d1.length p1 a2 d2.length p2 a3 d3.length p3) := AnB.new _ _ _ _ _ _ _ _ _ _ _ _ _ _
  have H2 := hid (h2.alloc (.cells #[.slice a0 d0.length p0, .slice a1 d1.length p1, .slice a2 d2.length p2, .slice a3 d3.length p3] 35))
  have H3 := hid (h3.alloc (.cells #[.slice a0 d0.length p0, .slice a1 d1.length p1, .slice a2 d2.length p2, .slice a3 d3.length p3] 35))
  have HB : Hid (Below w.heap.size w (w.alloc (.cells #[.slice a0 d0.length p0, .slice a1 d1.length p1, .slice a2 d2.length p2, .slice a3 d3.length p3] 35))) := (Below.refl _ _).alloc (Nat.le_refl _) _
  have x0 := HX.out.c0
  have x1 := HX.out.c1
  have x2 := HX.out.c2
  have x3 := HX.out.c3
  clear h0 h1 h2 h3
  obtain ⟨r, hr⟩ : ∃ r, validAn (d0, d1, d2, d3) = r := ⟨_, rfl⟩
  rw [hr] at HC
  cases r
  · have HF : Hid (openF (d0, d1, d2, d3) = ([], false)) := by unfold Hid openF; rw [hr]; rfl
    clear hr
    go_enter Try.func20, Try.ntmps20
    go_wp2_with (go_at_call 52; refine HC.out.mono ?_; rintro e w1 ⟨rfl, hb1⟩; have HB1 := hid (bel_next HB.out HB.out.size hb1); clear hb1)
    go_ret2
    rw [HF.out]
    exact ⟨none, 0, rfl, nil_rd _ _ _, HB1.out⟩
  · have HF : Hid (openF (d0, d1, d2, d3) = (idxL (openBs d2 d3), true)) := by unfold Hid openF; rw [hr]; rfl
    obtain ⟨hv, _⟩ := validAn_iff hr
    obtain ⟨hx1, hx80, _⟩ := validCode_iff hv
    have hol := openBs_len d2 d3
    clear hr hv
    go_enter Try.func20, Try.ntmps20
    go_wp2_with fail
    generalize w.alloc (.cells #[.slice a0 d0.length p0, .slice a1 d1.length p1, .slice a2 d2.length p2, .slice a3 d3.length p3] 35) = W0 at *
    refine HC.out.mono ?_
    rintro e w1 ⟨rfl, hb1⟩
    have HX1 := hid (HX.out.below hb1)
    have H21 := hid (H2.out.below (Nat.le_refl _) hb1)
    have H31 := hid (H3.out.below (Nat.le_refl _) hb1)
    have HB1 := hid (bel_next HB.out HB.out.size hb1)
    have y0 := HX1.out.c0
    have y1 := HX1.out.c1
    have y2 := HX1.out.c2
    have y3 := HX1.out.c3
    clear hb1 HC HX H2 H3 HB x0 x1 x2 x3
    have HH := hid (c_openLoops (a0 := a0) (n0 := d0.length) (p0 := p0) (a1 := a1) (n1 := d1.length) (p1 := p1) H21.out H31.out hx80)
    obtain ⟨OB, hOB⟩ : ∃ OB, openBs d2 d3 = OB := ⟨_, rfl⟩
    rw [hOB] at HH HF hol
    have hob : OB.length ≤ 1000000 := by omega
    clear hOB hol
    go_wp2_with fail
    refine HH.out.mono ?_
    rintro e w2 ⟨a5, p5, rfl, hs5, hb5⟩
    have HS5 := hid (c_indices hs5 hob)
    have HB5 := hid (bel_next HB1.out HB1.out.size hb5)
    obtain ⟨o, ho⟩ : ∃ q, idxL OB = q := ⟨_, rfl⟩
    rw [ho] at HS5 HF
    clear hs5 hb5 HH ho
    go_wp2_with fail
    refine HS5.out.mono ?_
    rintro e w3 ⟨a6, p6, rfl, hs6, hb6⟩
    have HS6 := hid hs6
    have HB6 := hid hb6
    clear hs6 hb6 HS5
    go_wp2
    go_ret2
    rw [HF.out]
    exact ⟨a6, p6, rfl, HS6.out.keep fun b hb hl => ⟨⟨Nat.le_trans HB5.out.size hb.1, hb.2⟩, rfl⟩, bel_next HB5.out HB5.out.size HB6.out⟩
end Go.Proofs.Ytedmhdinfedhhaa
