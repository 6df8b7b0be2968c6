/- Contracts: sequents and counterexamples. -/
import Derived.Test.YtedmhdinfedhhaaHSeq
import Derived.Test.YtedmhdinfedhhaaL03o
namespace Go.Proofs.Ytedmhdinfedhhaa
open Go.RowKit

def validSq (s : Sq) : Bool := areTerms s.1 13 && validTerm s.2
def counterB (s : Sq) (vs : List Int) : Bool := holdsF s.1 vs && decide (evalT s.2 vs < 0)
def counterF (s : Sq) (vs : List Int) : Bool := (validSq s && valuesOk vs) && counterB s vs
theorem validSq_iff {s : Sq} (h : validSq s = true) : s.1.length ≤ 13 ∧ (∀ t ∈ s.1, validTerm t = true ∧ t.2.length ≤ 10) ∧ validTerm s.2 = true ∧ s.2.2.length ≤ 10 := by
  simp only [validSq, areTerms, Bool.and_eq_true, decide_eq_true_eq, List.all_eq_true] at h
  obtain ⟨⟨h1, h2⟩, h3⟩ := h
  exact ⟨by omega, fun t ht => ⟨h2 t ht, (validTerm_iff (h2 t ht)).1⟩, h3, (validTerm_iff h3).1⟩
theorem valuesOk_iff {vs : List Int} (h : valuesOk vs = true) : vs.length = 10 ∧ ∀ v ∈ vs, Big v := by
  simp only [valuesOk, Bool.and_eq_true, decide_eq_true_eq] at h
  exact ⟨h.1, big_of h.2⟩
set_option maxRecDepth 100000 in
theorem c_ValidSequent {S : Nat → Prop} {d1 : Int} {a0 : Option Addr} {p0 : Nat} {d0 : List Term} {a2 : Option Addr} {p2 : Nat} {d2 : List Int} {w : World} (h0 : SlRd cTerm S w a0 p0 d0) (h2 : SlRd cInt S w a2 p2 d2) :
    Calls Try.prog 72 #[.agg #[.slice a0 d0.length p0, .int .i64 d1, .slice a2 d2.length p2]] w fun e w' => e = .returned (.bool (validSq (d0, d1, d2))) ∧ Below w.heap.size w w' := by
  have H0 := hid (h0.alloc (.cells #[.slice a0 d0.length p0, .int .i64 d1, .slice a2 d2.length p2] 52))
  have H2 := hid (h2.alloc (.cells #[.slice a0 d0.length p0, .int .i64 d1, .slice a2 d2.length p2] 52))
  have HB : Hid (Below w.heap.size w (w.alloc (.cells #[.slice a0 d0.length p0, .int .i64 d1, .slice a2 d2.length p2] 52))) := (Below.refl _ _).alloc (Nat.le_refl _) _
  clear h0 h2
  obtain ⟨r, hr⟩ : ∃ r, areTerms d0 13 = r := ⟨_, rfl⟩
  have HF : Hid (validSq (d0, d1, d2) = (r && validTerm (d1, d2))) := by unfold Hid validSq; rw [hr]
  have HR := hid hr
  clear hr
  cases r
  · go_enter Try.func72, Try.ntmps72
    go_wp2_with (go_at_call 93; refine (c_areTerms _ _ _ _ _ H0.out).mono ?_; rintro e w1 ⟨rfl, hb1⟩; rw [HR.out])
    go_ret
    exact ⟨ret_bool (by rw [HF.out]; rfl), bel_next HB.out HB.out.size hb1⟩
  · go_enter Try.func72, Try.ntmps72
    go_wp2_with fail
    refine (c_areTerms _ _ _ _ _ H0.out).mono ?_
    rintro e w1 ⟨rfl, hb1⟩
    rw [HR.out]
    have t0 := cell_below hb1 (b := w.heap.size) (o := 0) (v := .slice a0 d0.length p0) (by simp) (by simp [go_sem])
    have t1 := cell_below hb1 (b := w.heap.size) (o := 1) (v := .int .i64 d1) (by simp) (by simp [go_sem])
    have t2 := cell_below hb1 (b := w.heap.size) (o := 2) (v := .slice a2 d2.length p2) (by simp) (by simp [go_sem])
    have HB1 := hid (bel_next HB.out HB.out.size hb1)
    have H2' := hid (H2.out.below (Nat.le_refl _) hb1)
    clear hb1
    go_wp2_with (go_at_call 94; refine (c_ValidTerm _ _ _ _ _ H2'.out).mono ?_; rintro e w2 ⟨rfl, hb2⟩)
    go_ret
    exact ⟨ret_bool (by rw [HF.out]; rfl), bel_next HB1.out HB1.out.size hb2⟩
theorem c_l02Sequent {S : Nat → Prop} {b o : Nat} {d1 : Int} {a0 : Option Addr} {p0 : Nat} {d0 : List Term} {a2 : Option Addr} {p2 : Nat} {d2 : List Int} {w : World} (t0 : w.cell? ⟨b, o, none⟩ = some (.slice a0 d0.length p0)) (t1 : w.cell? ⟨b, o + 1, none⟩ = some (.int .i64 d1)) (t2 : w.cell? ⟨b, o + 1 + 1, none⟩ = some (.slice a2 d2.length p2)) (h0 : SlRd cTerm S w a0 p0 d0) (h2 : SlRd cInt S w a2 p2 d2) :
    Calls Try.prog 67 #[.pointer (some ⟨b, o, none⟩)] w fun e w' => e = .returned (.bool (validSq (d0, d1, d2))) ∧ w = w' := by
  have H0 := hid h0
  have HC := hid (c_l02Is _ _ _ _ _ _ _ t1 t2 h2)
  clear h0 h2
  obtain ⟨r, hr⟩ : ∃ r, areTerms d0 13 = r := ⟨_, rfl⟩
  have HF : Hid (validSq (d0, d1, d2) = (r && validTerm (d1, d2))) := by unfold Hid validSq; rw [hr]
  have HR := hid hr
  clear hr
  cases r
  all_goals
    go_enter Try.func67, Try.ntmps67
    go_wp2_with (first | (go_at_call 78; refine (c_l02All _ _ _ _ _ H0.out).mono ?_; rintro e w1 ⟨rfl, rfl⟩; rw [HR.out]) | (go_at_call 86; refine HC.out.mono ?_; rintro e w1 ⟨rfl, rfl⟩))
    go_ret
    exact ⟨ret_bool (by rw [HF.out]; rfl), rfl⟩
set_option maxRecDepth 100000 in
theorem c_l02Counter {S T : Nat → Prop} {b o : Nat} {d1 : Int} {a0 : Option Addr} {p0 : Nat} {d0 : List Term} {a2 : Option Addr} {p2 : Nat} {d2 : List Int} {av : Option Addr} {pv : Nat} {vs : List Int} {w : World} (t0 : w.cell? ⟨b, o, none⟩ = some (.slice a0 d0.length p0)) (t1 : w.cell? ⟨b, o + 1, none⟩ = some (.int .i64 d1)) (t2 : w.cell? ⟨b, o + 1 + 1, none⟩ = some (.slice a2 d2.length p2)) (hb : b < w.heap.size)
    (h0 : SlRd cTerm S w a0 p0 d0) (h2 : SlRd cInt S w a2 p2 d2) (hv : SlRd cInt T w av pv vs) (hs : validSq (d0, d1, d2) = true) (hbig : ∀ v ∈ vs, Big v) (hlen : 10 ≤ vs.length) :
    Calls Try.prog 123 #[.pointer (some ⟨b, o, none⟩), .slice av vs.length pv] w fun e w' => e = .returned (.bool (counterB (d0, d1, d2) vs)) ∧ Below w.heap.size w w' := by
  obtain ⟨hl13, hts, hvt, hl10⟩ := validSq_iff hs
  simp only at hl13 hts hvt hl10
  have hll := h0.len_le
  have H0 := hid h0
  have H2 := hid h2
  have HV := hid hv
  have HT := hid hts
  have HBG := hid hbig
  obtain ⟨hgl, hgc, hgz, hg4⟩ := validTerm_iff hvt
  have HGZ := hid hgz
  have HGC := hid hgc
  clear h0 h2 hv hs hbig hts hvt hgz hgc hgl hg4
  go_enter Try.func123, Try.ntmps123
  go_wp2
  go_loopw [5] (fun i wr => ∃ k : Nat, k ≤ d0.length ∧ i = .int .i64 k ∧ Hid ((d0.take k).all (fun t => decide (0 ≤ evalT t vs)) = true) ∧ Below w.heap.size w wr) (fun i _ => d0.length - (intOf i).toNat)
  case atStart => exact ⟨0, Nat.zero_le _, rfl, rfl, Below.refl _ _⟩
  case round =>
    obtain ⟨k, hk, rfl, HA, hbe⟩ := hrel
    have hsz := hbe.size
    have s0 := cell_below hbe hb t0
    have s1 := cell_below hbe hb t1
    have s2 := cell_below hbe hb t2
    have hbr : b < wr.heap.size := by omega
    by_cases hlt : k < d0.length
    · obtain ⟨b1, off, rfl⟩ := H0.out.some_of hlt
      obtain ⟨c, zs, a', cap', hz, hc1, hsl, hc, hc', hb1⟩ := (H0.out.below (Nat.le_refl _) hbe).term_at k hlt
      obtain ⟨hv1, hlz⟩ := HT.out _ (List.mem_of_getElem? hz)
      obtain ⟨hlt10, hcm, hzm, _⟩ := validTerm_iff hv1
      simp only at hlz
      have HZ := hid hz
      have HC := hid (c_l02Eval _ _ _ _ _ _ _ _ _ _ hc hc' hb1 hsl (HV.out.below (Nat.le_refl _) hbe) hcm hzm HBG.out hlt10 (by omega))
      clear hz hsl hv1 hzm hcm
      obtain ⟨r, hr⟩ : ∃ r, evalT (c, zs) vs = r := ⟨_, rfl⟩
      have HR := hid hr
      clear hr
      by_cases hneg : r < 0
      · have HF : Hid (counterB (d0, d1, d2) vs = false) := by
          have h9 : holdsF d0 vs = false := all_false HZ.out (by rw [HR.out]; simp; omega)
          unfold Hid counterB; rw [h9]; rfl
        go_wp2_with (go_at_call 155; refine HC.out.mono ?_; rintro e w1 ⟨rfl, hb1⟩; rw [HR.out])
        go_ret
        exact ⟨ret_bool HF.out.symm, bel_next hbe hsz hb1⟩
      · go_wp2_with (go_at_call 155; refine HC.out.mono ?_; rintro e w1 ⟨rfl, hb1⟩; rw [HR.out])
        go_roundw
        case rel => exact ⟨k + 1, by omega, by go_num, (all_take HA.out HZ.out).trans (by rw [HR.out]; simp; omega), bel_next hbe hsz hb1⟩
        case measure => simp [intOf]; omega
    · have HF : Hid (counterB (d0, d1, d2) vs = decide (evalT (d1, d2) vs < 0)) := by
        have h9 : holdsF d0 vs = true := all_end HA.out (by omega)
        unfold Hid counterB; rw [h9]; rfl
      have HC := hid (c_l02Eval _ _ _ _ _ _ _ _ _ _ s1 s2 hbr (H2.out.below (Nat.le_refl _) hbe) (HV.out.below (Nat.le_refl _) hbe) HGC.out HGZ.out HBG.out hl10 (by omega))
      obtain ⟨r, hr⟩ : ∃ r, evalT (d1, d2) vs = r := ⟨_, rfl⟩
      have HR := hid hr
      clear hr
      go_wp2_with (go_at_call 155; refine HC.out.mono ?_; rintro e w1 ⟨rfl, hb1⟩; rw [HR.out])
      go_ret
      exact ⟨ret_bool (by rw [HF.out, HR.out]), bel_next hbe hsz hb1⟩
set_option maxRecDepth 100000 in
set_option maxHeartbeats 1000000 in
theorem c_IsCounter {S T : Nat → Prop} {d1 : Int} {a0 : Option Addr} {p0 : Nat} {d0 : List Term} {a2 : Option Addr} {p2 : Nat} {d2 : List Int} {av : Option Addr} {pv : Nat} {vs : List Int} {w : World} (h0 : SlRd cTerm S w a0 p0 d0) (h2 : SlRd cInt S w a2 p2 d2) (hv : SlRd cInt T w av pv vs) :
    Calls Try.prog 76 #[.agg #[.slice a0 d0.length p0, .int .i64 d1, .slice a2 d2.length p2], .slice av vs.length pv] w fun e w' => e = .returned (.bool (counterF (d0, d1, d2) vs)) ∧ Below w.heap.size w w' := by
  have HB : Hid (Below w.heap.size w (w.alloc (.cells #[.slice a0 d0.length p0, .int .i64 d1, .slice a2 d2.length p2] 52))) := (Below.refl _ _).alloc (Nat.le_refl _) _
  have H0 := hid (h0.alloc (.cells #[.slice a0 d0.length p0, .int .i64 d1, .slice a2 d2.length p2] 52))
  have H2 := hid (h2.alloc (.cells #[.slice a0 d0.length p0, .int .i64 d1, .slice a2 d2.length p2] 52))
  have HV := hid (hv.alloc (.cells #[.slice a0 d0.length p0, .int .i64 d1, .slice a2 d2.length p2] 52))
  clear h0 h2 hv
  obtain ⟨r, hr⟩ : ∃ r, validSq (d0, d1, d2) = r := ⟨_, rfl⟩
  obtain ⟨q, hq⟩ : ∃ q, valuesOk vs = q := ⟨_, rfl⟩
  obtain ⟨u, hu⟩ : ∃ u, holdsF d0 vs = u := ⟨_, rfl⟩
  have HF : Hid (counterF (d0, d1, d2) vs = ((r && q) && (u && decide (evalT (d1, d2) vs < 0)))) := by unfold Hid counterF counterB; rw [hr, hq, hu]
  have HR := hid hr
  have HQ := hid hq
  have HU := hid hu
  clear hr hq hu
  cases r
  · go_enter Try.func76, Try.ntmps76
    go_wp2_with (go_at_call 72; refine (c_ValidSequent H0.out H2.out).mono ?_; rintro e w1 ⟨rfl, hb1⟩; rw [HR.out])
    go_ret
    exact ⟨ret_bool (by rw [HF.out]; rfl), bel_next HB.out HB.out.size hb1⟩
  · cases q
    · go_enter Try.func76, Try.ntmps76
      go_wp2_with fail
      refine (c_ValidSequent H0.out H2.out).mono ?_
      rintro e w1 ⟨rfl, hb1⟩
      rw [HR.out]
      have HV1 := hid (HV.out.below (Nat.le_refl _) hb1)
      go_wp2_with (go_at_call 126; refine (c_areValues _ _ _ _ HV1.out).mono ?_; rintro e w2 ⟨rfl, rfl⟩; rw [HQ.out])
      go_ret
      exact ⟨ret_bool (by rw [HF.out]; rfl), bel_next HB.out HB.out.size hb1⟩
    · obtain ⟨hl13, hts, hvt, hl10⟩ := validSq_iff HR.out
      obtain ⟨hv10, hbig⟩ := valuesOk_iff HQ.out
      simp only at hl13 hts hvt hl10
      have HT : Hid (∀ t ∈ d0, validTerm t = true ∧ t.2.length ≤ vs.length) := fun t ht => ⟨(hts t ht).1, by have := (hts t ht).2; omega⟩
      have HBG := hid hbig
      have hlv : d2.length ≤ vs.length := by omega
      obtain ⟨hgl, hgc, hgz, hg4⟩ := validTerm_iff hvt
      have HGZ := hid hgz
      have HGC := hid hgc
      clear hts hvt hbig hv10 hgl hgz hgc hg4
      obtain ⟨x, hx⟩ : ∃ x, evalT (d1, d2) vs = x := ⟨_, rfl⟩
      have HX := hid hx
      clear hx
      cases u
      all_goals
        go_enter Try.func76, Try.ntmps76
        go_wp2_with fail
        refine (c_ValidSequent H0.out H2.out).mono ?_
        rintro e w1 ⟨rfl, hb1⟩
        rw [HR.out]
        have t0 := cell_below hb1 (b := w.heap.size) (o := 0) (v := .slice a0 d0.length p0) (by simp) (by simp [go_sem])
        have t1 := cell_below hb1 (b := w.heap.size) (o := 1) (v := .int .i64 d1) (by simp) (by simp [go_sem])
        have t2 := cell_below hb1 (b := w.heap.size) (o := 2) (v := .slice a2 d2.length p2) (by simp) (by simp [go_sem])
        have z1 : w.heap.size < w1.heap.size := by have := hb1.size; simp at this; omega
        have HB1 := hid (bel_next HB.out HB.out.size hb1)
        have HV1 := hid (HV.out.below (Nat.le_refl _) hb1)
        have H01 := hid (H0.out.below (Nat.le_refl _) hb1)
        have H21 := hid (H2.out.below (Nat.le_refl _) hb1)
        clear hb1
        go_wp2_with fail
        refine (c_areValues _ _ _ _ HV1.out).mono ?_
        rintro e w2 ⟨rfl, rfl⟩
        rw [HQ.out]
        go_wp2_with fail
        refine (c_hold _ _ _ _ _ _ _ H01.out HV1.out HT.out HBG.out).mono ?_
        rintro e w2 ⟨rfl, hb2⟩
        rw [HU.out]
        have s1 := cell_below hb2 z1 t1
        have s2 := cell_below hb2 z1 t2
        have HB2 := hid (bel_next HB1.out HB1.out.size hb2)
        have HV2 := hid (HV1.out.below (Nat.le_refl _) hb2)
        have H22 := hid (H21.out.below (Nat.le_refl _) hb2)
        clear hb2 t0 t1 t2
        first
          | (go_wp2; go_ret; exact ⟨ret_bool (by rw [HF.out]; rfl), HB2.out⟩)
          | (go_wp2_with fail
             refine (c_eval _ _ _ _ _ _ _ _ H22.out HV2.out HGC.out HGZ.out HBG.out hl10 hlv).mono ?_
             rintro e w3 ⟨rfl, hb3⟩
             rw [HX.out]
             go_wp2
             go_ret
             exact ⟨ret_bool (by rw [HF.out, HX.out]; rfl), bel_next HB2.out HB2.out.size hb3⟩)
end Go.Proofs.Ytedmhdinfedhhaa
