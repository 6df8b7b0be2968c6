/- Contracts: how high the stack is in annotated code. -/
import Derived.Test.YtedmhdinfedhhaaL08h
namespace Go.Proofs.Ytedmhdinfedhhaa
open Go.RowKit

def annH (a : An) : List Int × Bool := if validAn a then annO a.2.2.1 a.2.2.2 else ([], false)
theorem heightsF_ok {code : List Instr} (hn : 1 ≤ code.length) (h : (heightsF code).2 = true) : (heightsF code).1.length = code.length := by
  rcases heights_spec hn with ⟨o, k', e, g⟩ | ⟨e, g⟩
  · unfold heightsF at h ⊢
    split
    · rw [e]; exact g.len
    · rename_i hv; rw [if_neg hv] at h; cases h
  · unfold heightsF at h
    split at h
    · rw [e] at h; cases h
    · cases h
theorem annO_len (code : List Instr) (ps : List Pt) : (annO code ps).1.length ≤ 1048576 := by
  unfold annO
  split
  · exact heightsF_len code
  · simp
theorem annH_len (a : An) : (annH a).1.length ≤ 1048576 := by
  unfold annH
  split
  · exact annO_len _ _
  · simp
theorem ptsOk_at {n : Nat} {ps : List Pt} {k m : Nat} (h : ptsOk n ps m = true) (hk : k < m) : stepOk n ps k = true := by
  unfold ptsOk at h; rw [List.all_eq_true] at h; exact h k (by simpa using hk)
theorem validAn_iff {d0 d1 : List Term} {d2 : List Instr} {d3 : List Pt} (h : validAn (d0, d1, d2, d3) = true) : validCode d2 = true ∧ areOverF d0 6 = true ∧ areOverF d1 6 = true ∧ d3.length ≤ 8 ∧ ∀ p ∈ d3, (0 ≤ p.1 ∧ p.1 < (d2.length : Int)) ∧ areOverF p.2 6 = true := by
  unfold validAn headOk at h
  simp only [Bool.and_eq_true, decide_eq_true_eq] at h
  obtain ⟨⟨⟨⟨h1, h2⟩, h3⟩, h4⟩, h5⟩ := h
  refine ⟨h1, h2, h3, h4, fun p hp => ?_⟩
  obtain ⟨k, hk, he⟩ := List.mem_iff_getElem.1 hp
  have h6 := ptsOk_at h5 hk
  unfold stepOk at h6
  rw [List.getElem?_eq_getElem hk, he] at h6
  simp only [Bool.and_eq_true] at h6
  have h7 := inB_iff.1 h6.1.2
  exact ⟨⟨h7.1, by omega⟩, h6.1.1⟩
theorem An2.boxed {S : Nat → Prop} {w : World} {a0 : Option Addr} {p0 : Nat} {d0 : List Term} {a1 : Option Addr} {p1 : Nat} {d1 : List Term} {a2 : Option Addr} {p2 : Nat} {d2 : List Instr} {a3 : Option Addr} {p3 : Nat} {d3 : List Pt} {T : TypeId} (h2 : SlRd cInstr S w a2 p2 d2) (h3 : SlRd cPoint S w a3 p3 d3) :
    An2 (w.heap.size + 1) (w.alloc (.cells #[.slice a0 d0.length p0, .slice a1 d1.length p1, .slice a2 d2.length p2, .slice a3 d3.length p3] T)) w.heap.size a2 p2 d2 a3 p3 d3 :=
  ⟨Nat.lt_succ_self _, by simp, by simp [go_sem], by simp [go_sem],
    (h2.keep (S' := fun b => b < w.heap.size + 1) (w' := w) fun b _ hl => ⟨by omega, rfl⟩).alloc _, (h3.keep (S' := fun b => b < w.heap.size + 1) (w' := w) fun b _ hl => ⟨by omega, rfl⟩).alloc _⟩
set_option maxRecDepth 100000 in
set_option maxHeartbeats 4000000 in
theorem c_sHeightsOf {S : Nat → Prop} {a0 : Option Addr} {p0 : Nat} {d0 : List Term} {a1 : Option Addr} {p1 : Nat} {d1 : List Term} {a2 : Option Addr} {p2 : Nat} {d2 : List Instr} {a3 : Option Addr} {p3 : Nat} {d3 : List Pt} {w : World} (h0 : SlRd cTerm S w a0 p0 d0) (h1 : SlRd cTerm S w a1 p1 d1) (h2 : SlRd cInstr S w a2 p2 d2) (h3 : SlRd cPoint S w a3 p3 d3) :
    Calls Try.prog 11 #[.agg #[.slice a0 d0.length p0, .slice a1 d1.length p1, .slice a2 d2.length p2, .slice a3 d3.length p3]] w (RetSlB cInt (annH (d0, d1, d2, d3)).1 (annH (d0, d1, d2, d3)).2 w) := by
  have HC := hid (c_l08Is w.heap.size (h0.alloc (.cells #[.slice a0 d0.length p0, .slice a1 d1.length p1, .slice a2 d2.length p2, .slice a3 d3.length p3] 35)) (h1.alloc _) (h2.alloc _) (h3.alloc _) (by simp [go_sem]) (by simp [go_sem]) (by simp [go_sem]) (by simp [go_sem]))
  have HA : Hid (An2 (w.heap.size + 1) (w.alloc (.cells #[.slice a0 d0.length p0, .slice a1 d1.length p1, .slice a2 d2.length p2, .slice a3 d3.length p3] 35)) w.heap.size a2 p2 d2 a3 p3 d3) := An2.boxed h2 h3
  have HB : Hid (Below w.heap.size w (w.alloc (.cells #[.slice a0 d0.length p0, .slice a1 d1.length p1, .slice a2 d2.length p2, .slice a3 d3.length p3] 35))) := (Below.refl _ _).alloc (Nat.le_refl _) _
  have hs1 : (w.alloc (.cells #[.slice a0 d0.length p0, .slice a1 d1.length p1, .slice a2 d2.length p2, .slice a3 d3.length p3] 35)).heap.size = w.heap.size + 1 := by simp
  clear h0 h1 h2 h3
  obtain ⟨r, hr⟩ : ∃ r, validAn (d0, d1, d2, d3) = r := ⟨_, rfl⟩
  rw [hr] at HC
  cases r
  · have HF : Hid (annH (d0, d1, d2, d3) = ([], false)) := by unfold Hid annH; rw [hr]; rfl
    clear hr hs1
    go_enter Try.func11, Try.ntmps11
    go_wp2_with (go_at_call 48; refine HC.out.mono ?_; rintro e w1 ⟨rfl, hb1⟩; have HB1 := hid (bel_next HB.out HB.out.size hb1); clear hb1)
    go_ret2
    rw [HF.out]
    exact ⟨none, 0, rfl, nil_rd _ _ _, HB1.out⟩
  · have HF : Hid (annH (d0, d1, d2, d3) = annO d2 d3) := by unfold Hid annH; rw [hr]; rfl
    obtain ⟨hv, _, _, _, hps⟩ := validAn_iff hr
    have HV := hid hv
    have HPS := hid hps
    clear hr hv hps
    go_enter Try.func11, Try.ntmps11
    go_wp2_with fail
    generalize w.alloc (.cells #[.slice a0 d0.length p0, .slice a1 d1.length p1, .slice a2 d2.length p2, .slice a3 d3.length p3] 35) = W0 at *
    refine HC.out.mono ?_
    rintro e w1 ⟨rfl, hb1⟩
    have HA1 := hid (HA.out.on (hb1.mono (Nat.le_of_eq hs1.symm)))
    have HB1 := hid (bel_next HB.out HB.out.size hb1)
    clear hb1 hs1 HA HC
    obtain ⟨⟨o, ok⟩, ho⟩ : ∃ q, annO d2 d3 = q := ⟨_, rfl⟩
    have HH := hid (c_l08Heights HA1.out HV.out fun p hp => (HPS.out p hp).1.1)
    rw [ho] at HH HF
    clear ho
    go_wp2_with fail
    refine HH.out.mono ?_
    rintro e w2 ⟨a5, p5, rfl, hs5, hb5⟩
    have HS5 := hid hs5
    have HB5 := hid hb5
    clear hs5 hb5 HH
    go_wp2
    go_ret2
    rw [HF.out]
    exact ⟨a5, p5, rfl, HS5.out.keep fun b hb hl => ⟨⟨Nat.le_trans HB1.out.size hb.1, hb.2⟩, rfl⟩, bel_next HB1.out HB1.out.size HB5.out⟩
set_option maxRecDepth 100000 in
set_option maxHeartbeats 4000000 in
theorem c_HeightsOf {S : Nat → Prop} {a0 : Option Addr} {p0 : Nat} {d0 : List Term} {a1 : Option Addr} {p1 : Nat} {d1 : List Term} {a2 : Option Addr} {p2 : Nat} {d2 : List Instr} {a3 : Option Addr} {p3 : Nat} {d3 : List Pt} {w : World} (h0 : SlRd cTerm S w a0 p0 d0) (h1 : SlRd cTerm S w a1 p1 d1) (h2 : SlRd cInstr S w a2 p2 d2) (h3 : SlRd cPoint S w a3 p3 d3) :
    Calls Try.prog 13 #[.agg #[.slice a0 d0.length p0, .slice a1 d1.length p1, .slice a2 d2.length p2, .slice a3 d3.length p3]] w (RetSlB cInt (annH (d0, d1, d2, d3)).1 (annH (d0, d1, d2, d3)).2 w) := by
  have hl3 := h3.len_le
  have HC := hid (c_ValidAnnotated (h0.alloc (.cells #[.slice a0 d0.length p0, .slice a1 d1.length p1, .slice a2 d2.length p2, .slice a3 d3.length p3] 35)) (h1.alloc _) (h2.alloc _) (h3.alloc _))
  have HA : Hid (An2 (w.heap.size + 1) (w.alloc (.cells #[.slice a0 d0.length p0, .slice a1 d1.length p1, .slice a2 d2.length p2, .slice a3 d3.length p3] 35)) w.heap.size a2 p2 d2 a3 p3 d3) := An2.boxed h2 h3
  have HB : Hid (Below w.heap.size w (w.alloc (.cells #[.slice a0 d0.length p0, .slice a1 d1.length p1, .slice a2 d2.length p2, .slice a3 d3.length p3] 35))) := (Below.refl _ _).alloc (Nat.le_refl _) _
  have hs1 : (w.alloc (.cells #[.slice a0 d0.length p0, .slice a1 d1.length p1, .slice a2 d2.length p2, .slice a3 d3.length p3] 35)).heap.size = w.heap.size + 1 := by simp
  clear h0 h1 h2 h3
  obtain ⟨r, hr⟩ : ∃ r, validAn (d0, d1, d2, d3) = r := ⟨_, rfl⟩
  rw [hr] at HC
  cases r
  · have HF : Hid (annH (d0, d1, d2, d3) = ([], false)) := by unfold Hid annH; rw [hr]; rfl
    clear hr hs1
    go_enter Try.func13, Try.ntmps13
    go_wp2_with (go_at_call 52; refine HC.out.mono ?_; rintro e w1 ⟨rfl, hb1⟩; have HB1 := hid (bel_next HB.out HB.out.size hb1); clear hb1)
    go_ret2
    rw [HF.out]
    exact ⟨none, 0, rfl, nil_rd _ _ _, HB1.out⟩
  · have HF : Hid (annH (d0, d1, d2, d3) = annO d2 d3) := by unfold Hid annH; rw [hr]; rfl
    obtain ⟨hv, _, _, _, hps⟩ := validAn_iff hr
    have HV := hid hv
    have HPS := hid hps
    obtain ⟨hx1, hx80, _⟩ := validCode_iff hv
    have HOL := hid fun h => heightsF_ok (code := d2) (by omega) h
    have HAN : Hid (annO d2 d3 = if (heightsF d2).2 = true ∧ ptsFlat d3 (heightsF d2).1 = true then heightsF d2 else ([], false)) := rfl
    clear hr hv hps
    go_enter Try.func13, Try.ntmps13
    go_wp2_with fail
    generalize w.alloc (.cells #[.slice a0 d0.length p0, .slice a1 d1.length p1, .slice a2 d2.length p2, .slice a3 d3.length p3] 35) = W0 at *
    refine HC.out.mono ?_
    rintro e w1 ⟨rfl, hb1⟩
    have HA1 := hid (HA.out.on (hb1.mono (Nat.le_of_eq hs1.symm)))
    have HB1 := hid (bel_next HB.out HB.out.size hb1)
    have hsz1 : w.heap.size + 1 ≤ w1.heap.size := by rw [← hs1]; exact hb1.size
    clear hb1 hs1 HA HC
    have c2 := HA1.out.c2
    have c3 := HA1.out.c3
    have HH := hid (c_StackHeights HA1.out.code)
    obtain ⟨⟨o, ok⟩, ho⟩ : ∃ q, heightsF d2 = q := ⟨_, rfl⟩
    rw [ho] at HH HAN HOL
    clear ho
    simp only at HAN HOL
    go_wp2_with fail
    refine HH.out.mono ?_
    rintro e w2 ⟨a5, p5, rfl, hs5, hb5⟩
    have HS5 := hid (hs5.keep (S' := Fresh w.heap.size w2) (w' := w2) fun b hb hl => ⟨⟨Nat.le_trans HB1.out.size hb.1, hb.2⟩, rfl⟩)
    have c23 := cell_below hb5 (by omega) c2
    have c33 := cell_below hb5 (by omega) c3
    have HA2 := hid (HA1.out.on (hb5.mono hsz1))
    have HB2 := hid (bel_next HB1.out HB1.out.size hb5)
    have hsz2 : w.heap.size + 1 ≤ w2.heap.size := Nat.le_trans hsz1 hb5.size
    clear hs5 hb5 HH HA1 c2 c3
    cases ok
    · have HF2 : Hid (annH (d0, d1, d2, d3) = ([], false)) := by unfold Hid; rw [HF.out, HAN.out, if_neg (by simp)]
      clear HAN HOL
      go_wp2
      go_ret2
      rw [HF2.out]
      exact ⟨none, 0, rfl, nil_rd _ _ _, HB2.out⟩
    · have hol := HOL.out rfl
      have HF2 : Hid (annH (d0, d1, d2, d3) = if ptsFlat d3 o = true then (o, true) else ([], false)) := by unfold Hid; rw [HF.out, HAN.out]; simp
      clear HAN HOL HF
      go_wp2
      go_loopw [22] (fun i wr => ∃ k : Nat, k ≤ d3.length ∧ i = .int .i64 k ∧ Hid (ptsFlat (d3.take k) o = true) ∧ Hid (Below w2.heap.size w2 wr)) (fun i _ => d3.length - (intOf i).toNat)
      case atStart => exact ⟨0, Nat.zero_le _, rfl, by unfold Hid; simp [ptsFlat], Below.refl _ _⟩
      case round =>
        obtain ⟨k, hk, rfl, HK, HBR⟩ := hrel
        by_cases hlt : k < d3.length
        · have HAR := hid (HA2.out.on (HBR.out.mono hsz2))
          obtain ⟨b, off, rfl⟩ := HAR.out.pts.some_of hlt
          obtain ⟨x, a', cap', ts, hz, hx1, hsl, hc, hc', hb⟩ := HAR.out.pts.pt_at k hlt
          obtain ⟨⟨hx0, hxn⟩, _⟩ := HPS.out _ (List.mem_of_getElem? hz)
          simp only at hx0 hxn
          obtain ⟨q, rfl⟩ := Int.eq_ofNat_of_zero_le hx0
          have hqo : q < o.length := by omega
          obtain ⟨b5, off5, rfl⟩ := HS5.out.some_of hqo
          obtain ⟨h, hh, hh64, hch, hbh⟩ := (HS5.out.below (Nat.le_refl _) HBR.out).int_at q hqo
          have hch2 : (wr.alloc (.cells #[.int .i64 q, .slice a' ts.length cap'] 90)).cell? ⟨b5, off5 + q, none⟩ = some (.int .i64 h) := cell_below ((Below.refl _ _).alloc (Nat.le_refl _) _) hbh hch
          have i0 : (0 : Int) ≤ (k : Int) := by omega
          have i1 : (k : Int) < (d3.length : Int) := by omega
          have e1 : decide ((k : Int) < (d3.length : Int)) = true := decide_eq_true i1
          have q0 : (0 : Int) ≤ (q : Int) := by omega
          have q1 : (q : Int) < (o.length : Int) := by omega
          have HST : Hid (ptsFlat (d3.take (k + 1)) o = (ptsFlat (d3.take k) o && decide (¬ 0 < h))) := by
            unfold Hid ptsFlat
            rw [List.take_add_one, hz, List.all_append]
            simp [hh]
          have HALL : Hid (ptsFlat (d3.take (k + 1)) o = false → ptsFlat d3 o = false) := by
            intro hf
            unfold ptsFlat at hf ⊢
            rw [← List.take_append_drop (k + 1) d3, List.all_append, hf]; rfl
          have hwr := Nat.le_trans HB2.out.size HBR.out.size
          have HBX := hid (HBR.out.alloc HBR.out.size (.cells #[.int .i64 q, .slice a' ts.length cap'] 90))
          clear hz hsl hh hx0
          by_cases hpos : 0 < h
          · have e2 : decide (0 < h) = true := decide_eq_true hpos
            have HFF : Hid (annH (d0, d1, d2, d3) = ([], false)) := by
              unfold Hid; rw [HF2.out, HALL.out (by rw [HST.out]; simp [hpos])]; simp
            clear hpos
            go_wp2
            go_ret2
            rw [HFF.out]
            exact ⟨none, 0, rfl, nil_rd _ _ _, bel_next HB2.out HB2.out.size HBX.out⟩
          · have e2 : decide (0 < h) = false := decide_eq_false hpos
            have HK2 : Hid (ptsFlat (d3.take (k + 1)) o = true) := by unfold Hid; rw [HST.out, HK.out]; simp [hpos]
            clear hpos
            go_wp2
            go_roundw
            case rel => exact ⟨k + 1, by omega, by go_num, HK2, HBX⟩
            case measure => simp [intOf]; omega
        · have e1 : decide ((k : Int) < (d3.length : Int)) = false := by simp; omega
          have HFF : Hid (annH (d0, d1, d2, d3) = (o, true)) := by
            have h9 := HK.out
            rw [List.take_of_length_le (by omega)] at h9
            unfold Hid; rw [HF2.out, if_pos h9]
          have HSR := hid (HS5.out.fresh (Nat.le_refl _) (Nat.le_refl _) HBR.out)
          go_wp2
          go_ret2
          rw [HFF.out]
          exact ⟨a5, p5, by show _ = Ending.returned (.tuple #[.slice a5 o.length p5, .bool true]); rw [hol]; rfl, HSR.out, bel_next HB2.out HB2.out.size HBR.out⟩
end Go.Proofs.Ytedmhdinfedhhaa
