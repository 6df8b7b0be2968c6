/- Contracts: the text of a sequent. -/
import Derived.Test.YtcbaohcgeoaccaaDoorD09
import Derived.Test.YtcbaohcgeoaccaaDoorHSeq
import Derived.Test.YtcbaohcgeoaccaaDoorL02q
namespace Go.Proofs.YtcbaohcgeoaccaaDoor
open Go.RowKit

theorem textF_len {t : Term} (h : validTerm t = true) : (textF t).length ≤ 253 := by
  obtain ⟨h1, h2, h3⟩ := validTerm_small h
  have := partT_len h2 h3 (t.2.length + 1)
  unfold textF
  split
  · simp
  · omega
def semiF (ts : List Term) : List UInt8 := (ts.map fun t => textF t ++ [59]).flatten
def seqF (s : Sq) : List UInt8 := (semiF s.1 ++ [61, 62]) ++ textF s.2
def seqTextF (s : Sq) : List UInt8 × Bool := if validSq s then (seqF s, true) else ([], false)
theorem semiF_take {ts : List Term} {k : Nat} {t : Term} (h : ts[k]? = some t) : semiF (ts.take (k + 1)) = semiF (ts.take k) ++ (textF t ++ [59]) := by
  have hk := (List.getElem?_eq_some_iff.1 h).1
  rw [List.take_succ_eq_append_getElem hk]
  rw [List.getElem?_eq_getElem hk] at h
  rw [Option.some.inj h]; simp [semiF]
set_option maxRecDepth 100000 in
theorem c_l02SequentText {S : Nat → Prop} {b o : Nat} {d1 : Int} {a0 : Option Addr} {p0 : Nat} {d0 : List Term} {a2 : Option Addr} {p2 : Nat} {d2 : List Int} {w : World} (t0 : w.cell? ⟨b, o, none⟩ = some (.slice a0 d0.length p0)) (t1 : w.cell? ⟨b, o + 1, none⟩ = some (.int .i64 d1)) (t2 : w.cell? ⟨b, o + 1 + 1, none⟩ = some (.slice a2 d2.length p2)) (hb : b < w.heap.size)
    (h0 : SlRd cTerm S w a0 p0 d0) (h2 : SlRd cInt S w a2 p2 d2) (hv : validSq (d0, d1, d2) = true) :
    Calls Tryd.prog 84 #[.pointer (some ⟨b, o, none⟩)] w fun e w' => e = .returned (strOf (seqF (d0, d1, d2))) ∧ Below w.heap.size w w' := by
  obtain ⟨hn13, hvt, hvg, _⟩ := validSq_iff hv
  simp only at hn13 hvt hvg
  have H0 := hid h0
  have H2 := hid h2
  have HV := hid hvt
  have HG := hid hvg
  have hgl := textF_len hvg
  clear h0 h2 hv hvt hvg
  go_enter Tryd.func84, Tryd.ntmps84
  go_wp2
  go_loopw [3, 4] (fun u i wr => ∃ (k : Nat) (l : List UInt8), k ≤ d0.length ∧ i = .int .i64 k ∧ u = .string ⟨l.toArray⟩ ∧ l.length ≤ 254 * k ∧ Hid (l = semiF (d0.take k)) ∧ Below w.heap.size w wr) (fun _ i _ => d0.length - (intOf i).toNat)
  case atStart => exact ⟨0, [], Nat.zero_le _, rfl, rfl, by simp, rfl, Below.refl _ _⟩
  case round =>
    obtain ⟨k, l, hk, rfl, rfl, hll, HL, hbe⟩ := hrel
    have hsz := hbe.size
    have s0 := cell_below hbe hb t0
    have s1 := cell_below hbe hb t1
    have s2 := cell_below hbe hb t2
    have hb' := Nat.lt_of_lt_of_le hb hsz
    by_cases hlt : k < d0.length
    · obtain ⟨b1, off1, rfl⟩ := H0.out.some_of hlt
      obtain ⟨c, zs, a', cap', hz, hc1, hsl, hc, hc', hb1⟩ := (H0.out.below (Nat.le_refl _) hbe).term_at k hlt
      have hvk := (HV.out _ (List.mem_of_getElem? hz)).1
      have hlk := textF_len hvk
      have HN := hid (semiF_take hz)
      have HC := hid (c_l02Text hc hc' hb1 hsl hvk)
      obtain ⟨L, hL⟩ : ∃ L, textF (c, zs) = L := ⟨_, rfl⟩
      rw [hL] at HC HN hlk
      have i0 : (0 : Int) ≤ (k : Int) := by omega
      have i1 : (k : Int) < (d0.length : Int) := by omega
      have e1 := badd L [59]
      have e2 := badd l (L ++ [59])
      clear hz hvk hL hsl hc hc'
      go_wp2_with (go_at_call 73; refine HC.out.mono ?_; rintro e w2 ⟨rfl, hb2⟩; have HB2 := hid (bel_next hbe hsz hb2); clear hb2; unfold strOf)
      go_roundw
      case rel => exact ⟨k + 1, l ++ (L ++ [59]), by omega, by go_num, rfl, by simp; omega, by rw [HN.out, ← HL.out]; rfl, HB2.out⟩
      case measure => simp [intOf]; omega
    · have HK : Hid (d0.take k = d0) := List.take_of_length_le (by omega)
      rw [HK.out] at HL
      have hl0 := H0.out.len_le
      have HC := hid (c_l02Text s1 s2 hb' (H2.out.below (Nat.le_refl _) hbe) HG.out)
      obtain ⟨L, hL⟩ : ∃ L, textF (d1, d2) = L := ⟨_, rfl⟩
      have HF : Hid (seqF (d0, d1, d2) = (l ++ [61, 62]) ++ L) := by unfold Hid seqF; simp only; rw [← HL.out, hL]
      rw [hL] at HC hgl
      have e1 := badd l [61, 62]
      have e2 := badd (l ++ [61, 62]) L
      clear hL
      go_wp2_with (go_at_call 73; refine HC.out.mono ?_; rintro e w2 ⟨rfl, hb2⟩; have HB2 := hid (bel_next hbe hsz hb2); clear hb2; unfold strOf)
      go_ret
      rw [HF.out]
      exact ⟨ret_str (by simp), HB2.out⟩
theorem c_sSequentText {S : Nat → Prop} {d1 : Int} {a0 : Option Addr} {p0 : Nat} {d0 : List Term} {a2 : Option Addr} {p2 : Nat} {d2 : List Int} {w : World} (h0 : SlRd cTerm S w a0 p0 d0) (h2 : SlRd cInt S w a2 p2 d2) :
    Calls Tryd.prog 38 #[.agg #[.slice a0 d0.length p0, .int .i64 d1, .slice a2 d2.length p2]] w fun e w' => e = .returned (.tuple #[strOf (seqTextF (d0, d1, d2)).1, .bool (seqTextF (d0, d1, d2)).2]) ∧ Below w.heap.size w w' := by
  have H0 := hid (h0.alloc (.cells #[.slice a0 d0.length p0, .int .i64 d1, .slice a2 d2.length p2] 61))
  have H2 := hid (h2.alloc (.cells #[.slice a0 d0.length p0, .int .i64 d1, .slice a2 d2.length p2] 61))
  have HB : Hid (Below w.heap.size w (w.alloc (.cells #[.slice a0 d0.length p0, .int .i64 d1, .slice a2 d2.length p2] 61))) := (Below.refl _ _).alloc (Nat.le_refl _) _
  have t0 : (w.alloc (.cells #[.slice a0 d0.length p0, .int .i64 d1, .slice a2 d2.length p2] 61)).cell? ⟨w.heap.size, 0, none⟩ = some (.slice a0 d0.length p0) := by rw [World.cell?_alloc_at _ _ _ _ rfl]; rfl
  have t1 : (w.alloc (.cells #[.slice a0 d0.length p0, .int .i64 d1, .slice a2 d2.length p2] 61)).cell? ⟨w.heap.size, 0 + 1, none⟩ = some (.int .i64 d1) := by rw [World.cell?_alloc_at _ _ _ _ rfl]; rfl
  have t2 : (w.alloc (.cells #[.slice a0 d0.length p0, .int .i64 d1, .slice a2 d2.length p2] 61)).cell? ⟨w.heap.size, 0 + 1 + 1, none⟩ = some (.slice a2 d2.length p2) := by rw [World.cell?_alloc_at _ _ _ _ rfl]; rfl
  have z0 : w.heap.size < (w.alloc (.cells #[.slice a0 d0.length p0, .int .i64 d1, .slice a2 d2.length p2] 61)).heap.size := by simp
  have HV := hid (c_l02Sequent t0 t1 t2 H0.out H2.out)
  have hl0 := h0.len_le
  have hl2 := h2.len_le
  obtain ⟨r, hr⟩ : ∃ r, validSq (d0, d1, d2) = r := ⟨_, rfl⟩
  have HR := hid hr
  clear h0 h2 hr
  cases r
  · have HF : Hid (seqTextF (d0, d1, d2) = ([], false)) := by unfold Hid seqTextF; rw [if_neg (by simp [HR.out])]
    go_enter Tryd.func38, Tryd.ntmps38
    go_wp2_with fail
    generalize w.alloc (.cells #[.slice a0 d0.length p0, .int .i64 d1, .slice a2 d2.length p2] 61) = w1 at *
    refine HV.out.mono ?_
    rintro e w2 ⟨rfl, rfl⟩
    rw [HR.out]
    go_wp2
    go_ret2
    rw [HF.out]
    exact ⟨rfl, HB.out⟩
  · have HF : Hid (seqTextF (d0, d1, d2) = (seqF (d0, d1, d2), true)) := by unfold Hid seqTextF; rw [if_pos HR.out]
    have HC := hid (c_l02SequentText t0 t1 t2 z0 H0.out H2.out HR.out)
    go_enter Tryd.func38, Tryd.ntmps38
    go_wp2_with fail
    generalize w.alloc (.cells #[.slice a0 d0.length p0, .int .i64 d1, .slice a2 d2.length p2] 61) = w1 at *
    refine HV.out.mono ?_
    rintro e w2 ⟨rfl, rfl⟩
    rw [HR.out]
    go_wp2_with (go_at_call 84; refine HC.out.mono ?_; rintro e w2 ⟨rfl, hb2⟩; have HB2 := hid (bel_next HB.out HB.out.size hb2); clear hb2; unfold strOf)
    go_ret2
    rw [HF.out]
    exact ⟨rfl, HB2.out⟩
set_option maxRecDepth 100000 in
theorem c_SequentText {S : Nat → Prop} {B : Nat} {d1 : Int} {a0 : Option Addr} {p0 : Nat} {d0 : List Term} {a2 : Option Addr} {p2 : Nat} {d2 : List Int} {w : World} (h0 : SlRd cTerm S w a0 p0 d0) (h2 : SlRd cInt S w a2 p2 d2) (ht : TabE B w) :
    Calls Tryd.prog 40 #[.agg #[.slice a0 d0.length p0, .int .i64 d1, .slice a2 d2.length p2]] w fun e w' => e = .returned (.tuple #[strOf (seqTextF (d0, d1, d2)).1, .bool (seqTextF (d0, d1, d2)).2]) ∧ Below w.heap.size w w' := by
  have H0 := hid (h0.alloc (.cells #[.slice a0 d0.length p0, .int .i64 d1, .slice a2 d2.length p2] 61))
  have H2 := hid (h2.alloc (.cells #[.slice a0 d0.length p0, .int .i64 d1, .slice a2 d2.length p2] 61))
  have HB : Hid (Below w.heap.size w (w.alloc (.cells #[.slice a0 d0.length p0, .int .i64 d1, .slice a2 d2.length p2] 61))) := (Below.refl _ _).alloc (Nat.le_refl _) _
  have t0 : (w.alloc (.cells #[.slice a0 d0.length p0, .int .i64 d1, .slice a2 d2.length p2] 61)).cell? ⟨w.heap.size, 0, none⟩ = some (.slice a0 d0.length p0) := by rw [World.cell?_alloc_at _ _ _ _ rfl]; rfl
  have t1 : (w.alloc (.cells #[.slice a0 d0.length p0, .int .i64 d1, .slice a2 d2.length p2] 61)).cell? ⟨w.heap.size, 1, none⟩ = some (.int .i64 d1) := by rw [World.cell?_alloc_at _ _ _ _ rfl]; rfl
  have t2 : (w.alloc (.cells #[.slice a0 d0.length p0, .int .i64 d1, .slice a2 d2.length p2] 61)).cell? ⟨w.heap.size, 2, none⟩ = some (.slice a2 d2.length p2) := by rw [World.cell?_alloc_at _ _ _ _ rfl]; rfl
  have z0 : w.heap.size < (w.alloc (.cells #[.slice a0 d0.length p0, .int .i64 d1, .slice a2 d2.length p2] 61)).heap.size := by simp
  have HT := hid (ht.belows (HB.out.mono ht.2))
  have hl0 := h0.len_le
  have hl2 := h2.len_le
  obtain ⟨r, hr⟩ : ∃ r, validSq (d0, d1, d2) = r := ⟨_, rfl⟩
  have HR := hid hr
  clear h0 h2 hr ht
  cases r
  · have HF : Hid (seqTextF (d0, d1, d2) = ([], false)) := by unfold Hid seqTextF; rw [if_neg (by simp [HR.out])]
    go_enter Tryd.func40, Tryd.ntmps40
    go_wp2_with fail
    generalize w.alloc (.cells #[.slice a0 d0.length p0, .int .i64 d1, .slice a2 d2.length p2] 61) = w1 at *
    refine (c_ValidSequent H0.out H2.out).mono ?_
    rintro e w2 ⟨rfl, hb2⟩
    rw [HR.out]
    have HB2 := hid (bel_next HB.out HB.out.size hb2)
    clear hb2
    go_wp2
    go_ret2
    rw [HF.out]
    exact ⟨rfl, HB2.out⟩
  · have HF : Hid (seqTextF (d0, d1, d2) = (seqF (d0, d1, d2), true)) := by unfold Hid seqTextF; rw [if_pos HR.out]
    obtain ⟨hn13, hvt, hvg, _⟩ := validSq_iff HR.out
    simp only at hn13 hvt hvg
    have HV := hid hvt
    have HG := hid hvg
    have hgl := textF_len hvg
    clear hvt hvg
    go_enter Tryd.func40, Tryd.ntmps40
    go_wp2_with fail
    generalize w.alloc (.cells #[.slice a0 d0.length p0, .int .i64 d1, .slice a2 d2.length p2] 61) = w1 at *
    refine (c_ValidSequent H0.out H2.out).mono ?_
    rintro e w2 ⟨rfl, hb2⟩
    rw [HR.out]
    have HB2 := hid (bel_next HB.out HB.out.size hb2)
    have d0c := cell_below hb2 z0 t0
    have d1c := cell_below hb2 z0 t1
    have d2c := cell_below hb2 z0 t2
    have z2 := Nat.lt_of_lt_of_le z0 hb2.size
    have H02 := hid (H0.out.below (Nat.le_refl _) hb2)
    have H22 := hid (H2.out.below (Nat.le_refl _) hb2)
    have HT2 := hid (HT.out.on hb2)
    clear hb2 t0 t1 t2 z0 H0 H2 HB HT
    go_wp2
    go_loopw [4, 13] (fun u i wr => ∃ (k : Nat) (l : List UInt8), k ≤ d0.length ∧ i = .int .i64 k ∧ u = .string ⟨l.toArray⟩ ∧ l.length ≤ 254 * k ∧ Hid (l = semiF (d0.take k)) ∧ Below w2.heap.size w2 wr) (fun _ i _ => d0.length - (intOf i).toNat)
    case atStart => exact ⟨0, [], Nat.zero_le _, rfl, rfl, by simp, rfl, Below.refl _ _⟩
    case round =>
      obtain ⟨k, l, hk, rfl, rfl, hll, HL, hbe⟩ := hrel
      have hsz := hbe.size
      by_cases hlt : k < d0.length
      · obtain ⟨b1, off1, rfl⟩ := H02.out.some_of hlt
        obtain ⟨c, zs, a', cap', hz, hc1, hsl, hc, hc', hb1⟩ := (H02.out.below (Nat.le_refl _) hbe).term_at k hlt
        have hvk := (HV.out _ (List.mem_of_getElem? hz)).1
        have hlk := textF_len hvk
        have HN := hid (semiF_take hz)
        have hbx : Below wr.heap.size wr (wr.alloc (.cells #[.int .i64 c, .slice a' zs.length cap'] 43)) := (Below.refl _ _).alloc (Nat.le_refl _) _
        have HBX := hid (bel_next hbe hsz hbx)
        have hszx : w2.heap.size ≤ (wr.alloc (.cells #[.int .i64 c, .slice a' zs.length cap'] 43)).heap.size := HBX.out.size
        have HC := hid (c_termText (hsl.below (Nat.le_refl _) hbx) hvk (HT2.out.belows (HBX.out.mono HT2.out.2)))
        obtain ⟨L, hL⟩ : ∃ L, textF (c, zs) = L := ⟨_, rfl⟩
        rw [hL] at HC HN hlk
        have i0 : (0 : Int) ≤ (k : Int) := by omega
        have i1 : (k : Int) < (d0.length : Int) := by omega
        have e1 := badd L [59]
        have e2 := badd l (L ++ [59])
        clear hz hvk hL hsl hbx
        go_wp2_with (go_at_call 76; refine HC.out.mono ?_; rintro e w3 ⟨rfl, hb3⟩; have HB3 := hid (bel_next HBX.out hszx hb3); clear hb3; unfold strOf)
        go_roundw
        case rel => exact ⟨k + 1, l ++ (L ++ [59]), by omega, by go_num, rfl, by simp; omega, by rw [HN.out, ← HL.out]; rfl, HB3.out⟩
        case measure => simp [intOf]; omega
      · have HK : Hid (d0.take k = d0) := List.take_of_length_le (by omega)
        rw [HK.out] at HL
        have s1 := cell_below hbe z2 d1c
        have s2 := cell_below hbe z2 d2c
        have HC := hid (c_termText (H22.out.below (Nat.le_refl _) hbe) HG.out (HT2.out.belows (hbe.mono HT2.out.2)))
        obtain ⟨L, hL⟩ : ∃ L, textF (d1, d2) = L := ⟨_, rfl⟩
        have HF2 : Hid (seqF (d0, d1, d2) = (l ++ [61, 62]) ++ L) := by unfold Hid seqF; simp only; rw [← HL.out, hL]
        rw [hL] at HC hgl
        have e1 := badd l [61, 62]
        have e2 := badd (l ++ [61, 62]) L
        clear hL
        go_wp2_with (go_at_call 76; refine HC.out.mono ?_; rintro e w3 ⟨rfl, hb3⟩; have HB3 := hid (bel_next hbe hsz hb3); clear hb3; unfold strOf)
        go_ret2
        rw [HF.out, HF2.out]
        exact ⟨by simp [strOf], HB2.out.trans (HB3.out.mono HB2.out.size)⟩
end Go.Proofs.YtcbaohcgeoaccaaDoor
