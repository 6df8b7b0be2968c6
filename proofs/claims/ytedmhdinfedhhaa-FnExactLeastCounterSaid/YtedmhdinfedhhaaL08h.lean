/- Contracts: how high the stack is in annotated code, the reference's side. -/
import Derived.Test.YtedmhdinfedhhaaL08a
namespace Go.Proofs.Ytedmhdinfedhhaa
open Go.RowKit

def ptsFlat (ps : List Pt) (out : List Int) : Bool := ps.all fun p => match out[p.1.toNat]? with
  | some h => decide (¬ 0 < h)
  | none => true
def annO (code : List Instr) (ps : List Pt) : List Int × Bool := if (heightsF code).2 = true ∧ ptsFlat ps (heightsF code).1 = true then heightsF code else ([], false)
theorem annO_no {code : List Instr} {ps : List Pt} (h : heightsF code = ([], false)) : annO code ps = ([], false) := by
  unfold annO; rw [h, if_neg (by simp)]
def PInv (ps : List Pt) (out work : List Int) : Prop := ∀ (k : Nat) (h : Int), out[k]? = some h → 0 ≤ h → (k : Int) ∈ work ∨ ((∃ p ∈ ps, p.1 = (k : Int)) → h = 0)
theorem PInv.begin (ps : List Pt) (n : Nat) : PInv ps ((List.replicate n (-1)).set 0 0) [0] := fun k h hk h0 => by
  by_cases e : k = 0
  · subst e; exact .inl (by simp)
  · rw [List.getElem?_set_ne (fun h => e h.symm), List.getElem?_replicate] at hk
    split at hk
    · simp at hk; omega
    · cases hk
theorem PInv.pop {ps : List Pt} {out work : List Int} {k : Nat} {h : Int} (hI : PInv ps out ((k : Int) :: work)) (hk : out[k]? = some h) (hp : (∃ p ∈ ps, p.1 = (k : Int)) → h = 0) : PInv ps out work := fun i v hi hv => by
  rcases hI i v hi hv with g | g
  · rcases List.mem_cons.1 g with g | g
    · have : i = k := by omega
      subst this
      rw [hk] at hi; cases hi
      exact .inr hp
    · exact .inl g
  · exact .inr g
theorem PInv.put {ps : List Pt} {out work : List Int} {t : Nat} {v x : Int} (hI : PInv ps out work) (hv : out[t]? = some v) (hneg : v < 0) : PInv ps (out.set t x) (work ++ [(t : Int)]) := fun i u hi hu => by
  by_cases e : t = i
  · subst e; exact .inl (by simp)
  · rw [List.getElem?_set_ne e] at hi
    exact (hI i u hi hu).imp (fun g => List.mem_append_left _ g) id
theorem annO_yes {code : List Instr} {ps : List Pt} {out : List Int} {k : Nat} (hv : validCode code = true) (hn : 1 ≤ code.length) (hp : ∀ p ∈ ps, (0 : Int) ≤ p.1) (hI : HInv code out [] k []) (hP : PInv ps out []) : annO code ps = (out, true) := by
  have h1 := heights_yes hv hn hI
  unfold annO
  rw [h1, if_pos]
  refine ⟨rfl, ?_⟩
  unfold ptsFlat
  rw [List.all_eq_true]
  intro p hpm
  cases ho : out[p.1.toNat]? with
  | none => rfl
  | some h =>
    simp only [decide_eq_true_eq]
    intro hh
    rcases hP p.1.toNat h ho (by omega) with g | g
    · cases g
    · have := g ⟨p, hpm, by have := hp p hpm; omega⟩
      omega
theorem annO_pt {code : List Instr} {ps : List Pt} {out work ts : List Int} {k k0 : Nat} {h : Int} {p : Pt} (hv : validCode code = true) (hn : 1 ≤ code.length) (hI : HInv code out work k0 ts) (hk : out[k]? = some h) (h0 : 0 < h) (hp : p ∈ ps) (hpk : p.1 = (k : Int)) : annO code ps = ([], false) := by
  have hH := hI.sound k h hk (by omega)
  unfold annO
  rcases heights_spec hn with ⟨o, k', e, g⟩ | ⟨e, g⟩
  · have h9 := heights_yes hv hn g
    rw [h9, if_neg]
    rintro ⟨_, hf⟩
    obtain ⟨_, _, g3, _⟩ := g.all hH hn
    unfold ptsFlat at hf
    have := List.all_eq_true.1 hf p hp
    rw [hpk, g3] at this
    simp at this; omega
  · rw [heights_no hv hn g, if_neg (by simp)]
theorem HInv.sameT {code : List Instr} {out work : List Int} {k : Nat} {t1 t2 : List Int} (h : HInv code out work k t1) (he : ∀ x, x ∈ t1 ↔ x ∈ t2) : HInv code out work k t2 :=
  ⟨h.len, h.sound, h.lo, h.workS, fun i v hi hv => (h.closed i v hi hv).imp id fun g => ⟨g.1, fun t ht => (g.2 t ht).imp (fun q => ⟨q.1, (he t).1 q.2⟩) id⟩, h.start⟩
theorem SlRd.blk_at {α : Type} {C : Codec α} {S : Nat → Prop} {w : World} {b off cap : Nat} {xs : List α} (h : SlRd C S w (some ⟨b, off, none⟩) cap xs) (k : Nat) (hk : k < xs.length) : S b := by
  obtain ⟨_, _, _, _, _, hs, _⟩ := h.at k hk; exact hs
theorem cell_set_other (w : World) (p : Addr) {q : Addr} (v : Value) (h : q.block ≠ p.block) : (w.setCell p v).cell? q = w.cell? q := by
  unfold World.cell?; rw [heap_setCell_ne _ _ _ h]
theorem ownQ_at {w : World} {Bk : Nat → Prop} {v : Value} {zs : List Int} (h : OwnQ w Bk v zs) (k : Nat) (hk : k < zs.length) :
    ∃ g off cap z, v = .slice (some ⟨g, off, none⟩) zs.length cap ∧ zs[k]? = some z ∧ w.cell? ⟨g, off + k, none⟩ = some (.int .i64 z) ∧ I64 z ∧ zs.length ≤ cap ∧ cap ≤ 9223372036854775807 ∧ Bk g ∧ g < w.heap.size := by
  obtain ⟨g, off, cap, cur, e, rfl, h2, h3, h4, h5, h6, h7⟩ := h
  have hz := List.getElem?_eq_getElem hk
  obtain ⟨c0, h8⟩ := h7 k _ hz
  exact ⟨g, off, cap, _, rfl, hz, by rw [cell_of_row w g _ cur e (0, 0) h3]; exact c0, h8, h4, h5, h2, (Array.getElem?_eq_some_iff.1 h3).1⟩
theorem ownQ_sl {w : World} {Bk : Nat → Prop} {v : Value} {zs : List Int} (h : OwnQ w Bk v zs) : ∃ g off cap, v = .slice (some ⟨g, off, none⟩) zs.length cap := by
  obtain ⟨g, off, cap, _, _, rfl, _⟩ := h; exact ⟨g, off, cap, rfl⟩
set_option maxHeartbeats 4000000 in
set_option maxRecDepth 100000 in
theorem c_l08Heights {N : Nat} {g : Nat} {a2 : Option Addr} {p2 : Nat} {d2 : List Instr} {a3 : Option Addr} {p3 : Nat} {d3 : List Pt} {w : World} (h : An2 N w g a2 p2 d2 a3 p3 d3) (hv : validCode d2 = true) (hp : ∀ p ∈ d3, (0 : Int) ≤ p.1) :
    Calls Try.prog 49 #[.pointer (some ⟨g, 0, none⟩)] w (RetSlB cInt (annO d2 d3).1 (annO d2 d3).2 w) := by
  obtain ⟨hx1, hx80, hvx⟩ := validCode_iff hv
  have HA := hid h
  have HV := hid hvx
  have HVC := hid hv
  have HPN := hid hp
  have c2 := h.c2
  have hNw := h.le
  have hgN := h.lt
  clear h hv hvx hp
  obtain ⟨g1, hg1⟩ : ∃ g1, g1 = w.heap.size := ⟨_, rfl⟩
  have hw0 : w.heap.size ≤ g1 := by omega
  go_enter Try.func49, Try.ntmps49
  go_wp2_with (at_make; go_loud (refine wpList_mk rfl (.tmp 20) (.tmp 20) _ rfl rfl rfl (own_mk slI64 (C := cInt) (base := w.heap.size) (fun _ => False) d2.length (by omega) (Nat.le_refl _) 0 (fun _ _ => ⟨rfl, by omega, by omega⟩) _ _) ?_); rintro w2 ⟨hown, hg⟩; have HO2 := hid hown; have HB2 := hid ((Below.refl w.heap.size w).grown hg (Nat.le_refl _) (by simp)); clear hown hg)
  rw [← hg1] at HO2 ⊢
  have gz2 : g1 < w2.heap.size := (own_lt HO2.out g1 rfl).2
  clear hg1
  have HFL : Hid (OwnSl cInt (fun _ => False) w2 w.heap.size 2 (.slice (some ⟨g1, 0, none⟩) d2.length d2.length) ((List.replicate d2.length (-1)).take 0 ++ List.replicate (d2.length - 0) 0)) := by
    unfold Hid; have h9 := own_base HO2.out hw0; simpa using h9
  go_loopw [6] (fun i wr => ∃ k : Nat, k ≤ d2.length ∧ i = .int .i64 k ∧ Hid (OwnSl cInt (fun _ => False) wr w.heap.size 2 (.slice (some ⟨g1, 0, none⟩) d2.length d2.length) ((List.replicate d2.length (-1)).take k ++ List.replicate (d2.length - k) 0)) ∧ Hid (Below w.heap.size w wr) ∧ g1 < wr.heap.size) (fun i _ => d2.length - (intOf i).toNat)
  case atStart => exact ⟨0, Nat.zero_le _, rfl, HFL, HB2, gz2⟩
  case round =>
    obtain ⟨k, hk, rfl, HO, HB, hgz⟩ := hrel
    by_cases hlt : k < d2.length
    · obtain ⟨z, hz, hz64, hcz, hfz, _, _⟩ := own_at_int HO.out (fill_len (by simp) hk) k hlt
      have hset := own_set_int HO.out (fill_len (by simp) hk) k hlt (-1) ⟨by omega, by omega⟩
      rw [fill_set (by simp) hlt (by rw [List.getElem?_replicate, if_pos hlt])] at hset
      have HOS := hid hset.1
      have HBS := hid (HB.out.setCell (p := ⟨g1, k, none⟩) hw0 (.int .i64 (-1)))
      have hgs : g1 < (wr.setCell ⟨g1, k, none⟩ (.int .i64 (-1))).heap.size := by rw [size_set]; exact hgz
      have i0 : (0 : Int) ≤ (k : Int) := by omega
      have i1 : (k : Int) < (d2.length : Int) := by omega
      clear hset hz
      go_wp2
      go_roundw
      case rel => exact ⟨k + 1, by omega, by go_num, HOS, HBS, hgs⟩
      case measure => simp [intOf]; omega
    · have hke : k = d2.length := by omega
      subst hke
      have hO := HO.out
      rw [fill_end (by simp) (Nat.le_refl _)] at hO
      obtain ⟨z0, hz0, _, hc0, hf0, _, _⟩ := own_at_int hO (by simp) 0 (by omega)
      have hset := own_set_int hO (by simp) 0 (by omega) 0 ⟨by omega, by omega⟩
      have HO0 := hid hset.1
      have HB0 := hid (HB.out.setCell (p := ⟨g1, 0, none⟩) hw0 (.int .i64 0))
      have hl0 : 0 < d2.length := by omega
      have hs0 : (wr.setCell ⟨g1, 0, none⟩ (.int .i64 0)).heap.size = wr.heap.size := size_set _ _ _
      have HI0 := hid (HInv.begin (code := d2) (by omega))
      have HP0 := hid (PInv.begin d3 d2.length)
      have hm0 : negs ((List.replicate d2.length (-1)).set 0 0) + [(0 : Int)].length = d2.length := by
        have h2 := negs_set (out := List.replicate d2.length (-1 : Int)) (k := 0) (v := -1) (x := 0) (by rw [List.getElem?_replicate, if_pos (by omega)]) (by omega) (by omega)
        have h1 : negs (List.replicate d2.length (-1 : Int)) = d2.length := by unfold negs; rw [List.countP_replicate]; simp
        simp only [List.length_singleton]; omega
      clear hset hO hz0 HO HB hlt hk
      go_wp2
      have HQ0 : Hid (OwnQ ((wr.setCell ⟨g1, 0, none⟩ (.int .i64 0)).alloc (.cells #[.int .i64 0] 2)) (fun b => g1 < b) (.slice (some ⟨(wr.setCell ⟨g1, 0, none⟩ (.int .i64 0)).heap.size, 0, none⟩) 1 1) [0]) := ownQ_lit (by show g1 < _; rw [hs0]; exact hgz) ⟨by omega, by omega⟩
      have HO1 := hid (own_alloc HO0.out (.cells #[.int .i64 0] 2))
      have HB1' := hid (HB0.out.alloc HB0.out.size (.cells #[.int .i64 0] 2))
      have gz1 : g1 < ((wr.setCell ⟨g1, 0, none⟩ (.int .i64 0)).alloc (.cells #[.int .i64 0] 2)).heap.size := by rw [World.size_alloc, hs0]; omega
      rw [hs0] at HQ0
      generalize (wr.setCell ⟨g1, 0, none⟩ (.int .i64 0)).alloc (.cells #[.int .i64 0] 2) = W1 at *
      clear hf0 hs0 HO0 HB0 hc0 HFL HO2 HB2 gz2 hgz
      go_loopw [7, 8] (fun v i wq => ∃ (m : Nat) (out W : List Int) (k0 : Nat), i = .int .i64 m ∧ m ≤ W.length ∧ negs out + W.length = d2.length ∧ Hid (HInv d2 out (W.drop m) k0 []) ∧ Hid (PInv d3 out (W.drop m)) ∧ Hid (OwnQ wq (fun b => g1 < b) v W) ∧ Hid (OwnSl cInt (fun _ => False) wq w.heap.size 2 (.slice (some ⟨g1, 0, none⟩) d2.length d2.length) out) ∧ Hid (Below w.heap.size w wq) ∧ g1 < wq.heap.size) (fun _ i _ => 81 - (intOf i).toNat)
      case atStart => exact ⟨0, _, [0], 0, rfl, by simp, hm0, HI0, HP0, HQ0, HO1, HB1', gz1⟩
      case round =>
        obtain ⟨m, out, W, k0, rfl, hmW, hms, HI, HP, HQ, HO, HB, hg⟩ := hrel
        have HOL := hid HI.out.len
        have hW80 : W.length ≤ 80 := by omega
        by_cases hmlt : m < W.length
        · obtain ⟨t, hWm⟩ : ∃ t, W[m]? = some t := ⟨_, List.getElem?_eq_getElem hmlt⟩
          have hdr : W.drop m = t :: W.drop (m + 1) := by
            rw [List.drop_eq_getElem_cons hmlt]; congr 1
            rw [List.getElem?_eq_getElem hmlt] at hWm; exact Option.some.inj hWm
          have HI1 : Hid (HInv d2 out (t :: W.drop (m + 1)) k0 []) := by unfold Hid; rw [← hdr]; exact HI.out
          have HP1 : Hid (PInv d3 out (t :: W.drop (m + 1))) := by unfold Hid; rw [← hdr]; exact HP.out
          obtain ⟨ht0, htn, z, hh, hh0⟩ := HI1.out.workS t (by simp)
          obtain ⟨k, rfl⟩ := Int.eq_ofNat_of_zero_le ht0
          rw [Int.toNat_natCast] at hh
          have hkn : k < d2.length := by omega
          obtain ⟨hlo, hhi⟩ := HI1.out.lo k z hh
          obtain ⟨gq, off, cap, y, rfl, hy, hcq, hy64, hcap1, hcap2, hgq, hgq2⟩ := ownQ_at HQ.out m hmlt
          have hyk : y = (k : Int) := by rw [hWm] at hy; exact (Option.some.inj hy).symm
          subst hyk
          have HH := hid hh
          have e1 : decide ((m : Int) < (W.length : Int)) = true := decide_eq_true (by omega)
          have m0 : (0 : Int) ≤ (m : Int) := by omega
          have m1 : (m : Int) < (W.length : Int) := by omega
          have i0 : (0 : Int) ≤ (k : Int) := by omega
          have i1 : (k : Int) < (d2.length : Int) := by omega
          clear hy hWm hdr HI HP hh
          obtain ⟨P, hP⟩ : ∃ P, pointF d3 (k : Int) = P := ⟨_, rfl⟩
          have HPC : Hid (∀ wq, Below w.heap.size w wq → Calls Try.prog 62 #[.pointer (some ⟨g, 0, none⟩), .int .i64 k] wq fun e w' => e = .returned (.int .i64 P) ∧ Below wq.heap.size wq w') := fun wq hb => by
            rw [← hP]; exact c_l08Point (HA.out.on (hb.mono hNw)) _
          have HBADP : Hid ((0 ≤ P ∧ z ≠ 0) → annO d2 d3 = ([], false)) := by
            rintro ⟨q1, q2⟩
            rcases pointF_cases d3 (k : Int) with ⟨j, pp, e, hj, hpk⟩ | ⟨e, _⟩
            · exact annO_pt HVC.out (by omega) HI1.out HH.out (by omega) (List.mem_of_getElem? hj) hpk
            · omega
          have HP2 : Hid (¬ (0 ≤ P ∧ z ≠ 0) → PInv d3 out (W.drop (m + 1))) := by
            intro hn
            refine HP1.out.pop HH.out ?_
            rintro ⟨pp, hm9, hpk⟩
            rcases pointF_cases d3 (k : Int) with ⟨j, _, e, _, _⟩ | ⟨_, e⟩
            · by_cases h0 : z = 0
              · exact h0
              · exact absurd ⟨by omega, h0⟩ hn
            · exact absurd hpk (e pp hm9)
          obtain ⟨z9, hz9, hz64, hcz, hfz, _, _⟩ := own_at_int HO.out HOL.out k hkn
          have hzh : z9 = z := by rw [HH.out] at hz9; exact (Option.some.inj hz9).symm
          subst hzh
          clear hP hz9 HP1
          by_cases hbad : 0 ≤ P ∧ z9 ≠ 0
          · have HBAD := hid (HBADP.out hbad)
            have f1 : decide (0 ≤ P) = true := decide_eq_true hbad.1
            have f2 : (z9 != 0) = true := by simpa using hbad.2
            clear hbad
            go_wp2_with (go_at_call 62; refine (HPC.out _ HB.out).mono ?_; rintro e w3 ⟨rfl, hb3⟩; have cz3 := cell_below hb3 hg hcz; have HB3 := hid (bel_next HB.out HB.out.size hb3); clear hb3)
            go_ret2
            rw [HBAD.out]
            exact ⟨none, 0, rfl, nil_rd _ _ _, HB3.out⟩
          · have HPV := hid (HP2.out hbad)
            clear HP2 HBADP
            by_cases hP0 : 0 ≤ P
            · have f1 : decide (0 ≤ P) = true := decide_eq_true hP0
              have f2 : (z9 != 0) = false := by
                have : z9 = 0 := Classical.byContradiction fun h => hbad ⟨hP0, h⟩
                rw [this]; rfl
              clear hbad hP0
              go_wp2_with fail
              refine (HPC.out _ HB.out).mono ?_
              rintro e w3 ⟨rfl, hb3⟩
              have HB3 := hid (bel_next HB.out HB.out.size hb3)
              have HO3 := hid (own_below HO.out (Nat.le_refl _) hb3)
              have HQ3 := hid (ownQ_below HQ.out (Nat.le_refl _) hb3)
              have hg3 := Nat.lt_of_lt_of_le hg hb3.size
              have cz3 := cell_below hb3 hg hcz
              have HA3 := hid (HA.out.on (HB3.out.mono hNw))
              obtain ⟨b, o2, rfl⟩ := HA3.out.code.some_of hkn
              obtain ⟨op, arg, hzi, ho64, ha64, hco, hca, hbb⟩ := HA3.out.code.instr_at k hkn
              have c23 := HA3.out.c2
              have hop : opAt d2 k = op := opAt_at hzi
              obtain ⟨hp0, hp1⟩ := popsI_bd op
              obtain ⟨hu0, hu1⟩ := pushI_bd op
              have hw1 : IntKind.i64.wrap (z9 - popsI op) = z9 - popsI op := wrap_in _ (by omega) (by omega)
              have hw2 : IntKind.i64.wrap (z9 - popsI op + pushI op) = z9 - popsI op + pushI op := wrap_in _ (by omega) (by omega)
              have HNX : Hid (nxt d2 k z9 = z9 - popsI op + pushI op) := by unfold Hid nxt; rw [hop]
              have HOK : Hid (okAt d2 k z9 ↔ (0 ≤ z9 - popsI op ∧ z9 - popsI op + pushI op ≤ 6)) := by unfold Hid okAt nxt; rw [hop]
              clear hb3 hzi hop hcz hfz HQ HO HB hg hcq hgq hgq2
              by_cases hok : 0 ≤ z9 - popsI op ∧ z9 - popsI op + pushI op ≤ 6
              · obtain ⟨hk1, hk2⟩ := hok
                have d1 : decide (z9 < popsI op) = false := decide_eq_false (by omega)
                have d2' : decide (6 < z9 - popsI op + pushI op) = false := decide_eq_false (by omega)
                have HOKT : Hid (okAt d2 k z9) := HOK.out.2 ⟨hk1, hk2⟩
                have HI2 := hid (HI1.out.pop HH.out HOKT.out)
                go_wp2_with (go_at_call 112; refine (c_l08Effect _ _).mono ?_; rintro e w' ⟨rfl, rfl⟩)
                refine (c_l08Next HA3.out hkn hx80).mono ?_
                rintro r w4 ⟨a4, p4, rfl, hs4, hb4⟩
                obtain ⟨B1, hB1⟩ : ∃ B, B = w3.heap.size := ⟨_, rfl⟩
                obtain ⟨B2, hB2⟩ : ∃ B, B = w4.heap.size := ⟨_, rfl⟩
                have hB12 : B1 ≤ B2 := by rw [hB1, hB2]; exact hb4.size
                have hg1B : g1 < B1 := by rw [hB1]; exact hg3
                have HT4 := hid (hs4.keep (S' := fun b => B1 ≤ b ∧ b < B2) (w' := w4) fun b hb hl => ⟨⟨by rw [hB1]; exact hb.1, by rw [hB2]; exact hl⟩, rfl⟩)
                have HQ4 := hid (ownQ_mono (ownQ_below (ownQ_mono HQ3.out (B2 := fun b => g1 < b ∧ b < B1) fun b h1 h2 => ⟨h1, by rw [hB1]; exact h2⟩) (Nat.le_refl _) hb4) (B2 := fun b => (g1 < b ∧ b < B1) ∨ B2 ≤ b) fun b h _ => .inl h)
                have HO4 := hid (own_below HO3.out (Nat.le_refl _) hb4)
                have HB4 := hid (bel_next HB3.out HB3.out.size hb4)
                have hg4 := Nat.lt_of_lt_of_le hg3 hb4.size
                have hB24 : B2 ≤ w4.heap.size := Nat.le_of_eq hB2
                have hTT := fun t => nextL_mem (code := d2) (k := k) (t := t)
                have hTl := nextL_len d2 k
                have HI4 : Hid (HInv d2 out (W.drop (m + 1)) k (nextL d2 k)) := HI2.out.sameT fun t => (hTT t).symm
                obtain ⟨T, hT⟩ : ∃ T, nextL d2 k = T := ⟨_, rfl⟩
                rw [hT] at HT4 HI4 hTl hTT ⊢
                have HTT := hid hTT
                have hTn : ∀ x ∈ T, (0 : Int) ≤ x := fun x hx => (targF_nonneg HV.out ((hTT x).1 hx)).1
                have HTN := hid hTn
                have wn1 : IntKind.i64.wrap ((d2.length : Int) - 1) = (d2.length : Int) - 1 := wrap_in _ (by omega) (by omega)
                clear hs4 hb4 hB1 hB2 hT hTT hTn HO3 HQ3 HB3 hg3 cz3 hco hca hbb c23 HI2 HI1 HA3
                go_wp2
                go_loopw [7, 14] (fun v i wq => ∃ (j : Nat) (o2' W' : List Int), i = .int .i64 j ∧ j ≤ T.length ∧ m + 1 ≤ W'.length ∧ negs o2' + W'.length = d2.length ∧ Hid (HInv d2 o2' (W'.drop (m + 1)) k (T.drop j)) ∧ Hid (PInv d3 o2' (W'.drop (m + 1))) ∧ Hid (o2'[k]? = some z9) ∧ Hid (OwnQ wq (fun b => (g1 < b ∧ b < B1) ∨ B2 ≤ b) v W') ∧ Hid (OwnSl cInt (fun _ => False) wq w.heap.size 2 (.slice (some ⟨g1, 0, none⟩) d2.length d2.length) o2') ∧ Hid (SlRd cInt (fun b => B1 ≤ b ∧ b < B2) wq a4 p4 T) ∧ Hid (Below w.heap.size w wq) ∧ g1 < wq.heap.size ∧ B2 ≤ wq.heap.size) (fun _ i _ => T.length - (intOf i).toNat)
                case atStart => exact ⟨0, _, W, rfl, Nat.zero_le _, by omega, hms, HI4, HPV, HH, HQ4, HO4, HT4, HB4, hg4, hB24⟩
                case round =>
                  obtain ⟨j, o3, W3, rfl, hj, hmW3, hms3, HI3, HP3, HH3, HQ3, HO3, HT3, HB3, hg3, hB3⟩ := hrel
                  have hW3 : W3.length ≤ 80 := by omega
                  by_cases hjl : j < T.length
                  · obtain ⟨ba, oa, rfl⟩ := HT3.out.some_of hjl
                    obtain ⟨t, ht, ht64', hct, hbt⟩ := HT3.out.int_at j hjl
                    have htm := List.mem_of_getElem? ht
                    have htT : t ∈ targF d2 k := (HTT.out t).1 htm
                    have hdr : T.drop j = t :: T.drop (j + 1) := by
                      rw [List.drop_eq_getElem_cons hjl]; congr 1
                      rw [List.getElem?_eq_getElem hjl] at ht; exact Option.some.inj ht
                    have HI5 : Hid (HInv d2 o3 (W3.drop (m + 1)) k (t :: T.drop (j + 1))) := by unfold Hid; rw [← hdr]; exact HI3.out
                    have ht0' := HTN.out t htm
                    have HTM := hid htT
                    have j0 : (0 : Int) ≤ (j : Int) := by omega
                    have j1 : (j : Int) < (T.length : Int) := by omega
                    have HO3L := hid HI3.out.len
                    clear ht htm htT hdr HI3
                    by_cases htn' : t < (d2.length : Int)
                    · obtain ⟨q, rfl⟩ := Int.eq_ofNat_of_zero_le ht0'
                      have hqn : q < d2.length := by omega
                      have HIX : Hid (inB (q : Int) 0 ((d2.length : Int) - 1) = true) := inB_iff.2 (by omega)
                      have q0 : (0 : Int) ≤ (q : Int) := by omega
                      have q1 : (q : Int) < (d2.length : Int) := by omega
                      obtain ⟨y, hy, hy64, hcy, hfy, _, _⟩ := own_at_int HO3.out HO3L.out q hqn
                      have HY := hid hy
                      clear hy
                      by_cases hyn : y < 0
                      · have y1 : decide (0 ≤ y) = false := decide_eq_false (by omega)
                        have y2 : decide (y < 0) = true := decide_eq_true hyn
                        have hnn := nxt_nonneg HOKT.out
                        have hn64 : I64 (z9 - popsI op + pushI op) := ⟨by omega, by omega⟩
                        have hset := own_set_int HO3.out HO3L.out q hqn (z9 - popsI op + pushI op) hn64
                        have hdA : (W3 ++ [(q : Int)]).drop (m + 1) = W3.drop (m + 1) ++ [(q : Int)] := List.drop_append_of_le_length (by omega)
                        have HIN : Hid (HInv d2 (o3.set q (z9 - popsI op + pushI op)) ((W3 ++ [(q : Int)]).drop (m + 1)) k (T.drop (j + 1))) := by
                          have h9 := HI5.out.put hkn HH3.out hh0 HOKT.out HTM.out (by omega) (by omega) (v := y) (by rw [Int.toNat_natCast]; exact HY.out) hyn
                          rw [Int.toNat_natCast, HNX.out] at h9; unfold Hid; rw [hdA]; exact h9
                        have HPP : Hid (PInv d3 (o3.set q (z9 - popsI op + pushI op)) ((W3 ++ [(q : Int)]).drop (m + 1))) := by
                          unfold Hid; rw [hdA]; exact HP3.out.put HY.out hyn
                        have HMN : Hid (negs (o3.set q (z9 - popsI op + pushI op)) + (W3 ++ [(q : Int)]).length = d2.length) := by
                          have h9 := negs_set (out := o3) (k := q) (x := z9 - popsI op + pushI op) HY.out hyn (by omega)
                          unfold Hid; rw [List.length_append]; simp only [List.length_singleton]; omega
                        have HKK : Hid ((o3.set q (z9 - popsI op + pushI op))[k]? = some z9) := by
                          have hne : q ≠ k := fun e => by have h9 := HY.out; rw [e, HH3.out] at h9; cases h9; omega
                          unfold Hid; rw [List.getElem?_set_ne hne]; exact HH3.out
                        have HWL : Hid (m + 1 ≤ (W3 ++ [(q : Int)]).length) := by unfold Hid; rw [List.length_append]; omega
                        have HOS := hid (own_alloc hset.1 (.cells #[.int .i64 q] 2))
                        have HBS := hid ((HB3.out.setCell (p := ⟨g1, q, none⟩) hw0 (.int .i64 (z9 - popsI op + pushI op))).alloc (by rw [size_set]; exact HB3.out.size) (.cells #[.int .i64 q] 2))
                        have HTS := hid ((HT3.out.set_ne (p := ⟨g1, q, none⟩) (fun b hb => by have h9 := hb.1; show b ≠ g1; omega) (.int .i64 (z9 - popsI op + pushI op))).alloc (.cells #[.int .i64 q] 2))
                        have HQS := hid (ownQ_below (ownQ_keep (w' := wr.setCell ⟨g1, q, none⟩ (.int .i64 (z9 - popsI op + pushI op))) HQ3.out fun b hb _ => heap_setCell_ne _ _ _ (by show b ≠ g1; omega)) (Nat.le_refl _) ((Below.refl _ _).alloc (Nat.le_refl _) (.cells #[.int .i64 q] 2)))
                        have hs1 : (wr.setCell ⟨g1, q, none⟩ (.int .i64 (z9 - popsI op + pushI op))).heap.size = wr.heap.size := size_set _ _ _
                        have HSZ := hid hs1
                        have HLT : Hid (SlRd cInt (Fresh 0 ((wr.setCell ⟨g1, q, none⟩ (.int .i64 (z9 - popsI op + pushI op))).alloc (.cells #[.int .i64 q] 2))) ((wr.setCell ⟨g1, q, none⟩ (.int .i64 (z9 - popsI op + pushI op))).alloc (.cells #[.int .i64 q] 2)) (some ⟨wr.heap.size, 0, none⟩) 1 [(q : Int)]) := rd_one (by have h9 := heap_new (wr.setCell ⟨g1, q, none⟩ (.int .i64 (z9 - popsI op + pushI op))) (.cells #[.int .i64 q] 2); rw [hs1] at h9; exact h9) (Nat.zero_le _) (by omega) (by omega) ht64'
                        have hct2 : (wr.setCell ⟨g1, q, none⟩ (.int .i64 (z9 - popsI op + pushI op))).cell? ⟨ba, oa + j, none⟩ = some (.int .i64 q) := by
                          rw [show (wr.setCell ⟨g1, q, none⟩ (.int .i64 (z9 - popsI op + pushI op))).cell? ⟨ba, oa + j, none⟩ = wr.cell? ⟨ba, oa + j, none⟩ from cell_set_other _ _ _ (by have h9 := HT3.out.blk_at j hjl; show ba ≠ g1; omega)]; exact hct
                        clear hset hs1 hnn hdA
                        go_wp2_with (first | (go_at_call 68; refine (c_l00In _ _ _ _).mono ?_; rintro e w' ⟨rfl, rfl⟩; rw [HIX.out]) | (at_builtin; refine app_q (bs := [(q : Int)]) rfl (.tmp 137) (.tmp 142) _ rfl slI64 rfl rfl HQS.out HLT.out (by simp; omega) (fun b hb => .inr (by rw [World.size_alloc, HSZ.out] at hb; omega)) ?_; intro v5 w5 hQ5 hb5; have HQ5 := hid hQ5; have HO5 := hid (own_keep (w' := w5) HOS.out (fun _ h _ => h) fun b hl hs => hb5.block b hl (by rcases hs with hs | hs; exact hs.elim; have h7 : b = g1 := (Option.some.inj hs); omega)); have HT5 := hid (HTS.out.keep (w' := w5) fun b hb hl => ⟨hb, hb5.block b hl (by have := hb.1; have := hb.2; omega)⟩); have HB5 := hid (HBS.out.trans (hb5.below (fun b h => by omega) (by rw [World.size_alloc, HSZ.out]; omega))); have hg5 : wr.heap.size < w5.heap.size := (by have h9 := hb5.size; rw [World.size_alloc, HSZ.out] at h9; omega); clear hQ5 hb5))
                        go_roundw
                        case rel => exact ⟨j + 1, _, _, by go_num, by omega, HWL.out, HMN.out, HIN, HPP, HKK, HQ5, HO5, HT5, HB5, by omega, by omega⟩
                        case measure => simp [intOf]; omega
                      · have y1 : decide (0 ≤ y) = true := decide_eq_true (by omega)
                        have y2 : decide (y < 0) = false := decide_eq_false hyn
                        by_cases hyx : y = z9 - popsI op + pushI op
                        · have y3 : (y != z9 - popsI op + pushI op) = false := by rw [hyx]; simp
                          have HIN : Hid (HInv d2 o3 (W3.drop (m + 1)) k (T.drop (j + 1))) := HI5.out.seen HH3.out hh0 (by omega) (by omega) (by rw [Int.toNat_natCast, HNX.out, ← hyx]; exact HY.out)
                          clear hyx
                          go_wp2_with (go_at_call 68; refine (c_l00In _ _ _ _).mono ?_; rintro e w' ⟨rfl, rfl⟩; rw [HIX.out])
                          go_roundw
                          case rel => exact ⟨j + 1, _, _, by go_num, by omega, hmW3, hms3, HIN, HP3, HH3, HQ3, HO3, HT3, HB3, hg3, hB3⟩
                          case measure => simp [intOf]; omega
                        · have y3 : (y != z9 - popsI op + pushI op) = true := by simpa using hyx
                          have HBAD : Hid (annO d2 d3 = ([], false)) := annO_no (heights_no HVC.out (by omega) (bad_two HI5.out HH3.out hh0 hkn HOKT.out HTM.out (by omega) (v := y) (by rw [Int.toNat_natCast]; exact HY.out) (by omega) (by rw [HNX.out]; exact hyx)))
                          clear hyx
                          go_wp2_with (go_at_call 68; refine (c_l00In _ _ _ _).mono ?_; rintro e w' ⟨rfl, rfl⟩; rw [HIX.out])
                          go_ret2
                          rw [HBAD.out]
                          exact ⟨none, 0, rfl, nil_rd _ _ _, HB3.out⟩
                    · have HBAD : Hid (annO d2 d3 = ([], false)) := annO_no (heights_no HVC.out (by omega) (bad_to HI5.out HH3.out hh0 hkn HOKT.out HTM.out (by omega)))
                      have HIX : Hid (inB t 0 ((d2.length : Int) - 1) = false) := by
                        unfold Hid; cases h9 : inB t 0 ((d2.length : Int) - 1) with
                        | false => rfl
                        | true => have := inB_iff.1 h9; omega
                      go_wp2_with (go_at_call 68; refine (c_l00In _ _ _ _).mono ?_; rintro e w' ⟨rfl, rfl⟩; rw [HIX.out])
                      go_ret2
                      rw [HBAD.out]
                      exact ⟨none, 0, rfl, nil_rd _ _ _, HB3.out⟩
                  · have HIN : Hid (HInv d2 o3 (W3.drop (m + 1)) k []) := by
                      have h9 := HI3.out
                      have e0 : T.drop j = [] := List.drop_of_length_le (by omega)
                      rw [e0] at h9; exact h9
                    have HQN := hid (ownQ_mono HQ3.out (B2 := fun b => g1 < b) fun b h _ => by omega)
                    have e9 : decide ((j : Int) < (T.length : Int)) = false := decide_eq_false (by omega)
                    go_wp2
                    go_roundw
                    case measure => simp [intOf]; omega
                    case rel => exact ⟨m + 1, _, _, k, by go_num, hmW3, hms3, HIN, HP3, HQN, HO3, HB3, hg3⟩
              · have HBAD : Hid (annO d2 d3 = ([], false)) := annO_no (heights_no HVC.out (by omega) (bad_of HI1.out HH.out hh0 hkn fun ho => hok (HOK.out.1 ho)))
                by_cases hk1 : z9 - popsI op < 0
                · have d1 : decide (z9 < popsI op) = true := decide_eq_true (by omega)
                  go_wp2_with (go_at_call 112; refine (c_l08Effect _ _).mono ?_; rintro e w' ⟨rfl, rfl⟩)
                  go_ret2
                  rw [HBAD.out]
                  exact ⟨none, 0, rfl, nil_rd _ _ _, HB3.out⟩
                · have d1 : decide (z9 < popsI op) = false := decide_eq_false (by omega)
                  have d2' : decide (6 < z9 - popsI op + pushI op) = true := decide_eq_true (by omega)
                  go_wp2_with (go_at_call 112; refine (c_l08Effect _ _).mono ?_; rintro e w' ⟨rfl, rfl⟩)
                  go_ret2
                  rw [HBAD.out]
                  exact ⟨none, 0, rfl, nil_rd _ _ _, HB3.out⟩
            · have f1 : decide (0 ≤ P) = false := decide_eq_false hP0
              clear hbad hP0
              go_wp2_with fail
              refine (HPC.out _ HB.out).mono ?_
              rintro e w3 ⟨rfl, hb3⟩
              have HB3 := hid (bel_next HB.out HB.out.size hb3)
              have HO3 := hid (own_below HO.out (Nat.le_refl _) hb3)
              have HQ3 := hid (ownQ_below HQ.out (Nat.le_refl _) hb3)
              have hg3 := Nat.lt_of_lt_of_le hg hb3.size
              have cz3 := cell_below hb3 hg hcz
              have HA3 := hid (HA.out.on (HB3.out.mono hNw))
              obtain ⟨b, o2, rfl⟩ := HA3.out.code.some_of hkn
              obtain ⟨op, arg, hzi, ho64, ha64, hco, hca, hbb⟩ := HA3.out.code.instr_at k hkn
              have c23 := HA3.out.c2
              have hop : opAt d2 k = op := opAt_at hzi
              obtain ⟨hp0, hp1⟩ := popsI_bd op
              obtain ⟨hu0, hu1⟩ := pushI_bd op
              have hw1 : IntKind.i64.wrap (z9 - popsI op) = z9 - popsI op := wrap_in _ (by omega) (by omega)
              have hw2 : IntKind.i64.wrap (z9 - popsI op + pushI op) = z9 - popsI op + pushI op := wrap_in _ (by omega) (by omega)
              have HNX : Hid (nxt d2 k z9 = z9 - popsI op + pushI op) := by unfold Hid nxt; rw [hop]
              have HOK : Hid (okAt d2 k z9 ↔ (0 ≤ z9 - popsI op ∧ z9 - popsI op + pushI op ≤ 6)) := by unfold Hid okAt nxt; rw [hop]
              clear hb3 hzi hop hcz hfz HQ HO HB hg hcq hgq hgq2
              by_cases hok : 0 ≤ z9 - popsI op ∧ z9 - popsI op + pushI op ≤ 6
              · obtain ⟨hk1, hk2⟩ := hok
                have d1 : decide (z9 < popsI op) = false := decide_eq_false (by omega)
                have d2' : decide (6 < z9 - popsI op + pushI op) = false := decide_eq_false (by omega)
                have HOKT : Hid (okAt d2 k z9) := HOK.out.2 ⟨hk1, hk2⟩
                have HI2 := hid (HI1.out.pop HH.out HOKT.out)
                go_wp2_with (go_at_call 112; refine (c_l08Effect _ _).mono ?_; rintro e w' ⟨rfl, rfl⟩)
                refine (c_l08Next HA3.out hkn hx80).mono ?_
                rintro r w4 ⟨a4, p4, rfl, hs4, hb4⟩
                obtain ⟨B1, hB1⟩ : ∃ B, B = w3.heap.size := ⟨_, rfl⟩
                obtain ⟨B2, hB2⟩ : ∃ B, B = w4.heap.size := ⟨_, rfl⟩
                have hB12 : B1 ≤ B2 := by rw [hB1, hB2]; exact hb4.size
                have hg1B : g1 < B1 := by rw [hB1]; exact hg3
                have HT4 := hid (hs4.keep (S' := fun b => B1 ≤ b ∧ b < B2) (w' := w4) fun b hb hl => ⟨⟨by rw [hB1]; exact hb.1, by rw [hB2]; exact hl⟩, rfl⟩)
                have HQ4 := hid (ownQ_mono (ownQ_below (ownQ_mono HQ3.out (B2 := fun b => g1 < b ∧ b < B1) fun b h1 h2 => ⟨h1, by rw [hB1]; exact h2⟩) (Nat.le_refl _) hb4) (B2 := fun b => (g1 < b ∧ b < B1) ∨ B2 ≤ b) fun b h _ => .inl h)
                have HO4 := hid (own_below HO3.out (Nat.le_refl _) hb4)
                have HB4 := hid (bel_next HB3.out HB3.out.size hb4)
                have hg4 := Nat.lt_of_lt_of_le hg3 hb4.size
                have hB24 : B2 ≤ w4.heap.size := Nat.le_of_eq hB2
                have hTT := fun t => nextL_mem (code := d2) (k := k) (t := t)
                have hTl := nextL_len d2 k
                have HI4 : Hid (HInv d2 out (W.drop (m + 1)) k (nextL d2 k)) := HI2.out.sameT fun t => (hTT t).symm
                obtain ⟨T, hT⟩ : ∃ T, nextL d2 k = T := ⟨_, rfl⟩
                rw [hT] at HT4 HI4 hTl hTT ⊢
                have HTT := hid hTT
                have hTn : ∀ x ∈ T, (0 : Int) ≤ x := fun x hx => (targF_nonneg HV.out ((hTT x).1 hx)).1
                have HTN := hid hTn
                have wn1 : IntKind.i64.wrap ((d2.length : Int) - 1) = (d2.length : Int) - 1 := wrap_in _ (by omega) (by omega)
                clear hs4 hb4 hB1 hB2 hT hTT hTn HO3 HQ3 HB3 hg3 cz3 hco hca hbb c23 HI2 HI1 HA3
                go_wp2
                go_loopw [7, 14] (fun v i wq => ∃ (j : Nat) (o2' W' : List Int), i = .int .i64 j ∧ j ≤ T.length ∧ m + 1 ≤ W'.length ∧ negs o2' + W'.length = d2.length ∧ Hid (HInv d2 o2' (W'.drop (m + 1)) k (T.drop j)) ∧ Hid (PInv d3 o2' (W'.drop (m + 1))) ∧ Hid (o2'[k]? = some z9) ∧ Hid (OwnQ wq (fun b => (g1 < b ∧ b < B1) ∨ B2 ≤ b) v W') ∧ Hid (OwnSl cInt (fun _ => False) wq w.heap.size 2 (.slice (some ⟨g1, 0, none⟩) d2.length d2.length) o2') ∧ Hid (SlRd cInt (fun b => B1 ≤ b ∧ b < B2) wq a4 p4 T) ∧ Hid (Below w.heap.size w wq) ∧ g1 < wq.heap.size ∧ B2 ≤ wq.heap.size) (fun _ i _ => T.length - (intOf i).toNat)
                case atStart => exact ⟨0, _, W, rfl, Nat.zero_le _, by omega, hms, HI4, HPV, HH, HQ4, HO4, HT4, HB4, hg4, hB24⟩
                case round =>
                  obtain ⟨j, o3, W3, rfl, hj, hmW3, hms3, HI3, HP3, HH3, HQ3, HO3, HT3, HB3, hg3, hB3⟩ := hrel
                  have hW3 : W3.length ≤ 80 := by omega
                  by_cases hjl : j < T.length
                  · obtain ⟨ba, oa, rfl⟩ := HT3.out.some_of hjl
                    obtain ⟨t, ht, ht64', hct, hbt⟩ := HT3.out.int_at j hjl
                    have htm := List.mem_of_getElem? ht
                    have htT : t ∈ targF d2 k := (HTT.out t).1 htm
                    have hdr : T.drop j = t :: T.drop (j + 1) := by
                      rw [List.drop_eq_getElem_cons hjl]; congr 1
                      rw [List.getElem?_eq_getElem hjl] at ht; exact Option.some.inj ht
                    have HI5 : Hid (HInv d2 o3 (W3.drop (m + 1)) k (t :: T.drop (j + 1))) := by unfold Hid; rw [← hdr]; exact HI3.out
                    have ht0' := HTN.out t htm
                    have HTM := hid htT
                    have j0 : (0 : Int) ≤ (j : Int) := by omega
                    have j1 : (j : Int) < (T.length : Int) := by omega
                    have HO3L := hid HI3.out.len
                    clear ht htm htT hdr HI3
                    by_cases htn' : t < (d2.length : Int)
                    · obtain ⟨q, rfl⟩ := Int.eq_ofNat_of_zero_le ht0'
                      have hqn : q < d2.length := by omega
                      have HIX : Hid (inB (q : Int) 0 ((d2.length : Int) - 1) = true) := inB_iff.2 (by omega)
                      have q0 : (0 : Int) ≤ (q : Int) := by omega
                      have q1 : (q : Int) < (d2.length : Int) := by omega
                      obtain ⟨y, hy, hy64, hcy, hfy, _, _⟩ := own_at_int HO3.out HO3L.out q hqn
                      have HY := hid hy
                      clear hy
                      by_cases hyn : y < 0
                      · have y1 : decide (0 ≤ y) = false := decide_eq_false (by omega)
                        have y2 : decide (y < 0) = true := decide_eq_true hyn
                        have hnn := nxt_nonneg HOKT.out
                        have hn64 : I64 (z9 - popsI op + pushI op) := ⟨by omega, by omega⟩
                        have hset := own_set_int HO3.out HO3L.out q hqn (z9 - popsI op + pushI op) hn64
                        have hdA : (W3 ++ [(q : Int)]).drop (m + 1) = W3.drop (m + 1) ++ [(q : Int)] := List.drop_append_of_le_length (by omega)
                        have HIN : Hid (HInv d2 (o3.set q (z9 - popsI op + pushI op)) ((W3 ++ [(q : Int)]).drop (m + 1)) k (T.drop (j + 1))) := by
                          have h9 := HI5.out.put hkn HH3.out hh0 HOKT.out HTM.out (by omega) (by omega) (v := y) (by rw [Int.toNat_natCast]; exact HY.out) hyn
                          rw [Int.toNat_natCast, HNX.out] at h9; unfold Hid; rw [hdA]; exact h9
                        have HPP : Hid (PInv d3 (o3.set q (z9 - popsI op + pushI op)) ((W3 ++ [(q : Int)]).drop (m + 1))) := by
                          unfold Hid; rw [hdA]; exact HP3.out.put HY.out hyn
                        have HMN : Hid (negs (o3.set q (z9 - popsI op + pushI op)) + (W3 ++ [(q : Int)]).length = d2.length) := by
                          have h9 := negs_set (out := o3) (k := q) (x := z9 - popsI op + pushI op) HY.out hyn (by omega)
                          unfold Hid; rw [List.length_append]; simp only [List.length_singleton]; omega
                        have HKK : Hid ((o3.set q (z9 - popsI op + pushI op))[k]? = some z9) := by
                          have hne : q ≠ k := fun e => by have h9 := HY.out; rw [e, HH3.out] at h9; cases h9; omega
                          unfold Hid; rw [List.getElem?_set_ne hne]; exact HH3.out
                        have HWL : Hid (m + 1 ≤ (W3 ++ [(q : Int)]).length) := by unfold Hid; rw [List.length_append]; omega
                        have HOS := hid (own_alloc hset.1 (.cells #[.int .i64 q] 2))
                        have HBS := hid ((HB3.out.setCell (p := ⟨g1, q, none⟩) hw0 (.int .i64 (z9 - popsI op + pushI op))).alloc (by rw [size_set]; exact HB3.out.size) (.cells #[.int .i64 q] 2))
                        have HTS := hid ((HT3.out.set_ne (p := ⟨g1, q, none⟩) (fun b hb => by have h9 := hb.1; show b ≠ g1; omega) (.int .i64 (z9 - popsI op + pushI op))).alloc (.cells #[.int .i64 q] 2))
                        have HQS := hid (ownQ_below (ownQ_keep (w' := wr.setCell ⟨g1, q, none⟩ (.int .i64 (z9 - popsI op + pushI op))) HQ3.out fun b hb _ => heap_setCell_ne _ _ _ (by show b ≠ g1; omega)) (Nat.le_refl _) ((Below.refl _ _).alloc (Nat.le_refl _) (.cells #[.int .i64 q] 2)))
                        have hs1 : (wr.setCell ⟨g1, q, none⟩ (.int .i64 (z9 - popsI op + pushI op))).heap.size = wr.heap.size := size_set _ _ _
                        have HSZ := hid hs1
                        have HLT : Hid (SlRd cInt (Fresh 0 ((wr.setCell ⟨g1, q, none⟩ (.int .i64 (z9 - popsI op + pushI op))).alloc (.cells #[.int .i64 q] 2))) ((wr.setCell ⟨g1, q, none⟩ (.int .i64 (z9 - popsI op + pushI op))).alloc (.cells #[.int .i64 q] 2)) (some ⟨wr.heap.size, 0, none⟩) 1 [(q : Int)]) := rd_one (by have h9 := heap_new (wr.setCell ⟨g1, q, none⟩ (.int .i64 (z9 - popsI op + pushI op))) (.cells #[.int .i64 q] 2); rw [hs1] at h9; exact h9) (Nat.zero_le _) (by omega) (by omega) ht64'
                        have hct2 : (wr.setCell ⟨g1, q, none⟩ (.int .i64 (z9 - popsI op + pushI op))).cell? ⟨ba, oa + j, none⟩ = some (.int .i64 q) := by
                          rw [show (wr.setCell ⟨g1, q, none⟩ (.int .i64 (z9 - popsI op + pushI op))).cell? ⟨ba, oa + j, none⟩ = wr.cell? ⟨ba, oa + j, none⟩ from cell_set_other _ _ _ (by have h9 := HT3.out.blk_at j hjl; show ba ≠ g1; omega)]; exact hct
                        clear hset hs1 hnn hdA
                        go_wp2_with (first | (go_at_call 68; refine (c_l00In _ _ _ _).mono ?_; rintro e w' ⟨rfl, rfl⟩; rw [HIX.out]) | (at_builtin; refine app_q (bs := [(q : Int)]) rfl (.tmp 137) (.tmp 142) _ rfl slI64 rfl rfl HQS.out HLT.out (by simp; omega) (fun b hb => .inr (by rw [World.size_alloc, HSZ.out] at hb; omega)) ?_; intro v5 w5 hQ5 hb5; have HQ5 := hid hQ5; have HO5 := hid (own_keep (w' := w5) HOS.out (fun _ h _ => h) fun b hl hs => hb5.block b hl (by rcases hs with hs | hs; exact hs.elim; have h7 : b = g1 := (Option.some.inj hs); omega)); have HT5 := hid (HTS.out.keep (w' := w5) fun b hb hl => ⟨hb, hb5.block b hl (by have := hb.1; have := hb.2; omega)⟩); have HB5 := hid (HBS.out.trans (hb5.below (fun b h => by omega) (by rw [World.size_alloc, HSZ.out]; omega))); have hg5 : wr.heap.size < w5.heap.size := (by have h9 := hb5.size; rw [World.size_alloc, HSZ.out] at h9; omega); clear hQ5 hb5))
                        go_roundw
                        case rel => exact ⟨j + 1, _, _, by go_num, by omega, HWL.out, HMN.out, HIN, HPP, HKK, HQ5, HO5, HT5, HB5, by omega, by omega⟩
                        case measure => simp [intOf]; omega
                      · have y1 : decide (0 ≤ y) = true := decide_eq_true (by omega)
                        have y2 : decide (y < 0) = false := decide_eq_false hyn
                        by_cases hyx : y = z9 - popsI op + pushI op
                        · have y3 : (y != z9 - popsI op + pushI op) = false := by rw [hyx]; simp
                          have HIN : Hid (HInv d2 o3 (W3.drop (m + 1)) k (T.drop (j + 1))) := HI5.out.seen HH3.out hh0 (by omega) (by omega) (by rw [Int.toNat_natCast, HNX.out, ← hyx]; exact HY.out)
                          clear hyx
                          go_wp2_with (go_at_call 68; refine (c_l00In _ _ _ _).mono ?_; rintro e w' ⟨rfl, rfl⟩; rw [HIX.out])
                          go_roundw
                          case rel => exact ⟨j + 1, _, _, by go_num, by omega, hmW3, hms3, HIN, HP3, HH3, HQ3, HO3, HT3, HB3, hg3, hB3⟩
                          case measure => simp [intOf]; omega
                        · have y3 : (y != z9 - popsI op + pushI op) = true := by simpa using hyx
                          have HBAD : Hid (annO d2 d3 = ([], false)) := annO_no (heights_no HVC.out (by omega) (bad_two HI5.out HH3.out hh0 hkn HOKT.out HTM.out (by omega) (v := y) (by rw [Int.toNat_natCast]; exact HY.out) (by omega) (by rw [HNX.out]; exact hyx)))
                          clear hyx
                          go_wp2_with (go_at_call 68; refine (c_l00In _ _ _ _).mono ?_; rintro e w' ⟨rfl, rfl⟩; rw [HIX.out])
                          go_ret2
                          rw [HBAD.out]
                          exact ⟨none, 0, rfl, nil_rd _ _ _, HB3.out⟩
                    · have HBAD : Hid (annO d2 d3 = ([], false)) := annO_no (heights_no HVC.out (by omega) (bad_to HI5.out HH3.out hh0 hkn HOKT.out HTM.out (by omega)))
                      have HIX : Hid (inB t 0 ((d2.length : Int) - 1) = false) := by
                        unfold Hid; cases h9 : inB t 0 ((d2.length : Int) - 1) with
                        | false => rfl
                        | true => have := inB_iff.1 h9; omega
                      go_wp2_with (go_at_call 68; refine (c_l00In _ _ _ _).mono ?_; rintro e w' ⟨rfl, rfl⟩; rw [HIX.out])
                      go_ret2
                      rw [HBAD.out]
                      exact ⟨none, 0, rfl, nil_rd _ _ _, HB3.out⟩
                  · have HIN : Hid (HInv d2 o3 (W3.drop (m + 1)) k []) := by
                      have h9 := HI3.out
                      have e0 : T.drop j = [] := List.drop_of_length_le (by omega)
                      rw [e0] at h9; exact h9
                    have HQN := hid (ownQ_mono HQ3.out (B2 := fun b => g1 < b) fun b h _ => by omega)
                    have e9 : decide ((j : Int) < (T.length : Int)) = false := decide_eq_false (by omega)
                    go_wp2
                    go_roundw
                    case measure => simp [intOf]; omega
                    case rel => exact ⟨m + 1, _, _, k, by go_num, hmW3, hms3, HIN, HP3, HQN, HO3, HB3, hg3⟩
              · have HBAD : Hid (annO d2 d3 = ([], false)) := annO_no (heights_no HVC.out (by omega) (bad_of HI1.out HH.out hh0 hkn fun ho => hok (HOK.out.1 ho)))
                by_cases hk1 : z9 - popsI op < 0
                · have d1 : decide (z9 < popsI op) = true := decide_eq_true (by omega)
                  go_wp2_with (go_at_call 112; refine (c_l08Effect _ _).mono ?_; rintro e w' ⟨rfl, rfl⟩)
                  go_ret2
                  rw [HBAD.out]
                  exact ⟨none, 0, rfl, nil_rd _ _ _, HB3.out⟩
                · have d1 : decide (z9 < popsI op) = false := decide_eq_false (by omega)
                  have d2' : decide (6 < z9 - popsI op + pushI op) = true := decide_eq_true (by omega)
                  go_wp2_with (go_at_call 112; refine (c_l08Effect _ _).mono ?_; rintro e w' ⟨rfl, rfl⟩)
                  go_ret2
                  rw [HBAD.out]
                  exact ⟨none, 0, rfl, nil_rd _ _ _, HB3.out⟩
        · have HI9 : Hid (HInv d2 out [] k0 []) := by have h9 := HI.out; rw [List.drop_of_length_le (by omega)] at h9; exact h9
          have HP9 : Hid (PInv d3 out []) := by have h9 := HP.out; rw [List.drop_of_length_le (by omega)] at h9; exact h9
          have HF : Hid (annO d2 d3 = (out, true)) := annO_yes HVC.out (by omega) HPN.out HI9.out HP9.out
          have e1 : decide ((m : Int) < (W.length : Int)) = false := decide_eq_false (by omega)
          obtain ⟨gq, off, cap, rfl⟩ := ownQ_sl HQ.out
          obtain ⟨a5, p5, he, hs5⟩ := own_rd (own_keep (S' := Fresh w.heap.size wr) HO.out (fun _ h => h.elim) fun _ _ _ => rfl) (Nat.le_refl _)
          have HE := hid (And.intro he hs5)
          clear he hs5
          go_wp2
          go_ret2
          rw [HF.out]
          exact ⟨a5, p5, by rw [← HE.out.1]; rfl, HE.out.2, HB.out⟩
end Go.Proofs.Ytedmhdinfedhhaa
