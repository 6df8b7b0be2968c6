/- Contracts: the longest way without points, the reference's side. -/
import Derived.Test.YtedmhdinfedhhaaL08c
import Derived.Test.YtedmhdinfedhhaaL08q
import Derived.Test.YtedmhdinfedhhaaL01d
namespace Go.Proofs.Ytedmhdinfedhhaa
open Go.RowKit

set_option maxHeartbeats 8000000 in
set_option maxRecDepth 100000 in
theorem c_sLongestWay {S : Nat → Prop} {a0 : Option Addr} {p0 : Nat} {d0 : List Term} {a1 : Option Addr} {p1 : Nat} {d1 : List Term} {a2 : Option Addr} {p2 : Nat} {d2 : List Instr} {a3 : Option Addr} {p3 : Nat} {d3 : List Pt} {w : World} (h0 : SlRd cTerm S w a0 p0 d0) (h1 : SlRd cTerm S w a1 p1 d1) (h2 : SlRd cInstr S w a2 p2 d2) (h3 : SlRd cPoint S w a3 p3 d3) :
    Calls Try.prog 21 #[.agg #[.slice a0 d0.length p0, .slice a1 d1.length p1, .slice a2 d2.length p2, .slice a3 d3.length p3]] w fun e w' => e = .returned (.tuple #[.int .i64 (longF (d0, d1, d2, d3)).1, .bool (longF (d0, d1, d2, d3)).2]) ∧ Below w.heap.size w w' := by
  have HC := hid (c_l08Is w.heap.size (h0.alloc (.cells #[.slice a0 d0.length p0, .slice a1 d1.length p1, .slice a2 d2.length p2, .slice a3 d3.length p3] 35)) (h1.alloc _) (h2.alloc _) (h3.alloc _) (by simp [go_sem]) (by simp [go_sem]) (by simp [go_sem]) (by simp [go_sem]))
  have HA : Hid (An2 (w.heap.size + 1) (w.alloc (.cells #[.slice a0 d0.length p0, .slice a1 d1.length p1, .slice a2 d2.length p2, .slice a3 d3.length p3] 35)) w.heap.size a2 p2 d2 a3 p3 d3) := An2.boxed h2 h3
  have HB : Hid (Below w.heap.size w (w.alloc (.cells #[.slice a0 d0.length p0, .slice a1 d1.length p1, .slice a2 d2.length p2, .slice a3 d3.length p3] 35))) := (Below.refl _ _).alloc (Nat.le_refl _) _
  have hs1 : (w.alloc (.cells #[.slice a0 d0.length p0, .slice a1 d1.length p1, .slice a2 d2.length p2, .slice a3 d3.length p3] 35)).heap.size = w.heap.size + 1 := by simp
  clear h0 h1 h2 h3
  obtain ⟨r, hr⟩ : ∃ r, validAn (d0, d1, d2, d3) = r := ⟨_, rfl⟩
  rw [hr] at HC
  cases r
  · have HF : Hid (longF (d0, d1, d2, d3) = (0, false)) := by unfold Hid longF; rw [hr]; rfl
    clear hr hs1
    go_enter Try.func21, Try.ntmps21
    go_wp2_with (go_at_call 48; refine HC.out.mono ?_; rintro e w1 ⟨rfl, hb1⟩; have HB1 := hid (bel_next HB.out HB.out.size hb1); clear hb1)
    go_ret2
    rw [HF.out]
    exact ⟨rfl, HB1.out⟩
  · have HF0 : Hid (longF (d0, d1, d2, d3) = longO d2 d3) := by unfold Hid longF; rw [hr]; rfl
    obtain ⟨hvc, _, _, _, hps⟩ := validAn_iff hr
    obtain ⟨hx1, hx80, _⟩ := validCode_iff hvc
    have HV := hid hvc
    have HPS := hid hps
    clear hr hvc hps
    go_enter Try.func21, Try.ntmps21
    go_wp2_with fail
    generalize w.alloc (.cells #[.slice a0 d0.length p0, .slice a1 d1.length p1, .slice a2 d2.length p2, .slice a3 d3.length p3] 35) = W0 at *
    refine HC.out.mono ?_
    rintro e w1 ⟨rfl, hb1⟩
    have HA1 := hid (HA.out.on (hb1.mono (Nat.le_of_eq hs1.symm)))
    have HB1 := hid (bel_next HB.out HB.out.size hb1)
    clear hb1 hs1 HA HC
    obtain ⟨⟨o, ok⟩, ho⟩ : ∃ q, annO d2 d3 = q := ⟨_, rfl⟩
    have HAO := hid ho
    have HH := hid (c_l08Heights HA1.out HV.out fun p hp => (HPS.out p hp).1.1)
    rw [ho] at HH
    clear ho
    go_wp2_with fail
    refine HH.out.mono ?_
    rintro e w2 ⟨a5, p5, rfl, hs5, hb5⟩
    simp only
    have hw1 : w.heap.size + 1 ≤ w1.heap.size := HA1.out.le
    have HS5 := hid hs5
    have HA2 := hid (HA1.out.on (hb5.mono hw1))
    have HB5 := hid (bel_next HB1.out HB1.out.size hb5)
    clear hs5 hb5 HH HA1 HB1
    cases ok
    · have HF : Hid (longF (d0, d1, d2, d3) = (0, false)) := by unfold Hid; rw [HF0.out]; unfold longO; rw [HAO.out, if_neg (by simp)]
      go_wp2
      go_ret2
      rw [HF.out]
      exact ⟨rfl, HB5.out⟩
    · have HF : Hid (longF (d0, d1, d2, d3) = if hitN d2 d3 d2.length = false then (longV d2 d3, true) else (0, false)) := by
        unfold Hid; rw [HF0.out]; unfold longO; rw [HAO.out]; simp
      obtain ⟨k0, hInv⟩ := annO_inv (by omega) HAO.out
      have HI := hid hInv
      have HOLN := hid hInv.len
      clear HF0 hInv HAO
      have HCO := hid (c_l08Open HA2.out HV.out)
      have hw2 : w.heap.size + 1 ≤ w2.heap.size := HA2.out.le
      go_wp2_with fail
      refine HCO.out.mono ?_
      rintro e w3 ⟨a6, p6, rfl, hs6, hb6⟩
      have HA3 := hid (HA2.out.on (hb6.mono hw2))
      have HS6 := hid hs6
      have HS53 := hid (HS5.out.below (Nat.le_refl _) hb6)
      have HB6 := hid (bel_next HB5.out HB5.out.size hb6)
      obtain ⟨L, hL⟩ : ∃ L, idxL (openBs d2 d3) = L := ⟨_, rfl⟩
      have HLM : Hid (∀ t ∈ L, 0 ≤ t ∧ (openBs d2 d3)[t.toNat]? = some true) := by unfold Hid; rw [← hL]; exact fun t ht => idxL_mem.1 ht
      have HHN : Hid ((∀ t ∈ L, hitB d2 d3 t.toNat = false) → hitN d2 d3 d2.length = false) := by unfold Hid; rw [← hL]; exact hit_none
      have HOBL := hid (openBs_len d2 d3)
      rw [hL] at HS6 ⊢
      have hLl := HS6.out.len_le
      have hol : o.length ≤ 80 := by rw [HOLN.out]; exact hx80
      clear hs6 hb6 HCO HA2 HS5 HB5 hL
      go_wp2
      go_loop [7] (fun i => ∃ k : Nat, k ≤ L.length ∧ i = .int .i64 k ∧ Hid (∀ t ∈ L.take k, hitB d2 d3 t.toNat = false)) (fun i => L.length - (intOf i).toNat)
      case atStart => exact ⟨0, Nat.zero_le _, rfl, by unfold Hid; simp⟩
      case round =>
        obtain ⟨k, hk, rfl, HN⟩ := hrel
        by_cases hlt : k < L.length
        · obtain ⟨b6, off6, rfl⟩ := HS6.out.some_of hlt
          obtain ⟨t, ht, ht64, hct, hbt⟩ := HS6.out.int_at k hlt
          obtain ⟨ht0, hto⟩ := HLM.out t (List.mem_of_getElem? ht)
          have htn : t.toNat < d2.length := by rw [← HOBL.out]; exact (List.getElem?_eq_some_iff.1 hto).1
          have hton : t.toNat < o.length := by rw [HOLN.out]; exact htn
          obtain ⟨q, rfl⟩ := Int.eq_ofNat_of_zero_le ht0
          rw [Int.toNat_natCast] at hto htn hton
          obtain ⟨b5, off5, rfl⟩ := HS53.out.some_of hton
          obtain ⟨v, hv, hv64, hcv, hbv⟩ := HS53.out.int_at q hton
          have HHB := hid (hit_of HI.out (by omega) hv hto)
          have HTK : Hid (L.take (k + 1) = L.take k ++ [(q : Int)]) := by unfold Hid; rw [List.take_add_one, ht]; rfl
          have i0 : (0 : Int) ≤ (k : Int) := by omega
          have i1 : (k : Int) < (L.length : Int) := by omega
          have j0 : (0 : Int) ≤ (q : Int) := by omega
          have j1 : (q : Int) < (o.length : Int) := by omega
          have HHA : Hid (hitB d2 d3 q = true → hitN d2 d3 d2.length = true) := fun h => hitN_at h htn
          clear ht hto hv htn
          by_cases hv0 : 0 ≤ v
          · have e1 : decide (0 ≤ v) = true := decide_eq_true hv0
            have HF2 : Hid (longF (d0, d1, d2, d3) = (0, false)) := by unfold Hid; rw [HF.out, HHA.out (by rw [HHB.out, e1])]; simp
            clear hv0
            go_wp2
            go_ret2
            rw [HF2.out]
            exact ⟨rfl, HB6.out⟩
          · have e1 : decide (0 ≤ v) = false := decide_eq_false hv0
            have HN2 : Hid (∀ t ∈ L.take (k + 1), hitB d2 d3 t.toNat = false) := by
              intro t ht
              rw [HTK.out] at ht
              rcases List.mem_append.1 ht with h | h
              · exact HN.out t h
              · simp at h; subst h; rw [Int.toNat_natCast, HHB.out, e1]
            clear hv0
            go_wp2
            go_round
            case rel => exact ⟨k + 1, by omega, by go_num, HN2⟩
            case measure => simp [intOf]; omega
        · have hke : k = L.length := by omega
          subst hke
          have hNO := HHN.out (fun t ht => HN.out t (by rw [List.take_length]; exact ht))
          have HF2 : Hid (longF (d0, d1, d2, d3) = (longV d2 d3, true)) := by unfold Hid; rw [HF.out, if_pos hNO]
          have HAC : Hid (Acy d2.length (bareF d2 d3) (fun k => (reachB d2)[k]? = some true)) := acy_of HI.out (by omega) hNO
          have HIL := hid (reachB_inv (code := d2) (by omega)).len
          have c2 := HA3.out.c2
          have hw3 : w.heap.size + 1 ≤ w3.heap.size := HA3.out.le
          obtain ⟨g1, hg1⟩ : ∃ g1, g1 = w3.heap.size := ⟨_, rfl⟩
          have hg13 : w3.heap.size ≤ g1 := Nat.le_of_eq hg1.symm
          have hg1N : w.heap.size + 1 ≤ g1 := by omega
          have hg31 : g1 ≤ w3.heap.size := Nat.le_of_eq hg1
          clear HF HN hNO HHN HLM
          go_wp2_with (at_make; go_loud (refine wpList_mk rfl (.tmp 40) (.tmp 40) _ rfl rfl rfl (own_mk slI64 (C := cInt) (base := w3.heap.size) (fun _ => False) d2.length (by omega) (Nat.le_refl _) 0 (fun _ _ => ⟨rfl, by omega, by omega⟩) _ _) ?_); rintro w4 ⟨hown, hg⟩; have HO4 := hid hown; have HG4 := hid (show Below w3.heap.size w3 w4 from (Below.refl _ _).grown hg (Nat.le_refl _) (by simp)); clear hown hg)
          rw [← hg1] at HO4 HG4 ⊢
          clear hg1
          have hgl4 : g1 < w4.heap.size := (own_lt HO4.out g1 rfl).2
          have HF40 := hid (FInv.begin d2.length (bareF d2 d3) (fun k => (reachB d2)[k]? = some true))
          have HS54 : Hid (SlRd cInt (fun b => b < g1) w4 a5 p5 o) := HS53.out.keep fun b _ hl => ⟨by omega, HG4.out.block b (by omega)⟩
          have HA4 := hid (HA3.out.on (HG4.out.mono hg1N))
          have HB4 := hid (HB6.out.trans (HG4.out.mono (by omega)))
          clear HA3 HS53 HS6 HB6 HG4 c2
          have HIA : Hid (∀ (i : Nat) (v : Int), o[i]? = some v → (0 ≤ v → (reachB d2)[i]? = some true) ∧ (v < 0 → ¬ (reachB d2)[i]? = some true)) := by
            intro i v hv
            have h9 := HI.out.reach_at (by omega) hv
            refine ⟨fun h => by rw [h9, decide_eq_true h], fun h => by rw [h9, decide_eq_false (by omega)]; simp⟩
          have HNX : Hid (∀ (i : Nat), (reachB d2)[i]? = some true → ∀ t ∈ nextL d2 i, (0 ≤ t ∧ t < (d2.length : Int)) ∧ (reachB d2)[t.toNat]? = some true) := by
            intro i hi t ht; exact HI.out.next (by omega) hi (nextL_mem.1 ht)
          go_loopw [9, 10] (fun bb rr wr => ∃ (r : Nat) (far : List Int) (best : Int), r ≤ d2.length + 1 ∧ rr = .int .i64 r ∧ bb = .int .i64 best ∧ Hid (FInv d2.length (bareF d2 d3) (fun k => (reachB d2)[k]? = some true) far best r 0) ∧ Hid (OwnSl cInt (fun _ => False) wr g1 2 (.slice (some ⟨g1, 0, none⟩) d2.length d2.length) far) ∧ Hid (Below g1 w4 wr) ∧ g1 < wr.heap.size) (fun _ rr _ => d2.length + 1 - (intOf rr).toNat)
          case atStart => exact ⟨0, _, 0, Nat.zero_le _, rfl, rfl, HF40, HO4, Below.refl _ _, hgl4⟩
          case round =>
            obtain ⟨r, far, best, hr, rfl, rfl, HFI, HO, HBR, hgz⟩ := hrel
            have c2 := (HA4.out.on (HBR.out.mono hg1N)).c2
            by_cases hrl : r < d2.length + 1
            · have e1 : decide (r ≤ d2.length) = true := decide_eq_true (by omega)
              obtain ⟨wo, hwo⟩ : ∃ wo : World, wo = wr := ⟨_, rfl⟩
              subst hwo
              go_wp2
              go_loopw [9, 11] (fun bb ii wq => ∃ (i : Nat) (far : List Int) (best : Int), i ≤ d2.length ∧ ii = .int .i64 i ∧ bb = .int .i64 best ∧ Hid (FInv d2.length (bareF d2 d3) (fun k => (reachB d2)[k]? = some true) far best r i) ∧ Hid (OwnSl cInt (fun _ => False) wq g1 2 (.slice (some ⟨g1, 0, none⟩) d2.length d2.length) far) ∧ Hid (Below g1 w4 wq) ∧ g1 < wq.heap.size) (fun _ ii _ => d2.length - (intOf ii).toNat)
              case atStart => exact ⟨0, far, best, Nat.zero_le _, rfl, rfl, HFI, HO, HBR, hgz⟩
              case round =>
                clear HFI HO HBR hgz c2
                obtain ⟨i, far, best, hi, rfl, rfl, HFI, HO, HBR, hgz⟩ := hrel
                have HAR := hid (HA4.out.on (HBR.out.mono hg1N))
                have c2 := HAR.out.c2
                have hb0 := HFI.out.b0
                by_cases hil : i < d2.length
                · have hio : i < o.length := by rw [HOLN.out]; exact hil
                  obtain ⟨b5, off5, rfl⟩ := HS54.out.some_of hio
                  obtain ⟨v, hv, hv64, hcv, hbv⟩ := (HS54.out.keep (S' := fun b => b < g1) (w' := wr) fun b hb hl => ⟨hb, HBR.out.block b hb⟩).int_at i hio
                  obtain ⟨hR, hnR⟩ := HIA.out i v hv
                  have i0 : (0 : Int) ≤ (i : Int) := by omega
                  have i1 : (i : Int) < (o.length : Int) := by omega
                  have i2 : (i : Int) < (d2.length : Int) := by omega
                  clear hv
                  by_cases hv0 : v < 0
                  · have e2 : decide (v < 0) = true := decide_eq_true hv0
                    have HFN := hid (HFI.out.skip (hnR hv0))
                    clear hR hnR hv0
                    go_wp2
                    go_roundw
                    case rel => exact ⟨i + 1, far, best, by omega, by go_num, rfl, HFN, HO, HBR, hgz⟩
                    case measure => simp [intOf]; omega
                  · have e2 : decide (v < 0) = false := decide_eq_false hv0
                    have HR := hid (hR (by omega))
                    have HNI := hid (HNX.out i HR.out)
                    have HNC := hid (c_l08Next HAR.out hil hx80)
                    have HNL := hid (nextL_len d2 i)
                    have HLW := hid (lw_le d2.length (bareF d2 d3) i)
                    have HPOS := hid (HAC.out.lw_pos HR.out)
                    clear hR hnR hv0
                    go_wp2_with fail
                    refine HNC.out.mono ?_
                    rintro e w5 ⟨a8, p8, rfl, hs8, hb8⟩
                    have HO5 := hid (own_below HO.out (Nat.le_refl _) hb8)
                    have HA5 := hid (HAR.out.on (hb8.mono HAR.out.le))
                    have HB5 := hid (HBR.out.trans (hb8.mono (by omega)))
                    have hgz5 := Nat.lt_of_lt_of_le hgz hb8.size
                    obtain ⟨T, hT⟩ : ∃ T, nextL d2 i = T := ⟨_, rfl⟩
                    have HT := hid hT
                    rw [hT] at HNI HNL ⊢
                    rw [hT] at hs8
                    have HS8 := hid (hs8.keep (S' := fun b => b < w5.heap.size) (w' := w5) fun b _ hl => ⟨hl, rfl⟩)
                    have hTl := HNL.out
                    clear hs8 hb8 hT HNC HO HAR HBR hgz c2 HNL
                    have HNB : Hid (∀ t ∈ T, noPt d3 t = true → t ∈ bareF d2 d3 i) := fun t ht hp => bareF_mem.2 ⟨by rw [HT.out]; exact ht, (HNI.out t ht).1, hp⟩
                    have hp1 := HPOS.out
                    obtain ⟨G, hG⟩ : ∃ G, lw d2.length (bareF d2 d3) = G := ⟨_, rfl⟩
                    have HLT : Hid (∀ t ∈ bareF d2 d3 i, G t < G i) := by unfold Hid; rw [← hG]; exact fun t ht => HAC.out.lw_lt HR.out ht
                    have hlw := HLW.out.2
                    have HHI : Hid (∀ (j : Nat) (v : Int), far[j]? = some v → (reachB d2)[j]? = some true → 0 ≤ v ∧ v ≤ G j) := by
                      intro j v hj hRj
                      rw [← hG]
                      exact ⟨Int.le_trans (lwF_le _ r j).1 (HFI.out.lo j v hj hRj).1, (HFI.out.hi j v hj).1 hRj⟩
                    have HFL := hid HFI.out.len
                    rw [hG] at hlw hp1
                    have HG := hid hG
                    clear hG HLW HPOS
                    obtain ⟨wo5, hwo5⟩ : ∃ wo : World, wo = w5 := ⟨_, rfl⟩
                    subst hwo5
                    go_wp2
                    go_loopw [12, 14] (fun mm jj wq => ∃ (j : Nat) (m : Int), j ≤ T.length ∧ jj = .int .i64 j ∧ mm = .int .i64 m ∧ 1 ≤ m ∧ m ≤ G i ∧ Hid (∀ t ∈ T.take j, noPt d3 t = true → 1 + far.getD t.toNat 0 ≤ m) ∧ Hid (Below wo5.heap.size wo5 wq)) (fun _ jj _ => T.length - (intOf jj).toNat)
                    case atStart => exact ⟨0, 1, Nat.zero_le _, rfl, rfl, by omega, by omega, by unfold Hid; simp, Below.refl _ _⟩
                    case round =>
                      obtain ⟨j, m, hj, rfl, rfl, hm1, hm2, HM, HBQ⟩ := hrel
                      have HAQ := hid (HA5.out.on (HBQ.out.mono HA5.out.le))
                      have HOQ := hid (own_below HO5.out (Nat.le_refl _) HBQ.out)
                      have hzq : g1 < wr.heap.size := Nat.lt_of_lt_of_le hgz5 HBQ.out.size
                      by_cases hjt : j < T.length
                      · obtain ⟨b8, off8, rfl⟩ := HS8.out.some_of hjt
                        obtain ⟨t, ht, ht64, hct, hbt⟩ := (HS8.out.keep (S' := fun _ => True) (w' := wr) fun b hb hl => ⟨trivial, HBQ.out.block b hb⟩).int_at j hjt
                        have htm := List.mem_of_getElem? ht
                        obtain ⟨⟨ht0, htn⟩, htR⟩ := HNI.out t htm
                        have HTK : Hid (T.take (j + 1) = T.take j ++ [t]) := by unfold Hid; rw [List.take_add_one, ht]; rfl
                        obtain ⟨q, rfl⟩ := Int.eq_ofNat_of_zero_le ht0
                        have hqn : q < d2.length := by omega
                        obtain ⟨f, hf, hf64, hcf, hff, hfl, hfb⟩ := own_at_int HOQ.out HFL.out q hqn
                        rw [Int.toNat_natCast] at htR
                        have hfb := HHI.out q f hf htR
                        have HTB := hid (HNB.out _ htm)
                        have HFD : Hid (far.getD q 0 = f) := by unfold Hid; rw [List.getD_eq_getElem?_getD, hf]; rfl
                        obtain ⟨P, hP⟩ : ∃ P, pointF d3 (q : Int) = P := ⟨_, rfl⟩
                        have HPC : Hid (Calls Try.prog 62 #[.pointer (some ⟨w.heap.size, 0, none⟩), .int .i64 q] wr fun e w' => e = .returned (.int .i64 P) ∧ Below wr.heap.size wr w') := by
                          unfold Hid; rw [← hP]; exact c_l08Point HAQ.out _
                        have HNP : Hid (noPt d3 (q : Int) = decide (P < 0)) := by unfold Hid noPt; rw [hP]
                        have j0 : (0 : Int) ≤ (j : Int) := by omega
                        have j1 : (j : Int) < (T.length : Int) := by omega
                        have q0 : (0 : Int) ≤ (q : Int) := by omega
                        have q1 : (q : Int) < (d2.length : Int) := by omega
                        clear ht htm htR hf hP
                        by_cases hP0 : P < 0
                        · have e3 : decide (P < 0) = true := decide_eq_true hP0
                          have hft : f < G i := by
                            have := HLT.out _ (HTB.out (by rw [HNP.out, e3])); omega
                          have hw9 : IntKind.i64.wrap (1 + f) = 1 + f := wrap_in _ (by omega) (by omega)
                          have HM2 : Hid (∀ t ∈ T.take (j + 1), noPt d3 t = true → 1 + far.getD t.toNat 0 ≤ max m (1 + f)) := by
                            intro t ht hp
                            rw [HTK.out] at ht
                            rcases List.mem_append.1 ht with h | h
                            · have := HM.out t h hp; omega
                            · simp at h; subst h; rw [Int.toNat_natCast, HFD.out]; omega
                          clear hP0
                          go_wp2_with (first | (go_at_call 62; refine HPC.out.mono ?_; rintro e w6 ⟨rfl, hb6⟩; have HB6 := hid (HBQ.out.trans (hb6.mono HBQ.out.size)); have hcf6 := cell_below hb6 hfl hcf; have hct6 := cell_below hb6 hbt hct; clear hb6) | (go_at_call 63; refine (c_l00Max _ _ _).mono ?_; rintro e w7 ⟨rfl, rfl⟩))
                          go_roundw
                          case rel => exact ⟨j + 1, max m (1 + f), by omega, by go_num, rfl, by omega, by omega, HM2, HB6⟩
                          case measure => simp [intOf]; omega
                        · have e3 : decide (P < 0) = false := decide_eq_false hP0
                          have HM2 : Hid (∀ t ∈ T.take (j + 1), noPt d3 t = true → 1 + far.getD t.toNat 0 ≤ m) := by
                            intro t ht hp
                            rw [HTK.out] at ht
                            rcases List.mem_append.1 ht with h | h
                            · exact HM.out t h hp
                            · simp at h; subst h; rw [HNP.out, e3] at hp; cases hp
                          clear hP0
                          go_wp2_with (go_at_call 62; refine HPC.out.mono ?_; rintro e w6 ⟨rfl, hb6⟩; have HB6 := hid (HBQ.out.trans (hb6.mono HBQ.out.size)); clear hb6)
                          go_roundw
                          case rel => exact ⟨j + 1, m, by omega, by go_num, rfl, hm1, hm2, HM2, HB6⟩
                          case measure => simp [intOf]; omega
                      · have hje : j = T.length := by omega
                        subst hje
                        have HFP : Hid (FInv d2.length (bareF d2 d3) (fun k => (reachB d2)[k]? = some true) (far.set i m) (max best m) r (i + 1)) := by
                          refine HFI.out.put HAC.out HR.out hm1 (fun t ht => ?_) (by rw [HG.out]; exact hm2)
                          obtain ⟨h1, h2, h3⟩ := bareF_mem.1 ht
                          exact HM.out t (by rw [List.take_length, ← HT.out]; exact h1) h3
                        have hset := own_set_int HOQ.out HFL.out i hil m ⟨by omega, by omega⟩
                        obtain ⟨z9, hz9, hz964, hc9, hf9, hl9, hb9⟩ := own_at_int HOQ.out HFL.out i hil
                        have HOS := hid hset.1
                        have HBS := hid ((HB5.out.trans (HBQ.out.mono (by omega))).setCell (p := ⟨g1, i, none⟩) (Nat.le_refl _) (.int .i64 m))
                        have hgs : g1 < (wr.setCell ⟨g1, i, none⟩ (.int .i64 m)).heap.size := by rw [size_set]; exact hzq
                        clear hset hz9
                        go_wp2_with (go_at_call 63; refine (c_l00Max _ _ _).mono ?_; rintro e w7 ⟨rfl, rfl⟩)
                        go_roundw
                        case rel => exact ⟨i + 1, far.set i m, max best m, by omega, by go_num, rfl, HFP, HOS, HBS, hgs⟩
                        case measure => simp [intOf]; omega
                · have hie : i = d2.length := by omega
                  subst hie
                  have HFN := hid HFI.out.round
                  go_wp2
                  go_roundw
                  case rel => exact ⟨r + 1, far, best, by omega, by go_num, rfl, HFN, HO, HBR, hgz⟩
                  case measure => simp [intOf]; omega
            · have hre : r = d2.length + 1 := by omega
              subst hre
              have e1 : decide (((d2.length + 1 : Nat) : Int) ≤ (d2.length : Int)) = false := decide_eq_false (by omega)
              have HBE := hid (HFI.out.done HIL.out HAC.out (Nat.le_refl _))
              go_wp2
              go_ret2
              rw [HF2.out, HBE.out]
              exact ⟨rfl, HB4.out.trans (HBR.out.mono (by omega))⟩
end Go.Proofs.Ytedmhdinfedhhaa
