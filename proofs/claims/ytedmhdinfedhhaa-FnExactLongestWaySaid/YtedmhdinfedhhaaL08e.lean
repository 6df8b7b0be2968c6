/- Contracts: the longest way without points. -/
import Derived.Test.YtedmhdinfedhhaaL08d
import Derived.Test.YtedmhdinfedhhaaL08q
import Derived.Test.YtedmhdinfedhhaaL07r
import Derived.Laws.EntriesVeiled
namespace Go.Proofs.Ytedmhdinfedhhaa
open Go.RowKit

set_option maxHeartbeats 8000000 in
set_option maxRecDepth 100000 in
theorem c_LongestWay {S : Nat → Prop} {a0 : Option Addr} {p0 : Nat} {d0 : List Term} {a1 : Option Addr} {p1 : Nat} {d1 : List Term} {a2 : Option Addr} {p2 : Nat} {d2 : List Instr} {a3 : Option Addr} {p3 : Nat} {d3 : List Pt} {w : World} (h0 : SlRd cTerm S w a0 p0 d0) (h1 : SlRd cTerm S w a1 p1 d1) (h2 : SlRd cInstr S w a2 p2 d2) (h3 : SlRd cPoint S w a3 p3 d3) :
    Calls Try.prog 22 #[.agg #[.slice a0 d0.length p0, .slice a1 d1.length p1, .slice a2 d2.length p2, .slice a3 d3.length p3]] w fun e w' => e = .returned (.tuple #[.int .i64 (longF (d0, d1, d2, d3)).1, .bool (longF (d0, d1, d2, d3)).2]) ∧ Below w.heap.size w w' := by
  have HC := hid (c_HeightsOf (h0.alloc (.cells #[.slice a0 d0.length p0, .slice a1 d1.length p1, .slice a2 d2.length p2, .slice a3 d3.length p3] 35)) (h1.alloc _) (h2.alloc _) (h3.alloc _))
  have HX : Hid (AnB (w.alloc (.cells #[.slice a0 d0.length p0, .slice a1 d1.length p1, .slice a2 d2.length p2, .slice a3 d3.length p3] 35)) w.heap.size a0 d0.length p0 a1 d1.length p1 a2 d2.length p2 a3 d3.length p3) := AnB.new _ _ _ _ _ _ _ _ _ _ _ _ _ _
  have H2 := hid ((h2.keep (S' := fun b => b < w.heap.size) (w' := w) fun b _ hl => ⟨hl, rfl⟩).alloc (.cells #[.slice a0 d0.length p0, .slice a1 d1.length p1, .slice a2 d2.length p2, .slice a3 d3.length p3] 35))
  have H3 := hid ((h3.keep (S' := fun b => b < w.heap.size) (w' := w) fun b _ hl => ⟨hl, rfl⟩).alloc (.cells #[.slice a0 d0.length p0, .slice a1 d1.length p1, .slice a2 d2.length p2, .slice a3 d3.length p3] 35))
  have HB : Hid (Below w.heap.size w (w.alloc (.cells #[.slice a0 d0.length p0, .slice a1 d1.length p1, .slice a2 d2.length p2, .slice a3 d3.length p3] 35))) := (Below.refl _ _).alloc (Nat.le_refl _) _
  have hs1 : (w.alloc (.cells #[.slice a0 d0.length p0, .slice a1 d1.length p1, .slice a2 d2.length p2, .slice a3 d3.length p3] 35)).heap.size = w.heap.size + 1 := by simp
  have x0 := HX.out.c0
  have x1 := HX.out.c1
  have x2 := HX.out.c2
  have x3 := HX.out.c3
  clear h0 h1 h2 h3
  obtain ⟨⟨o, ok⟩, ho⟩ : ∃ q, annH (d0, d1, d2, d3) = q := ⟨_, rfl⟩
  have HH := hid ho
  rw [ho] at HC
  clear ho
  go_enter Try.func22, Try.ntmps22
  go_wp2_with fail
  generalize w.alloc (.cells #[.slice a0 d0.length p0, .slice a1 d1.length p1, .slice a2 d2.length p2, .slice a3 d3.length p3] 35) = W0 at *
  refine HC.out.mono ?_
  rintro e w1 ⟨a5, p5, rfl, hs5, hb1⟩
  simp only
  have HX1 := hid (HX.out.below hb1)
  have H21 := hid (H2.out.below (Nat.le_refl _) hb1)
  have H31 := hid (H3.out.below (Nat.le_refl _) hb1)
  have HB1 := hid (bel_next HB.out HB.out.size hb1)
  have hz1 : w.heap.size < w1.heap.size := HX1.out.lt
  clear hb1 hs5 HC HX H2 H3 HB x0 x1 x2 x3 hs1
  cases ok
  · have HF : Hid (longF (d0, d1, d2, d3) = (0, false)) := by
      have h9 := HH.out
      unfold Hid longF
      unfold annH at h9
      split at h9
      · rw [if_pos (by assumption)]; unfold longO; simp only at h9 ⊢; rw [h9, if_neg (by simp)]
      · rw [if_neg (by assumption)]
    clear HH
    go_wp2
    go_ret2
    rw [HF.out]
    exact ⟨rfl, HB1.out⟩
  · have hv : validAn (d0, d1, d2, d3) = true := by
      have h9 := HH.out
      unfold annH at h9
      split at h9
      · assumption
      · cases h9
    have hAO : annO d2 d3 = (o, true) := by
      have h9 := HH.out
      unfold annH at h9
      rw [if_pos hv] at h9; exact h9
    have HF0 : Hid (longF (d0, d1, d2, d3) = if hitN d2 d3 d2.length = false then (longV d2 d3, true) else (0, false)) := by
      unfold Hid longF longO
      rw [if_pos hv]; simp only; rw [hAO]; simp
    obtain ⟨hvc, _⟩ := validAn_iff hv
    obtain ⟨hx1, hx80, _⟩ := validCode_iff hvc
    obtain ⟨k0, hInv⟩ := annO_inv (by omega) hAO
    have HI := hid hInv
    have HV := hid hvc
    have HRL := hid (reachB_inv (code := d2) (by omega)).len
    have HOL := hid (openBs_len d2 d3)
    clear hv hAO hvc hInv HH
    obtain ⟨IB, hIB⟩ : ∃ IB, reachB d2 = IB := ⟨_, rfl⟩
    obtain ⟨OB, hOB⟩ : ∃ OB, openBs d2 d3 = OB := ⟨_, rfl⟩
    have HIB := hid hIB
    have HOB := hid hOB
    have hq0 : w1.drew.heap.size = w1.heap.size := rfl
    have HXD : Hid (AnB (w1.drew.alloc (.cells #[.int .i64 0] 2)) w.heap.size a0 d0.length p0 a1 d1.length p1 a2 d2.length p2 a3 d3.length p3) := HX1.out.below ((below_drewN w1.heap.size w1 1).alloc (Nat.le_refl _) _)
    have H2D := hid ((H21.out.below (Nat.le_refl _) (below_drewN w1.heap.size w1 1)).alloc (.cells #[.int .i64 0] 2))
    have H3D := hid ((H31.out.below (Nat.le_refl _) (below_drewN w1.heap.size w1 1)).alloc (.cells #[.int .i64 0] 2))
    have HBD : Hid (Below w.heap.size w (w1.drew.alloc (.cells #[.int .i64 0] 2))) := HB1.out.trans (((below_drewN w1.heap.size w1 1).alloc (Nat.le_refl _) _).mono (by omega))
    have HCR := hid (c_reached (g0 := w1.heap.size) (w := w1.drew.alloc (.cells #[.int .i64 0] 2)) H2D.out (fun b hb => by omega) HV.out (by simp) (ownQ_lit (w := w1.drew) (.inl rfl) ⟨by omega, by omega⟩))
    rw [hIB] at HCR HRL
    have HCO : Hid (∀ (S2 : Nat → Prop) (w2 : World), SlRd cInstr S2 w2 a2 p2 d2 → SlRd cPoint S2 w2 a3 p3 d3 → Calls Try.prog 60 #[.agg #[.slice a0 d0.length p0, .slice a1 d1.length p1, .slice a2 d2.length p2, .slice a3 d3.length p3]] w2 (RetSl cBool OB w2)) := by
      intro S2 w2 g2 g3; rw [← hOB]; exact c_openLoops g2 g3 hx80
    rw [hOB] at HOL
    have kk0 := And.intro HXD.out.c0 (And.intro HXD.out.c1 (And.intro HXD.out.c2 HXD.out.c3))
    have y0 := HX1.out.c0
    have y1 := HX1.out.c1
    have y2 := HX1.out.c2
    have y3 := HX1.out.c3
    clear hIB hOB
    go_wp2_with fail
    go_region_held3 (fun w' => w'.cell? ⟨w.heap.size, 0, none⟩ = some (.slice a0 d0.length p0) ∧ w'.cell? ⟨w.heap.size, 1, none⟩ = some (.slice a1 d1.length p1) ∧ w'.cell? ⟨w.heap.size, 2, none⟩ = some (.slice a2 d2.length p2) ∧ w'.cell? ⟨w.heap.size, 3, none⟩ = some (.slice a3 d3.length p3)) (first | exact ⟨y0, y1, y2, y3⟩ | exact kk2 | exact kk1 | exact kk0) (first | (go_at_call 64; refine HCR.out.mono ?_; rintro e w2 ⟨a6, p6, rfl, hs6, hb6⟩; have HX6 := hid (HXD.out.on (by omega) hb6); have HS6 := hid hs6; have H26 := hid (H2D.out.keep (S' := fun b => b < w.heap.size) (w' := w2) fun b hb hl => ⟨hb, hb6.block b (by omega)⟩); have H36 := hid (H3D.out.keep (S' := fun b => b < w.heap.size) (w' := w2) fun b hb hl => ⟨hb, hb6.block b (by omega)⟩); have HB6 := hid (HBD.out.trans (hb6.mono (by omega))); have hz6 : w1.heap.size < w2.heap.size := Nat.lt_of_lt_of_le (by simp) hb6.size; have kk1 := And.intro HX6.out.c0 (And.intro HX6.out.c1 (And.intro HX6.out.c2 HX6.out.c3)); clear hs6 hb6) | (go_at_call 60; refine (HCO.out _ _ H26.out H36.out).mono ?_; rintro e w3 ⟨a7, p7, rfl, hs7, hb7⟩; have HX7 := hid (HX6.out.below hb7); have HS7 := hid hs7; have HS67 := hid (HS6.out.fresh (Nat.le_refl _) (Nat.le_refl _) hb7); have H27 := hid (H26.out.below (Nat.le_refl _) hb7); have H37 := hid (H36.out.below (Nat.le_refl _) hb7); have HB7 := hid (bel_next HB6.out HB6.out.size hb7); have hz7 := Nat.lt_of_lt_of_le hz6 hb7.size; have kk2 := And.intro HX7.out.c0 (And.intro HX7.out.c1 (And.intro HX7.out.c2 HX7.out.c3)); clear hs7 hb7))
    have hIl : IB.length ≤ 80 := by rw [HRL.out]; exact hx80
    clear kk0 kk1 kk2 y0 y1 y2 y3 HX1 H21 H31 HB1 HXD H2D H3D HBD HCR HCO HX6 HS6 H26 H36 HB6
    go_wp2
    go_loop [28] (fun i => ∃ k : Nat, k ≤ IB.length ∧ i = .int .i64 k ∧ Hid (hitN d2 d3 k = false)) (fun i => IB.length - (intOf i).toNat)
    case atStart => exact ⟨0, Nat.zero_le _, rfl, rfl⟩
    case round =>
      obtain ⟨k, hk, rfl, HN⟩ := hrel
      by_cases hlt : k < IB.length
      · have hlo : k < OB.length := by rw [HOL.out, ← HRL.out]; exact hlt
        obtain ⟨b6, off6, rfl⟩ := HS67.out.some_of hlt
        obtain ⟨b7, off7, rfl⟩ := HS7.out.some_of hlo
        obtain ⟨z, hz, hcz, hbz⟩ := HS67.out.bool_at k hlt
        obtain ⟨y, hy, hcy, hby⟩ := HS7.out.bool_at k hlo
        have HHB : Hid (hitB d2 d3 k = (z && y)) := by
          unfold Hid hitB
          rw [HIB.out, List.getD_eq_getElem?_getD, hz]
          have h9 := openBs_at (code := d2) (ps := d3) (i := k) (by rw [← HRL.out]; exact hlt)
          rw [HOB.out, hy] at h9
          rw [Option.some.inj h9]; rfl
        have i0 : (0 : Int) ≤ (k : Int) := by omega
        have i1 : (k : Int) < (IB.length : Int) := by omega
        have i2 : (k : Int) < (OB.length : Int) := by omega
        have hkn : k < d2.length := by rw [← HRL.out]; exact hlt
        have HNX : Hid (hitN d2 d3 (k + 1) = (hitN d2 d3 k || hitB d2 d3 k)) := hitN_succ d2 d3 k
        have HHA : Hid (hitB d2 d3 k = true → hitN d2 d3 d2.length = true) := fun h => hitN_at h hkn
        clear hz hy hkn
        cases z
        · have HN2 : Hid (hitN d2 d3 (k + 1) = false) := by unfold Hid; rw [HNX.out, HN.out, HHB.out]; rfl
          go_wp2
          go_round
          case rel => exact ⟨k + 1, by omega, by go_num, HN2⟩
          case measure => simp [intOf]; omega
        · cases y
          · have HN2 : Hid (hitN d2 d3 (k + 1) = false) := by unfold Hid; rw [HNX.out, HN.out, HHB.out]; rfl
            go_wp2
            go_round
            case rel => exact ⟨k + 1, by omega, by go_num, HN2⟩
            case measure => simp [intOf]; omega
          · have HF : Hid (longF (d0, d1, d2, d3) = (0, false)) := by unfold Hid; rw [HF0.out, HHA.out (by rw [HHB.out]; rfl)]; simp
            go_wp2
            go_ret2
            rw [HF.out]
            exact ⟨rfl, HB7.out⟩
      · have hke : k = IB.length := by omega
        subst hke
        have HF : Hid (longF (d0, d1, d2, d3) = (longV d2 d3, true)) := by unfold Hid; rw [HF0.out, if_pos (by rw [← HRL.out]; exact HN.out)]
        have HAC : Hid (Acy d2.length (bareF d2 d3) (fun k => (reachB d2)[k]? = some true)) := acy_of HI.out (by omega) (by rw [← HRL.out]; exact HN.out)
        have y0 := HX7.out.c0
        have y1 := HX7.out.c1
        have y2 := HX7.out.c2
        have y3 := HX7.out.c3
        clear HF0 HN
        have hz17 : w.heap.size < w3.heap.size := HX7.out.lt
        obtain ⟨g1, hg1⟩ : ∃ g1, g1 = w3.heap.size := ⟨_, rfl⟩
        have hmf : ∀ (fn : Fn) (first cap : Array Value) (w : World), (Instr.makeFunc fn first cap).run Try.prog w = .ok (.func fn first cap) w := fun _ _ _ _ => rfl
        go_wp2_with (at_make; go_loud (refine wpList_mk rfl (.tmp 44) (.tmp 44) _ rfl rfl rfl (own_mk slI64 (C := cInt) (base := w3.heap.size) (fun _ => False) d2.length (by omega) (Nat.le_refl _) 0 (fun _ _ => ⟨rfl, by omega, by omega⟩) _ _) ?_); rintro w4 ⟨hown, hg⟩; have HO4 := hid hown; have HG4 := hid (show Below w3.heap.size w3 w4 from (Below.refl _ _).grown hg (Nat.le_refl _) (by simp)); clear hown hg; have cl : ((w4.alloc (.cells #[.slice (some ⟨w3.heap.size, 0, none⟩) d2.length d2.length] 28)).alloc (.cells #[.nilFunc] 103)).cell? ⟨w4.heap.size + 1, 0, none⟩ = some .nilFunc := cell_of (heap_new2 _ _ _) rfl; have fl : ((w4.alloc (.cells #[.slice (some ⟨w3.heap.size, 0, none⟩) d2.length d2.length] 28)).alloc (.cells #[.nilFunc] 103)).frozen? ⟨w4.heap.size + 1, 0, none⟩ = false := frz_of (heap_new2 _ _ _) 0)
        have hgl4 : w3.heap.size < w4.heap.size := (own_lt HO4.out w3.heap.size rfl).2
        have HSZ6 : Hid (((w4.alloc (.cells #[.slice (some ⟨w3.heap.size, 0, none⟩) d2.length d2.length] 28)).alloc (.cells #[.func (.func 65) #[] #[.pointer (some ⟨w4.heap.size, 0, none⟩), .pointer (some ⟨w.heap.size, 0, none⟩), .pointer (some ⟨w4.heap.size + 1, 0, none⟩)]] 103)).heap.size = w4.heap.size + 2) := by unfold Hid; simp
        have HCK6 : Hid (((w4.alloc (.cells #[.slice (some ⟨w3.heap.size, 0, none⟩) d2.length d2.length] 28)).alloc (.cells #[.func (.func 65) #[] #[.pointer (some ⟨w4.heap.size, 0, none⟩), .pointer (some ⟨w.heap.size, 0, none⟩), .pointer (some ⟨w4.heap.size + 1, 0, none⟩)]] 103)).cell? ⟨w4.heap.size, 0, none⟩ = some (.slice (some ⟨w3.heap.size, 0, none⟩) d2.length d2.length)) := by
          have h9 : (w4.alloc (.cells #[.slice (some ⟨w3.heap.size, 0, none⟩) d2.length d2.length] 28)).cell? ⟨w4.heap.size, 0, none⟩ = some (.slice (some ⟨w3.heap.size, 0, none⟩) d2.length d2.length) := cell_of (heap_new _ _) rfl
          exact cell_below ((Below.refl _ _).alloc (Nat.le_refl _) _) (by simp) h9
        have HCL6 : Hid (((w4.alloc (.cells #[.slice (some ⟨w3.heap.size, 0, none⟩) d2.length d2.length] 28)).alloc (.cells #[.func (.func 65) #[] #[.pointer (some ⟨w4.heap.size, 0, none⟩), .pointer (some ⟨w.heap.size, 0, none⟩), .pointer (some ⟨w4.heap.size + 1, 0, none⟩)]] 103)).cell? ⟨w4.heap.size + 1, 0, none⟩ = some (.func (.func 65) #[] #[.pointer (some ⟨w4.heap.size, 0, none⟩), .pointer (some ⟨w.heap.size, 0, none⟩), .pointer (some ⟨w4.heap.size + 1, 0, none⟩)])) := cell_of (heap_new2 _ _ _) rfl
        have HB5 : Hid (Below w4.heap.size w4 ((w4.alloc (.cells #[.slice (some ⟨w3.heap.size, 0, none⟩) d2.length d2.length] 28)).alloc (.cells #[.func (.func 65) #[] #[.pointer (some ⟨w4.heap.size, 0, none⟩), .pointer (some ⟨w.heap.size, 0, none⟩), .pointer (some ⟨w4.heap.size + 1, 0, none⟩)]] 103))) := ((Below.refl _ _).alloc (Nat.le_refl _) _).alloc (by simp) _
        have HO6 := hid (own_below HO4.out (Nat.le_refl _) HB5.out)
        have HG6 := hid (HG4.out.trans (HB5.out.mono (by omega)))
        clear hmf cl fl
        generalize ((w4.alloc (.cells #[.slice (some ⟨w3.heap.size, 0, none⟩) d2.length d2.length] 28)).alloc (.cells #[.func (.func 65) #[] #[.pointer (some ⟨w4.heap.size, 0, none⟩), .pointer (some ⟨w.heap.size, 0, none⟩), .pointer (some ⟨w4.heap.size + 1, 0, none⟩)]] 103)) = W6 at *
        have HLG : Hid (LgS W6 w4.heap.size w.heap.size (w4.heap.size + 1) w3.heap.size a0 d0.length p0 a1 d1.length p1 a2 p2 d2 a3 p3 d3 (List.replicate d2.length 0)) :=
          ⟨HX7.out.on hz17 HG6.out, H27.out.keep fun b hb hl => ⟨by omega, HG6.out.block b (by omega)⟩, H37.out.keep fun b hb hl => ⟨by omega, HG6.out.block b (by omega)⟩, HCK6.out, HCL6.out,
            by rw [HSZ6.out]; omega, by rw [HSZ6.out]; omega, by omega, by omega, by omega, HO6.out, by simp, fun j v hj => by rw [List.getElem?_replicate] at hj; split at hj <;> simp at hj; exact .inl hj.symm⟩
        have HIS : Hid (SlRd cBool (fun b => b < w3.heap.size) W6 a6 p6 IB) := HS67.out.keep fun b _ hl => ⟨hl, HG6.out.block b (by omega)⟩
        have HB9 := hid (HB7.out.trans (HG6.out.mono (by omega)))
        clear HX7 HS7 HS67 H27 H37 HB7 HO4 HG4 HB5 HG6 HO6 HCK6 HCL6 HSZ6 y0 y1 y2 y3
        obtain ⟨g, hg⟩ : ∃ g, g = lw d2.length (bareF d2 d3) := ⟨_, rfl⟩
        have HLV : Hid (longV d2 d3 = mx (idxL IB) g) := by unfold Hid longV; rw [HIB.out, hg]
        have HGL : Hid (∀ t, 0 ≤ g t ∧ g t ≤ d2.length + 1) := fun t => by rw [hg]; exact lw_le _ _ t
        have HG := hid hg
        clear hg
        go_loopw [11, 49] (fun m i wr => ∃ (k : Nat) (KN : List Int), k ≤ IB.length ∧ i = .int .i64 k ∧ m = .int .i64 (mx (idxK IB k) g) ∧ Hid (LgS wr w4.heap.size w.heap.size (w4.heap.size + 1) w3.heap.size a0 d0.length p0 a1 d1.length p1 a2 p2 d2 a3 p3 d3 KN) ∧ Hid (SlRd cBool (fun b => b < w3.heap.size) wr a6 p6 IB) ∧ Hid (Below w.heap.size w wr)) (fun _ i _ => IB.length - (intOf i).toNat)
        case atStart => exact ⟨0, _, Nat.zero_le _, rfl, rfl, HLG, HIS, HB9⟩
        case round =>
          obtain ⟨k, KN, hk, rfl, rfl, HLR, HSR, HBR⟩ := hrel
          by_cases hlt : k < IB.length
          · obtain ⟨b6, off6, rfl⟩ := HSR.out.some_of hlt
            obtain ⟨z, hz, hcz, hbz⟩ := HSR.out.bool_at k hlt
            have HKS := hid (idxK_succ hz)
            have HZ := hid hz
            have i0 : (0 : Int) ≤ (k : Int) := by omega
            have i1 : (k : Int) < (IB.length : Int) := by omega
            have hkn : k < d2.length := by rw [← HRL.out]; exact hlt
            clear hz
            cases z
            · have HN : Hid (idxK IB (k + 1) = idxK IB k) := by unfold Hid; rw [HKS.out]; simp
              go_wp2
              go_roundw
              case rel => exact ⟨k + 1, KN, by omega, by go_num, by rw [HN.out], HLR, HSR, HBR⟩
              case measure => simp [intOf]; omega
            · have HN : Hid (mx (idxK IB (k + 1)) g = max (mx (idxK IB k) g) (g k)) := by unfold Hid; rw [HKS.out, if_pos rfl]; exact mx_snoc _ _ _
              have hgk := (HGL.out k).2
              have HCL := hid (c_longest HAC.out hx80 (d2.length + 1) k KN wr (by rw [HIB.out]; exact HZ.out) hkn (by have h9 := lw_le d2.length (bareF d2 d3) k; omega) HLR.out)
              rw [← HG.out] at HCL
              have bl := HLR.out.bl
              go_wp2_with (go_at_call 65; refine HCL.out.mono ?_; rintro e w8 ⟨rfl, ⟨KN8, hL8⟩, hk8⟩; have HL8 := hid hL8; have HB8 := hid (HBR.out.trans (hk8.below (B := w.heap.size) (fun b h => by omega) HBR.out.size)); have HS8 := hid (HSR.out.keep (S' := fun b => b < w3.heap.size) (w' := w8) fun b hb hl => ⟨hb, hk8.block b hl (by omega)⟩); clear hL8 hk8)
              go_roundw
              case rel => exact ⟨k + 1, KN8, by omega, by go_num, by rw [HN.out], HL8, HS8, HB8⟩
              case measure => simp [intOf]; omega
          · have hke : k = IB.length := by omega
            subst hke
            go_wp2
            go_ret2
            rw [HF.out]
            exact ⟨by rw [HLV.out]; rfl, HBR.out⟩
end Go.Proofs.Ytedmhdinfedhhaa
