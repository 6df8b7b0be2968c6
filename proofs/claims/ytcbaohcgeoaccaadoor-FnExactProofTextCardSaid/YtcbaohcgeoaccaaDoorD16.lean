/- Contracts: the text of a proof, the reference's side. -/
import Derived.Test.YtcbaohcgeoaccaaDoorD15
namespace Go.Proofs.YtcbaohcgeoaccaaDoor
open Go.RowKit

theorem jn_take {c : UInt8} {zs : List (List UInt8)} {k : Nat} {z : List UInt8} (h : zs[k]? = some z) : Lib.join (zs.take (k + 1)) [c] = if k = 0 then z else Lib.join (zs.take k) [c] ++ c :: z := by
  have hk := (List.getElem?_eq_some_iff.1 h).1
  rw [List.take_add_one, h]
  by_cases h0 : k = 0
  · subst h0; rw [if_pos rfl]; simp [Lib.join_one]
  · rw [if_neg h0]
    exact jn_snoc c _ z (by intro e; have := congrArg List.length e; rw [List.length_take, List.length_nil] at this; omega)
set_option maxHeartbeats 2000000 in
set_option maxRecDepth 100000 in
theorem c_l05Text {S : Nat → Prop} {a : Option Addr} {p : Nat} {ps : List Nd} {w : World} (h : SlRd cNode S w a p ps) (hv : isProofF ps = true) :
    Calls Tryd.prog 93 #[.slice a ps.length p] w fun e w' => e = .returned (strOf (proofT ps)) ∧ Below w.heap.size w w' := by
  obtain ⟨hn1, hn60, hnd⟩ := proof_nodes hv
  have H := hid h
  have HND := hid hnd
  clear h hnd hv
  go_enter Tryd.func93, Tryd.ntmps93
  go_wp2
  go_loopw [3, 4] (fun u i wr => ∃ (k : Nat) (l : List UInt8), k ≤ ps.length ∧ i = .int .i64 k ∧ u = .string ⟨l.toArray⟩ ∧ l.length ≤ 442 * k ∧ Hid (l = Lib.join ((ps.map nodeT).take k) [47]) ∧ Hid (Below w.heap.size w wr)) (fun _ i _ => ps.length - (intOf i).toNat)
  case atStart => exact ⟨0, [], Nat.zero_le _, rfl, rfl, by simp, rfl, Below.refl _ _⟩
  case round =>
    obtain ⟨k, l, hk, rfl, rfl, hll, HL, HBR⟩ := hrel
    have hsz := HBR.out.size
    by_cases hlt : k < ps.length
    · obtain ⟨b, off, rfl⟩ := H.out.some_of hlt
      obtain ⟨d0, d1, d2, a3, p3, d3, a4, p4, d4, hz, hi0, hi1, hi2, hs3, hs4, hc0, hc1, hc2, hc3, hc4, hb⟩ := (H.out.below (Nat.le_refl _) HBR.out).nd_at k hlt
      have hok := HND.out _ (List.mem_of_getElem? hz)
      have hnl := nodeT_len hok (ints_i64 hs4) hi1
      have hmz : (ps.map nodeT)[k]? = some (nodeT (d0, d1, (d2, d3), d4)) := by rw [List.getElem?_map, hz]; rfl
      have HJ := hid (jn_take (c := 47) hmz)
      obtain ⟨NT, hNT⟩ : ∃ NT, nodeT (d0, d1, (d2, d3), d4) = NT := ⟨_, rfl⟩
      rw [hNT] at HJ hnl
      have i0 : (0 : Int) ≤ (k : Int) := by omega
      have i1 : (k : Int) < (ps.length : Int) := by omega
      obtain ⟨l2, hl2⟩ : ∃ l2, (if k = 0 then l else l ++ [47]) = l2 := ⟨_, rfl⟩
      have hl2l : l2.length ≤ 442 * k + 1 := by
        rw [← hl2]; split
        · omega
        · simp; omega
      have HN : Hid (l2 ++ NT = Lib.join ((ps.map nodeT).take (k + 1)) [47]) := by
        unfold Hid
        rw [HJ.out, ← hl2]
        by_cases h0 : k = 0
        · rw [if_pos h0, if_pos h0, HL.out, h0]; simp [Lib.join, List.intercalate]
        · rw [if_neg h0, if_neg h0, HL.out]; simp
      clear hz hmz HJ
      by_cases hk0 : k = 0
      all_goals
        first
          | (rw [if_pos hk0] at hl2; have hl3 := hl2.symm; subst hl3; have e0 : decide (0 < k) = false := decide_eq_false (by omega))
          | (rw [if_neg hk0] at hl2; have e0 : decide (0 < k) = true := decide_eq_true (by omega); have eb : (⟨l.toArray⟩ ++ ⟨#[47]⟩ : ByteArray) = ⟨l2.toArray⟩ := hl2 ▸ badd l [47]; clear hl2)
        clear hk0
        by_cases h1 : d0 = 1
        · have e1 : (d0 == 1) = true := by simpa using h1
          have h20 := nodeOk_one hok h1
          simp only at h20
          have hNT2 : NT = 99 :: listedF d4 := by rw [← hNT]; unfold nodeT; rw [if_pos h1]
          subst hNT2
          have HS4 := hid hs4
          have ec := badd l2 [99]
          obtain ⟨Y, hY⟩ : ∃ Y, l2 ++ [99] = Y := ⟨_, rfl⟩
          have hYl : Y.length ≤ 442 * k + 2 := by rw [← hY]; simp; omega
          have HN2 : Hid (Y ++ Lib.join (d4.map Lib.itoa) [44] = Lib.join ((ps.map nodeT).take (k + 1)) [47]) := by
            unfold Hid; rw [← HN.out, ← hY]; unfold listedF; simp
          rw [hY] at ec
          clear hs3 hs4 hNT h1 hok hnl HN hY hc1 hc2
          obtain ⟨wo, hwo⟩ : ∃ wo : World, wo = wr := ⟨_, rfl⟩
          subst hwo
          go_wp2
          go_loopw [3, 5] (fun u jj wq => ∃ (j : Nat) (v : List UInt8), j ≤ d4.length ∧ jj = .int .i64 j ∧ u = .string ⟨v.toArray⟩ ∧ v.length ≤ 442 * k + 2 + 22 * j ∧ Hid (v = Y ++ Lib.join ((d4.map Lib.itoa).take j) [44]) ∧ Hid (Below wo.heap.size wo wq)) (fun _ jj _ => d4.length - (intOf jj).toNat)
          case atStart => exact ⟨0, Y, Nat.zero_le _, rfl, rfl, by omega, by unfold Hid; simp [Lib.join, List.intercalate], Below.refl _ _⟩
          case round =>
            obtain ⟨j, v, hj, rfl, rfl, hvl, HV, HBQ⟩ := hrel
            have hszq := HBQ.out.size
            have hc4q := cell_below HBQ.out hb hc4
            by_cases hjt : j < d4.length
            · obtain ⟨b4, off4, rfl⟩ := HS4.out.some_of hjt
              obtain ⟨z, hz, hz64, hcz, hbz⟩ := (HS4.out.below (Nat.le_refl _) HBQ.out).int_at j hjt
              have hil := Lib.itoa_length_le z hz64.1 hz64.2
              have hmz : (d4.map Lib.itoa)[j]? = some (Lib.itoa z) := by rw [List.getElem?_map, hz]; rfl
              have HJ := hid (jn_take (c := 44) hmz)
              have HC := hid (c_l01Dec z wr hz64.1 hz64.2)
              obtain ⟨Z, hZ⟩ : ∃ Z, Lib.itoa z = Z := ⟨_, rfl⟩
              rw [hZ] at HJ HC hil
              obtain ⟨v2, hv2⟩ : ∃ v2, (if j = 0 then v else v ++ [44]) = v2 := ⟨_, rfl⟩
              have hv2l : v2.length ≤ 442 * k + 2 + 22 * j + 1 := by
                rw [← hv2]; split
                · omega
                · simp; omega
              have HNV : Hid (v2 ++ Z = Y ++ Lib.join ((d4.map Lib.itoa).take (j + 1)) [44]) := by
                unfold Hid
                rw [HJ.out, ← hv2]
                by_cases h0 : j = 0
                · rw [if_pos h0, if_pos h0, HV.out, h0]; simp [Lib.join, List.intercalate]
                · rw [if_neg h0, if_neg h0, HV.out]; simp
              have hvz : (v2 ++ Z).length ≤ 442 * k + 2 + 22 * (j + 1) := by
                have : v2.length ≤ 442 * k + 2 + 22 * j ∨ (1 ≤ j ∧ v2.length ≤ 442 * k + 2 + 22 * j + 1) := by
                  by_cases h0 : j = 0
                  · rw [if_pos h0] at hv2; left; rw [← hv2]; omega
                  · right; omega
                simp; omega
              have j0 : (0 : Int) ≤ (j : Int) := by omega
              have j1 : (j : Int) < (d4.length : Int) := by omega
              have e9 := badd v2 Z
              clear hz hmz hZ HJ
              by_cases hj0 : j = 0
              all_goals
                first
                  | (rw [if_pos hj0] at hv2; have hv3 := hv2.symm; subst hv3; have e8 : decide (0 < j) = false := decide_eq_false (by omega))
                  | (rw [if_neg hj0] at hv2; have e8 : decide (0 < j) = true := decide_eq_true (by omega); have ed : (⟨v.toArray⟩ ++ ⟨#[44]⟩ : ByteArray) = ⟨v2.toArray⟩ := hv2 ▸ badd v [44]; clear hv2)
                clear hj0
                go_wp2_with (go_at_call 61; refine HC.out.mono ?_; rintro e w2 ⟨rfl, hb2⟩; have HB2 := hid (HBQ.out.trans (hb2.mono hszq)); clear hb2; unfold strOf)
                go_roundw
                case rel => exact ⟨j + 1, v2 ++ Z, by omega, by go_num, rfl, hvz, HNV, HB2⟩
                case measure => simp [intOf]; omega
            · have hje : j = d4.length := by omega
              subst hje
              have j1 : decide ((d4.length : Int) < (d4.length : Int)) = false := by simp
              have HVV : Hid (v = Lib.join ((ps.map nodeT).take (k + 1)) [47]) := by
                unfold Hid
                rw [HV.out, ← HN2.out, List.take_of_length_le (by rw [List.length_map]; exact Nat.le_refl _)]
              have HB3 := hid (bel_next HBR.out hsz HBQ.out)
              go_wp2
              go_roundw
              case rel => exact ⟨k + 1, v, by omega, by go_num, rfl, by omega, HVV, HB3⟩
              case measure => simp [intOf]; omega
        · have e1 : (d0 == 1) = false := by simpa using h1
          by_cases h2 : d0 = 2
          · have e2 : (d0 == 2) = true := by simpa using h2
            have hvt := nodeOk_two hok h1 h2
            have htl := textF_len hvt
            have HC := hid (c_l02Text hc2 hc3 hb hs3 hvt)
            have hNT2 : NT = 115 :: textF (d2, d3) := by rw [← hNT]; unfold nodeT; rw [if_neg h1, if_pos h2]
            obtain ⟨Z, hZ⟩ : ∃ Z, textF (d2, d3) = Z := ⟨_, rfl⟩
            simp only at htl
            rw [hZ] at HC hNT2 htl
            subst hNT2
            have e3 := badd [115] Z
            have e4 := badd l2 (115 :: Z)
            have n1 : ¬ 9223372036854775807 < 1 + Z.length := by omega
            clear hs3 hs4 hNT hZ h1 h2 hok hvt
            go_wp2_with (go_at_call 73; refine HC.out.mono ?_; rintro e w2 ⟨rfl, hb2⟩; have HB2 := hid (bel_next HBR.out hsz hb2); clear hb2; unfold strOf)
            go_roundw
            case rel => exact ⟨k + 1, l2 ++ (115 :: Z), by omega, by go_num, rfl, by simp; omega, HN, HB2⟩
            case measure => simp [intOf]; omega
          · have e2 : (d0 == 2) = false := by simpa using h2
            have h3 := nodeOk_three hok h1 h2
            simp only at h3
            have e5 : (d0 == 3) = true := by simpa using h3
            have htl := Lib.itoa_length_le d1 hi1.1 hi1.2
            have HC := hid (c_l01Dec d1 wr hi1.1 hi1.2)
            have hNT2 : NT = 116 :: Lib.itoa d1 := by rw [← hNT]; unfold nodeT; rw [if_neg h1, if_neg h2]
            obtain ⟨Z, hZ⟩ : ∃ Z, Lib.itoa d1 = Z := ⟨_, rfl⟩
            rw [hZ] at HC hNT2 htl
            subst hNT2
            have e3 := badd [116] Z
            have e4 := badd l2 (116 :: Z)
            clear hs3 hs4 hNT hZ h1 h2 h3 hok
            go_wp2_with (go_at_call 61; refine HC.out.mono ?_; rintro e w2 ⟨rfl, hb2⟩; have HB2 := hid (bel_next HBR.out hsz hb2); clear hb2; unfold strOf)
            go_roundw
            case rel => exact ⟨k + 1, l2 ++ (116 :: Z), by omega, by go_num, rfl, by simp; omega, HN, HB2⟩
            case measure => simp [intOf]; omega
    · have HK : Hid ((ps.map nodeT).take k = ps.map nodeT) := List.take_of_length_le (by rw [List.length_map]; omega)
      have e1 : decide ((k : Int) < (ps.length : Int)) = false := decide_eq_false (by omega)
      have HF : Hid (proofT ps = l) := by unfold Hid proofT; rw [HL.out, HK.out]
      go_wp2
      go_ret
      rw [HF.out]
      exact ⟨rfl, HBR.out⟩
theorem c_sProofText {S : Nat → Prop} {a : Option Addr} {p : Nat} {ps : List Nd} {w : World} (h : SlRd cNode S w a p ps) :
    Calls Tryd.prog 45 #[.slice a ps.length p] w fun e w' => e = .returned (.tuple #[strOf (proofTextF ps).1, .bool (proofTextF ps).2]) ∧ Below w.heap.size w w' := by
  have H := hid h
  clear h
  obtain ⟨r, hr⟩ : ∃ r, isProofF ps = r := ⟨_, rfl⟩
  have HR := hid hr
  have HC := hid (c_l05Is H.out)
  rw [hr] at HC
  cases r
  · have HF : Hid (proofTextF ps = ([], false)) := by unfold Hid proofTextF; rw [if_neg (by simp [hr])]
    clear hr
    go_enter Tryd.func45, Tryd.ntmps45
    go_wp2_with (go_at_call 92; refine HC.out.mono ?_; rintro e w1 ⟨rfl, rfl⟩)
    go_ret2
    rw [HF.out]
    exact ⟨rfl, Below.refl _ _⟩
  · have HF : Hid (proofTextF ps = (proofT ps, true)) := by unfold Hid proofTextF; rw [if_pos hr]
    clear hr
    go_enter Tryd.func45, Tryd.ntmps45
    go_wp2_with (first | (go_at_call 92; refine HC.out.mono ?_; rintro e w1 ⟨rfl, rfl⟩) | (go_at_call 93; refine (c_l05Text H.out HR.out).mono ?_; rintro e w2 ⟨rfl, hb2⟩; have HB2 := hid hb2; clear hb2; unfold strOf))
    go_ret2
    rw [HF.out]
    exact ⟨rfl, HB2.out⟩
end Go.Proofs.YtcbaohcgeoaccaaDoor
