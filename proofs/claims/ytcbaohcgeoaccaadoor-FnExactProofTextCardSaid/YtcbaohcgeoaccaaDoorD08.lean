/- Contracts: the text of a term, the reference's side. -/
import Derived.Test.YtcbaohcgeoaccaaDoorD01
import Derived.Test.YtcbaohcgeoaccaaDoorL02s
import Derived.Test.YtcbaohcgeoaccaaDoorRgH
namespace Go.Proofs.YtcbaohcgeoaccaaDoor
open Go.RowKit

def signF (n : Int) (l : List UInt8) : List UInt8 := if n < 0 then l ++ [45] else if l = [] then l else l ++ [43]
def pieceF (l : List UInt8) (n : Int) (nm : List UInt8) : List UInt8 := if n = 0 then l else (signF n l ++ (if n.natAbs = 1 ∧ nm ≠ [] then [] else Lib.itoa n.natAbs)) ++ nm
def partT (t : Term) : Nat → List UInt8
  | 0 => []
  | k + 1 => if k < t.2.length then pieceF (partT t k) (t.2[k]?.getD 0) [UInt8.ofNat (97 + k)] else pieceF (partT t k) t.1 []
def textF (t : Term) : List UInt8 := if partT t (t.2.length + 1) = [] then [48] else partT t (t.2.length + 1)
def termTextF (t : Term) : List UInt8 × Bool := if validTerm t then (textF t, true) else ([], false)
def small (n : Int) : Prop := -1000000 ≤ n ∧ n ≤ 1000000
theorem pieceF_len (l : List UInt8) (n : Int) (nm : List UInt8) (h : small n) : (pieceF l n nm).length ≤ l.length + 22 + nm.length := by
  unfold small at h
  have h1 := Lib.itoa_length_le n.natAbs (by omega) (by omega)
  have h2 : (signF n l).length ≤ l.length + 1 := by unfold signF; split; · simp
                                                    · split <;> simp
  unfold pieceF
  split
  · omega
  · rw [List.length_append, List.length_append]
    split
    · simp; omega
    · omega
theorem validTerm_small {t : Term} (h : validTerm t = true) : t.2.length ≤ 10 ∧ small t.1 ∧ ∀ z ∈ t.2, small z := by
  unfold validTerm at h
  simp only [Bool.and_eq_true, decide_eq_true_eq] at h
  obtain ⟨⟨⟨h1, h2⟩, h3⟩, _⟩ := h
  exact ⟨h1, inB_iff.1 h2, fun z hz => inB_iff.1 (List.all_eq_true.1 h3 z hz)⟩
theorem partT_len {t : Term} (h1 : small t.1) (h2 : ∀ z ∈ t.2, small z) (k : Nat) : (partT t k).length ≤ 23 * k := by
  induction k with
  | zero => simp [partT]
  | succ k ih =>
    unfold partT
    split
    · rename_i hk
      have hz : small (t.2[k]?.getD 0) := by rw [List.getElem?_eq_getElem hk]; exact h2 _ (List.getElem_mem hk)
      have := pieceF_len (partT t k) _ [UInt8.ofNat (97 + k)] hz
      simp at this ⊢; omega
    · have := pieceF_len (partT t k) _ [] h1
      simp at this; omega
theorem partT_lt {t : Term} {k : Nat} {z : Int} (h : t.2[k]? = some z) : partT t (k + 1) = pieceF (partT t k) z [UInt8.ofNat (97 + k)] := by
  show (if k < t.2.length then _ else _) = _
  rw [if_pos (List.getElem?_eq_some_iff.1 h).1, h]; rfl
theorem partT_end (t : Term) : partT t (t.2.length + 1) = pieceF (partT t t.2.length) t.1 [] := by
  show (if t.2.length < t.2.length then _ else _) = _
  rw [if_neg (by omega)]
theorem piece_zero (l nm : List UInt8) : pieceF l 0 nm = l := by simp [pieceF]
theorem piece_neg {l nm : List UInt8} {m : Nat} (h : 0 < m) : pieceF l (-(m : Int)) nm = (l ++ [45]) ++ ((if m = 1 ∧ nm ≠ [] then [] else Lib.itoa m) ++ nm) := by
  unfold pieceF signF
  rw [if_neg (by omega), if_pos (by omega)]
  simp
theorem piece_pos {l nm : List UInt8} {m : Nat} (h : 0 < m) (hl : l ≠ []) : pieceF l (m : Int) nm = (l ++ [43]) ++ ((if m = 1 ∧ nm ≠ [] then [] else Lib.itoa m) ++ nm) := by
  unfold pieceF signF
  rw [if_neg (by omega), if_neg (by omega), if_neg hl]
  simp
theorem piece_first {nm : List UInt8} {m : Nat} (h : 0 < m) : pieceF [] (m : Int) nm = (if m = 1 ∧ nm ≠ [] then [] else Lib.itoa m) ++ nm := by
  unfold pieceF signF
  rw [if_neg (by omega), if_neg (by omega), if_pos rfl]
  simp
set_option maxHeartbeats 4000000 in
set_option maxRecDepth 100000 in
theorem c_l02Text {S : Nat → Prop} {b0 o0 : Nat} {c : Int} {a : Option Addr} {p : Nat} {zs : List Int} {w : World} (h0 : w.cell? ⟨b0, o0, none⟩ = some (.int .i64 c)) (h1 : w.cell? ⟨b0, o0 + 1, none⟩ = some (.slice a zs.length p)) (hb0 : b0 < w.heap.size) (h : SlRd cInt S w a p zs) (hv : validTerm (c, zs) = true) :
    Calls Tryd.prog 73 #[.pointer (some ⟨b0, o0, none⟩)] w fun e w' => e = .returned (strOf (textF (c, zs))) ∧ Below w.heap.size w w' := by
  obtain ⟨hl10, hc6, hz6⟩ := validTerm_small hv
  simp only at hl10 hc6 hz6
  have HP := hid (partT_len (t := (c, zs)) hc6 hz6)
  have HZ := hid hz6
  have H := hid h
  clear h hv hz6
  go_enter Tryd.func73, Tryd.ntmps73
  go_wp2
  go_loopw [3, 4] (fun o i wr => ∃ (k : Nat) (l : List UInt8), k ≤ zs.length + 1 ∧ i = .int .i64 k ∧ o = .string ⟨l.toArray⟩ ∧ Hid (l = partT (c, zs) k) ∧ Below w.heap.size w wr) (fun _ i _ => zs.length + 1 - (intOf i).toNat)
  case atStart => exact ⟨0, [], Nat.zero_le _, rfl, rfl, rfl, Below.refl _ _⟩
  case round =>
    obtain ⟨k, l, hk, rfl, rfl, HL, hbe⟩ := hrel
    have hsz := hbe.size
    have hll : l.length ≤ 23 * k := by rw [HL.out]; exact HP.out k
    have d0 := cell_below hbe hb0 h0
    have d1 := cell_below hbe hb0 h1
    by_cases hlt : k < zs.length
    · obtain ⟨b, off, rfl⟩ := H.out.some_of hlt
      obtain ⟨z, hz, hz2, hc, hb⟩ := (H.out.below (Nat.le_refl _) hbe).int_at k hlt
      have hz6 := HZ.out z (List.mem_of_getElem? hz)
      have HN := hid (partT_lt (t := (c, zs)) hz)
      have i0 : (0 : Int) ≤ (k : Int) := by omega
      have i1 : (k : Int) < (zs.length : Int) := by omega
      have i2 : ¬ (zs.length : Int) < (k : Int) := by omega
      clear hz
      have HC := conv_lit Tryd.underlying80 Tryd.underlying5 Tryd.underlying9 wr (UInt8.ofNat (97 + k))
      have e8 : u8v (UInt8.ofNat (97 + k)) = .int .u8 (97 + (k : Int)) := by
        unfold u8v; rw [UInt8.toNat_ofNat_of_lt' (by simp [UInt8.size]; omega)]; simp
      rw [e8] at HC
      unfold strOf at HC
      generalize UInt8.ofNat (97 + k) = nm at *
      have HBX : Hid (Below w.heap.size w (wr.alloc (.cells #[.int .u8 (97 + (k : Int))] 5))) := hbe.alloc hsz _
      have hszx : w.heap.size ≤ (wr.alloc (.cells #[.int .u8 (97 + (k : Int))] 5)).heap.size := by simp; omega
      clear e8
      unfold small at hz6
      by_cases hz0 : z = 0
      · subst hz0
        have HE : Hid (partT (c, zs) (k + 1) = l) := by unfold Hid; rw [HN.out, piece_zero, ← HL.out]
        go_wp2
        go_roundw
        case rel => exact ⟨k + 1, l, by omega, by go_num, rfl, HE.out.symm, HBX.out⟩
        case measure => simp [intOf]; omega
      · obtain ⟨m, hm⟩ : ∃ m, z.natAbs = m := ⟨_, rfl⟩
        have hm0 : 0 < m := by omega
        have hm6 : m ≤ 1000000 := by omega
        have hit := Lib.itoa_length_le (m : Int) (by omega) (by omega)
        have HCALL := hid fun w => c_l01Dec (m : Int) w (by omega) (by omega)
        have hsplit : ∃ l' : List UInt8, l'.length ≤ l.length + 1 ∧ Hid (partT (c, zs) (k + 1) = l' ++ ((if m = 1 ∧ [nm] ≠ [] then [] else Lib.itoa m) ++ [nm])) ∧ ((z = -(m : Int) ∧ l' = l ++ [45]) ∨ (z = (m : Int) ∧ l ≠ [] ∧ l' = l ++ [43]) ∨ (z = (m : Int) ∧ l = [] ∧ l' = l)) := by
          rcases (show z = -(m : Int) ∨ z = (m : Int) by omega) with e | e
          · exact ⟨l ++ [45], by simp, by unfold Hid; rw [HN.out, e, piece_neg hm0, ← HL.out], .inl ⟨e, rfl⟩⟩
          · by_cases hl : l = []
            · exact ⟨l, by omega, by unfold Hid; rw [HN.out, e, ← HL.out, hl, piece_first hm0]; rfl, .inr (.inr ⟨e, hl, rfl⟩)⟩
            · exact ⟨l ++ [43], by simp, by unfold Hid; rw [HN.out, e, ← HL.out, piece_pos hm0 hl], .inr (.inl ⟨e, hl, rfl⟩)⟩
        obtain ⟨l', hl', HE, hcase⟩ := hsplit
        clear HN hz0 hm
        rcases hcase with ⟨rfl, hq⟩ | ⟨rfl, hne, hq⟩ | ⟨rfl, hnil, hq⟩
        any_goals
          have e1 := badd l [45]
          rw [← hq] at e1
        any_goals
          have hle : (l == []) = false := beq_eq_false_iff_ne.2 hne
          have e1 := badd l [43]
          rw [← hq] at e1
          clear hne
        any_goals
          subst hq
          have hle : (l' == []) = true := beq_iff_eq.2 hnil
          clear hnil
        all_goals
          try clear hq
          by_cases hm1 : m = 1
          · subst hm1
            have HE2 := hid HE.out
            rw [if_pos ⟨rfl, by simp⟩, List.nil_append] at HE2
            have e2 := badd l' [nm]
            go_wp2
            go_roundw
            case rel => exact ⟨k + 1, l' ++ [nm], by omega, by go_num, rfl, HE2.out.symm, HBX.out⟩
            case measure => simp [intOf]; omega
          · have HE2 := hid HE.out
            rw [if_neg (by simp [hm1])] at HE2
            have hm2 : ((m : Int) != 1) = true := by simp; omega
            have e2 := badd l' (Lib.itoa m)
            have e3 := badd (l' ++ Lib.itoa m) [nm]
            clear hm1
            go_wp2_with (go_at_call 61; refine (HCALL.out _).mono ?_; rintro e w2 ⟨rfl, hb2⟩; have HB2 := hid (bel_next HBX.out hszx hb2); clear hb2; unfold strOf)
            go_roundw
            case rel => exact ⟨k + 1, _, by omega, by go_num, rfl, HE2.out.symm, HB2.out⟩
            case measure => simp [intOf]; omega
    · by_cases hke : k = zs.length
      · subst hke
        have HN := hid (partT_end (c, zs))
        have hc7 := hc6
        have hlz := H.out.len_le
        unfold small at hc7
        by_cases hz0 : c = 0
        · subst hz0
          have HE : Hid (partT (0, zs) (zs.length + 1) = l) := by unfold Hid; rw [HN.out, piece_zero, ← HL.out]
          go_wp2
          go_roundw
          case rel => exact ⟨zs.length + 1, l, by omega, by go_num, rfl, HE.out.symm, hbe⟩
          case measure => simp [intOf] <;> omega
        · obtain ⟨m, hm⟩ : ∃ m, c.natAbs = m := ⟨_, rfl⟩
          have hm0 : 0 < m := by omega
          have hm6 : m ≤ 1000000 := by omega
          have hit := Lib.itoa_length_le (m : Int) (by omega) (by omega)
          have HCALL := hid fun w => c_l01Dec (m : Int) w (by omega) (by omega)
          have hsplit : ∃ l' : List UInt8, l'.length ≤ l.length + 1 ∧ Hid (partT (c, zs) (zs.length + 1) = l' ++ Lib.itoa m) ∧ ((c = -(m : Int) ∧ l' = l ++ [45]) ∨ (c = (m : Int) ∧ l ≠ [] ∧ l' = l ++ [43]) ∨ (c = (m : Int) ∧ l = [] ∧ l' = l)) := by
            rcases (show c = -(m : Int) ∨ c = (m : Int) by omega) with e | e
            · exact ⟨l ++ [45], by simp, by unfold Hid; rw [HN.out]; simp only; rw [← HL.out, e, piece_neg hm0]; simp, .inl ⟨e, rfl⟩⟩
            · by_cases hl : l = []
              · exact ⟨l, by omega, by unfold Hid; rw [HN.out]; simp only; rw [← HL.out, e, hl, piece_first hm0]; simp, .inr (.inr ⟨e, hl, rfl⟩)⟩
              · exact ⟨l ++ [43], by simp, by unfold Hid; rw [HN.out]; simp only; rw [← HL.out, e, piece_pos hm0 hl]; simp, .inr (.inl ⟨e, hl, rfl⟩)⟩
          obtain ⟨l', hl', HE, hcase⟩ := hsplit
          clear HN hz0 hm hc6
          rcases hcase with ⟨rfl, hq⟩ | ⟨rfl, hne, hq⟩ | ⟨rfl, hnil, hq⟩
          any_goals
            have e1 := badd l [45]
            rw [← hq] at e1
          any_goals
            have hle : (l == []) = false := beq_eq_false_iff_ne.2 hne
            have e1 := badd l [43]
            rw [← hq] at e1
            clear hne
          any_goals
            subst hq
            have hle : (l' == []) = true := beq_iff_eq.2 hnil
            clear hnil
          all_goals
            try clear hq
            by_cases hm1 : m = 1
            · subst hm1
              have HE1 : Hid (partT _ (zs.length + 1) = l' ++ Lib.itoa 1) := HE
              have HC1 : Hid (∀ w, Calls Tryd.prog 61 #[.int .i64 1] w fun e w' => e = .returned (strOf (Lib.itoa 1)) ∧ Below w.heap.size w w') := HCALL
              have hit1 : (Lib.itoa 1).length ≤ 21 := hit
              have e2 := badd l' (Lib.itoa 1)
              have e3 := badd (l' ++ Lib.itoa 1) []
              clear HCALL HE hit
              go_wp2_with (go_at_call 61; refine (HC1.out _).mono ?_; rintro e w2 ⟨rfl, hb2⟩; have HB2 := hid (bel_next hbe hsz hb2); clear hb2; unfold strOf)
              go_roundw
              case rel => exact ⟨zs.length + 1, l' ++ Lib.itoa 1, by omega, by go_num, by simp, HE1.out.symm, HB2.out⟩
              case measure => simp [intOf] <;> omega
            · have hm2 : ((m : Int) != 1) = true := by simp; omega
              have e2 := badd l' (Lib.itoa m)
              have e3 := badd (l' ++ Lib.itoa m) []
              clear hm1
              go_wp2_with (go_at_call 61; refine (HCALL.out _).mono ?_; rintro e w2 ⟨rfl, hb2⟩; have HB2 := hid (bel_next hbe hsz hb2); clear hb2; unfold strOf)
              go_roundw
              case rel => exact ⟨zs.length + 1, l' ++ Lib.itoa m, by omega, by go_num, by simp, HE.out.symm, HB2.out⟩
              case measure => simp [intOf] <;> omega
      · have hke2 : k = zs.length + 1 := by omega
        subst hke2
        have hlz := H.out.len_le
        by_cases hl : l = []
        · have HF : Hid (textF (c, zs) = [48]) := by unfold Hid textF; simp only; rw [← HL.out, if_pos hl]
          have hle : (l == []) = true := beq_iff_eq.2 hl
          clear hl HL
          go_wp2
          go_ret
          rw [HF.out]
          exact ⟨rfl, hbe⟩
        · have HF : Hid (textF (c, zs) = l) := by unfold Hid textF; simp only; rw [← HL.out, if_neg hl]
          have hle : (l == []) = false := beq_eq_false_iff_ne.2 hl
          clear hl HL
          go_wp2
          go_ret
          rw [HF.out]
          exact ⟨rfl, hbe⟩
theorem c_sTermText {S : Nat → Prop} {c : Int} {a : Option Addr} {p : Nat} {zs : List Int} {w : World} (h : SlRd cInt S w a p zs) :
    Calls Tryd.prog 28 #[.agg #[.int .i64 c, .slice a zs.length p]] w fun e w' => e = .returned (.tuple #[strOf (termTextF (c, zs)).1, .bool (termTextF (c, zs)).2]) ∧ Below w.heap.size w w' := by
  have H := hid (h.alloc (.cells #[.int .i64 c, .slice a zs.length p] 43))
  have t0 : (w.alloc (.cells #[.int .i64 c, .slice a zs.length p] 43)).cell? ⟨w.heap.size, 0, none⟩ = some (.int .i64 c) := by rw [World.cell?_alloc_at _ _ _ _ rfl]; rfl
  have t1 : (w.alloc (.cells #[.int .i64 c, .slice a zs.length p] 43)).cell? ⟨w.heap.size, 0 + 1, none⟩ = some (.slice a zs.length p) := by rw [World.cell?_alloc_at _ _ _ _ rfl]; rfl
  have z0 : w.heap.size < (w.alloc (.cells #[.int .i64 c, .slice a zs.length p] 43)).heap.size := by simp
  have HB0 : Hid (Below w.heap.size w (w.alloc (.cells #[.int .i64 c, .slice a zs.length p] 43))) := (Below.refl _ _).alloc (Nat.le_refl _) _
  have hl := h.len_le
  clear h
  obtain ⟨r, hr⟩ : ∃ r, validTerm (c, zs) = r := ⟨_, rfl⟩
  have HR := hid hr
  have HV := hid (c_l02Is w.heap.size 0 c a p zs _ t0 t1 H.out)
  clear hr
  cases r
  · have HF : Hid (termTextF (c, zs) = ([], false)) := by unfold Hid termTextF; rw [if_neg (by simp [HR.out])]
    go_enter Tryd.func28, Tryd.ntmps28
    go_wp2_with fail
    generalize w.alloc (.cells #[.int .i64 c, .slice a zs.length p] 43) = w1 at *
    refine HV.out.mono ?_
    rintro e w2 ⟨rfl, rfl⟩
    rw [HR.out]
    go_wp2
    go_ret2
    rw [HF.out]
    exact ⟨rfl, HB0.out⟩
  · have HF : Hid (termTextF (c, zs) = (textF (c, zs), true)) := by unfold Hid termTextF; rw [if_pos HR.out]
    have HC := hid (c_l02Text t0 t1 z0 H.out HR.out)
    go_enter Tryd.func28, Tryd.ntmps28
    go_wp2_with fail
    generalize w.alloc (.cells #[.int .i64 c, .slice a zs.length p] 43) = w1 at *
    refine HV.out.mono ?_
    rintro e w2 ⟨rfl, rfl⟩
    rw [HR.out]
    go_wp2_with (go_at_call 73; refine HC.out.mono ?_; rintro e w2 ⟨rfl, hb2⟩; have HB2 := hid (bel_next HB0.out HB0.out.size hb2); clear hb2; unfold strOf)
    go_ret2
    rw [HF.out]
    exact ⟨rfl, HB2.out⟩
end Go.Proofs.YtcbaohcgeoaccaaDoor
