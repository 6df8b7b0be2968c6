/- Contracts and laws of data, 11 texts joined (they are printed one by one from wip/src). -/
import Derived.Test.YtcmopmapdomneaaDoorM1
import Derived.Deep.RegionLaw
import Derived.Deep.RegionWith
import Derived.Deep.RegionHeld3
import Derived.Outline

section
namespace Go.Proofs.YtcmopmapdomneaaDoor
open Go.RowKit

/-- A block with one text. -/
def TxtAt (w : World) (g : Nat) (l : List UInt8) : Prop := w.heap[g]? = some (.cells #[.string ⟨l.toArray⟩] 9 (0, 0))
theorem TxtAt.cell {w : World} {g : Nat} {l : List UInt8} (h : TxtAt w g l) : w.cell? ⟨g, 0, none⟩ = some (.string ⟨l.toArray⟩) := cell_of h rfl
theorem TxtAt.frz {w : World} {g : Nat} {l : List UInt8} (h : TxtAt w g l) : w.frozen? ⟨g, 0, none⟩ = false := frz_of h 0
theorem TxtAt.set {w : World} {g : Nat} {l : List UInt8} (h : TxtAt w g l) (l' : List UInt8) : TxtAt (w.setCell ⟨g, 0, none⟩ (.string ⟨l'.toArray⟩)) g l' := blk_set h 0 _
theorem TxtAt.below {w w' : World} {g : Nat} {l : List UInt8} (h : TxtAt w g l) (hb : Below w.heap.size w w') : TxtAt w' g l := by
  unfold TxtAt; rw [hb.block g (Array.getElem?_eq_some_iff.1 h).1]; exact h
theorem set_grown (w : World) (g : Nat) (v : Value) : w.grownBy (w.setCell ⟨g, 0, none⟩ v) (some g) := ⟨rfl, rfl, rfl, Nat.le_of_eq (size_set _ _ _).symm, fun k _ hk => heap_setCell_ne _ _ _ (by intro e; subst e; exact hk rfl)⟩
theorem grown_refl (w : World) (g : Option Nat) : w.grownBy w g := ⟨rfl, rfl, rfl, Nat.le_refl _, fun _ _ _ => rfl⟩
theorem bel_grown {B g : Nat} {w w' : World} (h : w.grownBy w' (some g)) (hB : B ≤ g) (hs : B ≤ w.heap.size) : Below B w w' :=
  ⟨h.os, h.tape, h.output, h.size, fun k hk => h.block k (by omega) (by intro e; cases e; omega)⟩
theorem c_sign (n : Int) (g : Nat) (l : List UInt8) (w : World) (h : TxtAt w g l) (hl : l.length ≤ 1000) :
    Calls Tryd.prog 83 #[.int .i64 n, .pointer (some ⟨g, 0, none⟩)] w fun e w' => e = .returned (.tuple #[]) ∧ TxtAt w' g (signF n l) ∧ w.grownBy w' (some g) := by
  have HT := hid h
  have hc := h.cell
  have hf := h.frz
  clear h
  by_cases hn : n < 0
  · have HF : Hid (signF n l = l ++ [45]) := by unfold Hid signF; rw [if_pos hn]
    have e1 := badd l [45]
    go_enter Tryd.func83, Tryd.ntmps83
    go_wp2
    go_end0
    rw [HF.out]
    exact ⟨rfl, HT.out.set _, set_grown _ _ _⟩
  · by_cases hl0 : l = []
    · have HF : Hid (signF n l = l) := by unfold Hid signF; rw [if_neg hn, if_pos hl0]
      have hle : (l == []) = true := beq_iff_eq.2 hl0
      clear hl0
      go_enter Tryd.func83, Tryd.ntmps83
      go_wp2
      go_end0
      rw [HF.out]
      exact ⟨rfl, HT.out, grown_refl _ _⟩
    · have HF : Hid (signF n l = l ++ [43]) := by unfold Hid signF; rw [if_neg hn, if_neg hl0]
      have hle : (l == []) = false := beq_eq_false_iff_ne.2 hl0
      have e1 := badd l [43]
      clear hl0
      go_enter Tryd.func83, Tryd.ntmps83
      go_wp2
      go_end0
      rw [HF.out]
      exact ⟨rfl, HT.out.set _, set_grown _ _ _⟩
theorem encode_name (k : Nat) (h : k ≤ 10) : Utf8.encode (97 + (k : Int)) = ⟨[UInt8.ofNat (97 + k)].toArray⟩ := by
  have hall : ∀ q : Fin 11, Utf8.encode (97 + ((q.val : Nat) : Int)) = ⟨[UInt8.ofNat (97 + q.val)].toArray⟩ := by decide +kernel
  exact hall ⟨k, by omega⟩
theorem wpList_conv {P : Program} {w : World} {ops : Array Oper} {rest : List Oper} {o : Oper} {a : Act} {Q : Exit → Act → World → Prop} (hgd : o.guard = none) (src dst : TypeId) (x : Operand)
    (ho : o.op = .convert src dst x) {u v : Value} (hx : a.eval x = u) (hrun : (convert src dst u).run P w = .ok v w) (h : wpList P ops Q rest (a.put o.dst v) w) : wpList P ops Q (o :: rest) a w :=
  wpList_plain hgd fun _ hK => by
    unfold Oper.wp
    simp [execOp, ho, hx, hrun, Result.andThen]
    exact hK _ _ h
theorem conv_name (w : World) (k : Nat) (h : k ≤ 10) : (convert 21 9 (.int .i32 (97 + (k : Int)))).run Tryd.prog w = .ok (.string ⟨#[UInt8.ofNat (97 + k)]⟩) w := by
  rw [run_convert_int_string w _ _ .i32 _ (by rw [Tryd.underlying21]; rfl) Tryd.underlying9, encode_name k h]
def TrmIn (w : World) (b : Nat) (c : Int) (v : Value) : Prop := w.heap[b]? = some (.cells #[.int .i64 c, v] 89 (0, 0))
theorem TrmIn.c0 {w : World} {b : Nat} {c : Int} {v : Value} (h : TrmIn w b c v) : w.cell? ⟨b, 0, none⟩ = some (.int .i64 c) := cell_of h rfl
theorem TrmIn.c1 {w : World} {b : Nat} {c : Int} {v : Value} (h : TrmIn w b c v) : w.cell? ⟨b, 1, none⟩ = some v := cell_of h rfl
theorem TrmIn.below {w w' : World} {b : Nat} {c : Int} {v : Value} (h : TrmIn w b c v) (hb : Below w.heap.size w w') : TrmIn w' b c v := by
  unfold TrmIn; rw [hb.block b (Array.getElem?_eq_some_iff.1 h).1]; exact h
theorem TrmIn.grown {w w' : World} {b g : Nat} {c : Int} {v : Value} (h : TrmIn w b c v) (hg : w.grownBy w' (some g)) (hne : b ≠ g) : TrmIn w' b c v := by
  unfold TrmIn; rw [hg.block b (Array.getElem?_eq_some_iff.1 h).1 (by simpa using hne)]; exact h
theorem TxtAt.lt {w : World} {g : Nat} {l : List UInt8} (h : TxtAt w g l) : g < w.heap.size := (Array.getElem?_eq_some_iff.1 h).1
set_option maxHeartbeats 4000000 in
set_option maxRecDepth 100000 in
theorem c_termText {S : Nat → Prop} {B : Nat} {c : Int} {a : Option Addr} {p : Nat} {zs : List Int} {w : World} (h : SlRd cInt S w a p zs) (hv : validTerm (c, zs) = true) (ht : TabE B w) :
    Calls Tryd.prog 50 #[.agg #[.int .i64 c, .slice a zs.length p]] w fun e w' => e = .returned (strOf (textF (c, zs))) ∧ Below w.heap.size w w' := by
  obtain ⟨hl10, hc6, hz6⟩ := validTerm_small hv
  simp only at hl10 hc6 hz6
  have HP := hid (partT_len (t := (c, zs)) hc6 hz6)
  have HZ := hid hz6
  have hlz := h.len_le
  have HT := hid ht
  obtain ⟨g, hg⟩ : ∃ g, w.heap.size = g := ⟨_, rfl⟩
  have H2 := hid ((h.alloc (.cells #[.int .i64 c, .slice a zs.length p] 89)).alloc (.cells #[.string ⟨#[]⟩] 9))
  have HB2 : Hid (Below w.heap.size w ((w.alloc (.cells #[.int .i64 c, .slice a zs.length p] 89)).alloc (.cells #[.string ⟨#[]⟩] 9))) := (((Below.refl _ _).alloc (Nat.le_refl _) _)).alloc (by simp) _
  have HM2 : Hid (TrmIn ((w.alloc (.cells #[.int .i64 c, .slice a zs.length p] 89)).alloc (.cells #[.string ⟨#[]⟩] 9)) w.heap.size c (.slice a zs.length p)) := by
    unfold Hid TrmIn; rw [Below.heap_alloc _ _ _ (by simp)]; exact heap_new w _
  have HX2 : Hid (TxtAt ((w.alloc (.cells #[.int .i64 c, .slice a zs.length p] 89)).alloc (.cells #[.string ⟨#[]⟩] 9)) (w.heap.size + 1) []) := new_at (by simp)
  have HM1 : Hid (TrmIn (w.alloc (.cells #[.int .i64 c, .slice a zs.length p] 89)) w.heap.size c (.slice a zs.length p)) := heap_new w _
  have H0 := hid h
  clear h hv hz6 ht hg
  go_enter Tryd.func50, Tryd.ntmps50
  go_wp2
  generalize (w.alloc (.cells #[.int .i64 c, .slice a zs.length p] 89)).alloc (.cells #[.string ⟨#[]⟩] 9) = w2 at *
  have H := hid (H2.out)
  go_loopw [11] (fun i wr => ∃ k : Nat, k ≤ zs.length ∧ i = .int .i64 k ∧ Hid (TxtAt wr (w.heap.size + 1) (partT (c, zs) k)) ∧ Hid (TrmIn wr w.heap.size c (.slice a zs.length p)) ∧ Below w.heap.size w wr) (fun i _ => zs.length - (intOf i).toNat)
  case atStart => exact ⟨0, Nat.zero_le _, rfl, HX2, HM2, HB2.out⟩
  case round =>
    obtain ⟨k, hk, rfl, HX, HM, hbe⟩ := hrel
    have hsz := hbe.size
    have hgl := HX.out.lt
    obtain ⟨l, hL⟩ : ∃ l, partT (c, zs) k = l := ⟨_, rfl⟩
    have hll : l.length ≤ 23 * k := by rw [← hL]; exact HP.out k
    rw [hL] at HX
    by_cases hlt : k < zs.length
    · obtain ⟨b, off, rfl⟩ := H0.out.some_of hlt
      obtain ⟨z, hz, hz2, hc, hb⟩ := (H0.out.below (Nat.le_refl _) hbe).int_at k hlt
      have hz6 := HZ.out z (List.mem_of_getElem? hz)
      have HN := hid (partT_lt (t := (c, zs)) hz)
      rw [hL] at HN
      have i0 : (0 : Int) ≤ (k : Int) := by omega
      have i1 : (k : Int) < (zs.length : Int) := by omega
      unfold small at hz6
      clear hz hL
      by_cases hz0 : z = 0
      · subst hz0
        have HE : Hid (partT (c, zs) (k + 1) = l) := by unfold Hid; rw [HN.out, piece_zero]
        go_wp2
        go_roundw
        case rel => exact ⟨k + 1, by omega, by go_num, by rw [HE.out]; exact HX, HM, hbe⟩
        case measure => simp [intOf]; omega
      · obtain ⟨m, hm⟩ : ∃ m, z.natAbs = m := ⟨_, rfl⟩
        have hm0 : 0 < m := by omega
        have hm6 : m ≤ 1000000 := by omega
        have hit := Lib.itoa_length_le (m : Int) (by omega) (by omega)
        have hzf : (z == 0) = false := by simpa using hz0
        have HSL : Hid (pieceF l z [UInt8.ofNat (97 + k)] = signF z l ++ ((if m = 1 then [] else Lib.itoa m) ++ [UInt8.ofNat (97 + k)])) := by
          unfold Hid pieceF; rw [if_neg hz0, hm]; simp
        have hsl : (signF z l).length ≤ l.length + 1 := by unfold signF; split; · simp
                                                           · split <;> simp
        rw [← HN.out] at HSL
        obtain ⟨l1, hl1⟩ : ∃ l1, signF z l = l1 := ⟨_, rfl⟩
        rw [hl1] at hsl HSL
        have HCS := hid (c_sign z (w.heap.size + 1) l wr HX.out (by omega))
        rw [hl1] at HCS
        have HAB := hid fun w => c_absolute z w (by omega) (by omega)
        rw [hm] at HAB
        have hbw : Below (w.heap.size + 1) wr wr := Below.refl _ _
        clear hl1 hz0 hm hbw HN
        have HCV := hid fun w => conv_name w k (by omega)
        obtain ⟨nm, hnm⟩ : ∃ nm, UInt8.ofNat (97 + k) = nm := ⟨_, rfl⟩
        rw [hnm] at HSL HCV
        clear hnm
        go_wp2_with fail
        refine HCS.out.mono ?_
        rintro e w3 ⟨rfl, hx3, hg3⟩
        have HX3 := hid hx3
        have HM3 := hid (HM.out.grown hg3 (by omega))
        have HB3 := hid (hbe.trans (bel_grown hg3 (Nat.le_succ _) hsz))
        have HT3 := hid (HT.out.belows (HB3.out.mono HT.out.2))
        have hc3 := hx3.cell
        have hf3 := hx3.frz
        have hl3 := hx3.lt
        clear hx3 hg3 HX HM hc hb
        have e2 := badd l1 (Lib.itoa m)
        go_wp2_with fail
        refine (HAB.out _).mono ?_
        rintro e w' ⟨rfl, rfl⟩
        by_cases hm1 : m = 1
        · subst hm1
          have e3 := badd l1 [nm]
          go_wp2_with (refine wpList_conv rfl 21 9 (.tmp 32) rfl rfl (HCV.out _) ?_)
          go_roundw
          case rel =>
            have hg6 := set_grown w3 (w.heap.size + 1) (.string ⟨(l1 ++ [nm]).toArray⟩)
            have HS6 : partT (c, zs) (k + 1) = l1 ++ [nm] := by simpa using HSL.out
            exact ⟨k + 1, by omega, by go_num, by rw [HS6]; exact HX3.out.set _, HM3.out.grown hg6 (by omega), HB3.out.trans (bel_grown hg6 (Nat.le_succ _) HB3.out.size)⟩
          case measure => simp [intOf]; omega
        · have hmne : ((m : Int) != 1) = true := by simp; omega
          go_wp2_with fail
          have hc3d : w3.drew.cell? ⟨w.heap.size + 1, 0, none⟩ = some (.string ⟨l1.toArray⟩) := hc3
          have hbd : Below B w3 w3.drew := ⟨rfl, rfl, rfl, Nat.le_refl _, fun _ _ => rfl⟩
          have HD := hid (c_Decimal (B := B) (m : Int) w3.drew (by omega) (by omega) (HT3.out.belows hbd))
          clear hbd
          go_region_with (first | (go_at_call 84; refine (HAB.out _).mono ?_; rintro e w' ⟨rfl, rfl⟩) | (go_at_call 85; refine HD.out.mono ?_; rintro e w4 ⟨rfl, hb4⟩; unfold strOf; have hc4 := cell_below hb4 hl3 hc3d; have hf4 := frz_below hb4 hl3 hf3; have HB4 := hid hb4; clear hb4))
          all_goals
            have HB4 : Hid (Below w3.heap.size w3 w4) := (show Below w3.heap.size w3 w3.drew from ⟨rfl, rfl, rfl, Nat.le_refl _, fun _ _ => rfl⟩).trans HB4.out
            have HX5 := hid ((HX3.out.below HB4.out).set (l1 ++ Lib.itoa m))
            have hg5 := set_grown w4 (w.heap.size + 1) (.string ⟨(l1 ++ Lib.itoa m).toArray⟩)
            have HM5 := hid ((HM3.out.below HB4.out).grown hg5 (by omega))
            have HB5 := hid ((bel_next HB3.out HB3.out.size HB4.out).trans (bel_grown hg5 (Nat.le_succ _) (Nat.le_trans HB3.out.size HB4.out.size)))
            clear hg5 hc4 hf4 HB4 hc3 hf3 hl3 HX3 HM3 HB3 hc3d HD HT3
            generalize w4.setCell ⟨w.heap.size + 1, 0, none⟩ (.string ⟨(l1 ++ Lib.itoa m).toArray⟩) = w5 at *
            have hc5 := HX5.out.cell
            have hf5 := HX5.out.frz
            have e3 := badd (l1 ++ Lib.itoa m) [nm]
            go_wp2_with (refine wpList_conv rfl 21 9 (.tmp 32) rfl rfl (HCV.out _) ?_)
            go_roundw
            case rel =>
              have hg6 := set_grown w5 (w.heap.size + 1) (.string ⟨(l1 ++ (Lib.itoa m ++ [nm])).toArray⟩)
              have HS6 := HSL.out
              rw [if_neg hm1] at HS6
              exact ⟨k + 1, by omega, by go_num, by rw [HS6]; exact HX5.out.set _, HM5.out.grown hg6 (by omega), HB5.out.trans (bel_grown hg6 (Nat.le_succ _) HB5.out.size)⟩
            case measure => simp [intOf]; omega
    · obtain rfl : k = zs.length := by omega
      have HN := hid (partT_end (c, zs))
      simp only at HN
      rw [hL] at HN
      have hc7 := hc6
      unfold small at hc7
      have m0 := HM.out.c0
      have x0 := HX.out.cell
      clear hL
      by_cases hz0 : c = 0
      · subst hz0
        have HE : Hid (partT (0, zs) (zs.length + 1) = l) := by unfold Hid; rw [HN.out, piece_zero]
        by_cases hl : l = []
        · have HF : Hid (textF (0, zs) = [48]) := by unfold Hid textF; simp only; rw [HE.out, if_pos hl]
          have hle : (l == []) = true := beq_iff_eq.2 hl
          clear hl
          go_wp2
          go_ret
          rw [HF.out]
          exact ⟨rfl, hbe⟩
        · have HF : Hid (textF (0, zs) = l) := by unfold Hid textF; simp only; rw [HE.out, if_neg hl]
          have hle : (l == []) = false := beq_eq_false_iff_ne.2 hl
          clear hl
          go_wp2
          go_ret
          rw [HF.out]
          exact ⟨rfl, hbe⟩
      · obtain ⟨m, hm⟩ : ∃ m, c.natAbs = m := ⟨_, rfl⟩
        have hm0 : 0 < m := by omega
        have hm6 : m ≤ 1000000 := by omega
        have hit := Lib.itoa_length_le (m : Int) (by omega) (by omega)
        have hzf : (c == 0) = false := by simpa using hz0
        have HSL : Hid (pieceF l c [] = signF c l ++ Lib.itoa m) := by
          unfold Hid pieceF; rw [if_neg hz0, hm]; simp
        have hsl : (signF c l).length ≤ l.length + 1 := by unfold signF; split; · simp
                                                           · split <;> simp
        rw [← HN.out] at HSL
        obtain ⟨l1, hl1⟩ : ∃ l1, signF c l = l1 := ⟨_, rfl⟩
        rw [hl1] at hsl HSL
        have hne : Lib.itoa m ≠ [] := by
          rw [itoa_pos (by omega), digs_pos (by omega)]; simp
        have HF : Hid (textF (c, zs) = l1 ++ Lib.itoa m) := by
          unfold Hid textF; simp only; rw [HSL.out, if_neg (by simp [hne])]
        have hle : ((l1 ++ Lib.itoa m) == []) = false := beq_eq_false_iff_ne.2 (by simp [hne])
        have HCS := hid (c_sign c (w.heap.size + 1) l wr HX.out (by omega))
        rw [hl1] at HCS
        have HAB := hid fun w => c_absolute c w (by omega) (by omega)
        rw [hm] at HAB
        clear hl1 hz0 hm HN hne x0
        go_wp2_with fail
        refine HCS.out.mono ?_
        rintro e w3 ⟨rfl, hx3, hg3⟩
        have HX3 := hid hx3
        have HM3 := hid (HM.out.grown hg3 (by omega))
        have HB3 := hid (hbe.trans (bel_grown hg3 (Nat.le_succ _) hsz))
        have HT3 := hid (HT.out.belows (HB3.out.mono HT.out.2))
        have hc3 := hx3.cell
        have hf3 := hx3.frz
        have hl3 := hx3.lt
        have m3 := HM3.out.c0
        clear hx3 hg3 HX HM m0
        have e2 := badd l1 (Lib.itoa m)
        go_wp2_with fail
        have hc3d : w3.drew.cell? ⟨w.heap.size + 1, 0, none⟩ = some (.string ⟨l1.toArray⟩) := hc3
        have m3d : w3.drew.cell? ⟨w.heap.size, 0, none⟩ = some (.int .i64 c) := m3
        have hbd : Below B w3 w3.drew := ⟨rfl, rfl, rfl, Nat.le_refl _, fun _ _ => rfl⟩
        have HD := hid (c_Decimal (B := B) (m : Int) w3.drew (by omega) (by omega) (HT3.out.belows hbd))
        clear hbd
        go_region_with (first | (go_at_call 84; refine (HAB.out _).mono ?_; rintro e w' ⟨rfl, rfl⟩) | (go_at_call 85; refine HD.out.mono ?_; rintro e w4 ⟨rfl, hb4⟩; unfold strOf; have hc4 := cell_below hb4 hl3 hc3d; have hf4 := frz_below hb4 hl3 hf3; have HB4 := hid hb4; clear hb4))
        all_goals
          have HB4 : Hid (Below w3.heap.size w3 w4) := (show Below w3.heap.size w3 w3.drew from ⟨rfl, rfl, rfl, Nat.le_refl _, fun _ _ => rfl⟩).trans HB4.out
          have HX5 := hid ((HX3.out.below HB4.out).set (l1 ++ Lib.itoa m))
          have hg5 := set_grown w4 (w.heap.size + 1) (.string ⟨(l1 ++ Lib.itoa m).toArray⟩)
          have HB5 := hid ((bel_next HB3.out HB3.out.size HB4.out).trans (bel_grown hg5 (Nat.le_succ _) (Nat.le_trans HB3.out.size HB4.out.size)))
          clear hg5 hc4 hf4 HB4 hc3 hf3 hl3 HX3 HM3 HB3 hc3d HD HT3
          generalize w4.setCell ⟨w.heap.size + 1, 0, none⟩ (.string ⟨(l1 ++ Lib.itoa m).toArray⟩) = w5 at *
          have hc5 := HX5.out.cell
          go_wp2
          go_ret
          rw [HF.out]
          exact ⟨rfl, HB5.out⟩
end Go.Proofs.YtcmopmapdomneaaDoor
end

section
namespace Go.Proofs.YtcmopmapdomneaaDoor
open Go.RowKit
abbrev Sq := List Term × Term
abbrev cSequent : Codec Sq := cPair cTerms cTerm
abbrev nSequent : Norm cSequent := nPair nTerms nTerm
instance dec_Sq : DecidableEq Sq := inferInstance
theorem Sq_list {S : Nat → Prop} {w : World} {cs : List Value} {d : Sq} (h : cSequent.rd S w cs d) : ∃ a0 p0 a2 p2, cs = [.slice a0 d.1.length p0, .int .i64 d.2.1, .slice a2 d.2.2.length p2] ∧ SlRd cTerm S w a0 p0 d.1 ∧ SlRd cInt S w a2 p2 d.2.2 ∧ I64 d.2.1 := by
  obtain ⟨_, _, rfl, ⟨a0, p0, rfl, r0⟩, ⟨_, _, rfl, ⟨rfl, r1⟩, ⟨a2, p2, rfl, r2⟩⟩⟩ := h
  exact ⟨a0, p0, a2, p2, rfl, r0, r2, r1⟩
theorem Sq_arr {S : Nat → Prop} {w : World} {cs : Array Value} {d : Sq} (h : cSequent.rd S w cs.toList d) : ∃ a0 p0 a2 p2, cs = #[.slice a0 d.1.length p0, .int .i64 d.2.1, .slice a2 d.2.2.length p2] ∧ SlRd cTerm S w a0 p0 d.1 ∧ SlRd cInt S w a2 p2 d.2.2 ∧ I64 d.2.1 := by
  obtain ⟨a0, p0, a2, p2, he, hr⟩ := Sq_list h
  exact ⟨a0, p0, a2, p2, by rw [← Array.toList_inj, he], hr⟩
def RetSequent (x : Sq) (w : World) (e : Ending) (w' : World) : Prop :=
  ∃ a0 p0 a2 p2, e = .returned (.agg #[.slice a0 x.1.length p0, .int .i64 x.2.1, .slice a2 x.2.2.length p2]) ∧ SlRd cTerm (Fresh w.heap.size w') w' a0 p0 x.1 ∧ SlRd cInt (Fresh w.heap.size w') w' a2 p2 x.2.2 ∧ Below w.heap.size w w'
end Go.Proofs.YtcmopmapdomneaaDoor
end

section
namespace Go.Proofs.YtcmopmapdomneaaDoor
open Go.RowKit

def dotK (zs vs : List Int) : Nat → Int
  | 0 => 0
  | k + 1 => dotK zs vs k + zs.getD k 0 * vs.getD k 0
def evalT (t : Term) (vs : List Int) : Int := t.1 + dotK t.2 vs t.2.length
def Mid (z : Int) : Prop := -1000000 ≤ z ∧ z ≤ 1000000
def Big (z : Int) : Prop := -1000000000 ≤ z ∧ z ≤ 1000000000
theorem mul_bd {z v : Int} (hz : Mid z) (hv : Big v) : -1000000000000000 ≤ z * v ∧ z * v ≤ 1000000000000000 := by
  obtain ⟨a, b⟩ := hz
  obtain ⟨c, d⟩ := hv
  have h : (z * v).natAbs ≤ 1000000 * 1000000000 := by rw [Int.natAbs_mul]; exact Nat.mul_le_mul (by omega) (by omega)
  omega
theorem dotK_bd {zs vs : List Int} (hz : ∀ z ∈ zs, Mid z) (hv : ∀ v ∈ vs, Big v) : ∀ k : Nat, -(1000000000000000 * (k : Int)) ≤ dotK zs vs k ∧ dotK zs vs k ≤ 1000000000000000 * (k : Int) := by
  intro k
  induction k with
  | zero => simp [dotK]
  | succ k ih =>
    have h1 : Mid (zs.getD k 0) := by
      rw [List.getD_eq_getElem?_getD]
      cases h : zs[k]? with
      | none => simp [Mid]
      | some z => exact hz z (List.mem_of_getElem? h)
    have h2 : Big (vs.getD k 0) := by
      rw [List.getD_eq_getElem?_getD]
      cases h : vs[k]? with
      | none => simp [Big]
      | some z => exact hv z (List.mem_of_getElem? h)
    have := mul_bd h1 h2
    simp only [dotK]
    omega
theorem dotK_succ {zs vs : List Int} {k : Nat} {z v : Int} (h1 : zs[k]? = some z) (h2 : vs[k]? = some v) : dotK zs vs (k + 1) = dotK zs vs k + z * v := by
  simp only [dotK, List.getD_eq_getElem?_getD, h1, h2, Option.getD_some]
theorem mid_of {zs : List Int} (h : allIn zs (-1000000) 1000000 = true) : ∀ z ∈ zs, Mid z := fun z hz => inB_iff.1 (List.all_eq_true.1 h z hz)
theorem big_of {zs : List Int} (h : allIn zs (-1000000000) 1000000000 = true) : ∀ z ∈ zs, Big z := fun z hz => inB_iff.1 (List.all_eq_true.1 h z hz)
theorem validTerm_iff {t : Term} (h : validTerm t = true) : t.2.length ≤ 10 ∧ Mid t.1 ∧ (∀ z ∈ t.2, Mid z) ∧ lastOk t.2 = true := by
  simp only [validTerm, Bool.and_eq_true, decide_eq_true_eq] at h
  exact ⟨h.1.1.1, inB_iff.1 h.1.1.2, mid_of h.1.2, h.2⟩
def valuesOk (vs : List Int) : Bool := decide (vs.length = 10) && allIn vs (-1000000000) 1000000000
def evalF (t : Term) (vs : List Int) : Int × Bool := if validTerm t && valuesOk vs then (evalT t vs, true) else (0, false)

end Go.Proofs.YtcmopmapdomneaaDoor
end

section
namespace Go.Proofs.YtcmopmapdomneaaDoor
open Go.RowKit

def overT (t : Term) : Bool := validTerm t && decide (t.2.length ≤ 4)
def areOverF (ts : List Term) (most : Int) : Bool := decide ((ts.length : Int) ≤ most) && ts.all overT
def holdsF (ts : List Term) (vs : List Int) : Bool := ts.all fun t => decide (0 ≤ evalT t vs)
def holdsInF (ts : List Term) (s : St) : Bool × Bool := if areOverF ts 14 && validState s then (holdsF ts s.1, true) else (false, false)
theorem areOverF_iff {ts : List Term} {most : Int} (h : areOverF ts most = true) : ∀ t ∈ ts, validTerm t = true ∧ t.2.length ≤ 4 := by
  simp only [areOverF, Bool.and_eq_true, List.all_eq_true] at h
  intro t ht
  have := h.2 t ht
  simpa [overT] using this
theorem validState_iff {s : St} (h : validState s = true) : s.1.length = 4 ∧ s.2.length = 8 ∧ (∀ v ∈ s.1, Big v) ∧ (∀ v ∈ s.2, Big v) := by
  simp only [validState, numsOk, Bool.and_eq_true, decide_eq_true_eq] at h
  exact ⟨h.1.1, h.2.1, big_of h.1.2, big_of h.2.2⟩
theorem c_isOver {S : Nat → Prop} (c : Int) (a : Option Addr) (cap : Nat) (zs : List Int) (w : World) (h : SlRd cInt S w a cap zs) :
    Calls Tryd.prog 82 #[.agg #[.int .i64 c, .slice a zs.length cap]] w fun e w' => e = .returned (.bool (overT (c, zs))) ∧ Below w.heap.size w w' := by
  have H := hid (h.alloc (.cells #[.int .i64 c, .slice a zs.length cap] 89))
  have hl := h.len_le
  clear h
  obtain ⟨r, hr⟩ : ∃ r, validTerm (c, zs) = r := ⟨_, rfl⟩
  have HR := hid hr
  clear hr
  cases r
  all_goals
    go_enter Tryd.func82, Tryd.ntmps82
    go_wp2_with (go_at_call 107; refine (c_ValidTerm _ _ _ _ _ H.out).mono ?_; rintro e w1 ⟨rfl, hb1⟩; rw [HR.out]; have t1 := cell_below hb1 (b := w.heap.size) (o := 1) (v := .slice a zs.length cap) (by simp) (by simp [go_sem]))
    go_ret
    exact ⟨ret_bool (by unfold overT; rw [HR.out, Bool.eq_iff_iff]; simp <;> omega), bel_box (Below.refl _ _) (Nat.le_refl _) hb1⟩
theorem c_areOver1 {S : Nat → Prop} (c : Int) (a : Option Addr) (cap : Nat) (zs : List Int) (w : World) (h : SlRd cInt S w a cap zs) :
    Calls Tryd.prog 81 #[.agg #[.int .i64 c, .slice a zs.length cap]] w fun e w' => e = .returned (.bool (!overT (c, zs))) ∧ Below w.heap.size w w' := by
  have H := hid (h.alloc (.cells #[.int .i64 c, .slice a zs.length cap] 89))
  clear h
  obtain ⟨r, hr⟩ : ∃ r, overT (c, zs) = r := ⟨_, rfl⟩
  have HR := hid hr
  clear hr
  go_enter Tryd.func81, Tryd.ntmps81
  go_wp2_with (go_at_call 82; refine (c_isOver _ _ _ _ _ H.out).mono ?_; rintro e w1 ⟨rfl, hb1⟩; rw [HR.out])
  go_ret
  exact ⟨ret_bool (by rw [HR.out]), bel_box (Below.refl _ _) (Nat.le_refl _) hb1⟩
theorem c_idxNotOver {S : Nat → Prop} (a : Option Addr) (cap : Nat) (xs : List Term) (w : World) (h : SlRd cTerm S w a cap xs) :
    Calls Tryd.prog 106 #[.slice a xs.length cap, .func (.func 81) #[] #[]] w (RetIdx (fun x => !overT x) xs w) := by
  have hl := h.len_le
  have H := hid h
  clear h
  go_enter Tryd.func106, Tryd.ntmps106
  go_wp2
  go_loopw [8] (fun i wr => ∃ k : Nat, k ≤ xs.length ∧ i = .int .i64 k ∧ Hid ((xs.take k).all (fun x => !!overT x) = true) ∧ Below w.heap.size w wr) (fun i _ => xs.length - (intOf i).toNat)
  case atStart => exact ⟨0, Nat.zero_le _, rfl, rfl, Below.refl _ _⟩
  case round =>
    obtain ⟨k, hk, rfl, HA, hbe⟩ := hrel
    have hsz := hbe.size
    by_cases hlt : k < xs.length
    · obtain ⟨b, off, rfl⟩ := H.out.some_of hlt
      obtain ⟨c, zs, a', cap', hz, hc1, hsl, hc, hc', hb⟩ := (H.out.below (Nat.le_refl _) hbe).term_at k hlt
      have HZ := hid hz
      have HS := hid hsl
      clear hz hsl
      obtain ⟨r, hr⟩ : ∃ r, overT (c, zs) = r := ⟨_, rfl⟩
      have HR := hid hr
      clear hr
      cases r
      · go_wp2_with (go_at_call 81; refine (c_areOver1 _ _ _ _ _ HS.out).mono ?_; rintro e w1 ⟨rfl, hb1⟩; rw [HR.out])
        go_ret
        exact ⟨k, rfl, .inr ⟨k, _, rfl, HZ.out, by simp [HR.out], HA.out⟩, bel_next hbe hsz hb1⟩
      · go_wp2_with (go_at_call 81; refine (c_areOver1 _ _ _ _ _ HS.out).mono ?_; rintro e w1 ⟨rfl, hb1⟩; rw [HR.out])
        go_roundw
        case rel => exact ⟨k + 1, by omega, by go_num, (all_take HA.out HZ.out).trans (by simp [HR.out]), bel_next hbe hsz hb1⟩
        case measure => simp [intOf]; omega
    · have HE := hid (all_end HA.out (Nat.le_of_not_lt hlt))
      go_wp2
      go_ret
      exact ⟨-1, rfl, .inl ⟨rfl, HE.out⟩, hbe⟩
theorem c_areOver {S : Nat → Prop} (a : Option Addr) (cap : Nat) (ts : List Term) (most : Int) (w : World) (h : SlRd cTerm S w a cap ts) :
    Calls Tryd.prog 47 #[.slice a ts.length cap, .int .i64 most] w fun e w' => e = .returned (.bool (areOverF ts most)) ∧ Below w.heap.size w w' := by
  have H := hid h
  have hl := h.len_le
  clear h
  by_cases h1 : (ts.length : Int) ≤ most
  · have HF : Hid (areOverF ts most = ts.all overT) := by unfold Hid; simp [areOverF, h1]
    go_enter Tryd.func47, Tryd.ntmps47
    go_wp2_with (first | (go_at_call 106; refine (c_idxNotOver _ _ _ _ H.out).mono ?_; rintro e w1 ⟨r, rfl, hok, hb1⟩; have hd := hok.all; have HD := hid hd; clear hd hok) | go_in)
    go_ret
    exact ⟨ret_bool (by rw [HF.out, HD.out]; simp), hb1⟩
  · have HF : Hid (areOverF ts most = false) := by unfold Hid; simp [areOverF]; omega
    go_enter Tryd.func47, Tryd.ntmps47
    go_wp2
    go_ret
    exact ⟨ret_bool HF.out.symm, Below.refl _ _⟩
theorem c_l03Term {S : Nat → Prop} (b off : Nat) (c : Int) (a : Option Addr) (cap : Nat) (zs : List Int) (w : World) (hc : w.cell? ⟨b, off, none⟩ = some (.int .i64 c)) (hc' : w.cell? ⟨b, off + 1, none⟩ = some (.slice a zs.length cap)) (h : SlRd cInt S w a cap zs) :
    Calls Tryd.prog 93 #[.pointer (some ⟨b, off, none⟩)] w fun e w' => e = .returned (.bool (overT (c, zs))) ∧ w = w' := by
  have hl := h.len_le
  have HC := hid (c_l02Is _ _ _ _ _ _ _ hc hc' h)
  clear h
  obtain ⟨r, hr⟩ : ∃ r, validTerm (c, zs) = r := ⟨_, rfl⟩
  have HR := hid hr
  clear hr
  cases r
  all_goals
    go_enter Tryd.func93, Tryd.ntmps93
    go_wp2_with (go_at_call 69; refine HC.out.mono ?_; rintro e w' ⟨rfl, rfl⟩; rw [HR.out])
    go_ret
    exact ⟨ret_bool (by unfold overT; rw [HR.out, Bool.eq_iff_iff]; simp <;> omega), rfl⟩
theorem c_l03Terms {S : Nat → Prop} (a : Option Addr) (cap : Nat) (ts : List Term) (most : Int) (w : World) (h : SlRd cTerm S w a cap ts) :
    Calls Tryd.prog 58 #[.slice a ts.length cap, .int .i64 most] w fun e w' => e = .returned (.bool (areOverF ts most)) ∧ w = w' := by
  have hl := h.len_le
  have H := hid h
  clear h
  go_enter Tryd.func58, Tryd.ntmps58
  go_wp2
  go_loop [5] (fun i => ∃ k : Nat, k ≤ ts.length ∧ i = .int .i64 k ∧ Hid ((ts.take k).all overT = true)) (fun i => ts.length - (intOf i).toNat)
  case atStart => exact ⟨0, Nat.zero_le _, rfl, rfl⟩
  case round =>
    obtain ⟨k, hk, rfl, HA⟩ := hrel
    by_cases hlt : k < ts.length
    · obtain ⟨b, off, rfl⟩ := H.out.some_of hlt
      obtain ⟨c, zs, a', cap', hz, hc1, hsl, hc, hc', hb⟩ := H.out.term_at k hlt
      have HZ := hid hz
      clear hz
      by_cases hin : overT (c, zs) = true
      · go_wp2_with (go_at_call 93; refine (c_l03Term _ _ _ _ _ _ _ hc hc' hsl).mono ?_; rintro e w' ⟨rfl, rfl⟩)
        go_round
        case rel => exact ⟨k + 1, by omega, by go_num, (all_take HA.out HZ.out).trans hin⟩
        case measure => simp [intOf]; omega
      · have hin' : overT (c, zs) = false := by simpa using hin
        go_wp2_with (go_at_call 93; refine (c_l03Term _ _ _ _ _ _ _ hc hc' hsl).mono ?_; rintro e w' ⟨rfl, rfl⟩)
        go_ret
        exact ⟨ret_bool (by simp [areOverF, all_false HZ.out hin']), rfl⟩
    · go_wp2
      go_ret
      exact ⟨ret_bool (by simp [areOverF, all_end HA.out (by omega)]), rfl⟩
end Go.Proofs.YtcmopmapdomneaaDoor
end

section
namespace Go.Proofs.YtcmopmapdomneaaDoor
open Go.RowKit

def validSq (s : Sq) : Bool := areTerms s.1 13 && validTerm s.2
def counterB (s : Sq) (vs : List Int) : Bool := holdsF s.1 vs && decide (evalT s.2 vs < 0)
def counterF (s : Sq) (vs : List Int) : Bool := (validSq s && valuesOk vs) && counterB s vs
theorem validSq_iff {s : Sq} (h : validSq s = true) : s.1.length ≤ 13 ∧ (∀ t ∈ s.1, validTerm t = true ∧ t.2.length ≤ 10) ∧ validTerm s.2 = true ∧ s.2.2.length ≤ 10 := by
  simp only [validSq, areTerms, Bool.and_eq_true, decide_eq_true_eq, List.all_eq_true] at h
  obtain ⟨⟨h1, h2⟩, h3⟩ := h
  exact ⟨by omega, fun t ht => ⟨h2 t ht, (validTerm_iff (h2 t ht)).1⟩, h3, (validTerm_iff h3).1⟩
theorem valuesOk_iff {vs : List Int} (h : valuesOk vs = true) : vs.length = 10 ∧ ∀ v ∈ vs, Big v := by
  simp only [valuesOk, Bool.and_eq_true, decide_eq_true_eq] at h
  exact ⟨h.1, big_of h.2⟩
end Go.Proofs.YtcmopmapdomneaaDoor
end

section
namespace Go.Proofs.YtcmopmapdomneaaDoor
open Go.RowKit

theorem textF_len {t : Term} (h : validTerm t = true) : (textF t).length ≤ 253 := by
  obtain ⟨h1, h2, h3⟩ := validTerm_small h
  have := partT_len h2 h3 (t.2.length + 1)
  unfold textF
  split
  · simp
  · omega
def semiF (ts : List Term) : List UInt8 := (ts.map fun t => textF t ++ [59]).flatten
def seqF (s : Sq) : List UInt8 := (semiF s.1 ++ [61, 62]) ++ textF s.2
def seqTextF (s : Sq) : List UInt8 × Bool := if validSq s then (seqF s, true) else ([], false)
theorem semiF_take {ts : List Term} {k : Nat} {t : Term} (h : ts[k]? = some t) : semiF (ts.take (k + 1)) = semiF (ts.take k) ++ (textF t ++ [59]) := by
  have hk := (List.getElem?_eq_some_iff.1 h).1
  rw [List.take_succ_eq_append_getElem hk]
  rw [List.getElem?_eq_getElem hk] at h
  rw [Option.some.inj h]; simp [semiF]
end Go.Proofs.YtcmopmapdomneaaDoor
end

section
namespace Go.Proofs.YtcmopmapdomneaaDoor
open Go.RowKit

theorem slTx : SlT Tryd.prog 96 9 (.string ByteArray.empty) 1 16 := ⟨Tryd.underlying96, by kernel_rfl, rfl, by decide, by decide⟩
def factT (wd : List UInt8) (ts : List Term) : List (List UInt8) := ts.map fun t => (wd ++ [32]) ++ textF t
theorem factT_take {wd : List UInt8} {ts : List Term} {k : Nat} {t : Term} (h : ts[k]? = some t) : factT wd (ts.take (k + 1)) = factT wd (ts.take k) ++ [(wd ++ [32]) ++ textF t] := by
  unfold factT; rw [List.take_add_one, h, List.map_append]; rfl
theorem over_len {ts : List Term} (h : areOverF ts 6 = true) : ts.length ≤ 6 := by
  simp only [areOverF, Bool.and_eq_true, decide_eq_true_eq] at h; omega
theorem factT_line {wd : List UInt8} {ts : List Term} (hw : wd.length ≤ 8) (h : areOverF ts 6 = true) : ∀ l ∈ factT wd ts, l.length ≤ 262 := by
  intro l hl
  obtain ⟨t, ht, rfl⟩ := List.mem_map.1 hl
  have := textF_len (areOverF_iff h t ht).1
  simp; omega
theorem nlF_le_len {zs : List (List UInt8)} {m n : Nat} (h : ∀ z ∈ zs, z.length ≤ m) (hn : zs.length ≤ n) : (nlF zs).length ≤ n * (m + 1) := by
  have h1 := nlF_len h
  have h2 : zs.length * (m + 1) ≤ n * (m + 1) := Nat.mul_le_mul_right _ hn
  omega
theorem factT_bounds2 {wd : List UInt8} {ts : List Term} (hw : wd.length ≤ 8) (h : areOverF ts 6 = true) : (nlF (factT wd ts)).length ≤ 1578 := by
  have h1 := over_len h
  have h2 := nlF_len (factT_line hw h)
  rw [show (factT wd ts).length = ts.length from List.length_map _] at h2
  have : ts.length * (262 + 1) ≤ 6 * (262 + 1) := Nat.mul_le_mul_right _ h1
  omega
theorem factT_nil (wd : List UInt8) : factT wd [] = [] := rfl
theorem factT_len (wd : List UInt8) (ts : List Term) : (factT wd ts).length = ts.length := List.length_map _
end Go.Proofs.YtcmopmapdomneaaDoor
end

section
namespace Go.Proofs.YtcmopmapdomneaaDoor
open Go.RowKit
abbrev Pt := Int × List Term
abbrev cPoint : Codec Pt := cPair cInt cTerms
abbrev nPoint : Norm cPoint := nPair nInt nTerms
instance dec_Pt : DecidableEq Pt := inferInstance
theorem Pt_list {S : Nat → Prop} {w : World} {cs : List Value} {d : Pt} (h : cPoint.rd S w cs d) : ∃ a1 p1, cs = [.int .i64 d.1, .slice a1 d.2.length p1] ∧ SlRd cTerm S w a1 p1 d.2 ∧ I64 d.1 := by
  obtain ⟨_, _, rfl, ⟨rfl, r0⟩, ⟨a1, p1, rfl, r1⟩⟩ := h
  exact ⟨a1, p1, rfl, r1, r0⟩
theorem Pt_arr {S : Nat → Prop} {w : World} {cs : Array Value} {d : Pt} (h : cPoint.rd S w cs.toList d) : ∃ a1 p1, cs = #[.int .i64 d.1, .slice a1 d.2.length p1] ∧ SlRd cTerm S w a1 p1 d.2 ∧ I64 d.1 := by
  obtain ⟨a1, p1, he, hr⟩ := Pt_list h
  exact ⟨a1, p1, by rw [← Array.toList_inj, he], hr⟩
theorem op_Pt : Opens Tryd.prog 77 cPoint := opens_struct Tryd.underlying77 (by kernel_rfl) (opensFs_cons rfl op_i64 (opensFs_last rfl op_Terms))
theorem op_Pts : Opens Tryd.prog 24 (cSl cPoint) := opens_sl Tryd.underlying24 (by kernel_rfl) op_Pt (by decide)
set_option maxRecDepth 100000 in
theorem u_szPoint {S : Nat → Prop} {d0 : Int} {a1 : Option Addr} {p1 : Nat} {d1 : List Term} {left : Int} {w : World} (h1 : SlRd cTerm S w a1 p1 d1) (hl0 : 0 ≤ left) (hl1 : left ≤ 1048576) :
    Calls Tryd.prog 36 #[.agg #[.int .i64 d0, .slice a1 d1.length p1], .int .i64 left] w fun e w' => e = .returned (.int .i64 (szR left (szTs d1 : Nat))) ∧ Below w.heap.size w w' := by
  have R1_0 := hid (h1.alloc (.cells #[.int .i64 d0, .slice a1 d1.length p1] 77))
  have HB_0 : Hid (Below w.heap.size w (w.alloc (.cells #[.int .i64 d0, .slice a1 d1.length p1] 77))) := (Below.refl _ _).alloc (Nat.le_refl _) _
  have z_0 : w.heap.size < (w.alloc (.cells #[.int .i64 d0, .slice a1 d1.length p1] 77)).heap.size := by simp
  have t0_0 : (w.alloc (.cells #[.int .i64 d0, .slice a1 d1.length p1] 77)).cell? ⟨w.heap.size, 0, none⟩ = some (.int .i64 d0) := by rw [World.cell?_alloc_at _ _ _ _ rfl]; rfl
  have t1_0 : (w.alloc (.cells #[.int .i64 d0, .slice a1 d1.length p1] 77)).cell? ⟨w.heap.size, 1, none⟩ = some (.slice a1 d1.length p1) := by rw [World.cell?_alloc_at _ _ _ _ rfl]; rfl
  clear h1
  obtain ⟨r0, hr⟩ : ∃ r, szR left (szTs d1 : Nat) = r := ⟨_, rfl⟩
  have l0 : r0 ≤ left := by rw [← hr]; unfold szR; split <;> omega
  have m0 : r0 < 0 → r0 = -1 := by rw [← hr]; unfold szR; split <;> omega
  have HS0 : Hid (szR left ((szTs d1 : Nat) : Int) = r0) := by exact hr
  have HR0 := hid hr
  clear hr
  by_cases g0 : r0 < 0
  · skip
    have h8 : szR left ((szTs d1 : Nat) : Int) < 0 := by rw [HS0.out]; exact g0
    have HF := hid (HS0.out.trans (m0 g0))
    clear h8 m0
    go_enter Tryd.func36, Tryd.ntmps36
    go_wp2_with fail
    refine (u_szTermS R1_0.out (by omega) (by omega)).mono ?_
    rintro e w_1 ⟨rfl, hb⟩
    rw [HR0.out]
    have R1_1 := hid (R1_0.out.below (Nat.le_refl _) hb)
    have HB_1 := hid (bel_next HB_0.out HB_0.out.size hb)
    have t0_1 := cell_below hb z_0 t0_0
    have t1_1 := cell_below hb z_0 t1_0
    have z_1 := Nat.lt_of_lt_of_le z_0 hb.size
    clear hb R1_0 HB_0 t0_0 t1_0 z_0
    go_wp2
    go_ret
    exact ⟨ret_int HF.out.symm, HB_1.out⟩
  clear m0
  go_enter Tryd.func36, Tryd.ntmps36
  go_wp2_with fail
  refine (u_szTermS R1_0.out (by omega) (by omega)).mono ?_
  rintro e w_1 ⟨rfl, hb⟩
  rw [HR0.out]
  have R1_1 := hid (R1_0.out.below (Nat.le_refl _) hb)
  have HB_1 := hid (bel_next HB_0.out HB_0.out.size hb)
  have t0_1 := cell_below hb z_0 t0_0
  have t1_1 := cell_below hb z_0 t1_0
  have z_1 := Nat.lt_of_lt_of_le z_0 hb.size
  clear hb R1_0 HB_0 t0_0 t1_0 z_0
  go_wp2
  go_ret
  exact ⟨ret_int HS0.out.symm, HB_1.out⟩
set_option maxRecDepth 100000 in
theorem u_eqPoint {S T : Nat → Prop} {d0 : Int} {a1 : Option Addr} {p1 : Nat} {d1 : List Term} {yd0 : Int} {ya1 : Option Addr} {yp1 : Nat} {yd1 : List Term} {w : World} (h1 : SlRd cTerm S w a1 p1 d1) (yh1 : SlRd cTerm T w ya1 yp1 yd1) :
    Calls Tryd.prog 56 #[.agg #[.int .i64 d0, .slice a1 d1.length p1], .agg #[.int .i64 yd0, .slice ya1 yd1.length yp1]] w fun e w' => e = .returned (.bool (decide (((d0, d1) : Pt) = (yd0, yd1)))) ∧ Below w.heap.size w w' := by
  have R1_0 := hid ((h1.alloc (.cells #[.int .i64 d0, .slice a1 d1.length p1] 82)).alloc (.cells #[.int .i64 yd0, .slice ya1 yd1.length yp1] 82))
  have yR1_0 := hid ((yh1.alloc (.cells #[.int .i64 d0, .slice a1 d1.length p1] 82)).alloc (.cells #[.int .i64 yd0, .slice ya1 yd1.length yp1] 82))
  have HB_0 : Hid (Below w.heap.size w ((w.alloc (.cells #[.int .i64 d0, .slice a1 d1.length p1] 82)).alloc (.cells #[.int .i64 yd0, .slice ya1 yd1.length yp1] 82))) := ((Below.refl _ _).alloc (Nat.le_refl _) _).alloc (by simp) _
  have z_0 : w.heap.size + 1 < ((w.alloc (.cells #[.int .i64 d0, .slice a1 d1.length p1] 82)).alloc (.cells #[.int .i64 yd0, .slice ya1 yd1.length yp1] 82)).heap.size := by simp
  have t0_0 : ((w.alloc (.cells #[.int .i64 d0, .slice a1 d1.length p1] 82)).alloc (.cells #[.int .i64 yd0, .slice ya1 yd1.length yp1] 82)).cell? ⟨w.heap.size, 0, none⟩ = some (.int .i64 d0) := by simp [go_sem]
  have yt0_0 : ((w.alloc (.cells #[.int .i64 d0, .slice a1 d1.length p1] 82)).alloc (.cells #[.int .i64 yd0, .slice ya1 yd1.length yp1] 82)).cell? ⟨w.heap.size + 1, 0, none⟩ = some (.int .i64 yd0) := by simp [go_sem]
  have t1_0 : ((w.alloc (.cells #[.int .i64 d0, .slice a1 d1.length p1] 82)).alloc (.cells #[.int .i64 yd0, .slice ya1 yd1.length yp1] 82)).cell? ⟨w.heap.size, 1, none⟩ = some (.slice a1 d1.length p1) := by simp [go_sem]
  have yt1_0 : ((w.alloc (.cells #[.int .i64 d0, .slice a1 d1.length p1] 82)).alloc (.cells #[.int .i64 yd0, .slice ya1 yd1.length yp1] 82)).cell? ⟨w.heap.size + 1, 1, none⟩ = some (.slice ya1 yd1.length yp1) := by simp [go_sem]
  clear h1 yh1
  obtain ⟨b0, hb0⟩ : ∃ b, decide (d0 = yd0) = b := ⟨_, rfl⟩
  obtain ⟨b1, hb1⟩ : ∃ b, decide ((d1 : List Term) = yd1) = b := ⟨_, rfl⟩
  have HF : Hid (decide (((d0, d1) : Pt) = (yd0, yd1)) = (b0 && b1)) := by unfold Hid; rw [← hb0, ← hb1, Bool.eq_iff_iff]; simp [Prod.ext_iff]
  have e0 : (d0 != yd0) = !b0 := by rw [← hb0, Bool.eq_iff_iff]; simp
  have HR0 := hid hb0
  clear hb0
  have HR1 := hid hb1
  clear hb1
  cases b0
  · skip
    simp only [Bool.not_false] at e0
    go_enter Tryd.func56, Tryd.ntmps56
    go_wp2
    go_ret
    exact ⟨ret_bool (by rw [HF.out]; simp), HB_0.out⟩
  simp only [Bool.not_true] at e0
  cases b1
  · skip
    go_enter Tryd.func56, Tryd.ntmps56
    go_wp2_with fail
    refine (u_eqTermS R1_0.out yR1_0.out).mono ?_
    rintro e w_1 ⟨rfl, hb⟩
    rw [HR1.out]
    have R1_1 := hid (R1_0.out.below (Nat.le_refl _) hb)
    have yR1_1 := hid (yR1_0.out.below (Nat.le_refl _) hb)
    have HB_1 := hid (bel_next HB_0.out HB_0.out.size hb)
    have t0_1 := cell_below hb (Nat.lt_of_succ_lt z_0) t0_0
    have yt0_1 := cell_below hb z_0 yt0_0
    have t1_1 := cell_below hb (Nat.lt_of_succ_lt z_0) t1_0
    have yt1_1 := cell_below hb z_0 yt1_0
    have z_1 := Nat.lt_of_lt_of_le z_0 hb.size
    clear hb R1_0 yR1_0 HB_0 t0_0 yt0_0 t1_0 yt1_0 z_0
    go_wp2
    go_ret
    exact ⟨ret_bool (by rw [HF.out]; simp), HB_1.out⟩
  go_enter Tryd.func56, Tryd.ntmps56
  go_wp2_with fail
  refine (u_eqTermS R1_0.out yR1_0.out).mono ?_
  rintro e w_1 ⟨rfl, hb⟩
  rw [HR1.out]
  have R1_1 := hid (R1_0.out.below (Nat.le_refl _) hb)
  have yR1_1 := hid (yR1_0.out.below (Nat.le_refl _) hb)
  have HB_1 := hid (bel_next HB_0.out HB_0.out.size hb)
  have t0_1 := cell_below hb (Nat.lt_of_succ_lt z_0) t0_0
  have yt0_1 := cell_below hb z_0 yt0_0
  have t1_1 := cell_below hb (Nat.lt_of_succ_lt z_0) t1_0
  have yt1_1 := cell_below hb z_0 yt1_0
  have z_1 := Nat.lt_of_lt_of_le z_0 hb.size
  clear hb R1_0 yR1_0 HB_0 t0_0 yt0_0 t1_0 yt1_0 z_0
  go_wp2
  go_ret
  exact ⟨ret_bool (by rw [HF.out]; simp), HB_1.out⟩
def RetPoint (x : Pt) (w : World) (e : Ending) (w' : World) : Prop :=
  ∃ a1 p1, e = .returned (.agg #[.int .i64 x.1, .slice a1 x.2.length p1]) ∧ SlRd cTerm (Fresh w.heap.size w') w' a1 p1 x.2 ∧ Below w.heap.size w w'
set_option maxRecDepth 100000 in
set_option maxHeartbeats 1000000 in
theorem u_toPoint {S : Nat → Prop} {d0 : Int} {a1 : Option Addr} {p1 : Nat} {d1 : List Term} {w : World} (h1 : SlRd cTerm S w a1 p1 d1) (hz : szTs d1 ≤ 1048576) :
    Calls Tryd.prog 45 #[.agg #[.int .i64 d0, .slice a1 d1.length p1]] w (RetPoint (d0, d1) w) := by
  have h1 := h1.keep (S' := fun b => S b ∧ b < w.heap.size) (w' := w) (fun b hb hlt => ⟨⟨hb, hlt⟩, rfl⟩)
  have R1_0 := hid (((h1.alloc (.cells #[.int .i64 d0, .slice a1 d1.length p1] 77)).alloc (.cells #[.int .i64 0, .slice none 0 0] 82)).alloc (.cells #[.int .i64 d0, .slice none 0 0] 82))
  have HB_0 : Hid (Below w.heap.size w (((w.alloc (.cells #[.int .i64 d0, .slice a1 d1.length p1] 77)).alloc (.cells #[.int .i64 0, .slice none 0 0] 82)).alloc (.cells #[.int .i64 d0, .slice none 0 0] 82))) := (((Below.refl _ _).alloc (Nat.le_refl _) _).alloc (by simp) _).alloc (by simp; omega) _
  have z_0 : w.heap.size + 1 + 1 < (((w.alloc (.cells #[.int .i64 d0, .slice a1 d1.length p1] 77)).alloc (.cells #[.int .i64 0, .slice none 0 0] 82)).alloc (.cells #[.int .i64 d0, .slice none 0 0] 82)).heap.size := by simp
  have KB_0 : Hid ((((w.alloc (.cells #[.int .i64 d0, .slice a1 d1.length p1] 77)).alloc (.cells #[.int .i64 0, .slice none 0 0] 82)).alloc (.cells #[.int .i64 d0, .slice none 0 0] 82)).heap[w.heap.size]? = some (.cells #[.int .i64 d0, .slice a1 d1.length p1] 77 (0, 0))) := by unfold Hid; rw [Below.heap_alloc _ _ _ (by simp; omega), Below.heap_alloc _ _ _ (by simp)]; exact new_at rfl
  have KR_0 : Hid ((((w.alloc (.cells #[.int .i64 d0, .slice a1 d1.length p1] 77)).alloc (.cells #[.int .i64 0, .slice none 0 0] 82)).alloc (.cells #[.int .i64 d0, .slice none 0 0] 82)).heap[w.heap.size + 1]? = some (.cells #[.int .i64 0, .slice none 0 0] 82 (0, 0))) := by unfold Hid; rw [Below.heap_alloc _ _ _ (by simp)]; exact new_at (by simp)
  have KL_0 : Hid ((((w.alloc (.cells #[.int .i64 d0, .slice a1 d1.length p1] 77)).alloc (.cells #[.int .i64 0, .slice none 0 0] 82)).alloc (.cells #[.int .i64 d0, .slice none 0 0] 82)).heap[w.heap.size + 1 + 1]? = some (.cells #[.int .i64 d0, .slice none 0 0] 82 (0, 0))) := new_at (by simp)
  clear h1
  go_enter Tryd.func45, Tryd.ntmps45
  go_wp2_with fail
  generalize (((w.alloc (.cells #[.int .i64 d0, .slice a1 d1.length p1] 77)).alloc (.cells #[.int .i64 0, .slice none 0 0] 82)).alloc (.cells #[.int .i64 d0, .slice none 0 0] 82)) = wc_0 at *
  refine (u_toTermS R1_0.out (by omega)).mono ?_
  rintro e w_1 ⟨na1, np1, rfl, hs1, hb⟩
  have R1_1 := hid (R1_0.out.below (Nat.le_refl _) hb)
  have N1_1 := hid (hs1.lower (B' := w.heap.size + 1 + 1 + 1) z_0)
  have HB_1 := hid (bel_next HB_0.out HB_0.out.size hb)
  have KB_1 := hid ((hb.block (w.heap.size) (by omega)).trans KB_0.out)
  have KR_1 := hid ((hb.block (w.heap.size + 1) (by omega)).trans KR_0.out)
  have KL_1 := hid ((hb.block (w.heap.size + 1 + 1) (by omega)).trans KL_0.out)
  have z_1 := Nat.lt_of_lt_of_le z_0 hb.size
  clear hb hs1 R1_0  HB_0 KB_0 KR_0 KL_0 z_0
  have tb0 := cell_of KB_1.out (j := 0) rfl
  have tl0 := cell_of KL_1.out (j := 0) rfl
  have fl0 := frz_of KL_1.out 0
  have tr0 := cell_of KR_1.out (j := 0) rfl
  have fr0 := frz_of KR_1.out 0
  have tb1 := cell_of KB_1.out (j := 1) rfl
  have tl1 := cell_of KL_1.out (j := 1) rfl
  have fl1 := frz_of KL_1.out 1
  have tr1 := cell_of KR_1.out (j := 1) rfl
  have fr1 := frz_of KR_1.out 1
  go_wp2
  refine bodyPost_ret (v := .agg #[.int .i64 d0, .slice na1 d1.length np1]) (by simp [results, Tryd.results45, go_sem, tr0, tr1]) rfl ⟨na1, np1, rfl, ?_, ?_⟩
  · exact (((N1_1.out.setC (by simp) _).setC (by simp) _).setC (by simp) _).lower (by omega)
  · exact (((HB_1.out.setCell (by simp <;> omega) _).setCell (by simp <;> omega) _).setCell (by simp <;> omega) _)
abbrev cPoints : Codec (List Pt) := cSl cPoint
abbrev nPoints : Norm cPoints := nSl nPoint
def szPt (x : Pt) : Nat := szTs x.2
def szPts (xs : List Pt) : Nat := xs.length + (xs.map szPt).sum
theorem szPts_le {x : Pt} {xs : List Pt} (h : x ∈ xs) : szPt x ≤ szPts xs := by have := sumf_mem (f := szPt) h; unfold szPts; omega
theorem SlRd.pt_at {S : Nat → Prop} {w : World} {b off cap : Nat} {xs : List Pt} (h : SlRd cPoint S w (some ⟨b, off, none⟩) cap xs) (k : Nat) (hk : k < xs.length) :
    ∃ (d0 : Int) (a1 : Option Addr) (p1 : Nat) (d1 : List Term), xs[k]? = some (d0, d1) ∧ I64 d0 ∧ SlRd cTerm S w a1 p1 d1 ∧ w.cell? ⟨b, off + k * 2, none⟩ = some (.int .i64 d0) ∧ w.cell? ⟨b, off + k * 2 + 1, none⟩ = some (.slice a1 d1.length p1) ∧ b < w.heap.size := by
  obtain ⟨x, cs, h1, hr, h7, _, hc⟩ := h.at k hk
  obtain ⟨a1, p1, rfl, r1, r0⟩ := Pt_list hr
  exact ⟨x.1, a1, p1, x.2, h1, r0, r1, hc 0 _ rfl, hc 1 _ rfl, h7⟩
theorem own_at_Pt {S : Nat → Prop} {w : World} {base : Nat} {e : TypeId} {zl : List Pt} {g cap n : Nat} (h : OwnSl cPoint S w base e (.slice (some ⟨g, 0, none⟩) n cap) zl) (hn : zl.length = n) (k : Nat) (hk : k < n) :
    ∃ (d0 : Int) (a1 : Option Addr) (p1 : Nat) (d1 : List Term), w.cell? ⟨g, k * 2, none⟩ = some (.int .i64 d0) ∧ w.cell? ⟨g, k * 2 + 1, none⟩ = some (.slice a1 d1.length p1) ∧ w.frozen? ⟨g, k * 2, none⟩ = false ∧ w.frozen? ⟨g, k * 2 + 1, none⟩ = false ∧ g < w.heap.size := by
  obtain ⟨x, cs, h1, hr, h2, h3, h4, h5⟩ := own_at h hn k hk
  obtain ⟨a1, p1, rfl, r1, r0⟩ := Pt_list hr
  exact ⟨x.1, a1, p1, x.2, h4 0 _ rfl, h4 1 _ rfl, h5 _, h5 _, h2⟩
set_option maxRecDepth 100000 in
theorem own_set_Pt {B B' base : Nat} {w : World} {e : TypeId} {zl : List Pt} {g cap n : Nat} (h : OwnSl cPoint (Fresh B w) w base e (.slice (some ⟨g, 0, none⟩) n cap) zl) (hn : zl.length = n) (k : Nat) (hk : k < n)
    {d0 : Int} {a1 : Option Addr} {p1 : Nat} {d1 : List Term} (i0 : I64 d0) (h1 : SlRd cTerm (Fresh B' w) w a1 p1 d1) (hB : B ≤ B') (hg : g < B') :
    OwnSl cPoint (Fresh B ((w.setCell ⟨g, k * 2, none⟩ (.int .i64 d0)).setCell ⟨g, k * 2 + 1, none⟩ (.slice a1 d1.length p1))) ((w.setCell ⟨g, k * 2, none⟩ (.int .i64 d0)).setCell ⟨g, k * 2 + 1, none⟩ (.slice a1 d1.length p1)) base e (.slice (some ⟨g, 0, none⟩) n cap) (zl.set k (d0, d1)) ∧ w.grownBy ((w.setCell ⟨g, k * 2, none⟩ (.int .i64 d0)).setCell ⟨g, k * 2 + 1, none⟩ (.slice a1 d1.length p1)) (some g) := by
  have k1 : SlRd cTerm (fun b => Fresh B w b ∧ b ≠ g) w a1 p1 d1 := h1.keep fun b hb hl => ⟨⟨⟨Nat.le_trans hB hb.1, hb.2⟩, by have := hb.1; omega⟩, rfl⟩
  have h9 := own_set h hn k hk [.int .i64 d0, .slice a1 d1.length p1] (d0, d1) (rd_pair (rd_i i0) (rd_sl k1))
  exact ⟨own_refresh h9.1 fun b hb => thawed_setCell (thawed_setCell (hb) _ _) _ _, h9.2⟩
theorem slPt : SlT Tryd.prog 32 82 (.agg #[.int .i64 0, .slice none 0 0]) 2 32 := ⟨Tryd.underlying32, by kernel_rfl, rfl, by decide, by decide⟩
set_option maxRecDepth 100000 in
theorem u_szPointS {S : Nat → Prop} {a : Option Addr} {p : Nat} {xs : List Pt} {left : Int} {w : World} (h : SlRd cPoint S w a p xs) (h0 : 0 ≤ left) (h1 : left ≤ 1048576) :
    Calls Tryd.prog 17 #[.slice a xs.length p, .int .i64 left] w fun e w' => e = .returned (.int .i64 (szR left (szPts xs : Nat))) ∧ Below w.heap.size w w' := by
  have H := hid h
  have hl := h.len_le
  clear h
  by_cases hs : left < xs.length
  · have HF : Hid (szR left (szPts xs : Nat) = -1) := szR_neg (n := xs.length) (by unfold szR; rw [if_pos hs]; omega)
    have h' : left - (xs.length : Int) < 0 := by omega
    go_enter Tryd.func17, Tryd.ntmps17
    go_wp2
    go_ret
    exact ⟨ret_int HF.out.symm, Below.refl _ _⟩
  · have h' : 0 ≤ left - (xs.length : Int) := by omega
    go_enter Tryd.func17, Tryd.ntmps17
    go_wp2
    go_loopw [1, 5] (fun u i wr => ∃ (k : Nat) (r : Int), k ≤ xs.length ∧ i = .int .i64 k ∧ u = .int .i64 r ∧ 0 ≤ r ∧ r ≤ left ∧ Hid (r = szR left (xs.length + ((xs.take k).map szPt).sum : Nat)) ∧ Below w.heap.size w wr) (fun _ i _ => xs.length - (intOf i).toNat)
    case atStart => exact ⟨0, _, Nat.zero_le _, rfl, rfl, h', by omega, by (unfold Hid szR; simp; omega), Below.refl _ _⟩
    case round =>
      obtain ⟨k, r, hk, rfl, rfl, hr0, hr1, HR, hbe⟩ := hrel
      have hsz := hbe.size
      by_cases hlt : k < xs.length
      · obtain ⟨b, off, rfl⟩ := H.out.some_of hlt
        obtain ⟨d0, a1, p1, d1, hz, hi0, hs1, hc0, hc1, hb⟩ := (H.out.below (Nat.le_refl _) hbe).pt_at k hlt
        have HZ := hid hz
        clear hz
        have HC := hid (fun (hr1 : r ≤ 1048576) => u_szPoint (w := wr) (d0 := d0) hs1 hr0 hr1)
        clear hs1
        obtain ⟨q, hq⟩ : ∃ q, szR r (szPt (d0, d1) : Nat) = q := ⟨_, rfl⟩
        have hqs : q = szR left (xs.length + ((xs.take (k + 1)).map szPt).sum : Nat) := by
          rw [← hq, sumf_take HZ.out]
          have hr := HR.out
          rw [hr] at hr0
          rw [hr, szR_add hr0, Nat.add_assoc]
        have hq1 : q ≤ r := by rw [← hq]; unfold szR; split <;> omega
        have HQ : Hid (szR r (szTs d1 : Nat) = q) := hq
        have HS := hid hqs
        clear hq hqs
        by_cases hneg : q < 0
        · have HF : Hid (szR left (szPts xs : Nat) = -1) := by
            have h2 := HS.out
            rw [h2] at hneg
            have h3 : szPts xs = (xs.length + ((xs.take (k + 1)).map szPt).sum) + ((xs.map szPt).sum - ((xs.take (k + 1)).map szPt).sum) := by
              have := sumf_take_le szPt xs (k + 1)
              unfold szPts; omega
            unfold Hid; rw [h3]; exact szR_neg hneg
          go_wp2_with (go_at_call 36; refine (HC.out (by omega)).mono ?_; rintro e w1 ⟨rfl, hb1⟩; rw [HQ.out])
          go_ret
          exact ⟨ret_int HF.out.symm, bel_next hbe hsz hb1⟩
        · go_wp2_with (go_at_call 36; refine (HC.out (by omega)).mono ?_; rintro e w1 ⟨rfl, hb1⟩; rw [HQ.out])
          go_roundw
          case rel => exact ⟨k + 1, q, by omega, by go_num, rfl, by omega, by omega, HS, bel_next hbe hsz hb1⟩
          case measure => simp [intOf]; omega
      · go_wp2
        go_ret
        exact ⟨ret_int (by rw [HR.out, List.take_of_length_le (by omega)]; rfl), hbe⟩
set_option maxRecDepth 100000 in
set_option maxHeartbeats 1000000 in
theorem u_toPointS {S : Nat → Prop} {a : Option Addr} {p : Nat} {xs : List Pt} {w : World} (h : SlRd cPoint S w a p xs) (hz : szPts xs ≤ 1048576) :
    Calls Tryd.prog 22 #[.slice a xs.length p] w (RetSl cPoint xs w) := by
  have H := hid h
  have hn : xs.length ≤ 1048576 := by unfold szPts at hz; omega
  have HN : Hid (∀ x ∈ xs, szPt x ≤ 1048576) := fun x hx => Nat.le_trans (szPts_le hx) hz
  clear h hz
  go_enter Tryd.func22, Tryd.ntmps22
  go_wp2_with (at_make; go_loud (refine wpList_mk rfl (.tmp 6) (.tmp 6) _ rfl rfl rfl (own_mk slPt (C := cPoint) (base := w.heap.size) (fun _ => False) xs.length (by omega) (Nat.le_refl _) (0, []) (fun _ _ => rd_pair rd_int0 rd_nil) _ _) ?_); rintro w1 ⟨hown, hg⟩)
  have hlt0 : w.heap.size < w1.heap.size := (own_lt hown _ rfl).2
  have HO := hid hown
  have HG := hid hg
  clear hown hg
  go_loopw [4] (fun i wr => ∃ k : Nat, k ≤ xs.length ∧ i = .int .i64 k ∧ Hid (OwnSl cPoint (Fresh w.heap.size wr) wr w.heap.size 82 (.slice (some ⟨w.heap.size, 0, none⟩) xs.length xs.length) (xs.take k ++ List.replicate (xs.length - k) (0, []))) ∧ Below w.heap.size w wr ∧ w.heap.size < wr.heap.size) (fun i _ => xs.length - (intOf i).toNat)
  case atStart => exact ⟨0, Nat.zero_le _, rfl, by simpa [Hid] using own_keep (S' := Fresh w.heap.size w1) HO.out (fun _ h => h.elim) (fun _ _ _ => rfl), (Below.refl _ _).grown HG.out (Nat.le_refl _) (by simp), hlt0⟩
  case round =>
    obtain ⟨k, hk, rfl, HW, hbe, hgl⟩ := hrel
    have hsz := hbe.size
    by_cases hlt : k < xs.length
    · obtain ⟨b, off, rfl⟩ := H.out.some_of hlt
      obtain ⟨d0, a1, p1, d1, hz, hi0, hs1, hc0, hc1, hb⟩ := (H.out.below (Nat.le_refl _) hbe).pt_at k hlt
      have hzl := HN.out _ (List.mem_of_getElem? hz)
      have HC := hid (u_toPoint (w := wr) (d0 := d0) hs1 hzl)
      have HZ := hid hz
      clear hz hzl hs1
      go_wp2_with (go_at_call 45; refine HC.out.mono ?_; rintro e w2 ⟨na1, np1, rfl, nh1, hb2⟩; simp only at nh1 ⊢; have hw2 := own_fresh HW.out (Nat.le_refl _) (Nat.le_refl _) hb2; obtain ⟨_, _, _, _, g0, g1, f0, f1, _⟩ := own_at_Pt hw2 (fill_len rfl hk) k hlt; have HW2 := hid hw2; have NH1 := hid nh1; have hz2 := hb2.size; have HB2 := hid hb2; clear hw2 hb2 nh1)
      go_roundw
      case rel =>
        obtain ⟨h1, h2⟩ := own_set_Pt HW2.out (fill_len rfl hk) k hlt hi0 NH1.out hsz hgl
        rw [fill_set rfl hlt HZ.out] at h1
        exact ⟨k + 1, by omega, by go_num, h1, (((hbe.trans (HB2.out.mono hsz)).setCell (Nat.le_refl _) _).setCell (Nat.le_refl _) _), by simp [World.setCell]; omega⟩
      case measure => simp [intOf]; omega
    · go_wp2
      go_ret
      have hown := HW.out
      rw [fill_end rfl (by omega)] at hown
      exact retSl_own hown (fun _ h _ => h) hbe
set_option maxRecDepth 100000 in
set_option maxHeartbeats 1000000 in
theorem u_eqPointS {S T : Nat → Prop} {a b : Option Addr} {ca cb : Nat} {xs ys : List Pt} {w : World} (hx : SlRd cPoint S w a ca xs) (hy : SlRd cPoint T w b cb ys) :
    Calls Tryd.prog 27 #[.slice a xs.length ca, .slice b ys.length cb] w fun e w' => e = .returned (.bool (decide (xs = ys))) ∧ Below w.heap.size w w' := by
  have HX := hid hx
  have HY := hid hy
  have hlx := hx.len_le
  have hly := hy.len_le
  clear hx hy
  by_cases hl : xs.length = ys.length
  · have h1 : ((xs.length : Int) != ys.length) = false := by simp [hl]
    have hl1 : xs.length ≤ ys.length := by omega
    have hl2 : ys.length ≤ xs.length := by omega
    clear hl
    go_enter Tryd.func27, Tryd.ntmps27
    go_wp2
    go_loopw [5] (fun i wr => ∃ k : Nat, k ≤ xs.length ∧ i = .int .i64 k ∧ Hid (xs.take k = ys.take k) ∧ Below w.heap.size w wr) (fun i _ => xs.length - (intOf i).toNat)
    case atStart => exact ⟨0, Nat.zero_le _, rfl, rfl, Below.refl _ _⟩
    case round =>
      obtain ⟨k, hk, rfl, HA, hbe⟩ := hrel
      have hsz := hbe.size
      by_cases hlt : k < xs.length
      · obtain ⟨b1, off1, rfl⟩ := HX.out.some_of hlt
        obtain ⟨b2, off2, rfl⟩ := HY.out.some_of (k := k) (by omega)
        obtain ⟨d0, a1, p1, d1, hxk, hi0, hs1, hc0, hc1, hb⟩ := (HX.out.below (Nat.le_refl _) hbe).pt_at k hlt
        obtain ⟨yd0, ya1, yp1, yd1, hyk, yi0, ys1, yc0, yc1, hby⟩ := (HY.out.below (Nat.le_refl _) hbe).pt_at k (by omega)
        have HXK := hid hxk
        have HYK := hid hyk
        have HC := hid (u_eqPoint (w := wr.drew) (d0 := d0) (yd0 := yd0) hs1.drew ys1.drew)
        clear hxk hyk hs1 ys1
        have i1 : (0 : Int) ≤ (k : Int) := by omega
        have i2 : (k : Int) < (xs.length : Int) := by omega
        have i3 : (k : Int) < (ys.length : Int) := by omega
        obtain ⟨r, hr⟩ : ∃ r, decide (((d0, d1) : Pt) = (yd0, yd1)) = r := ⟨_, rfl⟩
        have HR := hid hr
        clear hr
        cases r
        · go_wp2
          go_still_tail 8, (by kernel_rfl)
          change wpList _ _ _ _ _ wr.drew
          go_wp2_with (go_at_call 56; refine HC.out.mono ?_; rintro e w1 ⟨rfl, hb1⟩; rw [HR.out])
          go_ret
          exact ⟨ret_bool (by simp [ne_at HXK.out HYK.out (of_decide_eq_false HR.out)]), hbe.drew.trans (hb1.mono hsz)⟩
        · go_wp2
          go_still_tail 8, (by kernel_rfl)
          change wpList _ _ _ _ _ wr.drew
          go_wp2_with (go_at_call 56; refine HC.out.mono ?_; rintro e w1 ⟨rfl, hb1⟩; rw [HR.out])
          go_roundw
          case rel => exact ⟨k + 1, by omega, by go_num, take_eq_snoc HA.out HXK.out HYK.out (of_decide_eq_true HR.out), hbe.drew.trans (hb1.mono hsz)⟩
          case measure => simp [intOf]; omega
      · go_wp2
        go_ret
        exact ⟨ret_bool (by simp [take_all_eq HA.out (by omega) (by omega)]), hbe⟩
  · have h1 : ((xs.length : Int) != ys.length) = true := by simp; omega
    have HF : Hid (decide (xs = ys) = false) := by unfold Hid; simp; rintro rfl; exact hl rfl
    clear hl
    go_enter Tryd.func27, Tryd.ntmps27
    go_wp2
    go_ret
    exact ⟨ret_bool HF.out.symm, Below.refl _ _⟩
end Go.Proofs.YtcmopmapdomneaaDoor
end

section
namespace Go.Proofs.YtcmopmapdomneaaDoor
open Go.RowKit
abbrev An := List Term × List Term × List Instr × List Pt
abbrev cAnnotated : Codec An := cPair cTerms (cPair cTerms (cPair cCode cPoints))
abbrev nAnnotated : Norm cAnnotated := nPair nTerms (nPair nTerms (nPair nCode nPoints))
instance dec_An_1 : DecidableEq (List Term × List Instr × List Pt) := inferInstance
instance dec_An : DecidableEq An := inferInstance
theorem An_list {S : Nat → Prop} {w : World} {cs : List Value} {d : An} (h : cAnnotated.rd S w cs d) : ∃ a0 p0 a1 p1 a2 p2 a3 p3, cs = [.slice a0 d.1.length p0, .slice a1 d.2.1.length p1, .slice a2 d.2.2.1.length p2, .slice a3 d.2.2.2.length p3] ∧ SlRd cTerm S w a0 p0 d.1 ∧ SlRd cTerm S w a1 p1 d.2.1 ∧ SlRd cInstr S w a2 p2 d.2.2.1 ∧ SlRd cPoint S w a3 p3 d.2.2.2 := by
  obtain ⟨_, _, rfl, ⟨a0, p0, rfl, r0⟩, ⟨_, _, rfl, ⟨a1, p1, rfl, r1⟩, ⟨_, _, rfl, ⟨a2, p2, rfl, r2⟩, ⟨a3, p3, rfl, r3⟩⟩⟩⟩ := h
  exact ⟨a0, p0, a1, p1, a2, p2, a3, p3, rfl, r0, r1, r2, r3⟩
theorem An_arr {S : Nat → Prop} {w : World} {cs : Array Value} {d : An} (h : cAnnotated.rd S w cs.toList d) : ∃ a0 p0 a1 p1 a2 p2 a3 p3, cs = #[.slice a0 d.1.length p0, .slice a1 d.2.1.length p1, .slice a2 d.2.2.1.length p2, .slice a3 d.2.2.2.length p3] ∧ SlRd cTerm S w a0 p0 d.1 ∧ SlRd cTerm S w a1 p1 d.2.1 ∧ SlRd cInstr S w a2 p2 d.2.2.1 ∧ SlRd cPoint S w a3 p3 d.2.2.2 := by
  obtain ⟨a0, p0, a1, p1, a2, p2, a3, p3, he, hr⟩ := An_list h
  exact ⟨a0, p0, a1, p1, a2, p2, a3, p3, by rw [← Array.toList_inj, he], hr⟩
theorem op_An : Opens Tryd.prog 26 cAnnotated := opens_struct Tryd.underlying26 (by kernel_rfl) (opensFs_cons rfl op_Terms (opensFs_cons rfl op_Terms (opensFs_cons rfl op_Code (opensFs_last rfl op_Pts))))
set_option maxRecDepth 100000 in
theorem u_szAnnotated {S : Nat → Prop} {a0 : Option Addr} {p0 : Nat} {d0 : List Term} {a1 : Option Addr} {p1 : Nat} {d1 : List Term} {a2 : Option Addr} {p2 : Nat} {d2 : List Instr} {a3 : Option Addr} {p3 : Nat} {d3 : List Pt} {left : Int} {w : World} (h0 : SlRd cTerm S w a0 p0 d0) (h1 : SlRd cTerm S w a1 p1 d1) (h2 : SlRd cInstr S w a2 p2 d2) (h3 : SlRd cPoint S w a3 p3 d3) (hl0 : 0 ≤ left) (hl1 : left ≤ 1048576) :
    Calls Tryd.prog 5 #[.agg #[.slice a0 d0.length p0, .slice a1 d1.length p1, .slice a2 d2.length p2, .slice a3 d3.length p3], .int .i64 left] w fun e w' => e = .returned (.int .i64 (szR left ((szTs d0 + szTs d1 + d2.length + szPts d3) : Nat))) ∧ Below w.heap.size w w' := by
  have R0_0 := hid (h0.alloc (.cells #[.slice a0 d0.length p0, .slice a1 d1.length p1, .slice a2 d2.length p2, .slice a3 d3.length p3] 26))
  have R1_0 := hid (h1.alloc (.cells #[.slice a0 d0.length p0, .slice a1 d1.length p1, .slice a2 d2.length p2, .slice a3 d3.length p3] 26))
  have R2_0 := hid (h2.alloc (.cells #[.slice a0 d0.length p0, .slice a1 d1.length p1, .slice a2 d2.length p2, .slice a3 d3.length p3] 26))
  have R3_0 := hid (h3.alloc (.cells #[.slice a0 d0.length p0, .slice a1 d1.length p1, .slice a2 d2.length p2, .slice a3 d3.length p3] 26))
  have HB_0 : Hid (Below w.heap.size w (w.alloc (.cells #[.slice a0 d0.length p0, .slice a1 d1.length p1, .slice a2 d2.length p2, .slice a3 d3.length p3] 26))) := (Below.refl _ _).alloc (Nat.le_refl _) _
  have z_0 : w.heap.size < (w.alloc (.cells #[.slice a0 d0.length p0, .slice a1 d1.length p1, .slice a2 d2.length p2, .slice a3 d3.length p3] 26)).heap.size := by simp
  have t0_0 : (w.alloc (.cells #[.slice a0 d0.length p0, .slice a1 d1.length p1, .slice a2 d2.length p2, .slice a3 d3.length p3] 26)).cell? ⟨w.heap.size, 0, none⟩ = some (.slice a0 d0.length p0) := by rw [World.cell?_alloc_at _ _ _ _ rfl]; rfl
  have t1_0 : (w.alloc (.cells #[.slice a0 d0.length p0, .slice a1 d1.length p1, .slice a2 d2.length p2, .slice a3 d3.length p3] 26)).cell? ⟨w.heap.size, 1, none⟩ = some (.slice a1 d1.length p1) := by rw [World.cell?_alloc_at _ _ _ _ rfl]; rfl
  have t2_0 : (w.alloc (.cells #[.slice a0 d0.length p0, .slice a1 d1.length p1, .slice a2 d2.length p2, .slice a3 d3.length p3] 26)).cell? ⟨w.heap.size, 2, none⟩ = some (.slice a2 d2.length p2) := by rw [World.cell?_alloc_at _ _ _ _ rfl]; rfl
  have t3_0 : (w.alloc (.cells #[.slice a0 d0.length p0, .slice a1 d1.length p1, .slice a2 d2.length p2, .slice a3 d3.length p3] 26)).cell? ⟨w.heap.size, 3, none⟩ = some (.slice a3 d3.length p3) := by rw [World.cell?_alloc_at _ _ _ _ rfl]; rfl
  clear h0 h1 h2 h3
  obtain ⟨r0, hr⟩ : ∃ r, szR left (szTs d0 : Nat) = r := ⟨_, rfl⟩
  have l0 : r0 ≤ left := by rw [← hr]; unfold szR; split <;> omega
  have m0 : r0 < 0 → r0 = -1 := by rw [← hr]; unfold szR; split <;> omega
  have HS0 : Hid (szR left ((szTs d0 : Nat) : Int) = r0) := by exact hr
  have HR0 := hid hr
  clear hr
  by_cases g0 : r0 < 0
  · skip
    have h8 : szR left ((szTs d0 : Nat) : Int) < 0 := by rw [HS0.out]; exact g0
    have h8 := szR_neg (m := szTs d1) h8
    have h8 : szR left ((szTs d0 + szTs d1 : Nat) : Int) < 0 := by rw [h8]; decide
    have h8 := szR_neg (m := d2.length) h8
    have h8 : szR left ((szTs d0 + szTs d1 + d2.length : Nat) : Int) < 0 := by rw [h8]; decide
    have h8 := szR_neg (m := szPts d3) h8
    have HF := hid h8
    clear h8 m0
    go_enter Tryd.func5, Tryd.ntmps5
    go_wp2_with fail
    refine (u_szTermS R0_0.out (by omega) (by omega)).mono ?_
    rintro e w_1 ⟨rfl, hb⟩
    rw [HR0.out]
    have R0_1 := hid (R0_0.out.below (Nat.le_refl _) hb)
    have R1_1 := hid (R1_0.out.below (Nat.le_refl _) hb)
    have R2_1 := hid (R2_0.out.below (Nat.le_refl _) hb)
    have R3_1 := hid (R3_0.out.below (Nat.le_refl _) hb)
    have HB_1 := hid (bel_next HB_0.out HB_0.out.size hb)
    have t0_1 := cell_below hb z_0 t0_0
    have t1_1 := cell_below hb z_0 t1_0
    have t2_1 := cell_below hb z_0 t2_0
    have t3_1 := cell_below hb z_0 t3_0
    have z_1 := Nat.lt_of_lt_of_le z_0 hb.size
    clear hb R0_0 R1_0 R2_0 R3_0 HB_0 t0_0 t1_0 t2_0 t3_0 z_0
    go_wp2
    go_ret
    exact ⟨ret_int HF.out.symm, HB_1.out⟩
  clear m0
  obtain ⟨r1, hr⟩ : ∃ r, szR r0 (szTs d1 : Nat) = r := ⟨_, rfl⟩
  have l1 : r1 ≤ r0 := by rw [← hr]; unfold szR; split <;> omega
  have m1 : r1 < 0 → r1 = -1 := by rw [← hr]; unfold szR; split <;> omega
  have HS1 : Hid (szR left ((szTs d0 + szTs d1 : Nat) : Int) = r1) := by have h9 := HS0.out; unfold Hid; rw [← hr, ← h9, szR_add (by rw [h9]; omega)]
  have HR1 := hid hr
  clear hr
  by_cases g1 : r1 < 0
  · skip
    have h8 : szR left ((szTs d0 + szTs d1 : Nat) : Int) < 0 := by rw [HS1.out]; exact g1
    have h8 := szR_neg (m := d2.length) h8
    have h8 : szR left ((szTs d0 + szTs d1 + d2.length : Nat) : Int) < 0 := by rw [h8]; decide
    have h8 := szR_neg (m := szPts d3) h8
    have HF := hid h8
    clear h8 m1
    go_enter Tryd.func5, Tryd.ntmps5
    go_wp2_with fail
    refine (u_szTermS R0_0.out (by omega) (by omega)).mono ?_
    rintro e w_1 ⟨rfl, hb⟩
    rw [HR0.out]
    have R0_1 := hid (R0_0.out.below (Nat.le_refl _) hb)
    have R1_1 := hid (R1_0.out.below (Nat.le_refl _) hb)
    have R2_1 := hid (R2_0.out.below (Nat.le_refl _) hb)
    have R3_1 := hid (R3_0.out.below (Nat.le_refl _) hb)
    have HB_1 := hid (bel_next HB_0.out HB_0.out.size hb)
    have t0_1 := cell_below hb z_0 t0_0
    have t1_1 := cell_below hb z_0 t1_0
    have t2_1 := cell_below hb z_0 t2_0
    have t3_1 := cell_below hb z_0 t3_0
    have z_1 := Nat.lt_of_lt_of_le z_0 hb.size
    clear hb R0_0 R1_0 R2_0 R3_0 HB_0 t0_0 t1_0 t2_0 t3_0 z_0
    go_wp2_with fail
    refine (u_szTermS R1_1.out (by omega) (by omega)).mono ?_
    rintro e w_2 ⟨rfl, hb⟩
    rw [HR1.out]
    have R0_2 := hid (R0_1.out.below (Nat.le_refl _) hb)
    have R1_2 := hid (R1_1.out.below (Nat.le_refl _) hb)
    have R2_2 := hid (R2_1.out.below (Nat.le_refl _) hb)
    have R3_2 := hid (R3_1.out.below (Nat.le_refl _) hb)
    have HB_2 := hid (bel_next HB_1.out HB_1.out.size hb)
    have t0_2 := cell_below hb z_1 t0_1
    have t1_2 := cell_below hb z_1 t1_1
    have t2_2 := cell_below hb z_1 t2_1
    have t3_2 := cell_below hb z_1 t3_1
    have z_2 := Nat.lt_of_lt_of_le z_1 hb.size
    clear hb R0_1 R1_1 R2_1 R3_1 HB_1 t0_1 t1_1 t2_1 t3_1 z_1
    go_wp2
    go_ret
    exact ⟨ret_int HF.out.symm, HB_2.out⟩
  clear m1
  obtain ⟨r2, hr⟩ : ∃ r, szR r1 (d2.length : Nat) = r := ⟨_, rfl⟩
  have l2 : r2 ≤ r1 := by rw [← hr]; unfold szR; split <;> omega
  have m2 : r2 < 0 → r2 = -1 := by rw [← hr]; unfold szR; split <;> omega
  have HS2 : Hid (szR left ((szTs d0 + szTs d1 + d2.length : Nat) : Int) = r2) := by have h9 := HS1.out; unfold Hid; rw [← hr, ← h9, szR_add (by rw [h9]; omega)]
  have HR2 := hid hr
  clear hr
  by_cases g2 : r2 < 0
  · skip
    have h8 : szR left ((szTs d0 + szTs d1 + d2.length : Nat) : Int) < 0 := by rw [HS2.out]; exact g2
    have h8 := szR_neg (m := szPts d3) h8
    have HF := hid h8
    clear h8 m2
    go_enter Tryd.func5, Tryd.ntmps5
    go_wp2_with fail
    refine (u_szTermS R0_0.out (by omega) (by omega)).mono ?_
    rintro e w_1 ⟨rfl, hb⟩
    rw [HR0.out]
    have R0_1 := hid (R0_0.out.below (Nat.le_refl _) hb)
    have R1_1 := hid (R1_0.out.below (Nat.le_refl _) hb)
    have R2_1 := hid (R2_0.out.below (Nat.le_refl _) hb)
    have R3_1 := hid (R3_0.out.below (Nat.le_refl _) hb)
    have HB_1 := hid (bel_next HB_0.out HB_0.out.size hb)
    have t0_1 := cell_below hb z_0 t0_0
    have t1_1 := cell_below hb z_0 t1_0
    have t2_1 := cell_below hb z_0 t2_0
    have t3_1 := cell_below hb z_0 t3_0
    have z_1 := Nat.lt_of_lt_of_le z_0 hb.size
    clear hb R0_0 R1_0 R2_0 R3_0 HB_0 t0_0 t1_0 t2_0 t3_0 z_0
    go_wp2_with fail
    refine (u_szTermS R1_1.out (by omega) (by omega)).mono ?_
    rintro e w_2 ⟨rfl, hb⟩
    rw [HR1.out]
    have R0_2 := hid (R0_1.out.below (Nat.le_refl _) hb)
    have R1_2 := hid (R1_1.out.below (Nat.le_refl _) hb)
    have R2_2 := hid (R2_1.out.below (Nat.le_refl _) hb)
    have R3_2 := hid (R3_1.out.below (Nat.le_refl _) hb)
    have HB_2 := hid (bel_next HB_1.out HB_1.out.size hb)
    have t0_2 := cell_below hb z_1 t0_1
    have t1_2 := cell_below hb z_1 t1_1
    have t2_2 := cell_below hb z_1 t2_1
    have t3_2 := cell_below hb z_1 t3_1
    have z_2 := Nat.lt_of_lt_of_le z_1 hb.size
    clear hb R0_1 R1_1 R2_1 R3_1 HB_1 t0_1 t1_1 t2_1 t3_1 z_1
    go_wp2_with fail
    refine (u_szInstrS R2_2.out (by omega) (by omega)).mono ?_
    rintro e w_3 ⟨rfl, hb⟩
    rw [HR2.out]
    have R0_3 := hid (R0_2.out.below (Nat.le_refl _) hb)
    have R1_3 := hid (R1_2.out.below (Nat.le_refl _) hb)
    have R2_3 := hid (R2_2.out.below (Nat.le_refl _) hb)
    have R3_3 := hid (R3_2.out.below (Nat.le_refl _) hb)
    have HB_3 := hid (bel_next HB_2.out HB_2.out.size hb)
    have t0_3 := cell_below hb z_2 t0_2
    have t1_3 := cell_below hb z_2 t1_2
    have t2_3 := cell_below hb z_2 t2_2
    have t3_3 := cell_below hb z_2 t3_2
    have z_3 := Nat.lt_of_lt_of_le z_2 hb.size
    clear hb R0_2 R1_2 R2_2 R3_2 HB_2 t0_2 t1_2 t2_2 t3_2 z_2
    go_wp2
    go_ret
    exact ⟨ret_int HF.out.symm, HB_3.out⟩
  clear m2
  obtain ⟨r3, hr⟩ : ∃ r, szR r2 (szPts d3 : Nat) = r := ⟨_, rfl⟩
  have l3 : r3 ≤ r2 := by rw [← hr]; unfold szR; split <;> omega
  have m3 : r3 < 0 → r3 = -1 := by rw [← hr]; unfold szR; split <;> omega
  have HS3 : Hid (szR left ((szTs d0 + szTs d1 + d2.length + szPts d3 : Nat) : Int) = r3) := by have h9 := HS2.out; unfold Hid; rw [← hr, ← h9, szR_add (by rw [h9]; omega)]
  have HR3 := hid hr
  clear hr
  by_cases g3 : r3 < 0
  · skip
    have h8 : szR left ((szTs d0 + szTs d1 + d2.length + szPts d3 : Nat) : Int) < 0 := by rw [HS3.out]; exact g3
    have HF := hid (HS3.out.trans (m3 g3))
    clear h8 m3
    go_enter Tryd.func5, Tryd.ntmps5
    go_wp2_with fail
    refine (u_szTermS R0_0.out (by omega) (by omega)).mono ?_
    rintro e w_1 ⟨rfl, hb⟩
    rw [HR0.out]
    have R0_1 := hid (R0_0.out.below (Nat.le_refl _) hb)
    have R1_1 := hid (R1_0.out.below (Nat.le_refl _) hb)
    have R2_1 := hid (R2_0.out.below (Nat.le_refl _) hb)
    have R3_1 := hid (R3_0.out.below (Nat.le_refl _) hb)
    have HB_1 := hid (bel_next HB_0.out HB_0.out.size hb)
    have t0_1 := cell_below hb z_0 t0_0
    have t1_1 := cell_below hb z_0 t1_0
    have t2_1 := cell_below hb z_0 t2_0
    have t3_1 := cell_below hb z_0 t3_0
    have z_1 := Nat.lt_of_lt_of_le z_0 hb.size
    clear hb R0_0 R1_0 R2_0 R3_0 HB_0 t0_0 t1_0 t2_0 t3_0 z_0
    go_wp2_with fail
    refine (u_szTermS R1_1.out (by omega) (by omega)).mono ?_
    rintro e w_2 ⟨rfl, hb⟩
    rw [HR1.out]
    have R0_2 := hid (R0_1.out.below (Nat.le_refl _) hb)
    have R1_2 := hid (R1_1.out.below (Nat.le_refl _) hb)
    have R2_2 := hid (R2_1.out.below (Nat.le_refl _) hb)
    have R3_2 := hid (R3_1.out.below (Nat.le_refl _) hb)
    have HB_2 := hid (bel_next HB_1.out HB_1.out.size hb)
    have t0_2 := cell_below hb z_1 t0_1
    have t1_2 := cell_below hb z_1 t1_1
    have t2_2 := cell_below hb z_1 t2_1
    have t3_2 := cell_below hb z_1 t3_1
    have z_2 := Nat.lt_of_lt_of_le z_1 hb.size
    clear hb R0_1 R1_1 R2_1 R3_1 HB_1 t0_1 t1_1 t2_1 t3_1 z_1
    go_wp2_with fail
    refine (u_szInstrS R2_2.out (by omega) (by omega)).mono ?_
    rintro e w_3 ⟨rfl, hb⟩
    rw [HR2.out]
    have R0_3 := hid (R0_2.out.below (Nat.le_refl _) hb)
    have R1_3 := hid (R1_2.out.below (Nat.le_refl _) hb)
    have R2_3 := hid (R2_2.out.below (Nat.le_refl _) hb)
    have R3_3 := hid (R3_2.out.below (Nat.le_refl _) hb)
    have HB_3 := hid (bel_next HB_2.out HB_2.out.size hb)
    have t0_3 := cell_below hb z_2 t0_2
    have t1_3 := cell_below hb z_2 t1_2
    have t2_3 := cell_below hb z_2 t2_2
    have t3_3 := cell_below hb z_2 t3_2
    have z_3 := Nat.lt_of_lt_of_le z_2 hb.size
    clear hb R0_2 R1_2 R2_2 R3_2 HB_2 t0_2 t1_2 t2_2 t3_2 z_2
    go_wp2_with fail
    refine (u_szPointS R3_3.out (by omega) (by omega)).mono ?_
    rintro e w_4 ⟨rfl, hb⟩
    rw [HR3.out]
    have R0_4 := hid (R0_3.out.below (Nat.le_refl _) hb)
    have R1_4 := hid (R1_3.out.below (Nat.le_refl _) hb)
    have R2_4 := hid (R2_3.out.below (Nat.le_refl _) hb)
    have R3_4 := hid (R3_3.out.below (Nat.le_refl _) hb)
    have HB_4 := hid (bel_next HB_3.out HB_3.out.size hb)
    have t0_4 := cell_below hb z_3 t0_3
    have t1_4 := cell_below hb z_3 t1_3
    have t2_4 := cell_below hb z_3 t2_3
    have t3_4 := cell_below hb z_3 t3_3
    have z_4 := Nat.lt_of_lt_of_le z_3 hb.size
    clear hb R0_3 R1_3 R2_3 R3_3 HB_3 t0_3 t1_3 t2_3 t3_3 z_3
    go_wp2
    go_ret
    exact ⟨ret_int HF.out.symm, HB_4.out⟩
  clear m3
  go_enter Tryd.func5, Tryd.ntmps5
  go_wp2_with fail
  refine (u_szTermS R0_0.out (by omega) (by omega)).mono ?_
  rintro e w_1 ⟨rfl, hb⟩
  rw [HR0.out]
  have R0_1 := hid (R0_0.out.below (Nat.le_refl _) hb)
  have R1_1 := hid (R1_0.out.below (Nat.le_refl _) hb)
  have R2_1 := hid (R2_0.out.below (Nat.le_refl _) hb)
  have R3_1 := hid (R3_0.out.below (Nat.le_refl _) hb)
  have HB_1 := hid (bel_next HB_0.out HB_0.out.size hb)
  have t0_1 := cell_below hb z_0 t0_0
  have t1_1 := cell_below hb z_0 t1_0
  have t2_1 := cell_below hb z_0 t2_0
  have t3_1 := cell_below hb z_0 t3_0
  have z_1 := Nat.lt_of_lt_of_le z_0 hb.size
  clear hb R0_0 R1_0 R2_0 R3_0 HB_0 t0_0 t1_0 t2_0 t3_0 z_0
  go_wp2_with fail
  refine (u_szTermS R1_1.out (by omega) (by omega)).mono ?_
  rintro e w_2 ⟨rfl, hb⟩
  rw [HR1.out]
  have R0_2 := hid (R0_1.out.below (Nat.le_refl _) hb)
  have R1_2 := hid (R1_1.out.below (Nat.le_refl _) hb)
  have R2_2 := hid (R2_1.out.below (Nat.le_refl _) hb)
  have R3_2 := hid (R3_1.out.below (Nat.le_refl _) hb)
  have HB_2 := hid (bel_next HB_1.out HB_1.out.size hb)
  have t0_2 := cell_below hb z_1 t0_1
  have t1_2 := cell_below hb z_1 t1_1
  have t2_2 := cell_below hb z_1 t2_1
  have t3_2 := cell_below hb z_1 t3_1
  have z_2 := Nat.lt_of_lt_of_le z_1 hb.size
  clear hb R0_1 R1_1 R2_1 R3_1 HB_1 t0_1 t1_1 t2_1 t3_1 z_1
  go_wp2_with fail
  refine (u_szInstrS R2_2.out (by omega) (by omega)).mono ?_
  rintro e w_3 ⟨rfl, hb⟩
  rw [HR2.out]
  have R0_3 := hid (R0_2.out.below (Nat.le_refl _) hb)
  have R1_3 := hid (R1_2.out.below (Nat.le_refl _) hb)
  have R2_3 := hid (R2_2.out.below (Nat.le_refl _) hb)
  have R3_3 := hid (R3_2.out.below (Nat.le_refl _) hb)
  have HB_3 := hid (bel_next HB_2.out HB_2.out.size hb)
  have t0_3 := cell_below hb z_2 t0_2
  have t1_3 := cell_below hb z_2 t1_2
  have t2_3 := cell_below hb z_2 t2_2
  have t3_3 := cell_below hb z_2 t3_2
  have z_3 := Nat.lt_of_lt_of_le z_2 hb.size
  clear hb R0_2 R1_2 R2_2 R3_2 HB_2 t0_2 t1_2 t2_2 t3_2 z_2
  go_wp2_with fail
  refine (u_szPointS R3_3.out (by omega) (by omega)).mono ?_
  rintro e w_4 ⟨rfl, hb⟩
  rw [HR3.out]
  have R0_4 := hid (R0_3.out.below (Nat.le_refl _) hb)
  have R1_4 := hid (R1_3.out.below (Nat.le_refl _) hb)
  have R2_4 := hid (R2_3.out.below (Nat.le_refl _) hb)
  have R3_4 := hid (R3_3.out.below (Nat.le_refl _) hb)
  have HB_4 := hid (bel_next HB_3.out HB_3.out.size hb)
  have t0_4 := cell_below hb z_3 t0_3
  have t1_4 := cell_below hb z_3 t1_3
  have t2_4 := cell_below hb z_3 t2_3
  have t3_4 := cell_below hb z_3 t3_3
  have z_4 := Nat.lt_of_lt_of_le z_3 hb.size
  clear hb R0_3 R1_3 R2_3 R3_3 HB_3 t0_3 t1_3 t2_3 t3_3 z_3
  go_wp2
  go_ret
  exact ⟨ret_int HS3.out.symm, HB_4.out⟩
set_option maxRecDepth 100000 in
theorem u_eqAnnotated {S T : Nat → Prop} {a0 : Option Addr} {p0 : Nat} {d0 : List Term} {a1 : Option Addr} {p1 : Nat} {d1 : List Term} {a2 : Option Addr} {p2 : Nat} {d2 : List Instr} {a3 : Option Addr} {p3 : Nat} {d3 : List Pt} {ya0 : Option Addr} {yp0 : Nat} {yd0 : List Term} {ya1 : Option Addr} {yp1 : Nat} {yd1 : List Term} {ya2 : Option Addr} {yp2 : Nat} {yd2 : List Instr} {ya3 : Option Addr} {yp3 : Nat} {yd3 : List Pt} {w : World} (h0 : SlRd cTerm S w a0 p0 d0) (h1 : SlRd cTerm S w a1 p1 d1) (h2 : SlRd cInstr S w a2 p2 d2) (h3 : SlRd cPoint S w a3 p3 d3) (yh0 : SlRd cTerm T w ya0 yp0 yd0) (yh1 : SlRd cTerm T w ya1 yp1 yd1) (yh2 : SlRd cInstr T w ya2 yp2 yd2) (yh3 : SlRd cPoint T w ya3 yp3 yd3) :
    Calls Tryd.prog 9 #[.agg #[.slice a0 d0.length p0, .slice a1 d1.length p1, .slice a2 d2.length p2, .slice a3 d3.length p3], .agg #[.slice ya0 yd0.length yp0, .slice ya1 yd1.length yp1, .slice ya2 yd2.length yp2, .slice ya3 yd3.length yp3]] w fun e w' => e = .returned (.bool (decide (((d0, d1, d2, d3) : An) = (yd0, yd1, yd2, yd3)))) ∧ Below w.heap.size w w' := by
  have R0_0 := hid ((h0.alloc (.cells #[.slice a0 d0.length p0, .slice a1 d1.length p1, .slice a2 d2.length p2, .slice a3 d3.length p3] 34)).alloc (.cells #[.slice ya0 yd0.length yp0, .slice ya1 yd1.length yp1, .slice ya2 yd2.length yp2, .slice ya3 yd3.length yp3] 34))
  have R1_0 := hid ((h1.alloc (.cells #[.slice a0 d0.length p0, .slice a1 d1.length p1, .slice a2 d2.length p2, .slice a3 d3.length p3] 34)).alloc (.cells #[.slice ya0 yd0.length yp0, .slice ya1 yd1.length yp1, .slice ya2 yd2.length yp2, .slice ya3 yd3.length yp3] 34))
  have R2_0 := hid ((h2.alloc (.cells #[.slice a0 d0.length p0, .slice a1 d1.length p1, .slice a2 d2.length p2, .slice a3 d3.length p3] 34)).alloc (.cells #[.slice ya0 yd0.length yp0, .slice ya1 yd1.length yp1, .slice ya2 yd2.length yp2, .slice ya3 yd3.length yp3] 34))
  have R3_0 := hid ((h3.alloc (.cells #[.slice a0 d0.length p0, .slice a1 d1.length p1, .slice a2 d2.length p2, .slice a3 d3.length p3] 34)).alloc (.cells #[.slice ya0 yd0.length yp0, .slice ya1 yd1.length yp1, .slice ya2 yd2.length yp2, .slice ya3 yd3.length yp3] 34))
  have yR0_0 := hid ((yh0.alloc (.cells #[.slice a0 d0.length p0, .slice a1 d1.length p1, .slice a2 d2.length p2, .slice a3 d3.length p3] 34)).alloc (.cells #[.slice ya0 yd0.length yp0, .slice ya1 yd1.length yp1, .slice ya2 yd2.length yp2, .slice ya3 yd3.length yp3] 34))
  have yR1_0 := hid ((yh1.alloc (.cells #[.slice a0 d0.length p0, .slice a1 d1.length p1, .slice a2 d2.length p2, .slice a3 d3.length p3] 34)).alloc (.cells #[.slice ya0 yd0.length yp0, .slice ya1 yd1.length yp1, .slice ya2 yd2.length yp2, .slice ya3 yd3.length yp3] 34))
  have yR2_0 := hid ((yh2.alloc (.cells #[.slice a0 d0.length p0, .slice a1 d1.length p1, .slice a2 d2.length p2, .slice a3 d3.length p3] 34)).alloc (.cells #[.slice ya0 yd0.length yp0, .slice ya1 yd1.length yp1, .slice ya2 yd2.length yp2, .slice ya3 yd3.length yp3] 34))
  have yR3_0 := hid ((yh3.alloc (.cells #[.slice a0 d0.length p0, .slice a1 d1.length p1, .slice a2 d2.length p2, .slice a3 d3.length p3] 34)).alloc (.cells #[.slice ya0 yd0.length yp0, .slice ya1 yd1.length yp1, .slice ya2 yd2.length yp2, .slice ya3 yd3.length yp3] 34))
  have HB_0 : Hid (Below w.heap.size w ((w.alloc (.cells #[.slice a0 d0.length p0, .slice a1 d1.length p1, .slice a2 d2.length p2, .slice a3 d3.length p3] 34)).alloc (.cells #[.slice ya0 yd0.length yp0, .slice ya1 yd1.length yp1, .slice ya2 yd2.length yp2, .slice ya3 yd3.length yp3] 34))) := ((Below.refl _ _).alloc (Nat.le_refl _) _).alloc (by simp) _
  have z_0 : w.heap.size + 1 < ((w.alloc (.cells #[.slice a0 d0.length p0, .slice a1 d1.length p1, .slice a2 d2.length p2, .slice a3 d3.length p3] 34)).alloc (.cells #[.slice ya0 yd0.length yp0, .slice ya1 yd1.length yp1, .slice ya2 yd2.length yp2, .slice ya3 yd3.length yp3] 34)).heap.size := by simp
  have t0_0 : ((w.alloc (.cells #[.slice a0 d0.length p0, .slice a1 d1.length p1, .slice a2 d2.length p2, .slice a3 d3.length p3] 34)).alloc (.cells #[.slice ya0 yd0.length yp0, .slice ya1 yd1.length yp1, .slice ya2 yd2.length yp2, .slice ya3 yd3.length yp3] 34)).cell? ⟨w.heap.size, 0, none⟩ = some (.slice a0 d0.length p0) := by simp [go_sem]
  have yt0_0 : ((w.alloc (.cells #[.slice a0 d0.length p0, .slice a1 d1.length p1, .slice a2 d2.length p2, .slice a3 d3.length p3] 34)).alloc (.cells #[.slice ya0 yd0.length yp0, .slice ya1 yd1.length yp1, .slice ya2 yd2.length yp2, .slice ya3 yd3.length yp3] 34)).cell? ⟨w.heap.size + 1, 0, none⟩ = some (.slice ya0 yd0.length yp0) := by simp [go_sem]
  have t1_0 : ((w.alloc (.cells #[.slice a0 d0.length p0, .slice a1 d1.length p1, .slice a2 d2.length p2, .slice a3 d3.length p3] 34)).alloc (.cells #[.slice ya0 yd0.length yp0, .slice ya1 yd1.length yp1, .slice ya2 yd2.length yp2, .slice ya3 yd3.length yp3] 34)).cell? ⟨w.heap.size, 1, none⟩ = some (.slice a1 d1.length p1) := by simp [go_sem]
  have yt1_0 : ((w.alloc (.cells #[.slice a0 d0.length p0, .slice a1 d1.length p1, .slice a2 d2.length p2, .slice a3 d3.length p3] 34)).alloc (.cells #[.slice ya0 yd0.length yp0, .slice ya1 yd1.length yp1, .slice ya2 yd2.length yp2, .slice ya3 yd3.length yp3] 34)).cell? ⟨w.heap.size + 1, 1, none⟩ = some (.slice ya1 yd1.length yp1) := by simp [go_sem]
  have t2_0 : ((w.alloc (.cells #[.slice a0 d0.length p0, .slice a1 d1.length p1, .slice a2 d2.length p2, .slice a3 d3.length p3] 34)).alloc (.cells #[.slice ya0 yd0.length yp0, .slice ya1 yd1.length yp1, .slice ya2 yd2.length yp2, .slice ya3 yd3.length yp3] 34)).cell? ⟨w.heap.size, 2, none⟩ = some (.slice a2 d2.length p2) := by simp [go_sem]
  have yt2_0 : ((w.alloc (.cells #[.slice a0 d0.length p0, .slice a1 d1.length p1, .slice a2 d2.length p2, .slice a3 d3.length p3] 34)).alloc (.cells #[.slice ya0 yd0.length yp0, .slice ya1 yd1.length yp1, .slice ya2 yd2.length yp2, .slice ya3 yd3.length yp3] 34)).cell? ⟨w.heap.size + 1, 2, none⟩ = some (.slice ya2 yd2.length yp2) := by simp [go_sem]
  have t3_0 : ((w.alloc (.cells #[.slice a0 d0.length p0, .slice a1 d1.length p1, .slice a2 d2.length p2, .slice a3 d3.length p3] 34)).alloc (.cells #[.slice ya0 yd0.length yp0, .slice ya1 yd1.length yp1, .slice ya2 yd2.length yp2, .slice ya3 yd3.length yp3] 34)).cell? ⟨w.heap.size, 3, none⟩ = some (.slice a3 d3.length p3) := by simp [go_sem]
  have yt3_0 : ((w.alloc (.cells #[.slice a0 d0.length p0, .slice a1 d1.length p1, .slice a2 d2.length p2, .slice a3 d3.length p3] 34)).alloc (.cells #[.slice ya0 yd0.length yp0, .slice ya1 yd1.length yp1, .slice ya2 yd2.length yp2, .slice ya3 yd3.length yp3] 34)).cell? ⟨w.heap.size + 1, 3, none⟩ = some (.slice ya3 yd3.length yp3) := by simp [go_sem]
  clear h0 h1 h2 h3 yh0 yh1 yh2 yh3
  obtain ⟨b0, hb0⟩ : ∃ b, decide ((d0 : List Term) = yd0) = b := ⟨_, rfl⟩
  obtain ⟨b1, hb1⟩ : ∃ b, decide ((d1 : List Term) = yd1) = b := ⟨_, rfl⟩
  obtain ⟨b2, hb2⟩ : ∃ b, decide ((d2 : List Instr) = yd2) = b := ⟨_, rfl⟩
  obtain ⟨b3, hb3⟩ : ∃ b, decide ((d3 : List Pt) = yd3) = b := ⟨_, rfl⟩
  have HF : Hid (decide (((d0, d1, d2, d3) : An) = (yd0, yd1, yd2, yd3)) = (b0 && b1 && b2 && b3)) := by unfold Hid; rw [← hb0, ← hb1, ← hb2, ← hb3, Bool.eq_iff_iff]; simp [Prod.ext_iff, and_assoc]
  have HR0 := hid hb0
  clear hb0
  have HR1 := hid hb1
  clear hb1
  have HR2 := hid hb2
  clear hb2
  have HR3 := hid hb3
  clear hb3
  cases b0
  · skip
    go_enter Tryd.func9, Tryd.ntmps9
    go_wp2_with fail
    refine (u_eqTermS R0_0.out yR0_0.out).mono ?_
    rintro e w_1 ⟨rfl, hb⟩
    rw [HR0.out]
    have R0_1 := hid (R0_0.out.below (Nat.le_refl _) hb)
    have R1_1 := hid (R1_0.out.below (Nat.le_refl _) hb)
    have R2_1 := hid (R2_0.out.below (Nat.le_refl _) hb)
    have R3_1 := hid (R3_0.out.below (Nat.le_refl _) hb)
    have yR0_1 := hid (yR0_0.out.below (Nat.le_refl _) hb)
    have yR1_1 := hid (yR1_0.out.below (Nat.le_refl _) hb)
    have yR2_1 := hid (yR2_0.out.below (Nat.le_refl _) hb)
    have yR3_1 := hid (yR3_0.out.below (Nat.le_refl _) hb)
    have HB_1 := hid (bel_next HB_0.out HB_0.out.size hb)
    have t0_1 := cell_below hb (Nat.lt_of_succ_lt z_0) t0_0
    have yt0_1 := cell_below hb z_0 yt0_0
    have t1_1 := cell_below hb (Nat.lt_of_succ_lt z_0) t1_0
    have yt1_1 := cell_below hb z_0 yt1_0
    have t2_1 := cell_below hb (Nat.lt_of_succ_lt z_0) t2_0
    have yt2_1 := cell_below hb z_0 yt2_0
    have t3_1 := cell_below hb (Nat.lt_of_succ_lt z_0) t3_0
    have yt3_1 := cell_below hb z_0 yt3_0
    have z_1 := Nat.lt_of_lt_of_le z_0 hb.size
    clear hb R0_0 R1_0 R2_0 R3_0 yR0_0 yR1_0 yR2_0 yR3_0 HB_0 t0_0 yt0_0 t1_0 yt1_0 t2_0 yt2_0 t3_0 yt3_0 z_0
    go_wp2
    go_ret
    exact ⟨ret_bool (by rw [HF.out]; simp), HB_1.out⟩
  cases b1
  · skip
    go_enter Tryd.func9, Tryd.ntmps9
    go_wp2_with fail
    refine (u_eqTermS R0_0.out yR0_0.out).mono ?_
    rintro e w_1 ⟨rfl, hb⟩
    rw [HR0.out]
    have R0_1 := hid (R0_0.out.below (Nat.le_refl _) hb)
    have R1_1 := hid (R1_0.out.below (Nat.le_refl _) hb)
    have R2_1 := hid (R2_0.out.below (Nat.le_refl _) hb)
    have R3_1 := hid (R3_0.out.below (Nat.le_refl _) hb)
    have yR0_1 := hid (yR0_0.out.below (Nat.le_refl _) hb)
    have yR1_1 := hid (yR1_0.out.below (Nat.le_refl _) hb)
    have yR2_1 := hid (yR2_0.out.below (Nat.le_refl _) hb)
    have yR3_1 := hid (yR3_0.out.below (Nat.le_refl _) hb)
    have HB_1 := hid (bel_next HB_0.out HB_0.out.size hb)
    have t0_1 := cell_below hb (Nat.lt_of_succ_lt z_0) t0_0
    have yt0_1 := cell_below hb z_0 yt0_0
    have t1_1 := cell_below hb (Nat.lt_of_succ_lt z_0) t1_0
    have yt1_1 := cell_below hb z_0 yt1_0
    have t2_1 := cell_below hb (Nat.lt_of_succ_lt z_0) t2_0
    have yt2_1 := cell_below hb z_0 yt2_0
    have t3_1 := cell_below hb (Nat.lt_of_succ_lt z_0) t3_0
    have yt3_1 := cell_below hb z_0 yt3_0
    have z_1 := Nat.lt_of_lt_of_le z_0 hb.size
    clear hb R0_0 R1_0 R2_0 R3_0 yR0_0 yR1_0 yR2_0 yR3_0 HB_0 t0_0 yt0_0 t1_0 yt1_0 t2_0 yt2_0 t3_0 yt3_0 z_0
    go_wp2_with fail
    refine (u_eqTermS R1_1.out yR1_1.out).mono ?_
    rintro e w_2 ⟨rfl, hb⟩
    rw [HR1.out]
    have R0_2 := hid (R0_1.out.below (Nat.le_refl _) hb)
    have R1_2 := hid (R1_1.out.below (Nat.le_refl _) hb)
    have R2_2 := hid (R2_1.out.below (Nat.le_refl _) hb)
    have R3_2 := hid (R3_1.out.below (Nat.le_refl _) hb)
    have yR0_2 := hid (yR0_1.out.below (Nat.le_refl _) hb)
    have yR1_2 := hid (yR1_1.out.below (Nat.le_refl _) hb)
    have yR2_2 := hid (yR2_1.out.below (Nat.le_refl _) hb)
    have yR3_2 := hid (yR3_1.out.below (Nat.le_refl _) hb)
    have HB_2 := hid (bel_next HB_1.out HB_1.out.size hb)
    have t0_2 := cell_below hb (Nat.lt_of_succ_lt z_1) t0_1
    have yt0_2 := cell_below hb z_1 yt0_1
    have t1_2 := cell_below hb (Nat.lt_of_succ_lt z_1) t1_1
    have yt1_2 := cell_below hb z_1 yt1_1
    have t2_2 := cell_below hb (Nat.lt_of_succ_lt z_1) t2_1
    have yt2_2 := cell_below hb z_1 yt2_1
    have t3_2 := cell_below hb (Nat.lt_of_succ_lt z_1) t3_1
    have yt3_2 := cell_below hb z_1 yt3_1
    have z_2 := Nat.lt_of_lt_of_le z_1 hb.size
    clear hb R0_1 R1_1 R2_1 R3_1 yR0_1 yR1_1 yR2_1 yR3_1 HB_1 t0_1 yt0_1 t1_1 yt1_1 t2_1 yt2_1 t3_1 yt3_1 z_1
    go_wp2
    go_ret
    exact ⟨ret_bool (by rw [HF.out]; simp), HB_2.out⟩
  cases b2
  · skip
    go_enter Tryd.func9, Tryd.ntmps9
    go_wp2_with fail
    refine (u_eqTermS R0_0.out yR0_0.out).mono ?_
    rintro e w_1 ⟨rfl, hb⟩
    rw [HR0.out]
    have R0_1 := hid (R0_0.out.below (Nat.le_refl _) hb)
    have R1_1 := hid (R1_0.out.below (Nat.le_refl _) hb)
    have R2_1 := hid (R2_0.out.below (Nat.le_refl _) hb)
    have R3_1 := hid (R3_0.out.below (Nat.le_refl _) hb)
    have yR0_1 := hid (yR0_0.out.below (Nat.le_refl _) hb)
    have yR1_1 := hid (yR1_0.out.below (Nat.le_refl _) hb)
    have yR2_1 := hid (yR2_0.out.below (Nat.le_refl _) hb)
    have yR3_1 := hid (yR3_0.out.below (Nat.le_refl _) hb)
    have HB_1 := hid (bel_next HB_0.out HB_0.out.size hb)
    have t0_1 := cell_below hb (Nat.lt_of_succ_lt z_0) t0_0
    have yt0_1 := cell_below hb z_0 yt0_0
    have t1_1 := cell_below hb (Nat.lt_of_succ_lt z_0) t1_0
    have yt1_1 := cell_below hb z_0 yt1_0
    have t2_1 := cell_below hb (Nat.lt_of_succ_lt z_0) t2_0
    have yt2_1 := cell_below hb z_0 yt2_0
    have t3_1 := cell_below hb (Nat.lt_of_succ_lt z_0) t3_0
    have yt3_1 := cell_below hb z_0 yt3_0
    have z_1 := Nat.lt_of_lt_of_le z_0 hb.size
    clear hb R0_0 R1_0 R2_0 R3_0 yR0_0 yR1_0 yR2_0 yR3_0 HB_0 t0_0 yt0_0 t1_0 yt1_0 t2_0 yt2_0 t3_0 yt3_0 z_0
    go_wp2_with fail
    refine (u_eqTermS R1_1.out yR1_1.out).mono ?_
    rintro e w_2 ⟨rfl, hb⟩
    rw [HR1.out]
    have R0_2 := hid (R0_1.out.below (Nat.le_refl _) hb)
    have R1_2 := hid (R1_1.out.below (Nat.le_refl _) hb)
    have R2_2 := hid (R2_1.out.below (Nat.le_refl _) hb)
    have R3_2 := hid (R3_1.out.below (Nat.le_refl _) hb)
    have yR0_2 := hid (yR0_1.out.below (Nat.le_refl _) hb)
    have yR1_2 := hid (yR1_1.out.below (Nat.le_refl _) hb)
    have yR2_2 := hid (yR2_1.out.below (Nat.le_refl _) hb)
    have yR3_2 := hid (yR3_1.out.below (Nat.le_refl _) hb)
    have HB_2 := hid (bel_next HB_1.out HB_1.out.size hb)
    have t0_2 := cell_below hb (Nat.lt_of_succ_lt z_1) t0_1
    have yt0_2 := cell_below hb z_1 yt0_1
    have t1_2 := cell_below hb (Nat.lt_of_succ_lt z_1) t1_1
    have yt1_2 := cell_below hb z_1 yt1_1
    have t2_2 := cell_below hb (Nat.lt_of_succ_lt z_1) t2_1
    have yt2_2 := cell_below hb z_1 yt2_1
    have t3_2 := cell_below hb (Nat.lt_of_succ_lt z_1) t3_1
    have yt3_2 := cell_below hb z_1 yt3_1
    have z_2 := Nat.lt_of_lt_of_le z_1 hb.size
    clear hb R0_1 R1_1 R2_1 R3_1 yR0_1 yR1_1 yR2_1 yR3_1 HB_1 t0_1 yt0_1 t1_1 yt1_1 t2_1 yt2_1 t3_1 yt3_1 z_1
    go_wp2_with fail
    refine (u_eqInstrS R2_2.out yR2_2.out).mono ?_
    rintro e w_3 ⟨rfl, hb⟩
    rw [HR2.out]
    have R0_3 := hid (R0_2.out.below (Nat.le_refl _) hb)
    have R1_3 := hid (R1_2.out.below (Nat.le_refl _) hb)
    have R2_3 := hid (R2_2.out.below (Nat.le_refl _) hb)
    have R3_3 := hid (R3_2.out.below (Nat.le_refl _) hb)
    have yR0_3 := hid (yR0_2.out.below (Nat.le_refl _) hb)
    have yR1_3 := hid (yR1_2.out.below (Nat.le_refl _) hb)
    have yR2_3 := hid (yR2_2.out.below (Nat.le_refl _) hb)
    have yR3_3 := hid (yR3_2.out.below (Nat.le_refl _) hb)
    have HB_3 := hid (bel_next HB_2.out HB_2.out.size hb)
    have t0_3 := cell_below hb (Nat.lt_of_succ_lt z_2) t0_2
    have yt0_3 := cell_below hb z_2 yt0_2
    have t1_3 := cell_below hb (Nat.lt_of_succ_lt z_2) t1_2
    have yt1_3 := cell_below hb z_2 yt1_2
    have t2_3 := cell_below hb (Nat.lt_of_succ_lt z_2) t2_2
    have yt2_3 := cell_below hb z_2 yt2_2
    have t3_3 := cell_below hb (Nat.lt_of_succ_lt z_2) t3_2
    have yt3_3 := cell_below hb z_2 yt3_2
    have z_3 := Nat.lt_of_lt_of_le z_2 hb.size
    clear hb R0_2 R1_2 R2_2 R3_2 yR0_2 yR1_2 yR2_2 yR3_2 HB_2 t0_2 yt0_2 t1_2 yt1_2 t2_2 yt2_2 t3_2 yt3_2 z_2
    go_wp2
    go_ret
    exact ⟨ret_bool (by rw [HF.out]; simp), HB_3.out⟩
  cases b3
  · skip
    go_enter Tryd.func9, Tryd.ntmps9
    go_wp2_with fail
    refine (u_eqTermS R0_0.out yR0_0.out).mono ?_
    rintro e w_1 ⟨rfl, hb⟩
    rw [HR0.out]
    have R0_1 := hid (R0_0.out.below (Nat.le_refl _) hb)
    have R1_1 := hid (R1_0.out.below (Nat.le_refl _) hb)
    have R2_1 := hid (R2_0.out.below (Nat.le_refl _) hb)
    have R3_1 := hid (R3_0.out.below (Nat.le_refl _) hb)
    have yR0_1 := hid (yR0_0.out.below (Nat.le_refl _) hb)
    have yR1_1 := hid (yR1_0.out.below (Nat.le_refl _) hb)
    have yR2_1 := hid (yR2_0.out.below (Nat.le_refl _) hb)
    have yR3_1 := hid (yR3_0.out.below (Nat.le_refl _) hb)
    have HB_1 := hid (bel_next HB_0.out HB_0.out.size hb)
    have t0_1 := cell_below hb (Nat.lt_of_succ_lt z_0) t0_0
    have yt0_1 := cell_below hb z_0 yt0_0
    have t1_1 := cell_below hb (Nat.lt_of_succ_lt z_0) t1_0
    have yt1_1 := cell_below hb z_0 yt1_0
    have t2_1 := cell_below hb (Nat.lt_of_succ_lt z_0) t2_0
    have yt2_1 := cell_below hb z_0 yt2_0
    have t3_1 := cell_below hb (Nat.lt_of_succ_lt z_0) t3_0
    have yt3_1 := cell_below hb z_0 yt3_0
    have z_1 := Nat.lt_of_lt_of_le z_0 hb.size
    clear hb R0_0 R1_0 R2_0 R3_0 yR0_0 yR1_0 yR2_0 yR3_0 HB_0 t0_0 yt0_0 t1_0 yt1_0 t2_0 yt2_0 t3_0 yt3_0 z_0
    go_wp2_with fail
    refine (u_eqTermS R1_1.out yR1_1.out).mono ?_
    rintro e w_2 ⟨rfl, hb⟩
    rw [HR1.out]
    have R0_2 := hid (R0_1.out.below (Nat.le_refl _) hb)
    have R1_2 := hid (R1_1.out.below (Nat.le_refl _) hb)
    have R2_2 := hid (R2_1.out.below (Nat.le_refl _) hb)
    have R3_2 := hid (R3_1.out.below (Nat.le_refl _) hb)
    have yR0_2 := hid (yR0_1.out.below (Nat.le_refl _) hb)
    have yR1_2 := hid (yR1_1.out.below (Nat.le_refl _) hb)
    have yR2_2 := hid (yR2_1.out.below (Nat.le_refl _) hb)
    have yR3_2 := hid (yR3_1.out.below (Nat.le_refl _) hb)
    have HB_2 := hid (bel_next HB_1.out HB_1.out.size hb)
    have t0_2 := cell_below hb (Nat.lt_of_succ_lt z_1) t0_1
    have yt0_2 := cell_below hb z_1 yt0_1
    have t1_2 := cell_below hb (Nat.lt_of_succ_lt z_1) t1_1
    have yt1_2 := cell_below hb z_1 yt1_1
    have t2_2 := cell_below hb (Nat.lt_of_succ_lt z_1) t2_1
    have yt2_2 := cell_below hb z_1 yt2_1
    have t3_2 := cell_below hb (Nat.lt_of_succ_lt z_1) t3_1
    have yt3_2 := cell_below hb z_1 yt3_1
    have z_2 := Nat.lt_of_lt_of_le z_1 hb.size
    clear hb R0_1 R1_1 R2_1 R3_1 yR0_1 yR1_1 yR2_1 yR3_1 HB_1 t0_1 yt0_1 t1_1 yt1_1 t2_1 yt2_1 t3_1 yt3_1 z_1
    go_wp2_with fail
    refine (u_eqInstrS R2_2.out yR2_2.out).mono ?_
    rintro e w_3 ⟨rfl, hb⟩
    rw [HR2.out]
    have R0_3 := hid (R0_2.out.below (Nat.le_refl _) hb)
    have R1_3 := hid (R1_2.out.below (Nat.le_refl _) hb)
    have R2_3 := hid (R2_2.out.below (Nat.le_refl _) hb)
    have R3_3 := hid (R3_2.out.below (Nat.le_refl _) hb)
    have yR0_3 := hid (yR0_2.out.below (Nat.le_refl _) hb)
    have yR1_3 := hid (yR1_2.out.below (Nat.le_refl _) hb)
    have yR2_3 := hid (yR2_2.out.below (Nat.le_refl _) hb)
    have yR3_3 := hid (yR3_2.out.below (Nat.le_refl _) hb)
    have HB_3 := hid (bel_next HB_2.out HB_2.out.size hb)
    have t0_3 := cell_below hb (Nat.lt_of_succ_lt z_2) t0_2
    have yt0_3 := cell_below hb z_2 yt0_2
    have t1_3 := cell_below hb (Nat.lt_of_succ_lt z_2) t1_2
    have yt1_3 := cell_below hb z_2 yt1_2
    have t2_3 := cell_below hb (Nat.lt_of_succ_lt z_2) t2_2
    have yt2_3 := cell_below hb z_2 yt2_2
    have t3_3 := cell_below hb (Nat.lt_of_succ_lt z_2) t3_2
    have yt3_3 := cell_below hb z_2 yt3_2
    have z_3 := Nat.lt_of_lt_of_le z_2 hb.size
    clear hb R0_2 R1_2 R2_2 R3_2 yR0_2 yR1_2 yR2_2 yR3_2 HB_2 t0_2 yt0_2 t1_2 yt1_2 t2_2 yt2_2 t3_2 yt3_2 z_2
    go_wp2_with fail
    refine (u_eqPointS R3_3.out yR3_3.out).mono ?_
    rintro e w_4 ⟨rfl, hb⟩
    rw [HR3.out]
    have R0_4 := hid (R0_3.out.below (Nat.le_refl _) hb)
    have R1_4 := hid (R1_3.out.below (Nat.le_refl _) hb)
    have R2_4 := hid (R2_3.out.below (Nat.le_refl _) hb)
    have R3_4 := hid (R3_3.out.below (Nat.le_refl _) hb)
    have yR0_4 := hid (yR0_3.out.below (Nat.le_refl _) hb)
    have yR1_4 := hid (yR1_3.out.below (Nat.le_refl _) hb)
    have yR2_4 := hid (yR2_3.out.below (Nat.le_refl _) hb)
    have yR3_4 := hid (yR3_3.out.below (Nat.le_refl _) hb)
    have HB_4 := hid (bel_next HB_3.out HB_3.out.size hb)
    have t0_4 := cell_below hb (Nat.lt_of_succ_lt z_3) t0_3
    have yt0_4 := cell_below hb z_3 yt0_3
    have t1_4 := cell_below hb (Nat.lt_of_succ_lt z_3) t1_3
    have yt1_4 := cell_below hb z_3 yt1_3
    have t2_4 := cell_below hb (Nat.lt_of_succ_lt z_3) t2_3
    have yt2_4 := cell_below hb z_3 yt2_3
    have t3_4 := cell_below hb (Nat.lt_of_succ_lt z_3) t3_3
    have yt3_4 := cell_below hb z_3 yt3_3
    have z_4 := Nat.lt_of_lt_of_le z_3 hb.size
    clear hb R0_3 R1_3 R2_3 R3_3 yR0_3 yR1_3 yR2_3 yR3_3 HB_3 t0_3 yt0_3 t1_3 yt1_3 t2_3 yt2_3 t3_3 yt3_3 z_3
    go_wp2
    go_ret
    exact ⟨ret_bool (by rw [HF.out]; simp), HB_4.out⟩
  go_enter Tryd.func9, Tryd.ntmps9
  go_wp2_with fail
  refine (u_eqTermS R0_0.out yR0_0.out).mono ?_
  rintro e w_1 ⟨rfl, hb⟩
  rw [HR0.out]
  have R0_1 := hid (R0_0.out.below (Nat.le_refl _) hb)
  have R1_1 := hid (R1_0.out.below (Nat.le_refl _) hb)
  have R2_1 := hid (R2_0.out.below (Nat.le_refl _) hb)
  have R3_1 := hid (R3_0.out.below (Nat.le_refl _) hb)
  have yR0_1 := hid (yR0_0.out.below (Nat.le_refl _) hb)
  have yR1_1 := hid (yR1_0.out.below (Nat.le_refl _) hb)
  have yR2_1 := hid (yR2_0.out.below (Nat.le_refl _) hb)
  have yR3_1 := hid (yR3_0.out.below (Nat.le_refl _) hb)
  have HB_1 := hid (bel_next HB_0.out HB_0.out.size hb)
  have t0_1 := cell_below hb (Nat.lt_of_succ_lt z_0) t0_0
  have yt0_1 := cell_below hb z_0 yt0_0
  have t1_1 := cell_below hb (Nat.lt_of_succ_lt z_0) t1_0
  have yt1_1 := cell_below hb z_0 yt1_0
  have t2_1 := cell_below hb (Nat.lt_of_succ_lt z_0) t2_0
  have yt2_1 := cell_below hb z_0 yt2_0
  have t3_1 := cell_below hb (Nat.lt_of_succ_lt z_0) t3_0
  have yt3_1 := cell_below hb z_0 yt3_0
  have z_1 := Nat.lt_of_lt_of_le z_0 hb.size
  clear hb R0_0 R1_0 R2_0 R3_0 yR0_0 yR1_0 yR2_0 yR3_0 HB_0 t0_0 yt0_0 t1_0 yt1_0 t2_0 yt2_0 t3_0 yt3_0 z_0
  go_wp2_with fail
  refine (u_eqTermS R1_1.out yR1_1.out).mono ?_
  rintro e w_2 ⟨rfl, hb⟩
  rw [HR1.out]
  have R0_2 := hid (R0_1.out.below (Nat.le_refl _) hb)
  have R1_2 := hid (R1_1.out.below (Nat.le_refl _) hb)
  have R2_2 := hid (R2_1.out.below (Nat.le_refl _) hb)
  have R3_2 := hid (R3_1.out.below (Nat.le_refl _) hb)
  have yR0_2 := hid (yR0_1.out.below (Nat.le_refl _) hb)
  have yR1_2 := hid (yR1_1.out.below (Nat.le_refl _) hb)
  have yR2_2 := hid (yR2_1.out.below (Nat.le_refl _) hb)
  have yR3_2 := hid (yR3_1.out.below (Nat.le_refl _) hb)
  have HB_2 := hid (bel_next HB_1.out HB_1.out.size hb)
  have t0_2 := cell_below hb (Nat.lt_of_succ_lt z_1) t0_1
  have yt0_2 := cell_below hb z_1 yt0_1
  have t1_2 := cell_below hb (Nat.lt_of_succ_lt z_1) t1_1
  have yt1_2 := cell_below hb z_1 yt1_1
  have t2_2 := cell_below hb (Nat.lt_of_succ_lt z_1) t2_1
  have yt2_2 := cell_below hb z_1 yt2_1
  have t3_2 := cell_below hb (Nat.lt_of_succ_lt z_1) t3_1
  have yt3_2 := cell_below hb z_1 yt3_1
  have z_2 := Nat.lt_of_lt_of_le z_1 hb.size
  clear hb R0_1 R1_1 R2_1 R3_1 yR0_1 yR1_1 yR2_1 yR3_1 HB_1 t0_1 yt0_1 t1_1 yt1_1 t2_1 yt2_1 t3_1 yt3_1 z_1
  go_wp2_with fail
  refine (u_eqInstrS R2_2.out yR2_2.out).mono ?_
  rintro e w_3 ⟨rfl, hb⟩
  rw [HR2.out]
  have R0_3 := hid (R0_2.out.below (Nat.le_refl _) hb)
  have R1_3 := hid (R1_2.out.below (Nat.le_refl _) hb)
  have R2_3 := hid (R2_2.out.below (Nat.le_refl _) hb)
  have R3_3 := hid (R3_2.out.below (Nat.le_refl _) hb)
  have yR0_3 := hid (yR0_2.out.below (Nat.le_refl _) hb)
  have yR1_3 := hid (yR1_2.out.below (Nat.le_refl _) hb)
  have yR2_3 := hid (yR2_2.out.below (Nat.le_refl _) hb)
  have yR3_3 := hid (yR3_2.out.below (Nat.le_refl _) hb)
  have HB_3 := hid (bel_next HB_2.out HB_2.out.size hb)
  have t0_3 := cell_below hb (Nat.lt_of_succ_lt z_2) t0_2
  have yt0_3 := cell_below hb z_2 yt0_2
  have t1_3 := cell_below hb (Nat.lt_of_succ_lt z_2) t1_2
  have yt1_3 := cell_below hb z_2 yt1_2
  have t2_3 := cell_below hb (Nat.lt_of_succ_lt z_2) t2_2
  have yt2_3 := cell_below hb z_2 yt2_2
  have t3_3 := cell_below hb (Nat.lt_of_succ_lt z_2) t3_2
  have yt3_3 := cell_below hb z_2 yt3_2
  have z_3 := Nat.lt_of_lt_of_le z_2 hb.size
  clear hb R0_2 R1_2 R2_2 R3_2 yR0_2 yR1_2 yR2_2 yR3_2 HB_2 t0_2 yt0_2 t1_2 yt1_2 t2_2 yt2_2 t3_2 yt3_2 z_2
  go_wp2_with fail
  refine (u_eqPointS R3_3.out yR3_3.out).mono ?_
  rintro e w_4 ⟨rfl, hb⟩
  rw [HR3.out]
  have R0_4 := hid (R0_3.out.below (Nat.le_refl _) hb)
  have R1_4 := hid (R1_3.out.below (Nat.le_refl _) hb)
  have R2_4 := hid (R2_3.out.below (Nat.le_refl _) hb)
  have R3_4 := hid (R3_3.out.below (Nat.le_refl _) hb)
  have yR0_4 := hid (yR0_3.out.below (Nat.le_refl _) hb)
  have yR1_4 := hid (yR1_3.out.below (Nat.le_refl _) hb)
  have yR2_4 := hid (yR2_3.out.below (Nat.le_refl _) hb)
  have yR3_4 := hid (yR3_3.out.below (Nat.le_refl _) hb)
  have HB_4 := hid (bel_next HB_3.out HB_3.out.size hb)
  have t0_4 := cell_below hb (Nat.lt_of_succ_lt z_3) t0_3
  have yt0_4 := cell_below hb z_3 yt0_3
  have t1_4 := cell_below hb (Nat.lt_of_succ_lt z_3) t1_3
  have yt1_4 := cell_below hb z_3 yt1_3
  have t2_4 := cell_below hb (Nat.lt_of_succ_lt z_3) t2_3
  have yt2_4 := cell_below hb z_3 yt2_3
  have t3_4 := cell_below hb (Nat.lt_of_succ_lt z_3) t3_3
  have yt3_4 := cell_below hb z_3 yt3_3
  have z_4 := Nat.lt_of_lt_of_le z_3 hb.size
  clear hb R0_3 R1_3 R2_3 R3_3 yR0_3 yR1_3 yR2_3 yR3_3 HB_3 t0_3 yt0_3 t1_3 yt1_3 t2_3 yt2_3 t3_3 yt3_3 z_3
  go_wp2
  go_ret
  exact ⟨ret_bool (by rw [HF.out]; simp), HB_4.out⟩
def RetAnnotated (x : An) (w : World) (e : Ending) (w' : World) : Prop :=
  ∃ a0 p0 a1 p1 a2 p2 a3 p3, e = .returned (.agg #[.slice a0 x.1.length p0, .slice a1 x.2.1.length p1, .slice a2 x.2.2.1.length p2, .slice a3 x.2.2.2.length p3]) ∧ SlRd cTerm (Fresh w.heap.size w') w' a0 p0 x.1 ∧ SlRd cTerm (Fresh w.heap.size w') w' a1 p1 x.2.1 ∧ SlRd cInstr (Fresh w.heap.size w') w' a2 p2 x.2.2.1 ∧ SlRd cPoint (Fresh w.heap.size w') w' a3 p3 x.2.2.2 ∧ Below w.heap.size w w'
set_option maxRecDepth 100000 in
set_option maxHeartbeats 1000000 in
theorem u_toAnnotated {S : Nat → Prop} {a0 : Option Addr} {p0 : Nat} {d0 : List Term} {a1 : Option Addr} {p1 : Nat} {d1 : List Term} {a2 : Option Addr} {p2 : Nat} {d2 : List Instr} {a3 : Option Addr} {p3 : Nat} {d3 : List Pt} {w : World} (h0 : SlRd cTerm S w a0 p0 d0) (h1 : SlRd cTerm S w a1 p1 d1) (h2 : SlRd cInstr S w a2 p2 d2) (h3 : SlRd cPoint S w a3 p3 d3) (hz : (szTs d0 + szTs d1 + d2.length + szPts d3) ≤ 1048576) :
    Calls Tryd.prog 7 #[.agg #[.slice a0 d0.length p0, .slice a1 d1.length p1, .slice a2 d2.length p2, .slice a3 d3.length p3]] w (RetAnnotated (d0, d1, d2, d3) w) := by
  have h0 := h0.keep (S' := fun b => S b ∧ b < w.heap.size) (w' := w) (fun b hb hlt => ⟨⟨hb, hlt⟩, rfl⟩)
  have R0_0 := hid (((h0.alloc (.cells #[.slice a0 d0.length p0, .slice a1 d1.length p1, .slice a2 d2.length p2, .slice a3 d3.length p3] 26)).alloc (.cells #[.slice none 0 0, .slice none 0 0, .slice none 0 0, .slice none 0 0] 34)).alloc (.cells #[.slice none 0 0, .slice none 0 0, .slice none 0 0, .slice none 0 0] 34))
  have h1 := h1.keep (S' := fun b => S b ∧ b < w.heap.size) (w' := w) (fun b hb hlt => ⟨⟨hb, hlt⟩, rfl⟩)
  have R1_0 := hid (((h1.alloc (.cells #[.slice a0 d0.length p0, .slice a1 d1.length p1, .slice a2 d2.length p2, .slice a3 d3.length p3] 26)).alloc (.cells #[.slice none 0 0, .slice none 0 0, .slice none 0 0, .slice none 0 0] 34)).alloc (.cells #[.slice none 0 0, .slice none 0 0, .slice none 0 0, .slice none 0 0] 34))
  have h2 := h2.keep (S' := fun b => S b ∧ b < w.heap.size) (w' := w) (fun b hb hlt => ⟨⟨hb, hlt⟩, rfl⟩)
  have R2_0 := hid (((h2.alloc (.cells #[.slice a0 d0.length p0, .slice a1 d1.length p1, .slice a2 d2.length p2, .slice a3 d3.length p3] 26)).alloc (.cells #[.slice none 0 0, .slice none 0 0, .slice none 0 0, .slice none 0 0] 34)).alloc (.cells #[.slice none 0 0, .slice none 0 0, .slice none 0 0, .slice none 0 0] 34))
  have h3 := h3.keep (S' := fun b => S b ∧ b < w.heap.size) (w' := w) (fun b hb hlt => ⟨⟨hb, hlt⟩, rfl⟩)
  have R3_0 := hid (((h3.alloc (.cells #[.slice a0 d0.length p0, .slice a1 d1.length p1, .slice a2 d2.length p2, .slice a3 d3.length p3] 26)).alloc (.cells #[.slice none 0 0, .slice none 0 0, .slice none 0 0, .slice none 0 0] 34)).alloc (.cells #[.slice none 0 0, .slice none 0 0, .slice none 0 0, .slice none 0 0] 34))
  have HB_0 : Hid (Below w.heap.size w (((w.alloc (.cells #[.slice a0 d0.length p0, .slice a1 d1.length p1, .slice a2 d2.length p2, .slice a3 d3.length p3] 26)).alloc (.cells #[.slice none 0 0, .slice none 0 0, .slice none 0 0, .slice none 0 0] 34)).alloc (.cells #[.slice none 0 0, .slice none 0 0, .slice none 0 0, .slice none 0 0] 34))) := (((Below.refl _ _).alloc (Nat.le_refl _) _).alloc (by simp) _).alloc (by simp; omega) _
  have z_0 : w.heap.size + 1 + 1 < (((w.alloc (.cells #[.slice a0 d0.length p0, .slice a1 d1.length p1, .slice a2 d2.length p2, .slice a3 d3.length p3] 26)).alloc (.cells #[.slice none 0 0, .slice none 0 0, .slice none 0 0, .slice none 0 0] 34)).alloc (.cells #[.slice none 0 0, .slice none 0 0, .slice none 0 0, .slice none 0 0] 34)).heap.size := by simp
  have KB_0 : Hid ((((w.alloc (.cells #[.slice a0 d0.length p0, .slice a1 d1.length p1, .slice a2 d2.length p2, .slice a3 d3.length p3] 26)).alloc (.cells #[.slice none 0 0, .slice none 0 0, .slice none 0 0, .slice none 0 0] 34)).alloc (.cells #[.slice none 0 0, .slice none 0 0, .slice none 0 0, .slice none 0 0] 34)).heap[w.heap.size]? = some (.cells #[.slice a0 d0.length p0, .slice a1 d1.length p1, .slice a2 d2.length p2, .slice a3 d3.length p3] 26 (0, 0))) := by unfold Hid; rw [Below.heap_alloc _ _ _ (by simp; omega), Below.heap_alloc _ _ _ (by simp)]; exact new_at rfl
  have KR_0 : Hid ((((w.alloc (.cells #[.slice a0 d0.length p0, .slice a1 d1.length p1, .slice a2 d2.length p2, .slice a3 d3.length p3] 26)).alloc (.cells #[.slice none 0 0, .slice none 0 0, .slice none 0 0, .slice none 0 0] 34)).alloc (.cells #[.slice none 0 0, .slice none 0 0, .slice none 0 0, .slice none 0 0] 34)).heap[w.heap.size + 1]? = some (.cells #[.slice none 0 0, .slice none 0 0, .slice none 0 0, .slice none 0 0] 34 (0, 0))) := by unfold Hid; rw [Below.heap_alloc _ _ _ (by simp)]; exact new_at (by simp)
  have KL_0 : Hid ((((w.alloc (.cells #[.slice a0 d0.length p0, .slice a1 d1.length p1, .slice a2 d2.length p2, .slice a3 d3.length p3] 26)).alloc (.cells #[.slice none 0 0, .slice none 0 0, .slice none 0 0, .slice none 0 0] 34)).alloc (.cells #[.slice none 0 0, .slice none 0 0, .slice none 0 0, .slice none 0 0] 34)).heap[w.heap.size + 1 + 1]? = some (.cells #[.slice none 0 0, .slice none 0 0, .slice none 0 0, .slice none 0 0] 34 (0, 0))) := new_at (by simp)
  clear h0 h1 h2 h3
  go_enter Tryd.func7, Tryd.ntmps7
  go_wp2_with fail
  generalize (((w.alloc (.cells #[.slice a0 d0.length p0, .slice a1 d1.length p1, .slice a2 d2.length p2, .slice a3 d3.length p3] 26)).alloc (.cells #[.slice none 0 0, .slice none 0 0, .slice none 0 0, .slice none 0 0] 34)).alloc (.cells #[.slice none 0 0, .slice none 0 0, .slice none 0 0, .slice none 0 0] 34)) = wc_0 at *
  refine (u_toTermS R0_0.out (by omega)).mono ?_
  rintro e w_1 ⟨na0, np0, rfl, hs0, hb⟩
  have R0_1 := hid (R0_0.out.below (Nat.le_refl _) hb)
  have R1_1 := hid (R1_0.out.below (Nat.le_refl _) hb)
  have R2_1 := hid (R2_0.out.below (Nat.le_refl _) hb)
  have R3_1 := hid (R3_0.out.below (Nat.le_refl _) hb)
  have N0_1 := hid (hs0.lower (B' := w.heap.size + 1 + 1 + 1) z_0)
  have HB_1 := hid (bel_next HB_0.out HB_0.out.size hb)
  have KB_1 := hid ((hb.block (w.heap.size) (by omega)).trans KB_0.out)
  have KR_1 := hid ((hb.block (w.heap.size + 1) (by omega)).trans KR_0.out)
  have KL_1 := hid ((hb.block (w.heap.size + 1 + 1) (by omega)).trans KL_0.out)
  have z_1 := Nat.lt_of_lt_of_le z_0 hb.size
  clear hb hs0 R0_0 R1_0 R2_0 R3_0  HB_0 KB_0 KR_0 KL_0 z_0
  have tb0 := cell_of KB_1.out (j := 0) rfl
  have tl0 := cell_of KL_1.out (j := 0) rfl
  have fl0 := frz_of KL_1.out 0
  have tb1 := cell_of KB_1.out (j := 1) rfl
  have tl1 := cell_of KL_1.out (j := 1) rfl
  have fl1 := frz_of KL_1.out 1
  have tb2 := cell_of KB_1.out (j := 2) rfl
  have tl2 := cell_of KL_1.out (j := 2) rfl
  have fl2 := frz_of KL_1.out 2
  have tb3 := cell_of KB_1.out (j := 3) rfl
  have tl3 := cell_of KL_1.out (j := 3) rfl
  have fl3 := frz_of KL_1.out 3
  go_wp2_with fail
  clear tb0 tl0 fl0 tb1 tl1 fl1 tb2 tl2 fl2 tb3 tl3 fl3
  have R0_1 : Hid (SlRd cTerm (fun b => S b ∧ b < w.heap.size) (w_1.setCell ⟨w.heap.size + 1 + 1, 0, none⟩ (.slice na0 d0.length np0)) a0 p0 d0) := R0_1.out.set_ne (p := ⟨w.heap.size + 1 + 1, 0, none⟩) (fun b h => by have h2 := h.2; show b ≠ w.heap.size + 1 + 1; omega) _
  have R1_1 : Hid (SlRd cTerm (fun b => S b ∧ b < w.heap.size) (w_1.setCell ⟨w.heap.size + 1 + 1, 0, none⟩ (.slice na0 d0.length np0)) a1 p1 d1) := R1_1.out.set_ne (p := ⟨w.heap.size + 1 + 1, 0, none⟩) (fun b h => by have h2 := h.2; show b ≠ w.heap.size + 1 + 1; omega) _
  have R2_1 : Hid (SlRd cInstr (fun b => S b ∧ b < w.heap.size) (w_1.setCell ⟨w.heap.size + 1 + 1, 0, none⟩ (.slice na0 d0.length np0)) a2 p2 d2) := R2_1.out.set_ne (p := ⟨w.heap.size + 1 + 1, 0, none⟩) (fun b h => by have h2 := h.2; show b ≠ w.heap.size + 1 + 1; omega) _
  have R3_1 : Hid (SlRd cPoint (fun b => S b ∧ b < w.heap.size) (w_1.setCell ⟨w.heap.size + 1 + 1, 0, none⟩ (.slice na0 d0.length np0)) a3 p3 d3) := R3_1.out.set_ne (p := ⟨w.heap.size + 1 + 1, 0, none⟩) (fun b h => by have h2 := h.2; show b ≠ w.heap.size + 1 + 1; omega) _
  have N0_1 := hid (N0_1.out.setC (p := ⟨w.heap.size + 1 + 1, 0, none⟩) (by simp) (.slice na0 d0.length np0))
  have HB_1 := hid (HB_1.out.setCell (p := ⟨w.heap.size + 1 + 1, 0, none⟩) (by simp; omega) (.slice na0 d0.length np0))
  have KB_1 := hid (blk_ne (b := w.heap.size) (p := ⟨w.heap.size + 1 + 1, 0, none⟩) (by simp; omega) KB_1.out (.slice na0 d0.length np0))
  have KR_1 := hid (blk_ne (b := w.heap.size + 1) (p := ⟨w.heap.size + 1 + 1, 0, none⟩) (by simp) KR_1.out (.slice na0 d0.length np0))
  have KL_1 : Hid ((w_1.setCell ⟨w.heap.size + 1 + 1, 0, none⟩ (.slice na0 d0.length np0)).heap[w.heap.size + 1 + 1]? = some (.cells #[.slice na0 d0.length np0, .slice none 0 0, .slice none 0 0, .slice none 0 0] 34 (0, 0))) := blk_set KL_1.out 0 (.slice na0 d0.length np0)
  have z_1 : w.heap.size + 1 + 1 < (w_1.setCell ⟨w.heap.size + 1 + 1, 0, none⟩ (.slice na0 d0.length np0)).heap.size := by rw [size_set]; exact z_1
  generalize (w_1.setCell ⟨w.heap.size + 1 + 1, 0, none⟩ (.slice na0 d0.length np0)) = wc_1 at *
  refine (u_toTermS R1_1.out (by omega)).mono ?_
  rintro e w_2 ⟨na1, np1, rfl, hs1, hb⟩
  have R0_2 := hid (R0_1.out.below (Nat.le_refl _) hb)
  have R1_2 := hid (R1_1.out.below (Nat.le_refl _) hb)
  have R2_2 := hid (R2_1.out.below (Nat.le_refl _) hb)
  have R3_2 := hid (R3_1.out.below (Nat.le_refl _) hb)
  have N0_2 := hid (N0_1.out.fresh (Nat.le_refl _) (Nat.le_refl _) hb)
  have N1_2 := hid (hs1.lower (B' := w.heap.size + 1 + 1 + 1) z_1)
  have HB_2 := hid (bel_next HB_1.out HB_1.out.size hb)
  have KB_2 := hid ((hb.block (w.heap.size) (by omega)).trans KB_1.out)
  have KR_2 := hid ((hb.block (w.heap.size + 1) (by omega)).trans KR_1.out)
  have KL_2 := hid ((hb.block (w.heap.size + 1 + 1) (by omega)).trans KL_1.out)
  have z_2 := Nat.lt_of_lt_of_le z_1 hb.size
  clear hb hs1 R0_1 R1_1 R2_1 R3_1 N0_1 HB_1 KB_1 KR_1 KL_1 z_1
  have tb0 := cell_of KB_2.out (j := 0) rfl
  have tl0 := cell_of KL_2.out (j := 0) rfl
  have fl0 := frz_of KL_2.out 0
  have tb1 := cell_of KB_2.out (j := 1) rfl
  have tl1 := cell_of KL_2.out (j := 1) rfl
  have fl1 := frz_of KL_2.out 1
  have tb2 := cell_of KB_2.out (j := 2) rfl
  have tl2 := cell_of KL_2.out (j := 2) rfl
  have fl2 := frz_of KL_2.out 2
  have tb3 := cell_of KB_2.out (j := 3) rfl
  have tl3 := cell_of KL_2.out (j := 3) rfl
  have fl3 := frz_of KL_2.out 3
  go_wp2_with fail
  clear tb0 tl0 fl0 tb1 tl1 fl1 tb2 tl2 fl2 tb3 tl3 fl3
  have R0_2 : Hid (SlRd cTerm (fun b => S b ∧ b < w.heap.size) (w_2.setCell ⟨w.heap.size + 1 + 1, 1, none⟩ (.slice na1 d1.length np1)) a0 p0 d0) := R0_2.out.set_ne (p := ⟨w.heap.size + 1 + 1, 1, none⟩) (fun b h => by have h2 := h.2; show b ≠ w.heap.size + 1 + 1; omega) _
  have R1_2 : Hid (SlRd cTerm (fun b => S b ∧ b < w.heap.size) (w_2.setCell ⟨w.heap.size + 1 + 1, 1, none⟩ (.slice na1 d1.length np1)) a1 p1 d1) := R1_2.out.set_ne (p := ⟨w.heap.size + 1 + 1, 1, none⟩) (fun b h => by have h2 := h.2; show b ≠ w.heap.size + 1 + 1; omega) _
  have R2_2 : Hid (SlRd cInstr (fun b => S b ∧ b < w.heap.size) (w_2.setCell ⟨w.heap.size + 1 + 1, 1, none⟩ (.slice na1 d1.length np1)) a2 p2 d2) := R2_2.out.set_ne (p := ⟨w.heap.size + 1 + 1, 1, none⟩) (fun b h => by have h2 := h.2; show b ≠ w.heap.size + 1 + 1; omega) _
  have R3_2 : Hid (SlRd cPoint (fun b => S b ∧ b < w.heap.size) (w_2.setCell ⟨w.heap.size + 1 + 1, 1, none⟩ (.slice na1 d1.length np1)) a3 p3 d3) := R3_2.out.set_ne (p := ⟨w.heap.size + 1 + 1, 1, none⟩) (fun b h => by have h2 := h.2; show b ≠ w.heap.size + 1 + 1; omega) _
  have N0_2 := hid (N0_2.out.setC (p := ⟨w.heap.size + 1 + 1, 1, none⟩) (by simp) (.slice na1 d1.length np1))
  have N1_2 := hid (N1_2.out.setC (p := ⟨w.heap.size + 1 + 1, 1, none⟩) (by simp) (.slice na1 d1.length np1))
  have HB_2 := hid (HB_2.out.setCell (p := ⟨w.heap.size + 1 + 1, 1, none⟩) (by simp; omega) (.slice na1 d1.length np1))
  have KB_2 := hid (blk_ne (b := w.heap.size) (p := ⟨w.heap.size + 1 + 1, 1, none⟩) (by simp; omega) KB_2.out (.slice na1 d1.length np1))
  have KR_2 := hid (blk_ne (b := w.heap.size + 1) (p := ⟨w.heap.size + 1 + 1, 1, none⟩) (by simp) KR_2.out (.slice na1 d1.length np1))
  have KL_2 : Hid ((w_2.setCell ⟨w.heap.size + 1 + 1, 1, none⟩ (.slice na1 d1.length np1)).heap[w.heap.size + 1 + 1]? = some (.cells #[.slice na0 d0.length np0, .slice na1 d1.length np1, .slice none 0 0, .slice none 0 0] 34 (0, 0))) := blk_set KL_2.out 1 (.slice na1 d1.length np1)
  have z_2 : w.heap.size + 1 + 1 < (w_2.setCell ⟨w.heap.size + 1 + 1, 1, none⟩ (.slice na1 d1.length np1)).heap.size := by rw [size_set]; exact z_2
  generalize (w_2.setCell ⟨w.heap.size + 1 + 1, 1, none⟩ (.slice na1 d1.length np1)) = wc_2 at *
  refine (u_toInstrS R2_2.out (by omega)).mono ?_
  rintro e w_3 ⟨na2, np2, rfl, hs2, hb⟩
  have R0_3 := hid (R0_2.out.below (Nat.le_refl _) hb)
  have R1_3 := hid (R1_2.out.below (Nat.le_refl _) hb)
  have R2_3 := hid (R2_2.out.below (Nat.le_refl _) hb)
  have R3_3 := hid (R3_2.out.below (Nat.le_refl _) hb)
  have N0_3 := hid (N0_2.out.fresh (Nat.le_refl _) (Nat.le_refl _) hb)
  have N1_3 := hid (N1_2.out.fresh (Nat.le_refl _) (Nat.le_refl _) hb)
  have N2_3 := hid (hs2.lower (B' := w.heap.size + 1 + 1 + 1) z_2)
  have HB_3 := hid (bel_next HB_2.out HB_2.out.size hb)
  have KB_3 := hid ((hb.block (w.heap.size) (by omega)).trans KB_2.out)
  have KR_3 := hid ((hb.block (w.heap.size + 1) (by omega)).trans KR_2.out)
  have KL_3 := hid ((hb.block (w.heap.size + 1 + 1) (by omega)).trans KL_2.out)
  have z_3 := Nat.lt_of_lt_of_le z_2 hb.size
  clear hb hs2 R0_2 R1_2 R2_2 R3_2 N0_2 N1_2 HB_2 KB_2 KR_2 KL_2 z_2
  have tb0 := cell_of KB_3.out (j := 0) rfl
  have tl0 := cell_of KL_3.out (j := 0) rfl
  have fl0 := frz_of KL_3.out 0
  have tb1 := cell_of KB_3.out (j := 1) rfl
  have tl1 := cell_of KL_3.out (j := 1) rfl
  have fl1 := frz_of KL_3.out 1
  have tb2 := cell_of KB_3.out (j := 2) rfl
  have tl2 := cell_of KL_3.out (j := 2) rfl
  have fl2 := frz_of KL_3.out 2
  have tb3 := cell_of KB_3.out (j := 3) rfl
  have tl3 := cell_of KL_3.out (j := 3) rfl
  have fl3 := frz_of KL_3.out 3
  go_wp2_with fail
  clear tb0 tl0 fl0 tb1 tl1 fl1 tb2 tl2 fl2 tb3 tl3 fl3
  have R0_3 : Hid (SlRd cTerm (fun b => S b ∧ b < w.heap.size) (w_3.setCell ⟨w.heap.size + 1 + 1, 2, none⟩ (.slice na2 d2.length np2)) a0 p0 d0) := R0_3.out.set_ne (p := ⟨w.heap.size + 1 + 1, 2, none⟩) (fun b h => by have h2 := h.2; show b ≠ w.heap.size + 1 + 1; omega) _
  have R1_3 : Hid (SlRd cTerm (fun b => S b ∧ b < w.heap.size) (w_3.setCell ⟨w.heap.size + 1 + 1, 2, none⟩ (.slice na2 d2.length np2)) a1 p1 d1) := R1_3.out.set_ne (p := ⟨w.heap.size + 1 + 1, 2, none⟩) (fun b h => by have h2 := h.2; show b ≠ w.heap.size + 1 + 1; omega) _
  have R2_3 : Hid (SlRd cInstr (fun b => S b ∧ b < w.heap.size) (w_3.setCell ⟨w.heap.size + 1 + 1, 2, none⟩ (.slice na2 d2.length np2)) a2 p2 d2) := R2_3.out.set_ne (p := ⟨w.heap.size + 1 + 1, 2, none⟩) (fun b h => by have h2 := h.2; show b ≠ w.heap.size + 1 + 1; omega) _
  have R3_3 : Hid (SlRd cPoint (fun b => S b ∧ b < w.heap.size) (w_3.setCell ⟨w.heap.size + 1 + 1, 2, none⟩ (.slice na2 d2.length np2)) a3 p3 d3) := R3_3.out.set_ne (p := ⟨w.heap.size + 1 + 1, 2, none⟩) (fun b h => by have h2 := h.2; show b ≠ w.heap.size + 1 + 1; omega) _
  have N0_3 := hid (N0_3.out.setC (p := ⟨w.heap.size + 1 + 1, 2, none⟩) (by simp) (.slice na2 d2.length np2))
  have N1_3 := hid (N1_3.out.setC (p := ⟨w.heap.size + 1 + 1, 2, none⟩) (by simp) (.slice na2 d2.length np2))
  have N2_3 := hid (N2_3.out.setC (p := ⟨w.heap.size + 1 + 1, 2, none⟩) (by simp) (.slice na2 d2.length np2))
  have HB_3 := hid (HB_3.out.setCell (p := ⟨w.heap.size + 1 + 1, 2, none⟩) (by simp; omega) (.slice na2 d2.length np2))
  have KB_3 := hid (blk_ne (b := w.heap.size) (p := ⟨w.heap.size + 1 + 1, 2, none⟩) (by simp; omega) KB_3.out (.slice na2 d2.length np2))
  have KR_3 := hid (blk_ne (b := w.heap.size + 1) (p := ⟨w.heap.size + 1 + 1, 2, none⟩) (by simp) KR_3.out (.slice na2 d2.length np2))
  have KL_3 : Hid ((w_3.setCell ⟨w.heap.size + 1 + 1, 2, none⟩ (.slice na2 d2.length np2)).heap[w.heap.size + 1 + 1]? = some (.cells #[.slice na0 d0.length np0, .slice na1 d1.length np1, .slice na2 d2.length np2, .slice none 0 0] 34 (0, 0))) := blk_set KL_3.out 2 (.slice na2 d2.length np2)
  have z_3 : w.heap.size + 1 + 1 < (w_3.setCell ⟨w.heap.size + 1 + 1, 2, none⟩ (.slice na2 d2.length np2)).heap.size := by rw [size_set]; exact z_3
  generalize (w_3.setCell ⟨w.heap.size + 1 + 1, 2, none⟩ (.slice na2 d2.length np2)) = wc_3 at *
  refine (u_toPointS R3_3.out (by omega)).mono ?_
  rintro e w_4 ⟨na3, np3, rfl, hs3, hb⟩
  have R0_4 := hid (R0_3.out.below (Nat.le_refl _) hb)
  have R1_4 := hid (R1_3.out.below (Nat.le_refl _) hb)
  have R2_4 := hid (R2_3.out.below (Nat.le_refl _) hb)
  have R3_4 := hid (R3_3.out.below (Nat.le_refl _) hb)
  have N0_4 := hid (N0_3.out.fresh (Nat.le_refl _) (Nat.le_refl _) hb)
  have N1_4 := hid (N1_3.out.fresh (Nat.le_refl _) (Nat.le_refl _) hb)
  have N2_4 := hid (N2_3.out.fresh (Nat.le_refl _) (Nat.le_refl _) hb)
  have N3_4 := hid (hs3.lower (B' := w.heap.size + 1 + 1 + 1) z_3)
  have HB_4 := hid (bel_next HB_3.out HB_3.out.size hb)
  have KB_4 := hid ((hb.block (w.heap.size) (by omega)).trans KB_3.out)
  have KR_4 := hid ((hb.block (w.heap.size + 1) (by omega)).trans KR_3.out)
  have KL_4 := hid ((hb.block (w.heap.size + 1 + 1) (by omega)).trans KL_3.out)
  have z_4 := Nat.lt_of_lt_of_le z_3 hb.size
  clear hb hs3 R0_3 R1_3 R2_3 R3_3 N0_3 N1_3 N2_3 HB_3 KB_3 KR_3 KL_3 z_3
  have tb0 := cell_of KB_4.out (j := 0) rfl
  have tl0 := cell_of KL_4.out (j := 0) rfl
  have fl0 := frz_of KL_4.out 0
  have tr0 := cell_of KR_4.out (j := 0) rfl
  have fr0 := frz_of KR_4.out 0
  have tb1 := cell_of KB_4.out (j := 1) rfl
  have tl1 := cell_of KL_4.out (j := 1) rfl
  have fl1 := frz_of KL_4.out 1
  have tr1 := cell_of KR_4.out (j := 1) rfl
  have fr1 := frz_of KR_4.out 1
  have tb2 := cell_of KB_4.out (j := 2) rfl
  have tl2 := cell_of KL_4.out (j := 2) rfl
  have fl2 := frz_of KL_4.out 2
  have tr2 := cell_of KR_4.out (j := 2) rfl
  have fr2 := frz_of KR_4.out 2
  have tb3 := cell_of KB_4.out (j := 3) rfl
  have tl3 := cell_of KL_4.out (j := 3) rfl
  have fl3 := frz_of KL_4.out 3
  have tr3 := cell_of KR_4.out (j := 3) rfl
  have fr3 := frz_of KR_4.out 3
  go_wp2
  refine bodyPost_ret (v := .agg #[.slice na0 d0.length np0, .slice na1 d1.length np1, .slice na2 d2.length np2, .slice na3 d3.length np3]) (by simp [results, Tryd.results7, go_sem, tr0, tr1, tr2, tr3]) rfl ⟨na0, np0, na1, np1, na2, np2, na3, np3, rfl, ?_, ?_, ?_, ?_, ?_⟩
  · exact (((((N0_4.out.setC (by simp) _).setC (by simp) _).setC (by simp) _).setC (by simp) _).setC (by simp) _).lower (by omega)
  · exact (((((N1_4.out.setC (by simp) _).setC (by simp) _).setC (by simp) _).setC (by simp) _).setC (by simp) _).lower (by omega)
  · exact (((((N2_4.out.setC (by simp) _).setC (by simp) _).setC (by simp) _).setC (by simp) _).setC (by simp) _).lower (by omega)
  · exact (((((N3_4.out.setC (by simp) _).setC (by simp) _).setC (by simp) _).setC (by simp) _).setC (by simp) _).lower (by omega)
  · exact (((((HB_4.out.setCell (by simp <;> omega) _).setCell (by simp <;> omega) _).setCell (by simp <;> omega) _).setCell (by simp <;> omega) _).setCell (by simp <;> omega) _)
end Go.Proofs.YtcmopmapdomneaaDoor
end

section
namespace Go.Proofs.YtcmopmapdomneaaDoor

open Go.RowKit

def stepOk (n : Nat) (ps : List Pt) (i : Nat) : Bool := match ps[i]? with
  | some p => (areOverF p.2 6 && inB p.1 0 ((n : Int) - 1)) && (i == 0 || (match ps[i - 1]? with | some q => decide (q.1 < p.1) | none => false))
  | none => true
def ptsOk (n : Nat) (ps : List Pt) (k : Nat) : Bool := (List.range k).all (stepOk n ps)
def headOk (a : An) : Bool := ((validCode a.2.2.1 && areOverF a.1 6) && areOverF a.2.1 6) && decide (a.2.2.2.length ≤ 8)
def validAn (a : An) : Bool := headOk a && ptsOk a.2.2.1.length a.2.2.2 a.2.2.2.length
theorem ptsOk_succ {n : Nat} {ps : List Pt} {k : Nat} (h : ptsOk n ps k = true) : ptsOk n ps (k + 1) = stepOk n ps k := by
  unfold ptsOk at h ⊢; rw [List.range_succ, List.all_append, h]; simp
theorem ptsOk_false {n : Nat} {ps : List Pt} {k m : Nat} (h : stepOk n ps k = false) (hk : k < m) : ptsOk n ps m = false := by
  unfold ptsOk; rw [List.all_eq_false]; exact ⟨k, by simpa using hk, by simp [h]⟩
theorem stepOk_zero {n : Nat} {ps : List Pt} {p : Pt} (h : ps[0]? = some p) : stepOk n ps 0 = (areOverF p.2 6 && inB p.1 0 ((n : Int) - 1)) := by unfold stepOk; rw [h]; simp
theorem stepOk_succ {n : Nat} {ps : List Pt} {p q : Pt} {k : Nat} (h : ps[k + 1]? = some p) (hq : ps[k]? = some q) : stepOk n ps (k + 1) = ((areOverF p.2 6 && inB p.1 0 ((n : Int) - 1)) && decide (q.1 < p.1)) := by
  unfold stepOk; rw [h]; simp [hq]
theorem c_isIndex (k : Int) (n : Nat) (w : World) (hn : n ≤ 1000000) : Calls Tryd.prog 48 #[.int .i64 k, .int .i64 n] w fun e w' => e = .returned (.bool (inB k 0 ((n : Int) - 1))) ∧ w = w' := by
  go_enter Tryd.func48, Tryd.ntmps48
  go_wp2_with (first | (go_at_call 76; refine (c_size _ _).mono ?_; rintro e w' ⟨rfl, rfl⟩) | (go_at_call 75; refine (c_within _ _ _ _).mono ?_; rintro e w' ⟨rfl, rfl⟩))
  go_ret
  exact ⟨rfl, rfl⟩
theorem c_l08Facts {S : Nat → Prop} (a : Option Addr) (cap : Nat) (ts : List Term) (w : World) (h : SlRd cTerm S w a cap ts) :
    Calls Tryd.prog 38 #[.slice a ts.length cap] w fun e w' => e = .returned (.bool (areOverF ts 6)) ∧ w = w' := by
  have hl := h.len_le
  have H := hid h
  clear h
  go_enter Tryd.func38, Tryd.ntmps38
  go_wp2
  go_loop [3] (fun i => ∃ k : Nat, k ≤ ts.length ∧ i = .int .i64 k ∧ Hid ((ts.take k).all overT = true)) (fun i => ts.length - (intOf i).toNat)
  case atStart => exact ⟨0, Nat.zero_le _, rfl, rfl⟩
  case round =>
    obtain ⟨k, hk, rfl, HA⟩ := hrel
    by_cases hlt : k < ts.length
    · obtain ⟨b, off, rfl⟩ := H.out.some_of hlt
      obtain ⟨c, zs, a', cap', hz, hc1, hsl, hc, hc', hb⟩ := H.out.term_at k hlt
      have hzl := hsl.len_le
      have HZ := hid hz
      have HC := hid (c_l02Is _ _ _ _ _ _ _ hc hc' hsl)
      obtain ⟨r, hr⟩ : ∃ r, validTerm (c, zs) = r := ⟨_, rfl⟩
      have HR := hid hr
      clear hz hr hsl
      by_cases h4 : zs.length ≤ 4
      · have h4' : decide ((4 : Int) < zs.length) = false := by simp; omega
        have HO : Hid (overT (c, zs) = r) := by unfold Hid overT; rw [HR.out]; simp [h4]
        cases r
        · go_wp2_with (go_at_call 69; refine HC.out.mono ?_; rintro e w' ⟨rfl, rfl⟩; rw [HR.out])
          go_ret
          exact ⟨ret_bool (by simp [areOverF, all_false HZ.out HO.out]), rfl⟩
        · go_wp2_with (go_at_call 69; refine HC.out.mono ?_; rintro e w' ⟨rfl, rfl⟩; rw [HR.out])
          go_round
          case rel => exact ⟨k + 1, by omega, by go_num, (all_take HA.out HZ.out).trans HO.out⟩
          case measure => simp [intOf]; omega
      · have h4' : decide ((4 : Int) < zs.length) = true := by simp; omega
        have HO : Hid (overT (c, zs) = false) := by unfold Hid overT; simp [h4]
        cases r
        all_goals
          go_wp2_with (go_at_call 69; refine HC.out.mono ?_; rintro e w' ⟨rfl, rfl⟩; rw [HR.out])
          go_ret
          exact ⟨ret_bool (by simp [areOverF, all_false HZ.out HO.out]), rfl⟩
    · go_wp2
      go_ret
      exact ⟨ret_bool (by simp only [areOverF, all_end HA.out (by omega)]; rw [Bool.eq_iff_iff]; simp <;> omega), rfl⟩
end Go.Proofs.YtcmopmapdomneaaDoor
end

section
namespace Go.Proofs.YtcmopmapdomneaaDoor
open Go.RowKit
set_option maxRecDepth 100000 in
set_option maxHeartbeats 40000000 in
theorem c_ValidAnnotated {S : Nat → Prop} {a0 : Option Addr} {p0 : Nat} {d0 : List Term} {a1 : Option Addr} {p1 : Nat} {d1 : List Term} {a2 : Option Addr} {p2 : Nat} {d2 : List Instr} {a3 : Option Addr} {p3 : Nat} {d3 : List Pt} {w : World} (h0 : SlRd cTerm S w a0 p0 d0) (h1 : SlRd cTerm S w a1 p1 d1) (h2 : SlRd cInstr S w a2 p2 d2) (h3 : SlRd cPoint S w a3 p3 d3) :
    Calls Tryd.prog 23 #[.agg #[.slice a0 d0.length p0, .slice a1 d1.length p1, .slice a2 d2.length p2, .slice a3 d3.length p3]] w fun e w' => e = .returned (.bool (validAn (d0, d1, d2, d3))) ∧ Below w.heap.size w w' := by
  have hl3 := h3.len_le
  have H0 := hid (h0.alloc (.cells #[.slice a0 d0.length p0, .slice a1 d1.length p1, .slice a2 d2.length p2, .slice a3 d3.length p3] 34))
  have H1 := hid (h1.alloc (.cells #[.slice a0 d0.length p0, .slice a1 d1.length p1, .slice a2 d2.length p2, .slice a3 d3.length p3] 34))
  have H2 := hid (h2.alloc (.cells #[.slice a0 d0.length p0, .slice a1 d1.length p1, .slice a2 d2.length p2, .slice a3 d3.length p3] 34))
  have H3 := hid (h3.alloc (.cells #[.slice a0 d0.length p0, .slice a1 d1.length p1, .slice a2 d2.length p2, .slice a3 d3.length p3] 34))
  have HB : Hid (Below w.heap.size w (w.alloc (.cells #[.slice a0 d0.length p0, .slice a1 d1.length p1, .slice a2 d2.length p2, .slice a3 d3.length p3] 34))) := (Below.refl _ _).alloc (Nat.le_refl _) _
  have t0 : (w.alloc (.cells #[.slice a0 d0.length p0, .slice a1 d1.length p1, .slice a2 d2.length p2, .slice a3 d3.length p3] 34)).cell? ⟨w.heap.size, 0, none⟩ = some (.slice a0 d0.length p0) := by simp [go_sem]
  have t1 : (w.alloc (.cells #[.slice a0 d0.length p0, .slice a1 d1.length p1, .slice a2 d2.length p2, .slice a3 d3.length p3] 34)).cell? ⟨w.heap.size, 1, none⟩ = some (.slice a1 d1.length p1) := by simp [go_sem]
  have t2 : (w.alloc (.cells #[.slice a0 d0.length p0, .slice a1 d1.length p1, .slice a2 d2.length p2, .slice a3 d3.length p3] 34)).cell? ⟨w.heap.size, 2, none⟩ = some (.slice a2 d2.length p2) := by simp [go_sem]
  have t3 : (w.alloc (.cells #[.slice a0 d0.length p0, .slice a1 d1.length p1, .slice a2 d2.length p2, .slice a3 d3.length p3] 34)).cell? ⟨w.heap.size, 3, none⟩ = some (.slice a3 d3.length p3) := by simp [go_sem]
  have z0 : w.heap.size < (w.alloc (.cells #[.slice a0 d0.length p0, .slice a1 d1.length p1, .slice a2 d2.length p2, .slice a3 d3.length p3] 34)).heap.size := by simp
  clear h0 h1 h2 h3
  obtain ⟨r, hr⟩ : ∃ r, validCode d2 = r := ⟨_, rfl⟩
  obtain ⟨q, hq⟩ : ∃ q, areOverF d0 6 = q := ⟨_, rfl⟩
  obtain ⟨u, hu⟩ : ∃ u, areOverF d1 6 = u := ⟨_, rfl⟩
  have HF : Hid (validAn (d0, d1, d2, d3) = ((((r && q) && u) && decide (d3.length ≤ 8)) && ptsOk d2.length d3 d3.length)) := by unfold Hid validAn headOk; rw [hr, hq, hu]
  have HR := hid hr
  have HQ := hid hq
  have HU := hid hu
  clear hr hq hu
  cases r
  · go_enter Tryd.func23, Tryd.ntmps23
    go_wp2_with fail
    generalize w.alloc (.cells #[.slice a0 d0.length p0, .slice a1 d1.length p1, .slice a2 d2.length p2, .slice a3 d3.length p3] 34) = W0 at *
    go_wp2_with (go_at_call 46; refine (c_ValidCode _ _ _ _ H2.out).mono ?_; rintro e w1 ⟨rfl, hb1⟩; rw [HR.out])
    go_ret
    exact ⟨ret_bool (by rw [HF.out]; rfl), bel_next HB.out HB.out.size hb1⟩
  · by_cases hl8 : d3.length ≤ 8
    all_goals
      cases q
      all_goals
        cases u
        all_goals
          go_enter Tryd.func23, Tryd.ntmps23
          go_wp2_with fail
          generalize w.alloc (.cells #[.slice a0 d0.length p0, .slice a1 d1.length p1, .slice a2 d2.length p2, .slice a3 d3.length p3] 34) = W0 at *
          refine (c_ValidCode _ _ _ _ H2.out).mono ?_
          rintro e w1 ⟨rfl, hb1⟩
          rw [HR.out]
          have t10 := cell_below hb1 z0 t0
          have t11 := cell_below hb1 z0 t1
          have t12 := cell_below hb1 z0 t2
          have t13 := cell_below hb1 z0 t3
          have z1 := Nat.lt_of_lt_of_le z0 hb1.size
          have HW1 := hid hb1
          have H01 := hid (H0.out.below (Nat.le_refl _) hb1)
          have H11 := hid (H1.out.below (Nat.le_refl _) hb1)
          clear hb1
          go_wp2_with fail
          refine (c_areOver _ _ _ _ _ H01.out).mono ?_
          rintro e w2 ⟨rfl, hb2⟩
          rw [HQ.out]
          have t20 := cell_below hb2 z1 t10
          have t21 := cell_below hb2 z1 t11
          have t22 := cell_below hb2 z1 t12
          have t23 := cell_below hb2 z1 t13
          have z2 := Nat.lt_of_lt_of_le z1 hb2.size
          have HW2 := hid (bel_next HW1.out HW1.out.size hb2)
          have H12 := hid (H11.out.below (Nat.le_refl _) hb2)
          clear hb2 t10 t11 t12 t13
          first
            | (go_wp2_with fail
               refine (c_areOver _ _ _ _ _ H12.out).mono ?_
               rintro e w3 ⟨rfl, hb3⟩
               rw [HU.out]
               have t30 := cell_below hb3 z2 t20
               have t31 := cell_below hb3 z2 t21
               have t32 := cell_below hb3 z2 t22
               have t33 := cell_below hb3 z2 t23
               have HW3 := hid (bel_next HW2.out HW2.out.size hb3)
               clear hb3 t20 t21 t22 t23
               go_wp2
               first
                 | (go_ret; exact ⟨ret_bool (by rw [HF.out]; simp [hl8]), bel_next HB.out HB.out.size HW3.out⟩)
                 | skip)
            | (go_wp2
               go_ret
               exact ⟨ret_bool (by rw [HF.out]; simp [hl8]), bel_next HB.out HB.out.size HW2.out⟩)
    have HHD : Hid (validAn (d0, d1, d2, d3) = ptsOk d2.length d3 d3.length) := by unfold Hid; rw [HF.out]; simp [hl8]
    have hd80 := (validCode_iff HR.out).2.1
    have hN6 : d2.length ≤ 1000000 := by omega
    go_loopw [30] (fun i wr => ∃ k : Nat, k ≤ d3.length ∧ i = .int .i64 k ∧ Hid (ptsOk d2.length d3 k = true) ∧ Hid (Below W0.heap.size W0 wr)) (fun i _ => d3.length - (intOf i).toNat)
    case atStart => exact ⟨0, Nat.zero_le _, rfl, rfl, HW3⟩
    case round =>
      obtain ⟨k, hk, rfl, HK, HBR⟩ := hrel
      by_cases hlt : k < d3.length
      · obtain ⟨b, off, rfl⟩ := H3.out.some_of hlt
        have hszr := HBR.out.size
        obtain ⟨x, a', cap', ts, hz, hx1, hsl, hc, hc', hb⟩ := (H3.out.below (Nat.le_refl _) HBR.out).pt_at k hlt
        have HZ := hid hz
        have HS := hid (hsl.alloc (.cells #[.int .i64 x, .slice a' ts.length cap'] 82))
        have HBX := hid (HBR.out.alloc hszr (.cells #[.int .i64 x, .slice a' ts.length cap'] 82))
        have u0 : (wr.alloc (.cells #[.int .i64 x, .slice a' ts.length cap'] 82)).cell? ⟨wr.heap.size, 0, none⟩ = some (.int .i64 x) := by simp [go_sem]
        have u1 : (wr.alloc (.cells #[.int .i64 x, .slice a' ts.length cap'] 82)).cell? ⟨wr.heap.size, 1, none⟩ = some (.slice a' ts.length cap') := by simp [go_sem]
        have zu : wr.heap.size < (wr.alloc (.cells #[.int .i64 x, .slice a' ts.length cap'] 82)).heap.size := by simp
        have s2 := cell_below HBX.out z0 t2
        have s3 := cell_below HBX.out z0 t3
        have zs := Nat.lt_of_lt_of_le z0 HBX.out.size
        have zb : b < (wr.alloc (.cells #[.int .i64 x, .slice a' ts.length cap'] 82)).heap.size := by simp; omega
        clear hz hsl
        obtain ⟨A, hA⟩ : ∃ A, areOverF ts 6 = A := ⟨_, rfl⟩
        obtain ⟨I, hI⟩ : ∃ I, inB x 0 ((d2.length : Int) - 1) = I := ⟨_, rfl⟩
        have HA := hid hA
        have HI := hid hI
        have HSF : Hid ((A && I) = false → stepOk d2.length d3 k = false) := by
          have hz := HZ.out
          unfold Hid
          intro h
          unfold stepOk
          rw [hz]
          simp only []
          rw [hA, hI, h]; rfl
        clear hA hI
        cases A
        · have HST : Hid (stepOk d2.length d3 k = false) := HSF.out rfl
          go_wp2
          refine wp_region_held_drew (S := fun w' => w'.cell? ⟨wr.heap.size, 0, none⟩ = some (.int .i64 x) ∧ w'.cell? ⟨wr.heap.size, 1, none⟩ = some (.slice a' ts.length cap') ∧ w'.cell? ⟨w.heap.size, 2, none⟩ = some (.slice a2 d2.length p2) ∧ w'.cell? ⟨w.heap.size, 3, none⟩ = some (.slice (some ⟨b, off, none⟩) d3.length p3)) (by kernel_rfl) ⟨u0, u1, s2, s3⟩ (fun hHeld => ?_)
          refine rgH (i := 0) (oi := ?qo1) ?qh1 ?qr1
          case qh1 => (simp only [List.getElem?_toArray, List.getElem?_cons_succ, List.getElem?_cons_zero]; rfl)
          (refine ⟨by kernel_rfl, by kernel_rfl, by kernel_rfl, by assumption, ?qv1, fun _ _ _ h => h, Or.inl ⟨by kernel_rfl, ?qy1⟩, ?qn1⟩; case qy1 => (intro w hSw; (try dsimp only at hSw); go_simp; try with_reducible rfl))
          (try simp only [Act.put, List.setIfInBounds_toArray, List.set_cons_zero, List.set_cons_succ])
          refine rgH (i := 1) (oi := ?qo2) ?qh2 ?qr2
          case qh2 => (simp only [List.getElem?_toArray, List.getElem?_cons_succ, List.getElem?_cons_zero]; rfl)
          (refine ⟨by kernel_rfl, by kernel_rfl, by kernel_rfl, by assumption, ?qv2, fun _ _ _ h => h, Or.inl ⟨by kernel_rfl, ?qy2⟩, ?qn2⟩; case qy2 => (intro w hSw; (try dsimp only at hSw); go_simp; try with_reducible rfl))
          (try simp only [Act.put, List.setIfInBounds_toArray, List.set_cons_zero, List.set_cons_succ])
          refine wpAnyH_ready (rs := [2]) (by kernel_rfl) (by simp) ?_
          refine rgHcall (i := 2) (o := ?qo3) ?qh3 ?qk3
          case qh3 => (simp only [List.getElem?_toArray, List.getElem?_cons_succ, List.getElem?_cons_zero]; rfl)
          intro K hK
          go_simp
          (go_at_call 47; refine (c_areOver _ _ _ _ _ HS.out.drew).mono ?_; rintro e w1 ⟨rfl, hb1⟩; rw [HA.out]; have kk1 := And.intro (cell_below hb1 zu u0) (And.intro (cell_below hb1 zu u1) (And.intro (cell_below hb1 zs s2) (cell_below hb1 zs s3))); have HB1 := hid (bel_next HBX.out.drew HBX.out.drew.size hb1))
          refine hK.out _ _ kk1 (fun hHeld => ?_)
          clear hK K
          refine rgH (i := 3) (oi := ?qo4) ?qh4 ?qr4
          case qh4 => (simp only [List.getElem?_toArray, List.getElem?_cons_succ, List.getElem?_cons_zero]; rfl)
          (refine ⟨by kernel_rfl, by kernel_rfl, by kernel_rfl, by assumption, ?qv4, fun _ _ _ h => h, Or.inl ⟨by kernel_rfl, ?qy4⟩, ?qn4⟩; case qy4 => (intro w hSw; (try dsimp only at hSw); go_simp; try with_reducible rfl))
          (try simp only [Act.put, List.setIfInBounds_toArray, List.set_cons_zero, List.set_cons_succ])
          refine rgH (i := 4) (oi := ?qo5) ?qh5 ?qr5
          case qh5 => (simp only [List.getElem?_toArray, List.getElem?_cons_succ, List.getElem?_cons_zero]; rfl)
          (refine ⟨by kernel_rfl, by kernel_rfl, by kernel_rfl, by assumption, ?qv5, fun _ _ _ h => h, Or.inl ⟨by kernel_rfl, ?qy5⟩, ?qn5⟩; case qy5 => (intro w hSw; (try dsimp only at hSw); go_simp; try with_reducible rfl))
          (try simp only [Act.put, List.setIfInBounds_toArray, List.set_cons_zero, List.set_cons_succ])
          refine rgH (i := 5) (oi := ?qo6) ?qh6 ?qr6
          case qh6 => (simp only [List.getElem?_toArray, List.getElem?_cons_succ, List.getElem?_cons_zero]; rfl)
          (refine ⟨by kernel_rfl, by kernel_rfl, by kernel_rfl, by assumption, undef, fun _ _ _ h => h, Or.inr ⟨by kernel_rfl, rfl⟩, ?qm6⟩)
          refine rgH (i := 6) (oi := ?qo7) ?qh7 ?qr7
          case qh7 => (simp only [List.getElem?_toArray, List.getElem?_cons_succ, List.getElem?_cons_zero]; rfl)
          (refine ⟨by kernel_rfl, by kernel_rfl, by kernel_rfl, by assumption, undef, fun _ _ _ h => h, Or.inr ⟨by kernel_rfl, rfl⟩, ?qm7⟩)
          refine rgH (i := 7) (oi := ?qo8) ?qh8 ?qr8
          case qh8 => (simp only [List.getElem?_toArray, List.getElem?_cons_succ, List.getElem?_cons_zero]; rfl)
          (refine ⟨by kernel_rfl, by kernel_rfl, by kernel_rfl, by assumption, undef, fun _ _ _ h => h, Or.inr ⟨by kernel_rfl, rfl⟩, ?qm8⟩)
          (try simp only [Act.put, List.setIfInBounds_toArray, List.set_cons_zero, List.set_cons_succ])
          refine rgH (i := 8) (oi := ?qo9) ?qh9 ?qr9
          case qh9 => (simp only [List.getElem?_toArray, List.getElem?_cons_succ, List.getElem?_cons_zero]; rfl)
          (refine ⟨by kernel_rfl, by kernel_rfl, by kernel_rfl, by assumption, undef, fun _ _ _ h => h, Or.inr ⟨by kernel_rfl, rfl⟩, ?qm9⟩)
          refine rgH (i := 9) (oi := ?qo10) ?qh10 ?qr10
          case qh10 => (simp only [List.getElem?_toArray, List.getElem?_cons_succ, List.getElem?_cons_zero]; rfl)
          (refine ⟨by kernel_rfl, by kernel_rfl, by kernel_rfl, by assumption, undef, fun _ _ _ h => h, Or.inr ⟨by kernel_rfl, rfl⟩, ?qm10⟩)
          refine rgH (i := 10) (oi := ?qo11) ?qh11 ?qr11
          case qh11 => (simp only [List.getElem?_toArray, List.getElem?_cons_succ, List.getElem?_cons_zero]; rfl)
          (refine ⟨by kernel_rfl, by kernel_rfl, by kernel_rfl, by assumption, undef, fun _ _ _ h => h, Or.inr ⟨by kernel_rfl, rfl⟩, ?qm11⟩)
          refine rgH (i := 11) (oi := ?qo12) ?qh12 ?qr12
          case qh12 => (simp only [List.getElem?_toArray, List.getElem?_cons_succ, List.getElem?_cons_zero]; rfl)
          (refine ⟨by kernel_rfl, by kernel_rfl, by kernel_rfl, by assumption, undef, fun _ _ _ h => h, Or.inr ⟨by kernel_rfl, rfl⟩, ?qm12⟩)
          (try simp only [Act.put, List.setIfInBounds_toArray, List.set_cons_zero, List.set_cons_succ])
          refine rgH (i := 12) (oi := ?qo13) ?qh13 ?qr13
          case qh13 => (simp only [List.getElem?_toArray, List.getElem?_cons_succ, List.getElem?_cons_zero]; rfl)
          (refine ⟨by kernel_rfl, by kernel_rfl, by kernel_rfl, by assumption, ?qv13, fun _ _ _ h => h, Or.inl ⟨by kernel_rfl, ?qy13⟩, ?qn13⟩; case qy13 => (intro w hSw; (try dsimp only at hSw); go_simp; try with_reducible rfl))
          refine rgH (i := 13) (oi := ?qo14) ?qh14 ?qr14
          case qh14 => (simp only [List.getElem?_toArray, List.getElem?_cons_succ, List.getElem?_cons_zero]; rfl)
          (refine ⟨by kernel_rfl, by kernel_rfl, by kernel_rfl, by assumption, ?qv14, fun _ _ _ h => h, Or.inl ⟨by kernel_rfl, ?qy14⟩, ?qn14⟩; case qy14 => (intro w hSw; (try dsimp only at hSw); go_simp; try with_reducible rfl))
          (try simp only [Act.put, List.setIfInBounds_toArray, List.set_cons_zero, List.set_cons_succ])
          refine rgH (i := 14) (oi := ?qo15) ?qh15 ?qr15
          case qh15 => (simp only [List.getElem?_toArray, List.getElem?_cons_succ, List.getElem?_cons_zero]; rfl)
          (refine ⟨by kernel_rfl, by kernel_rfl, by kernel_rfl, by assumption, undef, fun _ _ _ h => h, Or.inr ⟨by kernel_rfl, rfl⟩, ?qm15⟩)
          refine rgH (i := 15) (oi := ?qo16) ?qh16 ?qr16
          case qh16 => (simp only [List.getElem?_toArray, List.getElem?_cons_succ, List.getElem?_cons_zero]; rfl)
          (refine ⟨by kernel_rfl, by kernel_rfl, by kernel_rfl, by assumption, undef, fun _ _ _ h => h, Or.inr ⟨by kernel_rfl, rfl⟩, ?qm16⟩)
          (try simp only [Act.put, List.setIfInBounds_toArray, List.set_cons_zero, List.set_cons_succ])
          refine rgH (i := 16) (oi := ?qo17) ?qh17 ?qr17
          case qh17 => (simp only [List.getElem?_toArray, List.getElem?_cons_succ, List.getElem?_cons_zero]; rfl)
          (refine ⟨by kernel_rfl, by kernel_rfl, by kernel_rfl, by assumption, undef, fun _ _ _ h => h, Or.inr ⟨by kernel_rfl, rfl⟩, ?qm17⟩)
          refine rgH (i := 17) (oi := ?qo18) ?qh18 ?qr18
          case qh18 => (simp only [List.getElem?_toArray, List.getElem?_cons_succ, List.getElem?_cons_zero]; rfl)
          (refine ⟨by kernel_rfl, by kernel_rfl, by kernel_rfl, by assumption, undef, fun _ _ _ h => h, Or.inr ⟨by kernel_rfl, rfl⟩, ?qm18⟩)
          refine rgH (i := 18) (oi := ?qo19) ?qh19 ?qr19
          case qh19 => (simp only [List.getElem?_toArray, List.getElem?_cons_succ, List.getElem?_cons_zero]; rfl)
          (refine ⟨by kernel_rfl, by kernel_rfl, by kernel_rfl, by assumption, undef, fun _ _ _ h => h, Or.inr ⟨by kernel_rfl, rfl⟩, ?qm19⟩)
          refine rgH (i := 19) (oi := ?qo20) ?qh20 ?qr20
          case qh20 => (simp only [List.getElem?_toArray, List.getElem?_cons_succ, List.getElem?_cons_zero]; rfl)
          (refine ⟨by kernel_rfl, by kernel_rfl, by kernel_rfl, by assumption, undef, fun _ _ _ h => h, Or.inr ⟨by kernel_rfl, rfl⟩, ?qm20⟩)
          (try simp only [Act.put, List.setIfInBounds_toArray, List.set_cons_zero, List.set_cons_succ])
          refine rgH (i := 20) (oi := ?qo21) ?qh21 ?qr21
          case qh21 => (simp only [List.getElem?_toArray, List.getElem?_cons_succ, List.getElem?_cons_zero]; rfl)
          (refine ⟨by kernel_rfl, by kernel_rfl, by kernel_rfl, by assumption, undef, fun _ _ _ h => h, Or.inr ⟨by kernel_rfl, rfl⟩, ?qm21⟩)
          refine rgH (i := 21) (oi := ?qo22) ?qh22 ?qr22
          case qh22 => (simp only [List.getElem?_toArray, List.getElem?_cons_succ, List.getElem?_cons_zero]; rfl)
          (refine ⟨by kernel_rfl, by kernel_rfl, by kernel_rfl, by assumption, undef, fun _ _ _ h => h, Or.inr ⟨by kernel_rfl, rfl⟩, ?qm22⟩)
          refine rgH (i := 22) (oi := ?qo23) ?qh23 ?qr23
          case qh23 => (simp only [List.getElem?_toArray, List.getElem?_cons_succ, List.getElem?_cons_zero]; rfl)
          (refine ⟨by kernel_rfl, by kernel_rfl, by kernel_rfl, by assumption, undef, fun _ _ _ h => h, Or.inr ⟨by kernel_rfl, rfl⟩, ?qm23⟩)
          refine rgH (i := 23) (oi := ?qo24) ?qh24 ?qr24
          case qh24 => (simp only [List.getElem?_toArray, List.getElem?_cons_succ, List.getElem?_cons_zero]; rfl)
          (refine ⟨by kernel_rfl, by kernel_rfl, by kernel_rfl, by assumption, undef, fun _ _ _ h => h, Or.inr ⟨by kernel_rfl, rfl⟩, ?qm24⟩)
          (try simp only [Act.put, List.setIfInBounds_toArray, List.set_cons_zero, List.set_cons_succ])
          refine rgH (i := 24) (oi := ?qo25) ?qh25 ?qr25
          case qh25 => (simp only [List.getElem?_toArray, List.getElem?_cons_succ, List.getElem?_cons_zero]; rfl)
          (refine ⟨by kernel_rfl, by kernel_rfl, by kernel_rfl, by assumption, undef, fun _ _ _ h => h, Or.inr ⟨by kernel_rfl, rfl⟩, ?qm25⟩)
          refine rgH (i := 25) (oi := ?qo26) ?qh26 ?qr26
          case qh26 => (simp only [List.getElem?_toArray, List.getElem?_cons_succ, List.getElem?_cons_zero]; rfl)
          (refine ⟨by kernel_rfl, by kernel_rfl, by kernel_rfl, by assumption, undef, fun _ _ _ h => h, Or.inr ⟨by kernel_rfl, rfl⟩, ?qm26⟩)
          refine rgH (i := 26) (oi := ?qo27) ?qh27 ?qr27
          case qh27 => (simp only [List.getElem?_toArray, List.getElem?_cons_succ, List.getElem?_cons_zero]; rfl)
          (refine ⟨by kernel_rfl, by kernel_rfl, by kernel_rfl, by assumption, undef, fun _ _ _ h => h, Or.inr ⟨by kernel_rfl, rfl⟩, ?qm27⟩)
          refine rgH (i := 27) (oi := ?qo28) ?qh28 ?qr28
          case qh28 => (simp only [List.getElem?_toArray, List.getElem?_cons_succ, List.getElem?_cons_zero]; rfl)
          (refine ⟨by kernel_rfl, by kernel_rfl, by kernel_rfl, by assumption, undef, fun _ _ _ h => h, Or.inr ⟨by kernel_rfl, rfl⟩, ?qm28⟩)
          (try simp only [Act.put, List.setIfInBounds_toArray, List.set_cons_zero, List.set_cons_succ])
          refine rgH (i := 28) (oi := ?qo29) ?qh29 ?qr29
          case qh29 => (simp only [List.getElem?_toArray, List.getElem?_cons_succ, List.getElem?_cons_zero]; rfl)
          (refine ⟨by kernel_rfl, by kernel_rfl, by kernel_rfl, by assumption, ?qv29, fun _ _ _ h => h, Or.inl ⟨by kernel_rfl, ?qy29⟩, ?qn29⟩; case qy29 => (intro w hSw; (try dsimp only at hSw); go_simp; try with_reducible rfl))
          (try simp only [Act.put, List.setIfInBounds_toArray, List.set_cons_zero, List.set_cons_succ])
          refine wpAnyH_done (by kernel_rfl) ?_ _
          go_wp2
          go_ret
          exact ⟨ret_bool (by rw [HHD.out, ptsOk_false HST.out hlt]), bel_next HB.out HB.out.size HB1.out⟩
        · cases I
          · have HST : Hid (stepOk d2.length d3 k = false) := HSF.out rfl
            go_wp2
            refine wp_region_held_drew (S := fun w' => w'.cell? ⟨wr.heap.size, 0, none⟩ = some (.int .i64 x) ∧ w'.cell? ⟨wr.heap.size, 1, none⟩ = some (.slice a' ts.length cap') ∧ w'.cell? ⟨w.heap.size, 2, none⟩ = some (.slice a2 d2.length p2) ∧ w'.cell? ⟨w.heap.size, 3, none⟩ = some (.slice (some ⟨b, off, none⟩) d3.length p3)) (by kernel_rfl) ⟨u0, u1, s2, s3⟩ (fun hHeld => ?_)
            refine rgH (i := 0) (oi := ?qo30) ?qh30 ?qr30
            case qh30 => (simp only [List.getElem?_toArray, List.getElem?_cons_succ, List.getElem?_cons_zero]; rfl)
            (refine ⟨by kernel_rfl, by kernel_rfl, by kernel_rfl, by assumption, ?qv30, fun _ _ _ h => h, Or.inl ⟨by kernel_rfl, ?qy30⟩, ?qn30⟩; case qy30 => (intro w hSw; (try dsimp only at hSw); go_simp; try with_reducible rfl))
            (try simp only [Act.put, List.setIfInBounds_toArray, List.set_cons_zero, List.set_cons_succ])
            refine rgH (i := 1) (oi := ?qo31) ?qh31 ?qr31
            case qh31 => (simp only [List.getElem?_toArray, List.getElem?_cons_succ, List.getElem?_cons_zero]; rfl)
            (refine ⟨by kernel_rfl, by kernel_rfl, by kernel_rfl, by assumption, ?qv31, fun _ _ _ h => h, Or.inl ⟨by kernel_rfl, ?qy31⟩, ?qn31⟩; case qy31 => (intro w hSw; (try dsimp only at hSw); go_simp; try with_reducible rfl))
            (try simp only [Act.put, List.setIfInBounds_toArray, List.set_cons_zero, List.set_cons_succ])
            refine wpAnyH_ready (rs := [2]) (by kernel_rfl) (by simp) ?_
            refine rgHcall (i := 2) (o := ?qo32) ?qh32 ?qk32
            case qh32 => (simp only [List.getElem?_toArray, List.getElem?_cons_succ, List.getElem?_cons_zero]; rfl)
            intro K hK
            go_simp
            (go_at_call 47; refine (c_areOver _ _ _ _ _ HS.out.drew).mono ?_; rintro e w1 ⟨rfl, hb1⟩; rw [HA.out]; have kk1 := And.intro (cell_below hb1 zu u0) (And.intro (cell_below hb1 zu u1) (And.intro (cell_below hb1 zs s2) (cell_below hb1 zs s3))); have HB1 := hid (bel_next HBX.out.drew HBX.out.drew.size hb1))
            refine hK.out _ _ kk1 (fun hHeld => ?_)
            clear hK K
            refine rgH (i := 3) (oi := ?qo33) ?qh33 ?qr33
            case qh33 => (simp only [List.getElem?_toArray, List.getElem?_cons_succ, List.getElem?_cons_zero]; rfl)
            (refine ⟨by kernel_rfl, by kernel_rfl, by kernel_rfl, by assumption, ?qv33, fun _ _ _ h => h, Or.inl ⟨by kernel_rfl, ?qy33⟩, ?qn33⟩; case qy33 => (intro w hSw; (try dsimp only at hSw); go_simp; try with_reducible rfl))
            refine rgH (i := 4) (oi := ?qo34) ?qh34 ?qr34
            case qh34 => (simp only [List.getElem?_toArray, List.getElem?_cons_succ, List.getElem?_cons_zero]; rfl)
            (refine ⟨by kernel_rfl, by kernel_rfl, by kernel_rfl, by assumption, ?qv34, fun _ _ _ h => h, Or.inl ⟨by kernel_rfl, ?qy34⟩, ?qn34⟩; case qy34 => (intro w hSw; (try dsimp only at hSw); go_simp; try with_reducible rfl))
            refine rgH (i := 5) (oi := ?qo35) ?qh35 ?qr35
            case qh35 => (simp only [List.getElem?_toArray, List.getElem?_cons_succ, List.getElem?_cons_zero]; rfl)
            (refine ⟨by kernel_rfl, by kernel_rfl, by kernel_rfl, by assumption, ?qv35, fun _ _ _ h => h, Or.inl ⟨by kernel_rfl, ?qy35⟩, ?qn35⟩; case qy35 => (intro w hSw; (try dsimp only at hSw); go_simp; try with_reducible rfl))
            refine rgH (i := 6) (oi := ?qo36) ?qh36 ?qr36
            case qh36 => (simp only [List.getElem?_toArray, List.getElem?_cons_succ, List.getElem?_cons_zero]; rfl)
            (refine ⟨by kernel_rfl, by kernel_rfl, by kernel_rfl, by assumption, ?qv36, fun _ _ _ h => h, Or.inl ⟨by kernel_rfl, ?qy36⟩, ?qn36⟩; case qy36 => (intro w hSw; (try dsimp only at hSw); go_simp; try with_reducible rfl))
            (try simp only [Act.put, List.setIfInBounds_toArray, List.set_cons_zero, List.set_cons_succ])
            refine rgH (i := 7) (oi := ?qo37) ?qh37 ?qr37
            case qh37 => (simp only [List.getElem?_toArray, List.getElem?_cons_succ, List.getElem?_cons_zero]; rfl)
            (refine ⟨by kernel_rfl, by kernel_rfl, by kernel_rfl, by assumption, ?qv37, fun _ _ _ h => h, Or.inl ⟨by kernel_rfl, ?qy37⟩, ?qn37⟩; case qy37 => (intro w hSw; (try dsimp only at hSw); go_simp; try with_reducible rfl))
            refine rgH (i := 8) (oi := ?qo38) ?qh38 ?qr38
            case qh38 => (simp only [List.getElem?_toArray, List.getElem?_cons_succ, List.getElem?_cons_zero]; rfl)
            (refine ⟨by kernel_rfl, by kernel_rfl, by kernel_rfl, by assumption, ?qv38, fun _ _ _ h => h, Or.inl ⟨by kernel_rfl, ?qy38⟩, ?qn38⟩; case qy38 => (intro w hSw; (try dsimp only at hSw); go_simp; try with_reducible rfl))
            refine rgH (i := 9) (oi := ?qo39) ?qh39 ?qr39
            case qh39 => (simp only [List.getElem?_toArray, List.getElem?_cons_succ, List.getElem?_cons_zero]; rfl)
            (refine ⟨by kernel_rfl, by kernel_rfl, by kernel_rfl, by assumption, ?qv39, fun _ _ _ h => h, Or.inl ⟨by kernel_rfl, ?qy39⟩, ?qn39⟩; case qy39 => (intro w hSw; (try dsimp only at hSw); go_simp; try with_reducible rfl))
            (try simp only [Act.put, List.setIfInBounds_toArray, List.set_cons_zero, List.set_cons_succ])
            refine wpAnyH_ready (rs := [10]) (by kernel_rfl) (by simp) ?_
            refine rgHcall (i := 10) (o := ?qo40) ?qh40 ?qk40
            case qh40 => (simp only [List.getElem?_toArray, List.getElem?_cons_succ, List.getElem?_cons_zero]; rfl)
            intro K hK
            go_simp
            (go_at_call 48; refine (c_isIndex _ _ _ hN6).mono ?_; rintro e w2 ⟨rfl, rfl⟩; rw [HI.out])
            refine hK.out _ _ kk1 (fun hHeld => ?_)
            clear hK K
            refine rgH (i := 11) (oi := ?qo41) ?qh41 ?qr41
            case qh41 => (simp only [List.getElem?_toArray, List.getElem?_cons_succ, List.getElem?_cons_zero]; rfl)
            (refine ⟨by kernel_rfl, by kernel_rfl, by kernel_rfl, by assumption, ?qv41, fun _ _ _ h => h, Or.inl ⟨by kernel_rfl, ?qy41⟩, ?qn41⟩; case qy41 => (intro w hSw; (try dsimp only at hSw); go_simp; try with_reducible rfl))
            refine rgH (i := 12) (oi := ?qo42) ?qh42 ?qr42
            case qh42 => (simp only [List.getElem?_toArray, List.getElem?_cons_succ, List.getElem?_cons_zero]; rfl)
            (refine ⟨by kernel_rfl, by kernel_rfl, by kernel_rfl, by assumption, ?qv42, fun _ _ _ h => h, Or.inl ⟨by kernel_rfl, ?qy42⟩, ?qn42⟩; case qy42 => (intro w hSw; (try dsimp only at hSw); go_simp; try with_reducible rfl))
            refine rgH (i := 13) (oi := ?qo43) ?qh43 ?qr43
            case qh43 => (simp only [List.getElem?_toArray, List.getElem?_cons_succ, List.getElem?_cons_zero]; rfl)
            (refine ⟨by kernel_rfl, by kernel_rfl, by kernel_rfl, by assumption, ?qv43, fun _ _ _ h => h, Or.inl ⟨by kernel_rfl, ?qy43⟩, ?qn43⟩; case qy43 => (intro w hSw; (try dsimp only at hSw); go_simp; try with_reducible rfl))
            (try simp only [Act.put, List.setIfInBounds_toArray, List.set_cons_zero, List.set_cons_succ])
            refine rgH (i := 14) (oi := ?qo44) ?qh44 ?qr44
            case qh44 => (simp only [List.getElem?_toArray, List.getElem?_cons_succ, List.getElem?_cons_zero]; rfl)
            (refine ⟨by kernel_rfl, by kernel_rfl, by kernel_rfl, by assumption, undef, fun _ _ _ h => h, Or.inr ⟨by kernel_rfl, rfl⟩, ?qm44⟩)
            (try simp only [Act.put, List.setIfInBounds_toArray, List.set_cons_zero, List.set_cons_succ])
            refine rgH (i := 15) (oi := ?qo45) ?qh45 ?qr45
            case qh45 => (simp only [List.getElem?_toArray, List.getElem?_cons_succ, List.getElem?_cons_zero]; rfl)
            (refine ⟨by kernel_rfl, by kernel_rfl, by kernel_rfl, by assumption, undef, fun _ _ _ h => h, Or.inr ⟨by kernel_rfl, rfl⟩, ?qm45⟩)
            refine rgH (i := 16) (oi := ?qo46) ?qh46 ?qr46
            case qh46 => (simp only [List.getElem?_toArray, List.getElem?_cons_succ, List.getElem?_cons_zero]; rfl)
            (refine ⟨by kernel_rfl, by kernel_rfl, by kernel_rfl, by assumption, undef, fun _ _ _ h => h, Or.inr ⟨by kernel_rfl, rfl⟩, ?qm46⟩)
            refine rgH (i := 17) (oi := ?qo47) ?qh47 ?qr47
            case qh47 => (simp only [List.getElem?_toArray, List.getElem?_cons_succ, List.getElem?_cons_zero]; rfl)
            (refine ⟨by kernel_rfl, by kernel_rfl, by kernel_rfl, by assumption, undef, fun _ _ _ h => h, Or.inr ⟨by kernel_rfl, rfl⟩, ?qm47⟩)
            refine rgH (i := 18) (oi := ?qo48) ?qh48 ?qr48
            case qh48 => (simp only [List.getElem?_toArray, List.getElem?_cons_succ, List.getElem?_cons_zero]; rfl)
            (refine ⟨by kernel_rfl, by kernel_rfl, by kernel_rfl, by assumption, undef, fun _ _ _ h => h, Or.inr ⟨by kernel_rfl, rfl⟩, ?qm48⟩)
            (try simp only [Act.put, List.setIfInBounds_toArray, List.set_cons_zero, List.set_cons_succ])
            refine rgH (i := 19) (oi := ?qo49) ?qh49 ?qr49
            case qh49 => (simp only [List.getElem?_toArray, List.getElem?_cons_succ, List.getElem?_cons_zero]; rfl)
            (refine ⟨by kernel_rfl, by kernel_rfl, by kernel_rfl, by assumption, undef, fun _ _ _ h => h, Or.inr ⟨by kernel_rfl, rfl⟩, ?qm49⟩)
            refine rgH (i := 20) (oi := ?qo50) ?qh50 ?qr50
            case qh50 => (simp only [List.getElem?_toArray, List.getElem?_cons_succ, List.getElem?_cons_zero]; rfl)
            (refine ⟨by kernel_rfl, by kernel_rfl, by kernel_rfl, by assumption, undef, fun _ _ _ h => h, Or.inr ⟨by kernel_rfl, rfl⟩, ?qm50⟩)
            refine rgH (i := 21) (oi := ?qo51) ?qh51 ?qr51
            case qh51 => (simp only [List.getElem?_toArray, List.getElem?_cons_succ, List.getElem?_cons_zero]; rfl)
            (refine ⟨by kernel_rfl, by kernel_rfl, by kernel_rfl, by assumption, undef, fun _ _ _ h => h, Or.inr ⟨by kernel_rfl, rfl⟩, ?qm51⟩)
            refine rgH (i := 22) (oi := ?qo52) ?qh52 ?qr52
            case qh52 => (simp only [List.getElem?_toArray, List.getElem?_cons_succ, List.getElem?_cons_zero]; rfl)
            (refine ⟨by kernel_rfl, by kernel_rfl, by kernel_rfl, by assumption, undef, fun _ _ _ h => h, Or.inr ⟨by kernel_rfl, rfl⟩, ?qm52⟩)
            (try simp only [Act.put, List.setIfInBounds_toArray, List.set_cons_zero, List.set_cons_succ])
            refine rgH (i := 23) (oi := ?qo53) ?qh53 ?qr53
            case qh53 => (simp only [List.getElem?_toArray, List.getElem?_cons_succ, List.getElem?_cons_zero]; rfl)
            (refine ⟨by kernel_rfl, by kernel_rfl, by kernel_rfl, by assumption, undef, fun _ _ _ h => h, Or.inr ⟨by kernel_rfl, rfl⟩, ?qm53⟩)
            refine rgH (i := 24) (oi := ?qo54) ?qh54 ?qr54
            case qh54 => (simp only [List.getElem?_toArray, List.getElem?_cons_succ, List.getElem?_cons_zero]; rfl)
            (refine ⟨by kernel_rfl, by kernel_rfl, by kernel_rfl, by assumption, undef, fun _ _ _ h => h, Or.inr ⟨by kernel_rfl, rfl⟩, ?qm54⟩)
            refine rgH (i := 25) (oi := ?qo55) ?qh55 ?qr55
            case qh55 => (simp only [List.getElem?_toArray, List.getElem?_cons_succ, List.getElem?_cons_zero]; rfl)
            (refine ⟨by kernel_rfl, by kernel_rfl, by kernel_rfl, by assumption, undef, fun _ _ _ h => h, Or.inr ⟨by kernel_rfl, rfl⟩, ?qm55⟩)
            refine rgH (i := 26) (oi := ?qo56) ?qh56 ?qr56
            case qh56 => (simp only [List.getElem?_toArray, List.getElem?_cons_succ, List.getElem?_cons_zero]; rfl)
            (refine ⟨by kernel_rfl, by kernel_rfl, by kernel_rfl, by assumption, undef, fun _ _ _ h => h, Or.inr ⟨by kernel_rfl, rfl⟩, ?qm56⟩)
            (try simp only [Act.put, List.setIfInBounds_toArray, List.set_cons_zero, List.set_cons_succ])
            refine rgH (i := 27) (oi := ?qo57) ?qh57 ?qr57
            case qh57 => (simp only [List.getElem?_toArray, List.getElem?_cons_succ, List.getElem?_cons_zero]; rfl)
            (refine ⟨by kernel_rfl, by kernel_rfl, by kernel_rfl, by assumption, undef, fun _ _ _ h => h, Or.inr ⟨by kernel_rfl, rfl⟩, ?qm57⟩)
            (try simp only [Act.put, List.setIfInBounds_toArray, List.set_cons_zero, List.set_cons_succ])
            refine rgH (i := 28) (oi := ?qo58) ?qh58 ?qr58
            case qh58 => (simp only [List.getElem?_toArray, List.getElem?_cons_succ, List.getElem?_cons_zero]; rfl)
            (refine ⟨by kernel_rfl, by kernel_rfl, by kernel_rfl, by assumption, ?qv58, fun _ _ _ h => h, Or.inl ⟨by kernel_rfl, ?qy58⟩, ?qn58⟩; case qy58 => (intro w hSw; (try dsimp only at hSw); go_simp; try with_reducible rfl))
            (try simp only [Act.put, List.setIfInBounds_toArray, List.set_cons_zero, List.set_cons_succ])
            refine wpAnyH_done (by kernel_rfl) ?_ _
            go_wp2
            go_ret
            exact ⟨ret_bool (by rw [HHD.out, ptsOk_false HST.out hlt]), bel_next HB.out HB.out.size HB1.out⟩
          · clear HSF
            by_cases hk0 : k = 0
            · have e0 : decide ((0 : Int) < (k : Int)) = false := by simp; omega
              have e0n : decide (0 < k) = false := by simp; omega
              have HST : Hid (stepOk d2.length d3 k = true) := by
                have hz := HZ.out
                unfold Hid; subst hk0; rw [stepOk_zero hz, HA.out, HI.out]; rfl
              clear hk0
              go_wp2
              refine wp_region_held_drew (S := fun w' => w'.cell? ⟨wr.heap.size, 0, none⟩ = some (.int .i64 x) ∧ w'.cell? ⟨wr.heap.size, 1, none⟩ = some (.slice a' ts.length cap') ∧ w'.cell? ⟨w.heap.size, 2, none⟩ = some (.slice a2 d2.length p2) ∧ w'.cell? ⟨w.heap.size, 3, none⟩ = some (.slice (some ⟨b, off, none⟩) d3.length p3)) (by kernel_rfl) ⟨u0, u1, s2, s3⟩ (fun hHeld => ?_)
              refine rgH (i := 0) (oi := ?qo59) ?qh59 ?qr59
              case qh59 => (simp only [List.getElem?_toArray, List.getElem?_cons_succ, List.getElem?_cons_zero]; rfl)
              (refine ⟨by kernel_rfl, by kernel_rfl, by kernel_rfl, by assumption, ?qv59, fun _ _ _ h => h, Or.inl ⟨by kernel_rfl, ?qy59⟩, ?qn59⟩; case qy59 => (intro w hSw; (try dsimp only at hSw); go_simp; try with_reducible rfl))
              (try simp only [Act.put, List.setIfInBounds_toArray, List.set_cons_zero, List.set_cons_succ])
              refine rgH (i := 1) (oi := ?qo60) ?qh60 ?qr60
              case qh60 => (simp only [List.getElem?_toArray, List.getElem?_cons_succ, List.getElem?_cons_zero]; rfl)
              (refine ⟨by kernel_rfl, by kernel_rfl, by kernel_rfl, by assumption, ?qv60, fun _ _ _ h => h, Or.inl ⟨by kernel_rfl, ?qy60⟩, ?qn60⟩; case qy60 => (intro w hSw; (try dsimp only at hSw); go_simp; try with_reducible rfl))
              (try simp only [Act.put, List.setIfInBounds_toArray, List.set_cons_zero, List.set_cons_succ])
              refine wpAnyH_ready (rs := [2]) (by kernel_rfl) (by simp) ?_
              refine rgHcall (i := 2) (o := ?qo61) ?qh61 ?qk61
              case qh61 => (simp only [List.getElem?_toArray, List.getElem?_cons_succ, List.getElem?_cons_zero]; rfl)
              intro K hK
              go_simp
              (go_at_call 47; refine (c_areOver _ _ _ _ _ HS.out.drew).mono ?_; rintro e w1 ⟨rfl, hb1⟩; rw [HA.out]; have kk1 := And.intro (cell_below hb1 zu u0) (And.intro (cell_below hb1 zu u1) (And.intro (cell_below hb1 zs s2) (cell_below hb1 zs s3))); have HB1 := hid (bel_next HBX.out.drew HBX.out.drew.size hb1))
              refine hK.out _ _ kk1 (fun hHeld => ?_)
              clear hK K
              refine rgH (i := 3) (oi := ?qo62) ?qh62 ?qr62
              case qh62 => (simp only [List.getElem?_toArray, List.getElem?_cons_succ, List.getElem?_cons_zero]; rfl)
              (refine ⟨by kernel_rfl, by kernel_rfl, by kernel_rfl, by assumption, ?qv62, fun _ _ _ h => h, Or.inl ⟨by kernel_rfl, ?qy62⟩, ?qn62⟩; case qy62 => (intro w hSw; (try dsimp only at hSw); go_simp; try with_reducible rfl))
              refine rgH (i := 4) (oi := ?qo63) ?qh63 ?qr63
              case qh63 => (simp only [List.getElem?_toArray, List.getElem?_cons_succ, List.getElem?_cons_zero]; rfl)
              (refine ⟨by kernel_rfl, by kernel_rfl, by kernel_rfl, by assumption, ?qv63, fun _ _ _ h => h, Or.inl ⟨by kernel_rfl, ?qy63⟩, ?qn63⟩; case qy63 => (intro w hSw; (try dsimp only at hSw); go_simp; try with_reducible rfl))
              refine rgH (i := 5) (oi := ?qo64) ?qh64 ?qr64
              case qh64 => (simp only [List.getElem?_toArray, List.getElem?_cons_succ, List.getElem?_cons_zero]; rfl)
              (refine ⟨by kernel_rfl, by kernel_rfl, by kernel_rfl, by assumption, ?qv64, fun _ _ _ h => h, Or.inl ⟨by kernel_rfl, ?qy64⟩, ?qn64⟩; case qy64 => (intro w hSw; (try dsimp only at hSw); go_simp; try with_reducible rfl))
              (try simp only [Act.put, List.setIfInBounds_toArray, List.set_cons_zero, List.set_cons_succ])
              refine rgH (i := 6) (oi := ?qo65) ?qh65 ?qr65
              case qh65 => (simp only [List.getElem?_toArray, List.getElem?_cons_succ, List.getElem?_cons_zero]; rfl)
              (refine ⟨by kernel_rfl, by kernel_rfl, by kernel_rfl, by assumption, ?qv65, fun _ _ _ h => h, Or.inl ⟨by kernel_rfl, ?qy65⟩, ?qn65⟩; case qy65 => (intro w hSw; (try dsimp only at hSw); go_simp; try with_reducible rfl))
              refine rgH (i := 7) (oi := ?qo66) ?qh66 ?qr66
              case qh66 => (simp only [List.getElem?_toArray, List.getElem?_cons_succ, List.getElem?_cons_zero]; rfl)
              (refine ⟨by kernel_rfl, by kernel_rfl, by kernel_rfl, by assumption, ?qv66, fun _ _ _ h => h, Or.inl ⟨by kernel_rfl, ?qy66⟩, ?qn66⟩; case qy66 => (intro w hSw; (try dsimp only at hSw); go_simp; try with_reducible rfl))
              refine rgH (i := 8) (oi := ?qo67) ?qh67 ?qr67
              case qh67 => (simp only [List.getElem?_toArray, List.getElem?_cons_succ, List.getElem?_cons_zero]; rfl)
              (refine ⟨by kernel_rfl, by kernel_rfl, by kernel_rfl, by assumption, ?qv67, fun _ _ _ h => h, Or.inl ⟨by kernel_rfl, ?qy67⟩, ?qn67⟩; case qy67 => (intro w hSw; (try dsimp only at hSw); go_simp; try with_reducible rfl))
              refine rgH (i := 9) (oi := ?qo68) ?qh68 ?qr68
              case qh68 => (simp only [List.getElem?_toArray, List.getElem?_cons_succ, List.getElem?_cons_zero]; rfl)
              (refine ⟨by kernel_rfl, by kernel_rfl, by kernel_rfl, by assumption, ?qv68, fun _ _ _ h => h, Or.inl ⟨by kernel_rfl, ?qy68⟩, ?qn68⟩; case qy68 => (intro w hSw; (try dsimp only at hSw); go_simp; try with_reducible rfl))
              (try simp only [Act.put, List.setIfInBounds_toArray, List.set_cons_zero, List.set_cons_succ])
              refine wpAnyH_ready (rs := [10]) (by kernel_rfl) (by simp) ?_
              refine rgHcall (i := 10) (o := ?qo69) ?qh69 ?qk69
              case qh69 => (simp only [List.getElem?_toArray, List.getElem?_cons_succ, List.getElem?_cons_zero]; rfl)
              intro K hK
              go_simp
              (go_at_call 48; refine (c_isIndex _ _ _ hN6).mono ?_; rintro e w2 ⟨rfl, rfl⟩; rw [HI.out])
              refine hK.out _ _ kk1 (fun hHeld => ?_)
              clear hK K
              refine rgH (i := 11) (oi := ?qo70) ?qh70 ?qr70
              case qh70 => (simp only [List.getElem?_toArray, List.getElem?_cons_succ, List.getElem?_cons_zero]; rfl)
              (refine ⟨by kernel_rfl, by kernel_rfl, by kernel_rfl, by assumption, ?qv70, fun _ _ _ h => h, Or.inl ⟨by kernel_rfl, ?qy70⟩, ?qn70⟩; case qy70 => (intro w hSw; (try dsimp only at hSw); go_simp; try with_reducible rfl))
              refine rgH (i := 12) (oi := ?qo71) ?qh71 ?qr71
              case qh71 => (simp only [List.getElem?_toArray, List.getElem?_cons_succ, List.getElem?_cons_zero]; rfl)
              (refine ⟨by kernel_rfl, by kernel_rfl, by kernel_rfl, by assumption, ?qv71, fun _ _ _ h => h, Or.inl ⟨by kernel_rfl, ?qy71⟩, ?qn71⟩; case qy71 => (intro w hSw; (try dsimp only at hSw); go_simp; try with_reducible rfl))
              refine rgH (i := 13) (oi := ?qo72) ?qh72 ?qr72
              case qh72 => (simp only [List.getElem?_toArray, List.getElem?_cons_succ, List.getElem?_cons_zero]; rfl)
              (refine ⟨by kernel_rfl, by kernel_rfl, by kernel_rfl, by assumption, ?qv72, fun _ _ _ h => h, Or.inl ⟨by kernel_rfl, ?qy72⟩, ?qn72⟩; case qy72 => (intro w hSw; (try dsimp only at hSw); go_simp; try with_reducible rfl))
              (try simp only [Act.put, List.setIfInBounds_toArray, List.set_cons_zero, List.set_cons_succ])
              refine rgH (i := 14) (oi := ?qo73) ?qh73 ?qr73
              case qh73 => (simp only [List.getElem?_toArray, List.getElem?_cons_succ, List.getElem?_cons_zero]; rfl)
              (refine ⟨by kernel_rfl, by kernel_rfl, by kernel_rfl, by assumption, ?qv73, fun _ _ _ h => h, Or.inl ⟨by kernel_rfl, ?qy73⟩, ?qn73⟩; case qy73 => (intro w hSw; (try dsimp only at hSw); go_simp; try with_reducible rfl))
              refine rgH (i := 15) (oi := ?qo74) ?qh74 ?qr74
              case qh74 => (simp only [List.getElem?_toArray, List.getElem?_cons_succ, List.getElem?_cons_zero]; rfl)
              (refine ⟨by kernel_rfl, by kernel_rfl, by kernel_rfl, by assumption, ?qv74, fun _ _ _ h => h, Or.inl ⟨by kernel_rfl, ?qy74⟩, ?qn74⟩; case qy74 => (intro w hSw; (try dsimp only at hSw); go_simp; try with_reducible rfl))
              refine rgH (i := 16) (oi := ?qo75) ?qh75 ?qr75
              case qh75 => (simp only [List.getElem?_toArray, List.getElem?_cons_succ, List.getElem?_cons_zero]; rfl)
              (refine ⟨by kernel_rfl, by kernel_rfl, by kernel_rfl, by assumption, ?qv75, fun _ _ _ h => h, Or.inl ⟨by kernel_rfl, ?qy75⟩, ?qn75⟩; case qy75 => (intro w hSw; (try dsimp only at hSw); go_simp; try with_reducible rfl))
              (try simp only [Act.put, List.setIfInBounds_toArray, List.set_cons_zero, List.set_cons_succ])
              refine rgH (i := 17) (oi := ?qo76) ?qh76 ?qr76
              case qh76 => (simp only [List.getElem?_toArray, List.getElem?_cons_succ, List.getElem?_cons_zero]; rfl)
              (refine ⟨by kernel_rfl, by kernel_rfl, by kernel_rfl, by assumption, undef, fun _ _ _ h => h, Or.inr ⟨by kernel_rfl, rfl⟩, ?qm76⟩)
              (try simp only [Act.put, List.setIfInBounds_toArray, List.set_cons_zero, List.set_cons_succ])
              refine rgH (i := 18) (oi := ?qo77) ?qh77 ?qr77
              case qh77 => (simp only [List.getElem?_toArray, List.getElem?_cons_succ, List.getElem?_cons_zero]; rfl)
              (refine ⟨by kernel_rfl, by kernel_rfl, by kernel_rfl, by assumption, undef, fun _ _ _ h => h, Or.inr ⟨by kernel_rfl, rfl⟩, ?qm77⟩)
              refine rgH (i := 19) (oi := ?qo78) ?qh78 ?qr78
              case qh78 => (simp only [List.getElem?_toArray, List.getElem?_cons_succ, List.getElem?_cons_zero]; rfl)
              (refine ⟨by kernel_rfl, by kernel_rfl, by kernel_rfl, by assumption, undef, fun _ _ _ h => h, Or.inr ⟨by kernel_rfl, rfl⟩, ?qm78⟩)
              refine rgH (i := 20) (oi := ?qo79) ?qh79 ?qr79
              case qh79 => (simp only [List.getElem?_toArray, List.getElem?_cons_succ, List.getElem?_cons_zero]; rfl)
              (refine ⟨by kernel_rfl, by kernel_rfl, by kernel_rfl, by assumption, undef, fun _ _ _ h => h, Or.inr ⟨by kernel_rfl, rfl⟩, ?qm79⟩)
              refine rgH (i := 21) (oi := ?qo80) ?qh80 ?qr80
              case qh80 => (simp only [List.getElem?_toArray, List.getElem?_cons_succ, List.getElem?_cons_zero]; rfl)
              (refine ⟨by kernel_rfl, by kernel_rfl, by kernel_rfl, by assumption, undef, fun _ _ _ h => h, Or.inr ⟨by kernel_rfl, rfl⟩, ?qm80⟩)
              (try simp only [Act.put, List.setIfInBounds_toArray, List.set_cons_zero, List.set_cons_succ])
              refine rgH (i := 22) (oi := ?qo81) ?qh81 ?qr81
              case qh81 => (simp only [List.getElem?_toArray, List.getElem?_cons_succ, List.getElem?_cons_zero]; rfl)
              (refine ⟨by kernel_rfl, by kernel_rfl, by kernel_rfl, by assumption, undef, fun _ _ _ h => h, Or.inr ⟨by kernel_rfl, rfl⟩, ?qm81⟩)
              refine rgH (i := 23) (oi := ?qo82) ?qh82 ?qr82
              case qh82 => (simp only [List.getElem?_toArray, List.getElem?_cons_succ, List.getElem?_cons_zero]; rfl)
              (refine ⟨by kernel_rfl, by kernel_rfl, by kernel_rfl, by assumption, undef, fun _ _ _ h => h, Or.inr ⟨by kernel_rfl, rfl⟩, ?qm82⟩)
              refine rgH (i := 24) (oi := ?qo83) ?qh83 ?qr83
              case qh83 => (simp only [List.getElem?_toArray, List.getElem?_cons_succ, List.getElem?_cons_zero]; rfl)
              (refine ⟨by kernel_rfl, by kernel_rfl, by kernel_rfl, by assumption, undef, fun _ _ _ h => h, Or.inr ⟨by kernel_rfl, rfl⟩, ?qm83⟩)
              refine rgH (i := 25) (oi := ?qo84) ?qh84 ?qr84
              case qh84 => (simp only [List.getElem?_toArray, List.getElem?_cons_succ, List.getElem?_cons_zero]; rfl)
              (refine ⟨by kernel_rfl, by kernel_rfl, by kernel_rfl, by assumption, undef, fun _ _ _ h => h, Or.inr ⟨by kernel_rfl, rfl⟩, ?qm84⟩)
              (try simp only [Act.put, List.setIfInBounds_toArray, List.set_cons_zero, List.set_cons_succ])
              refine rgH (i := 26) (oi := ?qo85) ?qh85 ?qr85
              case qh85 => (simp only [List.getElem?_toArray, List.getElem?_cons_succ, List.getElem?_cons_zero]; rfl)
              (refine ⟨by kernel_rfl, by kernel_rfl, by kernel_rfl, by assumption, undef, fun _ _ _ h => h, Or.inr ⟨by kernel_rfl, rfl⟩, ?qm85⟩)
              (try simp only [Act.put, List.setIfInBounds_toArray, List.set_cons_zero, List.set_cons_succ])
              refine rgH (i := 27) (oi := ?qo86) ?qh86 ?qr86
              case qh86 => (simp only [List.getElem?_toArray, List.getElem?_cons_succ, List.getElem?_cons_zero]; rfl)
              (refine ⟨by kernel_rfl, by kernel_rfl, by kernel_rfl, by assumption, ?qv86, fun _ _ _ h => h, Or.inl ⟨by kernel_rfl, ?qy86⟩, ?qn86⟩; case qy86 => (intro w hSw; (try dsimp only at hSw); go_simp; try with_reducible rfl))
              refine rgH (i := 28) (oi := ?qo87) ?qh87 ?qr87
              case qh87 => (simp only [List.getElem?_toArray, List.getElem?_cons_succ, List.getElem?_cons_zero]; rfl)
              (refine ⟨by kernel_rfl, by kernel_rfl, by kernel_rfl, by assumption, ?qv87, fun _ _ _ h => h, Or.inl ⟨by kernel_rfl, ?qy87⟩, ?qn87⟩; case qy87 => (intro w hSw; (try dsimp only at hSw); go_simp; try with_reducible rfl))
              (try simp only [Act.put, List.setIfInBounds_toArray, List.set_cons_zero, List.set_cons_succ])
              refine wpAnyH_done (by kernel_rfl) ?_ _
              go_wp2
              go_roundw
              case rel => exact ⟨k + 1, by omega, by go_num, (ptsOk_succ HK.out).trans HST.out, HB1.out⟩
              case measure => simp [intOf]; omega
            · have hk1 : k - 1 < d3.length := by omega
              obtain ⟨y, a'', cap'', ts', hy, hy1, _, hyc, _, _⟩ := (H3.out.below (Nat.le_refl _) HBR.out).pt_at (k - 1) hk1
              have yc : (wr.alloc (.cells #[.int .i64 x, .slice a' ts.length cap'] 82)).cell? ⟨b, off + (k - 1) * 2, none⟩ = some (.int .i64 y) := cell_below ((Below.refl _ _).alloc (Nat.le_refl _) _) hb hyc
              have HST0 : Hid (stepOk d2.length d3 k = decide (y < x)) := by
                have hz := HZ.out
                obtain ⟨j, rfl⟩ : ∃ j, k = j + 1 := ⟨k - 1, by omega⟩
                unfold Hid; rw [stepOk_succ hz hy, HA.out, HI.out]; simp
              have e0 : decide ((0 : Int) < (k : Int)) = true := by simp; omega
              have e0n : decide (0 < k) = true := by simp; omega
              have w1 : IntKind.i64.wrap ((k : Int) - 1) = (k : Int) - 1 := wrap_in _ (by omega) (by omega)
              have w2 : ((k : Int) - 1).toNat = k - 1 := by omega
              have w3 : (0 : Int) ≤ (k : Int) - 1 := by omega
              have w4 : (1 : Int) ≤ (k : Int) := by omega
              have w5 : (k : Int) - 1 < (d3.length : Int) := by omega
              have w6 : ¬ (k : Int) - 1 < 0 := by omega
              clear hy hyc
              by_cases hyx : y < x
              · have HST : Hid (stepOk d2.length d3 k = true) := by unfold Hid; rw [HST0.out]; simp [hyx]
                have e1 : decide (x ≤ y) = false := by simp; omega
                clear hyx HST0
                go_wp2
                refine wp_region_held_drew (S := fun w' => w'.cell? ⟨wr.heap.size, 0, none⟩ = some (.int .i64 x) ∧ w'.cell? ⟨wr.heap.size, 1, none⟩ = some (.slice a' ts.length cap') ∧ w'.cell? ⟨w.heap.size, 2, none⟩ = some (.slice a2 d2.length p2) ∧ w'.cell? ⟨w.heap.size, 3, none⟩ = some (.slice (some ⟨b, off, none⟩) d3.length p3) ∧ w'.cell? ⟨b, off + (k - 1) * 2, none⟩ = some (.int .i64 y)) (by kernel_rfl) ⟨u0, u1, s2, s3, yc⟩ (fun hHeld => ?_)
                refine rgH (i := 0) (oi := ?qo88) ?qh88 ?qr88
                case qh88 => (simp only [List.getElem?_toArray, List.getElem?_cons_succ, List.getElem?_cons_zero]; rfl)
                (refine ⟨by kernel_rfl, by kernel_rfl, by kernel_rfl, by assumption, ?qv88, fun _ _ _ h => h, Or.inl ⟨by kernel_rfl, ?qy88⟩, ?qn88⟩; case qy88 => (intro w hSw; (try dsimp only at hSw); go_simp; try with_reducible rfl))
                (try simp only [Act.put, List.setIfInBounds_toArray, List.set_cons_zero, List.set_cons_succ])
                refine rgH (i := 1) (oi := ?qo89) ?qh89 ?qr89
                case qh89 => (simp only [List.getElem?_toArray, List.getElem?_cons_succ, List.getElem?_cons_zero]; rfl)
                (refine ⟨by kernel_rfl, by kernel_rfl, by kernel_rfl, by assumption, ?qv89, fun _ _ _ h => h, Or.inl ⟨by kernel_rfl, ?qy89⟩, ?qn89⟩; case qy89 => (intro w hSw; (try dsimp only at hSw); go_simp; try with_reducible rfl))
                (try simp only [Act.put, List.setIfInBounds_toArray, List.set_cons_zero, List.set_cons_succ])
                refine wpAnyH_ready (rs := [2]) (by kernel_rfl) (by simp) ?_
                refine rgHcall (i := 2) (o := ?qo90) ?qh90 ?qk90
                case qh90 => (simp only [List.getElem?_toArray, List.getElem?_cons_succ, List.getElem?_cons_zero]; rfl)
                intro K hK
                go_simp
                (go_at_call 47; refine (c_areOver _ _ _ _ _ HS.out.drew).mono ?_; rintro e w1 ⟨rfl, hb1⟩; rw [HA.out]; have kk1 := And.intro (cell_below hb1 zu u0) (And.intro (cell_below hb1 zu u1) (And.intro (cell_below hb1 zs s2) (And.intro (cell_below hb1 zs s3) (cell_below hb1 zb yc)))); have HB1 := hid (bel_next HBX.out.drew HBX.out.drew.size hb1))
                refine hK.out _ _ kk1 (fun hHeld => ?_)
                clear hK K
                refine rgH (i := 3) (oi := ?qo91) ?qh91 ?qr91
                case qh91 => (simp only [List.getElem?_toArray, List.getElem?_cons_succ, List.getElem?_cons_zero]; rfl)
                (refine ⟨by kernel_rfl, by kernel_rfl, by kernel_rfl, by assumption, ?qv91, fun _ _ _ h => h, Or.inl ⟨by kernel_rfl, ?qy91⟩, ?qn91⟩; case qy91 => (intro w hSw; (try dsimp only at hSw); go_simp; try with_reducible rfl))
                refine rgH (i := 4) (oi := ?qo92) ?qh92 ?qr92
                case qh92 => (simp only [List.getElem?_toArray, List.getElem?_cons_succ, List.getElem?_cons_zero]; rfl)
                (refine ⟨by kernel_rfl, by kernel_rfl, by kernel_rfl, by assumption, ?qv92, fun _ _ _ h => h, Or.inl ⟨by kernel_rfl, ?qy92⟩, ?qn92⟩; case qy92 => (intro w hSw; (try dsimp only at hSw); go_simp; try with_reducible rfl))
                (try simp only [Act.put, List.setIfInBounds_toArray, List.set_cons_zero, List.set_cons_succ])
                refine rgH (i := 5) (oi := ?qo93) ?qh93 ?qr93
                case qh93 => (simp only [List.getElem?_toArray, List.getElem?_cons_succ, List.getElem?_cons_zero]; rfl)
                (refine ⟨by kernel_rfl, by kernel_rfl, by kernel_rfl, by assumption, ?qv93, fun _ _ _ h => h, Or.inl ⟨by kernel_rfl, ?qy93⟩, ?qn93⟩; case qy93 => (intro w hSw; (try dsimp only at hSw); go_simp; try with_reducible rfl))
                refine rgH (i := 6) (oi := ?qo94) ?qh94 ?qr94
                case qh94 => (simp only [List.getElem?_toArray, List.getElem?_cons_succ, List.getElem?_cons_zero]; rfl)
                (refine ⟨by kernel_rfl, by kernel_rfl, by kernel_rfl, by assumption, ?qv94, fun _ _ _ h => h, Or.inl ⟨by kernel_rfl, ?qy94⟩, ?qn94⟩; case qy94 => (intro w hSw; (try dsimp only at hSw); go_simp; try with_reducible rfl))
                refine rgH (i := 7) (oi := ?qo95) ?qh95 ?qr95
                case qh95 => (simp only [List.getElem?_toArray, List.getElem?_cons_succ, List.getElem?_cons_zero]; rfl)
                (refine ⟨by kernel_rfl, by kernel_rfl, by kernel_rfl, by assumption, ?qv95, fun _ _ _ h => h, Or.inl ⟨by kernel_rfl, ?qy95⟩, ?qn95⟩; case qy95 => (intro w hSw; (try dsimp only at hSw); go_simp; try with_reducible rfl))
                refine rgH (i := 8) (oi := ?qo96) ?qh96 ?qr96
                case qh96 => (simp only [List.getElem?_toArray, List.getElem?_cons_succ, List.getElem?_cons_zero]; rfl)
                (refine ⟨by kernel_rfl, by kernel_rfl, by kernel_rfl, by assumption, ?qv96, fun _ _ _ h => h, Or.inl ⟨by kernel_rfl, ?qy96⟩, ?qn96⟩; case qy96 => (intro w hSw; (try dsimp only at hSw); go_simp; try with_reducible rfl))
                (try simp only [Act.put, List.setIfInBounds_toArray, List.set_cons_zero, List.set_cons_succ])
                refine rgH (i := 9) (oi := ?qo97) ?qh97 ?qr97
                case qh97 => (simp only [List.getElem?_toArray, List.getElem?_cons_succ, List.getElem?_cons_zero]; rfl)
                (refine ⟨by kernel_rfl, by kernel_rfl, by kernel_rfl, by assumption, ?qv97, fun _ _ _ h => h, Or.inl ⟨by kernel_rfl, ?qy97⟩, ?qn97⟩; case qy97 => (intro w hSw; (try dsimp only at hSw); go_simp; try with_reducible rfl))
                (try simp only [Act.put, List.setIfInBounds_toArray, List.set_cons_zero, List.set_cons_succ])
                refine wpAnyH_ready (rs := [10]) (by kernel_rfl) (by simp) ?_
                refine rgHcall (i := 10) (o := ?qo98) ?qh98 ?qk98
                case qh98 => (simp only [List.getElem?_toArray, List.getElem?_cons_succ, List.getElem?_cons_zero]; rfl)
                intro K hK
                go_simp
                (go_at_call 48; refine (c_isIndex _ _ _ hN6).mono ?_; rintro e w2 ⟨rfl, rfl⟩; rw [HI.out])
                refine hK.out _ _ kk1 (fun hHeld => ?_)
                clear hK K
                refine rgH (i := 11) (oi := ?qo99) ?qh99 ?qr99
                case qh99 => (simp only [List.getElem?_toArray, List.getElem?_cons_succ, List.getElem?_cons_zero]; rfl)
                (refine ⟨by kernel_rfl, by kernel_rfl, by kernel_rfl, by assumption, ?qv99, fun _ _ _ h => h, Or.inl ⟨by kernel_rfl, ?qy99⟩, ?qn99⟩; case qy99 => (intro w hSw; (try dsimp only at hSw); go_simp; try with_reducible rfl))
                refine rgH (i := 12) (oi := ?qo100) ?qh100 ?qr100
                case qh100 => (simp only [List.getElem?_toArray, List.getElem?_cons_succ, List.getElem?_cons_zero]; rfl)
                (refine ⟨by kernel_rfl, by kernel_rfl, by kernel_rfl, by assumption, ?qv100, fun _ _ _ h => h, Or.inl ⟨by kernel_rfl, ?qy100⟩, ?qn100⟩; case qy100 => (intro w hSw; (try dsimp only at hSw); go_simp; try with_reducible rfl))
                (try simp only [Act.put, List.setIfInBounds_toArray, List.set_cons_zero, List.set_cons_succ])
                refine rgH (i := 13) (oi := ?qo101) ?qh101 ?qr101
                case qh101 => (simp only [List.getElem?_toArray, List.getElem?_cons_succ, List.getElem?_cons_zero]; rfl)
                (refine ⟨by kernel_rfl, by kernel_rfl, by kernel_rfl, by assumption, ?qv101, fun _ _ _ h => h, Or.inl ⟨by kernel_rfl, ?qy101⟩, ?qn101⟩; case qy101 => (intro w hSw; (try dsimp only at hSw); go_simp; try with_reducible rfl))
                refine rgH (i := 14) (oi := ?qo102) ?qh102 ?qr102
                case qh102 => (simp only [List.getElem?_toArray, List.getElem?_cons_succ, List.getElem?_cons_zero]; rfl)
                (refine ⟨by kernel_rfl, by kernel_rfl, by kernel_rfl, by assumption, ?qv102, fun _ _ _ h => h, Or.inl ⟨by kernel_rfl, ?qy102⟩, ?qn102⟩; case qy102 => (intro w hSw; (try dsimp only at hSw); go_simp; try with_reducible rfl))
                refine rgH (i := 15) (oi := ?qo103) ?qh103 ?qr103
                case qh103 => (simp only [List.getElem?_toArray, List.getElem?_cons_succ, List.getElem?_cons_zero]; rfl)
                (refine ⟨by kernel_rfl, by kernel_rfl, by kernel_rfl, by assumption, ?qv103, fun _ _ _ h => h, Or.inl ⟨by kernel_rfl, ?qy103⟩, ?qn103⟩; case qy103 => (intro w hSw; (try dsimp only at hSw); go_simp; try with_reducible rfl))
                refine rgH (i := 16) (oi := ?qo104) ?qh104 ?qr104
                case qh104 => (simp only [List.getElem?_toArray, List.getElem?_cons_succ, List.getElem?_cons_zero]; rfl)
                (refine ⟨by kernel_rfl, by kernel_rfl, by kernel_rfl, by assumption, ?qv104, fun _ _ _ h => h, Or.inl ⟨by kernel_rfl, ?qy104⟩, ?qn104⟩; case qy104 => (intro w hSw; (try dsimp only at hSw); go_simp; try with_reducible rfl))
                (try simp only [Act.put, List.setIfInBounds_toArray, List.set_cons_zero, List.set_cons_succ])
                refine rgH (i := 17) (oi := ?qo105) ?qh105 ?qr105
                case qh105 => (simp only [List.getElem?_toArray, List.getElem?_cons_succ, List.getElem?_cons_zero]; rfl)
                (refine ⟨by kernel_rfl, by kernel_rfl, by kernel_rfl, by assumption, ?qv105, fun _ _ _ h => h, Or.inl ⟨by kernel_rfl, ?qy105⟩, ?qn105⟩; case qy105 => (intro w hSw; (try dsimp only at hSw); go_simp; try with_reducible rfl))
                refine rgH (i := 18) (oi := ?qo106) ?qh106 ?qr106
                case qh106 => (simp only [List.getElem?_toArray, List.getElem?_cons_succ, List.getElem?_cons_zero]; rfl)
                (refine ⟨by kernel_rfl, by kernel_rfl, by kernel_rfl, by assumption, ?qv106, fun _ _ _ h => h, Or.inl ⟨by kernel_rfl, ?qy106⟩, ?qn106⟩; case qy106 => (intro w hSw; (try dsimp only at hSw); go_simp; try with_reducible rfl))
                refine rgH (i := 19) (oi := ?qo107) ?qh107 ?qr107
                case qh107 => (simp only [List.getElem?_toArray, List.getElem?_cons_succ, List.getElem?_cons_zero]; rfl)
                (refine ⟨by kernel_rfl, by kernel_rfl, by kernel_rfl, by assumption, ?qv107, fun _ _ _ h => h, Or.inl ⟨by kernel_rfl, ?qy107⟩, ?qn107⟩; case qy107 => (intro w hSw; (try dsimp only at hSw); go_simp; try with_reducible rfl))
                refine rgH (i := 20) (oi := ?qo108) ?qh108 ?qr108
                case qh108 => (simp only [List.getElem?_toArray, List.getElem?_cons_succ, List.getElem?_cons_zero]; rfl)
                (refine ⟨by kernel_rfl, by kernel_rfl, by kernel_rfl, by assumption, ?qv108, fun _ _ _ h => h, Or.inl ⟨by kernel_rfl, ?qy108⟩, ?qn108⟩; case qy108 => (intro w hSw; (try dsimp only at hSw); go_simp; try with_reducible rfl))
                (try simp only [Act.put, List.setIfInBounds_toArray, List.set_cons_zero, List.set_cons_succ])
                refine rgH (i := 21) (oi := ?qo109) ?qh109 ?qr109
                case qh109 => (simp only [List.getElem?_toArray, List.getElem?_cons_succ, List.getElem?_cons_zero]; rfl)
                (refine ⟨by kernel_rfl, by kernel_rfl, by kernel_rfl, by assumption, ?qv109, fun _ _ _ h => h, Or.inl ⟨by kernel_rfl, ?qy109⟩, ?qn109⟩; case qy109 => (intro w hSw; (try dsimp only at hSw); go_simp; try with_reducible rfl))
                refine rgH (i := 22) (oi := ?qo110) ?qh110 ?qr110
                case qh110 => (simp only [List.getElem?_toArray, List.getElem?_cons_succ, List.getElem?_cons_zero]; rfl)
                (refine ⟨by kernel_rfl, by kernel_rfl, by kernel_rfl, by assumption, ?qv110, fun _ _ _ h => h, Or.inl ⟨by kernel_rfl, ?qy110⟩, ?qn110⟩; case qy110 => (intro w hSw; (try dsimp only at hSw); go_simp; try with_reducible rfl))
                refine rgH (i := 23) (oi := ?qo111) ?qh111 ?qr111
                case qh111 => (simp only [List.getElem?_toArray, List.getElem?_cons_succ, List.getElem?_cons_zero]; rfl)
                (refine ⟨by kernel_rfl, by kernel_rfl, by kernel_rfl, by assumption, ?qv111, fun _ _ _ h => h, Or.inl ⟨by kernel_rfl, ?qy111⟩, ?qn111⟩; case qy111 => (intro w hSw; (try dsimp only at hSw); go_simp; try with_reducible rfl))
                refine rgH (i := 24) (oi := ?qo112) ?qh112 ?qr112
                case qh112 => (simp only [List.getElem?_toArray, List.getElem?_cons_succ, List.getElem?_cons_zero]; rfl)
                (refine ⟨by kernel_rfl, by kernel_rfl, by kernel_rfl, by assumption, ?qv112, fun _ _ _ h => h, Or.inl ⟨by kernel_rfl, ?qy112⟩, ?qn112⟩; case qy112 => (intro w hSw; (try dsimp only at hSw); go_simp; try with_reducible rfl))
                (try simp only [Act.put, List.setIfInBounds_toArray, List.set_cons_zero, List.set_cons_succ])
                refine rgH (i := 25) (oi := ?qo113) ?qh113 ?qr113
                case qh113 => (simp only [List.getElem?_toArray, List.getElem?_cons_succ, List.getElem?_cons_zero]; rfl)
                (refine ⟨by kernel_rfl, by kernel_rfl, by kernel_rfl, by assumption, ?qv113, fun _ _ _ h => h, Or.inl ⟨by kernel_rfl, ?qy113⟩, ?qn113⟩; case qy113 => (intro w hSw; (try dsimp only at hSw); go_simp; try with_reducible rfl))
                refine rgH (i := 26) (oi := ?qo114) ?qh114 ?qr114
                case qh114 => (simp only [List.getElem?_toArray, List.getElem?_cons_succ, List.getElem?_cons_zero]; rfl)
                (refine ⟨by kernel_rfl, by kernel_rfl, by kernel_rfl, by assumption, ?qv114, fun _ _ _ h => h, Or.inl ⟨by kernel_rfl, ?qy114⟩, ?qn114⟩; case qy114 => (intro w hSw; (try dsimp only at hSw); go_simp; try with_reducible rfl))
                refine rgH (i := 27) (oi := ?qo115) ?qh115 ?qr115
                case qh115 => (simp only [List.getElem?_toArray, List.getElem?_cons_succ, List.getElem?_cons_zero]; rfl)
                (refine ⟨by kernel_rfl, by kernel_rfl, by kernel_rfl, by assumption, ?qv115, fun _ _ _ h => h, Or.inl ⟨by kernel_rfl, ?qy115⟩, ?qn115⟩; case qy115 => (intro w hSw; (try dsimp only at hSw); go_simp; try with_reducible rfl))
                refine rgH (i := 28) (oi := ?qo116) ?qh116 ?qr116
                case qh116 => (simp only [List.getElem?_toArray, List.getElem?_cons_succ, List.getElem?_cons_zero]; rfl)
                (refine ⟨by kernel_rfl, by kernel_rfl, by kernel_rfl, by assumption, ?qv116, fun _ _ _ h => h, Or.inl ⟨by kernel_rfl, ?qy116⟩, ?qn116⟩; case qy116 => (intro w hSw; (try dsimp only at hSw); go_simp; try with_reducible rfl))
                (try simp only [Act.put, List.setIfInBounds_toArray, List.set_cons_zero, List.set_cons_succ])
                refine wpAnyH_done (by kernel_rfl) ?_ _
                go_wp2
                go_roundw
                case rel => exact ⟨k + 1, by omega, by go_num, (ptsOk_succ HK.out).trans HST.out, HB1.out⟩
                case measure => simp [intOf]; omega
              · have HST : Hid (stepOk d2.length d3 k = false) := by unfold Hid; rw [HST0.out]; simp [hyx]
                have e1 : decide (x ≤ y) = true := by simp; omega
                clear hyx HST0
                go_wp2
                refine wp_region_held_drew (S := fun w' => w'.cell? ⟨wr.heap.size, 0, none⟩ = some (.int .i64 x) ∧ w'.cell? ⟨wr.heap.size, 1, none⟩ = some (.slice a' ts.length cap') ∧ w'.cell? ⟨w.heap.size, 2, none⟩ = some (.slice a2 d2.length p2) ∧ w'.cell? ⟨w.heap.size, 3, none⟩ = some (.slice (some ⟨b, off, none⟩) d3.length p3) ∧ w'.cell? ⟨b, off + (k - 1) * 2, none⟩ = some (.int .i64 y)) (by kernel_rfl) ⟨u0, u1, s2, s3, yc⟩ (fun hHeld => ?_)
                refine rgH (i := 0) (oi := ?qo117) ?qh117 ?qr117
                case qh117 => (simp only [List.getElem?_toArray, List.getElem?_cons_succ, List.getElem?_cons_zero]; rfl)
                (refine ⟨by kernel_rfl, by kernel_rfl, by kernel_rfl, by assumption, ?qv117, fun _ _ _ h => h, Or.inl ⟨by kernel_rfl, ?qy117⟩, ?qn117⟩; case qy117 => (intro w hSw; (try dsimp only at hSw); go_simp; try with_reducible rfl))
                (try simp only [Act.put, List.setIfInBounds_toArray, List.set_cons_zero, List.set_cons_succ])
                refine rgH (i := 1) (oi := ?qo118) ?qh118 ?qr118
                case qh118 => (simp only [List.getElem?_toArray, List.getElem?_cons_succ, List.getElem?_cons_zero]; rfl)
                (refine ⟨by kernel_rfl, by kernel_rfl, by kernel_rfl, by assumption, ?qv118, fun _ _ _ h => h, Or.inl ⟨by kernel_rfl, ?qy118⟩, ?qn118⟩; case qy118 => (intro w hSw; (try dsimp only at hSw); go_simp; try with_reducible rfl))
                (try simp only [Act.put, List.setIfInBounds_toArray, List.set_cons_zero, List.set_cons_succ])
                refine wpAnyH_ready (rs := [2]) (by kernel_rfl) (by simp) ?_
                refine rgHcall (i := 2) (o := ?qo119) ?qh119 ?qk119
                case qh119 => (simp only [List.getElem?_toArray, List.getElem?_cons_succ, List.getElem?_cons_zero]; rfl)
                intro K hK
                go_simp
                (go_at_call 47; refine (c_areOver _ _ _ _ _ HS.out.drew).mono ?_; rintro e w1 ⟨rfl, hb1⟩; rw [HA.out]; have kk1 := And.intro (cell_below hb1 zu u0) (And.intro (cell_below hb1 zu u1) (And.intro (cell_below hb1 zs s2) (And.intro (cell_below hb1 zs s3) (cell_below hb1 zb yc)))); have HB1 := hid (bel_next HBX.out.drew HBX.out.drew.size hb1))
                refine hK.out _ _ kk1 (fun hHeld => ?_)
                clear hK K
                refine rgH (i := 3) (oi := ?qo120) ?qh120 ?qr120
                case qh120 => (simp only [List.getElem?_toArray, List.getElem?_cons_succ, List.getElem?_cons_zero]; rfl)
                (refine ⟨by kernel_rfl, by kernel_rfl, by kernel_rfl, by assumption, ?qv120, fun _ _ _ h => h, Or.inl ⟨by kernel_rfl, ?qy120⟩, ?qn120⟩; case qy120 => (intro w hSw; (try dsimp only at hSw); go_simp; try with_reducible rfl))
                (try simp only [Act.put, List.setIfInBounds_toArray, List.set_cons_zero, List.set_cons_succ])
                refine rgH (i := 4) (oi := ?qo121) ?qh121 ?qr121
                case qh121 => (simp only [List.getElem?_toArray, List.getElem?_cons_succ, List.getElem?_cons_zero]; rfl)
                (refine ⟨by kernel_rfl, by kernel_rfl, by kernel_rfl, by assumption, ?qv121, fun _ _ _ h => h, Or.inl ⟨by kernel_rfl, ?qy121⟩, ?qn121⟩; case qy121 => (intro w hSw; (try dsimp only at hSw); go_simp; try with_reducible rfl))
                refine rgH (i := 5) (oi := ?qo122) ?qh122 ?qr122
                case qh122 => (simp only [List.getElem?_toArray, List.getElem?_cons_succ, List.getElem?_cons_zero]; rfl)
                (refine ⟨by kernel_rfl, by kernel_rfl, by kernel_rfl, by assumption, ?qv122, fun _ _ _ h => h, Or.inl ⟨by kernel_rfl, ?qy122⟩, ?qn122⟩; case qy122 => (intro w hSw; (try dsimp only at hSw); go_simp; try with_reducible rfl))
                refine rgH (i := 6) (oi := ?qo123) ?qh123 ?qr123
                case qh123 => (simp only [List.getElem?_toArray, List.getElem?_cons_succ, List.getElem?_cons_zero]; rfl)
                (refine ⟨by kernel_rfl, by kernel_rfl, by kernel_rfl, by assumption, ?qv123, fun _ _ _ h => h, Or.inl ⟨by kernel_rfl, ?qy123⟩, ?qn123⟩; case qy123 => (intro w hSw; (try dsimp only at hSw); go_simp; try with_reducible rfl))
                refine rgH (i := 7) (oi := ?qo124) ?qh124 ?qr124
                case qh124 => (simp only [List.getElem?_toArray, List.getElem?_cons_succ, List.getElem?_cons_zero]; rfl)
                (refine ⟨by kernel_rfl, by kernel_rfl, by kernel_rfl, by assumption, ?qv124, fun _ _ _ h => h, Or.inl ⟨by kernel_rfl, ?qy124⟩, ?qn124⟩; case qy124 => (intro w hSw; (try dsimp only at hSw); go_simp; try with_reducible rfl))
                (try simp only [Act.put, List.setIfInBounds_toArray, List.set_cons_zero, List.set_cons_succ])
                refine rgH (i := 8) (oi := ?qo125) ?qh125 ?qr125
                case qh125 => (simp only [List.getElem?_toArray, List.getElem?_cons_succ, List.getElem?_cons_zero]; rfl)
                (refine ⟨by kernel_rfl, by kernel_rfl, by kernel_rfl, by assumption, ?qv125, fun _ _ _ h => h, Or.inl ⟨by kernel_rfl, ?qy125⟩, ?qn125⟩; case qy125 => (intro w hSw; (try dsimp only at hSw); go_simp; try with_reducible rfl))
                refine rgH (i := 9) (oi := ?qo126) ?qh126 ?qr126
                case qh126 => (simp only [List.getElem?_toArray, List.getElem?_cons_succ, List.getElem?_cons_zero]; rfl)
                (refine ⟨by kernel_rfl, by kernel_rfl, by kernel_rfl, by assumption, ?qv126, fun _ _ _ h => h, Or.inl ⟨by kernel_rfl, ?qy126⟩, ?qn126⟩; case qy126 => (intro w hSw; (try dsimp only at hSw); go_simp; try with_reducible rfl))
                (try simp only [Act.put, List.setIfInBounds_toArray, List.set_cons_zero, List.set_cons_succ])
                refine wpAnyH_ready (rs := [10]) (by kernel_rfl) (by simp) ?_
                refine rgHcall (i := 10) (o := ?qo127) ?qh127 ?qk127
                case qh127 => (simp only [List.getElem?_toArray, List.getElem?_cons_succ, List.getElem?_cons_zero]; rfl)
                intro K hK
                go_simp
                (go_at_call 48; refine (c_isIndex _ _ _ hN6).mono ?_; rintro e w2 ⟨rfl, rfl⟩; rw [HI.out])
                refine hK.out _ _ kk1 (fun hHeld => ?_)
                clear hK K
                refine rgH (i := 11) (oi := ?qo128) ?qh128 ?qr128
                case qh128 => (simp only [List.getElem?_toArray, List.getElem?_cons_succ, List.getElem?_cons_zero]; rfl)
                (refine ⟨by kernel_rfl, by kernel_rfl, by kernel_rfl, by assumption, ?qv128, fun _ _ _ h => h, Or.inl ⟨by kernel_rfl, ?qy128⟩, ?qn128⟩; case qy128 => (intro w hSw; (try dsimp only at hSw); go_simp; try with_reducible rfl))
                (try simp only [Act.put, List.setIfInBounds_toArray, List.set_cons_zero, List.set_cons_succ])
                refine rgH (i := 12) (oi := ?qo129) ?qh129 ?qr129
                case qh129 => (simp only [List.getElem?_toArray, List.getElem?_cons_succ, List.getElem?_cons_zero]; rfl)
                (refine ⟨by kernel_rfl, by kernel_rfl, by kernel_rfl, by assumption, ?qv129, fun _ _ _ h => h, Or.inl ⟨by kernel_rfl, ?qy129⟩, ?qn129⟩; case qy129 => (intro w hSw; (try dsimp only at hSw); go_simp; try with_reducible rfl))
                refine rgH (i := 13) (oi := ?qo130) ?qh130 ?qr130
                case qh130 => (simp only [List.getElem?_toArray, List.getElem?_cons_succ, List.getElem?_cons_zero]; rfl)
                (refine ⟨by kernel_rfl, by kernel_rfl, by kernel_rfl, by assumption, ?qv130, fun _ _ _ h => h, Or.inl ⟨by kernel_rfl, ?qy130⟩, ?qn130⟩; case qy130 => (intro w hSw; (try dsimp only at hSw); go_simp; try with_reducible rfl))
                refine rgH (i := 14) (oi := ?qo131) ?qh131 ?qr131
                case qh131 => (simp only [List.getElem?_toArray, List.getElem?_cons_succ, List.getElem?_cons_zero]; rfl)
                (refine ⟨by kernel_rfl, by kernel_rfl, by kernel_rfl, by assumption, ?qv131, fun _ _ _ h => h, Or.inl ⟨by kernel_rfl, ?qy131⟩, ?qn131⟩; case qy131 => (intro w hSw; (try dsimp only at hSw); go_simp; try with_reducible rfl))
                refine rgH (i := 15) (oi := ?qo132) ?qh132 ?qr132
                case qh132 => (simp only [List.getElem?_toArray, List.getElem?_cons_succ, List.getElem?_cons_zero]; rfl)
                (refine ⟨by kernel_rfl, by kernel_rfl, by kernel_rfl, by assumption, ?qv132, fun _ _ _ h => h, Or.inl ⟨by kernel_rfl, ?qy132⟩, ?qn132⟩; case qy132 => (intro w hSw; (try dsimp only at hSw); go_simp; try with_reducible rfl))
                (try simp only [Act.put, List.setIfInBounds_toArray, List.set_cons_zero, List.set_cons_succ])
                refine rgH (i := 16) (oi := ?qo133) ?qh133 ?qr133
                case qh133 => (simp only [List.getElem?_toArray, List.getElem?_cons_succ, List.getElem?_cons_zero]; rfl)
                (refine ⟨by kernel_rfl, by kernel_rfl, by kernel_rfl, by assumption, ?qv133, fun _ _ _ h => h, Or.inl ⟨by kernel_rfl, ?qy133⟩, ?qn133⟩; case qy133 => (intro w hSw; (try dsimp only at hSw); go_simp; try with_reducible rfl))
                refine rgH (i := 17) (oi := ?qo134) ?qh134 ?qr134
                case qh134 => (simp only [List.getElem?_toArray, List.getElem?_cons_succ, List.getElem?_cons_zero]; rfl)
                (refine ⟨by kernel_rfl, by kernel_rfl, by kernel_rfl, by assumption, ?qv134, fun _ _ _ h => h, Or.inl ⟨by kernel_rfl, ?qy134⟩, ?qn134⟩; case qy134 => (intro w hSw; (try dsimp only at hSw); go_simp; try with_reducible rfl))
                refine rgH (i := 18) (oi := ?qo135) ?qh135 ?qr135
                case qh135 => (simp only [List.getElem?_toArray, List.getElem?_cons_succ, List.getElem?_cons_zero]; rfl)
                (refine ⟨by kernel_rfl, by kernel_rfl, by kernel_rfl, by assumption, ?qv135, fun _ _ _ h => h, Or.inl ⟨by kernel_rfl, ?qy135⟩, ?qn135⟩; case qy135 => (intro w hSw; (try dsimp only at hSw); go_simp; try with_reducible rfl))
                refine rgH (i := 19) (oi := ?qo136) ?qh136 ?qr136
                case qh136 => (simp only [List.getElem?_toArray, List.getElem?_cons_succ, List.getElem?_cons_zero]; rfl)
                (refine ⟨by kernel_rfl, by kernel_rfl, by kernel_rfl, by assumption, ?qv136, fun _ _ _ h => h, Or.inl ⟨by kernel_rfl, ?qy136⟩, ?qn136⟩; case qy136 => (intro w hSw; (try dsimp only at hSw); go_simp; try with_reducible rfl))
                (try simp only [Act.put, List.setIfInBounds_toArray, List.set_cons_zero, List.set_cons_succ])
                refine rgH (i := 20) (oi := ?qo137) ?qh137 ?qr137
                case qh137 => (simp only [List.getElem?_toArray, List.getElem?_cons_succ, List.getElem?_cons_zero]; rfl)
                (refine ⟨by kernel_rfl, by kernel_rfl, by kernel_rfl, by assumption, ?qv137, fun _ _ _ h => h, Or.inl ⟨by kernel_rfl, ?qy137⟩, ?qn137⟩; case qy137 => (intro w hSw; (try dsimp only at hSw); go_simp; try with_reducible rfl))
                refine rgH (i := 21) (oi := ?qo138) ?qh138 ?qr138
                case qh138 => (simp only [List.getElem?_toArray, List.getElem?_cons_succ, List.getElem?_cons_zero]; rfl)
                (refine ⟨by kernel_rfl, by kernel_rfl, by kernel_rfl, by assumption, ?qv138, fun _ _ _ h => h, Or.inl ⟨by kernel_rfl, ?qy138⟩, ?qn138⟩; case qy138 => (intro w hSw; (try dsimp only at hSw); go_simp; try with_reducible rfl))
                refine rgH (i := 22) (oi := ?qo139) ?qh139 ?qr139
                case qh139 => (simp only [List.getElem?_toArray, List.getElem?_cons_succ, List.getElem?_cons_zero]; rfl)
                (refine ⟨by kernel_rfl, by kernel_rfl, by kernel_rfl, by assumption, ?qv139, fun _ _ _ h => h, Or.inl ⟨by kernel_rfl, ?qy139⟩, ?qn139⟩; case qy139 => (intro w hSw; (try dsimp only at hSw); go_simp; try with_reducible rfl))
                refine rgH (i := 23) (oi := ?qo140) ?qh140 ?qr140
                case qh140 => (simp only [List.getElem?_toArray, List.getElem?_cons_succ, List.getElem?_cons_zero]; rfl)
                (refine ⟨by kernel_rfl, by kernel_rfl, by kernel_rfl, by assumption, ?qv140, fun _ _ _ h => h, Or.inl ⟨by kernel_rfl, ?qy140⟩, ?qn140⟩; case qy140 => (intro w hSw; (try dsimp only at hSw); go_simp; try with_reducible rfl))
                (try simp only [Act.put, List.setIfInBounds_toArray, List.set_cons_zero, List.set_cons_succ])
                refine rgH (i := 24) (oi := ?qo141) ?qh141 ?qr141
                case qh141 => (simp only [List.getElem?_toArray, List.getElem?_cons_succ, List.getElem?_cons_zero]; rfl)
                (refine ⟨by kernel_rfl, by kernel_rfl, by kernel_rfl, by assumption, ?qv141, fun _ _ _ h => h, Or.inl ⟨by kernel_rfl, ?qy141⟩, ?qn141⟩; case qy141 => (intro w hSw; (try dsimp only at hSw); go_simp; try with_reducible rfl))
                refine rgH (i := 25) (oi := ?qo142) ?qh142 ?qr142
                case qh142 => (simp only [List.getElem?_toArray, List.getElem?_cons_succ, List.getElem?_cons_zero]; rfl)
                (refine ⟨by kernel_rfl, by kernel_rfl, by kernel_rfl, by assumption, ?qv142, fun _ _ _ h => h, Or.inl ⟨by kernel_rfl, ?qy142⟩, ?qn142⟩; case qy142 => (intro w hSw; (try dsimp only at hSw); go_simp; try with_reducible rfl))
                refine rgH (i := 26) (oi := ?qo143) ?qh143 ?qr143
                case qh143 => (simp only [List.getElem?_toArray, List.getElem?_cons_succ, List.getElem?_cons_zero]; rfl)
                (refine ⟨by kernel_rfl, by kernel_rfl, by kernel_rfl, by assumption, ?qv143, fun _ _ _ h => h, Or.inl ⟨by kernel_rfl, ?qy143⟩, ?qn143⟩; case qy143 => (intro w hSw; (try dsimp only at hSw); go_simp; try with_reducible rfl))
                refine rgH (i := 27) (oi := ?qo144) ?qh144 ?qr144
                case qh144 => (simp only [List.getElem?_toArray, List.getElem?_cons_succ, List.getElem?_cons_zero]; rfl)
                (refine ⟨by kernel_rfl, by kernel_rfl, by kernel_rfl, by assumption, ?qv144, fun _ _ _ h => h, Or.inl ⟨by kernel_rfl, ?qy144⟩, ?qn144⟩; case qy144 => (intro w hSw; (try dsimp only at hSw); go_simp; try with_reducible rfl))
                (try simp only [Act.put, List.setIfInBounds_toArray, List.set_cons_zero, List.set_cons_succ])
                refine rgH (i := 28) (oi := ?qo145) ?qh145 ?qr145
                case qh145 => (simp only [List.getElem?_toArray, List.getElem?_cons_succ, List.getElem?_cons_zero]; rfl)
                (refine ⟨by kernel_rfl, by kernel_rfl, by kernel_rfl, by assumption, ?qv145, fun _ _ _ h => h, Or.inl ⟨by kernel_rfl, ?qy145⟩, ?qn145⟩; case qy145 => (intro w hSw; (try dsimp only at hSw); go_simp; try with_reducible rfl))
                (try simp only [Act.put, List.setIfInBounds_toArray, List.set_cons_zero, List.set_cons_succ])
                refine wpAnyH_done (by kernel_rfl) ?_ _
                go_wp2
                go_ret
                exact ⟨ret_bool (by rw [HHD.out, ptsOk_false HST.out hlt]), bel_next HB.out HB.out.size HB1.out⟩
      · have HFE : Hid (validAn (d0, d1, d2, d3) = true) := by
          have h9 := HK.out
          have h8 : k = d3.length := by omega
          rw [h8] at h9
          unfold Hid; rw [HHD.out, h9]
        go_wp2
        go_ret
        exact ⟨ret_bool HFE.out.symm, bel_next HB.out HB.out.size HBR.out⟩
end Go.Proofs.YtcmopmapdomneaaDoor
end
