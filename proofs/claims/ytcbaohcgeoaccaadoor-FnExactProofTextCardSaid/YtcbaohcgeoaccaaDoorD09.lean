/- Contracts: the text of a term, the program's side. -/
import Derived.Test.YtcbaohcgeoaccaaDoorD08
import Derived.Test.YtcbaohcgeoaccaaDoorD02
import Derived.Test.YtcbaohcgeoaccaaDoorL01d
import Derived.Test.YtcbaohcgeoaccaaDoorUni
import Derived.Deep.RegionLaw
import Derived.Deep.RegionWith
namespace Go.Proofs.YtcbaohcgeoaccaaDoor
open Go.RowKit

/-- A block with one text. -/
def TxtAt (w : World) (g : Nat) (l : List UInt8) : Prop := w.heap[g]? = some (.cells #[.string ⟨l.toArray⟩] 9 (0, 0))
theorem TxtAt.cell {w : World} {g : Nat} {l : List UInt8} (h : TxtAt w g l) : w.cell? ⟨g, 0, none⟩ = some (.string ⟨l.toArray⟩) := cell_of h rfl
theorem TxtAt.frz {w : World} {g : Nat} {l : List UInt8} (h : TxtAt w g l) : w.frozen? ⟨g, 0, none⟩ = false := frz_of h 0
theorem TxtAt.set {w : World} {g : Nat} {l : List UInt8} (h : TxtAt w g l) (l' : List UInt8) : TxtAt (w.setCell ⟨g, 0, none⟩ (.string ⟨l'.toArray⟩)) g l' := blk_set h 0 _
theorem TxtAt.below {w w' : World} {g : Nat} {l : List UInt8} (h : TxtAt w g l) (hb : Below w.heap.size w w') : TxtAt w' g l := by
  unfold TxtAt; rw [hb.block g (Array.getElem?_eq_some_iff.1 h).1]; exact h
theorem set_grown (w : World) (g : Nat) (v : Value) : w.grownBy (w.setCell ⟨g, 0, none⟩ v) (some g) := ⟨rfl, rfl, rfl, Nat.le_of_eq (size_set _ _ _).symm, fun k _ hk => heap_setCell_ne _ _ _ (by intro e; subst e; exact hk rfl)⟩
theorem grown_refl (w : World) (g : Option Nat) : w.grownBy w g := ⟨rfl, rfl, rfl, Nat.le_refl _, fun _ _ _ => rfl⟩
theorem bel_grown {B g : Nat} {w w' : World} (h : w.grownBy w' (some g)) (hB : B ≤ g) (hs : B ≤ w.heap.size) : Below B w w' :=
  ⟨h.os, h.tape, h.output, h.size, fun k hk => h.block k (by omega) (by intro e; cases e; omega)⟩
theorem c_sign (n : Int) (g : Nat) (l : List UInt8) (w : World) (h : TxtAt w g l) (hl : l.length ≤ 1000) :
    Calls Tryd.prog 118 #[.int .i64 n, .pointer (some ⟨g, 0, none⟩)] w fun e w' => e = .returned (.tuple #[]) ∧ TxtAt w' g (signF n l) ∧ w.grownBy w' (some g) := by
  have HT := hid h
  have hc := h.cell
  have hf := h.frz
  clear h
  by_cases hn : n < 0
  · have HF : Hid (signF n l = l ++ [45]) := by unfold Hid signF; rw [if_pos hn]
    have e1 := badd l [45]
    go_enter Tryd.func118, Tryd.ntmps118
    go_wp2
    go_end0
    rw [HF.out]
    exact ⟨rfl, HT.out.set _, set_grown _ _ _⟩
  · by_cases hl0 : l = []
    · have HF : Hid (signF n l = l) := by unfold Hid signF; rw [if_neg hn, if_pos hl0]
      have hle : (l == []) = true := beq_iff_eq.2 hl0
      clear hl0
      go_enter Tryd.func118, Tryd.ntmps118
      go_wp2
      go_end0
      rw [HF.out]
      exact ⟨rfl, HT.out, grown_refl _ _⟩
    · have HF : Hid (signF n l = l ++ [43]) := by unfold Hid signF; rw [if_neg hn, if_neg hl0]
      have hle : (l == []) = false := beq_eq_false_iff_ne.2 hl0
      have e1 := badd l [43]
      clear hl0
      go_enter Tryd.func118, Tryd.ntmps118
      go_wp2
      go_end0
      rw [HF.out]
      exact ⟨rfl, HT.out.set _, set_grown _ _ _⟩
theorem encode_name (k : Nat) (h : k ≤ 10) : Utf8.encode (97 + (k : Int)) = ⟨[UInt8.ofNat (97 + k)].toArray⟩ := by
  have hall : ∀ q : Fin 11, Utf8.encode (97 + ((q.val : Nat) : Int)) = ⟨[UInt8.ofNat (97 + q.val)].toArray⟩ := by decide +kernel
  exact hall ⟨k, by omega⟩
theorem wpList_conv {P : Program} {w : World} {ops : Array Oper} {rest : List Oper} {o : Oper} {a : Act} {Q : Exit → Act → World → Prop} (hgd : o.guard = none) (src dst : TypeId) (x : Operand)
    (ho : o.op = .convert src dst x) {u v : Value} (hx : a.eval x = u) (hrun : (convert src dst u).run P w = .ok v w) (h : wpList P ops Q rest (a.put o.dst v) w) : wpList P ops Q (o :: rest) a w :=
  wpList_plain hgd fun _ hK => by
    unfold Oper.wp
    simp [execOp, ho, hx, hrun, Result.andThen]
    exact hK _ _ h
theorem conv_name (w : World) (k : Nat) (h : k ≤ 10) : (convert 21 9 (.int .i32 (97 + (k : Int)))).run Tryd.prog w = .ok (.string ⟨#[UInt8.ofNat (97 + k)]⟩) w := by
  rw [run_convert_int_string w _ _ .i32 _ (by rw [Tryd.underlying21]; rfl) Tryd.underlying9, encode_name k h]
def TrmIn (w : World) (b : Nat) (c : Int) (v : Value) : Prop := w.heap[b]? = some (.cells #[.int .i64 c, v] 43 (0, 0))
theorem TrmIn.c0 {w : World} {b : Nat} {c : Int} {v : Value} (h : TrmIn w b c v) : w.cell? ⟨b, 0, none⟩ = some (.int .i64 c) := cell_of h rfl
theorem TrmIn.c1 {w : World} {b : Nat} {c : Int} {v : Value} (h : TrmIn w b c v) : w.cell? ⟨b, 1, none⟩ = some v := cell_of h rfl
theorem TrmIn.below {w w' : World} {b : Nat} {c : Int} {v : Value} (h : TrmIn w b c v) (hb : Below w.heap.size w w') : TrmIn w' b c v := by
  unfold TrmIn; rw [hb.block b (Array.getElem?_eq_some_iff.1 h).1]; exact h
theorem TrmIn.grown {w w' : World} {b g : Nat} {c : Int} {v : Value} (h : TrmIn w b c v) (hg : w.grownBy w' (some g)) (hne : b ≠ g) : TrmIn w' b c v := by
  unfold TrmIn; rw [hg.block b (Array.getElem?_eq_some_iff.1 h).1 (by simpa using hne)]; exact h
theorem TxtAt.lt {w : World} {g : Nat} {l : List UInt8} (h : TxtAt w g l) : g < w.heap.size := (Array.getElem?_eq_some_iff.1 h).1
set_option maxHeartbeats 4000000 in
set_option maxRecDepth 100000 in
theorem c_termText {S : Nat → Prop} {B : Nat} {c : Int} {a : Option Addr} {p : Nat} {zs : List Int} {w : World} (h : SlRd cInt S w a p zs) (hv : validTerm (c, zs) = true) (ht : TabE B w) :
    Calls Tryd.prog 76 #[.agg #[.int .i64 c, .slice a zs.length p]] w fun e w' => e = .returned (strOf (textF (c, zs))) ∧ Below w.heap.size w w' := by
  obtain ⟨hl10, hc6, hz6⟩ := validTerm_small hv
  simp only at hl10 hc6 hz6
  have HP := hid (partT_len (t := (c, zs)) hc6 hz6)
  have HZ := hid hz6
  have hlz := h.len_le
  have HT := hid ht
  obtain ⟨g, hg⟩ : ∃ g, w.heap.size = g := ⟨_, rfl⟩
  have H2 := hid ((h.alloc (.cells #[.int .i64 c, .slice a zs.length p] 43)).alloc (.cells #[.string ⟨#[]⟩] 9))
  have HB2 : Hid (Below w.heap.size w ((w.alloc (.cells #[.int .i64 c, .slice a zs.length p] 43)).alloc (.cells #[.string ⟨#[]⟩] 9))) := (((Below.refl _ _).alloc (Nat.le_refl _) _)).alloc (by simp) _
  have HM2 : Hid (TrmIn ((w.alloc (.cells #[.int .i64 c, .slice a zs.length p] 43)).alloc (.cells #[.string ⟨#[]⟩] 9)) w.heap.size c (.slice a zs.length p)) := by
    unfold Hid TrmIn; rw [Below.heap_alloc _ _ _ (by simp)]; exact heap_new w _
  have HX2 : Hid (TxtAt ((w.alloc (.cells #[.int .i64 c, .slice a zs.length p] 43)).alloc (.cells #[.string ⟨#[]⟩] 9)) (w.heap.size + 1) []) := new_at (by simp)
  have HM1 : Hid (TrmIn (w.alloc (.cells #[.int .i64 c, .slice a zs.length p] 43)) w.heap.size c (.slice a zs.length p)) := heap_new w _
  have H0 := hid h
  clear h hv hz6 ht hg
  go_enter Tryd.func76, Tryd.ntmps76
  go_wp2
  generalize (w.alloc (.cells #[.int .i64 c, .slice a zs.length p] 43)).alloc (.cells #[.string ⟨#[]⟩] 9) = w2 at *
  have H := hid (H2.out)
  go_loopw [11] (fun i wr => ∃ k : Nat, k ≤ zs.length ∧ i = .int .i64 k ∧ Hid (TxtAt wr (w.heap.size + 1) (partT (c, zs) k)) ∧ Hid (TrmIn wr w.heap.size c (.slice a zs.length p)) ∧ Below w.heap.size w wr) (fun i _ => zs.length - (intOf i).toNat)
  case atStart => exact ⟨0, Nat.zero_le _, rfl, HX2, HM2, HB2.out⟩
  case round =>
    obtain ⟨k, hk, rfl, HX, HM, hbe⟩ := hrel
    have hsz := hbe.size
    have hgl := HX.out.lt
    obtain ⟨l, hL⟩ : ∃ l, partT (c, zs) k = l := ⟨_, rfl⟩
    have hll : l.length ≤ 23 * k := by rw [← hL]; exact HP.out k
    rw [hL] at HX
    by_cases hlt : k < zs.length
    · obtain ⟨b, off, rfl⟩ := H0.out.some_of hlt
      obtain ⟨z, hz, hz2, hc, hb⟩ := (H0.out.below (Nat.le_refl _) hbe).int_at k hlt
      have hz6 := HZ.out z (List.mem_of_getElem? hz)
      have HN := hid (partT_lt (t := (c, zs)) hz)
      rw [hL] at HN
      have i0 : (0 : Int) ≤ (k : Int) := by omega
      have i1 : (k : Int) < (zs.length : Int) := by omega
      unfold small at hz6
      clear hz hL
      by_cases hz0 : z = 0
      · subst hz0
        have HE : Hid (partT (c, zs) (k + 1) = l) := by unfold Hid; rw [HN.out, piece_zero]
        go_wp2
        go_roundw
        case rel => exact ⟨k + 1, by omega, by go_num, by rw [HE.out]; exact HX, HM, hbe⟩
        case measure => simp [intOf]; omega
      · obtain ⟨m, hm⟩ : ∃ m, z.natAbs = m := ⟨_, rfl⟩
        have hm0 : 0 < m := by omega
        have hm6 : m ≤ 1000000 := by omega
        have hit := Lib.itoa_length_le (m : Int) (by omega) (by omega)
        have hzf : (z == 0) = false := by simpa using hz0
        have HSL : Hid (pieceF l z [UInt8.ofNat (97 + k)] = signF z l ++ ((if m = 1 then [] else Lib.itoa m) ++ [UInt8.ofNat (97 + k)])) := by
          unfold Hid pieceF; rw [if_neg hz0, hm]; simp
        have hsl : (signF z l).length ≤ l.length + 1 := by unfold signF; split; · simp
                                                           · split <;> simp
        rw [← HN.out] at HSL
        obtain ⟨l1, hl1⟩ : ∃ l1, signF z l = l1 := ⟨_, rfl⟩
        rw [hl1] at hsl HSL
        have HCS := hid (c_sign z (w.heap.size + 1) l wr HX.out (by omega))
        rw [hl1] at HCS
        have HAB := hid fun w => c_absolute z w (by omega) (by omega)
        rw [hm] at HAB
        have hbw : Below (w.heap.size + 1) wr wr := Below.refl _ _
        clear hl1 hz0 hm hbw HN
        have HCV := hid fun w => conv_name w k (by omega)
        obtain ⟨nm, hnm⟩ : ∃ nm, UInt8.ofNat (97 + k) = nm := ⟨_, rfl⟩
        rw [hnm] at HSL HCV
        clear hnm
        go_wp2_with fail
        refine HCS.out.mono ?_
        rintro e w3 ⟨rfl, hx3, hg3⟩
        have HX3 := hid hx3
        have HM3 := hid (HM.out.grown hg3 (by omega))
        have HB3 := hid (hbe.trans (bel_grown hg3 (Nat.le_succ _) hsz))
        have HT3 := hid (HT.out.belows (HB3.out.mono HT.out.2))
        have hc3 := hx3.cell
        have hf3 := hx3.frz
        have hl3 := hx3.lt
        clear hx3 hg3 HX HM hc hb
        have e2 := badd l1 (Lib.itoa m)
        go_wp2_with fail
        refine (HAB.out _).mono ?_
        rintro e w' ⟨rfl, rfl⟩
        by_cases hm1 : m = 1
        · subst hm1
          have e3 := badd l1 [nm]
          go_wp2_with (refine wpList_conv rfl 21 9 (.tmp 32) rfl rfl (HCV.out _) ?_)
          go_roundw
          case rel =>
            have hg6 := set_grown w3 (w.heap.size + 1) (.string ⟨(l1 ++ [nm]).toArray⟩)
            have HS6 : partT (c, zs) (k + 1) = l1 ++ [nm] := by simpa using HSL.out
            exact ⟨k + 1, by omega, by go_num, by rw [HS6]; exact HX3.out.set _, HM3.out.grown hg6 (by omega), HB3.out.trans (bel_grown hg6 (Nat.le_succ _) HB3.out.size)⟩
          case measure => simp [intOf]; omega
        · have hmne : ((m : Int) != 1) = true := by simp; omega
          go_wp2_with fail
          have hc3d : w3.drew.cell? ⟨w.heap.size + 1, 0, none⟩ = some (.string ⟨l1.toArray⟩) := hc3
          have hbd : Below B w3 w3.drew := ⟨rfl, rfl, rfl, Nat.le_refl _, fun _ _ => rfl⟩
          have HD := hid (c_Decimal (B := B) (m : Int) w3.drew (by omega) (by omega) (HT3.out.belows hbd))
          clear hbd
          go_region_with (first | (go_at_call 119; refine (HAB.out _).mono ?_; rintro e w' ⟨rfl, rfl⟩) | (go_at_call 16; refine HD.out.mono ?_; rintro e w4 ⟨rfl, hb4⟩; unfold strOf; have hc4 := cell_below hb4 hl3 hc3d; have hf4 := frz_below hb4 hl3 hf3; have HB4 := hid hb4; clear hb4))
          all_goals
            have HB4 : Hid (Below w3.heap.size w3 w4) := (show Below w3.heap.size w3 w3.drew from ⟨rfl, rfl, rfl, Nat.le_refl _, fun _ _ => rfl⟩).trans HB4.out
            have HX5 := hid ((HX3.out.below HB4.out).set (l1 ++ Lib.itoa m))
            have hg5 := set_grown w4 (w.heap.size + 1) (.string ⟨(l1 ++ Lib.itoa m).toArray⟩)
            have HM5 := hid ((HM3.out.below HB4.out).grown hg5 (by omega))
            have HB5 := hid ((bel_next HB3.out HB3.out.size HB4.out).trans (bel_grown hg5 (Nat.le_succ _) (Nat.le_trans HB3.out.size HB4.out.size)))
            clear hg5 hc4 hf4 HB4 hc3 hf3 hl3 HX3 HM3 HB3 hc3d HD HT3
            generalize w4.setCell ⟨w.heap.size + 1, 0, none⟩ (.string ⟨(l1 ++ Lib.itoa m).toArray⟩) = w5 at *
            have hc5 := HX5.out.cell
            have hf5 := HX5.out.frz
            have e3 := badd (l1 ++ Lib.itoa m) [nm]
            go_wp2_with (refine wpList_conv rfl 21 9 (.tmp 32) rfl rfl (HCV.out _) ?_)
            go_roundw
            case rel =>
              have hg6 := set_grown w5 (w.heap.size + 1) (.string ⟨(l1 ++ (Lib.itoa m ++ [nm])).toArray⟩)
              have HS6 := HSL.out
              rw [if_neg hm1] at HS6
              exact ⟨k + 1, by omega, by go_num, by rw [HS6]; exact HX5.out.set _, HM5.out.grown hg6 (by omega), HB5.out.trans (bel_grown hg6 (Nat.le_succ _) HB5.out.size)⟩
            case measure => simp [intOf]; omega
    · obtain rfl : k = zs.length := by omega
      have HN := hid (partT_end (c, zs))
      simp only at HN
      rw [hL] at HN
      have hc7 := hc6
      unfold small at hc7
      have m0 := HM.out.c0
      have x0 := HX.out.cell
      clear hL
      by_cases hz0 : c = 0
      · subst hz0
        have HE : Hid (partT (0, zs) (zs.length + 1) = l) := by unfold Hid; rw [HN.out, piece_zero]
        by_cases hl : l = []
        · have HF : Hid (textF (0, zs) = [48]) := by unfold Hid textF; simp only; rw [HE.out, if_pos hl]
          have hle : (l == []) = true := beq_iff_eq.2 hl
          clear hl
          go_wp2
          go_ret
          rw [HF.out]
          exact ⟨rfl, hbe⟩
        · have HF : Hid (textF (0, zs) = l) := by unfold Hid textF; simp only; rw [HE.out, if_neg hl]
          have hle : (l == []) = false := beq_eq_false_iff_ne.2 hl
          clear hl
          go_wp2
          go_ret
          rw [HF.out]
          exact ⟨rfl, hbe⟩
      · obtain ⟨m, hm⟩ : ∃ m, c.natAbs = m := ⟨_, rfl⟩
        have hm0 : 0 < m := by omega
        have hm6 : m ≤ 1000000 := by omega
        have hit := Lib.itoa_length_le (m : Int) (by omega) (by omega)
        have hzf : (c == 0) = false := by simpa using hz0
        have HSL : Hid (pieceF l c [] = signF c l ++ Lib.itoa m) := by
          unfold Hid pieceF; rw [if_neg hz0, hm]; simp
        have hsl : (signF c l).length ≤ l.length + 1 := by unfold signF; split; · simp
                                                           · split <;> simp
        rw [← HN.out] at HSL
        obtain ⟨l1, hl1⟩ : ∃ l1, signF c l = l1 := ⟨_, rfl⟩
        rw [hl1] at hsl HSL
        have hne : Lib.itoa m ≠ [] := by
          rw [itoa_pos (by omega), digs_pos (by omega)]; simp
        have HF : Hid (textF (c, zs) = l1 ++ Lib.itoa m) := by
          unfold Hid textF; simp only; rw [HSL.out, if_neg (by simp [hne])]
        have hle : ((l1 ++ Lib.itoa m) == []) = false := beq_eq_false_iff_ne.2 (by simp [hne])
        have HCS := hid (c_sign c (w.heap.size + 1) l wr HX.out (by omega))
        rw [hl1] at HCS
        have HAB := hid fun w => c_absolute c w (by omega) (by omega)
        rw [hm] at HAB
        clear hl1 hz0 hm HN hne x0
        go_wp2_with fail
        refine HCS.out.mono ?_
        rintro e w3 ⟨rfl, hx3, hg3⟩
        have HX3 := hid hx3
        have HM3 := hid (HM.out.grown hg3 (by omega))
        have HB3 := hid (hbe.trans (bel_grown hg3 (Nat.le_succ _) hsz))
        have HT3 := hid (HT.out.belows (HB3.out.mono HT.out.2))
        have hc3 := hx3.cell
        have hf3 := hx3.frz
        have hl3 := hx3.lt
        have m3 := HM3.out.c0
        clear hx3 hg3 HX HM m0
        have e2 := badd l1 (Lib.itoa m)
        go_wp2_with fail
        have hc3d : w3.drew.cell? ⟨w.heap.size + 1, 0, none⟩ = some (.string ⟨l1.toArray⟩) := hc3
        have m3d : w3.drew.cell? ⟨w.heap.size, 0, none⟩ = some (.int .i64 c) := m3
        have hbd : Below B w3 w3.drew := ⟨rfl, rfl, rfl, Nat.le_refl _, fun _ _ => rfl⟩
        have HD := hid (c_Decimal (B := B) (m : Int) w3.drew (by omega) (by omega) (HT3.out.belows hbd))
        clear hbd
        go_region_with (first | (go_at_call 119; refine (HAB.out _).mono ?_; rintro e w' ⟨rfl, rfl⟩) | (go_at_call 16; refine HD.out.mono ?_; rintro e w4 ⟨rfl, hb4⟩; unfold strOf; have hc4 := cell_below hb4 hl3 hc3d; have hf4 := frz_below hb4 hl3 hf3; have HB4 := hid hb4; clear hb4))
        all_goals
          have HB4 : Hid (Below w3.heap.size w3 w4) := (show Below w3.heap.size w3 w3.drew from ⟨rfl, rfl, rfl, Nat.le_refl _, fun _ _ => rfl⟩).trans HB4.out
          have HX5 := hid ((HX3.out.below HB4.out).set (l1 ++ Lib.itoa m))
          have hg5 := set_grown w4 (w.heap.size + 1) (.string ⟨(l1 ++ Lib.itoa m).toArray⟩)
          have HB5 := hid ((bel_next HB3.out HB3.out.size HB4.out).trans (bel_grown hg5 (Nat.le_succ _) (Nat.le_trans HB3.out.size HB4.out.size)))
          clear hg5 hc4 hf4 HB4 hc3 hf3 hl3 HX3 HM3 HB3 hc3d HD HT3
          generalize w4.setCell ⟨w.heap.size + 1, 0, none⟩ (.string ⟨(l1 ++ Lib.itoa m).toArray⟩) = w5 at *
          have hc5 := HX5.out.cell
          go_wp2
          go_ret
          rw [HF.out]
          exact ⟨rfl, HB5.out⟩
theorem c_TermText {S : Nat → Prop} {B : Nat} {c : Int} {a : Option Addr} {p : Nat} {zs : List Int} {w : World} (h : SlRd cInt S w a p zs) (ht : TabE B w) :
    Calls Tryd.prog 30 #[.agg #[.int .i64 c, .slice a zs.length p]] w fun e w' => e = .returned (.tuple #[strOf (termTextF (c, zs)).1, .bool (termTextF (c, zs)).2]) ∧ Below w.heap.size w w' := by
  have H0 := hid (h.alloc (.cells #[.int .i64 c, .slice a zs.length p] 43))
  have t0 : (w.alloc (.cells #[.int .i64 c, .slice a zs.length p] 43)).cell? ⟨w.heap.size, 0, none⟩ = some (.int .i64 c) := by rw [World.cell?_alloc_at _ _ _ _ rfl]; rfl
  have t1 : (w.alloc (.cells #[.int .i64 c, .slice a zs.length p] 43)).cell? ⟨w.heap.size, 1, none⟩ = some (.slice a zs.length p) := by rw [World.cell?_alloc_at _ _ _ _ rfl]; rfl
  have z0 : w.heap.size < (w.alloc (.cells #[.int .i64 c, .slice a zs.length p] 43)).heap.size := by simp
  have HB0 : Hid (Below w.heap.size w (w.alloc (.cells #[.int .i64 c, .slice a zs.length p] 43))) := (Below.refl _ _).alloc (Nat.le_refl _) _
  have hl := h.len_le
  have HT0 := hid (ht.belows (HB0.out.mono ht.2))
  clear h ht
  obtain ⟨r, hr⟩ : ∃ r, validTerm (c, zs) = r := ⟨_, rfl⟩
  have HR := hid hr
  clear hr
  cases r
  · have HF : Hid (termTextF (c, zs) = ([], false)) := by unfold Hid termTextF; rw [if_neg (by simp [HR.out])]
    go_enter Tryd.func30, Tryd.ntmps30
    go_wp2_with fail
    generalize w.alloc (.cells #[.int .i64 c, .slice a zs.length p] 43) = w1 at *
    refine (c_ValidTerm c a p zs w1 H0.out).mono ?_
    rintro e w2 ⟨rfl, hb2⟩
    rw [HR.out]
    have HB2 := hid (bel_next HB0.out HB0.out.size hb2)
    clear hb2
    go_wp2
    go_ret2
    rw [HF.out]
    exact ⟨rfl, HB2.out⟩
  · have HF : Hid (termTextF (c, zs) = (textF (c, zs), true)) := by unfold Hid termTextF; rw [if_pos HR.out]
    go_enter Tryd.func30, Tryd.ntmps30
    go_wp2_with fail
    generalize w.alloc (.cells #[.int .i64 c, .slice a zs.length p] 43) = w1 at *
    refine (c_ValidTerm c a p zs w1 H0.out).mono ?_
    rintro e w2 ⟨rfl, hb2⟩
    rw [HR.out]
    have HB2 := hid (bel_next HB0.out HB0.out.size hb2)
    have d0 := cell_below hb2 z0 t0
    have d1 := cell_below hb2 z0 t1
    have H2 := hid (H0.out.below (Nat.le_refl _) hb2)
    have HT2 := hid (HT0.out.on hb2)
    clear hb2 t0 t1
    go_wp2_with (go_at_call 76; refine (c_termText H2.out HR.out HT2.out).mono ?_; rintro e w3 ⟨rfl, hb3⟩; have HB3 := hid (bel_next HB2.out HB2.out.size hb3); clear hb3; unfold strOf)
    go_ret2
    rw [HF.out]
    exact ⟨rfl, HB3.out⟩
end Go.Proofs.YtcbaohcgeoaccaaDoor
