/- Contracts: the text of an instruction, whole. -/
import Derived.Test.YtcbaohcgeoaccaaDoorD05
import Derived.Test.YtcbaohcgeoaccaaDoorL07b
import Derived.Test.YtcbaohcgeoaccaaDoorRgH
namespace Go.Proofs.YtcbaohcgeoaccaaDoor
open Go.RowKit

theorem line_yes {x y : Int} (h : argB x = true) : lineF (x, y) = wordF x ++ 32 :: Lib.itoa y := by unfold lineF; rw [if_pos h]
theorem line_no {x y : Int} (h : argB x = false) : lineF (x, y) = wordF x := by unfold lineF; rw [if_neg (by simp [h])]
theorem opw_cell (w : World) (e : TypeId) (k : Nat) (h : k < 12) : (w.drew.alloc (.cells opCells e)).cell? ⟨w.heap.size, k, none⟩ = some (.string ⟨(wordF k).toArray⟩) := by
  rw [show (w.drew.alloc (.cells opCells e)).cell? ⟨w.heap.size, k, none⟩ = (w.drew.alloc (.cells opCells e)).cell? ⟨w.drew.heap.size, k, none⟩ from rfl, World.cell?_alloc_at _ _ _ _ rfl]
  exact opCells_at k h
theorem strOf_add3 (a : List UInt8) (c : UInt8) (b : List UInt8) : Value.string ((⟨a.toArray⟩ ++ ⟨#[c]⟩) ++ ⟨b.toArray⟩ : ByteArray) = strOf (a ++ c :: b) := by
  unfold strOf
  congr 1
  apply ByteArray.ext
  simp
set_option maxRecDepth 100000 in
theorem c_instrText {B : Nat} (x y : Int) (w : World) (h0 : 0 ≤ x) (h1 : x ≤ 11) (hy : I64 y) (ht : TabE B w) :
    Calls Tryd.prog 70 #[.agg #[.int .i64 x, .int .i64 y]] w fun e w' => e = .returned (strOf (lineF (x, y))) ∧ Below w.heap.size w w' := by
  obtain ⟨k, rfl⟩ := Int.eq_ofNat_of_zero_le h0
  obtain ⟨hy1, hy2⟩ := hy
  have HB0 : Hid (Below w.heap.size w (w.alloc (.cells #[.int .i64 k, .int .i64 y] 35))) := (Below.refl _ _).alloc (Nat.le_refl _) _
  have c0 : (w.alloc (.cells #[.int .i64 k, .int .i64 y] 35)).cell? ⟨w.heap.size, 0, none⟩ = some (.int .i64 k) := by rw [World.cell?_alloc_at _ _ _ _ rfl]; rfl
  have c1 : (w.alloc (.cells #[.int .i64 k, .int .i64 y] 35)).cell? ⟨w.heap.size, 1, none⟩ = some (.int .i64 y) := by rw [World.cell?_alloc_at _ _ _ _ rfl]; rfl
  have z0 : w.heap.size < (w.alloc (.cells #[.int .i64 k, .int .i64 y] 35)).heap.size := by simp
  have HT0 := hid (ht.belows (HB0.out.mono ht.2))
  clear ht
  obtain ⟨r, hr⟩ : ∃ r, argB k = r := ⟨_, rfl⟩
  have HR := hid hr
  go_enter Tryd.func70, Tryd.ntmps70
  go_wp2_with fail
  generalize w.alloc (.cells #[.int .i64 k, .int .i64 y] 35) = W0 at *
  refine (c_hasArg _ _).mono ?_
  rintro e w1 ⟨rfl, hb1⟩
  rw [HR.out]
  have HB1 := hid (bel_next HB0.out HB0.out.size hb1)
  have d0 := cell_below hb1 z0 c0
  have d1 := cell_below hb1 z0 c1
  have z1 := Nat.lt_of_lt_of_le z0 hb1.size
  have HT1 := hid (HT0.out.on hb1)
  clear hb1 HB0 HT0 c0 c1 z0
  have i1 : (0 : Int) ≤ (k : Int) := by omega
  have i2 : (k : Int) < 12 := by omega
  cases r
  · have HF := hid (line_no (y := y) hr)
    clear hr
    go_wp2
    refine wp_region_held_drew (S := fun w' => w'.cell? ⟨w.heap.size, 0, none⟩ = some (.int .i64 k)) (by kernel_rfl) d0 (fun hHeld => ?_)
    refine rgH (i := 1) (oi := ?qo1) ?qh1 ?qr1
    case qh1 => (simp only [List.getElem?_toArray, List.getElem?_cons_succ, List.getElem?_cons_zero]; rfl)
    (refine ⟨by kernel_rfl, by kernel_rfl, by kernel_rfl, by assumption, ?qv1, fun _ _ _ h => h, Or.inl ⟨by kernel_rfl, ?qy1⟩, ?qn1⟩; case qy1 => (intro w hSw; (try dsimp only at hSw); go_simp; try with_reducible rfl))
    (try simp only [Act.put, List.setIfInBounds_toArray, List.set_cons_zero, List.set_cons_succ])
    refine rgH (i := 2) (oi := ?qo2) ?qh2 ?qr2
    case qh2 => (simp only [List.getElem?_toArray, List.getElem?_cons_succ, List.getElem?_cons_zero]; rfl)
    (refine ⟨by kernel_rfl, by kernel_rfl, by kernel_rfl, by assumption, ?qv2, fun _ _ _ h => h, Or.inl ⟨by kernel_rfl, ?qy2⟩, ?qn2⟩; case qy2 => (intro w hSw; (try dsimp only at hSw); go_simp; try with_reducible rfl))
    (try simp only [Act.put, List.setIfInBounds_toArray, List.set_cons_zero, List.set_cons_succ])
    refine wpAnyH_ready (rs := [0]) (by kernel_rfl) (by simp) ?_
    refine rgHcall (i := 0) (o := ?qo3) ?qh3 ?qk3
    case qh3 => (simp only [List.getElem?_toArray, List.getElem?_cons_succ, List.getElem?_cons_zero]; rfl)
    intro K hK
    go_simp
    (go_at_call 101; refine (c_opWords _).mono ?_; rintro e w2 ⟨rfl, rfl⟩; have hbx : Below w1.heap.size w1 (w1.drew.alloc (.cells opCells 9)) := ((Below.refl _ _).drew).alloc (Nat.le_refl _) _; have kk1 := cell_below hbx z1 d0; have e1 := opw_cell w1 9 k (by omega); have HB2 := hid (bel_next HB1.out HB1.out.size hbx); clear hbx)
    refine hK.out _ _ kk1 (fun hHeld => ?_)
    clear hK K
    generalize w1.drew.alloc (.cells opCells 9) = w2 at *
    refine wpAnyH_strong (S' := fun w' => w'.cell? ⟨w.heap.size, 0, none⟩ = some (.int .i64 k) ∧ w'.cell? ⟨w1.heap.size, k, none⟩ = some (.string ⟨(wordF k).toArray⟩)) (fun _ h => h.1) _ _ _ _ ?_
    have hHeld2 := And.intro kk1 e1
    clear hHeld
    refine rgH (i := 3) (oi := ?qo4) ?qh4 ?qr4
    case qh4 => (simp only [List.getElem?_toArray, List.getElem?_cons_succ, List.getElem?_cons_zero]; rfl)
    (refine ⟨by kernel_rfl, by kernel_rfl, by kernel_rfl, by assumption, ?qv4, fun _ _ _ h => h, Or.inl ⟨by kernel_rfl, ?qy4⟩, ?qn4⟩; case qy4 => (intro w hSw; (try dsimp only at hSw); go_simp; try with_reducible rfl))
    (try simp only [Act.put, List.setIfInBounds_toArray, List.set_cons_zero, List.set_cons_succ])
    refine rgH (i := 4) (oi := ?qo5) ?qh5 ?qr5
    case qh5 => (simp only [List.getElem?_toArray, List.getElem?_cons_succ, List.getElem?_cons_zero]; rfl)
    (refine ⟨by kernel_rfl, by kernel_rfl, by kernel_rfl, by assumption, ?qv5, fun _ _ _ h => h, Or.inl ⟨by kernel_rfl, ?qy5⟩, ?qn5⟩; case qy5 => (intro w hSw; (try dsimp only at hSw); go_simp; try with_reducible rfl))
    (try simp only [Act.put, List.setIfInBounds_toArray, List.set_cons_zero, List.set_cons_succ])
    refine rgH (i := 5) (oi := ?qo6) ?qh6 ?qr6
    case qh6 => (simp only [List.getElem?_toArray, List.getElem?_cons_succ, List.getElem?_cons_zero]; rfl)
    (refine ⟨by kernel_rfl, by kernel_rfl, by kernel_rfl, by assumption, ?qv6, fun _ _ _ h => h, Or.inl ⟨by kernel_rfl, ?qy6⟩, ?qn6⟩; case qy6 => (intro w hSw; (try dsimp only at hSw); go_simp; try with_reducible rfl))
    (try simp only [Act.put, List.setIfInBounds_toArray, List.set_cons_zero, List.set_cons_succ])
    refine wpAnyH_done (by kernel_rfl) ?_ _
    go_wp2
    go_ret
    rw [HF.out]
    exact ⟨rfl, HB2.out⟩
  · have HF := hid (line_yes (y := y) hr)
    clear hr
    have hw5 := opW_len k
    have hi21 := Lib.itoa_length_le y hy1 hy2
    go_wp2
    refine wp_region_held_drew (S := fun w' => w'.cell? ⟨w.heap.size, 0, none⟩ = some (.int .i64 k) ∧ w'.cell? ⟨w.heap.size, 1, none⟩ = some (.int .i64 y)) (by kernel_rfl) ⟨d0, d1⟩ (fun hHeld => ?_)
    refine rgH (i := 1) (oi := ?qo7) ?qh7 ?qr7
    case qh7 => (simp only [List.getElem?_toArray, List.getElem?_cons_succ, List.getElem?_cons_zero]; rfl)
    (refine ⟨by kernel_rfl, by kernel_rfl, by kernel_rfl, by assumption, ?qv7, fun _ _ _ h => h, Or.inl ⟨by kernel_rfl, ?qy7⟩, ?qn7⟩; case qy7 => (intro w hSw; (try dsimp only at hSw); go_simp; try with_reducible rfl))
    (try simp only [Act.put, List.setIfInBounds_toArray, List.set_cons_zero, List.set_cons_succ])
    refine rgH (i := 2) (oi := ?qo8) ?qh8 ?qr8
    case qh8 => (simp only [List.getElem?_toArray, List.getElem?_cons_succ, List.getElem?_cons_zero]; rfl)
    (refine ⟨by kernel_rfl, by kernel_rfl, by kernel_rfl, by assumption, ?qv8, fun _ _ _ h => h, Or.inl ⟨by kernel_rfl, ?qy8⟩, ?qn8⟩; case qy8 => (intro w hSw; (try dsimp only at hSw); go_simp; try with_reducible rfl))
    (try simp only [Act.put, List.setIfInBounds_toArray, List.set_cons_zero, List.set_cons_succ])
    refine rgH (i := 6) (oi := ?qo9) ?qh9 ?qr9
    case qh9 => (simp only [List.getElem?_toArray, List.getElem?_cons_succ, List.getElem?_cons_zero]; rfl)
    (refine ⟨by kernel_rfl, by kernel_rfl, by kernel_rfl, by assumption, ?qv9, fun _ _ _ h => h, Or.inl ⟨by kernel_rfl, ?qy9⟩, ?qn9⟩; case qy9 => (intro w hSw; (try dsimp only at hSw); go_simp; try with_reducible rfl))
    (try simp only [Act.put, List.setIfInBounds_toArray, List.set_cons_zero, List.set_cons_succ])
    refine rgH (i := 7) (oi := ?qo10) ?qh10 ?qr10
    case qh10 => (simp only [List.getElem?_toArray, List.getElem?_cons_succ, List.getElem?_cons_zero]; rfl)
    (refine ⟨by kernel_rfl, by kernel_rfl, by kernel_rfl, by assumption, ?qv10, fun _ _ _ h => h, Or.inl ⟨by kernel_rfl, ?qy10⟩, ?qn10⟩; case qy10 => (intro w hSw; (try dsimp only at hSw); go_simp; try with_reducible rfl))
    (try simp only [Act.put, List.setIfInBounds_toArray, List.set_cons_zero, List.set_cons_succ])
    refine wpAnyH_ready (rs := [0]) (by kernel_rfl) (by simp) ?_
    refine rgHcall (i := 0) (o := ?qo11) ?qh11 ?qk11
    case qh11 => (simp only [List.getElem?_toArray, List.getElem?_cons_succ, List.getElem?_cons_zero]; rfl)
    intro K hK
    go_simp
    (go_at_call 101; refine (c_opWords _).mono ?_; rintro e w2 ⟨rfl, rfl⟩; have hbx : Below w1.heap.size w1 (w1.drew.alloc (.cells opCells 9)) := ((Below.refl _ _).drew).alloc (Nat.le_refl _) _; have kk1 := And.intro (cell_below hbx z1 d0) (cell_below hbx z1 d1); have z2 := Nat.lt_of_lt_of_le z1 hbx.size; have e1 := opw_cell w1 9 k (by omega); have q2 : w1.heap.size < (w1.drew.alloc (.cells opCells 9)).heap.size := (by simp); have HB2 := hid (bel_next HB1.out HB1.out.size hbx); have HT2 := hid (HT1.out.on hbx); clear hbx)
    refine hK.out _ _ kk1 (fun hHeld => ?_)
    clear hK K
    generalize w1.drew.alloc (.cells opCells 9) = w2 at *
    refine wpAnyH_strong (S' := fun w' => (w'.cell? ⟨w.heap.size, 0, none⟩ = some (.int .i64 k) ∧ w'.cell? ⟨w.heap.size, 1, none⟩ = some (.int .i64 y)) ∧ w'.cell? ⟨w1.heap.size, k, none⟩ = some (.string ⟨(wordF k).toArray⟩)) (fun _ h => h.1) _ _ _ _ ?_
    have hHeld2 := And.intro kk1 e1
    clear hHeld
    have n1 : ¬ 9223372036854775807 < (wordF k).length + 1 := by omega
    have n2 : ¬ 9223372036854775807 < (wordF k).length + 1 + (Lib.itoa y).length := by omega
    refine rgH (i := 3) (oi := ?qo12) ?qh12 ?qr12
    case qh12 => (simp only [List.getElem?_toArray, List.getElem?_cons_succ, List.getElem?_cons_zero]; rfl)
    (refine ⟨by kernel_rfl, by kernel_rfl, by kernel_rfl, by assumption, ?qv12, fun _ _ _ h => h, Or.inl ⟨by kernel_rfl, ?qy12⟩, ?qn12⟩; case qy12 => (intro w hSw; (try dsimp only at hSw); go_simp; try with_reducible rfl))
    (try simp only [Act.put, List.setIfInBounds_toArray, List.set_cons_zero, List.set_cons_succ])
    refine rgH (i := 4) (oi := ?qo13) ?qh13 ?qr13
    case qh13 => (simp only [List.getElem?_toArray, List.getElem?_cons_succ, List.getElem?_cons_zero]; rfl)
    (refine ⟨by kernel_rfl, by kernel_rfl, by kernel_rfl, by assumption, ?qv13, fun _ _ _ h => h, Or.inl ⟨by kernel_rfl, ?qy13⟩, ?qn13⟩; case qy13 => (intro w hSw; (try dsimp only at hSw); go_simp; try with_reducible rfl))
    (try simp only [Act.put, List.setIfInBounds_toArray, List.set_cons_zero, List.set_cons_succ])
    refine rgH (i := 5) (oi := ?qo14) ?qh14 ?qr14
    case qh14 => (simp only [List.getElem?_toArray, List.getElem?_cons_succ, List.getElem?_cons_zero]; rfl)
    (refine ⟨by kernel_rfl, by kernel_rfl, by kernel_rfl, by assumption, ?qv14, fun _ _ _ h => h, Or.inl ⟨by kernel_rfl, ?qy14⟩, ?qn14⟩; case qy14 => (intro w hSw; (try dsimp only at hSw); go_simp; try with_reducible rfl))
    (try simp only [Act.put, List.setIfInBounds_toArray, List.set_cons_zero, List.set_cons_succ])
    refine wpAnyH_ready (rs := [8]) (by kernel_rfl) (by simp) ?_
    refine rgHcall (i := 8) (o := ?qo15) ?qh15 ?qk15
    case qh15 => (simp only [List.getElem?_toArray, List.getElem?_cons_succ, List.getElem?_cons_zero]; rfl)
    intro K hK
    go_simp
    (go_at_call 16; refine (c_Decimal _ _ hy1 hy2 HT2.out).mono ?_; rintro e w3 ⟨rfl, hb3⟩; unfold strOf; have kk2 := And.intro (And.intro (cell_below hb3 z2 kk1.1) (cell_below hb3 z2 kk1.2)) (cell_below hb3 q2 e1); have HB3 := hid (bel_next HB2.out HB2.out.size hb3); clear hb3)
    refine hK.out _ _ kk2 (fun hHeld => ?_)
    clear hK K
    refine rgH (i := 9) (oi := ?qo16) ?qh16 ?qr16
    case qh16 => (simp only [List.getElem?_toArray, List.getElem?_cons_succ, List.getElem?_cons_zero]; rfl)
    (refine ⟨by kernel_rfl, by kernel_rfl, by kernel_rfl, by assumption, ?qv16, fun _ _ _ h => h, Or.inl ⟨by kernel_rfl, ?qy16⟩, ?qn16⟩; case qy16 => (intro w hSw; (try dsimp only at hSw); go_simp; try with_reducible rfl))
    (try simp only [Act.put, List.setIfInBounds_toArray, List.set_cons_zero, List.set_cons_succ])
    refine rgH (i := 10) (oi := ?qo17) ?qh17 ?qr17
    case qh17 => (simp only [List.getElem?_toArray, List.getElem?_cons_succ, List.getElem?_cons_zero]; rfl)
    (refine ⟨by kernel_rfl, by kernel_rfl, by kernel_rfl, by assumption, ?qv17, fun _ _ _ h => h, Or.inl ⟨by kernel_rfl, ?qy17⟩, ?qn17⟩; case qy17 => (intro w hSw; (try dsimp only at hSw); go_simp; try with_reducible rfl))
    (try simp only [Act.put, List.setIfInBounds_toArray, List.set_cons_zero, List.set_cons_succ])
    refine wpAnyH_done (by kernel_rfl) ?_ _
    go_wp2
    go_ret
    rw [HF.out]
    exact ⟨congrArg Ending.returned (strOf_add3 _ _ _), HB3.out⟩
set_option maxRecDepth 100000 in
theorem c_l07Line (x y : Int) (w : World) (h0 : 0 ≤ x) (h1 : x ≤ 11) (hy : I64 y) :
    Calls Tryd.prog 68 #[.agg #[.int .i64 x, .int .i64 y]] w fun e w' => e = .returned (strOf (lineF (x, y))) ∧ Below w.heap.size w w' := by
  obtain ⟨k, rfl⟩ := Int.eq_ofNat_of_zero_le h0
  obtain ⟨hy1, hy2⟩ := hy
  have HB0 : Hid (Below w.heap.size w (w.alloc (.cells #[.int .i64 k, .int .i64 y] 35))) := (Below.refl _ _).alloc (Nat.le_refl _) _
  have c0 : (w.alloc (.cells #[.int .i64 k, .int .i64 y] 35)).cell? ⟨w.heap.size, 0, none⟩ = some (.int .i64 k) := by rw [World.cell?_alloc_at _ _ _ _ rfl]; rfl
  have c1 : (w.alloc (.cells #[.int .i64 k, .int .i64 y] 35)).cell? ⟨w.heap.size, 1, none⟩ = some (.int .i64 y) := by rw [World.cell?_alloc_at _ _ _ _ rfl]; rfl
  have z0 : w.heap.size < (w.alloc (.cells #[.int .i64 k, .int .i64 y] 35)).heap.size := by simp
  obtain ⟨r, hr⟩ : ∃ r, argB k = r := ⟨_, rfl⟩
  have HR := hid hr
  go_enter Tryd.func68, Tryd.ntmps68
  go_wp2_with fail
  generalize w.alloc (.cells #[.int .i64 k, .int .i64 y] 35) = w1 at *
  refine (c_l07Args _ _).mono ?_
  rintro e w' ⟨rfl, rfl⟩
  rw [HR.out]
  have i1 : (0 : Int) ≤ (k : Int) := by omega
  have i2 : (k : Int) < 12 := by omega
  cases r
  · have HF := hid (line_no (y := y) hr)
    clear hr
    go_wp2_with (go_at_call 112; refine (c_l07Word _ _ h0 h1).mono ?_; rintro e w2 ⟨rfl, hb⟩; have HB2 := hid (bel_next HB0.out HB0.out.size hb); clear hb)
    go_ret
    rw [HF.out]
    exact ⟨rfl, HB2.out⟩
  · have HF := hid (line_yes (y := y) hr)
    clear hr
    have hw5 := opW_len k
    have hi21 := Lib.itoa_length_le y hy1 hy2
    have n1 : ¬ 9223372036854775807 < (wordF k).length + 1 := by omega
    have n2 : ¬ 9223372036854775807 < (wordF k).length + 1 + (Lib.itoa y).length := by omega
    go_wp2
    go_region_held3 (fun w' => w'.cell? ⟨w.heap.size, 0, none⟩ = some (.int .i64 k) ∧ w'.cell? ⟨w.heap.size, 1, none⟩ = some (.int .i64 y)) (first | exact ⟨c0, c1⟩ | exact kk1 | exact kk2) (first | (go_at_call 112; refine (c_l07Word _ _ h0 h1).mono ?_; rintro e w2 ⟨rfl, hb1⟩; unfold strOf; have kk1 := And.intro (cell_below hb1 z0 c0) (cell_below hb1 z0 c1); have z2 := Nat.lt_of_lt_of_le z0 hb1.size; have HB2 := hid (bel_next HB0.out.drew HB0.out.drew.size hb1); clear hb1) | (go_at_call 61; refine (c_l01Dec _ _ hy1 hy2).mono ?_; rintro e w3 ⟨rfl, hb3⟩; unfold strOf; have kk2 := And.intro (cell_below hb3 z2 kk1.1) (cell_below hb3 z2 kk1.2); have HB3 := hid (bel_next HB2.out HB2.out.size hb3); clear hb3))
    all_goals
      go_wp2
      go_ret
      rw [HF.out]
      exact ⟨congrArg Ending.returned (strOf_add3 _ _ _), HB3.out⟩
def instrTextF (x : Instr) : List UInt8 × Bool := if validI x then (lineF x, true) else ([], false)
theorem validI_op {x : Instr} (h : validI x = true) : 0 ≤ x.1 ∧ x.1 ≤ 11 := by
  obtain ⟨op, arg⟩ := x
  unfold validI at h
  simp only at h ⊢
  split at h
  · omega
  · split at h
    · omega
    · split at h
      · omega
      · split at h
        · omega
        · split at h
          · omega
          · cases h
theorem c_sInstrText (x y : Int) (w : World) (hy : I64 y) :
    Calls Tryd.prog 24 #[.agg #[.int .i64 x, .int .i64 y]] w fun e w' => e = .returned (.tuple #[strOf (instrTextF (x, y)).1, .bool (instrTextF (x, y)).2]) ∧ Below w.heap.size w w' := by
  have HB0 : Hid (Below w.heap.size w (w.alloc (.cells #[.int .i64 x, .int .i64 y] 35))) := (Below.refl _ _).alloc (Nat.le_refl _) _
  have c0 : (w.alloc (.cells #[.int .i64 x, .int .i64 y] 35)).cell? ⟨w.heap.size, 0, none⟩ = some (.int .i64 x) := by rw [World.cell?_alloc_at _ _ _ _ rfl]; rfl
  have c1 : (w.alloc (.cells #[.int .i64 x, .int .i64 y] 35)).cell? ⟨w.heap.size, 1, none⟩ = some (.int .i64 y) := by rw [World.cell?_alloc_at _ _ _ _ rfl]; rfl
  have z0 : w.heap.size < (w.alloc (.cells #[.int .i64 x, .int .i64 y] 35)).heap.size := by simp
  obtain ⟨r, hr⟩ : ∃ r, validI (x, y) = r := ⟨_, rfl⟩
  have HR := hid hr
  go_enter Tryd.func24, Tryd.ntmps24
  go_wp2_with fail
  generalize w.alloc (.cells #[.int .i64 x, .int .i64 y] 35) = w1 at *
  refine (c_l07Instr _ _ _).mono ?_
  rintro e w2 ⟨rfl, hb1⟩
  rw [HR.out]
  have HB1 := hid (bel_next HB0.out HB0.out.size hb1)
  have d0 := cell_below hb1 z0 c0
  have d1 := cell_below hb1 z0 c1
  clear hb1 c0 c1
  cases r
  · have HF : Hid (instrTextF (x, y) = ([], false)) := by unfold Hid instrTextF; rw [if_neg (by simp [hr])]
    clear hr
    go_wp2
    go_ret2
    rw [HF.out]
    exact ⟨rfl, HB1.out⟩
  · have HF : Hid (instrTextF (x, y) = (lineF (x, y), true)) := by unfold Hid instrTextF; rw [if_pos hr]
    obtain ⟨h0, h1⟩ := validI_op hr
    simp only at h0 h1
    clear hr
    go_wp2_with (go_at_call 68; refine (c_l07Line _ _ _ h0 h1 hy).mono ?_; rintro e w3 ⟨rfl, hb2⟩; have HB2 := hid (bel_next HB1.out HB1.out.size hb2); clear hb2; unfold strOf)
    go_ret2
    rw [HF.out]
    exact ⟨rfl, HB2.out⟩
theorem c_InstrText {B : Nat} (x y : Int) (w : World) (hy : I64 y) (ht : TabE B w) :
    Calls Tryd.prog 26 #[.agg #[.int .i64 x, .int .i64 y]] w fun e w' => e = .returned (.tuple #[strOf (instrTextF (x, y)).1, .bool (instrTextF (x, y)).2]) ∧ Below w.heap.size w w' := by
  have HB0 : Hid (Below w.heap.size w (w.alloc (.cells #[.int .i64 x, .int .i64 y] 35))) := (Below.refl _ _).alloc (Nat.le_refl _) _
  have c0 : (w.alloc (.cells #[.int .i64 x, .int .i64 y] 35)).cell? ⟨w.heap.size, 0, none⟩ = some (.int .i64 x) := by rw [World.cell?_alloc_at _ _ _ _ rfl]; rfl
  have c1 : (w.alloc (.cells #[.int .i64 x, .int .i64 y] 35)).cell? ⟨w.heap.size, 1, none⟩ = some (.int .i64 y) := by rw [World.cell?_alloc_at _ _ _ _ rfl]; rfl
  have z0 : w.heap.size < (w.alloc (.cells #[.int .i64 x, .int .i64 y] 35)).heap.size := by simp
  obtain ⟨r, hr⟩ : ∃ r, validI (x, y) = r := ⟨_, rfl⟩
  have HR := hid hr
  have HT0 := hid (ht.belows (HB0.out.mono ht.2))
  clear ht
  go_enter Tryd.func26, Tryd.ntmps26
  go_wp2_with fail
  generalize w.alloc (.cells #[.int .i64 x, .int .i64 y] 35) = w1 at *
  refine (c_ValidInstr _ _ _).mono ?_
  rintro e w2 ⟨rfl, hb1⟩
  rw [HR.out]
  have HB1 := hid (bel_next HB0.out HB0.out.size hb1)
  have d0 := cell_below hb1 z0 c0
  have d1 := cell_below hb1 z0 c1
  have HT1 := hid (HT0.out.on hb1)
  clear hb1 c0 c1
  cases r
  · have HF : Hid (instrTextF (x, y) = ([], false)) := by unfold Hid instrTextF; rw [if_neg (by simp [hr])]
    clear hr
    go_wp2
    go_ret2
    rw [HF.out]
    exact ⟨rfl, HB1.out⟩
  · have HF : Hid (instrTextF (x, y) = (lineF (x, y), true)) := by unfold Hid instrTextF; rw [if_pos hr]
    obtain ⟨h0, h1⟩ := validI_op hr
    simp only at h0 h1
    clear hr
    go_wp2_with (go_at_call 70; refine (c_instrText _ _ _ h0 h1 hy HT1.out).mono ?_; rintro e w3 ⟨rfl, hb2⟩; have HB2 := hid (bel_next HB1.out HB1.out.size hb2); clear hb2; unfold strOf)
    go_ret2
    rw [HF.out]
    exact ⟨rfl, HB2.out⟩
end Go.Proofs.YtcbaohcgeoaccaaDoor
