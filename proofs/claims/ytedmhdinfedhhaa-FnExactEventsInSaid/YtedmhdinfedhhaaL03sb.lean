/- Contracts: statements as they should be, the reference's side. -/
import Derived.Test.YtedmhdinfedhhaaL03k
import Derived.Test.YtedmhdinfedhhaaL05s
import Derived.Test.YtedmhdinfedhhaaL03sa
namespace Go.Proofs.Ytedmhdinfedhhaa
open Go.RowKit
set_option maxHeartbeats 2000000 in
set_option maxRecDepth 100000 in
theorem c_stmt5 {S : Nat → Prop} {b o : Nat} {d1 d2 d3 : Int} {a4 : Option Addr} {p4 : Nat} {d4 : List Int} {d5 : Int} {a6 : Option Addr} {p6 : Nat} {d6 : List Int} {a7 : Option Addr} {p7 : Nat} {d7 : List Term} {w : World} (h4 : SlRd cInt S w a4 p4 d4) (h6 : SlRd cInt S w a6 p6 d6) (h7 : SlRd cTerm S w a7 p7 d7)
    (t0 : w.cell? ⟨b, o, none⟩ = some (.int .i64 (5 : Int)))
    (t1 : w.cell? ⟨b, o + 1, none⟩ = some (.int .i64 d1))
    (t2 : w.cell? ⟨b, o + 2, none⟩ = some (.int .i64 d2))
    (t3 : w.cell? ⟨b, o + 3, none⟩ = some (.int .i64 d3))
    (t4 : w.cell? ⟨b, o + 4, none⟩ = some (.slice a4 d4.length p4))
    (t5 : w.cell? ⟨b, o + 5, none⟩ = some (.int .i64 d5))
    (t6 : w.cell? ⟨b, o + 6, none⟩ = some (.slice a6 d6.length p6))
    (t7 : w.cell? ⟨b, o + 7, none⟩ = some (.slice a7 d7.length p7)) :
    Calls Try.prog 160 #[.pointer (some ⟨b, o, none⟩)] w fun e w' => e = .returned (.bool (stmtOk (5, d1, d2, (d3, d4), (d5, d6), d7))) ∧ w = w' := by
  have hl7 := h7.len_le
  have HS := hid (c_l03Term b (o + 3) d3 a4 p4 d4 w t3 t4 h4)
  have HX := hid (c_l03Term b (o + 5) d5 a6 p6 d6 w t5 t6 h6)
  have HT := hid (c_l03Terms a7 p7 d7 6 w h7)
  have HZ := hid (c_l05Zero b (o + 3) d3 a4 p4 d4.length w t3 t4)
  have HY := hid (c_l05Zero b (o + 5) d5 a6 p6 d6.length w t5 t6)
  clear h4 h6 h7
  have HF0 : Hid (stmtOk (5, d1, d2, (d3, d4), (d5, d6), d7) = (((((d1 == 0) && inB d2 0 3) && (d3 == 0 && ((d4.length : Int) == 0))) && (d5 == 0 && ((d6.length : Int) == 0))) && ((d7.length : Int) == 0))) := rfl
  have HK : Hid (inB 5 0 8 = true) := rfl
  have hZs := @zero_over d3 d4
  have hXs := @zero_over d5 d6
  have hFf : ((d7.length : Int) == 0) = true → areOverF d7 6 = true := by intro h; obtain rfl : d7 = [] := List.eq_nil_of_length_eq_zero (by rw [beq_iff_eq] at h; omega); rfl
  obtain ⟨s, hs⟩ : ∃ s, overT (d3, d4) = s := ⟨_, rfl⟩
  obtain ⟨x, hx⟩ : ∃ x, overT (d5, d6) = x := ⟨_, rfl⟩
  obtain ⟨f, hf⟩ : ∃ f, areOverF d7 6 = f := ⟨_, rfl⟩
  obtain ⟨Z, hZ⟩ : ∃ Z, (d3 == 0 && ((d4.length : Int) == 0)) = Z := ⟨_, rfl⟩
  obtain ⟨X, hX⟩ : ∃ X, (d5 == 0 && ((d6.length : Int) == 0)) = X := ⟨_, rfl⟩
  obtain ⟨F, hF⟩ : ∃ F, ((d7.length : Int) == 0) = F := ⟨_, rfl⟩
  have Hs := hid hs
  have Hx := hid hx
  have Hf := hid hf
  have HZv := hid hZ
  have HXv := hid hX
  rw [hs, hZ] at hZs
  rw [hx, hX] at hXs
  rw [hf, hF] at hFf
  obtain ⟨e, he⟩ : ∃ e, inB d2 0 3 = e := ⟨_, rfl⟩
  have He := hid he
  rw [hZ, hX, hF, he] at HF0
  have hlen : (F = true ∧ decide ((0 : Int) < (d7.length : Int)) = false ∧ decide (0 < d7.length) = false) ∨ (F = false ∧ decide ((0 : Int) < (d7.length : Int)) = true ∧ decide (0 < d7.length) = true) := by
    rcases Nat.eq_zero_or_pos d7.length with h | h
    · exact .inl ⟨by rw [← hF, beq_iff_eq]; omega, decide_eq_false (by omega), decide_eq_false (by omega)⟩
    · exact .inr ⟨by rw [← hF, beq_eq_false_iff_ne]; omega, decide_eq_true (by omega), decide_eq_true (by omega)⟩
  clear hs hx hf hZ hX hF he
  have HI := hid (And.intro hZs (And.intro hXs hFf))
  clear hZs hXs hFf
  rcases hlen with ⟨hF, g1, g2⟩ | ⟨hF, g1, g2⟩
  all_goals
    by_cases hV : d1 = 0
    all_goals
      have gV1 : (d1 == 0) = decide (d1 = 0) := by rw [Bool.eq_iff_iff]; simp
      have gV2 : (d1 != 0) = !decide (d1 = 0) := by rw [← gV1]; rfl
      simp only [hV, decide_true, decide_false, Bool.not_true, Bool.not_false] at gV1 gV2
      go_enter Try.func160, Try.ntmps160
      go_wp2_with (first | (go_at_call 68; refine (c_l00In _ _ _ _).mono ?_; rintro e' w' ⟨rfl, rfl⟩; first | rw [HK.out] | rw [He.out]) | (have hkk := mk1; clear hkk; go_at_call 159; refine HX.out.mono ?_; rintro e' w' ⟨rfl, rfl⟩; rw [Hx.out]) | (go_at_call 159; refine HS.out.mono ?_; rintro e' w' ⟨rfl, rfl⟩; rw [Hs.out]; have mk1 := HK) | (go_at_call 139; refine HT.out.mono ?_; rintro e' w' ⟨rfl, rfl⟩; rw [Hf.out]) | (have hkk := mk2; clear hkk; go_at_call 179; refine HY.out.mono ?_; rintro e' w' ⟨rfl, rfl⟩; rw [HXv.out]) | (go_at_call 179; refine HZ.out.mono ?_; rintro e' w' ⟨rfl, rfl⟩; rw [HZv.out]; have mk2 := HK))
      all_goals
        go_ret
        refine ⟨ret_bool ?_, rfl⟩
        rw [HF0.out]
        obtain ⟨hZs, hXs, hFf⟩ := HI.out
        simp_all
set_option maxHeartbeats 2000000 in
set_option maxRecDepth 100000 in
theorem c_stmt6 {S : Nat → Prop} {b o : Nat} {d1 d2 d3 : Int} {a4 : Option Addr} {p4 : Nat} {d4 : List Int} {d5 : Int} {a6 : Option Addr} {p6 : Nat} {d6 : List Int} {a7 : Option Addr} {p7 : Nat} {d7 : List Term} {w : World} (h4 : SlRd cInt S w a4 p4 d4) (h6 : SlRd cInt S w a6 p6 d6) (h7 : SlRd cTerm S w a7 p7 d7)
    (t0 : w.cell? ⟨b, o, none⟩ = some (.int .i64 (6 : Int)))
    (t1 : w.cell? ⟨b, o + 1, none⟩ = some (.int .i64 d1))
    (t2 : w.cell? ⟨b, o + 2, none⟩ = some (.int .i64 d2))
    (t3 : w.cell? ⟨b, o + 3, none⟩ = some (.int .i64 d3))
    (t4 : w.cell? ⟨b, o + 4, none⟩ = some (.slice a4 d4.length p4))
    (t5 : w.cell? ⟨b, o + 5, none⟩ = some (.int .i64 d5))
    (t6 : w.cell? ⟨b, o + 6, none⟩ = some (.slice a6 d6.length p6))
    (t7 : w.cell? ⟨b, o + 7, none⟩ = some (.slice a7 d7.length p7)) :
    Calls Try.prog 160 #[.pointer (some ⟨b, o, none⟩)] w fun e w' => e = .returned (.bool (stmtOk (6, d1, d2, (d3, d4), (d5, d6), d7))) ∧ w = w' := by
  have hl7 := h7.len_le
  have HS := hid (c_l03Term b (o + 3) d3 a4 p4 d4 w t3 t4 h4)
  have HX := hid (c_l03Term b (o + 5) d5 a6 p6 d6 w t5 t6 h6)
  have HT := hid (c_l03Terms a7 p7 d7 6 w h7)
  have HZ := hid (c_l05Zero b (o + 3) d3 a4 p4 d4.length w t3 t4)
  have HY := hid (c_l05Zero b (o + 5) d5 a6 p6 d6.length w t5 t6)
  clear h4 h6 h7
  have HF0 : Hid (stmtOk (6, d1, d2, (d3, d4), (d5, d6), d7) = (((((d1 == 0) && (d2 == 0)) && overT (d3, d4)) && (d5 == 0 && ((d6.length : Int) == 0))) && ((d7.length : Int) == 0))) := rfl
  have HK : Hid (inB 6 0 8 = true) := rfl
  have hZs := @zero_over d3 d4
  have hXs := @zero_over d5 d6
  have hFf : ((d7.length : Int) == 0) = true → areOverF d7 6 = true := by intro h; obtain rfl : d7 = [] := List.eq_nil_of_length_eq_zero (by rw [beq_iff_eq] at h; omega); rfl
  obtain ⟨s, hs⟩ : ∃ s, overT (d3, d4) = s := ⟨_, rfl⟩
  obtain ⟨x, hx⟩ : ∃ x, overT (d5, d6) = x := ⟨_, rfl⟩
  obtain ⟨f, hf⟩ : ∃ f, areOverF d7 6 = f := ⟨_, rfl⟩
  obtain ⟨Z, hZ⟩ : ∃ Z, (d3 == 0 && ((d4.length : Int) == 0)) = Z := ⟨_, rfl⟩
  obtain ⟨X, hX⟩ : ∃ X, (d5 == 0 && ((d6.length : Int) == 0)) = X := ⟨_, rfl⟩
  obtain ⟨F, hF⟩ : ∃ F, ((d7.length : Int) == 0) = F := ⟨_, rfl⟩
  have Hs := hid hs
  have Hx := hid hx
  have Hf := hid hf
  have HZv := hid hZ
  have HXv := hid hX
  rw [hs, hZ] at hZs
  rw [hx, hX] at hXs
  rw [hf, hF] at hFf
  rw [hX, hs, hF] at HF0
  have hlen : (F = true ∧ decide ((0 : Int) < (d7.length : Int)) = false ∧ decide (0 < d7.length) = false) ∨ (F = false ∧ decide ((0 : Int) < (d7.length : Int)) = true ∧ decide (0 < d7.length) = true) := by
    rcases Nat.eq_zero_or_pos d7.length with h | h
    · exact .inl ⟨by rw [← hF, beq_iff_eq]; omega, decide_eq_false (by omega), decide_eq_false (by omega)⟩
    · exact .inr ⟨by rw [← hF, beq_eq_false_iff_ne]; omega, decide_eq_true (by omega), decide_eq_true (by omega)⟩
  clear hs hx hf hZ hX hF
  have HI := hid (And.intro hZs (And.intro hXs hFf))
  clear hZs hXs hFf
  rcases hlen with ⟨hF, g1, g2⟩ | ⟨hF, g1, g2⟩
  all_goals
    by_cases hV : d1 = 0
    all_goals
      have gV1 : (d1 == 0) = decide (d1 = 0) := by rw [Bool.eq_iff_iff]; simp
      have gV2 : (d1 != 0) = !decide (d1 = 0) := by rw [← gV1]; rfl
      simp only [hV, decide_true, decide_false, Bool.not_true, Bool.not_false] at gV1 gV2
      go_enter Try.func160, Try.ntmps160
      go_wp2_with (first | (go_at_call 68; refine (c_l00In _ _ _ _).mono ?_; rintro e' w' ⟨rfl, rfl⟩; first | rw [HK.out]) | (have hkk := mk1; clear hkk; go_at_call 159; refine HX.out.mono ?_; rintro e' w' ⟨rfl, rfl⟩; rw [Hx.out]) | (go_at_call 159; refine HS.out.mono ?_; rintro e' w' ⟨rfl, rfl⟩; rw [Hs.out]; have mk1 := HK) | (go_at_call 139; refine HT.out.mono ?_; rintro e' w' ⟨rfl, rfl⟩; rw [Hf.out]) | (go_at_call 179; refine HY.out.mono ?_; rintro e' w' ⟨rfl, rfl⟩; rw [HXv.out]))
      all_goals
        go_ret
        refine ⟨ret_bool ?_, rfl⟩
        rw [HF0.out]
        obtain ⟨hZs, hXs, hFf⟩ := HI.out
        simp_all
set_option maxHeartbeats 2000000 in
set_option maxRecDepth 100000 in
theorem c_stmt7 {S : Nat → Prop} {b o : Nat} {d1 d2 d3 : Int} {a4 : Option Addr} {p4 : Nat} {d4 : List Int} {d5 : Int} {a6 : Option Addr} {p6 : Nat} {d6 : List Int} {a7 : Option Addr} {p7 : Nat} {d7 : List Term} {w : World} (h4 : SlRd cInt S w a4 p4 d4) (h6 : SlRd cInt S w a6 p6 d6) (h7 : SlRd cTerm S w a7 p7 d7)
    (t0 : w.cell? ⟨b, o, none⟩ = some (.int .i64 (7 : Int)))
    (t1 : w.cell? ⟨b, o + 1, none⟩ = some (.int .i64 d1))
    (t2 : w.cell? ⟨b, o + 2, none⟩ = some (.int .i64 d2))
    (t3 : w.cell? ⟨b, o + 3, none⟩ = some (.int .i64 d3))
    (t4 : w.cell? ⟨b, o + 4, none⟩ = some (.slice a4 d4.length p4))
    (t5 : w.cell? ⟨b, o + 5, none⟩ = some (.int .i64 d5))
    (t6 : w.cell? ⟨b, o + 6, none⟩ = some (.slice a6 d6.length p6))
    (t7 : w.cell? ⟨b, o + 7, none⟩ = some (.slice a7 d7.length p7)) :
    Calls Try.prog 160 #[.pointer (some ⟨b, o, none⟩)] w fun e w' => e = .returned (.bool (stmtOk (7, d1, d2, (d3, d4), (d5, d6), d7))) ∧ w = w' := by
  have hl7 := h7.len_le
  have HS := hid (c_l03Term b (o + 3) d3 a4 p4 d4 w t3 t4 h4)
  have HX := hid (c_l03Term b (o + 5) d5 a6 p6 d6 w t5 t6 h6)
  have HT := hid (c_l03Terms a7 p7 d7 6 w h7)
  have HZ := hid (c_l05Zero b (o + 3) d3 a4 p4 d4.length w t3 t4)
  have HY := hid (c_l05Zero b (o + 5) d5 a6 p6 d6.length w t5 t6)
  clear h4 h6 h7
  have HF0 : Hid (stmtOk (7, d1, d2, (d3, d4), (d5, d6), d7) = (((((d1 == 0) && (d2 == 0)) && overT (d3, d4)) && (d5 == 0 && ((d6.length : Int) == 0))) && ((d7.length : Int) == 0))) := rfl
  have HK : Hid (inB 7 0 8 = true) := rfl
  have hZs := @zero_over d3 d4
  have hXs := @zero_over d5 d6
  have hFf : ((d7.length : Int) == 0) = true → areOverF d7 6 = true := by intro h; obtain rfl : d7 = [] := List.eq_nil_of_length_eq_zero (by rw [beq_iff_eq] at h; omega); rfl
  obtain ⟨s, hs⟩ : ∃ s, overT (d3, d4) = s := ⟨_, rfl⟩
  obtain ⟨x, hx⟩ : ∃ x, overT (d5, d6) = x := ⟨_, rfl⟩
  obtain ⟨f, hf⟩ : ∃ f, areOverF d7 6 = f := ⟨_, rfl⟩
  obtain ⟨Z, hZ⟩ : ∃ Z, (d3 == 0 && ((d4.length : Int) == 0)) = Z := ⟨_, rfl⟩
  obtain ⟨X, hX⟩ : ∃ X, (d5 == 0 && ((d6.length : Int) == 0)) = X := ⟨_, rfl⟩
  obtain ⟨F, hF⟩ : ∃ F, ((d7.length : Int) == 0) = F := ⟨_, rfl⟩
  have Hs := hid hs
  have Hx := hid hx
  have Hf := hid hf
  have HZv := hid hZ
  have HXv := hid hX
  rw [hs, hZ] at hZs
  rw [hx, hX] at hXs
  rw [hf, hF] at hFf
  rw [hX, hs, hF] at HF0
  have hlen : (F = true ∧ decide ((0 : Int) < (d7.length : Int)) = false ∧ decide (0 < d7.length) = false) ∨ (F = false ∧ decide ((0 : Int) < (d7.length : Int)) = true ∧ decide (0 < d7.length) = true) := by
    rcases Nat.eq_zero_or_pos d7.length with h | h
    · exact .inl ⟨by rw [← hF, beq_iff_eq]; omega, decide_eq_false (by omega), decide_eq_false (by omega)⟩
    · exact .inr ⟨by rw [← hF, beq_eq_false_iff_ne]; omega, decide_eq_true (by omega), decide_eq_true (by omega)⟩
  clear hs hx hf hZ hX hF
  have HI := hid (And.intro hZs (And.intro hXs hFf))
  clear hZs hXs hFf
  rcases hlen with ⟨hF, g1, g2⟩ | ⟨hF, g1, g2⟩
  all_goals
    by_cases hV : d1 = 0
    all_goals
      have gV1 : (d1 == 0) = decide (d1 = 0) := by rw [Bool.eq_iff_iff]; simp
      have gV2 : (d1 != 0) = !decide (d1 = 0) := by rw [← gV1]; rfl
      simp only [hV, decide_true, decide_false, Bool.not_true, Bool.not_false] at gV1 gV2
      go_enter Try.func160, Try.ntmps160
      go_wp2_with (first | (go_at_call 68; refine (c_l00In _ _ _ _).mono ?_; rintro e' w' ⟨rfl, rfl⟩; first | rw [HK.out]) | (have hkk := mk1; clear hkk; go_at_call 159; refine HX.out.mono ?_; rintro e' w' ⟨rfl, rfl⟩; rw [Hx.out]) | (go_at_call 159; refine HS.out.mono ?_; rintro e' w' ⟨rfl, rfl⟩; rw [Hs.out]; have mk1 := HK) | (go_at_call 139; refine HT.out.mono ?_; rintro e' w' ⟨rfl, rfl⟩; rw [Hf.out]) | (go_at_call 179; refine HY.out.mono ?_; rintro e' w' ⟨rfl, rfl⟩; rw [HXv.out]))
      all_goals
        go_ret
        refine ⟨ret_bool ?_, rfl⟩
        rw [HF0.out]
        obtain ⟨hZs, hXs, hFf⟩ := HI.out
        simp_all
set_option maxHeartbeats 2000000 in
set_option maxRecDepth 100000 in
theorem c_stmt8 {S : Nat → Prop} {b o : Nat} {d1 d2 d3 : Int} {a4 : Option Addr} {p4 : Nat} {d4 : List Int} {d5 : Int} {a6 : Option Addr} {p6 : Nat} {d6 : List Int} {a7 : Option Addr} {p7 : Nat} {d7 : List Term} {w : World} (h4 : SlRd cInt S w a4 p4 d4) (h6 : SlRd cInt S w a6 p6 d6) (h7 : SlRd cTerm S w a7 p7 d7)
    (t0 : w.cell? ⟨b, o, none⟩ = some (.int .i64 (8 : Int)))
    (t1 : w.cell? ⟨b, o + 1, none⟩ = some (.int .i64 d1))
    (t2 : w.cell? ⟨b, o + 2, none⟩ = some (.int .i64 d2))
    (t3 : w.cell? ⟨b, o + 3, none⟩ = some (.int .i64 d3))
    (t4 : w.cell? ⟨b, o + 4, none⟩ = some (.slice a4 d4.length p4))
    (t5 : w.cell? ⟨b, o + 5, none⟩ = some (.int .i64 d5))
    (t6 : w.cell? ⟨b, o + 6, none⟩ = some (.slice a6 d6.length p6))
    (t7 : w.cell? ⟨b, o + 7, none⟩ = some (.slice a7 d7.length p7)) :
    Calls Try.prog 160 #[.pointer (some ⟨b, o, none⟩)] w fun e w' => e = .returned (.bool (stmtOk (8, d1, d2, (d3, d4), (d5, d6), d7))) ∧ w = w' := by
  have hl7 := h7.len_le
  have HS := hid (c_l03Term b (o + 3) d3 a4 p4 d4 w t3 t4 h4)
  have HX := hid (c_l03Term b (o + 5) d5 a6 p6 d6 w t5 t6 h6)
  have HT := hid (c_l03Terms a7 p7 d7 6 w h7)
  have HZ := hid (c_l05Zero b (o + 3) d3 a4 p4 d4.length w t3 t4)
  have HY := hid (c_l05Zero b (o + 5) d5 a6 p6 d6.length w t5 t6)
  clear h4 h6 h7
  have HF0 : Hid (stmtOk (8, d1, d2, (d3, d4), (d5, d6), d7) = (((((d1 == 0) && (d2 == 0)) && overT (d3, d4)) && (d5 == 0 && ((d6.length : Int) == 0))) && areOverF d7 6)) := rfl
  have HK : Hid (inB 8 0 8 = true) := rfl
  have hZs := @zero_over d3 d4
  have hXs := @zero_over d5 d6
  have hFf : ((d7.length : Int) == 0) = true → areOverF d7 6 = true := by intro h; obtain rfl : d7 = [] := List.eq_nil_of_length_eq_zero (by rw [beq_iff_eq] at h; omega); rfl
  obtain ⟨s, hs⟩ : ∃ s, overT (d3, d4) = s := ⟨_, rfl⟩
  obtain ⟨x, hx⟩ : ∃ x, overT (d5, d6) = x := ⟨_, rfl⟩
  obtain ⟨f, hf⟩ : ∃ f, areOverF d7 6 = f := ⟨_, rfl⟩
  obtain ⟨Z, hZ⟩ : ∃ Z, (d3 == 0 && ((d4.length : Int) == 0)) = Z := ⟨_, rfl⟩
  obtain ⟨X, hX⟩ : ∃ X, (d5 == 0 && ((d6.length : Int) == 0)) = X := ⟨_, rfl⟩
  obtain ⟨F, hF⟩ : ∃ F, ((d7.length : Int) == 0) = F := ⟨_, rfl⟩
  have Hs := hid hs
  have Hx := hid hx
  have Hf := hid hf
  have HZv := hid hZ
  have HXv := hid hX
  rw [hs, hZ] at hZs
  rw [hx, hX] at hXs
  rw [hf, hF] at hFf
  rw [hX, hs, hf] at HF0
  have hlen : (F = true ∧ decide ((0 : Int) < (d7.length : Int)) = false ∧ decide (0 < d7.length) = false) ∨ (F = false ∧ decide ((0 : Int) < (d7.length : Int)) = true ∧ decide (0 < d7.length) = true) := by
    rcases Nat.eq_zero_or_pos d7.length with h | h
    · exact .inl ⟨by rw [← hF, beq_iff_eq]; omega, decide_eq_false (by omega), decide_eq_false (by omega)⟩
    · exact .inr ⟨by rw [← hF, beq_eq_false_iff_ne]; omega, decide_eq_true (by omega), decide_eq_true (by omega)⟩
  clear hs hx hf hZ hX hF
  have HI := hid (And.intro hZs (And.intro hXs hFf))
  clear hZs hXs hFf
  rcases hlen with ⟨hF, g1, g2⟩ | ⟨hF, g1, g2⟩
  all_goals
    by_cases hV : d1 = 0
    all_goals
      have gV1 : (d1 == 0) = decide (d1 = 0) := by rw [Bool.eq_iff_iff]; simp
      have gV2 : (d1 != 0) = !decide (d1 = 0) := by rw [← gV1]; rfl
      simp only [hV, decide_true, decide_false, Bool.not_true, Bool.not_false] at gV1 gV2
      go_enter Try.func160, Try.ntmps160
      go_wp2_with (first | (go_at_call 68; refine (c_l00In _ _ _ _).mono ?_; rintro e' w' ⟨rfl, rfl⟩; first | rw [HK.out]) | (have hkk := mk1; clear hkk; go_at_call 159; refine HX.out.mono ?_; rintro e' w' ⟨rfl, rfl⟩; rw [Hx.out]) | (go_at_call 159; refine HS.out.mono ?_; rintro e' w' ⟨rfl, rfl⟩; rw [Hs.out]; have mk1 := HK) | (go_at_call 139; refine HT.out.mono ?_; rintro e' w' ⟨rfl, rfl⟩; rw [Hf.out]) | (go_at_call 179; refine HY.out.mono ?_; rintro e' w' ⟨rfl, rfl⟩; rw [HXv.out]))
      all_goals
        go_ret
        refine ⟨ret_bool ?_, rfl⟩
        rw [HF0.out]
        obtain ⟨hZs, hXs, hFf⟩ := HI.out
        simp_all
set_option maxHeartbeats 2000000 in
set_option maxRecDepth 100000 in
theorem c_stmto {S : Nat → Prop} {b o : Nat} {d0 d1 d2 d3 : Int} {a4 : Option Addr} {p4 : Nat} {d4 : List Int} {d5 : Int} {a6 : Option Addr} {p6 : Nat} {d6 : List Int} {a7 : Option Addr} {p7 : Nat} {d7 : List Term} {w : World} (hk : d0 < 0 ∨ 8 < d0) (h4 : SlRd cInt S w a4 p4 d4) (h6 : SlRd cInt S w a6 p6 d6) (h7 : SlRd cTerm S w a7 p7 d7)
    (t0 : w.cell? ⟨b, o, none⟩ = some (.int .i64 d0))
    (t1 : w.cell? ⟨b, o + 1, none⟩ = some (.int .i64 d1))
    (t2 : w.cell? ⟨b, o + 2, none⟩ = some (.int .i64 d2))
    (t3 : w.cell? ⟨b, o + 3, none⟩ = some (.int .i64 d3))
    (t4 : w.cell? ⟨b, o + 4, none⟩ = some (.slice a4 d4.length p4))
    (t5 : w.cell? ⟨b, o + 5, none⟩ = some (.int .i64 d5))
    (t6 : w.cell? ⟨b, o + 6, none⟩ = some (.slice a6 d6.length p6))
    (t7 : w.cell? ⟨b, o + 7, none⟩ = some (.slice a7 d7.length p7)) :
    Calls Try.prog 160 #[.pointer (some ⟨b, o, none⟩)] w fun e w' => e = .returned (.bool (stmtOk (d0, d1, d2, (d3, d4), (d5, d6), d7))) ∧ w = w' := by
  have hl7 := h7.len_le
  have HS := hid (c_l03Term b (o + 3) d3 a4 p4 d4 w t3 t4 h4)
  have HX := hid (c_l03Term b (o + 5) d5 a6 p6 d6 w t5 t6 h6)
  have HT := hid (c_l03Terms a7 p7 d7 6 w h7)
  have HZ := hid (c_l05Zero b (o + 3) d3 a4 p4 d4.length w t3 t4)
  have HY := hid (c_l05Zero b (o + 5) d5 a6 p6 d6.length w t5 t6)
  clear h4 h6 h7
  have HF : Hid (stmtOk (d0, d1, d2, (d3, d4), (d5, d6), d7) = false) := by unfold Hid stmtOk; simp only; rw [if_neg (show ¬ d0 = 0 by omega)]; rw [if_neg (show ¬ d0 = 1 by omega)]; rw [if_neg (show ¬ d0 = 2 by omega)]; rw [if_neg (show ¬ d0 = 3 by omega)]; rw [if_neg (show ¬ d0 = 4 by omega)]; rw [if_neg (show ¬ d0 = 5 by omega)]; rw [if_neg (show ¬ d0 = 6 by omega)]; rw [if_neg (show ¬ d0 = 7 by omega)]; rw [if_neg (show ¬ d0 = 8 by omega)]
  have HK : Hid (inB d0 0 8 = false) := by unfold Hid; cases h9 : inB d0 0 8 with
    | false => rfl
    | true => have := inB_iff.1 h9; omega
  have e0 : (d0 == 0) = false := by rw [beq_eq_false_iff_ne]; omega
  have e1 : (d0 == 1) = false := by rw [beq_eq_false_iff_ne]; omega
  have e2 : (d0 == 2) = false := by rw [beq_eq_false_iff_ne]; omega
  have e3 : (d0 == 3) = false := by rw [beq_eq_false_iff_ne]; omega
  have e4 : (d0 == 4) = false := by rw [beq_eq_false_iff_ne]; omega
  have e5 : (d0 == 5) = false := by rw [beq_eq_false_iff_ne]; omega
  have e6 : (d0 == 6) = false := by rw [beq_eq_false_iff_ne]; omega
  have e7 : (d0 == 7) = false := by rw [beq_eq_false_iff_ne]; omega
  have e8 : (d0 == 8) = false := by rw [beq_eq_false_iff_ne]; omega
  clear hk
  go_enter Try.func160, Try.ntmps160
  go_wp2_with (go_at_call 68; refine (c_l00In _ _ _ _).mono ?_; rintro e' w' ⟨rfl, rfl⟩; rw [HK.out])
  go_ret
  exact ⟨ret_bool HF.out.symm, rfl⟩
theorem c_l03Stmt {S : Nat → Prop} {b o : Nat} {d0 d1 d2 d3 : Int} {a4 : Option Addr} {p4 : Nat} {d4 : List Int} {d5 : Int} {a6 : Option Addr} {p6 : Nat} {d6 : List Int} {a7 : Option Addr} {p7 : Nat} {d7 : List Term} {w : World} (h4 : SlRd cInt S w a4 p4 d4) (h6 : SlRd cInt S w a6 p6 d6) (h7 : SlRd cTerm S w a7 p7 d7)
    (t0 : w.cell? ⟨b, o, none⟩ = some (.int .i64 d0))
    (t1 : w.cell? ⟨b, o + 1, none⟩ = some (.int .i64 d1))
    (t2 : w.cell? ⟨b, o + 2, none⟩ = some (.int .i64 d2))
    (t3 : w.cell? ⟨b, o + 3, none⟩ = some (.int .i64 d3))
    (t4 : w.cell? ⟨b, o + 4, none⟩ = some (.slice a4 d4.length p4))
    (t5 : w.cell? ⟨b, o + 5, none⟩ = some (.int .i64 d5))
    (t6 : w.cell? ⟨b, o + 6, none⟩ = some (.slice a6 d6.length p6))
    (t7 : w.cell? ⟨b, o + 7, none⟩ = some (.slice a7 d7.length p7)) :
    Calls Try.prog 160 #[.pointer (some ⟨b, o, none⟩)] w fun e w' => e = .returned (.bool (stmtOk (d0, d1, d2, (d3, d4), (d5, d6), d7))) ∧ w = w' := by
  by_cases g0 : d0 = 0
  · subst g0; exact c_stmt0 h4 h6 h7 t0 t1 t2 t3 t4 t5 t6 t7
  by_cases g1 : d0 = 1
  · subst g1; exact c_stmt1 h4 h6 h7 t0 t1 t2 t3 t4 t5 t6 t7
  by_cases g2 : d0 = 2
  · subst g2; exact c_stmt2 h4 h6 h7 t0 t1 t2 t3 t4 t5 t6 t7
  by_cases g3 : d0 = 3
  · subst g3; exact c_stmt3 h4 h6 h7 t0 t1 t2 t3 t4 t5 t6 t7
  by_cases g4 : d0 = 4
  · subst g4; exact c_stmt4 h4 h6 h7 t0 t1 t2 t3 t4 t5 t6 t7
  by_cases g5 : d0 = 5
  · subst g5; exact c_stmt5 h4 h6 h7 t0 t1 t2 t3 t4 t5 t6 t7
  by_cases g6 : d0 = 6
  · subst g6; exact c_stmt6 h4 h6 h7 t0 t1 t2 t3 t4 t5 t6 t7
  by_cases g7 : d0 = 7
  · subst g7; exact c_stmt7 h4 h6 h7 t0 t1 t2 t3 t4 t5 t6 t7
  by_cases g8 : d0 = 8
  · subst g8; exact c_stmt8 h4 h6 h7 t0 t1 t2 t3 t4 t5 t6 t7
  exact c_stmto (by omega) h4 h6 h7 t0 t1 t2 t3 t4 t5 t6 t7
end Go.Proofs.Ytedmhdinfedhhaa
