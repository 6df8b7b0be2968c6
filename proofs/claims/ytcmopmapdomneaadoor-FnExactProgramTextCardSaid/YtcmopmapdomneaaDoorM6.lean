/- Contracts and laws of data, 6 texts joined (they are printed one by one from wip/src). -/
import Derived.Test.YtcmopmapdomneaaDoorM5
import Derived.Deep.RegionHeld3

section
namespace Go.Proofs.YtcmopmapdomneaaDoor
open Go.RowKit
set_option maxHeartbeats 2000000 in
set_option maxRecDepth 100000 in
theorem c_stmt5 {S : Nat → Prop} {b o : Nat} {d1 d2 d3 : Int} {a4 : Option Addr} {p4 : Nat} {d4 : List Int} {d5 : Int} {a6 : Option Addr} {p6 : Nat} {d6 : List Int} {a7 : Option Addr} {p7 : Nat} {d7 : List Term} {w : World} (h4 : SlRd cInt S w a4 p4 d4) (h6 : SlRd cInt S w a6 p6 d6) (h7 : SlRd cTerm S w a7 p7 d7)
    (t0 : w.cell? ⟨b, o, none⟩ = some (.int .i64 (5 : Int)))
    (t1 : w.cell? ⟨b, o + 1, none⟩ = some (.int .i64 d1))
    (t2 : w.cell? ⟨b, o + 2, none⟩ = some (.int .i64 d2))
    (t3 : w.cell? ⟨b, o + 3, none⟩ = some (.int .i64 d3))
    (t4 : w.cell? ⟨b, o + 4, none⟩ = some (.slice a4 d4.length p4))
    (t5 : w.cell? ⟨b, o + 5, none⟩ = some (.int .i64 d5))
    (t6 : w.cell? ⟨b, o + 6, none⟩ = some (.slice a6 d6.length p6))
    (t7 : w.cell? ⟨b, o + 7, none⟩ = some (.slice a7 d7.length p7)) :
    Calls Tryd.prog 94 #[.pointer (some ⟨b, o, none⟩)] w fun e w' => e = .returned (.bool (stmtOk (5, d1, d2, (d3, d4), (d5, d6), d7))) ∧ w = w' := by
  have hl7 := h7.len_le
  have HS := hid (c_l03Term b (o + 3) d3 a4 p4 d4 w t3 t4 h4)
  have HX := hid (c_l03Term b (o + 5) d5 a6 p6 d6 w t5 t6 h6)
  have HT := hid (c_l03Terms a7 p7 d7 6 w h7)
  have HZ := hid (c_l05Zero b (o + 3) d3 a4 p4 d4.length w t3 t4)
  have HY := hid (c_l05Zero b (o + 5) d5 a6 p6 d6.length w t5 t6)
  clear h4 h6 h7
  have HF0 : Hid (stmtOk (5, d1, d2, (d3, d4), (d5, d6), d7) = (((((d1 == 0) && inB d2 0 3) && (d3 == 0 && ((d4.length : Int) == 0))) && (d5 == 0 && ((d6.length : Int) == 0))) && ((d7.length : Int) == 0))) := rfl
  have HK : Hid (inB 5 0 8 = true) := rfl
  have hZs := @zero_over d3 d4
  have hXs := @zero_over d5 d6
  have hFf : ((d7.length : Int) == 0) = true → areOverF d7 6 = true := by intro h; obtain rfl : d7 = [] := List.eq_nil_of_length_eq_zero (by rw [beq_iff_eq] at h; omega); rfl
  obtain ⟨s, hs⟩ : ∃ s, overT (d3, d4) = s := ⟨_, rfl⟩
  obtain ⟨x, hx⟩ : ∃ x, overT (d5, d6) = x := ⟨_, rfl⟩
  obtain ⟨f, hf⟩ : ∃ f, areOverF d7 6 = f := ⟨_, rfl⟩
  obtain ⟨Z, hZ⟩ : ∃ Z, (d3 == 0 && ((d4.length : Int) == 0)) = Z := ⟨_, rfl⟩
  obtain ⟨X, hX⟩ : ∃ X, (d5 == 0 && ((d6.length : Int) == 0)) = X := ⟨_, rfl⟩
  obtain ⟨F, hF⟩ : ∃ F, ((d7.length : Int) == 0) = F := ⟨_, rfl⟩
  have Hs := hid hs
  have Hx := hid hx
  have Hf := hid hf
  have HZv := hid hZ
  have HXv := hid hX
  rw [hs, hZ] at hZs
  rw [hx, hX] at hXs
  rw [hf, hF] at hFf
  obtain ⟨e, he⟩ : ∃ e, inB d2 0 3 = e := ⟨_, rfl⟩
  have He := hid he
  rw [hZ, hX, hF, he] at HF0
  have hlen : (F = true ∧ decide ((0 : Int) < (d7.length : Int)) = false ∧ decide (0 < d7.length) = false) ∨ (F = false ∧ decide ((0 : Int) < (d7.length : Int)) = true ∧ decide (0 < d7.length) = true) := by
    rcases Nat.eq_zero_or_pos d7.length with h | h
    · exact .inl ⟨by rw [← hF, beq_iff_eq]; omega, decide_eq_false (by omega), decide_eq_false (by omega)⟩
    · exact .inr ⟨by rw [← hF, beq_eq_false_iff_ne]; omega, decide_eq_true (by omega), decide_eq_true (by omega)⟩
  clear hs hx hf hZ hX hF he
  have HI := hid (And.intro hZs (And.intro hXs hFf))
  clear hZs hXs hFf
  rcases hlen with ⟨hF, g1, g2⟩ | ⟨hF, g1, g2⟩
  all_goals
    by_cases hV : d1 = 0
    all_goals
      have gV1 : (d1 == 0) = decide (d1 = 0) := by rw [Bool.eq_iff_iff]; simp
      have gV2 : (d1 != 0) = !decide (d1 = 0) := by rw [← gV1]; rfl
      simp only [hV, decide_true, decide_false, Bool.not_true, Bool.not_false] at gV1 gV2
      go_enter Tryd.func94, Tryd.ntmps94
      go_wp2_with (first | (go_at_call 39; refine (c_l00In _ _ _ _).mono ?_; rintro e' w' ⟨rfl, rfl⟩; first | rw [HK.out] | rw [He.out]) | (have hkk := mk1; clear hkk; go_at_call 93; refine HX.out.mono ?_; rintro e' w' ⟨rfl, rfl⟩; rw [Hx.out]) | (go_at_call 93; refine HS.out.mono ?_; rintro e' w' ⟨rfl, rfl⟩; rw [Hs.out]; have mk1 := HK) | (go_at_call 58; refine HT.out.mono ?_; rintro e' w' ⟨rfl, rfl⟩; rw [Hf.out]) | (have hkk := mk2; clear hkk; go_at_call 111; refine HY.out.mono ?_; rintro e' w' ⟨rfl, rfl⟩; rw [HXv.out]) | (go_at_call 111; refine HZ.out.mono ?_; rintro e' w' ⟨rfl, rfl⟩; rw [HZv.out]; have mk2 := HK))
      all_goals
        go_ret
        refine ⟨ret_bool ?_, rfl⟩
        rw [HF0.out]
        obtain ⟨hZs, hXs, hFf⟩ := HI.out
        simp_all
set_option maxHeartbeats 2000000 in
set_option maxRecDepth 100000 in
theorem c_stmt6 {S : Nat → Prop} {b o : Nat} {d1 d2 d3 : Int} {a4 : Option Addr} {p4 : Nat} {d4 : List Int} {d5 : Int} {a6 : Option Addr} {p6 : Nat} {d6 : List Int} {a7 : Option Addr} {p7 : Nat} {d7 : List Term} {w : World} (h4 : SlRd cInt S w a4 p4 d4) (h6 : SlRd cInt S w a6 p6 d6) (h7 : SlRd cTerm S w a7 p7 d7)
    (t0 : w.cell? ⟨b, o, none⟩ = some (.int .i64 (6 : Int)))
    (t1 : w.cell? ⟨b, o + 1, none⟩ = some (.int .i64 d1))
    (t2 : w.cell? ⟨b, o + 2, none⟩ = some (.int .i64 d2))
    (t3 : w.cell? ⟨b, o + 3, none⟩ = some (.int .i64 d3))
    (t4 : w.cell? ⟨b, o + 4, none⟩ = some (.slice a4 d4.length p4))
    (t5 : w.cell? ⟨b, o + 5, none⟩ = some (.int .i64 d5))
    (t6 : w.cell? ⟨b, o + 6, none⟩ = some (.slice a6 d6.length p6))
    (t7 : w.cell? ⟨b, o + 7, none⟩ = some (.slice a7 d7.length p7)) :
    Calls Tryd.prog 94 #[.pointer (some ⟨b, o, none⟩)] w fun e w' => e = .returned (.bool (stmtOk (6, d1, d2, (d3, d4), (d5, d6), d7))) ∧ w = w' := by
  have hl7 := h7.len_le
  have HS := hid (c_l03Term b (o + 3) d3 a4 p4 d4 w t3 t4 h4)
  have HX := hid (c_l03Term b (o + 5) d5 a6 p6 d6 w t5 t6 h6)
  have HT := hid (c_l03Terms a7 p7 d7 6 w h7)
  have HZ := hid (c_l05Zero b (o + 3) d3 a4 p4 d4.length w t3 t4)
  have HY := hid (c_l05Zero b (o + 5) d5 a6 p6 d6.length w t5 t6)
  clear h4 h6 h7
  have HF0 : Hid (stmtOk (6, d1, d2, (d3, d4), (d5, d6), d7) = (((((d1 == 0) && (d2 == 0)) && overT (d3, d4)) && (d5 == 0 && ((d6.length : Int) == 0))) && ((d7.length : Int) == 0))) := rfl
  have HK : Hid (inB 6 0 8 = true) := rfl
  have hZs := @zero_over d3 d4
  have hXs := @zero_over d5 d6
  have hFf : ((d7.length : Int) == 0) = true → areOverF d7 6 = true := by intro h; obtain rfl : d7 = [] := List.eq_nil_of_length_eq_zero (by rw [beq_iff_eq] at h; omega); rfl
  obtain ⟨s, hs⟩ : ∃ s, overT (d3, d4) = s := ⟨_, rfl⟩
  obtain ⟨x, hx⟩ : ∃ x, overT (d5, d6) = x := ⟨_, rfl⟩
  obtain ⟨f, hf⟩ : ∃ f, areOverF d7 6 = f := ⟨_, rfl⟩
  obtain ⟨Z, hZ⟩ : ∃ Z, (d3 == 0 && ((d4.length : Int) == 0)) = Z := ⟨_, rfl⟩
  obtain ⟨X, hX⟩ : ∃ X, (d5 == 0 && ((d6.length : Int) == 0)) = X := ⟨_, rfl⟩
  obtain ⟨F, hF⟩ : ∃ F, ((d7.length : Int) == 0) = F := ⟨_, rfl⟩
  have Hs := hid hs
  have Hx := hid hx
  have Hf := hid hf
  have HZv := hid hZ
  have HXv := hid hX
  rw [hs, hZ] at hZs
  rw [hx, hX] at hXs
  rw [hf, hF] at hFf
  rw [hX, hs, hF] at HF0
  have hlen : (F = true ∧ decide ((0 : Int) < (d7.length : Int)) = false ∧ decide (0 < d7.length) = false) ∨ (F = false ∧ decide ((0 : Int) < (d7.length : Int)) = true ∧ decide (0 < d7.length) = true) := by
    rcases Nat.eq_zero_or_pos d7.length with h | h
    · exact .inl ⟨by rw [← hF, beq_iff_eq]; omega, decide_eq_false (by omega), decide_eq_false (by omega)⟩
    · exact .inr ⟨by rw [← hF, beq_eq_false_iff_ne]; omega, decide_eq_true (by omega), decide_eq_true (by omega)⟩
  clear hs hx hf hZ hX hF
  have HI := hid (And.intro hZs (And.intro hXs hFf))
  clear hZs hXs hFf
  rcases hlen with ⟨hF, g1, g2⟩ | ⟨hF, g1, g2⟩
  all_goals
    by_cases hV : d1 = 0
    all_goals
      have gV1 : (d1 == 0) = decide (d1 = 0) := by rw [Bool.eq_iff_iff]; simp
      have gV2 : (d1 != 0) = !decide (d1 = 0) := by rw [← gV1]; rfl
      simp only [hV, decide_true, decide_false, Bool.not_true, Bool.not_false] at gV1 gV2
      go_enter Tryd.func94, Tryd.ntmps94
      go_wp2_with (first | (go_at_call 39; refine (c_l00In _ _ _ _).mono ?_; rintro e' w' ⟨rfl, rfl⟩; first | rw [HK.out]) | (have hkk := mk1; clear hkk; go_at_call 93; refine HX.out.mono ?_; rintro e' w' ⟨rfl, rfl⟩; rw [Hx.out]) | (go_at_call 93; refine HS.out.mono ?_; rintro e' w' ⟨rfl, rfl⟩; rw [Hs.out]; have mk1 := HK) | (go_at_call 58; refine HT.out.mono ?_; rintro e' w' ⟨rfl, rfl⟩; rw [Hf.out]) | (go_at_call 111; refine HY.out.mono ?_; rintro e' w' ⟨rfl, rfl⟩; rw [HXv.out]))
      all_goals
        go_ret
        refine ⟨ret_bool ?_, rfl⟩
        rw [HF0.out]
        obtain ⟨hZs, hXs, hFf⟩ := HI.out
        simp_all
set_option maxHeartbeats 2000000 in
set_option maxRecDepth 100000 in
theorem c_stmt7 {S : Nat → Prop} {b o : Nat} {d1 d2 d3 : Int} {a4 : Option Addr} {p4 : Nat} {d4 : List Int} {d5 : Int} {a6 : Option Addr} {p6 : Nat} {d6 : List Int} {a7 : Option Addr} {p7 : Nat} {d7 : List Term} {w : World} (h4 : SlRd cInt S w a4 p4 d4) (h6 : SlRd cInt S w a6 p6 d6) (h7 : SlRd cTerm S w a7 p7 d7)
    (t0 : w.cell? ⟨b, o, none⟩ = some (.int .i64 (7 : Int)))
    (t1 : w.cell? ⟨b, o + 1, none⟩ = some (.int .i64 d1))
    (t2 : w.cell? ⟨b, o + 2, none⟩ = some (.int .i64 d2))
    (t3 : w.cell? ⟨b, o + 3, none⟩ = some (.int .i64 d3))
    (t4 : w.cell? ⟨b, o + 4, none⟩ = some (.slice a4 d4.length p4))
    (t5 : w.cell? ⟨b, o + 5, none⟩ = some (.int .i64 d5))
    (t6 : w.cell? ⟨b, o + 6, none⟩ = some (.slice a6 d6.length p6))
    (t7 : w.cell? ⟨b, o + 7, none⟩ = some (.slice a7 d7.length p7)) :
    Calls Tryd.prog 94 #[.pointer (some ⟨b, o, none⟩)] w fun e w' => e = .returned (.bool (stmtOk (7, d1, d2, (d3, d4), (d5, d6), d7))) ∧ w = w' := by
  have hl7 := h7.len_le
  have HS := hid (c_l03Term b (o + 3) d3 a4 p4 d4 w t3 t4 h4)
  have HX := hid (c_l03Term b (o + 5) d5 a6 p6 d6 w t5 t6 h6)
  have HT := hid (c_l03Terms a7 p7 d7 6 w h7)
  have HZ := hid (c_l05Zero b (o + 3) d3 a4 p4 d4.length w t3 t4)
  have HY := hid (c_l05Zero b (o + 5) d5 a6 p6 d6.length w t5 t6)
  clear h4 h6 h7
  have HF0 : Hid (stmtOk (7, d1, d2, (d3, d4), (d5, d6), d7) = (((((d1 == 0) && (d2 == 0)) && overT (d3, d4)) && (d5 == 0 && ((d6.length : Int) == 0))) && ((d7.length : Int) == 0))) := rfl
  have HK : Hid (inB 7 0 8 = true) := rfl
  have hZs := @zero_over d3 d4
  have hXs := @zero_over d5 d6
  have hFf : ((d7.length : Int) == 0) = true → areOverF d7 6 = true := by intro h; obtain rfl : d7 = [] := List.eq_nil_of_length_eq_zero (by rw [beq_iff_eq] at h; omega); rfl
  obtain ⟨s, hs⟩ : ∃ s, overT (d3, d4) = s := ⟨_, rfl⟩
  obtain ⟨x, hx⟩ : ∃ x, overT (d5, d6) = x := ⟨_, rfl⟩
  obtain ⟨f, hf⟩ : ∃ f, areOverF d7 6 = f := ⟨_, rfl⟩
  obtain ⟨Z, hZ⟩ : ∃ Z, (d3 == 0 && ((d4.length : Int) == 0)) = Z := ⟨_, rfl⟩
  obtain ⟨X, hX⟩ : ∃ X, (d5 == 0 && ((d6.length : Int) == 0)) = X := ⟨_, rfl⟩
  obtain ⟨F, hF⟩ : ∃ F, ((d7.length : Int) == 0) = F := ⟨_, rfl⟩
  have Hs := hid hs
  have Hx := hid hx
  have Hf := hid hf
  have HZv := hid hZ
  have HXv := hid hX
  rw [hs, hZ] at hZs
  rw [hx, hX] at hXs
  rw [hf, hF] at hFf
  rw [hX, hs, hF] at HF0
  have hlen : (F = true ∧ decide ((0 : Int) < (d7.length : Int)) = false ∧ decide (0 < d7.length) = false) ∨ (F = false ∧ decide ((0 : Int) < (d7.length : Int)) = true ∧ decide (0 < d7.length) = true) := by
    rcases Nat.eq_zero_or_pos d7.length with h | h
    · exact .inl ⟨by rw [← hF, beq_iff_eq]; omega, decide_eq_false (by omega), decide_eq_false (by omega)⟩
    · exact .inr ⟨by rw [← hF, beq_eq_false_iff_ne]; omega, decide_eq_true (by omega), decide_eq_true (by omega)⟩
  clear hs hx hf hZ hX hF
  have HI := hid (And.intro hZs (And.intro hXs hFf))
  clear hZs hXs hFf
  rcases hlen with ⟨hF, g1, g2⟩ | ⟨hF, g1, g2⟩
  all_goals
    by_cases hV : d1 = 0
    all_goals
      have gV1 : (d1 == 0) = decide (d1 = 0) := by rw [Bool.eq_iff_iff]; simp
      have gV2 : (d1 != 0) = !decide (d1 = 0) := by rw [← gV1]; rfl
      simp only [hV, decide_true, decide_false, Bool.not_true, Bool.not_false] at gV1 gV2
      go_enter Tryd.func94, Tryd.ntmps94
      go_wp2_with (first | (go_at_call 39; refine (c_l00In _ _ _ _).mono ?_; rintro e' w' ⟨rfl, rfl⟩; first | rw [HK.out]) | (have hkk := mk1; clear hkk; go_at_call 93; refine HX.out.mono ?_; rintro e' w' ⟨rfl, rfl⟩; rw [Hx.out]) | (go_at_call 93; refine HS.out.mono ?_; rintro e' w' ⟨rfl, rfl⟩; rw [Hs.out]; have mk1 := HK) | (go_at_call 58; refine HT.out.mono ?_; rintro e' w' ⟨rfl, rfl⟩; rw [Hf.out]) | (go_at_call 111; refine HY.out.mono ?_; rintro e' w' ⟨rfl, rfl⟩; rw [HXv.out]))
      all_goals
        go_ret
        refine ⟨ret_bool ?_, rfl⟩
        rw [HF0.out]
        obtain ⟨hZs, hXs, hFf⟩ := HI.out
        simp_all
set_option maxHeartbeats 2000000 in
set_option maxRecDepth 100000 in
theorem c_stmt8 {S : Nat → Prop} {b o : Nat} {d1 d2 d3 : Int} {a4 : Option Addr} {p4 : Nat} {d4 : List Int} {d5 : Int} {a6 : Option Addr} {p6 : Nat} {d6 : List Int} {a7 : Option Addr} {p7 : Nat} {d7 : List Term} {w : World} (h4 : SlRd cInt S w a4 p4 d4) (h6 : SlRd cInt S w a6 p6 d6) (h7 : SlRd cTerm S w a7 p7 d7)
    (t0 : w.cell? ⟨b, o, none⟩ = some (.int .i64 (8 : Int)))
    (t1 : w.cell? ⟨b, o + 1, none⟩ = some (.int .i64 d1))
    (t2 : w.cell? ⟨b, o + 2, none⟩ = some (.int .i64 d2))
    (t3 : w.cell? ⟨b, o + 3, none⟩ = some (.int .i64 d3))
    (t4 : w.cell? ⟨b, o + 4, none⟩ = some (.slice a4 d4.length p4))
    (t5 : w.cell? ⟨b, o + 5, none⟩ = some (.int .i64 d5))
    (t6 : w.cell? ⟨b, o + 6, none⟩ = some (.slice a6 d6.length p6))
    (t7 : w.cell? ⟨b, o + 7, none⟩ = some (.slice a7 d7.length p7)) :
    Calls Tryd.prog 94 #[.pointer (some ⟨b, o, none⟩)] w fun e w' => e = .returned (.bool (stmtOk (8, d1, d2, (d3, d4), (d5, d6), d7))) ∧ w = w' := by
  have hl7 := h7.len_le
  have HS := hid (c_l03Term b (o + 3) d3 a4 p4 d4 w t3 t4 h4)
  have HX := hid (c_l03Term b (o + 5) d5 a6 p6 d6 w t5 t6 h6)
  have HT := hid (c_l03Terms a7 p7 d7 6 w h7)
  have HZ := hid (c_l05Zero b (o + 3) d3 a4 p4 d4.length w t3 t4)
  have HY := hid (c_l05Zero b (o + 5) d5 a6 p6 d6.length w t5 t6)
  clear h4 h6 h7
  have HF0 : Hid (stmtOk (8, d1, d2, (d3, d4), (d5, d6), d7) = (((((d1 == 0) && (d2 == 0)) && overT (d3, d4)) && (d5 == 0 && ((d6.length : Int) == 0))) && areOverF d7 6)) := rfl
  have HK : Hid (inB 8 0 8 = true) := rfl
  have hZs := @zero_over d3 d4
  have hXs := @zero_over d5 d6
  have hFf : ((d7.length : Int) == 0) = true → areOverF d7 6 = true := by intro h; obtain rfl : d7 = [] := List.eq_nil_of_length_eq_zero (by rw [beq_iff_eq] at h; omega); rfl
  obtain ⟨s, hs⟩ : ∃ s, overT (d3, d4) = s := ⟨_, rfl⟩
  obtain ⟨x, hx⟩ : ∃ x, overT (d5, d6) = x := ⟨_, rfl⟩
  obtain ⟨f, hf⟩ : ∃ f, areOverF d7 6 = f := ⟨_, rfl⟩
  obtain ⟨Z, hZ⟩ : ∃ Z, (d3 == 0 && ((d4.length : Int) == 0)) = Z := ⟨_, rfl⟩
  obtain ⟨X, hX⟩ : ∃ X, (d5 == 0 && ((d6.length : Int) == 0)) = X := ⟨_, rfl⟩
  obtain ⟨F, hF⟩ : ∃ F, ((d7.length : Int) == 0) = F := ⟨_, rfl⟩
  have Hs := hid hs
  have Hx := hid hx
  have Hf := hid hf
  have HZv := hid hZ
  have HXv := hid hX
  rw [hs, hZ] at hZs
  rw [hx, hX] at hXs
  rw [hf, hF] at hFf
  rw [hX, hs, hf] at HF0
  have hlen : (F = true ∧ decide ((0 : Int) < (d7.length : Int)) = false ∧ decide (0 < d7.length) = false) ∨ (F = false ∧ decide ((0 : Int) < (d7.length : Int)) = true ∧ decide (0 < d7.length) = true) := by
    rcases Nat.eq_zero_or_pos d7.length with h | h
    · exact .inl ⟨by rw [← hF, beq_iff_eq]; omega, decide_eq_false (by omega), decide_eq_false (by omega)⟩
    · exact .inr ⟨by rw [← hF, beq_eq_false_iff_ne]; omega, decide_eq_true (by omega), decide_eq_true (by omega)⟩
  clear hs hx hf hZ hX hF
  have HI := hid (And.intro hZs (And.intro hXs hFf))
  clear hZs hXs hFf
  rcases hlen with ⟨hF, g1, g2⟩ | ⟨hF, g1, g2⟩
  all_goals
    by_cases hV : d1 = 0
    all_goals
      have gV1 : (d1 == 0) = decide (d1 = 0) := by rw [Bool.eq_iff_iff]; simp
      have gV2 : (d1 != 0) = !decide (d1 = 0) := by rw [← gV1]; rfl
      simp only [hV, decide_true, decide_false, Bool.not_true, Bool.not_false] at gV1 gV2
      go_enter Tryd.func94, Tryd.ntmps94
      go_wp2_with (first | (go_at_call 39; refine (c_l00In _ _ _ _).mono ?_; rintro e' w' ⟨rfl, rfl⟩; first | rw [HK.out]) | (have hkk := mk1; clear hkk; go_at_call 93; refine HX.out.mono ?_; rintro e' w' ⟨rfl, rfl⟩; rw [Hx.out]) | (go_at_call 93; refine HS.out.mono ?_; rintro e' w' ⟨rfl, rfl⟩; rw [Hs.out]; have mk1 := HK) | (go_at_call 58; refine HT.out.mono ?_; rintro e' w' ⟨rfl, rfl⟩; rw [Hf.out]) | (go_at_call 111; refine HY.out.mono ?_; rintro e' w' ⟨rfl, rfl⟩; rw [HXv.out]))
      all_goals
        go_ret
        refine ⟨ret_bool ?_, rfl⟩
        rw [HF0.out]
        obtain ⟨hZs, hXs, hFf⟩ := HI.out
        simp_all
set_option maxHeartbeats 2000000 in
set_option maxRecDepth 100000 in
theorem c_stmto {S : Nat → Prop} {b o : Nat} {d0 d1 d2 d3 : Int} {a4 : Option Addr} {p4 : Nat} {d4 : List Int} {d5 : Int} {a6 : Option Addr} {p6 : Nat} {d6 : List Int} {a7 : Option Addr} {p7 : Nat} {d7 : List Term} {w : World} (hk : d0 < 0 ∨ 8 < d0) (h4 : SlRd cInt S w a4 p4 d4) (h6 : SlRd cInt S w a6 p6 d6) (h7 : SlRd cTerm S w a7 p7 d7)
    (t0 : w.cell? ⟨b, o, none⟩ = some (.int .i64 d0))
    (_t1 : w.cell? ⟨b, o + 1, none⟩ = some (.int .i64 d1))
    (_t2 : w.cell? ⟨b, o + 2, none⟩ = some (.int .i64 d2))
    (t3 : w.cell? ⟨b, o + 3, none⟩ = some (.int .i64 d3))
    (t4 : w.cell? ⟨b, o + 4, none⟩ = some (.slice a4 d4.length p4))
    (t5 : w.cell? ⟨b, o + 5, none⟩ = some (.int .i64 d5))
    (t6 : w.cell? ⟨b, o + 6, none⟩ = some (.slice a6 d6.length p6))
    (_t7 : w.cell? ⟨b, o + 7, none⟩ = some (.slice a7 d7.length p7)) :
    Calls Tryd.prog 94 #[.pointer (some ⟨b, o, none⟩)] w fun e w' => e = .returned (.bool (stmtOk (d0, d1, d2, (d3, d4), (d5, d6), d7))) ∧ w = w' := by
  have hl7 := h7.len_le
  have HS := hid (c_l03Term b (o + 3) d3 a4 p4 d4 w t3 t4 h4)
  have HX := hid (c_l03Term b (o + 5) d5 a6 p6 d6 w t5 t6 h6)
  have HT := hid (c_l03Terms a7 p7 d7 6 w h7)
  have HZ := hid (c_l05Zero b (o + 3) d3 a4 p4 d4.length w t3 t4)
  have HY := hid (c_l05Zero b (o + 5) d5 a6 p6 d6.length w t5 t6)
  clear h4 h6 h7
  have HF : Hid (stmtOk (d0, d1, d2, (d3, d4), (d5, d6), d7) = false) := by unfold Hid stmtOk; simp only; rw [if_neg (show ¬ d0 = 0 by omega)]; rw [if_neg (show ¬ d0 = 1 by omega)]; rw [if_neg (show ¬ d0 = 2 by omega)]; rw [if_neg (show ¬ d0 = 3 by omega)]; rw [if_neg (show ¬ d0 = 4 by omega)]; rw [if_neg (show ¬ d0 = 5 by omega)]; rw [if_neg (show ¬ d0 = 6 by omega)]; rw [if_neg (show ¬ d0 = 7 by omega)]; rw [if_neg (show ¬ d0 = 8 by omega)]
  have HK : Hid (inB d0 0 8 = false) := by unfold Hid; cases h9 : inB d0 0 8 with
    | false => rfl
    | true => have := inB_iff.1 h9; omega
  have e0 : (d0 == 0) = false := by rw [beq_eq_false_iff_ne]; omega
  have e1 : (d0 == 1) = false := by rw [beq_eq_false_iff_ne]; omega
  have e2 : (d0 == 2) = false := by rw [beq_eq_false_iff_ne]; omega
  have e3 : (d0 == 3) = false := by rw [beq_eq_false_iff_ne]; omega
  have e4 : (d0 == 4) = false := by rw [beq_eq_false_iff_ne]; omega
  have e5 : (d0 == 5) = false := by rw [beq_eq_false_iff_ne]; omega
  have e6 : (d0 == 6) = false := by rw [beq_eq_false_iff_ne]; omega
  have e7 : (d0 == 7) = false := by rw [beq_eq_false_iff_ne]; omega
  have e8 : (d0 == 8) = false := by rw [beq_eq_false_iff_ne]; omega
  clear hk
  go_enter Tryd.func94, Tryd.ntmps94
  go_wp2_with (go_at_call 39; refine (c_l00In _ _ _ _).mono ?_; rintro e' w' ⟨rfl, rfl⟩; rw [HK.out])
  go_ret
  exact ⟨ret_bool HF.out.symm, rfl⟩
theorem c_l03Stmt {S : Nat → Prop} {b o : Nat} {d0 d1 d2 d3 : Int} {a4 : Option Addr} {p4 : Nat} {d4 : List Int} {d5 : Int} {a6 : Option Addr} {p6 : Nat} {d6 : List Int} {a7 : Option Addr} {p7 : Nat} {d7 : List Term} {w : World} (h4 : SlRd cInt S w a4 p4 d4) (h6 : SlRd cInt S w a6 p6 d6) (h7 : SlRd cTerm S w a7 p7 d7)
    (t0 : w.cell? ⟨b, o, none⟩ = some (.int .i64 d0))
    (t1 : w.cell? ⟨b, o + 1, none⟩ = some (.int .i64 d1))
    (t2 : w.cell? ⟨b, o + 2, none⟩ = some (.int .i64 d2))
    (t3 : w.cell? ⟨b, o + 3, none⟩ = some (.int .i64 d3))
    (t4 : w.cell? ⟨b, o + 4, none⟩ = some (.slice a4 d4.length p4))
    (t5 : w.cell? ⟨b, o + 5, none⟩ = some (.int .i64 d5))
    (t6 : w.cell? ⟨b, o + 6, none⟩ = some (.slice a6 d6.length p6))
    (t7 : w.cell? ⟨b, o + 7, none⟩ = some (.slice a7 d7.length p7)) :
    Calls Tryd.prog 94 #[.pointer (some ⟨b, o, none⟩)] w fun e w' => e = .returned (.bool (stmtOk (d0, d1, d2, (d3, d4), (d5, d6), d7))) ∧ w = w' := by
  by_cases g0 : d0 = 0
  · subst g0; exact c_stmt0 h4 h6 h7 t0 t1 t2 t3 t4 t5 t6 t7
  by_cases g1 : d0 = 1
  · subst g1; exact c_stmt1 h4 h6 h7 t0 t1 t2 t3 t4 t5 t6 t7
  by_cases g2 : d0 = 2
  · subst g2; exact c_stmt2 h4 h6 h7 t0 t1 t2 t3 t4 t5 t6 t7
  by_cases g3 : d0 = 3
  · subst g3; exact c_stmt3 h4 h6 h7 t0 t1 t2 t3 t4 t5 t6 t7
  by_cases g4 : d0 = 4
  · subst g4; exact c_stmt4 h4 h6 h7 t0 t1 t2 t3 t4 t5 t6 t7
  by_cases g5 : d0 = 5
  · subst g5; exact c_stmt5 h4 h6 h7 t0 t1 t2 t3 t4 t5 t6 t7
  by_cases g6 : d0 = 6
  · subst g6; exact c_stmt6 h4 h6 h7 t0 t1 t2 t3 t4 t5 t6 t7
  by_cases g7 : d0 = 7
  · subst g7; exact c_stmt7 h4 h6 h7 t0 t1 t2 t3 t4 t5 t6 t7
  by_cases g8 : d0 = 8
  · subst g8; exact c_stmt8 h4 h6 h7 t0 t1 t2 t3 t4 t5 t6 t7
  exact c_stmto (by omega) h4 h6 h7 t0 t1 t2 t3 t4 t5 t6 t7
end Go.Proofs.YtcmopmapdomneaaDoor
end

section
namespace Go.Proofs.YtcmopmapdomneaaDoor
open Go.RowKit

def belowI (k : Int) : Int := if k = 1 then 2 else if k = 7 then 2 else if k = 8 then 1 else 0
theorem c_l03Below (k : Int) (w : World) : Calls Tryd.prog 96 #[.int .i64 k] w fun e w' => e = .returned (.int .i64 (belowI k)) ∧ w = w' := by
  by_cases h1 : k = 1
  · subst h1; go_enter Tryd.func96, Tryd.ntmps96; go_wp2; go_ret; exact ⟨rfl, rfl⟩
  · have e1 : (k == 1) = false := by rw [beq_eq_false_iff_ne]; exact h1
    by_cases h2 : k = 7
    · subst h2; go_enter Tryd.func96, Tryd.ntmps96; go_wp2; go_ret; exact ⟨rfl, rfl⟩
    · have e2 : (k == 7) = false := by rw [beq_eq_false_iff_ne]; exact h2
      by_cases h3 : k = 8
      · subst h3; go_enter Tryd.func96, Tryd.ntmps96; go_wp2; go_ret; exact ⟨rfl, rfl⟩
      · have e3 : (k == 8) = false := by rw [beq_eq_false_iff_ne]; exact h3
        have HF : Hid (belowI k = 0) := by unfold Hid belowI; rw [if_neg h1, if_neg h2, if_neg h3]
        clear h1 h2 h3
        go_enter Tryd.func96, Tryd.ntmps96
        go_wp2
        go_ret
        exact ⟨ret_int HF.out.symm, rfl⟩
def bN (ps : List Stmt) (i : Nat) : Nat := match ps[i]? with
  | some d => stmtBe d
  | none => 0
theorem bN_at {ps : List Stmt} {k : Nat} {d : Stmt} (h : ps[k]? = some d) : bN ps k = stmtBe d := by unfold bN; rw [h]
theorem stmtBe_int (d : Stmt) : ((stmtBe d : Nat) : Int) = if d.1 = 1 then 2 else if d.1 = 7 then 2 else if d.1 = 8 then 1 else 0 := by
  unfold stmtBe; split
  · rfl
  · split
    · rfl
    · split <;> rfl
theorem stmtBe_le (d : Stmt) : stmtBe d ≤ 2 := by
  unfold stmtBe; split
  · omega
  · split
    · omega
    · split <;> omega
def endB (ps : List Stmt) (k : Nat) : Option Nat := walkT (fun i => some (bN ps i)) ps.length 1 k
theorem stN_be {ps : List Stmt} (i a : Nat) (h : stN ps i = some a) : a = bN ps i := by
  unfold stN at h
  cases hd : ps[i]? with
  | none => rw [hd] at h; cases h
  | some d =>
    rw [hd] at h
    rw [bN_at hd]
    simp only [stmtAr] at h
    split at h
    · cases h; rfl
    · cases h
theorem all_stN (ps : List Stmt) : (List.range ps.length).all (fun i => (stN ps i).isSome) = ps.all stmtOk := by
  have h1 : ∀ i (d : Stmt), ps[i]? = some d → (stN ps i).isSome = stmtOk d := by
    intro i d h
    rw [stN_at h]; unfold stmtAr; split <;> simp_all
  rw [Bool.eq_iff_iff, List.all_eq_true, List.all_eq_true]
  constructor
  · intro h d hd
    obtain ⟨i, hi, hd⟩ := List.getElem_of_mem hd
    have := h i (List.mem_range.2 hi)
    rw [h1 i d (by rw [List.getElem?_eq_getElem hi, hd])] at this
    exact this
  · intro h i hi
    have hi := List.mem_range.1 hi
    rw [h1 i ps[i] (List.getElem?_eq_getElem hi)]
    exact h _ (List.getElem_mem hi)
theorem body_split (ps : List Stmt) : bodyF ps = ((inB (ps.length : Int) 1 30 && ps.all stmtOk) && (endI (endB ps 0) == (ps.length : Int))) := by
  unfold bodyF
  rw [tree_split (stN ps) (bN ps) ps.length stN_be, all_stN]
  have h2 : treeB (fun i => some (bN ps i)) ps.length = (decide (1 ≤ ps.length) && (endI (endB ps 0) == (ps.length : Int))) := by
    rw [Bool.eq_iff_iff]
    constructor
    · intro h
      have h1 := treeB_pos h
      unfold treeB at h
      rw [decide_eq_true_eq] at h
      unfold endB
      rw [h]
      simp [endI]; exact h1
    · intro h
      simp only [Bool.and_eq_true, decide_eq_true_eq, beq_iff_eq] at h
      unfold treeB
      rw [decide_eq_true_eq]
      obtain ⟨h1, h2⟩ := h
      unfold endB endI at h2
      cases hw : walkT (fun i => some (bN ps i)) ps.length 1 0 with
      | none => rw [hw] at h2; exfalso; simp only at h2; omega
      | some e => rw [hw] at h2; simp only at h2; congr 1; omega
  rw [h2]
  have h3 : inB (ps.length : Int) 1 30 = (decide (1 ≤ ps.length) && decide (ps.length ≤ 30)) := by
    rw [Bool.eq_iff_iff, inB_iff]; simp; omega
  rw [h3]
  cases decide (ps.length ≤ 30) <;> cases decide (1 ≤ ps.length) <;> cases ps.all stmtOk <;> simp
theorem endB_eq {ps : List Stmt} (h : bodyF ps = true) {k : Nat} (hk : k < ps.length) : endI (endB ps k) = (endAt ps k : Nat) := by
  obtain ⟨_, h1⟩ := body_walk h
  obtain ⟨e, he, _⟩ := walkT_in _ 1 0 _ (Nat.le_refl _) h1 k (Nat.zero_le _) hk
  have : endB ps k = walkT (stN ps) ps.length 1 k := walkT_congr _ 1 k (Nat.le_refl _) fun i hi _ => by
    obtain ⟨a, ha⟩ := walkT_seen _ 1 0 _ (Nat.le_refl _) h1 i (Nat.zero_le _) hi
    rw [ha, stN_be i a ha]
  rw [this, he]
  show (e : Int) = _
  rw [show endAt ps k = e from endE_of he]
set_option maxRecDepth 100000 in
theorem c_l03End {S : Nat → Prop} {a : Option Addr} {p : Nat} {ps : List Stmt} {k : Nat} {w : World} (h : SlRd cStmt S w a p ps) (hn : ps.length ≤ 30) (hk : k ≤ ps.length) :
    Calls Tryd.prog 95 #[.slice a ps.length p, .int .i64 k] w fun e w' => e = .returned (.int .i64 (endI (endB ps k))) ∧ w = w' := by
  have H := hid h
  clear h
  go_enter Tryd.func95, Tryd.ntmps95
  go_wp2
  go_loop [1, 5] (fun kv cv => ∃ k' c : Nat, kv = .int .i64 k' ∧ cv = .int .i64 c ∧ k' ≤ ps.length ∧ c ≤ k' + 1 ∧ Hid (endB ps k = walkT (fun i => some (bN ps i)) ps.length c k')) (fun kv _ => ps.length - (intOf kv).toNat)
  case atStart => exact ⟨k, 1, rfl, rfl, hk, by omega, rfl⟩
  case round =>
    obtain ⟨k', c, rfl, rfl, hk', hc, HW⟩ := hrel
    by_cases hc0 : c = 0
    · subst hc0
      have HF : Hid (endI (endB ps k) = (k' : Int)) := by unfold Hid; rw [HW.out, walkT_zero]; rfl
      clear HW
      go_wp2
      go_ret
      exact ⟨ret_int HF.out.symm, rfl⟩
    · obtain ⟨c', rfl⟩ : ∃ c', c = c' + 1 := ⟨c - 1, by omega⟩
      have e1 : decide ((0 : Int) < (c' : Int) + 1) = true := decide_eq_true (by omega)
      clear hc0
      by_cases hlt : k' < ps.length
      · obtain ⟨b, off, rfl⟩ := H.out.some_of hlt
        obtain ⟨d0, d1, d2, d3, a4, p4, d4, d5, a6, p6, d6, a7, p7, d7, hz, hi0, hi1, hi2, hi3, hi5, hs4, hs6, hs7, hc0, hc1, hc2, hc3, hc4, hc5, hc6, hc7, hb⟩ := H.out.stmt_at k' hlt
        have hne : ((k' : Int) == (ps.length : Int)) = false := by rw [beq_eq_false_iff_ne]; omega
        have i0 : (0 : Int) ≤ (k' : Int) := by omega
        have i1 : (k' : Int) < (ps.length : Int) := by omega
        have hw1 : IntKind.i64.wrap ((k' : Int) + 1) = (k' : Int) + 1 := wrap_in _ (by omega) (by omega)
        obtain ⟨B, hB⟩ : ∃ B, bN ps k' = B := ⟨_, rfl⟩
        have hBd : B = stmtBe (d0, d1, d2, (d3, d4), (d5, d6), d7) := by rw [← hB]; exact bN_at hz
        have hB2 : B ≤ 2 := by rw [hBd]; exact stmtBe_le _
        have HBI : Hid (belowI d0 = (B : Int)) := by unfold Hid belowI; rw [hBd, stmtBe_int]
        have HN : Hid (endB ps k = walkT (fun i => some (bN ps i)) ps.length (c' + B) (k' + 1)) := by rw [← hB]; exact HW.out.trans (walkT_go (a := bN ps k') hlt rfl)
        have hw2 : IntKind.i64.wrap ((B : Int) - 1) = (B : Int) - 1 := wrap_in _ (by omega) (by omega)
        have hw3 : IntKind.i64.wrap ((c' : Int) + 1 + ((B : Int) - 1)) = ((c' + B : Nat) : Int) := by rw [wrap_in _ (by omega) (by omega)]; omega
        clear hz hs4 hs6 hs7 hi1 hi2 hi3 hi5 hc1 hc2 hc3 hc4 hc5 hc6 hc7 HW hBd hB
        go_wp2_with (go_at_call 96; refine (c_l03Below _ _).mono ?_; rintro e w1 ⟨rfl, rfl⟩; rw [HBI.out])
        go_round
        case rel => exact ⟨k' + 1, c' + B, by go_num, rfl, by omega, by omega, HN⟩
        case measure => simp [intOf] <;> omega
      · have hne : ((k' : Int) == (ps.length : Int)) = true := by rw [beq_iff_eq]; omega
        have HF : Hid (endI (endB ps k) = -1) := by unfold Hid; rw [HW.out, walkT_out (by omega)]; rfl
        clear HW
        go_wp2
        go_ret
        exact ⟨ret_int HF.out.symm, rfl⟩
set_option maxRecDepth 100000 in
theorem c_l03Body {S : Nat → Prop} {a : Option Addr} {p : Nat} {ps : List Stmt} {w : World} (h : SlRd cStmt S w a p ps) :
    Calls Tryd.prog 59 #[.slice a ps.length p] w fun e w' => e = .returned (.bool (bodyF ps)) ∧ w = w' := by
  have hl := h.len_le
  have H := hid h
  clear h
  have HS := hid (body_split ps)
  obtain ⟨I, hI⟩ : ∃ I, inB (ps.length : Int) 1 30 = I := ⟨_, rfl⟩
  have HI := hid hI
  have hlen : I = true → ps.length ≤ 30 := by rintro rfl; have := inB_iff.1 hI; omega
  have HF : Hid (bodyF ps = ((I && ps.all stmtOk) && (endI (endB ps 0) == (ps.length : Int)))) := by unfold Hid; rw [HS.out, hI]
  clear hI HS
  cases I
  · clear hlen
    go_enter Tryd.func59, Tryd.ntmps59
    go_wp2_with (go_at_call 39; refine (c_l00In _ _ _ _).mono ?_; rintro e w1 ⟨rfl, rfl⟩; rw [HI.out])
    go_ret
    exact ⟨ret_bool (by rw [HF.out]; rfl), rfl⟩
  · have hn := hlen rfl
    have HE := hid (c_l03End (k := 0) H.out hn (Nat.zero_le _))
    clear hlen
    go_enter Tryd.func59, Tryd.ntmps59
    go_wp2_with (go_at_call 39; refine (c_l00In _ _ _ _).mono ?_; rintro e w1 ⟨rfl, rfl⟩; rw [HI.out])
    go_loop [3] (fun i => ∃ k : Nat, k ≤ ps.length ∧ i = .int .i64 k ∧ Hid ((ps.take k).all stmtOk = true)) (fun i => ps.length - (intOf i).toNat)
    case atStart => exact ⟨0, Nat.zero_le _, rfl, rfl⟩
    case round =>
      obtain ⟨k, hk, rfl, HA⟩ := hrel
      by_cases hlt : k < ps.length
      · obtain ⟨b, off, rfl⟩ := H.out.some_of hlt
        obtain ⟨d0, d1, d2, d3, a4, p4, d4, d5, a6, p6, d6, a7, p7, d7, hz, hi0, hi1, hi2, hi3, hi5, hs4, hs6, hs7, hc0, hc1, hc2, hc3, hc4, hc5, hc6, hc7, hb⟩ := H.out.stmt_at k hlt
        have HZ := hid hz
        have HN := hid (c_l03Stmt hs4 hs6 hs7 hc0 hc1 hc2 hc3 hc4 hc5 hc6 hc7)
        obtain ⟨r, hr⟩ : ∃ r, stmtOk (d0, d1, d2, (d3, d4), (d5, d6), d7) = r := ⟨_, rfl⟩
        have HR := hid hr
        clear hz hs4 hs6 hs7 hi0 hi1 hi2 hi3 hi5 hc0 hc1 hc2 hc3 hc4 hc5 hc6 hc7 hr
        cases r
        · have HG : Hid (ps.all stmtOk = false) := all_false HZ.out HR.out
          go_wp2_with (go_at_call 94; refine HN.out.mono ?_; rintro e w1 ⟨rfl, rfl⟩; rw [HR.out])
          go_ret
          exact ⟨ret_bool (by rw [HF.out, HG.out]; rfl), rfl⟩
        · go_wp2_with (go_at_call 94; refine HN.out.mono ?_; rintro e w1 ⟨rfl, rfl⟩; rw [HR.out])
          go_round
          case rel => exact ⟨k + 1, by omega, by go_num, (all_take HA.out HZ.out).trans HR.out⟩
          case measure => simp [intOf]; omega
      · have HG : Hid (ps.all stmtOk = true) := all_end HA.out (by omega)
        go_wp2_with (go_at_call 95; refine HE.out.mono ?_; rintro e w1 ⟨rfl, rfl⟩)
        go_ret
        exact ⟨ret_bool (by rw [HF.out, HG.out]; rfl), rfl⟩
set_option maxRecDepth 100000 in
theorem c_l03Is {S : Nat → Prop} {b : Nat} {a0 : Option Addr} {p0 : Nat} {d0 : List Term} {a1 : Option Addr} {p1 : Nat} {d1 : List Stmt} {a2 : Option Addr} {p2 : Nat} {d2 : List Term} {w : World} (h0 : SlRd cTerm S w a0 p0 d0) (h1 : SlRd cStmt S w a1 p1 d1) (h2 : SlRd cTerm S w a2 p2 d2)
    (t0 : w.cell? ⟨b, 0, none⟩ = some (.slice a0 d0.length p0)) (t1 : w.cell? ⟨b, 1, none⟩ = some (.slice a1 d1.length p1)) (t2 : w.cell? ⟨b, 2, none⟩ = some (.slice a2 d2.length p2)) :
    Calls Tryd.prog 29 #[.pointer (some ⟨b, 0, none⟩)] w fun e w' => e = .returned (.bool (progF (d0, d1, d2))) ∧ w = w' := by
  have C0 := hid (c_l03Terms a0 p0 d0 6 w h0)
  have C1 := hid (c_l03Body h1)
  have C2 := hid (c_l03Terms a2 p2 d2 6 w h2)
  clear h0 h1 h2
  obtain ⟨r, hr⟩ : ∃ r, bodyF d1 = r := ⟨_, rfl⟩
  obtain ⟨q, hq⟩ : ∃ q, areOverF d0 6 = q := ⟨_, rfl⟩
  obtain ⟨u, hu⟩ : ∃ u, areOverF d2 6 = u := ⟨_, rfl⟩
  have HF : Hid (progF (d0, d1, d2) = ((r && q) && u)) := by unfold Hid progF; rw [hr, hq, hu]
  have HR := hid hr
  have HQ := hid hq
  have HU := hid hu
  clear hr hq hu
  cases q
  all_goals
    cases r
    all_goals
      cases u
      all_goals
        go_enter Tryd.func29, Tryd.ntmps29
        go_wp2_with (first | (have hkk := mk1; clear hkk; go_at_call 58; refine C2.out.mono ?_; rintro e w1 ⟨rfl, rfl⟩; rw [HU.out]) | (go_at_call 58; refine C0.out.mono ?_; rintro e w1 ⟨rfl, rfl⟩; rw [HQ.out]; have mk1 := HF) | (go_at_call 59; refine C1.out.mono ?_; rintro e w1 ⟨rfl, rfl⟩; rw [HR.out]))
        go_ret
        exact ⟨ret_bool (by rw [HF.out]; rfl), rfl⟩
end Go.Proofs.YtcmopmapdomneaaDoor
end

section
namespace Go.Proofs.YtcmopmapdomneaaDoor
open Go.RowKit

def vnT (v : Int) : List UInt8 := [UInt8.ofNat (97 + v.toNat)]
def stmtT (d : Stmt) (A B : List (List UInt8)) : List (List UInt8) :=
  if d.1 = 0 then [[115, 107, 105, 112]]
  else if d.1 = 1 then A ++ B
  else if d.1 = 2 then [(([115, 101, 116, 32] ++ vnT d.2.1) ++ [32]) ++ textF d.2.2.2.1]
  else if d.1 = 3 then [(([103, 101, 116, 32] ++ vnT d.2.1) ++ [32]) ++ textF d.2.2.2.2.1]
  else if d.1 = 4 then [(([112, 117, 116, 32] ++ textF d.2.2.2.2.1) ++ [32]) ++ textF d.2.2.2.1]
  else if d.1 = 5 then [[101, 109, 105, 116, 32] ++ Lib.itoa d.2.2.1]
  else if d.1 = 6 then [[97, 115, 115, 101, 114, 116, 32] ++ textF d.2.2.2.1]
  else if d.1 = 7 then ((([[105, 102, 32] ++ textF d.2.2.2.1] ++ A) ++ [[101, 108, 115, 101]]) ++ B) ++ [[101, 110, 100]]
  else ((([[119, 104, 105, 108, 101, 32] ++ textF d.2.2.2.1] ++ factT [105, 110, 118] d.2.2.2.2.2) ++ [[100, 111]]) ++ A) ++ [[101, 110, 100]]
def linesF (ps : List Stmt) : Nat → Nat → List (List UInt8)
  | 0, _ => []
  | m + 1, k => match ps[k]? with
    | none => []
    | some d => stmtT d (linesF ps m (k + 1)) (linesF ps m (endAt ps (k + 1)))
theorem linesF_at {ps : List Stmt} {m k : Nat} {d : Stmt} (h : ps[k]? = some d) : linesF ps (m + 1) k = stmtT d (linesF ps m (k + 1)) (linesF ps m (endAt ps (k + 1))) := by
  show (match ps[k]? with | none => [] | some d => stmtT d (linesF ps m (k + 1)) (linesF ps m (endAt ps (k + 1)))) = _
  rw [h]
theorem zeroT_valid {t : Term} (h : zeroT t = true) : validTerm t = true := by
  obtain ⟨c, zs⟩ := t
  simp only [zeroT, Bool.and_eq_true, beq_iff_eq] at h
  obtain ⟨rfl, h2⟩ := h
  obtain rfl : zs = [] := List.length_eq_zero_iff.1 (by omega)
  rfl
theorem overT_valid {t : Term} (h : overT t = true) : validTerm t = true := by
  simp only [overT, Bool.and_eq_true] at h; exact h.1
/-- What the checks on a statement give. -/
structure StmtOk (d : Stmt) : Prop where
  sum : validTerm d.2.2.2.1 = true
  idx : validTerm d.2.2.2.2.1 = true
  kind : 0 ≤ d.1 ∧ d.1 ≤ 8
  var : d.1 = 2 ∨ d.1 = 3 → 0 ≤ d.2.1 ∧ d.2.1 ≤ 3
  ev : 0 ≤ d.2.2.1 ∧ d.2.2.1 ≤ 3
  facts : areOverF d.2.2.2.2.2 6 = true
theorem nil_over {ts : List Term} (h : ((ts.length : Int) == 0) = true) : areOverF ts 6 = true := by
  obtain rfl : ts = [] := List.length_eq_zero_iff.1 (by simpa using h)
  rfl
theorem stmtOk_of {d : Stmt} (h : stmtOk d = true) : StmtOk d := by
  obtain ⟨d0, d1, d2, d3, d4, d5⟩ := d
  unfold stmtOk at h
  simp only at h
  split at h
  · rename_i hk
    simp only [stm0, Bool.and_eq_true, beq_iff_eq] at h
    obtain ⟨⟨⟨⟨h1, h2⟩, h3⟩, h4⟩, h5⟩ := h
    exact ⟨zeroT_valid h3, zeroT_valid h4, by simp only; omega, fun hh => by simp only at hh; omega, by simp only; omega, nil_over (by simpa using h5)⟩
  split at h
  · rename_i hk
    simp only [stm1, Bool.and_eq_true, beq_iff_eq] at h
    obtain ⟨⟨⟨⟨h1, h2⟩, h3⟩, h4⟩, h5⟩ := h
    exact ⟨zeroT_valid h3, zeroT_valid h4, by simp only; omega, fun hh => by simp only at hh; omega, by simp only; omega, nil_over (by simpa using h5)⟩
  split at h
  · rename_i hk
    simp only [stm2, Bool.and_eq_true, beq_iff_eq] at h
    obtain ⟨⟨⟨⟨h1, h2⟩, h3⟩, h4⟩, h5⟩ := h
    have := inB_iff.1 h1
    exact ⟨overT_valid h3, zeroT_valid h4, by simp only; omega, fun hh => by simp only at hh; simp only; omega, by simp only; omega, nil_over (by simpa using h5)⟩
  split at h
  · rename_i hk
    simp only [stm3, Bool.and_eq_true, beq_iff_eq] at h
    obtain ⟨⟨⟨⟨h1, h2⟩, h3⟩, h4⟩, h5⟩ := h
    have := inB_iff.1 h1
    exact ⟨zeroT_valid h3, overT_valid h4, by simp only; omega, fun hh => by simp only at hh; simp only; omega, by simp only; omega, nil_over (by simpa using h5)⟩
  split at h
  · rename_i hk
    simp only [stm4, Bool.and_eq_true, beq_iff_eq] at h
    obtain ⟨⟨⟨⟨h1, h2⟩, h3⟩, h4⟩, h5⟩ := h
    exact ⟨overT_valid h3, overT_valid h4, by simp only; omega, fun hh => by simp only at hh; omega, by simp only; omega, nil_over (by simpa using h5)⟩
  split at h
  · rename_i hk
    simp only [stm5, Bool.and_eq_true, beq_iff_eq] at h
    obtain ⟨⟨⟨⟨h1, h2⟩, h3⟩, h4⟩, h5⟩ := h
    have := inB_iff.1 h2
    exact ⟨zeroT_valid h3, zeroT_valid h4, by simp only; omega, fun hh => by simp only at hh; omega, by simp only; omega, nil_over (by simpa using h5)⟩
  split at h
  · rename_i hk
    simp only [stm6, Bool.and_eq_true, beq_iff_eq] at h
    obtain ⟨⟨⟨⟨h1, h2⟩, h3⟩, h4⟩, h5⟩ := h
    exact ⟨overT_valid h3, zeroT_valid h4, by simp only; omega, fun hh => by simp only at hh; omega, by simp only; omega, nil_over (by simpa using h5)⟩
  split at h
  · rename_i hk
    simp only [stm7, Bool.and_eq_true, beq_iff_eq] at h
    obtain ⟨⟨⟨⟨h1, h2⟩, h3⟩, h4⟩, h5⟩ := h
    exact ⟨overT_valid h3, zeroT_valid h4, by simp only; omega, fun hh => by simp only at hh; omega, by simp only; omega, nil_over (by simpa using h5)⟩
  split at h
  · rename_i hk
    simp only [stm8, Bool.and_eq_true, beq_iff_eq] at h
    obtain ⟨⟨⟨⟨h1, h2⟩, h3⟩, h4⟩, h5⟩ := h
    exact ⟨overT_valid h3, zeroT_valid h4, by simp only; omega, fun hh => by simp only at hh; omega, by simp only; omega, h5⟩
  · cases h
/-- The statements inside a statement that ends at e. -/
theorem tree_kids {ps : List Stmt} {k e : Nat} {d : Stmt} (hd : ps[k]? = some d) (hok : stmtOk d = true) (hw : walkT (stN ps) ps.length 1 k = some e) :
    (stmtBe d = 0 → e = k + 1) ∧ (stmtBe d = 1 → walkT (stN ps) ps.length 1 (k + 1) = some e) ∧ (stmtBe d = 2 → walkT (stN ps) ps.length 1 (k + 1) = some (endAt ps (k + 1)) ∧ walkT (stN ps) ps.length 1 (endAt ps (k + 1)) = some e) := by
  have hlt := (List.getElem?_eq_some_iff.1 hd).1
  have ha : stN ps k = some (stmtBe d) := by rw [stN_at hd]; unfold stmtAr; rw [if_pos hok]
  rw [walkT_one hlt ha] at hw
  refine ⟨fun h => ?_, fun h => ?_, fun h => ?_⟩
  · rw [h, walkT_zero] at hw; cases hw; rfl
  · rw [h] at hw; exact hw
  · rw [h, walkT_step] at hw
    cases h1 : walkT (stN ps) ps.length 1 (k + 1) with
    | none => rw [h1] at hw; cases hw
    | some e1 =>
      rw [h1] at hw
      have : endAt ps (k + 1) = e1 := endE_of h1
      rw [this]
      exact ⟨rfl, hw⟩
theorem be_kind {d : Stmt} (_ : 0 ≤ d.1 ∧ d.1 ≤ 8) : (stmtBe d = 0 ∧ d.1 ≠ 1 ∧ d.1 ≠ 7 ∧ d.1 ≠ 8) ∨ (stmtBe d = 1 ∧ d.1 = 8) ∨ (stmtBe d = 2 ∧ d.1 = 1) ∨ (stmtBe d = 2 ∧ d.1 = 7) := by
  unfold stmtBe
  split
  · exact .inr (.inr (.inl ⟨rfl, by assumption⟩))
  · split
    · exact .inr (.inr (.inr ⟨rfl, by assumption⟩))
    · split
      · exact .inr (.inl ⟨rfl, by assumption⟩)
      · exact .inl ⟨rfl, by assumption, by assumption, by assumption⟩
theorem nlF_one (z : List UInt8) : nlF [z] = z ++ [10] := by simp [nlF]
theorem factT_bounds {wd : List UInt8} {ts : List Term} (hw : wd.length ≤ 8) (h : areOverF ts 6 = true) : (nlF (factT wd ts)).length ≤ 1578 ∧ (factT wd ts).length ≤ 6 := by
  have h1 := over_len h
  have h2 := nlF_len (factT_line hw h)
  rw [factT_len] at h2 ⊢
  exact ⟨by have : ts.length * (262 + 1) ≤ 6 * (262 + 1) := Nat.mul_le_mul_right _ h1; omega, h1⟩
theorem linesF_bounds {ps : List Stmt} : ∀ (m k e : Nat), walkT (stN ps) ps.length 1 k = some e → (nlF (linesF ps m k)).length ≤ 2000 * (e - k) ∧ (linesF ps m k).length ≤ 10 * (e - k) := by
  intro m
  induction m with
  | zero => intro k e _; exact ⟨Nat.zero_le _, Nat.zero_le _⟩
  | succ m ih =>
    intro k e hw
    have hge := walkT_ge ps.length 1 k e (by omega) hw
    obtain ⟨a, ha⟩ := walkT_seen ps.length 1 k e (by omega) hw k (Nat.le_refl _) (by omega)
    cases hd : ps[k]? with
    | none => unfold stN at ha; rw [hd] at ha; cases ha
    | some d =>
      have hok : stmtOk d = true := by
        rw [stN_at hd] at ha
        unfold stmtAr at ha
        split at ha
        · assumption
        · cases ha
      have ok := stmtOk_of hok
      have l1 := textF_len ok.sum
      have l2 := textF_len ok.idx
      obtain ⟨k0, k1, k2⟩ := tree_kids hd hok hw
      rw [linesF_at hd]
      obtain ⟨l3, l4⟩ := factT_bounds (wd := [105, 110, 118]) (by decide) ok.facts
      have l5 := Lib.itoa_length_le d.2.2.1 (by have := ok.ev; omega) (by have := ok.ev; omega)
      have l6 : (vnT d.2.1).length = 1 := rfl
      rcases be_kind ok.kind with ⟨hb, n1, n7, n8⟩ | ⟨hb, h8⟩ | ⟨hb, h1⟩ | ⟨hb, h7⟩
      · have := k0 hb
        subst this
        unfold stmtT
        have hkk := ok.kind
        rw [if_neg n1]
        repeat' split
        all_goals
          first
            | (rw [nlF_one]; simp only [List.length_append, List.length_cons, List.length_nil]; omega)
            | (exfalso; omega)
      · obtain ⟨g1, g2⟩ := ih _ _ (k1 hb)
        have hge2 := walkT_ge ps.length 1 (k + 1) e (by omega) (k1 hb)
        unfold stmtT
        rw [if_neg (by omega), if_neg (by omega), if_neg (by omega), if_neg (by omega), if_neg (by omega), if_neg (by omega), if_neg (by omega), if_neg (by omega)]
        simp only [nlF_append, nlF_one, List.length_append, List.length_cons, List.length_nil]
        omega
      · obtain ⟨w1, w2⟩ := k2 hb
        obtain ⟨g1, g2⟩ := ih _ _ w1
        obtain ⟨g3, g4⟩ := ih _ _ w2
        have hge1 := walkT_ge ps.length 1 _ _ (by omega) w1
        have hge2 := walkT_ge ps.length 1 _ _ (by omega) w2
        unfold stmtT
        rw [if_neg (by omega), if_pos h1]
        simp only [nlF_append, List.length_append]
        omega
      · obtain ⟨w1, w2⟩ := k2 hb
        obtain ⟨g1, g2⟩ := ih _ _ w1
        obtain ⟨g3, g4⟩ := ih _ _ w2
        have hge1 := walkT_ge ps.length 1 _ _ (by omega) w1
        have hge2 := walkT_ge ps.length 1 _ _ (by omega) w2
        unfold stmtT
        rw [if_neg (by omega), if_neg (by omega), if_neg (by omega), if_neg (by omega), if_neg (by omega), if_neg (by omega), if_neg (by omega), if_pos h7]
        simp only [nlF_append, nlF_one, List.length_append, List.length_cons, List.length_nil]
        omega
def progLines (p : Pg) : List (List UInt8) := (factT [112, 114, 101] p.1 ++ linesF p.2.1 p.2.1.length 0) ++ factT [112, 111, 115, 116] p.2.2
def progTextF (p : Pg) : List UInt8 × Bool := if progF p then (nlF (progLines p), true) else ([], false)
end Go.Proofs.YtcmopmapdomneaaDoor
end

section
namespace Go.Proofs.YtcmopmapdomneaaDoor
open Go.RowKit

theorem SlRd.sub {α : Type} {C : Codec α} {S : Nat → Prop} {w : World} {b off cap : Nat} {xs : List α} (h : SlRd C S w (some ⟨b, off, none⟩) cap xs) {i n off' : Nat} (hi : i + n ≤ xs.length) (ho : n = 0 ∨ off' = off + i * C.n) : SlRd C S w (some ⟨b, off', none⟩) (cap - i) ((xs.drop i).take n) := by
  obtain ⟨h1, h2, h3, h4⟩ := h
  have hl : ((xs.drop i).take n).length = n := by rw [List.length_take, List.length_drop]; omega
  refine ⟨by rw [hl]; omega, by omega, by simp, ?_⟩
  rintro x hx j d hd
  cases hx
  have hj := (List.getElem?_eq_some_iff.1 hd).1
  rw [hl] at hj
  have ho' : off' = off + i * C.n := by rcases ho with h | h; (omega); exact h
  subst ho'
  rw [List.getElem?_take, if_pos hj, List.getElem?_drop] at hd
  obtain ⟨g1, cs, g2, g3⟩ := h4 _ rfl (i + j) d hd
  refine ⟨g1, cs, g2, fun t u ht => ?_⟩
  have := g3 t u ht
  rw [Nat.add_mul] at this
  rw [show off + i * C.n + j * C.n + t = off + (i * C.n + j * C.n) + t by omega]
  exact this
theorem walkT_sub {ar br : Nat → Option Nat} {n n' k : Nat} (hab : ∀ i a, i < n' → ar (k + i) = some a → br i = some a) (hn : k + n' ≤ n) : ∀ (f c i e : Nat), n' - i ≤ f → walkT ar n c (k + i) = some e → e ≤ k + n' → walkT br n' c i = some (e - k)
  | f, 0, i, e, _, h, _ => by
    rw [walkT_zero] at h ⊢
    cases h
    rw [Nat.add_sub_cancel_left]
  | f, c + 1, i, e, hf, h, he => by
    have hge := walkT_ge n (c + 1) (k + i) e (by omega) h
    have hi : i < n' := by omega
    cases f with
    | zero => omega
    | succ f =>
      cases ha : ar (k + i) with
      | none => rw [walkT_bad ha] at h; cases h
      | some a =>
        rw [walkT_go (by omega) ha] at h
        rw [walkT_go hi (hab i a hi ha)]
        exact walkT_sub hab hn f (c + a) (i + 1) e (by omega) (by rw [show k + (i + 1) = k + i + 1 by omega]; exact h) he
theorem sub_at {ps : List Stmt} {k n i : Nat} (hi : i < n) : ((ps.drop k).take n)[i]? = ps[k + i]? := by rw [List.getElem?_take, if_pos hi, List.getElem?_drop]
theorem sub_len {ps : List Stmt} {k n : Nat} (h : k + n ≤ ps.length) : ((ps.drop k).take n).length = n := by rw [List.length_take, List.length_drop]; omega
/-- The end of the statement behind the first one, in a part of a body. -/
theorem end_sub {ps : List Stmt} {k n i e : Nat} (hn : k + n ≤ ps.length) (hw : walkT (stN ps) ps.length 1 (k + i) = some e) (he : e ≤ k + n) : endB ((ps.drop k).take n) i = some (e - k) := by
  unfold endB
  rw [sub_len hn]
  refine walkT_sub (ar := stN ps) (k := k) (fun j a hj ha => ?_) hn n 1 i e (by omega) hw he
  have hb : bN ((ps.drop k).take n) j = bN ps (k + j) := by unfold bN; rw [sub_at hj]
  show some (bN ((ps.drop k).take n) j) = some a
  rw [hb, ← stN_be (k + j) a ha]
theorem sub_sub {ps : List Stmt} {k n i l : Nat} (h : i + l ≤ n) : ((((ps.drop k).take n).drop i).take l) = (ps.drop (k + i)).take l := by
  rw [List.drop_take, List.take_take, List.drop_drop, Nat.min_eq_left (by omega)]
set_option maxRecDepth 100000 in
theorem c_l03Name (v : Int) (w : World) (h : 0 ≤ v ∧ v ≤ 3) : Calls Tryd.prog 97 #[.int .i64 v] w fun e w' => e = .returned (strOf (vnT v)) ∧ Below w.heap.size w w' := by
  obtain ⟨k, rfl⟩ := Int.eq_ofNat_of_zero_le h.1
  have hk : k ≤ 3 := by omega
  have hw1 : IntKind.i64.wrap (97 + (k : Int)) = 97 + (k : Int) := wrap_in _ (by omega) (by omega)
  have hw2 : IntKind.u8.wrap (97 + (k : Int)) = 97 + (k : Int) := by simp [IntKind.wrap, IntKind.signed, IntKind.bits]; omega
  have HC := conv_lit Tryd.underlying133 Tryd.underlying5 Tryd.underlying9 w (UInt8.ofNat (97 + k))
  have e8 : u8v (UInt8.ofNat (97 + k)) = .int .u8 (97 + (k : Int)) := by
    unfold u8v; rw [UInt8.toNat_ofNat_of_lt' (by simp [UInt8.size]; omega)]; simp
  rw [e8] at HC
  unfold strOf at HC
  have HF : Hid (vnT (k : Int) = [UInt8.ofNat (97 + k)]) := rfl
  have HB : Hid (Below w.heap.size w (w.alloc (.cells #[.int .u8 (97 + (k : Int))] 5))) := (Below.refl _ _).alloc (Nat.le_refl _) _
  generalize UInt8.ofNat (97 + k) = nm at *
  clear e8 h
  go_enter Tryd.func97, Tryd.ntmps97
  go_wp2
  go_ret
  rw [HF.out]
  exact ⟨rfl, HB.out⟩
set_option maxRecDepth 100000 in
theorem c_l03Given {S : Nat → Prop} {wd : List UInt8} {a : Option Addr} {p : Nat} {ts : List Term} {w : World} (h : SlRd cTerm S w a p ts) (hw : wd.length ≤ 8) (hv : areOverF ts 6 = true) :
    Calls Tryd.prog 60 #[.string ⟨(wd ++ [32]).toArray⟩, .slice a ts.length p] w fun e w' => e = .returned (strOf (nlF (factT wd ts))) ∧ Below w.heap.size w w' := by
  have hn6 := over_len hv
  have H := hid h
  have HV := hid (areOverF_iff hv)
  obtain ⟨V, hV⟩ : ∃ V, wd ++ [32] = V := ⟨_, rfl⟩
  have hVl : V.length ≤ 9 := by rw [← hV]; simp; omega
  have HV9 := hid hV
  rw [hV]
  clear hV
  clear h hv
  go_enter Tryd.func60, Tryd.ntmps60
  go_wp2
  go_loopw [5, 6] (fun u i wr => ∃ (k : Nat) (l : List UInt8), k ≤ ts.length ∧ i = .int .i64 k ∧ u = .string ⟨l.toArray⟩ ∧ l.length ≤ 263 * k ∧ Hid (l = nlF (factT wd (ts.take k))) ∧ Hid (Below w.heap.size w wr)) (fun _ i _ => ts.length - (intOf i).toNat)
  case atStart => exact ⟨0, [], Nat.zero_le _, rfl, rfl, by simp, rfl, Below.refl _ _⟩
  case round =>
    obtain ⟨k, l, hk, rfl, rfl, hll, HL, HBR⟩ := hrel
    have hsz := HBR.out.size
    by_cases hlt : k < ts.length
    · obtain ⟨b, off, rfl⟩ := H.out.some_of hlt
      obtain ⟨c, zs, a', cap', hz, hc1, hsl, hc, hc', hb⟩ := (H.out.below (Nat.le_refl _) HBR.out).term_at k hlt
      have hvt := (HV.out _ (List.mem_of_getElem? hz)).1
      have hll2 := textF_len hvt
      have HN := hid (factT_take (wd := wd) hz)
      have HC := hid (c_l02Text hc hc' hb hsl hvt)
      obtain ⟨Z, hZ⟩ : ∃ Z, textF (c, zs) = Z := ⟨_, rfl⟩
      rw [HV9.out] at HN
      rw [hZ] at HC HN hll2
      have i0 : (0 : Int) ≤ (k : Int) := by omega
      have i1 : (k : Int) < (ts.length : Int) := by omega
      have e1 := badd V Z
      obtain ⟨Y2, hY2⟩ : ∃ Y, V ++ Z = Y := ⟨_, rfl⟩
      have hl2 : Y2.length = V.length + Z.length := by rw [← hY2]; simp
      have e2 := badd Y2 [10]
      obtain ⟨Y3, hY3⟩ : ∃ Y, Y2 ++ [10] = Y := ⟨_, rfl⟩
      have hl3 : Y3.length = Y2.length + 1 := by rw [← hY3]; simp
      have e3 := badd l Y3
      have hl4 : Y3.length ≤ 263 := by omega
      have hl5 : Y2.length ≤ 263 := by omega
      rw [hY2] at e1 HN
      rw [hY3] at e2
      have hn : (l ++ Y3).length ≤ 263 * (k + 1) := by simp; omega
      have HLN : Hid (l ++ Y3 = nlF (factT wd (ts.take (k + 1)))) := by unfold Hid; rw [HN.out, nlF_snoc, ← HL.out, hY3]
      have n2 : ¬ 9223372036854775807 < V.length + Z.length := by omega
      have n3 : ¬ 9223372036854775807 < Y2.length + 1 := by omega
      have n4 : ¬ 9223372036854775807 < l.length + Y3.length := by omega
      clear hY2 hY3 hl2 hl3
      clear hz hvt hZ hsl hc hc'
      go_wp2_with (go_at_call 70; refine HC.out.mono ?_; rintro e w2 ⟨rfl, hb2⟩; have HB2 := hid (bel_next HBR.out hsz hb2); clear hb2; unfold strOf)
      go_roundw
      case rel => exact ⟨k + 1, _, by omega, by go_num, rfl, hn, HLN, HB2⟩
      case measure => simp [intOf]; omega
    · have HK : Hid (ts.take k = ts) := List.take_of_length_le (by omega)
      rw [HK.out] at HL
      have e1 : decide ((k : Int) < (ts.length : Int)) = false := decide_eq_false (by omega)
      go_wp2
      go_ret
      rw [← HL.out]
      exact ⟨rfl, HBR.out⟩
theorem stmt_ok {ps : List Stmt} {k e : Nat} {d : Stmt} (hd : ps[k]? = some d) (hw : walkT (stN ps) ps.length 1 k = some e) : stmtOk d = true := by
  have hge := walkT_ge ps.length 1 k e (by omega) hw
  obtain ⟨a, ha⟩ := walkT_seen ps.length 1 k e (by omega) hw k (Nat.le_refl _) (by omega)
  rw [stN_at hd] at ha
  unfold stmtAr at ha
  split at ha
  · assumption
  · cases ha
set_option maxHeartbeats 4000000 in
set_option maxRecDepth 100000 in
theorem c_l03Lines {S : Nat → Prop} {ps : List Stmt} (h30 : ps.length ≤ 30) : ∀ (m k n e : Nat) (a : Option Addr) (p : Nat) (w : World), SlRd cStmt S w a p ((ps.drop k).take n) → k + n ≤ ps.length → walkT (stN ps) ps.length 1 k = some e → e ≤ k + n → ps.length - k ≤ m →
    Calls Tryd.prog 61 #[.slice a n p] w fun r w' => r = .returned (strOf (nlF (linesF ps m k))) ∧ Below w.heap.size w w' := by
  intro m
  induction m with
  | zero =>
    intro k n e a p w h hn hw he hm
    have := (walkT_ge ps.length 1 k e (by omega) hw).1
    omega
  | succ m ih =>
    intro k n e a p w h hn hw he hm
    have hge := (walkT_ge ps.length 1 k e (by omega) hw).1
    have hlen := sub_len hn
    have hlt : 0 < ((ps.drop k).take n).length := by rw [hlen]; omega
    obtain ⟨b, off, rfl⟩ := h.some_of hlt
    obtain ⟨d0, d1, d2, d3, a4, p4, d4, d5, a6, p6, d6, a7, p7, d7, hz, hi0, hi1, hi2, hi3, hi5, hs4, hs6, hs7, hc0, hc1, hc2, hc3, hc4, hc5, hc6, hc7, hb⟩ := h.stmt_at 0 hlt
    rw [sub_at (by omega)] at hz
    have hd : ps[k]? = some (d0, d1, d2, (d3, d4), (d5, d6), d7) := hz
    have hok := stmt_ok hd hw
    have ok := stmtOk_of hok
    obtain ⟨tk0, tk1, tk2⟩ := tree_kids hd hok hw
    obtain ⟨hbl, _⟩ := linesF_bounds (m + 1) k e hw
    have hbl6 : (nlF (linesF ps (m + 1) k)).length ≤ 60000 := by omega
    have HLF := hid (linesF_at (m := m) hd)
    have hsum := ok.sum
    have hidx := ok.idx
    have hkind := ok.kind
    have hvar := ok.var
    have hev := ok.ev
    have hfc := ok.facts
    simp only [Nat.zero_mul, Nat.add_zero] at hsum hidx hkind hvar hev hfc hc0 hc1 hc2 hc3 hc4 hc5 hc6 hc7
    have l1 := textF_len hsum
    have l2 := textF_len hidx
    have HCS := hid (fun (w' : World) (hb' : Below w.heap.size w w') => c_l02Text (cell_below hb' hb hc3) (cell_below hb' hb hc4) (Nat.lt_of_lt_of_le hb hb'.size) (hs4.below (Nat.le_refl _) hb') hsum)
    have HCI := hid (fun (w' : World) (hb' : Below w.heap.size w w') => c_l02Text (cell_below hb' hb hc5) (cell_below hb' hb hc6) (Nat.lt_of_lt_of_le hb hb'.size) (hs6.below (Nat.le_refl _) hb') hidx)
    have HS7 := hid hs7
    have H := hid h
    have HW := hid hw
    have IH := hid ih
    have HFC := hid hfc
    have HTK1 := hid tk1
    have HTK2 := hid tk2
    have HEND := hid (fun i e hw he => end_sub (ps := ps) (k := k) (n := n) (i := i) (e := e) hn hw he)
    have i1 : (0 : Int) < (n : Int) := by omega
    clear hz hd hok ok tk0 tk1 tk2 hbl hsum hidx hfc hs4 hs6 hs7 h ih hw
    rcases (by omega : d0 = 0 ∨ d0 = 1 ∨ d0 = 2 ∨ d0 = 3 ∨ d0 = 4 ∨ d0 = 5 ∨ d0 = 6 ∨ d0 = 7 ∨ d0 = 8) with rfl | rfl | rfl | rfl | rfl | rfl | rfl | rfl | rfl
    · have HLF2 : Hid (linesF ps (m + 1) k = [[115, 107, 105, 112]]) := HLF.out
      clear HLF
      obtain ⟨SM, hSM⟩ : ∃ X, textF (d3, d4) = X := ⟨_, rfl⟩
      rw [hSM] at HCS l1
      obtain ⟨IX, hIX⟩ : ∃ X, textF (d5, d6) = X := ⟨_, rfl⟩
      rw [hIX] at HCI l2
      have e20 := badd SM [10]
      have n20 : ¬ 9223372036854775807 < SM.length + 1 := by omega
      obtain ⟨SN, hSN⟩ : ∃ X, SM ++ [10] = X := ⟨_, rfl⟩
      have hSNl : SN.length = SM.length + 1 := by rw [← hSN]; simp
      rw [hSN] at e20
      have HSN := hid hSN
      have HG : Hid True := trivial
      clear hSM hIX hSN
      have HF : Hid (nlF (linesF ps (m + 1) k) = [115, 107, 105, 112, 10]) := by unfold Hid; rw [HLF2.out]; rfl
      clear hSNl
      go_enter Tryd.func61, Tryd.ntmps61
      go_wp2_with (first | (go_at_call 96; refine (c_l03Below _ _).mono ?_; rintro e w1 ⟨rfl, rfl⟩; rw [show belowI 0 = 0 from rfl]) | (have hq := HG.out; clear hq HG; go_at_call 70; refine (HCS.out _ (Below.refl _ _)).mono ?_; rintro e w2 ⟨rfl, hb2⟩; have HB2 := hid hb2; have z2 := Nat.lt_of_lt_of_le hb hb2.size; have t0 := cell_below hb2 hb hc0; have t1 := cell_below hb2 hb hc1; have t2 := cell_below hb2 hb hc2; have t7 := cell_below hb2 hb hc7; clear hb2; unfold strOf))
      go_ret
      rw [HF.out]
      exact ⟨rfl, HB2.out⟩
    · have HLF2 : Hid (linesF ps (m + 1) k = linesF ps m (k + 1) ++ linesF ps m (endAt ps (k + 1))) := HLF.out
      clear HLF
      obtain ⟨SM, hSM⟩ : ∃ X, textF (d3, d4) = X := ⟨_, rfl⟩
      rw [hSM] at HCS l1
      obtain ⟨IX, hIX⟩ : ∃ X, textF (d5, d6) = X := ⟨_, rfl⟩
      rw [hIX] at HCI l2
      have e20 := badd SM [10]
      have n20 : ¬ 9223372036854775807 < SM.length + 1 := by omega
      obtain ⟨SN, hSN⟩ : ∃ X, SM ++ [10] = X := ⟨_, rfl⟩
      have hSNl : SN.length = SM.length + 1 := by rw [← hSN]; simp
      rw [hSN] at e20
      have HSN := hid hSN
      have HG : Hid True := trivial
      clear hSM hIX hSN
      obtain ⟨hw1, hw2⟩ := HTK2.out rfl
      obtain ⟨E1, hE1⟩ : ∃ E1, endAt ps (k + 1) = E1 := ⟨_, rfl⟩
      rw [hE1] at hw1 hw2 HLF2
      have g1 := (walkT_ge ps.length 1 (k + 1) E1 (by omega) hw1).1
      have g2 := (walkT_ge ps.length 1 E1 e (by omega) hw2).1
      obtain ⟨L1, rfl⟩ : ∃ L1, E1 = k + L1 := ⟨E1 - k, by omega⟩
      have HEN : Hid (endI (endB ((ps.drop k).take n) 1) = (L1 : Int)) := by unfold Hid; rw [HEND.out 1 (k + L1) hw1 (by omega), Nat.add_sub_cancel_left]; rfl
      have HCE := hid (c_l03End (k := 1) H.out (by omega) (by omega))
      rw [hlen] at HCE
      have hnp := H.out.1
      rw [hlen] at hnp
      have HCA := hid (fun (w' : World) (hb' : Below w.heap.size w w') => IH.out (k + 1) (L1 - 1) (k + L1) (some ⟨b, off + 8, none⟩) (p - 1) w' (by rw [← sub_sub (k := k) (n := n) (i := 1) (by omega)]; exact SlRd.sub (i := 1) (n := L1 - 1) (H.out.below (Nat.le_refl _) hb') (by rw [hlen]; omega) (.inr rfl)) (by omega) hw1 (by omega) (by omega))
      have HCB := hid (fun (w' : World) (hb' : Below w.heap.size w w') => IH.out (k + L1) (n - L1) e (some ⟨b, off + L1 * 8, none⟩) (p - L1) w' (by rw [← sub_sub (k := k) (n := n) (i := L1) (by omega)]; exact SlRd.sub (i := L1) (n := n - L1) (H.out.below (Nat.le_refl _) hb') (by rw [hlen]; omega) (.inr rfl)) (by omega) hw2 (by omega) (by omega))
      have lA := (linesF_bounds m (k + 1) (k + L1) hw1).1
      have lB := (linesF_bounds m (k + L1) e hw2).1
      obtain ⟨FA, hFA⟩ : ∃ X, linesF ps m (k + 1) = X := ⟨_, rfl⟩
      obtain ⟨FB, hFB⟩ : ∃ X, linesF ps m (k + L1) = X := ⟨_, rfl⟩
      rw [hFA] at HLF2 HCA lA
      rw [hFB] at HLF2 HCB lB
      obtain ⟨XA, hXA⟩ : ∃ X, nlF FA = X := ⟨_, rfl⟩
      obtain ⟨XB, hXB⟩ : ∃ X, nlF FB = X := ⟨_, rfl⟩
      have HXA := hid hXA
      have HXB := hid hXB
      rw [hXA] at HCA lA
      rw [hXB] at HCB lB
      have lA6 : XA.length ≤ 60000 := by omega
      have lB6 : XB.length ≤ 60000 := by omega
      have q1 : (1 : Int) ≤ (L1 : Int) := by omega
      have q2 : (L1 : Int) ≤ (p : Int) := by omega
      have q2n : L1 ≤ p := by omega
      have q3 : (L1 : Int) ≤ (n : Int) := by omega
      have q3n : L1 ≤ n := by omega
      have q4 : ¬ p = 1 := by omega
      have q5 : ¬ p = L1 := by omega
      have q6 : (0 : Int) ≤ (L1 : Int) := by omega
      have q7 : 1 ≤ L1 := by omega
      have HG2 : Hid True := trivial
      clear hw1 hw2 hE1 hFA hFB hXA hXB lA lB
      have e21 := badd XA XB
      obtain ⟨X1, hX1⟩ : ∃ X, XA ++ XB = X := ⟨_, rfl⟩
      have lX1 : X1.length = XA.length + XB.length := by rw [← hX1]; simp <;> omega
      have n21 : ¬ 9223372036854775807 < XA.length + XB.length := by omega
      rw [hX1] at e21
      have HX1 := hid hX1
      clear hX1
      have HF : Hid (nlF (linesF ps (m + 1) k) = X1) := by unfold Hid; rw [HLF2.out, nlF_append, HXA.out, HXB.out, HX1.out]
      clear hSNl lX1
      go_enter Tryd.func61, Tryd.ntmps61
      go_wp2_with (first | (go_at_call 96; refine (c_l03Below _ _).mono ?_; rintro e w1 ⟨rfl, rfl⟩; rw [show belowI 1 = 2 from rfl]) | (go_at_call 95; refine HCE.out.mono ?_; rintro e w1 ⟨rfl, rfl⟩; rw [HEN.out]) | (have hq := HG.out; clear hq HG; go_at_call 70; refine (HCS.out _ (Below.refl _ _)).mono ?_; rintro e w2 ⟨rfl, hb2⟩; have HB2 := hid hb2; have z2 := Nat.lt_of_lt_of_le hb hb2.size; have t0 := cell_below hb2 hb hc0; have t1 := cell_below hb2 hb hc1; have t2 := cell_below hb2 hb hc2; have t7 := cell_below hb2 hb hc7; clear hb2; unfold strOf))
      go_region_held3 (fun w' => True) (exact trivial) (first | (have hq := HG2.out; clear hq HG2; go_at_call 61; refine (HCA.out _ HB2.out.drew).mono ?_; rintro e w3 ⟨rfl, hb3⟩; unfold strOf; have HB3 := hid (HB2.out.drew.trans (hb3.mono HB2.out.size)); clear hb3) | (go_at_call 61; refine (HCB.out _ HB3.out).mono ?_; rintro e w4 ⟨rfl, hb4⟩; unfold strOf; have HB4 := hid (bel_next HB3.out HB3.out.size hb4); clear hb4))
      all_goals
        go_wp2
        go_ret
        rw [HF.out]
        exact ⟨rfl, HB4.out⟩
    · have HLF2 : Hid (linesF ps (m + 1) k = [(([115, 101, 116, 32] ++ vnT d1) ++ [32]) ++ textF (d3, d4)]) := HLF.out
      clear HLF
      obtain ⟨SM, hSM⟩ : ∃ X, textF (d3, d4) = X := ⟨_, rfl⟩
      rw [hSM] at HCS l1
      obtain ⟨IX, hIX⟩ : ∃ X, textF (d5, d6) = X := ⟨_, rfl⟩
      rw [hIX] at HCI l2
      rw [hSM] at HLF2
      have e20 := badd SM [10]
      have n20 : ¬ 9223372036854775807 < SM.length + 1 := by omega
      obtain ⟨SN, hSN⟩ : ∃ X, SM ++ [10] = X := ⟨_, rfl⟩
      have hSNl : SN.length = SM.length + 1 := by rw [← hSN]; simp
      rw [hSN] at e20
      have HSN := hid hSN
      have HG : Hid True := trivial
      clear hSM hIX hSN
      have hv3 : 0 ≤ d1 ∧ d1 ≤ 3 := hvar (by omega)
      have HNM := hid (fun w' => c_l03Name d1 w' hv3)
      obtain ⟨VN, hVN⟩ : ∃ X, vnT d1 = X := ⟨_, rfl⟩
      have lVN : VN.length = 1 := by rw [← hVN]; rfl
      rw [hVN] at HLF2 HNM
      clear hVN
      have e21 := badd [115, 101, 116, 32] VN
      obtain ⟨X1, hX1⟩ : ∃ X, [115, 101, 116, 32] ++ VN = X := ⟨_, rfl⟩
      have lX1 : X1.length = 4 + VN.length := by rw [← hX1]; simp <;> omega
      have n21 : ¬ 9223372036854775807 < 4 + VN.length := by omega
      rw [hX1] at e21
      have HX1 := hid hX1
      clear hX1
      have e22 := badd X1 [32]
      obtain ⟨X2, hX2⟩ : ∃ X, X1 ++ [32] = X := ⟨_, rfl⟩
      have lX2 : X2.length = X1.length + 1 := by rw [← hX2]; simp <;> omega
      have n22 : ¬ 9223372036854775807 < X1.length + 1 := by omega
      rw [hX2] at e22
      have HX2 := hid hX2
      clear hX2
      have e23 := badd X2 SN
      obtain ⟨X3, hX3⟩ : ∃ X, X2 ++ SN = X := ⟨_, rfl⟩
      have lX3 : X3.length = X2.length + SN.length := by rw [← hX3]; simp <;> omega
      have n23 : ¬ 9223372036854775807 < X2.length + SN.length := by omega
      rw [hX3] at e23
      have HX3 := hid hX3
      clear hX3
      have HF : Hid (nlF (linesF ps (m + 1) k) = X3) := by unfold Hid; rw [HLF2.out, ← HX3.out, ← HX2.out, ← HX1.out, ← HSN.out]; simp [nlF]
      clear hSNl lX1 lX2 lX3
      go_enter Tryd.func61, Tryd.ntmps61
      go_wp2_with (first | (go_at_call 96; refine (c_l03Below _ _).mono ?_; rintro e w1 ⟨rfl, rfl⟩; rw [show belowI 2 = 0 from rfl]) | (have hq := HG.out; clear hq HG; go_at_call 70; refine (HCS.out _ (Below.refl _ _)).mono ?_; rintro e w2 ⟨rfl, hb2⟩; have HB2 := hid hb2; have z2 := Nat.lt_of_lt_of_le hb hb2.size; have t0 := cell_below hb2 hb hc0; have t1 := cell_below hb2 hb hc1; have t2 := cell_below hb2 hb hc2; have t7 := cell_below hb2 hb hc7; clear hb2; unfold strOf) | (go_at_call 97; refine (HNM.out _).mono ?_; rintro e w3 ⟨rfl, hb3⟩; unfold strOf; have HB3 := hid (bel_next HB2.out HB2.out.size hb3); clear hb3))
      go_ret
      rw [HF.out]
      exact ⟨rfl, HB3.out⟩
    · have HLF2 : Hid (linesF ps (m + 1) k = [(([103, 101, 116, 32] ++ vnT d1) ++ [32]) ++ textF (d5, d6)]) := HLF.out
      clear HLF
      obtain ⟨SM, hSM⟩ : ∃ X, textF (d3, d4) = X := ⟨_, rfl⟩
      rw [hSM] at HCS l1
      obtain ⟨IX, hIX⟩ : ∃ X, textF (d5, d6) = X := ⟨_, rfl⟩
      rw [hIX] at HCI l2
      rw [hIX] at HLF2
      have e20 := badd SM [10]
      have n20 : ¬ 9223372036854775807 < SM.length + 1 := by omega
      obtain ⟨SN, hSN⟩ : ∃ X, SM ++ [10] = X := ⟨_, rfl⟩
      have hSNl : SN.length = SM.length + 1 := by rw [← hSN]; simp
      rw [hSN] at e20
      have HSN := hid hSN
      have HG : Hid True := trivial
      clear hSM hIX hSN
      have hv3 : 0 ≤ d1 ∧ d1 ≤ 3 := hvar (by omega)
      have HNM := hid (fun w' => c_l03Name d1 w' hv3)
      obtain ⟨VN, hVN⟩ : ∃ X, vnT d1 = X := ⟨_, rfl⟩
      have lVN : VN.length = 1 := by rw [← hVN]; rfl
      rw [hVN] at HLF2 HNM
      clear hVN
      have e21 := badd [103, 101, 116, 32] VN
      obtain ⟨X1, hX1⟩ : ∃ X, [103, 101, 116, 32] ++ VN = X := ⟨_, rfl⟩
      have lX1 : X1.length = 4 + VN.length := by rw [← hX1]; simp <;> omega
      have n21 : ¬ 9223372036854775807 < 4 + VN.length := by omega
      rw [hX1] at e21
      have HX1 := hid hX1
      clear hX1
      have e22 := badd X1 [32]
      obtain ⟨X2, hX2⟩ : ∃ X, X1 ++ [32] = X := ⟨_, rfl⟩
      have lX2 : X2.length = X1.length + 1 := by rw [← hX2]; simp <;> omega
      have n22 : ¬ 9223372036854775807 < X1.length + 1 := by omega
      rw [hX2] at e22
      have HX2 := hid hX2
      clear hX2
      have e23 := badd X2 IX
      obtain ⟨X3, hX3⟩ : ∃ X, X2 ++ IX = X := ⟨_, rfl⟩
      have lX3 : X3.length = X2.length + IX.length := by rw [← hX3]; simp <;> omega
      have n23 : ¬ 9223372036854775807 < X2.length + IX.length := by omega
      rw [hX3] at e23
      have HX3 := hid hX3
      clear hX3
      have e24 := badd X3 [10]
      obtain ⟨X4, hX4⟩ : ∃ X, X3 ++ [10] = X := ⟨_, rfl⟩
      have lX4 : X4.length = X3.length + 1 := by rw [← hX4]; simp <;> omega
      have n24 : ¬ 9223372036854775807 < X3.length + 1 := by omega
      rw [hX4] at e24
      have HX4 := hid hX4
      clear hX4
      have HF : Hid (nlF (linesF ps (m + 1) k) = X4) := by unfold Hid; rw [HLF2.out, ← HX4.out, ← HX3.out, ← HX2.out, ← HX1.out]; simp [nlF]
      clear hSNl lX1 lX2 lX3 lX4
      go_enter Tryd.func61, Tryd.ntmps61
      go_wp2_with (first | (go_at_call 96; refine (c_l03Below _ _).mono ?_; rintro e w1 ⟨rfl, rfl⟩; rw [show belowI 3 = 0 from rfl]) | (have hq := HG.out; clear hq HG; go_at_call 70; refine (HCS.out _ (Below.refl _ _)).mono ?_; rintro e w2 ⟨rfl, hb2⟩; have HB2 := hid hb2; have z2 := Nat.lt_of_lt_of_le hb hb2.size; have t0 := cell_below hb2 hb hc0; have t1 := cell_below hb2 hb hc1; have t2 := cell_below hb2 hb hc2; have t7 := cell_below hb2 hb hc7; clear hb2; unfold strOf))
      go_region_held3 (fun w' => w'.cell? ⟨b, off + 1, none⟩ = some (.int .i64 d1)) (first | exact t1 | exact kk1 | exact kk2) (first | (go_at_call 97; refine (HNM.out _).mono ?_; rintro e w3 ⟨rfl, hb3⟩; unfold strOf; have HB3 := hid (HB2.out.drew.trans (hb3.mono HB2.out.size)); have kk1 := cell_below hb3 z2 t1; have z3 := Nat.lt_of_lt_of_le z2 hb3.size; clear hb3) | (go_at_call 70; refine (HCI.out _ HB3.out).mono ?_; rintro e w4 ⟨rfl, hb4⟩; unfold strOf; have HB4 := hid (bel_next HB3.out HB3.out.size hb4); have kk2 := cell_below hb4 z3 kk1; clear hb4))
      go_wp2
      go_ret
      rw [HF.out]
      exact ⟨rfl, HB4.out⟩
    · have HLF2 : Hid (linesF ps (m + 1) k = [(([112, 117, 116, 32] ++ textF (d5, d6)) ++ [32]) ++ textF (d3, d4)]) := HLF.out
      clear HLF
      obtain ⟨SM, hSM⟩ : ∃ X, textF (d3, d4) = X := ⟨_, rfl⟩
      rw [hSM] at HCS l1
      obtain ⟨IX, hIX⟩ : ∃ X, textF (d5, d6) = X := ⟨_, rfl⟩
      rw [hIX] at HCI l2
      rw [hSM] at HLF2
      rw [hIX] at HLF2
      have e20 := badd SM [10]
      have n20 : ¬ 9223372036854775807 < SM.length + 1 := by omega
      obtain ⟨SN, hSN⟩ : ∃ X, SM ++ [10] = X := ⟨_, rfl⟩
      have hSNl : SN.length = SM.length + 1 := by rw [← hSN]; simp
      rw [hSN] at e20
      have HSN := hid hSN
      have HG : Hid True := trivial
      clear hSM hIX hSN
      have e21 := badd [112, 117, 116, 32] IX
      obtain ⟨X1, hX1⟩ : ∃ X, [112, 117, 116, 32] ++ IX = X := ⟨_, rfl⟩
      have lX1 : X1.length = 4 + IX.length := by rw [← hX1]; simp <;> omega
      have n21 : ¬ 9223372036854775807 < 4 + IX.length := by omega
      rw [hX1] at e21
      have HX1 := hid hX1
      clear hX1
      have e22 := badd X1 [32]
      obtain ⟨X2, hX2⟩ : ∃ X, X1 ++ [32] = X := ⟨_, rfl⟩
      have lX2 : X2.length = X1.length + 1 := by rw [← hX2]; simp <;> omega
      have n22 : ¬ 9223372036854775807 < X1.length + 1 := by omega
      rw [hX2] at e22
      have HX2 := hid hX2
      clear hX2
      have e23 := badd X2 SN
      obtain ⟨X3, hX3⟩ : ∃ X, X2 ++ SN = X := ⟨_, rfl⟩
      have lX3 : X3.length = X2.length + SN.length := by rw [← hX3]; simp <;> omega
      have n23 : ¬ 9223372036854775807 < X2.length + SN.length := by omega
      rw [hX3] at e23
      have HX3 := hid hX3
      clear hX3
      have HF : Hid (nlF (linesF ps (m + 1) k) = X3) := by unfold Hid; rw [HLF2.out, ← HX3.out, ← HX2.out, ← HX1.out, ← HSN.out]; simp [nlF]
      clear hSNl lX1 lX2 lX3
      go_enter Tryd.func61, Tryd.ntmps61
      go_wp2_with (first | (go_at_call 96; refine (c_l03Below _ _).mono ?_; rintro e w1 ⟨rfl, rfl⟩; rw [show belowI 4 = 0 from rfl]) | (have hq := HG.out; clear hq HG; go_at_call 70; refine (HCS.out _ (Below.refl _ _)).mono ?_; rintro e w2 ⟨rfl, hb2⟩; have HB2 := hid hb2; have z2 := Nat.lt_of_lt_of_le hb hb2.size; have t0 := cell_below hb2 hb hc0; have t1 := cell_below hb2 hb hc1; have t2 := cell_below hb2 hb hc2; have t7 := cell_below hb2 hb hc7; clear hb2; unfold strOf) | (go_at_call 70; refine (HCI.out _ HB2.out).mono ?_; rintro e w3 ⟨rfl, hb3⟩; unfold strOf; have HB3 := hid (bel_next HB2.out HB2.out.size hb3); clear hb3))
      go_ret
      rw [HF.out]
      exact ⟨rfl, HB3.out⟩
    · have HLF2 : Hid (linesF ps (m + 1) k = [[101, 109, 105, 116, 32] ++ Lib.itoa d2]) := HLF.out
      clear HLF
      obtain ⟨SM, hSM⟩ : ∃ X, textF (d3, d4) = X := ⟨_, rfl⟩
      rw [hSM] at HCS l1
      obtain ⟨IX, hIX⟩ : ∃ X, textF (d5, d6) = X := ⟨_, rfl⟩
      rw [hIX] at HCI l2
      have e20 := badd SM [10]
      have n20 : ¬ 9223372036854775807 < SM.length + 1 := by omega
      obtain ⟨SN, hSN⟩ : ∃ X, SM ++ [10] = X := ⟨_, rfl⟩
      have hSNl : SN.length = SM.length + 1 := by rw [← hSN]; simp
      rw [hSN] at e20
      have HSN := hid hSN
      have HG : Hid True := trivial
      clear hSM hIX hSN
      have HDC := hid (fun w' => c_l01Dec d2 w' (by omega) (by omega))
      have lD := Lib.itoa_length_le d2 (by omega) (by omega)
      obtain ⟨DC, hDC⟩ : ∃ X, Lib.itoa d2 = X := ⟨_, rfl⟩
      rw [hDC] at HLF2 HDC lD
      clear hDC
      have e21 := badd [101, 109, 105, 116, 32] DC
      obtain ⟨X1, hX1⟩ : ∃ X, [101, 109, 105, 116, 32] ++ DC = X := ⟨_, rfl⟩
      have lX1 : X1.length = 5 + DC.length := by rw [← hX1]; simp <;> omega
      have n21 : ¬ 9223372036854775807 < 5 + DC.length := by omega
      rw [hX1] at e21
      have HX1 := hid hX1
      clear hX1
      have e22 := badd X1 [10]
      obtain ⟨X2, hX2⟩ : ∃ X, X1 ++ [10] = X := ⟨_, rfl⟩
      have lX2 : X2.length = X1.length + 1 := by rw [← hX2]; simp <;> omega
      have n22 : ¬ 9223372036854775807 < X1.length + 1 := by omega
      rw [hX2] at e22
      have HX2 := hid hX2
      clear hX2
      have HF : Hid (nlF (linesF ps (m + 1) k) = X2) := by unfold Hid; rw [HLF2.out, ← HX2.out, ← HX1.out]; simp [nlF]
      go_enter Tryd.func61, Tryd.ntmps61
      go_wp2_with (first | (go_at_call 96; refine (c_l03Below _ _).mono ?_; rintro e w1 ⟨rfl, rfl⟩; rw [show belowI 5 = 0 from rfl]) | (have hq := HG.out; clear hq HG; go_at_call 70; refine (HCS.out _ (Below.refl _ _)).mono ?_; rintro e w2 ⟨rfl, hb2⟩; have HB2 := hid hb2; have z2 := Nat.lt_of_lt_of_le hb hb2.size; have t0 := cell_below hb2 hb hc0; have t1 := cell_below hb2 hb hc1; have t2 := cell_below hb2 hb hc2; have t7 := cell_below hb2 hb hc7; clear hb2; unfold strOf) | (go_at_call 73; refine (HDC.out _).mono ?_; rintro e w3 ⟨rfl, hb3⟩; unfold strOf; have HB3 := hid (bel_next HB2.out HB2.out.size hb3); clear hb3))
      go_ret
      rw [HF.out]
      exact ⟨rfl, HB3.out⟩
    · have HLF2 : Hid (linesF ps (m + 1) k = [[97, 115, 115, 101, 114, 116, 32] ++ textF (d3, d4)]) := HLF.out
      clear HLF
      obtain ⟨SM, hSM⟩ : ∃ X, textF (d3, d4) = X := ⟨_, rfl⟩
      rw [hSM] at HCS l1
      obtain ⟨IX, hIX⟩ : ∃ X, textF (d5, d6) = X := ⟨_, rfl⟩
      rw [hIX] at HCI l2
      rw [hSM] at HLF2
      have e20 := badd SM [10]
      have n20 : ¬ 9223372036854775807 < SM.length + 1 := by omega
      obtain ⟨SN, hSN⟩ : ∃ X, SM ++ [10] = X := ⟨_, rfl⟩
      have hSNl : SN.length = SM.length + 1 := by rw [← hSN]; simp
      rw [hSN] at e20
      have HSN := hid hSN
      have HG : Hid True := trivial
      clear hSM hIX hSN
      have e21 := badd [97, 115, 115, 101, 114, 116, 32] SN
      obtain ⟨X1, hX1⟩ : ∃ X, [97, 115, 115, 101, 114, 116, 32] ++ SN = X := ⟨_, rfl⟩
      have lX1 : X1.length = 7 + SN.length := by rw [← hX1]; simp <;> omega
      have n21 : ¬ 9223372036854775807 < 7 + SN.length := by omega
      rw [hX1] at e21
      have HX1 := hid hX1
      clear hX1
      have HF : Hid (nlF (linesF ps (m + 1) k) = X1) := by unfold Hid; rw [HLF2.out, ← HX1.out, ← HSN.out]; simp [nlF]
      clear hSNl lX1
      go_enter Tryd.func61, Tryd.ntmps61
      go_wp2_with (first | (go_at_call 96; refine (c_l03Below _ _).mono ?_; rintro e w1 ⟨rfl, rfl⟩; rw [show belowI 6 = 0 from rfl]) | (have hq := HG.out; clear hq HG; go_at_call 70; refine (HCS.out _ (Below.refl _ _)).mono ?_; rintro e w2 ⟨rfl, hb2⟩; have HB2 := hid hb2; have z2 := Nat.lt_of_lt_of_le hb hb2.size; have t0 := cell_below hb2 hb hc0; have t1 := cell_below hb2 hb hc1; have t2 := cell_below hb2 hb hc2; have t7 := cell_below hb2 hb hc7; clear hb2; unfold strOf))
      go_ret
      rw [HF.out]
      exact ⟨rfl, HB2.out⟩
    · have HLF2 : Hid (linesF ps (m + 1) k = ((([[105, 102, 32] ++ textF (d3, d4)] ++ linesF ps m (k + 1)) ++ [[101, 108, 115, 101]]) ++ linesF ps m (endAt ps (k + 1))) ++ [[101, 110, 100]]) := HLF.out
      clear HLF
      obtain ⟨SM, hSM⟩ : ∃ X, textF (d3, d4) = X := ⟨_, rfl⟩
      rw [hSM] at HCS l1
      obtain ⟨IX, hIX⟩ : ∃ X, textF (d5, d6) = X := ⟨_, rfl⟩
      rw [hIX] at HCI l2
      rw [hSM] at HLF2
      have e20 := badd SM [10]
      have n20 : ¬ 9223372036854775807 < SM.length + 1 := by omega
      obtain ⟨SN, hSN⟩ : ∃ X, SM ++ [10] = X := ⟨_, rfl⟩
      have hSNl : SN.length = SM.length + 1 := by rw [← hSN]; simp
      rw [hSN] at e20
      have HSN := hid hSN
      have HG : Hid True := trivial
      clear hSM hIX hSN
      obtain ⟨hw1, hw2⟩ := HTK2.out rfl
      obtain ⟨E1, hE1⟩ : ∃ E1, endAt ps (k + 1) = E1 := ⟨_, rfl⟩
      rw [hE1] at hw1 hw2 HLF2
      have g1 := (walkT_ge ps.length 1 (k + 1) E1 (by omega) hw1).1
      have g2 := (walkT_ge ps.length 1 E1 e (by omega) hw2).1
      obtain ⟨L1, rfl⟩ : ∃ L1, E1 = k + L1 := ⟨E1 - k, by omega⟩
      have HEN : Hid (endI (endB ((ps.drop k).take n) 1) = (L1 : Int)) := by unfold Hid; rw [HEND.out 1 (k + L1) hw1 (by omega), Nat.add_sub_cancel_left]; rfl
      have HCE := hid (c_l03End (k := 1) H.out (by omega) (by omega))
      rw [hlen] at HCE
      have hnp := H.out.1
      rw [hlen] at hnp
      have HCA := hid (fun (w' : World) (hb' : Below w.heap.size w w') => IH.out (k + 1) (L1 - 1) (k + L1) (some ⟨b, off + 8, none⟩) (p - 1) w' (by rw [← sub_sub (k := k) (n := n) (i := 1) (by omega)]; exact SlRd.sub (i := 1) (n := L1 - 1) (H.out.below (Nat.le_refl _) hb') (by rw [hlen]; omega) (.inr rfl)) (by omega) hw1 (by omega) (by omega))
      have HCB := hid (fun (w' : World) (hb' : Below w.heap.size w w') => IH.out (k + L1) (n - L1) e (some ⟨b, off + L1 * 8, none⟩) (p - L1) w' (by rw [← sub_sub (k := k) (n := n) (i := L1) (by omega)]; exact SlRd.sub (i := L1) (n := n - L1) (H.out.below (Nat.le_refl _) hb') (by rw [hlen]; omega) (.inr rfl)) (by omega) hw2 (by omega) (by omega))
      have lA := (linesF_bounds m (k + 1) (k + L1) hw1).1
      have lB := (linesF_bounds m (k + L1) e hw2).1
      obtain ⟨FA, hFA⟩ : ∃ X, linesF ps m (k + 1) = X := ⟨_, rfl⟩
      obtain ⟨FB, hFB⟩ : ∃ X, linesF ps m (k + L1) = X := ⟨_, rfl⟩
      rw [hFA] at HLF2 HCA lA
      rw [hFB] at HLF2 HCB lB
      obtain ⟨XA, hXA⟩ : ∃ X, nlF FA = X := ⟨_, rfl⟩
      obtain ⟨XB, hXB⟩ : ∃ X, nlF FB = X := ⟨_, rfl⟩
      have HXA := hid hXA
      have HXB := hid hXB
      rw [hXA] at HCA lA
      rw [hXB] at HCB lB
      have lA6 : XA.length ≤ 60000 := by omega
      have lB6 : XB.length ≤ 60000 := by omega
      have q1 : (1 : Int) ≤ (L1 : Int) := by omega
      have q2 : (L1 : Int) ≤ (p : Int) := by omega
      have q2n : L1 ≤ p := by omega
      have q3 : (L1 : Int) ≤ (n : Int) := by omega
      have q3n : L1 ≤ n := by omega
      have q4 : ¬ p = 1 := by omega
      have q5 : ¬ p = L1 := by omega
      have q6 : (0 : Int) ≤ (L1 : Int) := by omega
      have q7 : 1 ≤ L1 := by omega
      have HG2 : Hid True := trivial
      clear hw1 hw2 hE1 hFA hFB hXA hXB lA lB
      have e21 := badd [105, 102, 32] SN
      obtain ⟨X0, hX0⟩ : ∃ X, [105, 102, 32] ++ SN = X := ⟨_, rfl⟩
      have lX0 : X0.length = 3 + SN.length := by rw [← hX0]; simp <;> omega
      have n21 : ¬ 9223372036854775807 < 3 + SN.length := by omega
      rw [hX0] at e21
      have HX0 := hid hX0
      clear hX0
      have e22 := badd X0 XA
      obtain ⟨X1, hX1⟩ : ∃ X, X0 ++ XA = X := ⟨_, rfl⟩
      have lX1 : X1.length = X0.length + XA.length := by rw [← hX1]; simp <;> omega
      have n22 : ¬ 9223372036854775807 < X0.length + XA.length := by omega
      rw [hX1] at e22
      have HX1 := hid hX1
      clear hX1
      have e23 := badd X1 [101, 108, 115, 101, 10]
      obtain ⟨X2, hX2⟩ : ∃ X, X1 ++ [101, 108, 115, 101, 10] = X := ⟨_, rfl⟩
      have lX2 : X2.length = X1.length + 5 := by rw [← hX2]; simp <;> omega
      have n23 : ¬ 9223372036854775807 < X1.length + 5 := by omega
      rw [hX2] at e23
      have HX2 := hid hX2
      clear hX2
      have e24 := badd X2 XB
      obtain ⟨X3, hX3⟩ : ∃ X, X2 ++ XB = X := ⟨_, rfl⟩
      have lX3 : X3.length = X2.length + XB.length := by rw [← hX3]; simp <;> omega
      have n24 : ¬ 9223372036854775807 < X2.length + XB.length := by omega
      rw [hX3] at e24
      have HX3 := hid hX3
      clear hX3
      have e25 := badd X3 [101, 110, 100, 10]
      obtain ⟨X4, hX4⟩ : ∃ X, X3 ++ [101, 110, 100, 10] = X := ⟨_, rfl⟩
      have lX4 : X4.length = X3.length + 4 := by rw [← hX4]; simp <;> omega
      have n25 : ¬ 9223372036854775807 < X3.length + 4 := by omega
      rw [hX4] at e25
      have HX4 := hid hX4
      clear hX4
      have HF : Hid (nlF (linesF ps (m + 1) k) = X4) := by unfold Hid; rw [HLF2.out, ← HX4.out, ← HX3.out, ← HX2.out, ← HX1.out, ← HX0.out, ← HXA.out, ← HXB.out, ← HSN.out]; simp [nlF]
      clear hSNl lX0 lX1 lX2 lX3 lX4
      go_enter Tryd.func61, Tryd.ntmps61
      go_wp2_with (first | (go_at_call 96; refine (c_l03Below _ _).mono ?_; rintro e w1 ⟨rfl, rfl⟩; rw [show belowI 7 = 2 from rfl]) | (go_at_call 95; refine HCE.out.mono ?_; rintro e w1 ⟨rfl, rfl⟩; rw [HEN.out]) | (have hq := HG.out; clear hq HG; go_at_call 70; refine (HCS.out _ (Below.refl _ _)).mono ?_; rintro e w2 ⟨rfl, hb2⟩; have HB2 := hid hb2; have z2 := Nat.lt_of_lt_of_le hb hb2.size; have t0 := cell_below hb2 hb hc0; have t1 := cell_below hb2 hb hc1; have t2 := cell_below hb2 hb hc2; have t7 := cell_below hb2 hb hc7; clear hb2; unfold strOf))
      go_region_held3 (fun w' => True) (exact trivial) (first | (have hq := HG2.out; clear hq HG2; go_at_call 61; refine (HCA.out _ HB2.out.drew).mono ?_; rintro e w3 ⟨rfl, hb3⟩; unfold strOf; have HB3 := hid (HB2.out.drew.trans (hb3.mono HB2.out.size)); clear hb3) | (go_at_call 61; refine (HCB.out _ HB3.out).mono ?_; rintro e w4 ⟨rfl, hb4⟩; unfold strOf; have HB4 := hid (bel_next HB3.out HB3.out.size hb4); clear hb4))
      all_goals
        go_wp2
        go_ret
        rw [HF.out]
        exact ⟨rfl, HB4.out⟩
    · have HLF2 : Hid (linesF ps (m + 1) k = ((([[119, 104, 105, 108, 101, 32] ++ textF (d3, d4)] ++ factT [105, 110, 118] d7) ++ [[100, 111]]) ++ linesF ps m (k + 1)) ++ [[101, 110, 100]]) := HLF.out
      clear HLF
      obtain ⟨SM, hSM⟩ : ∃ X, textF (d3, d4) = X := ⟨_, rfl⟩
      rw [hSM] at HCS l1
      obtain ⟨IX, hIX⟩ : ∃ X, textF (d5, d6) = X := ⟨_, rfl⟩
      rw [hIX] at HCI l2
      rw [hSM] at HLF2
      have e20 := badd SM [10]
      have n20 : ¬ 9223372036854775807 < SM.length + 1 := by omega
      obtain ⟨SN, hSN⟩ : ∃ X, SM ++ [10] = X := ⟨_, rfl⟩
      have hSNl : SN.length = SM.length + 1 := by rw [← hSN]; simp
      rw [hSN] at e20
      have HSN := hid hSN
      have HG : Hid True := trivial
      clear hSM hIX hSN
      have hw1 := HTK1.out rfl
      have HEN : Hid (endI (endB ((ps.drop k).take n) 1) = ((e - k : Nat) : Int)) := by unfold Hid; rw [HEND.out 1 e hw1 (by omega)]; rfl
      have HCE := hid (c_l03End (k := 1) H.out (by omega) (by omega))
      rw [hlen] at HCE
      have g1 := (walkT_ge ps.length 1 (k + 1) e (by omega) hw1).1
      have hnp := H.out.1
      rw [hlen] at hnp
      have HCA := hid (fun (w' : World) (hb' : Below w.heap.size w w') => IH.out (k + 1) (n - 1) e (some ⟨b, off + 8, none⟩) (p - 1) w' (by rw [← sub_sub (k := k) (n := n) (i := 1) (by omega)]; exact SlRd.sub (i := 1) (n := n - 1) (H.out.below (Nat.le_refl _) hb') (by rw [hlen]; omega) (.inr rfl)) (by omega) hw1 (by omega) (by omega))
      have lA := (linesF_bounds m (k + 1) e hw1).1
      have lF := (factT_bounds (wd := [105, 110, 118]) (by decide) HFC.out).1
      have HCG : Hid (∀ (w' : World), Below w.heap.size w w' → Calls Tryd.prog 60 #[.string ⟨#[105, 110, 118, 32]⟩, .slice a7 d7.length p7] w' fun e w'' => e = .returned (strOf (nlF (factT [105, 110, 118] d7))) ∧ Below w'.heap.size w' w'') := fun w' hb' => c_l03Given (wd := [105, 110, 118]) (HS7.out.below (Nat.le_refl _) hb') (by decide) HFC.out
      obtain ⟨FA, hFA⟩ : ∃ X, linesF ps m (k + 1) = X := ⟨_, rfl⟩
      rw [hFA] at HLF2 HCA lA
      obtain ⟨XA, hXA⟩ : ∃ X, nlF FA = X := ⟨_, rfl⟩
      have HXA := hid hXA
      rw [hXA] at HCA lA
      obtain ⟨FG, hFG⟩ : ∃ X, factT [105, 110, 118] d7 = X := ⟨_, rfl⟩
      rw [hFG] at HLF2 HCG lF
      obtain ⟨XF, hXF⟩ : ∃ X, nlF FG = X := ⟨_, rfl⟩
      have HXF := hid hXF
      rw [hXF] at HCG lF
      have lA6 : XA.length ≤ 60000 := by omega
      have q1 : (1 : Int) ≤ (n : Int) := by omega
      have q1n : 1 ≤ n := by omega
      have q4 : ¬ p = 1 := by omega
      clear hw1 hFA hXA hFG hXF lA
      have e21 := badd [119, 104, 105, 108, 101, 32] SN
      obtain ⟨X0, hX0⟩ : ∃ X, [119, 104, 105, 108, 101, 32] ++ SN = X := ⟨_, rfl⟩
      have lX0 : X0.length = 6 + SN.length := by rw [← hX0]; simp <;> omega
      have n21 : ¬ 9223372036854775807 < 6 + SN.length := by omega
      rw [hX0] at e21
      have HX0 := hid hX0
      clear hX0
      have e22 := badd X0 XF
      obtain ⟨X1, hX1⟩ : ∃ X, X0 ++ XF = X := ⟨_, rfl⟩
      have lX1 : X1.length = X0.length + XF.length := by rw [← hX1]; simp <;> omega
      have n22 : ¬ 9223372036854775807 < X0.length + XF.length := by omega
      rw [hX1] at e22
      have HX1 := hid hX1
      clear hX1
      have e23 := badd X1 [100, 111, 10]
      obtain ⟨X2, hX2⟩ : ∃ X, X1 ++ [100, 111, 10] = X := ⟨_, rfl⟩
      have lX2 : X2.length = X1.length + 3 := by rw [← hX2]; simp <;> omega
      have n23 : ¬ 9223372036854775807 < X1.length + 3 := by omega
      rw [hX2] at e23
      have HX2 := hid hX2
      clear hX2
      have e24 := badd X2 XA
      obtain ⟨X3, hX3⟩ : ∃ X, X2 ++ XA = X := ⟨_, rfl⟩
      have lX3 : X3.length = X2.length + XA.length := by rw [← hX3]; simp <;> omega
      have n24 : ¬ 9223372036854775807 < X2.length + XA.length := by omega
      rw [hX3] at e24
      have HX3 := hid hX3
      clear hX3
      have e25 := badd X3 [101, 110, 100, 10]
      obtain ⟨X4, hX4⟩ : ∃ X, X3 ++ [101, 110, 100, 10] = X := ⟨_, rfl⟩
      have lX4 : X4.length = X3.length + 4 := by rw [← hX4]; simp <;> omega
      have n25 : ¬ 9223372036854775807 < X3.length + 4 := by omega
      rw [hX4] at e25
      have HX4 := hid hX4
      clear hX4
      have HF : Hid (nlF (linesF ps (m + 1) k) = X4) := by unfold Hid; rw [HLF2.out, ← HX4.out, ← HX3.out, ← HX2.out, ← HX1.out, ← HX0.out, ← HXA.out, ← HXF.out, ← HSN.out]; simp [nlF]
      clear hSNl lX0 lX1 lX2 lX3 lX4
      go_enter Tryd.func61, Tryd.ntmps61
      go_wp2_with (first | (go_at_call 96; refine (c_l03Below _ _).mono ?_; rintro e w1 ⟨rfl, rfl⟩; rw [show belowI 8 = 1 from rfl]) | (go_at_call 95; refine HCE.out.mono ?_; rintro e w1 ⟨rfl, rfl⟩; rw [HEN.out]) | (have hq := HG.out; clear hq HG; go_at_call 70; refine (HCS.out _ (Below.refl _ _)).mono ?_; rintro e w2 ⟨rfl, hb2⟩; have HB2 := hid hb2; have z2 := Nat.lt_of_lt_of_le hb hb2.size; have t0 := cell_below hb2 hb hc0; have t1 := cell_below hb2 hb hc1; have t2 := cell_below hb2 hb hc2; have t7 := cell_below hb2 hb hc7; clear hb2; unfold strOf))
      go_region_held3 (fun w' => w'.cell? ⟨b, off + 7, none⟩ = some (.slice a7 d7.length p7)) (first | exact t7 | exact kk1 | exact kk2) (first | (go_at_call 60; refine (HCG.out _ HB2.out.drew).mono ?_; rintro e w3 ⟨rfl, hb3⟩; unfold strOf; have HB3 := hid (HB2.out.drew.trans (hb3.mono HB2.out.size)); have kk1 := cell_below hb3 z2 t7; have z3 := Nat.lt_of_lt_of_le z2 hb3.size; clear hb3) | (go_at_call 61; refine (HCA.out _ HB3.out).mono ?_; rintro e w4 ⟨rfl, hb4⟩; unfold strOf; have HB4 := hid (bel_next HB3.out HB3.out.size hb4); have kk2 := cell_below hb4 z3 kk1; clear hb4))
      all_goals
        go_wp2
        go_ret
        rw [HF.out]
        exact ⟨rfl, HB4.out⟩
end Go.Proofs.YtcmopmapdomneaaDoor
end

section
namespace Go.Proofs.YtcmopmapdomneaaDoor
open Go.RowKit

theorem prog_parts {d0 : List Term} {d1 : List Stmt} {d2 : List Term} (h : progF (d0, d1, d2) = true) : d1.length ≤ 30 ∧ walkT (stN d1) d1.length 1 0 = some d1.length ∧ areOverF d0 6 = true ∧ areOverF d2 6 = true := by
  simp only [progF, Bool.and_eq_true] at h
  obtain ⟨⟨h1, h2⟩, h3⟩ := h
  exact ⟨(body_walk h1).1, (body_walk h1).2, h2, h3⟩
theorem prog_bounds {d0 : List Term} {d1 : List Stmt} {d2 : List Term} (h : progF (d0, d1, d2) = true) : (nlF (factT [112, 114, 101] d0)).length ≤ 1578 ∧ (nlF (linesF d1 d1.length 0)).length ≤ 60000 ∧ (linesF d1 d1.length 0).length ≤ 300 ∧ (nlF (factT [112, 111, 115, 116] d2)).length ≤ 1578 := by
  obtain ⟨h1, h2, h3, h4⟩ := prog_parts h
  have := linesF_bounds d1.length 0 d1.length h2
  exact ⟨(factT_bounds (by decide) h3).1, by omega, by omega, (factT_bounds (by decide) h4).1⟩
set_option maxHeartbeats 2000000 in
set_option maxRecDepth 100000 in
theorem c_l03Text {S : Nat → Prop} {g : Nat} {a0 : Option Addr} {p0 : Nat} {d0 : List Term} {a1 : Option Addr} {p1 : Nat} {d1 : List Stmt} {a2 : Option Addr} {p2 : Nat} {d2 : List Term} {w : World} (h0 : SlRd cTerm S w a0 p0 d0) (h1 : SlRd cStmt S w a1 p1 d1) (h2 : SlRd cTerm S w a2 p2 d2)
    (t0 : w.cell? ⟨g, 0, none⟩ = some (.slice a0 d0.length p0)) (t1 : w.cell? ⟨g, 1, none⟩ = some (.slice a1 d1.length p1)) (t2 : w.cell? ⟨g, 2, none⟩ = some (.slice a2 d2.length p2)) (hg : g < w.heap.size) (hv : progF (d0, d1, d2) = true) :
    Calls Tryd.prog 30 #[.pointer (some ⟨g, 0, none⟩)] w fun e w' => e = .returned (strOf (nlF (progLines (d0, d1, d2)))) ∧ Below w.heap.size w w' := by
  obtain ⟨v1, vw, v0, v2⟩ := prog_parts hv
  obtain ⟨b0, b1, _, b2⟩ := prog_bounds hv
  have HC0 : Hid (∀ (w' : World), Below w.heap.size w w' → Calls Tryd.prog 60 #[.string ⟨#[112, 114, 101, 32]⟩, .slice a0 d0.length p0] w' fun e w'' => e = .returned (strOf (nlF (factT [112, 114, 101] d0))) ∧ Below w'.heap.size w' w'') := fun w' hb' => c_l03Given (wd := [112, 114, 101]) (h0.below (Nat.le_refl _) hb') (by decide) v0
  have HC2 : Hid (∀ (w' : World), Below w.heap.size w w' → Calls Tryd.prog 60 #[.string ⟨#[112, 111, 115, 116, 32]⟩, .slice a2 d2.length p2] w' fun e w'' => e = .returned (strOf (nlF (factT [112, 111, 115, 116] d2))) ∧ Below w'.heap.size w' w'') := fun w' hb' => c_l03Given (wd := [112, 111, 115, 116]) (h2.below (Nat.le_refl _) hb') (by decide) v2
  have HC1 := hid (fun (w' : World) (hb' : Below w.heap.size w w') => c_l03Lines (S := S) (ps := d1) v1 d1.length 0 d1.length d1.length a1 p1 w' (by rw [List.drop_zero, List.take_length]; exact h1.below (Nat.le_refl _) hb') (by omega) vw (by omega) (by omega))
  have HF0 : Hid (nlF (progLines (d0, d1, d2)) = (nlF (factT [112, 114, 101] d0) ++ nlF (linesF d1 d1.length 0)) ++ nlF (factT [112, 111, 115, 116] d2)) := by unfold Hid progLines; simp only; rw [nlF_append, nlF_append]
  obtain ⟨X0, hX0⟩ : ∃ X, nlF (factT [112, 114, 101] d0) = X := ⟨_, rfl⟩
  obtain ⟨X1, hX1⟩ : ∃ X, nlF (linesF d1 d1.length 0) = X := ⟨_, rfl⟩
  obtain ⟨X2, hX2⟩ : ∃ X, nlF (factT [112, 111, 115, 116] d2) = X := ⟨_, rfl⟩
  rw [hX0] at HC0 b0 HF0
  rw [hX1] at HC1 b1 HF0
  rw [hX2] at HC2 b2 HF0
  have e1 := badd X0 X1
  have n1 : ¬ 9223372036854775807 < X0.length + X1.length := by omega
  obtain ⟨Y, hY⟩ : ∃ Y, X0 ++ X1 = Y := ⟨_, rfl⟩
  have lY : Y.length = X0.length + X1.length := by rw [← hY]; simp
  rw [hY] at e1 HF0
  have e2 := badd Y X2
  have n2 : ¬ 9223372036854775807 < Y.length + X2.length := by omega
  obtain ⟨Z, hZ⟩ : ∃ Z, Y ++ X2 = Z := ⟨_, rfl⟩
  rw [hZ] at e2 HF0
  have HG : Hid True := trivial
  clear hX0 hX1 hX2 hY hZ h0 h1 h2 hv v1 vw v0 v2 lY
  go_enter Tryd.func30, Tryd.ntmps30
  go_wp2
  go_region_held3 (fun w' => w'.cell? ⟨g, 0, none⟩ = some (.slice a0 d0.length p0) ∧ w'.cell? ⟨g, 1, none⟩ = some (.slice a1 d1.length p1) ∧ w'.cell? ⟨g, 2, none⟩ = some (.slice a2 d2.length p2)) (first | exact ⟨t0, t1, t2⟩ | exact kk1 | exact kk2 | exact kk3) (first | (have hq := HG.out; clear hq HG; go_at_call 60; refine (HC0.out _ (below_drewN _ _ 1)).mono ?_; rintro e w2 ⟨rfl, hb2⟩; unfold strOf; have HB2 : Hid (Below w.heap.size w w2) := (below_drewN _ w 1).trans hb2; have kk1 := And.intro (cell_below HB2.out hg t0) (And.intro (cell_below HB2.out hg t1) (cell_below HB2.out hg t2)); clear hb2) | (go_at_call 61; refine (HC1.out _ HB2.out).mono ?_; rintro e w3 ⟨rfl, hb3⟩; unfold strOf; have HB3 := hid (bel_next HB2.out HB2.out.size hb3); have kk2 := And.intro (cell_below HB3.out hg t0) (And.intro (cell_below HB3.out hg t1) (cell_below HB3.out hg t2)); clear hb3) | (go_at_call 60; refine (HC2.out _ HB3.out).mono ?_; rintro e w4 ⟨rfl, hb4⟩; unfold strOf; have HB4 := hid (bel_next HB3.out HB3.out.size hb4); have kk3 := And.intro (cell_below HB4.out hg t0) (And.intro (cell_below HB4.out hg t1) (cell_below HB4.out hg t2)); clear hb4))
  all_goals
    go_wp2
    go_ret
    rw [HF0.out]
    exact ⟨rfl, HB4.out⟩
theorem c_sProgramText {S : Nat → Prop} {a0 : Option Addr} {p0 : Nat} {d0 : List Term} {a1 : Option Addr} {p1 : Nat} {d1 : List Stmt} {a2 : Option Addr} {p2 : Nat} {d2 : List Term} {w : World} (h0 : SlRd cTerm S w a0 p0 d0) (h1 : SlRd cStmt S w a1 p1 d1) (h2 : SlRd cTerm S w a2 p2 d2) :
    Calls Tryd.prog 11 #[.agg #[.slice a0 d0.length p0, .slice a1 d1.length p1, .slice a2 d2.length p2]] w fun e w' => e = .returned (.tuple #[strOf (progTextF (d0, d1, d2)).1, .bool (progTextF (d0, d1, d2)).2]) ∧ Below w.heap.size w w' := by
  have t0 : (w.alloc (.cells #[.slice a0 d0.length p0, .slice a1 d1.length p1, .slice a2 d2.length p2] 45)).cell? ⟨w.heap.size, 0, none⟩ = some (.slice a0 d0.length p0) := by rw [World.cell?_alloc_at _ _ _ _ rfl]; rfl
  have t1 : (w.alloc (.cells #[.slice a0 d0.length p0, .slice a1 d1.length p1, .slice a2 d2.length p2] 45)).cell? ⟨w.heap.size, 1, none⟩ = some (.slice a1 d1.length p1) := by rw [World.cell?_alloc_at _ _ _ _ rfl]; rfl
  have t2 : (w.alloc (.cells #[.slice a0 d0.length p0, .slice a1 d1.length p1, .slice a2 d2.length p2] 45)).cell? ⟨w.heap.size, 2, none⟩ = some (.slice a2 d2.length p2) := by rw [World.cell?_alloc_at _ _ _ _ rfl]; rfl
  have HC := hid (c_l03Is (b := w.heap.size) (h0.alloc (.cells #[.slice a0 d0.length p0, .slice a1 d1.length p1, .slice a2 d2.length p2] 45)) (h1.alloc _) (h2.alloc _) t0 t1 t2)
  have HB : Hid (Below w.heap.size w (w.alloc (.cells #[.slice a0 d0.length p0, .slice a1 d1.length p1, .slice a2 d2.length p2] 45))) := (Below.refl _ _).alloc (Nat.le_refl _) _
  obtain ⟨r, hr⟩ : ∃ r, progF (d0, d1, d2) = r := ⟨_, rfl⟩
  rw [hr] at HC
  cases r
  · have HF : Hid (progTextF (d0, d1, d2) = ([], false)) := by unfold Hid progTextF; rw [hr]; rfl
    clear hr h0 h1 h2 t0 t1 t2
    go_enter Tryd.func11, Tryd.ntmps11
    go_wp2_with (go_at_call 29; refine HC.out.mono ?_; rintro e w1 ⟨rfl, rfl⟩)
    go_ret2
    rw [HF.out]
    exact ⟨rfl, HB.out⟩
  · have HF : Hid (progTextF (d0, d1, d2) = (nlF (progLines (d0, d1, d2)), true)) := by unfold Hid progTextF; rw [hr]; rfl
    have HT := hid (c_l03Text (h0.alloc _) (h1.alloc _) (h2.alloc _) t0 t1 t2 (by simp) hr)
    clear hr h0 h1 h2 t0 t1 t2
    obtain ⟨X, hX⟩ : ∃ X, nlF (progLines (d0, d1, d2)) = X := ⟨_, rfl⟩
    rw [hX] at HT HF
    clear hX
    go_enter Tryd.func11, Tryd.ntmps11
    go_wp2_with (first | (go_at_call 29; refine HC.out.mono ?_; rintro e w1 ⟨rfl, rfl⟩) | (go_at_call 30; refine HT.out.mono ?_; rintro e w2 ⟨rfl, hb2⟩; have HB2 := hid (bel_next HB.out HB.out.size hb2); clear hb2; unfold strOf))
    go_ret2
    rw [HF.out]
    exact ⟨rfl, HB2.out⟩
end Go.Proofs.YtcmopmapdomneaaDoor
end

section
namespace Go.Proofs.YtcmopmapdomneaaDoor
open Go.RowKit

/-- The eight cells of a statement and the slice behind them. -/
def TCells (w : World) (g : Nat) (d : Stmt) (a4 : Option Addr) (p4 : Nat) (a6 : Option Addr) (p6 : Nat) (a7 : Option Addr) (p7 : Nat) : Prop :=
  w.cell? ⟨g, 0, none⟩ = some (.int .i64 d.1) ∧ w.cell? ⟨g, 1, none⟩ = some (.int .i64 d.2.1) ∧ w.cell? ⟨g, 2, none⟩ = some (.int .i64 d.2.2.1) ∧ w.cell? ⟨g, 3, none⟩ = some (.int .i64 d.2.2.2.1.1) ∧ w.cell? ⟨g, 4, none⟩ = some (.slice a4 d.2.2.2.1.2.length p4) ∧
    w.cell? ⟨g, 5, none⟩ = some (.int .i64 d.2.2.2.2.1.1) ∧ w.cell? ⟨g, 6, none⟩ = some (.slice a6 d.2.2.2.2.1.2.length p6) ∧ w.cell? ⟨g, 7, none⟩ = some (.slice a7 d.2.2.2.2.2.length p7)
theorem TCells.same {w w' : World} {g : Nat} {d : Stmt} {a4 : Option Addr} {p4 : Nat} {a6 : Option Addr} {p6 : Nat} {a7 : Option Addr} {p7 : Nat} (h : TCells w g d a4 p4 a6 p6 a7 p7) (hc : ∀ o, o < 8 → w'.cell? ⟨g, o, none⟩ = w.cell? ⟨g, o, none⟩) : TCells w' g d a4 p4 a6 p6 a7 p7 := by
  obtain ⟨h0, h1, h2, h3, h4, h5, h6, h7⟩ := h
  exact ⟨(hc 0 (by omega)).trans h0, (hc 1 (by omega)).trans h1, (hc 2 (by omega)).trans h2, (hc 3 (by omega)).trans h3, (hc 4 (by omega)).trans h4, (hc 5 (by omega)).trans h5, (hc 6 (by omega)).trans h6, (hc 7 (by omega)).trans h7⟩
theorem TCells.below {w w' : World} {n g : Nat} {d : Stmt} {a4 : Option Addr} {p4 : Nat} {a6 : Option Addr} {p6 : Nat} {a7 : Option Addr} {p7 : Nat} (h : TCells w g d a4 p4 a6 p6 a7 p7) (hb : Below n w w') (hg : g < n) : TCells w' g d a4 p4 a6 p6 a7 p7 :=
  h.same fun o _ => hb.cell (p := ⟨g, o, none⟩) hg
theorem own_rdT {α : Type} {C : Codec α} {S T : Nat → Prop} {w : World} {base : Nat} {e : TypeId} {v : Value} {ys : List α} (h : OwnSl C S w base e v ys) (hS : ∀ b, S b → b < w.heap.size → T b) (hT : ∀ b, base ≤ b → b < w.heap.size → T b) : ∃ a cap, v = .slice a ys.length cap ∧ SlRd C T w a cap ys := by
  obtain ⟨xs, hr, hel⟩ := h
  rcases hr.2 with ⟨h1, h2⟩ | ⟨g, cap, cur, rfl, hbg, hg, hnc, hcm, hcs, htake⟩
  · refine ⟨none, 0, by rw [h1, h2], by omega, by decide, fun _ => rfl, by simp⟩
  · refine ⟨_, cap, rfl, hnc, by unfold maxLen at hcm; simpa using hcm, by simp, ?_⟩
    rintro x hx i d hi
    cases hx
    obtain ⟨cs, r, hc⟩ := hel i d hi
    have hgl := (Array.getElem?_eq_some_iff.1 hg).1
    refine ⟨⟨rfl, hT g hbg hgl, hgl⟩, cs, C.keep (fun b hs hl => ⟨hS b hs.1 hl, rfl⟩) r, fun j u hj => ?_⟩
    have h2 := hc j u hj
    rw [← htake, List.getElem?_take] at h2
    split at h2
    · simp only [Nat.zero_add]
      rw [cell_of_row w g _ cur e (0, 0) hg]; simpa using h2
    · cases h2
def kidsP (ps : List Stmt) (d : Stmt) (k : Nat) : List Nat := if stmtBe d = 0 then [] else if stmtBe d = 1 then [k + 1] else [k + 1, endAt ps (k + 1)]
/-- A pointer to the tree of statement k of a body. -/
def cTr (ps : List Stmt) : Nat → Codec Nat
  | 0 => { n := 1, rd := fun _ _ _ _ => False, len := fun h => h.elim, one := fun h => h.elim, keep := fun _ h => h }
  | m + 1 => {
    n := 1
    rd := fun T w cs k => ∃ (g : Nat) (d : Stmt) (a4 : Option Addr) (p4 : Nat) (a6 : Option Addr) (p6 : Nat) (a7 : Option Addr) (p7 : Nat) (ak : Option Addr) (pk : Nat),
      cs = [.pointer (some ⟨g, 0, none⟩)] ∧ T g ∧ g < w.heap.size ∧ ps[k]? = some d ∧ stmtOk d = true ∧ TCells w g d a4 p4 a6 p6 a7 p7 ∧
      SlRd cInt T w a4 p4 d.2.2.2.1.2 ∧ SlRd cInt T w a6 p6 d.2.2.2.2.1.2 ∧ SlRd cTerm T w a7 p7 d.2.2.2.2.2 ∧
      w.cell? ⟨g, 9, none⟩ = some (.slice ak (kidsP ps d k).length pk) ∧ SlRd (cTr ps m) T w ak pk (kidsP ps d k)
    len := by rintro _ _ _ _ ⟨g, d, a4, p4, a6, p6, a7, p7, ak, pk, rfl, _⟩; rfl
    one := by rintro _ _ _ _ ⟨g, d, a4, p4, a6, p6, a7, p7, ak, pk, rfl, _⟩ u hu; simp at hu; subst hu; rfl
    keep := by
      rintro T T' w w' cs k hk ⟨g, d, a4, p4, a6, p6, a7, p7, ak, pk, rfl, hT, hg, hd, hok, hc, s4, s6, s7, c9, sk⟩
      obtain ⟨hT', he⟩ := hk g hT hg
      have hg' : g < w'.heap.size := by
        rw [show w.heap[g]? = some w.heap[g] by simp [hg]] at he
        exact (Array.getElem?_eq_some_iff.1 he).1
      exact ⟨g, d, a4, p4, a6, p6, a7, p7, ak, pk, rfl, hT', hg', hd, hok, hc.same fun o _ => World.cell?_of_block (w := w) (a := ⟨g, o, none⟩) he, s4.keep hk, s6.keep hk, s7.keep hk, (World.cell?_of_block (w := w) (a := ⟨g, 9, none⟩) he).trans c9, sk.keep hk⟩ }
theorem cTr_n (ps : List Stmt) (m : Nat) : (cTr ps m).n = 1 := by cases m <;> rfl
/-- Trees in the blocks from n0 down and from n1 on. -/
def Out (N n1 : Nat) (b : Nat) : Prop := b < N ∨ n1 ≤ b
/-- A tree or none, the index behind it, a yes or no. -/
def RetTr (ps : List Stmt) (T : Nat → Prop) (m k : Nat) (o : Option Nat) (w : World) (e : Ending) (w' : World) : Prop :=
  ∃ q : Option Addr, e = .returned (.tuple #[.pointer q, .int .i64 (o.getD 0 : Nat), .bool o.isSome]) ∧ Below w.heap.size w w' ∧ (o.isSome = true → (cTr ps m).rd T w' [.pointer q] k)
theorem retTr_none {ps : List Stmt} {T : Nat → Prop} {m k : Nat} {o : Option Nat} {w w' : World} (h : o = none) (hb : Below w.heap.size w w') : RetTr ps T m k o w (.returned (.tuple #[.pointer none, .int .i64 0, .bool false])) w' :=
  ⟨none, by rw [h]; rfl, hb, fun h1 => by rw [h] at h1; cases h1⟩
theorem c_tree_outT {T : Nat → Prop} {m : Nat} {a : Option Addr} {p : Nat} {ps : List Stmt} {k : Nat} {w : World} (hk : ps.length ≤ k) :
    Calls Tryd.prog 98 #[.slice a ps.length p, .int .i64 k] w (RetTr ps T m k (walkT (stN ps) ps.length 1 k) w) := by
  have HF : Hid (walkT (stN ps) ps.length 1 k = none) := walkT_out (c := 0) hk
  have e1 : decide ((ps.length : Int) ≤ (k : Int)) = true := decide_eq_true (by omega)
  go_enter Tryd.func98, Tryd.ntmps98
  go_wp2
  go_ret3
  exact retTr_none HF.out (Below.refl _ _)
set_option maxHeartbeats 4000000 in
set_option maxRecDepth 100000 in
theorem c_treeAtT {N : Nat} {a : Option Addr} {p : Nat} {ps : List Stmt} (hn : ps.length ≤ 30) : ∀ (m k : Nat) (w : World), ps.length - k ≤ m → N ≤ w.heap.size → SlRd cStmt (fun b => b < N) w a p ps →
    Calls Tryd.prog 98 #[.slice a ps.length p, .int .i64 k] w (RetTr ps (Out N w.heap.size) m k (walkT (stN ps) ps.length 1 k) w) := by
  intro m
  induction m with
  | zero => intro k w hm hN h; exact c_tree_outT (by omega)
  | succ m ih =>
    intro k w hm hN h
    by_cases hlt : k < ps.length
    · have IH := hid ih
      have H := hid h
      obtain ⟨b, off, rfl⟩ := h.some_of hlt
      obtain ⟨d0, d1, d2, d3, a4, p4, d4, d5, a6, p6, d6, a7, p7, d7, hz, hi0, hi1, hi2, hi3, hi5, hs4, hs6, hs7, hc0, hc1, hc2, hc3, hc4, hc5, hc6, hc7, hb⟩ := h.stmt_at k hlt
      have HA := hid (stN_at hz)
      have HZ := hid hz
      have HC := hid (c_kidsOf (d0 := d0) (d1 := d1) (d2 := d2) (d3 := d3) (d5 := d5) hs4 hs6 hs7)
      have HS4 := hid hs4
      have HS6 := hid hs6
      have HS7 := hid hs7
      have e1 : decide ((ps.length : Int) ≤ (k : Int)) = false := decide_eq_false (by omega)
      have i0 : (0 : Int) ≤ (k : Int) := by omega
      have i1 : (k : Int) < (ps.length : Int) := by omega
      have hw1 : IntKind.i64.wrap ((k : Int) + 1) = (k : Int) + 1 := wrap_in _ (by omega) (by omega)
      clear ih h hz hs4 hs6 hs7 hi0 hi1 hi2 hi3 hi5
      obtain ⟨r, hr⟩ : ∃ r, stmtAr (d0, d1, d2, (d3, d4), (d5, d6), d7) = r := ⟨_, rfl⟩
      have HR := hid hr
      have HAR : Hid (stN ps k = r) := HA.out.trans hr
      have hr2 : ∀ c, r = some c → c ≤ 2 ∧ stmtOk (d0, d1, d2, (d3, d4), (d5, d6), d7) = true ∧ c = stmtBe (d0, d1, d2, (d3, d4), (d5, d6), d7) := fun c hc => by
        refine ⟨stmtAr_le (hr.trans hc), ?_⟩
        rw [hc] at hr
        unfold stmtAr at hr
        split at hr
        · rename_i hok; cases hr; exact ⟨hok, rfl⟩
        · cases hr
      clear hr HA
      cases r with
      | none =>
        have HF : Hid (walkT (stN ps) ps.length 1 k = none) := walkT_bad (c := 0) HAR.out
        clear hr2
        go_enter Tryd.func98, Tryd.ntmps98
        go_wp2_with (go_at_call 112; refine HC.out.mono ?_; rintro e w1 ⟨rfl, hb1⟩; rw [HR.out]; simp only [arI]; have HB1 := hid hb1; clear hb1)
        go_ret3
        exact retTr_none HF.out HB1.out
      | some c =>
        obtain ⟨hcb, hok, hcbe⟩ := hr2 c rfl
        have HOK := hid hok
        have HBE := hid hcbe
        have HW : Hid (walkT (stN ps) ps.length 1 k = walkT (stN ps) ps.length c (k + 1)) := walkT_one hlt HAR.out
        clear hr2 hok hcbe
        go_enter Tryd.func98, Tryd.ntmps98
        go_wp2_with fail
        refine HC.out.mono ?_
        rintro e w1 ⟨rfl, hb1⟩
        rw [HR.out]
        simp only [arI]
        have HB1 := hid hb1
        have H1 := hid (H.out.below (Nat.le_refl _) hb1)
        have x0 := cell_below hb1 hb hc0
        have x1 := cell_below hb1 hb hc1
        have x2 := cell_below hb1 hb hc2
        have x3 := cell_below hb1 hb hc3
        have x4 := cell_below hb1 hb hc4
        have x5 := cell_below hb1 hb hc5
        have x6 := cell_below hb1 hb hc6
        have x7 := cell_below hb1 hb hc7
        have hg1 : w.heap.size ≤ w1.heap.size := hb1.size
        clear hb1 hc0 hc1 hc2 hc3 hc4 hc5 hc6 hc7 hb
        go_wp2
        have y0 : (w1.alloc (.cells #[.int .i64 d0, .int .i64 d1, .int .i64 d2, .int .i64 d3, .slice a4 d4.length p4, .int .i64 d5, .slice a6 d6.length p6, .slice a7 d7.length p7, .int .i64 k, .slice none 0 0] 150)).cell? ⟨w1.heap.size, 9, none⟩ = some (.slice none 0 0) := by rw [World.cell?_alloc_at _ _ _ _ rfl]; rfl
        have y1 : (w1.alloc (.cells #[.int .i64 d0, .int .i64 d1, .int .i64 d2, .int .i64 d3, .slice a4 d4.length p4, .int .i64 d5, .slice a6 d6.length p6, .slice a7 d7.length p7, .int .i64 k, .slice none 0 0] 150)).frozen? ⟨w1.heap.size, 9, none⟩ = false := frozen_of_row _ _ _ _ _ (heap_new _ _)
        have HTC : Hid (TCells (w1.alloc (.cells #[.int .i64 d0, .int .i64 d1, .int .i64 d2, .int .i64 d3, .slice a4 d4.length p4, .int .i64 d5, .slice a6 d6.length p6, .slice a7 d7.length p7, .int .i64 k, .slice none 0 0] 150)) w1.heap.size (d0, d1, d2, (d3, d4), (d5, d6), d7) a4 p4 a6 p6 a7 p7) := ⟨by rw [World.cell?_alloc_at _ _ _ _ rfl]; rfl, by rw [World.cell?_alloc_at _ _ _ _ rfl]; rfl, by rw [World.cell?_alloc_at _ _ _ _ rfl]; rfl, by rw [World.cell?_alloc_at _ _ _ _ rfl]; rfl, by rw [World.cell?_alloc_at _ _ _ _ rfl]; rfl, by rw [World.cell?_alloc_at _ _ _ _ rfl]; rfl, by rw [World.cell?_alloc_at _ _ _ _ rfl]; rfl, by rw [World.cell?_alloc_at _ _ _ _ rfl]; rfl⟩
        have HB2 : Hid (Below w.heap.size w (w1.alloc (.cells #[.int .i64 d0, .int .i64 d1, .int .i64 d2, .int .i64 d3, .slice a4 d4.length p4, .int .i64 d5, .slice a6 d6.length p6, .slice a7 d7.length p7, .int .i64 k, .slice none 0 0] 150))) := HB1.out.alloc hg1 _
        have y2 : w1.heap.size < (w1.alloc (.cells #[.int .i64 d0, .int .i64 d1, .int .i64 d2, .int .i64 d3, .slice a4 d4.length p4, .int .i64 d5, .slice a6 d6.length p6, .slice a7 d7.length p7, .int .i64 k, .slice none 0 0] 150)).heap.size := by simp
        generalize w1.alloc (.cells #[.int .i64 d0, .int .i64 d1, .int .i64 d2, .int .i64 d3, .slice a4 d4.length p4, .int .i64 d5, .slice a6 d6.length p6, .slice a7 d7.length p7, .int .i64 k, .slice none 0 0] 150) = W2 at *
        obtain ⟨g, hg⟩ : ∃ g, g = w1.heap.size := ⟨_, rfl⟩
        rw [← hg] at y0 y1 y2 hg1 HTC ⊢
        clear hg x0 x1 x2 x3 x4 x5 x6 x7
        rw [show decide (ps.length ≤ k) = false from decide_eq_false (by omega)]
        go_loopw [1, 7] (fun kv cv wr => ∃ (k' c' : Nat) (v : Value) (ks : List Nat), kv = .int .i64 k' ∧ cv = .int .i64 c' ∧ k < k' ∧ c' + ks.length = c ∧ Hid (ks.length = 0 → k' = k + 1) ∧ Hid (ks.length = 1 → k' = endAt ps (k + 1)) ∧ Hid (walkT (stN ps) ps.length c (k + 1) = walkT (stN ps) ps.length c' k') ∧ Hid (Below w.heap.size w wr) ∧ g < wr.heap.size ∧ wr.cell? ⟨g, 9, none⟩ = some v ∧ wr.frozen? ⟨g, 9, none⟩ = false ∧ Hid (TCells wr g (d0, d1, d2, (d3, d4), (d5, d6), d7) a4 p4 a6 p6 a7 p7) ∧ Hid (ks = (if ks.length = 0 then [] else if ks.length = 1 then [k + 1] else [k + 1, endAt ps (k + 1)])) ∧ Hid (OwnSl (cTr ps m) (fun b => Out N (g + 1) b ∧ b < wr.heap.size) wr (g + 1) 112 v ks)) (fun _ cv _ => (intOf cv).toNat)
        case atStart => exact ⟨k + 1, c, _, [], by go_num, rfl, by omega, by simp, fun _ => rfl, fun h => by simp at h, rfl, HB2, y2, y0, y1, HTC, rfl, own_nil _ _ _ _ _⟩
        case round =>
          obtain ⟨k', c', v, ks, rfl, rfl, hkk, hcc, HK0, HK1, HWK, HB, hgr, cu0, cu1, HTC, HKI, HO⟩ := hrel
          by_cases hc0' : 0 < c'
          · obtain ⟨c'', rfl⟩ : ∃ c'', c' = c'' + 1 := ⟨c' - 1, by omega⟩
            have HI := hid (IH.out k' wr (by omega) (by omega) (H.out.below (Nat.le_refl _) HB.out))
            have e2 : decide ((0 : Int) < (c'' : Int) + 1) = true := decide_eq_true (by omega)
            cases he : walkT (stN ps) ps.length 1 k' with
            | none =>
              have HF : Hid (walkT (stN ps) ps.length 1 k = none) := by unfold Hid; rw [HW.out, HWK.out, walkT_step, he]; rfl
              rw [he] at HI
              clear he HWK
              go_wp2_with (go_at_call 98; refine HI.out.mono ?_; rintro e w2 ⟨q, rfl, hb2, _⟩; simp only [Option.getD_none, Option.isSome_none]; have HB2 := hid (bel_next HB.out HB.out.size hb2); clear hb2)
              go_ret3
              exact retTr_none HF.out HB2.out
            | some e1 =>
              have hge := walkT_ge ps.length 1 k' e1 (by omega) he
              have HE1 : Hid (endAt ps k' = e1) := endE_of he
              have HWN : Hid (walkT (stN ps) ps.length c (k + 1) = walkT (stN ps) ps.length c'' e1) := by unfold Hid; rw [HWK.out, walkT_step, he]; rfl
              rw [he] at HI
              clear he HWK
              have hks2 : ks.length < 2 := by omega
              obtain ⟨v0, hv0⟩ : ∃ x, x = v.ownBlock := ⟨_, rfl⟩
              have hvl := own_lt HO.out
              have HKS : Hid (ks ++ [k'] = (if (ks ++ [k']).length = 0 then [] else if (ks ++ [k']).length = 1 then [k + 1] else [k + 1, endAt ps (k + 1)])) := by
                unfold Hid
                match ks, HK0.out, HK1.out, HKI.out, hks2 with
                | [], h0, _, _, _ => rw [h0 rfl]; rfl
                | [x], _, h1, h2, _ => simp at h2; rw [h1 rfl, h2]; rfl
                | _ :: _ :: _, _, _, _, hl => simp only [List.length_cons] at hl; omega
              have HKN : Hid ((ks ++ [k']).length = 1 → e1 = endAt ps (k + 1)) := fun h => by
                rw [← HK0.out (by simp at h; simp [h]), HE1.out]
              go_wp2_with (first | (go_at_call 98; refine HI.out.mono ?_; rintro e w3 ⟨q, rfl, hb3, ht3⟩; simp only [Option.getD_some, Option.isSome_some]; have cu3 := cell_below hb3 hgr cu0; have f3 := frz_below hb3 hgr cu1; have hg3 := Nat.lt_of_lt_of_le hgr hb3.size; have HB3 := hid (bel_next HB.out HB.out.size hb3); have HO3 := hid (own_keep (S' := fun b => Out N (g + 1) b ∧ b < w3.heap.size) HO.out (fun b h _ => ⟨h.1, Nat.lt_of_lt_of_le h.2 hb3.size⟩) (fun b hl _ => hb3.block b hl)); have HTC3 := hid (HTC.out.below hb3 hgr); have HT3 := hid ((cTr ps m).keep (S' := fun b => (Out N (g + 1) b ∧ b < w3.heap.size) ∧ some b ≠ v.ownBlock) (w' := w3) (fun b hT hl => ⟨⟨⟨by unfold Out at hT ⊢; omega, hl⟩, fun he => by have := hvl b he.symm; unfold Out at hT; omega⟩, rfl⟩) (ht3 rfl)); clear hb3 ht3) | (at_builtin; refine app_own (C := cTr ps m) rfl (.tmp 49) (.tmp 51) _ rfl (by rw [cTr_n]; exact slTree) rfl rfl HO3.out (fun b h => h.2) k' HT3.out (by omega) (by omega) ?_; intro v4 w4 hO4 hb4; obtain ⟨av, pv, hv⟩ := own_len hO4; generalize (ks ++ [k']).length = nl at hv; subst hv; have cu4 := cell_below hb4 (Nat.lt_succ_self g) cu3; have f4 := frz_below hb4 (Nat.lt_succ_self g) f3; have hg4 := Nat.lt_of_lt_of_le hg3 hb4.size; have HTC4 := hid (HTC3.out.below hb4 (Nat.lt_succ_self g)); have HO4 := hid hO4; have HB4 := hid (HB3.out.trans (hb4.mono (by omega))); have hs4 := hb4.size; clear hO4 hb4))
              go_roundw
              case rel => exact ⟨e1, c'', _, ks ++ [k'], rfl, rfl, by omega, by simp; omega, fun h => by simp at h, HKN, HWN, HB4.out.setCell (by omega) _, by rw [size_set]; exact hg4, World.cell?_setCell_same _ _ _ cu4, by rw [World.frozen?_setCell]; exact f4, HTC4.out.same fun o ho => World.cell?_setCell_other _ _ _ _ (by intro he; injection he with _ h2; omega), HKS, own_keep HO4.out (fun b h _ => ⟨h.1, by rw [size_set]; omega⟩) fun b hl hs => heap_setCell_ne _ _ _ (by rcases hs with hs | hs; (have := hs.1; unfold Out at this; show b ≠ g; omega); (have := own_lt HO4.out b hs.symm; show b ≠ g; omega))⟩
              case measure => simp [intOf]
          · obtain rfl : c' = 0 := by omega
            have e2 : decide ((0 : Int) < ((0 : Nat) : Int)) = false := rfl
            have HF : Hid (walkT (stN ps) ps.length 1 k = some k') := by unfold Hid; rw [HW.out, HWK.out, walkT_zero]
            have HKP : Hid (ks = kidsP ps (d0, d1, d2, (d3, d4), (d5, d6), d7) k) := by
              have h1 := HKI.out
              have h2 : ks.length = stmtBe (d0, d1, d2, (d3, d4), (d5, d6), d7) := by rw [← HBE.out]; omega
              rw [h2] at h1
              exact h1
            obtain ⟨ak, pk, rfl, sk⟩ := own_rdT (T := Out N w.heap.size) HO.out (fun b h _ => by have := h.1; unfold Out at this ⊢; omega) (fun b h _ => by unfold Out; omega)
            have HSK := hid sk
            clear HWK HKI HO sk
            go_wp2
            go_ret3
            refine ⟨_, by rw [HF.out]; rfl, HB.out, fun _ => ⟨g, _, a4, p4, a6, p6, a7, p7, ak, pk, rfl, by unfold Out; omega, hgr, HZ.out, HOK.out, HTC.out, ?_, ?_, ?_, by rw [← HKP.out]; exact cu0, by rw [← HKP.out]; exact HSK.out⟩⟩
            · exact HS4.out.keep fun b hb hl => ⟨.inl hb, HB.out.block b (by omega)⟩
            · exact HS6.out.keep fun b hb hl => ⟨.inl hb, HB.out.block b (by omega)⟩
            · exact HS7.out.keep fun b hb hl => ⟨.inl hb, HB.out.block b (by omega)⟩
    · exact c_tree_outT (by omega)
end Go.Proofs.YtcmopmapdomneaaDoor
end
