/- Contracts: where blocks of code begin. -/
import Derived.Test.YtmpanchappoejaaL07lp
import Derived.Test.YtmpanchappoejaaL02y
namespace Go.Proofs.Ytmpanchappoejaa
open Go.RowKit

theorem jump_arg {x : Instr} (h : validI x = true) (hj : jumpB x.1 = true) : 0 ≤ x.2 ∧ x.2 ≤ 79 := by
  obtain ⟨op, arg⟩ := x
  have h5 : op = 5 ∨ op = 6 := by simpa [jumpB] using hj
  unfold validI at h
  simp only at h ⊢
  rcases h5 with rfl | rfl
  · have := inB_iff.1 (show inB arg 0 79 = true by simpa using h); omega
  · have := inB_iff.1 (show inB arg 0 79 = true by simpa using h); omega
set_option maxRecDepth 100000 in
set_option maxHeartbeats 1000000 in
theorem c_sLeadersOf {S : Nat → Prop} {a : Option Addr} {p : Nat} {xs : List Instr} {w : World} (h : SlRd cInstr S w a p xs) :
    Calls Try.prog 51 #[.slice a xs.length p] w (RetSlB cInt (leadF xs).1 (leadF xs).2 w) := by
  obtain ⟨r, hr⟩ : ∃ r, validCode xs = r := ⟨_, rfl⟩
  have HR := hid hr
  have H := hid h
  clear h
  cases r
  · have HF : Hid (leadF xs = ([], false)) := by unfold Hid leadF; rw [hr]; rfl
    clear hr
    go_enter Try.func51, Try.ntmps51
    go_wp2_with (go_at_call 89; refine (c_l07Is _ _ _ _ H.out).mono ?_; rintro e w1 ⟨rfl, hb1⟩; rw [HR.out])
    go_ret2
    rw [HF.out]
    exact ⟨none, 0, rfl, nil_rd _ _ _, hb1⟩
  · have HF : Hid (leadF xs = (leadL xs, true)) := by unfold Hid leadF; rw [hr]; rfl
    obtain ⟨hx1, hx80, hvx⟩ := validCode_iff hr
    have HV := hid hvx
    clear hr hvx
    go_enter Try.func51, Try.ntmps51
    go_wp2_with fail
    refine (c_l07Is _ _ _ _ H.out).mono ?_
    rintro e w1 ⟨rfl, hb1⟩
    rw [HR.out]
    have HB1 := hid hb1
    have H1 := hid (H.out.below (Nat.le_refl _) hb1)
    clear hb1
    go_wp2
    go_loopw [4, 6] (fun v i wr => ∃ (k : Nat) (av : Option Addr) (pv : Nat) (out : List Int), k ≤ xs.length ∧ i = .int .i64 k ∧ v = .slice av out.length pv ∧ Hid (LeadAt xs k out) ∧ Hid (SlRd cInt (Fresh w.heap.size wr) wr av pv out) ∧ Hid (SlRd cInstr S wr a p xs) ∧ Below w.heap.size w wr) (fun _ i _ => xs.length - (intOf i).toNat)
    case atStart =>
      have ho := own_lit1 cInt (fun _ => False) w1 w.heap.size 2 HB1.out.size (cs := #[.int .i64 0]) 0 (rd_int i64_0)
      obtain ⟨a2, p2, he, hs⟩ := own_rd (own_keep (S' := Fresh w.heap.size (w1.alloc (.cells #[.int .i64 0] 2))) ho (fun _ h => h.elim) fun _ _ _ => rfl) (Nat.le_refl _)
      cases he
      exact ⟨0, _, _, [0], Nat.zero_le _, rfl, rfl, leadAt_start hx1, hs, H1.out.alloc _, HB1.out.alloc HB1.out.size _⟩
    case round =>
      obtain ⟨k, av, pv, out, hk, rfl, rfl, HI, HO, HX, hbe⟩ := hrel
      have hsz := hbe.size
      by_cases hlt : k < xs.length
      · obtain ⟨b, off, rfl⟩ := HX.out.some_of hlt
        obtain ⟨x, y, hz, hx2, hy2, hc, hc', hb⟩ := HX.out.instr_at k hlt
        have hja := jump_arg (HV.out _ (List.mem_of_getElem? hz))
        simp only at hja
        have hol := leadAt_len HI.out
        have HN := hid (leadAt_next HI.out hz fun hj => (hja hj).1)
        have HO1 := hid (HO.out.fresh (Nat.le_refl _) (Nat.le_refl _) ((Below.refl _ _).alloc (Nat.le_refl _) (.cells #[.int .i64 x, .int .i64 y] 118)))
        have HBE := hid (hbe.alloc hsz (.cells #[.int .i64 x, .int .i64 y] 118))
        have HX1 := hid (HX.out.alloc (.cells #[.int .i64 x, .int .i64 y] 118))
        have t0 : (wr.alloc (.cells #[.int .i64 x, .int .i64 y] 118)).cell? ⟨wr.heap.size, 0, none⟩ = some (.int .i64 x) := by simp [go_sem]
        have t1 : (wr.alloc (.cells #[.int .i64 x, .int .i64 y] 118)).cell? ⟨wr.heap.size, 1, none⟩ = some (.int .i64 y) := by simp [go_sem]
        have z1 : wr.heap.size < (wr.alloc (.cells #[.int .i64 x, .int .i64 y] 118)).heap.size := by simp
        have hwr : IntKind.i64.wrap ((k : Int) + 1) = (k : Int) + 1 := wrap_in _ (by omega) (by omega)
        clear hz
        by_cases hj : jumpB x = true
        · obtain ⟨ja0, ja1⟩ := hja hj
          have hx5 : x = 5 ∨ x = 6 := by simpa [jumpB] using hj
          clear hja
          by_cases hy : y < xs.length
          · by_cases hk1 : (k : Int) + 1 < xs.length
            · skip
              have HN2 : Hid (LeadAt xs (k + 1) (putL (putL out y) ((k : Int) + 1))) := by unfold Hid; have h9 := HN.out; simpa [putIf, hj, hy, hk1] using h9
              clear hj
              rcases hx5 with rfl | rfl
              all_goals
                go_wp2_with fail
                refine (c_l00Put HO1.out (by omega) hy2).mono ?_
                rintro e w2 ⟨a2, p2, rfl, hs2, hb2⟩
                have HO2 := hid (hs2.lower HBE.out.size)
                have HB2 := hid (bel_next HBE.out HBE.out.size hb2)
                have HX2 := hid (HX1.out.below (Nat.le_refl _) hb2)
                have s0 := cell_below hb2 z1 t0
                have s1 := cell_below hb2 z1 t1
                have z2 := Nat.lt_of_lt_of_le z1 hb2.size
                have hpl := putL_len (l := out) (n := y)
                clear hb2 hs2 t0 t1
                go_wp2_with fail
                refine (c_l00Put HO2.out (by omega) ⟨by omega, by omega⟩).mono ?_
                rintro e w3 ⟨a3, p3, rfl, hs3, hb3⟩
                have HO3 := hid (hs3.lower HB2.out.size)
                have HB3 := hid (bel_next HB2.out HB2.out.size hb3)
                have HX3 := hid (HX2.out.below (Nat.le_refl _) hb3)
                clear hb3 hs3
                go_wp2
                go_roundw
                case rel => exact ⟨k + 1, a3, p3, _, by omega, by go_num, rfl, HN2, HO3, HX3, HB3.out⟩
                case measure => simp [intOf]; omega
            · skip
              have HN2 : Hid (LeadAt xs (k + 1) (putL out y)) := by unfold Hid; have h9 := HN.out; simpa [putIf, hj, hy, hk1] using h9
              clear hj
              rcases hx5 with rfl | rfl
              all_goals
                go_wp2_with fail
                refine (c_l00Put HO1.out (by omega) hy2).mono ?_
                rintro e w2 ⟨a2, p2, rfl, hs2, hb2⟩
                have HO2 := hid (hs2.lower HBE.out.size)
                have HB2 := hid (bel_next HBE.out HBE.out.size hb2)
                have HX2 := hid (HX1.out.below (Nat.le_refl _) hb2)
                have s0 := cell_below hb2 z1 t0
                have s1 := cell_below hb2 z1 t1
                have z2 := Nat.lt_of_lt_of_le z1 hb2.size
                have hpl := putL_len (l := out) (n := y)
                clear hb2 hs2 t0 t1
                go_wp2
                go_roundw
                case rel => exact ⟨k + 1, a2, p2, _, by omega, by go_num, rfl, HN2, HO2, HX2, HB2.out⟩
                case measure => simp [intOf]; omega
          · by_cases hk1 : (k : Int) + 1 < xs.length
            · skip
              have HN2 : Hid (LeadAt xs (k + 1) (putL out ((k : Int) + 1))) := by unfold Hid; have h9 := HN.out; simpa [putIf, hj, hy, hk1] using h9
              clear hj
              rcases hx5 with rfl | rfl
              all_goals
                go_wp2_with fail
                refine (c_l00Put HO1.out (by omega) ⟨by omega, by omega⟩).mono ?_
                rintro e w3 ⟨a3, p3, rfl, hs3, hb3⟩
                have HO3 := hid (hs3.lower HBE.out.size)
                have HB3 := hid (bel_next HBE.out HBE.out.size hb3)
                have HX3 := hid (HX1.out.below (Nat.le_refl _) hb3)
                clear hb3 hs3
                go_wp2
                go_roundw
                case rel => exact ⟨k + 1, a3, p3, _, by omega, by go_num, rfl, HN2, HO3, HX3, HB3.out⟩
                case measure => simp [intOf]; omega
            · skip
              have HN2 : Hid (LeadAt xs (k + 1) out) := by unfold Hid; have h9 := HN.out; simpa [putIf, hj, hy, hk1] using h9
              clear hj
              rcases hx5 with rfl | rfl
              all_goals
                go_wp2
                go_roundw
                case rel => exact ⟨k + 1, _, _, _, by omega, by go_num, rfl, HN2, HO1, HX1, HBE.out⟩
                case measure => simp [intOf]; omega
        · have hj' : jumpB x = false := by simpa using hj
          have e5 : (x == 5) = false := by have h9 := hj'; simp [jumpB] at h9; simp; exact h9.1
          have e6 : (x == 6) = false := by have h9 := hj'; simp [jumpB] at h9; simp; exact h9.2
          clear hja
          by_cases hx11 : x = 11
          · subst hx11
            by_cases hk1 : (k : Int) + 1 < xs.length
            · skip
              have HN2 : Hid (LeadAt xs (k + 1) (putL out ((k : Int) + 1))) := by unfold Hid; have h9 := HN.out; simpa [putIf, hj, hk1] using h9
              clear hj hj'
              go_wp2_with fail
              refine (c_l00Put HO1.out (by omega) ⟨by omega, by omega⟩).mono ?_
              rintro e w3 ⟨a3, p3, rfl, hs3, hb3⟩
              have HO3 := hid (hs3.lower HBE.out.size)
              have HB3 := hid (bel_next HBE.out HBE.out.size hb3)
              have HX3 := hid (HX1.out.below (Nat.le_refl _) hb3)
              clear hb3 hs3
              go_wp2
              go_roundw
              case rel => exact ⟨k + 1, a3, p3, _, by omega, by go_num, rfl, HN2, HO3, HX3, HB3.out⟩
              case measure => simp [intOf]; omega
            · skip
              have HN2 : Hid (LeadAt xs (k + 1) out) := by unfold Hid; have h9 := HN.out; simpa [putIf, hj, hk1] using h9
              clear hj hj'
              go_wp2
              go_roundw
              case rel => exact ⟨k + 1, _, _, _, by omega, by go_num, rfl, HN2, HO1, HX1, HBE.out⟩
              case measure => simp [intOf]; omega
          · have e11 : (x == 11) = false := by simp [hx11]
            have HN2 : Hid (LeadAt xs (k + 1) out) := by unfold Hid; have h9 := HN.out; simpa [putIf, hj', hx11] using h9
            clear hj hj' hx11
            go_wp2
            go_roundw
            case rel => exact ⟨k + 1, _, _, _, by omega, by go_num, rfl, HN2, HO1, HX1, HBE.out⟩
            case measure => simp [intOf]; omega
      · have hke : k = xs.length := by omega
        have HE := hid (leadAt_end HI.out hke)
        go_wp2
        go_ret2
        rw [HF.out, ← HE.out]
        exact ⟨av, pv, rfl, HO.out, hbe⟩
set_option maxRecDepth 100000 in
set_option maxHeartbeats 1000000 in
theorem c_LeadersOf {S : Nat → Prop} {a : Option Addr} {p : Nat} {xs : List Instr} {w : World} (h : SlRd cInstr S w a p xs) :
    Calls Try.prog 52 #[.slice a xs.length p] w (RetSlB cInt (leadF xs).1 (leadF xs).2 w) := by
  obtain ⟨r, hr⟩ : ∃ r, validCode xs = r := ⟨_, rfl⟩
  have HR := hid hr
  have h := h.keep (S' := fun b => S b ∧ b < w.heap.size) (w' := w) (fun b hb hl => ⟨⟨hb, hl⟩, rfl⟩)
  have H := hid h
  clear h
  cases r
  · have HF : Hid (leadF xs = ([], false)) := by unfold Hid leadF; rw [hr]; rfl
    clear hr
    go_enter Try.func52, Try.ntmps52
    go_wp2_with (go_at_call 93; refine (c_ValidCode _ _ _ _ H.out).mono ?_; rintro e w1 ⟨rfl, hb1⟩; rw [HR.out])
    go_ret2
    rw [HF.out]
    exact ⟨none, 0, rfl, nil_rd _ _ _, hb1⟩
  · have HF : Hid (leadF xs = (leadL xs, true)) := by unfold Hid leadF; rw [hr]; rfl
    obtain ⟨hx1, hx80, hvx⟩ := validCode_iff hr
    have HV := hid hvx
    clear hr hvx
    go_enter Try.func52, Try.ntmps52
    go_wp2_with fail
    refine (c_ValidCode _ _ _ _ H.out).mono ?_
    rintro e w1 ⟨rfl, hb1⟩
    rw [HR.out]
    have HB1 := hid hb1
    have H1 := hid (H.out.below (Nat.le_refl _) hb1)
    clear hb1
    obtain ⟨N, hN⟩ : ∃ N, N = xs.length + 81 := ⟨_, rfl⟩
    have hN1 : ((xs.length : Int) + 80 + 1) = (N : Int) := by omega
    have hN2 : xs.length + 81 ≤ N := by omega
    have hN3 : N ≤ 161 := by omega
    have HN1 := hid hN1
    clear hN hN1
    go_wp2_with (at_make; go_loud (refine wpList_mk rfl (.tmp 13) (.tmp 13) _ rfl (congrArg (Value.int .i64) HN1.out) (congrArg (Value.int .i64) HN1.out) (own_mk slBool (C := cBool) (base := w.heap.size) (fun _ => False) N (by omega) HB1.out.size false (fun _ _ => rfl) _ _) ?_); rintro w2 ⟨hown, hg⟩; obtain ⟨_, _, hc0, hf0, hl0, _⟩ := own_at_bool hown (by simp) 0 (by omega); have hset := own_set_bool hown (by simp) 0 (by omega) true; have HO2 := hid hset.1; have HB2 := hid ((HB1.out.grown hg HB1.out.size (by simp)).setCell (p := ⟨w1.heap.size, 0, none⟩) HB1.out.size (.bool true)); have HX2 := hid ((H1.out.grown hg (by simp)).set_ne (p := ⟨w1.heap.size, 0, none⟩) (fun b hb => by have h9 := hb.2; have h8 := HB1.out.size; show b ≠ w1.heap.size; omega) (.bool true)); clear hown hg hset)
    have gb : w.heap.size ≤ w1.heap.size := HB1.out.size
    go_loopw [19] (fun i wr => ∃ k : Nat, k ≤ xs.length ∧ i = .int .i64 k ∧ Hid (OwnSl cBool (fun _ => False) wr w.heap.size 4 (.slice (some ⟨w1.heap.size, 0, none⟩) N N) (leadT xs k N)) ∧ Hid (SlRd cInstr (fun b => S b ∧ b < w.heap.size) wr a p xs) ∧ Below w.heap.size w wr) (fun i _ => xs.length - (intOf i).toNat)
    case atStart => exact ⟨0, Nat.zero_le _, rfl, by have h9 := HO2.out; rw [leadT_start (by omega)] at h9; exact h9, HX2, HB2.out⟩
    case round =>
      obtain ⟨k, hk, rfl, HO, HX, hbe⟩ := hrel
      have hsz := hbe.size
      by_cases hlt : k < xs.length
      · obtain ⟨b, off, rfl⟩ := HX.out.some_of hlt
        obtain ⟨x, y, hz, hx2, hy2, hc, hc', hb⟩ := HX.out.instr_at k hlt
        have hja := jump_arg (HV.out _ (List.mem_of_getElem? hz))
        simp only at hja
        have HZ := hid hz
        obtain ⟨_, _, hck, hfk, hgl, _⟩ := own_at_bool HO.out (leadT_len _ _ _) (k + 1) (by omega)
        have HO1 := hid (own_alloc HO.out (.cells #[.int .i64 x, .int .i64 y] 118))
        have HBE := hid (hbe.alloc hsz (.cells #[.int .i64 x, .int .i64 y] 118))
        have HX1 := hid (HX.out.alloc (.cells #[.int .i64 x, .int .i64 y] 118))
        have t0 : (wr.alloc (.cells #[.int .i64 x, .int .i64 y] 118)).cell? ⟨wr.heap.size, 0, none⟩ = some (.int .i64 x) := by simp [go_sem]
        have t1 : (wr.alloc (.cells #[.int .i64 x, .int .i64 y] 118)).cell? ⟨wr.heap.size, 1, none⟩ = some (.int .i64 y) := by simp [go_sem]
        have z1 : wr.heap.size < (wr.alloc (.cells #[.int .i64 x, .int .i64 y] 118)).heap.size := by simp
        have gz1 : w1.heap.size < (wr.alloc (.cells #[.int .i64 x, .int .i64 y] 118)).heap.size := by simp; omega
        have hne : wr.heap.size ≠ w1.heap.size := by omega
        have hw1 : IntKind.i64.wrap ((k : Int) + 1) = (k : Int) + 1 := wrap_in _ (by omega) (by omega)
        have hw2 : ((k : Int) + 1).toNat = k + 1 := by omega
        have HW := hid (And.intro hw1 hw2)
        clear hz hck hfk hw1 hw2
        obtain ⟨j, hj⟩ : ∃ j, jumpB x = j := ⟨_, rfl⟩
        have HJ := hid hj
        cases j
        · by_cases hx11 : x = 11
          · subst hx11
            have HT : Hid ((leadT xs k N).set (k + 1) true = leadT xs (k + 1) N) := leadT_set HZ.out (by rw [List.length_set, leadT_len]) fun q hq => by
              rw [List.getElem?_set, leadT_len, leadT_at hq]
              unfold leadI; simp only; rw [hj]
              by_cases h9 : k + 1 = q
              · subst h9; simp; omega
              · rw [if_neg h9]; simp [h9]
            clear hj hja
            go_wp2_with fail
            refine (c_isJump _ _ _).mono ?_
            rintro e w2 ⟨rfl, hb2⟩
            rw [HJ.out]
            have HO2 := hid (own_below HO1.out (Nat.le_refl _) hb2)
            have HB2 := hid (bel_next HBE.out HBE.out.size hb2)
            have HX2 := hid (HX1.out.below (Nat.le_refl _) hb2)
            have s0 := cell_below hb2 z1 t0
            have s1 := cell_below hb2 z1 t1
            have z2 := Nat.lt_of_lt_of_le z1 hb2.size
            have gz2 := Nat.lt_of_lt_of_le gz1 hb2.size
            clear hb2 t0 t1
            have HO3 := HO2
            have HB3 := HB2
            have HX3 := HX2
            have u0 := s0
            have u1 := s1
            have z3 := z2
            clear s0 s1
            go_wp2_with fail
            refine (c_isJump _ _ _).mono ?_
            rintro e w4 ⟨rfl, hb4⟩
            rw [HJ.out]
            have HO4 := hid (own_below HO3.out (Nat.le_refl _) hb4)
            have HB4 := hid (bel_next HB3.out HB3.out.size hb4)
            have HX4 := hid (HX3.out.below (Nat.le_refl _) hb4)
            have r0 := cell_below hb4 z3 u0
            have r1 := cell_below hb4 z3 u1
            clear hb4 u0 u1
            obtain ⟨_, _, hck, hfk, _, _⟩ := own_at_bool HO4.out (leadT_len _ _ _) (k + 1) (by omega)
            have HO5 : Hid (OwnSl cBool (fun _ => False) (w4.setCell ⟨w1.heap.size, k + 1, none⟩ (.bool true)) w.heap.size 4 (.slice (some ⟨w1.heap.size, 0, none⟩) N N) (leadT xs (k + 1) N)) := by rw [← HT.out]; exact (own_set_bool HO4.out (leadT_len _ _ _) (k + 1) (by omega) true).1
            have HB5 := hid (HB4.out.setCell (p := ⟨w1.heap.size, k + 1, none⟩) gb (.bool true))
            have HX5 := hid (HX4.out.set_ne (p := ⟨w1.heap.size, k + 1, none⟩) (fun b hb => by have h9 := hb.2; show b ≠ w1.heap.size; omega) (.bool true))
            obtain ⟨hw1, hw2⟩ := HW.out
            go_wp2
            go_roundw
            case rel => exact ⟨k + 1, by omega, by go_num, HO5, HX5, HB5.out⟩
            case measure => simp [intOf]; omega
          · have e11 : (x == 11) = false := by simp [hx11]
            have HT : Hid (leadT xs k N = leadT xs (k + 1) N) := leadT_set HZ.out (leadT_len _ _ _) fun q hq => by
              rw [leadT_at hq]
              unfold leadI; simp only; rw [hj, e11]; simp
            clear hj hja hx11
            go_wp2_with fail
            refine (c_isJump _ _ _).mono ?_
            rintro e w2 ⟨rfl, hb2⟩
            rw [HJ.out]
            have HO2 := hid (own_below HO1.out (Nat.le_refl _) hb2)
            have HB2 := hid (bel_next HBE.out HBE.out.size hb2)
            have HX2 := hid (HX1.out.below (Nat.le_refl _) hb2)
            have s0 := cell_below hb2 z1 t0
            have s1 := cell_below hb2 z1 t1
            have z2 := Nat.lt_of_lt_of_le z1 hb2.size
            have gz2 := Nat.lt_of_lt_of_le gz1 hb2.size
            clear hb2 t0 t1
            have HO3 := HO2
            have HB3 := HB2
            have HX3 := HX2
            have u0 := s0
            have u1 := s1
            have z3 := z2
            clear s0 s1
            go_wp2_with fail
            refine (c_isJump _ _ _).mono ?_
            rintro e w4 ⟨rfl, hb4⟩
            rw [HJ.out]
            have HO4 := hid (own_below HO3.out (Nat.le_refl _) hb4)
            have HB4 := hid (bel_next HB3.out HB3.out.size hb4)
            have HX4 := hid (HX3.out.below (Nat.le_refl _) hb4)
            have r0 := cell_below hb4 z3 u0
            have r1 := cell_below hb4 z3 u1
            clear hb4 u0 u1
            have HO5 : Hid (OwnSl cBool (fun _ => False) w4 w.heap.size 4 (.slice (some ⟨w1.heap.size, 0, none⟩) N N) (leadT xs (k + 1) N)) := by rw [← HT.out]; exact HO4.out
            have HB5 := HB4
            have HX5 := HX4
            go_wp2
            go_roundw
            case rel => exact ⟨k + 1, by omega, by go_num, HO5, HX5, HB5.out⟩
            case measure => simp [intOf]; omega
        · obtain ⟨ja0, ja1⟩ := hja hj
          obtain ⟨Y, rfl⟩ := Int.eq_ofNat_of_zero_le ja0
          have HT : Hid (((leadT xs k N).set Y true).set (k + 1) true = leadT xs (k + 1) N) := leadT_set HZ.out (by rw [List.length_set, List.length_set, leadT_len]) fun q hq => by
            rw [List.getElem?_set, List.length_set, List.getElem?_set, leadT_len, leadT_at hq]
            unfold leadI; simp only; rw [hj]
            by_cases h9 : k + 1 = q
            · subst h9; simp; omega
            · rw [if_neg h9]
              by_cases h8 : Y = q
              · subst h8; simp; omega
              · have h7 : ¬ (Y : Int) = (q : Int) := by omega
                rw [if_neg h8]; simp [h9, h7]
          clear hj hja
          go_wp2_with fail
          refine (c_isJump _ _ _).mono ?_
          rintro e w2 ⟨rfl, hb2⟩
          rw [HJ.out]
          have HO2 := hid (own_below HO1.out (Nat.le_refl _) hb2)
          have HB2 := hid (bel_next HBE.out HBE.out.size hb2)
          have HX2 := hid (HX1.out.below (Nat.le_refl _) hb2)
          have s0 := cell_below hb2 z1 t0
          have s1 := cell_below hb2 z1 t1
          have z2 := Nat.lt_of_lt_of_le z1 hb2.size
          have gz2 := Nat.lt_of_lt_of_le gz1 hb2.size
          clear hb2 t0 t1
          obtain ⟨_, _, hcy, hfy, _, _⟩ := own_at_bool HO2.out (leadT_len _ _ _) Y (by omega)
          have HO3 := hid (own_set_bool HO2.out (leadT_len _ _ _) Y (by omega) true).1
          have HB3 := hid (HB2.out.setCell (p := ⟨w1.heap.size, Y, none⟩) gb (.bool true))
          have HX3 := hid (HX2.out.set_ne (p := ⟨w1.heap.size, Y, none⟩) (fun b hb => by have h9 := hb.2; show b ≠ w1.heap.size; omega) (.bool true))
          have u0 := cell_set_ne (p := ⟨w1.heap.size, Y, none⟩) (u := .bool true) hne s0
          have u1 := cell_set_ne (p := ⟨w1.heap.size, Y, none⟩) (u := .bool true) hne s1
          have z3 : wr.heap.size < (w2.setCell ⟨w1.heap.size, Y, none⟩ (.bool true)).heap.size := by rw [size_set]; exact z2
          go_wp2_with fail
          clear hcy hfy
          generalize w2.setCell ⟨w1.heap.size, Y, none⟩ (.bool true) = w3 at *
          clear s0 s1
          refine (c_isJump _ _ _).mono ?_
          rintro e w4 ⟨rfl, hb4⟩
          rw [HJ.out]
          have HO4 := hid (own_below HO3.out (Nat.le_refl _) hb4)
          have HB4 := hid (bel_next HB3.out HB3.out.size hb4)
          have HX4 := hid (HX3.out.below (Nat.le_refl _) hb4)
          have r0 := cell_below hb4 z3 u0
          have r1 := cell_below hb4 z3 u1
          clear hb4 u0 u1
          obtain ⟨_, _, hck, hfk, _, _⟩ := own_at_bool HO4.out (by rw [List.length_set, leadT_len]) (k + 1) (by omega)
          have HO5 : Hid (OwnSl cBool (fun _ => False) (w4.setCell ⟨w1.heap.size, k + 1, none⟩ (.bool true)) w.heap.size 4 (.slice (some ⟨w1.heap.size, 0, none⟩) N N) (leadT xs (k + 1) N)) := by rw [← HT.out]; exact (own_set_bool HO4.out (by rw [List.length_set, leadT_len]) (k + 1) (by omega) true).1
          have HB5 := hid (HB4.out.setCell (p := ⟨w1.heap.size, k + 1, none⟩) gb (.bool true))
          have HX5 := hid (HX4.out.set_ne (p := ⟨w1.heap.size, k + 1, none⟩) (fun b hb => by have h9 := hb.2; show b ≠ w1.heap.size; omega) (.bool true))
          obtain ⟨hw1, hw2⟩ := HW.out
          go_wp2
          go_roundw
          case rel => exact ⟨k + 1, by omega, by go_num, HO5, HX5, HB5.out⟩
          case measure => simp [intOf]; omega
      · have hke : k = xs.length := by omega
        subst hke
        obtain ⟨a2, p2, he, hs⟩ := own_rd (own_keep (S' := Fresh w.heap.size wr) HO.out (fun _ h => h.elim) fun _ _ _ => rfl) (Nat.le_refl _)
        rw [leadT_len] at he
        cases he
        have HI := hid (hs.take xs.length)
        have hll : ((leadT xs xs.length N).take xs.length).length = xs.length := by rw [List.length_take, leadT_len]; omega
        have HE := hid (leadT_idx xs (n := N) (by omega))
        have HLL := hid hll
        have HC : Hid (Calls Try.prog 99 #[.slice (some ⟨w1.heap.size, 0, none⟩) xs.length N] wr (RetSl cInt (leadL xs) wr)) := by
          have h9 := c_indices (w := wr) HI.out (by rw [hll]; omega)
          rw [hll, HE.out] at h9; exact h9
        clear hs hll
        go_wp2_with (go_at_call 99; refine HC.out.mono ?_; rintro e w3 ⟨a3, p3, rfl, hs3, hb3⟩; have HS3 := hid hs3; clear hs3)
        go_ret2
        rw [HF.out]
        exact ⟨a3, p3, rfl, HS3.out.lower hsz, bel_next hbe hsz hb3⟩
end Go.Proofs.Ytmpanchappoejaa
