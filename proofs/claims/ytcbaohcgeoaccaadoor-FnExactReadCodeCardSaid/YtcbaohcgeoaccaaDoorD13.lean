/- Contracts: an instruction read from its text, the reference's side. -/
import Derived.Test.YtcbaohcgeoaccaaDoorD12
namespace Go.Proofs.YtcbaohcgeoaccaaDoor
open Go.RowKit

set_option maxHeartbeats 1000000 in
set_option maxRecDepth 100000 in
theorem c_l07Read (s : ByteArray) (w : World) (hs : s.size ≤ 1099511627775) :
    Calls Tryd.prog 98 #[.string s] w fun e w' => e = .returned (.tuple #[.agg #[.int .i64 (readIS s.data.toList).1.1, .int .i64 (readIS s.data.toList).1.2], .bool (readIS s.data.toList).2]) ∧ Below w.heap.size w w' := by
  obtain ⟨R, hR⟩ : ∃ R, w.heap.size = R := ⟨_, rfl⟩
  have HB0 : Hid (Below R w (w.alloc (.cells #[.int .i64 0, .int .i64 0] 35))) := by rw [← hR]; exact (Below.refl _ _).alloc (Nat.le_refl _) _
  have HR0 : Hid (InsIn (w.alloc (.cells #[.int .i64 0, .int .i64 0] 35)) R 0 0) := by rw [← hR]; exact heap_new w _
  have hRw : R ≤ w.heap.size := Nat.le_of_eq hR.symm
  have hsz : s.data.toList.length = s.size := by simp
  have HPL := hid (cutL_piece 32 s.data.toList)
  obtain ⟨P, hP⟩ : ∃ P, cutL 32 s.data.toList = P := ⟨_, rfl⟩
  have hPn : 0 < P.length := by rw [← hP]; exact List.length_pos_iff.2 (cutL_ne _ _)
  have hPs : P.length ≤ s.size + 1 := by rw [← hP, cutL_len]; have := List.count_le_length (a := (32 : UInt8)) (l := s.data.toList); omega
  have HFR : Hid (readIS s.data.toList = if P.length = 2 then if (readF (P[1]?.getD [])).2 then fin s.data.toList (opK (P[0]?.getD []) 12, (readF (P[1]?.getD [])).1) else ((0, 0), false) else fin s.data.toList (opK (P[0]?.getD []) 12, 0)) := by unfold Hid readIS; rw [hP]
  rw [hP] at HPL
  have HP := hid hP
  have HSZ := hid hsz
  clear hP hsz
  go_enter Tryd.func98, Tryd.ntmps98
  go_wp2_with fail
  have HRR := hid hR
  clear hR
  generalize w.alloc (.cells #[.int .i64 0, .int .i64 0] 35) = w0 at *
  refine (c_l01Cut s 32 w0 hs).mono ?_
  rw [HP.out]
  rintro e w1 ⟨a1, p1, rfl, hs1, hb1⟩
  have HS1 := hid hs1
  have HB1 := hid (bel_nx HB0.out hRw hb1)
  have HR1 := hid (HR0.out.below hb1)
  obtain ⟨b, off, rfl⟩ := hs1.some_of hPn
  obtain ⟨X, hX⟩ : ∃ X, w1.heap.size = X := ⟨_, rfl⟩
  have HXR : R < X := by rw [← hX]; exact HR1.out.lt
  have hby : Below w1.heap.size w1 (w1.alloc (.cells #[.int .i64 (-1), .int .i64 0] 35)) := (Below.refl _ _).alloc (Nat.le_refl _) _
  have HX2 : Hid (InsIn (w1.alloc (.cells #[.int .i64 (-1), .int .i64 0] 35)) X (-1) 0) := by rw [← hX]; exact heap_new w1 _
  have HB2 := hid (bel_nx HB1.out hRw hby)
  have HR2 := hid (HR1.out.below hby)
  have HS2 := hid ((HS1.out.keep (S' := fun b => b < X) (w' := w1) fun b _ hl => ⟨by rw [← hX]; exact hl, rfl⟩).below (Nat.le_refl _) hby)
  clear hby HB0 HR0 HB1 HR1 HS1 hs1 hb1
  obtain ⟨wd, hwd⟩ : ∃ wd, P[0]? = some wd := ⟨P[0], by rw [List.getElem?_eq_getElem hPn]⟩
  rw [hwd] at HFR
  simp only [Option.getD_some] at HFR
  have HWD := hid hwd
  clear hwd
  go_wp2
  clear hX
  generalize w1.alloc (.cells #[.int .i64 (-1), .int .i64 0] 35) = w2 at *
  go_loopw [6] (fun i wr => ∃ k : Nat, k ≤ 12 ∧ i = .int .i64 k ∧ Hid (InsIn wr X (opK wd k) 0) ∧ Hid (InsIn wr R 0 0) ∧ Hid (SlRd cStr (fun b => b < X) wr (some ⟨b, off, none⟩) p1 P) ∧ Hid (Below R w wr)) (fun i _ => 12 - (intOf i).toNat)
  case atStart => exact ⟨0, Nat.zero_le _, rfl, HX2, HR2, HS2, HB2⟩
  case round =>
    obtain ⟨k, hk, rfl, HX, HR, HS, HB⟩ := hrel
    by_cases hlt : k < 12
    · obtain ⟨z, hz, hz2, hc, hb, _⟩ := HS.out.str_at 0 hPn
      have h9 := HWD.out
      rw [h9] at hz
      cases hz
      have i0 : (0 : Int) ≤ (k : Int) := by omega
      have i11 : (k : Int) ≤ 11 := by omega
      have j1 : (0 : Int) < (P.length : Int) := by omega
      have hcd : wr.drew.cell? ⟨b, off + 0, none⟩ = some (.string ⟨wd.toArray⟩) := hc
      have HXd : Hid (InsIn wr.drew X (opK wd k) 0) := HX
      have HRd : Hid (InsIn wr.drew R 0 0) := HR
      have HSd := hid HS.out.drew
      have HBd : Hid (Below R w wr.drew) := hid (HB.out.trans ⟨rfl, rfl, rfl, Nat.le_refl _, fun _ _ => rfl⟩)
      obtain ⟨M, hM⟩ : ∃ M, (wordF k == wd) = M := ⟨_, rfl⟩
      have HK : Hid (opK wd (k + 1) = if M then (k : Int) else opK wd k) := by unfold Hid; rw [← hM]; rfl
      clear hc h9
      cases M
      all_goals
        go_wp2
        go_region_held3 (fun w' => w'.cell? ⟨b, off, none⟩ = some (.string ⟨wd.toArray⟩)) (first | exact hcd | exact kk1) (((go_at_call 112; refine (c_l07Word _ _ i0 i11).mono ?_; rintro e w3 ⟨rfl, hb3⟩; unfold strOf; have kk1 := cell_below hb3 hb hcd; have HX3 := hid (HXd.out.below hb3); have HR3 := hid (HRd.out.below hb3); have HS3 := hid (HSd.out.below (Nat.le_refl _) hb3); have HB3 := hid (bel_nx HBd.out hRw hb3); clear hb3)))
        clear kk1 hcd HXd HRd HSd HBd
        have x0 := HX3.out.c0
        have g0 := HX3.out.f 0
        go_wp2
        go_roundw
        case measure => simp [intOf]; omega
      · case rel => exact ⟨k + 1, by omega, by go_num, by rw [HK.out]; exact HX3, HR3, HS3, HB3⟩
      · case rel => exact ⟨k + 1, by omega, by go_num, by rw [HK.out]; exact HX3.out.set0 _, HR3.out.set_ne (by show R ≠ X; omega) _, HS3.out.set_ne (p := ⟨X, 0, none⟩) (fun b hb => by show b ≠ X; omega) _, HB3.out.setCell (by show R ≤ X; omega) _⟩
    · obtain rfl : k = 12 := by omega
      obtain ⟨op, hop⟩ : ∃ op, opK wd 12 = op := ⟨_, rfl⟩
      rw [hop] at HFR HX
      clear hop HX2 HR2 HS2 HB2
      by_cases h2 : P.length = 2
      · obtain ⟨z, hz, hz2, hc, hb, _⟩ := HS.out.str_at 1 (by omega)
        have hzl : z.length ≤ s.size := by have := HPL.out z (List.mem_of_getElem? hz); rw [HSZ.out] at this; exact this
        obtain ⟨⟨arg, okr⟩, hra⟩ : ∃ q, readF z = q := ⟨_, rfl⟩
        have HFR3 : Hid (readIS s.data.toList = if okr then fin s.data.toList (op, arg) else ((0, 0), false)) := by
          unfold Hid; rw [HFR.out, if_pos h2, hz]; simp only [Option.getD_some]; rw [hra]
        have HRD := hid (c_l01Value ⟨z.toArray⟩ wr (by simp [ByteArray.size]; omega))
        have e2 : readF (⟨z.toArray⟩ : ByteArray).data.toList = (arg, okr) := by simpa using hra
        rw [e2] at HRD
        have l2 : (P.length : Int) = 2 := by omega
        have HP2 := hid h2
        have rl4 := HR.out.lt
        have q0 := HR.out.c0
        have q1 := HR.out.c1
        have qf0 := HR.out.f 0
        have qf1 := HR.out.f 1
        clear hz hra e2 h2
        cases okr
        · have HF : Hid (readIS s.data.toList = ((0, 0), false)) := HFR3
          go_wp2_with (go_at_call 88; refine HRD.out.mono ?_; rintro e w5 ⟨rfl, hb5⟩; have pb0 := cell_below hb5 rl4 q0; have pb1 := cell_below hb5 rl4 q1; have fb0 := frz_below hb5 rl4 qf0; have fb1 := frz_below hb5 rl4 qf1; have HB5 := hid (bel_nx HB.out hRw hb5); clear hb5)
          refine bodyPost_ret (v := .tuple #[.agg #[.int .i64 0, .int .i64 0], .bool false]) (by simp [results, Tryd.results98, go_sem, pb0, pb1]) rfl ?_
          rw [HF.out, HRR.out]
          exact ⟨rfl, (HB5.out.setCell (Nat.le_refl _) _).setCell (Nat.le_refl _) _⟩
        · have HFR2 : Hid (readIS s.data.toList = fin s.data.toList (op, arg)) := HFR3
          clear q0 q1 qf0 qf1
          go_wp2_with fail
          refine HRD.out.mono ?_
          rintro e w5 ⟨rfl, hb5⟩
          have HX5 := hid (HX.out.below hb5)
          have HB5 := hid (bel_nx HB.out hRw hb5)
          have HR5 := hid (HR.out.below hb5)
          clear hb5 HX HB HR HS hc hb
          have x5 := HX5.out.c0
          have y5 := HX5.out.c1
          have g5 := HX5.out.f 1
          have HX6 := hid (HX5.out.set1 arg)
          have HR6 := hid (HR5.out.set_ne (p := ⟨X, 1, none⟩) (by show R ≠ X; omega) (.int .i64 arg))
          have HB6 := hid (HB5.out.setCell (p := ⟨X, 1, none⟩) (by show R ≤ X; omega) (.int .i64 arg))
          go_wp2_with fail
          clear HX5 HB5 HR5 x5 y5 g5
          generalize w5.setCell ⟨X, 1, none⟩ (.int .i64 arg) = w6 at *
          have x6 := HX6.out.c0
          have y6 := HX6.out.c1
          obtain ⟨V, hV⟩ : ∃ V, validI (op, arg) = V := ⟨_, rfl⟩
          have HV := hid hV
          have p0 := HR6.out.c0
          have p1 := HR6.out.c1
          have f0 := HR6.out.f 0
          have f1 := HR6.out.f 1
          have rlt := HR6.out.lt
          have xlt := HX6.out.lt
          cases V
          · have HF : Hid (readIS s.data.toList = ((0, 0), false)) := by
              unfold Hid; rw [HFR2.out]; unfold fin; simp [hV]
            clear hV
            go_wp2_with (go_at_call 67; refine (c_l07Instr op arg w6).mono ?_; rintro e wa ⟨rfl, hba⟩; rw [HV.out]; have pa0 := cell_below hba rlt p0; have pa1 := cell_below hba rlt p1; have fa0 := frz_below hba rlt f0; have fa1 := frz_below hba rlt f1; have HBA := hid (bel_nx HB6.out hRw hba); clear hba)
            refine bodyPost_ret (v := .tuple #[.agg #[.int .i64 0, .int .i64 0], .bool false]) (by simp [results, Tryd.results98, go_sem, pa0, pa1]) rfl ?_
            rw [HF.out, HRR.out]
            exact ⟨rfl, (HBA.out.setCell (Nat.le_refl _) _).setCell (Nat.le_refl _) _⟩
          · obtain ⟨o0, o1⟩ := validI_op hV
            simp only at o0 o1
            obtain ⟨L, hL⟩ : ∃ L, lineF (op, arg) = L := ⟨_, rfl⟩
            have ha64 : I64 arg := (validI_i64 hV).2
            have hLl := lineF_len (op, arg) ha64
            have HCI := hid fun w => c_l07Line op arg w o0 o1 ha64
            rw [hL] at hLl HCI
            obtain ⟨E, hE⟩ : ∃ E, (L == s.toList) = E := ⟨_, rfl⟩
            have HF : Hid (readIS s.data.toList = if E then ((op, arg), true) else ((0, 0), false)) := by
              unfold Hid; rw [HFR2.out]; unfold fin; rw [hL, ← hE, ByteArray.toList_eq]
              by_cases h2 : L = s.data.toList
              · rw [if_pos ⟨hV, h2⟩, if_pos (by rw [h2]; simp)]
              · rw [if_neg (fun h => h2 h.2), if_neg (by simpa using h2)]
            clear hV hL o0 o1
            cases E
            all_goals
              go_wp2_with (first | (go_at_call 67; refine (c_l07Instr op arg w6).mono ?_; rintro e wa ⟨rfl, hba⟩; rw [HV.out]; have pa0 := cell_below hba rlt p0; have pa1 := cell_below hba rlt p1; have fa0 := frz_below hba rlt f0; have fa1 := frz_below hba rlt f1; have xa0 := cell_below hba xlt x6; have xa1 := cell_below hba xlt y6; have xaf := Nat.lt_of_lt_of_le xlt hba.size; have ra := Nat.lt_of_lt_of_le rlt hba.size; have HBA := hid (bel_nx HB6.out hRw hba); clear hba) | (go_at_call 68; refine (HCI.out _).mono ?_; rintro e wb ⟨rfl, hbb⟩; have pb0 := cell_below hbb ra pa0; have pb1 := cell_below hbb ra pa1; have fb0 := frz_below hbb ra fa0; have fb1 := frz_below hbb ra fa1; have xb0 := cell_below hbb xaf xa0; have xb1 := cell_below hbb xaf xa1; have HBB := hid (bel_nx HBA.out hRw hbb); clear hbb; unfold strOf))
            · refine bodyPost_ret (v := .tuple #[.agg #[.int .i64 0, .int .i64 0], .bool false]) (by simp [results, Tryd.results98, go_sem, pb0, pb1]) rfl ?_
              rw [HF.out, HRR.out]
              exact ⟨rfl, (HBB.out.setCell (Nat.le_refl _) _).setCell (Nat.le_refl _) _⟩
            · refine bodyPost_ret (v := .tuple #[.agg #[.int .i64 op, .int .i64 arg], .bool true]) (by simp [results, Tryd.results98, go_sem, pb0, pb1]) rfl ?_
              rw [HF.out, HRR.out]
              exact ⟨rfl, (HBB.out.setCell (Nat.le_refl _) _).setCell (Nat.le_refl _) _⟩
      · have HFR2 : Hid (readIS s.data.toList = fin s.data.toList (op, 0)) := by unfold Hid; rw [HFR.out, if_neg h2]
        have l2 : ((P.length : Int) == 2) = false := beq_eq_false_iff_ne.2 (by omega)
        obtain ⟨w6, hw6⟩ : ∃ w6, w6 = wr := ⟨_, rfl⟩
        subst hw6
        have HX6 := HX
        have HR6 := HR
        have HB6 := HB
        clear HX HR HB h2 HS
        have x6 := HX6.out.c0
        have y6 := HX6.out.c1
        obtain ⟨V, hV⟩ : ∃ V, validI (op, 0) = V := ⟨_, rfl⟩
        have HV := hid hV
        have p0 := HR6.out.c0
        have p1 := HR6.out.c1
        have f0 := HR6.out.f 0
        have f1 := HR6.out.f 1
        have rlt := HR6.out.lt
        have xlt := HX6.out.lt
        cases V
        · have HF : Hid (readIS s.data.toList = ((0, 0), false)) := by
            unfold Hid; rw [HFR2.out]; unfold fin; simp [hV]
          clear hV
          go_wp2_with (go_at_call 67; refine (c_l07Instr op 0 w6).mono ?_; rintro e wa ⟨rfl, hba⟩; rw [HV.out]; have pa0 := cell_below hba rlt p0; have pa1 := cell_below hba rlt p1; have fa0 := frz_below hba rlt f0; have fa1 := frz_below hba rlt f1; have HBA := hid (bel_nx HB6.out hRw hba); clear hba)
          refine bodyPost_ret (v := .tuple #[.agg #[.int .i64 0, .int .i64 0], .bool false]) (by simp [results, Tryd.results98, go_sem, pa0, pa1]) rfl ?_
          rw [HF.out, HRR.out]
          exact ⟨rfl, (HBA.out.setCell (Nat.le_refl _) _).setCell (Nat.le_refl _) _⟩
        · obtain ⟨o0, o1⟩ := validI_op hV
          simp only at o0 o1
          obtain ⟨L, hL⟩ : ∃ L, lineF (op, 0) = L := ⟨_, rfl⟩
          have ha64 : I64 0 := (validI_i64 hV).2
          have hLl := lineF_len (op, 0) ha64
          have HCI := hid fun w => c_l07Line op 0 w o0 o1 ha64
          rw [hL] at hLl HCI
          obtain ⟨E, hE⟩ : ∃ E, (L == s.toList) = E := ⟨_, rfl⟩
          have HF : Hid (readIS s.data.toList = if E then ((op, 0), true) else ((0, 0), false)) := by
            unfold Hid; rw [HFR2.out]; unfold fin; rw [hL, ← hE, ByteArray.toList_eq]
            by_cases h2 : L = s.data.toList
            · rw [if_pos ⟨hV, h2⟩, if_pos (by rw [h2]; simp)]
            · rw [if_neg (fun h => h2 h.2), if_neg (by simpa using h2)]
          clear hV hL o0 o1
          cases E
          all_goals
            go_wp2_with (first | (go_at_call 67; refine (c_l07Instr op 0 w6).mono ?_; rintro e wa ⟨rfl, hba⟩; rw [HV.out]; have pa0 := cell_below hba rlt p0; have pa1 := cell_below hba rlt p1; have fa0 := frz_below hba rlt f0; have fa1 := frz_below hba rlt f1; have xa0 := cell_below hba xlt x6; have xa1 := cell_below hba xlt y6; have xaf := Nat.lt_of_lt_of_le xlt hba.size; have ra := Nat.lt_of_lt_of_le rlt hba.size; have HBA := hid (bel_nx HB6.out hRw hba); clear hba) | (go_at_call 68; refine (HCI.out _).mono ?_; rintro e wb ⟨rfl, hbb⟩; have pb0 := cell_below hbb ra pa0; have pb1 := cell_below hbb ra pa1; have fb0 := frz_below hbb ra fa0; have fb1 := frz_below hbb ra fa1; have xb0 := cell_below hbb xaf xa0; have xb1 := cell_below hbb xaf xa1; have HBB := hid (bel_nx HBA.out hRw hbb); clear hbb; unfold strOf))
          · refine bodyPost_ret (v := .tuple #[.agg #[.int .i64 0, .int .i64 0], .bool false]) (by simp [results, Tryd.results98, go_sem, pb0, pb1]) rfl ?_
            rw [HF.out, HRR.out]
            exact ⟨rfl, (HBB.out.setCell (Nat.le_refl _) _).setCell (Nat.le_refl _) _⟩
          · refine bodyPost_ret (v := .tuple #[.agg #[.int .i64 op, .int .i64 0], .bool true]) (by simp [results, Tryd.results98, go_sem, pb0, pb1]) rfl ?_
            rw [HF.out, HRR.out]
            exact ⟨rfl, (HBB.out.setCell (Nat.le_refl _) _).setCell (Nat.le_refl _) _⟩
theorem c_sReadInstr (s : ByteArray) (w : World) (hs : s.size ≤ 1099511627775) :
    Calls Tryd.prog 49 #[.string s] w fun e w' => e = .returned (.tuple #[.agg #[.int .i64 (readIF s.data.toList).1.1, .int .i64 (readIF s.data.toList).1.2], .bool (readIF s.data.toList).2]) ∧ Below w.heap.size w w' := by
  have HC : Hid (∀ w, Calls Tryd.prog 98 #[.string s] w fun e w' => e = .returned (.tuple #[.agg #[.int .i64 (readIF s.data.toList).1.1, .int .i64 (readIF s.data.toList).1.2], .bool (readIF s.data.toList).2]) ∧ Below w.heap.size w w') := fun w => by
    rw [← readIS_eq]; exact c_l07Read s w hs
  generalize readIF s.data.toList = q at *
  obtain ⟨⟨x, y⟩, ok⟩ := q
  have HB0 : Hid (Below w.heap.size w (w.alloc (.cells #[.int .i64 0, .int .i64 0] 35))) := (Below.refl _ _).alloc (Nat.le_refl _) _
  have HR0 : Hid (InsIn (w.alloc (.cells #[.int .i64 0, .int .i64 0] 35)) w.heap.size 0 0) := heap_new w _
  go_enter Tryd.func49, Tryd.ntmps49
  go_wp2_with fail
  generalize w.alloc (.cells #[.int .i64 0, .int .i64 0] 35) = w0 at *
  refine (HC.out w0).mono ?_
  rintro e w1 ⟨rfl, hb1⟩
  have HB1 := hid (bel_next HB0.out HB0.out.size hb1)
  have HR1 := hid (HR0.out.below hb1)
  have p0 := HR1.out.c0
  have p1 := HR1.out.c1
  have f0 := HR1.out.f 0
  have f1 := HR1.out.f 1
  clear hb1 HB0 HR0
  go_wp2
  refine bodyPost_ret (v := .tuple #[.agg #[.int .i64 x, .int .i64 y], .bool ok]) (by simp [results, Tryd.results49, go_sem, p0, p1]) rfl ?_
  exact ⟨rfl, (HB1.out.setCell (Nat.le_refl _) _).setCell (Nat.le_refl _) _⟩
end Go.Proofs.YtcbaohcgeoaccaaDoor
