/- Contracts: an instruction read from its text, the program's side. -/
import Derived.Test.YtcbaohcgeoaccaaDoorReadIT
import Derived.Test.YtcbaohcgeoaccaaDoorD11
import Derived.Test.YtcbaohcgeoaccaaDoorEnvM
namespace Go.Proofs.YtcbaohcgeoaccaaDoor
open Go.RowKit

theorem bel_nx {R : Nat} {w w1 w2 : World} (h : Below R w w1) (hR : R ≤ w.heap.size) (h1 : Below w1.heap.size w1 w2) : Below R w w2 := bel_next h (Nat.le_trans hR h.size) h1
/-- A block with one instruction. -/
def InsIn (w : World) (b : Nat) (x y : Int) : Prop := w.heap[b]? = some (.cells #[.int .i64 x, .int .i64 y] 35 (0, 0))
theorem InsIn.c0 {w : World} {b : Nat} {x y : Int} (h : InsIn w b x y) : w.cell? ⟨b, 0, none⟩ = some (.int .i64 x) := cell_of h rfl
theorem InsIn.c1 {w : World} {b : Nat} {x y : Int} (h : InsIn w b x y) : w.cell? ⟨b, 1, none⟩ = some (.int .i64 y) := cell_of h rfl
theorem InsIn.f {w : World} {b : Nat} {x y : Int} (h : InsIn w b x y) (j : Nat) : w.frozen? ⟨b, j, none⟩ = false := frz_of h j
theorem InsIn.lt {w : World} {b : Nat} {x y : Int} (h : InsIn w b x y) : b < w.heap.size := (Array.getElem?_eq_some_iff.1 h).1
theorem InsIn.below {w w' : World} {b : Nat} {x y : Int} (h : InsIn w b x y) (hb : Below w.heap.size w w') : InsIn w' b x y := by
  unfold InsIn; rw [hb.block b h.lt]; exact h
theorem InsIn.set_ne {w : World} {b : Nat} {x y : Int} (h : InsIn w b x y) {p : Addr} (hne : b ≠ p.block) (v : Value) : InsIn (w.setCell p v) b x y := by
  unfold InsIn; rw [heap_setCell_ne _ _ _ hne]; exact h
theorem InsIn.set1 {w : World} {b : Nat} {x y : Int} (h : InsIn w b x y) (z : Int) : InsIn (w.setCell ⟨b, 1, none⟩ (.int .i64 z)) b x z := blk_set h 1 _
theorem InsIn.set0 {w : World} {b : Nat} {x y : Int} (h : InsIn w b x y) (z : Int) : InsIn (w.setCell ⟨b, 0, none⟩ (.int .i64 z)) b z y := blk_set h 0 _
theorem opw_rd {S : Nat → Prop} {w : World} {b : Nat} {e : TypeId} (h : w.heap[b]? = some (.cells opCells e (0, 0))) (hS : S b) : SlRd cStr S w (some ⟨b, 0, none⟩) 12 opW := by
  refine ⟨by decide, by decide, by simp, ?_⟩
  rintro x ⟨⟩ i d hi
  have hlt : i < 12 := (List.getElem?_eq_some_iff.1 hi).1
  have hd : ∀ l ∈ opW, l.length ≤ 5 := by decide
  refine ⟨⟨rfl, hS, (Array.getElem?_eq_some_iff.1 h).1⟩, [strOf d], ⟨rfl, by have := hd d (List.mem_of_getElem? hi); omega⟩, fun j u hj => ?_⟩
  match j, hj with
  | 0, hj =>
    simp at hj; subst hj
    rw [cell_of_row w b _ opCells e (0, 0) h, ← Array.getElem?_toList, opCells_eq]
    simp [cStr, hi]
set_option maxHeartbeats 1000000 in
set_option maxRecDepth 100000 in
theorem c_ReadInstr {B : Nat} (s : ByteArray) (w : World) (hs : s.size ≤ 4294967280) (hT : TabE B w) (hE : ErrE B w) (hM : MaxE B w) :
    Calls Tryd.prog 50 #[.string s] w fun e w' => e = .returned (.tuple #[.agg #[.int .i64 (readIF s.data.toList).1.1, .int .i64 (readIF s.data.toList).1.2], .bool (readIF s.data.toList).2]) ∧ Below w.heap.size w w' := by
  obtain ⟨R, hR⟩ : ∃ R, w.heap.size = R := ⟨_, rfl⟩
  have HB0 : Hid (Below R w (w.alloc (.cells #[.int .i64 0, .int .i64 0] 35))) := by rw [← hR]; exact (Below.refl _ _).alloc (Nat.le_refl _) _
  have HR0 : Hid (InsIn (w.alloc (.cells #[.int .i64 0, .int .i64 0] 35)) R 0 0) := by rw [← hR]; exact heap_new w _
  have hBw : B ≤ R := by rw [← hR]; exact hT.2
  have HT := hid (hT.belows (HB0.out.mono hBw))
  have HE := hid (hE.belows (HB0.out.mono hBw))
  have HM := hid (hM.belows (HB0.out.mono hBw))
  have hRw : R ≤ w.heap.size := Nat.le_of_eq hR.symm
  clear hT hE hM
  go_enter Tryd.func50, Tryd.ntmps50
  go_wp2_with fail
  have HRR := hid hR
  clear hR
  generalize w.alloc (.cells #[.int .i64 0, .int .i64 0] 35) = w0 at *
  obtain ⟨⟨m, hm⟩, _, _⟩ := HM.out
  have HC := hid (Tryd.strings_Cut s ⟨#[32]⟩ m w0 (by omega) hm)
  clear hm
  obtain ⟨⟨wd, rest, ok⟩, hq⟩ : ∃ q, Lib.cut s.data.toList [32] = q := ⟨_, rfl⟩
  have e1 : (Lib.cut s.data.toList (⟨#[32]⟩ : ByteArray).data.toList) = (wd, rest, ok) := hq
  rw [e1] at HC
  have hrl : rest.length ≤ s.size := by
    have hsz : s.data.toList.length = s.size := by simp
    rcases cut_at 32 s.data.toList with ⟨_, hc, _⟩ | ⟨a, b, he, _, hc, _⟩
    · rw [hq] at hc; cases hc; simp
    · rw [hq] at hc; cases hc
      rw [he] at hsz; simp at hsz; omega
  have HFR : Hid (readIF s.data.toList = fin s.data.toList (idxF opW wd 0, if argB (idxF opW wd 0) then (readF rest).1 else 0)) := by
    unfold Hid readIF; rw [hq]
  clear hq e1
  refine HC.out.mono ?_
  rintro e w1 ⟨rfl, n, rfl⟩
  have HB1 := hid (bel_nx HB0.out hRw (below_drewN w0.heap.size w0 n))
  have HR1 : Hid (InsIn (w0.drewN n) R 0 0) := HR0.out
  have HT1 := hid (HT.out.on (below_drewN w0.heap.size w0 n))
  have HE1 := hid (HE.out.on (below_drewN w0.heap.size w0 n))
  generalize w0.drewN n = w1 at *
  clear HB0 HR0 HT HE HM HC
  have HCW := hid (c_opWords w1)
  have hbx : Below w1.heap.size w1 (w1.alloc (.cells opCells 9)) := (Below.refl _ _).alloc (Nat.le_refl _) _
  have HOP := hid (opw_rd (S := fun _ => True) (heap_new w1 (.cells opCells 9)) trivial)
  have HB2 := hid (bel_nx HB1.out hRw hbx)
  have HR2 := hid (HR1.out.below hbx)
  have HT2 := hid (HT1.out.on hbx)
  have HE2 := hid (HE1.out.on hbx)
  clear hbx HB1 HR1 HT1 HE1
  go_wp2_with fail
  refine HCW.out.mono ?_
  rintro e w2 ⟨rfl, rfl⟩
  clear HCW
  generalize w1.alloc (.cells opCells 9) = w2 at *
  obtain ⟨op, hop⟩ : ∃ op, idxF opW wd 0 = op := ⟨_, rfl⟩
  rw [hop] at HFR
  have HIX := hid (c_indexS (v := wd) HOP.out)
  rw [hop] at HIX
  clear hop
  obtain ⟨X, hX⟩ : ∃ X, w2.heap.size = X := ⟨_, rfl⟩
  have HXR : R < X := by rw [← hX]; exact HR2.out.lt
  have hby : Below w2.heap.size w2 (w2.alloc (.cells #[.int .i64 op, .int .i64 0] 35)) := (Below.refl _ _).alloc (Nat.le_refl _) _
  have HX3 : Hid (InsIn (w2.alloc (.cells #[.int .i64 op, .int .i64 0] 35)) X op 0) := by rw [← hX]; exact heap_new w2 _
  have HB3 := hid (bel_nx HB2.out hRw hby)
  have HR3 := hid (HR2.out.below hby)
  have HT3 := hid (HT2.out.on hby)
  have HE3 := hid (HE2.out.on hby)
  clear hby HB2 HR2 HT2 HE2
  obtain ⟨ab, hab⟩ : ∃ ab, argB op = ab := ⟨_, rfl⟩
  rw [hab] at HFR
  have HAB := hid hab
  clear hab
  go_wp2_with (go_at_call 100; refine HIX.out.mono ?_; rintro e w' ⟨rfl, rfl⟩)
  generalize w2.alloc (.cells #[.int .i64 op, .int .i64 0] 35) = w3 at *
  refine (c_hasArg op w3).mono ?_
  rintro e w4 ⟨rfl, hb4⟩
  rw [HAB.out]
  have HX4 := hid (HX3.out.below hb4)
  have HB4 := hid (bel_nx HB3.out hRw hb4)
  have HR4 := hid (HR3.out.below hb4)
  have HT4 := hid (HT3.out.on hb4)
  have HE4 := hid (HE3.out.on hb4)
  clear hb4 HX3 HB3 HR3 HT3 HE3 hX
  have x4 := HX4.out.c0
  have y4 := HX4.out.c1
  have g4 := HX4.out.f 1
  cases ab
  · have HFR2 : Hid (readIF s.data.toList = fin s.data.toList (op, 0)) := HFR
    have x4 := HX4.out.c0
    have y4 := HX4.out.c1
    obtain ⟨V, hV⟩ : ∃ V, validI (op, 0) = V := ⟨_, rfl⟩
    have HV := hid hV
    have p0 := HR4.out.c0
    have p1 := HR4.out.c1
    have f0 := HR4.out.f 0
    have f1 := HR4.out.f 1
    have rlt := HR4.out.lt
    have xlt := HX4.out.lt
    cases V
    · have HF : Hid (readIF s.data.toList = ((0, 0), false)) := by
        unfold Hid; rw [HFR2.out]; unfold fin; simp [hV]
      clear hV
      go_wp2_with (go_at_call 69; refine (c_ValidInstr op 0 w4).mono ?_; rintro e wa ⟨rfl, hba⟩; rw [HV.out]; have pa0 := cell_below hba rlt p0; have pa1 := cell_below hba rlt p1; have fa0 := frz_below hba rlt f0; have fa1 := frz_below hba rlt f1; have HBA := hid (bel_nx HB4.out hRw hba); clear hba)
      refine bodyPost_ret (v := .tuple #[.agg #[.int .i64 0, .int .i64 0], .bool false]) (by simp [results, Tryd.results50, go_sem, pa0, pa1]) rfl ?_
      rw [HF.out, HRR.out]
      exact ⟨rfl, (HBA.out.setCell (Nat.le_refl _) _).setCell (Nat.le_refl _) _⟩
    · obtain ⟨o0, o1⟩ := validI_op hV
      simp only at o0 o1
      obtain ⟨L, hL⟩ : ∃ L, lineF (op, 0) = L := ⟨_, rfl⟩
      have ha64 : I64 0 := (validI_i64 hV).2
      have hLl := lineF_len (op, 0) ha64
      have HCI := hid fun w h => c_instrText (B := B) op 0 w o0 o1 ha64 h
      rw [hL] at hLl HCI
      obtain ⟨E, hE⟩ : ∃ E, (L == s.toList) = E := ⟨_, rfl⟩
      have HF : Hid (readIF s.data.toList = if E then ((op, 0), true) else ((0, 0), false)) := by
        unfold Hid; rw [HFR2.out]; unfold fin; rw [hL, ← hE, ByteArray.toList_eq]
        by_cases h2 : L = s.data.toList
        · rw [if_pos ⟨hV, h2⟩, if_pos (by rw [h2]; simp)]
        · rw [if_neg (fun h => h2 h.2), if_neg (by simpa using h2)]
      clear hV hL o0 o1
      cases E
      · go_wp2_with (first | (go_at_call 69; refine (c_ValidInstr op 0 w4).mono ?_; rintro e wa ⟨rfl, hba⟩; rw [HV.out]; have pa0 := cell_below hba rlt p0; have pa1 := cell_below hba rlt p1; have fa0 := frz_below hba rlt f0; have fa1 := frz_below hba rlt f1; have xa0 := cell_below hba xlt x4; have xa1 := cell_below hba xlt y4; have ra := Nat.lt_of_lt_of_le rlt hba.size; have HTA := hid (HT4.out.on hba); have HBA := hid (bel_nx HB4.out hRw hba); clear hba) | (go_at_call 70; refine (HCI.out _ HTA.out).mono ?_; rintro e wb ⟨rfl, hbb⟩; have pb0 := cell_below hbb ra pa0; have pb1 := cell_below hbb ra pa1; have fb0 := frz_below hbb ra fa0; have fb1 := frz_below hbb ra fa1; have HBB := hid (bel_nx HBA.out hRw hbb); clear hbb; unfold strOf))
        refine bodyPost_ret (v := .tuple #[.agg #[.int .i64 0, .int .i64 0], .bool false]) (by simp [results, Tryd.results50, go_sem, pb0, pb1]) rfl ?_
        rw [HF.out, HRR.out]
        exact ⟨rfl, (HBB.out.setCell (Nat.le_refl _) _).setCell (Nat.le_refl _) _⟩
      · go_wp2_with (first | (go_at_call 69; refine (c_ValidInstr op 0 w4).mono ?_; rintro e wa ⟨rfl, hba⟩; rw [HV.out]; have pa0 := cell_below hba rlt p0; have pa1 := cell_below hba rlt p1; have fa0 := frz_below hba rlt f0; have fa1 := frz_below hba rlt f1; have xa0 := cell_below hba xlt x4; have xa1 := cell_below hba xlt y4; have xaf := Nat.lt_of_lt_of_le xlt hba.size; have ra := Nat.lt_of_lt_of_le rlt hba.size; have HTA := hid (HT4.out.on hba); have HBA := hid (bel_nx HB4.out hRw hba); clear hba) | (go_at_call 70; refine (HCI.out _ HTA.out).mono ?_; rintro e wb ⟨rfl, hbb⟩; have pb0 := cell_below hbb ra pa0; have pb1 := cell_below hbb ra pa1; have fb0 := frz_below hbb ra fa0; have fb1 := frz_below hbb ra fa1; have xb0 := cell_below hbb xaf xa0; have xb1 := cell_below hbb xaf xa1; have HBB := hid (bel_nx HBA.out hRw hbb); clear hbb; unfold strOf))
        refine bodyPost_ret (v := .tuple #[.agg #[.int .i64 op, .int .i64 0], .bool true]) (by simp [results, Tryd.results50, go_sem, pb0, pb1]) rfl ?_
        rw [HF.out, HRR.out]
        exact ⟨rfl, (HBB.out.setCell (Nat.le_refl _) _).setCell (Nat.le_refl _) _⟩
  · obtain ⟨⟨arg, okr⟩, hra⟩ : ∃ q, readF rest = q := ⟨_, rfl⟩
    have HFR2 : Hid (readIF s.data.toList = fin s.data.toList (op, arg)) := by unfold Hid; rw [HFR.out, hra]; rfl
    have HRD := hid (c_ReadDecimal (B := B) ⟨rest.toArray⟩ w4 (by simp [ByteArray.size]; omega) HT4.out HE4.out)
    have e2 : readF (⟨rest.toArray⟩ : ByteArray).data.toList = (arg, okr) := by simpa using hra
    rw [e2] at HRD
    have rl4 := HR4.out.lt
    have xl4 := HX4.out.lt
    clear hra e2
    go_wp2_with fail
    refine HRD.out.mono ?_
    rintro e w5 ⟨rfl, hb5⟩
    have HX5 := hid (HX4.out.below hb5)
    have HB5 := hid (bel_nx HB4.out hRw hb5)
    have HR5 := hid (HR4.out.below hb5)
    have HT5 := hid (HT4.out.on hb5)
    clear hb5 HX4 HB4 HR4 HT4 HE4 x4 y4 g4
    have x5 := HX5.out.c0
    have y5 := HX5.out.c1
    have g5 := HX5.out.f 1
    have HX6 := hid (HX5.out.set1 arg)
    have HR6 := hid (HR5.out.set_ne (p := ⟨X, 1, none⟩) (by show R ≠ X; omega) (.int .i64 arg))
    have HB6 := hid (HB5.out.setCell (p := ⟨X, 1, none⟩) (by show R ≤ X; omega) (.int .i64 arg))
    have HT6 := hid (HT5.out.belows (((Below.refl R w5).setCell (p := ⟨X, 1, none⟩) (by show R ≤ X; omega) (.int .i64 arg)).mono hBw))
    go_wp2_with fail
    clear HX5 HB5 HR5 HT5 x5 y5 g5
    generalize w5.setCell ⟨X, 1, none⟩ (.int .i64 arg) = w6 at *
    have x6 := HX6.out.c0
    have y6 := HX6.out.c1
    obtain ⟨V, hV⟩ : ∃ V, validI (op, arg) = V := ⟨_, rfl⟩
    have HV := hid hV
    have p0 := HR6.out.c0
    have p1 := HR6.out.c1
    have f0 := HR6.out.f 0
    have f1 := HR6.out.f 1
    have rlt := HR6.out.lt
    have xlt := HX6.out.lt
    cases V
    · have HF : Hid (readIF s.data.toList = ((0, 0), false)) := by
        unfold Hid; rw [HFR2.out]; unfold fin; simp [hV]
      clear hV
      go_wp2_with (go_at_call 69; refine (c_ValidInstr op arg w6).mono ?_; rintro e wa ⟨rfl, hba⟩; rw [HV.out]; have pa0 := cell_below hba rlt p0; have pa1 := cell_below hba rlt p1; have fa0 := frz_below hba rlt f0; have fa1 := frz_below hba rlt f1; have HBA := hid (bel_nx HB6.out hRw hba); clear hba)
      refine bodyPost_ret (v := .tuple #[.agg #[.int .i64 0, .int .i64 0], .bool false]) (by simp [results, Tryd.results50, go_sem, pa0, pa1]) rfl ?_
      rw [HF.out, HRR.out]
      exact ⟨rfl, (HBA.out.setCell (Nat.le_refl _) _).setCell (Nat.le_refl _) _⟩
    · obtain ⟨o0, o1⟩ := validI_op hV
      simp only at o0 o1
      obtain ⟨L, hL⟩ : ∃ L, lineF (op, arg) = L := ⟨_, rfl⟩
      have ha64 : I64 arg := (validI_i64 hV).2
      have hLl := lineF_len (op, arg) ha64
      have HCI := hid fun w h => c_instrText (B := B) op arg w o0 o1 ha64 h
      rw [hL] at hLl HCI
      obtain ⟨E, hE⟩ : ∃ E, (L == s.toList) = E := ⟨_, rfl⟩
      have HF : Hid (readIF s.data.toList = if E then ((op, arg), true) else ((0, 0), false)) := by
        unfold Hid; rw [HFR2.out]; unfold fin; rw [hL, ← hE, ByteArray.toList_eq]
        by_cases h2 : L = s.data.toList
        · rw [if_pos ⟨hV, h2⟩, if_pos (by rw [h2]; simp)]
        · rw [if_neg (fun h => h2 h.2), if_neg (by simpa using h2)]
      clear hV hL o0 o1
      cases E
      · go_wp2_with (first | (go_at_call 69; refine (c_ValidInstr op arg w6).mono ?_; rintro e wa ⟨rfl, hba⟩; rw [HV.out]; have pa0 := cell_below hba rlt p0; have pa1 := cell_below hba rlt p1; have fa0 := frz_below hba rlt f0; have fa1 := frz_below hba rlt f1; have xa0 := cell_below hba xlt x6; have xa1 := cell_below hba xlt y6; have ra := Nat.lt_of_lt_of_le rlt hba.size; have HTA := hid (HT6.out.on hba); have HBA := hid (bel_nx HB6.out hRw hba); clear hba) | (go_at_call 70; refine (HCI.out _ HTA.out).mono ?_; rintro e wb ⟨rfl, hbb⟩; have pb0 := cell_below hbb ra pa0; have pb1 := cell_below hbb ra pa1; have fb0 := frz_below hbb ra fa0; have fb1 := frz_below hbb ra fa1; have HBB := hid (bel_nx HBA.out hRw hbb); clear hbb; unfold strOf))
        refine bodyPost_ret (v := .tuple #[.agg #[.int .i64 0, .int .i64 0], .bool false]) (by simp [results, Tryd.results50, go_sem, pb0, pb1]) rfl ?_
        rw [HF.out, HRR.out]
        exact ⟨rfl, (HBB.out.setCell (Nat.le_refl _) _).setCell (Nat.le_refl _) _⟩
      · go_wp2_with (first | (go_at_call 69; refine (c_ValidInstr op arg w6).mono ?_; rintro e wa ⟨rfl, hba⟩; rw [HV.out]; have pa0 := cell_below hba rlt p0; have pa1 := cell_below hba rlt p1; have fa0 := frz_below hba rlt f0; have fa1 := frz_below hba rlt f1; have xa0 := cell_below hba xlt x6; have xa1 := cell_below hba xlt y6; have xaf := Nat.lt_of_lt_of_le xlt hba.size; have ra := Nat.lt_of_lt_of_le rlt hba.size; have HTA := hid (HT6.out.on hba); have HBA := hid (bel_nx HB6.out hRw hba); clear hba) | (go_at_call 70; refine (HCI.out _ HTA.out).mono ?_; rintro e wb ⟨rfl, hbb⟩; have pb0 := cell_below hbb ra pa0; have pb1 := cell_below hbb ra pa1; have fb0 := frz_below hbb ra fa0; have fb1 := frz_below hbb ra fa1; have xb0 := cell_below hbb xaf xa0; have xb1 := cell_below hbb xaf xa1; have HBB := hid (bel_nx HBA.out hRw hbb); clear hbb; unfold strOf))
        refine bodyPost_ret (v := .tuple #[.agg #[.int .i64 op, .int .i64 arg], .bool true]) (by simp [results, Tryd.results50, go_sem, pb0, pb1]) rfl ?_
        rw [HF.out, HRR.out]
        exact ⟨rfl, (HBB.out.setCell (Nat.le_refl _) _).setCell (Nat.le_refl _) _⟩
end Go.Proofs.YtcbaohcgeoaccaaDoor
