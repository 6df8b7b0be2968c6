/- For every two strings of bytes the law FnCoded returns true: the numbers, the list and the text that are drawn from them are read back from their codes, wherever these begin, and a code whose last byte is left out is not read. No condition. -/
import Derived.Test.YtlipoonopajgdaaRows
import Derived.Test.YtlipoonopajgdaaOpn
import Derived.Test.YtlipoonopajgdaaL00b
import Derived.Test.YtlipoonopajgdaaL01l
import Derived.Test.YtlipoonopajgdaaL01lq
import Derived.ProofKit
import Derived.OpenShut
import Derived.ChangeOld
namespace Go.Proofs.Ytlipoonopajgdaa.fnCoded
open Go.ChangeShapes Go.WideShapes Go.ChangeAt Go.RowKit
open Go.ChangeMaps (open_string shut_string)
set_option linter.unusedVariables false

theorem codedL_of {zs : List Int} (hl : zs.length ≤ 100) (h : ∀ z ∈ zs, Small z) : codedL zs = true := by
  simp only [codedL, Bool.and_eq_true, decide_eq_true_eq, allIn, List.all_eq_true]
  exact ⟨hl, fun z hz => inB_iff.2 (h z hz)⟩
theorem getTF_res {l : List UInt8} {a : Int} (h : (getTF l a).2.2 = false) : getTF l a = ([], 0, false) := by
  unfold getTF at h ⊢
  split
  · rename_i hc; rw [if_pos hc] at h; cases h
  · rfl
theorem ext_cut (A : ByteArray) (n : Nat) : (A.extract 0 n).data.toList = A.data.toList.take n := by
  have := ext_data A 0 n
  rw [Nat.zero_add] at this
  rw [this]; simp
theorem cat_list (a b : ByteArray) : (a ++ b).data.toList = a.data.toList ++ b.data.toList := by simp
/-- The front, the code of the list, the code of the front. -/
structure Codes (zs : List Int) (l : List UInt8) (F A B : ByteArray) : Prop where
  f : F.data.toList = l
  a : A.data.toList = putLs zs
  b : B.data.toList = putN l.length ++ l
theorem Codes.sizes {zs : List Int} {l : List UInt8} {F A B : ByteArray} (h : Codes zs l F A B) (hl : l.length ≤ 12) (hz : zs.length ≤ 7) (hs : ∀ z ∈ zs, Small z) :
    F.size ≤ 12 ∧ 1 ≤ A.size ∧ A.size ≤ 64 ∧ 1 ≤ B.size ∧ B.size ≤ 20 := by
  have h1 : F.size = l.length := by rw [← h.f]; simp
  have h2 : A.size = (putLs zs).length := by rw [← h.a]; simp
  have h3 : B.size = (putN l.length).length + l.length := by rw [← List.length_append, ← h.b]; simp
  have h4 := putN_len l.length (by omega) (by omega)
  have h5 := putN_pos l.length
  have h6 := flat_len hs
  have h7 := putN_len zs.length (by omega) (by omega)
  have h8 := putN_pos zs.length
  have h9 : (putLs zs).length = (putN zs.length).length + (zs.flatMap putN).length := by unfold putLs; rw [List.length_append]
  omega
theorem Codes.list {zs : List Int} {l : List UInt8} {F A B : ByteArray} (h : Codes zs l F A B) (hz : zs.length ≤ 7) (hs : ∀ z ∈ zs, Small z) :
    getListF (F ++ A ++ B).data.toList F.size = (zs, (F.size : Int) + A.size, true) := by
  have h1 : F.size = F.data.toList.length := by simp
  have h2 : A.size = (putLs zs).length := by rw [← h.a]; simp
  rw [cat_list, cat_list, h.a, List.append_assoc, h1, getListF_put zs _ _ hs (by omega), h2]
theorem Codes.text {zs : List Int} {l : List UInt8} {F A B : ByteArray} (h : Codes zs l F A B) (hl : l.length ≤ 12) :
    getTF (F ++ A ++ B).data.toList ((F.size : Int) + A.size) = (l, (F.size : Int) + A.size + B.size, true) := by
  have h1 : ((F.size : Int) + A.size) = ((F.data.toList ++ A.data.toList).length : Nat) := by rw [List.length_append]; simp
  have h3 : B.size = (putN l.length).length + l.length := by rw [← List.length_append, ← h.b]; simp
  rw [cat_list, cat_list, h.b, h1, getTF_put l _ (by omega), h3]
  simp only [Prod.mk.injEq, true_and, and_true]
  omega
theorem Codes.listCut {zs : List Int} {l : List UInt8} {F A B : ByteArray} (h : Codes zs l F A B) (hz : zs.length ≤ 7) (hs : ∀ z ∈ zs, Small z) :
    getListF (A.extract 0 (A.size - 1)).data.toList 0 = ([], 0, false) := by
  have h2 : A.size = (putLs zs).length := by rw [← h.a]; simp
  rw [ext_cut, h.a, h2]
  exact getListF_cut zs hs (by omega)
theorem Codes.textCut {zs : List Int} {l : List UInt8} {F A B : ByteArray} (h : Codes zs l F A B) (hl : l.length ≤ 12) :
    getTF (B.extract 0 (B.size - 1)).data.toList 0 = ([], 0, false) := by
  have h2 : B.size = (putN l.length ++ l).length := by rw [← h.b]; simp
  rw [ext_cut, h.b, h2]
  exact getTF_res (getTF_cut l (by omega))
theorem Codes.number {zs : List Int} {l : List UInt8} {F A B C : ByteArray} (h : Codes zs l F A B) {z : Int} (hz : Small z) (hC : C.data.toList = putN z) : getNumF (C ++ A).data.toList 0 = (z, (C.size : Int), true) := by
  have h1 : C.size = (putN z).length := by rw [← hC]; simp
  have h2 := getNumF_put hz [] (putLs zs)
  simp only [List.nil_append, List.length_nil] at h2
  rw [cat_list, h.a, hC, h1]
  have h3 : (((0 : Nat) : Int)) = 0 := rfl
  rw [h3] at h2
  rw [h2]; simp
set_option maxHeartbeats 4000000 in
set_option maxRecDepth 100000 in
theorem walk (a0 : Option Addr) (p0 : Nat) (bs : List Int) (a1 : Option Addr) (p1 : Nat) (cs : List Int) (w : World) (h0 : SlRd cU8 (fun _ => True) w a0 p0 bs) (h1 : SlRd cU8 (fun _ => True) w a1 p1 cs) :
    Calls Try.prog 3 #[.slice a0 bs.length p0, .slice a1 cs.length p1] w fun e w' => e = .returned (.bool true) ∧ Below w.heap.size w w' := by
  have hl0 := h0.len_le
  have hl1 := h1.len_le
  have H0 := hid (h0.keep (S' := fun b => b < w.heap.size) (w' := w) fun b _ hl => ⟨hl, rfl⟩)
  have H1 := hid (h1.keep (S' := fun b => b < w.heap.size) (w' := w) fun b _ hl => ⟨hl, rfl⟩)
  clear h0 h1
  obtain ⟨lg, hlg⟩ : ∃ lg, (decide (48 < bs.length) || decide (48 < cs.length)) = lg := ⟨_, rfl⟩
  have HLG := hid hlg
  clear hlg
  cases lg
  · go_enter Try.func3, Try.ntmps3
    go_wp2_with fail
    refine (c_r8Long _ _ _ _ _ _ _ hl0 hl1).mono ?_
    rintro e w' ⟨rfl, rfl⟩
    rw [HLG.out]
    go_wp2_with fail
    refine (c_R8List H0.out).mono ?_
    rintro e w1 ⟨zs, a, p, rfl, hzl, hzs, hr, hb⟩
    have hzs' : ∀ z ∈ zs, Small z := hzs
    have HZ := hid hzs'
    have HR := hid hr
    have HB1 := hid hb
    have H11 := hid ((H1.out.below (Nat.le_refl _) hb).keep (S' := fun b => b < w1.heap.size) (w' := w1) fun b _ hl => ⟨hl, rfl⟩)
    have HPL : Hid (putLF zs = (putLs zs, true)) := by unfold Hid putLF; rw [if_pos (codedL_of (by omega) hzs')]
    clear hr hb hzs hzs'
    go_wp2_with fail
    refine (c_R8Bytes H11.out).mono ?_
    rintro e w2 ⟨l, rfl, hll, hb2⟩
    have HPT : Hid (putTextF l = (putN l.length ++ l, true)) := by unfold Hid putTextF; rw [if_pos (by omega)]
    obtain ⟨F, hF⟩ : ∃ F : ByteArray, F = ⟨l.toArray⟩ := ⟨_, rfl⟩
    obtain ⟨A, hA⟩ : ∃ A : ByteArray, A = ⟨(putLs zs).toArray⟩ := ⟨_, rfl⟩
    obtain ⟨B, hB⟩ : ∃ B : ByteArray, B = ⟨(putN l.length ++ l).toArray⟩ := ⟨_, rfl⟩
    have HC : Hid (Codes zs l F A B) := ⟨by rw [hF], by rw [hA], by rw [hB]⟩
    have HF : Hid (strOf l = .string F) := by unfold Hid; rw [hF]; rfl
    have HA : Hid (strOf (putLs zs) = .string A) := by unfold Hid; rw [hA]; rfl
    have HBs : Hid (strOf (putN l.length ++ l) = .string B) := by unfold Hid; rw [hB]; rfl
    have HFl : Hid (F.data.toList = l) := by unfold Hid; rw [hF]
    have HR2 := hid (HR.out.fresh (Nat.le_refl _) (Nat.le_refl _) hb2)
    have HB2 := hid (bel_next HB1.out HB1.out.size hb2)
    clear hb2 hF hA hB HR HB1
    rw [HF.out]
    obtain ⟨f1, a1', a2, b1, b2⟩ := HC.out.sizes hll hzl HZ.out
    go_wp2_with fail
    refine (c_PutList _ _ _ _ HR2.out).mono ?_
    rintro e w3 ⟨rfl, hb3⟩
    rw [HPL.out]
    simp only
    rw [HA.out]
    have HR3 := hid (HR2.out.fresh (Nat.le_refl _) (Nat.le_refl _) hb3)
    have HB3 := hid (bel_next HB2.out HB2.out.size hb3)
    clear hb3 HR2 HB2
    go_wp2_with fail
    refine (c_PutText F _ (by omega)).mono ?_
    rintro e w4 ⟨rfl, hb4⟩
    rw [HFl.out, HPT.out]
    simp only
    rw [HBs.out]
    have HR4 := hid (HR3.out.fresh (Nat.le_refl _) (Nat.le_refl _) hb4)
    have HB4 := hid (bel_next HB3.out HB3.out.size hb4)
    clear hb4 HR3 HB3
    have x1 : ((A.size : Int) == 0) = false := by rw [beq_eq_false_iff_ne]; omega
    have x2 : ((B.size : Int) == 0) = false := by rw [beq_eq_false_iff_ne]; omega
    go_wp2_with fail
    obtain ⟨X, hX⟩ : ∃ X : ByteArray, X = F ++ A ++ B := ⟨_, rfl⟩
    have HGL : Hid (getListF X.data.toList F.size = (zs, (F.size : Int) + A.size, true)) := by unfold Hid; rw [hX]; exact HC.out.list hzl HZ.out
    have HGT : Hid (getTF X.data.toList ((F.size : Int) + A.size) = (l, (F.size : Int) + A.size + B.size, true)) := by unfold Hid; rw [hX]; exact HC.out.text hll
    have hXs : X.size = F.size + A.size + B.size := by rw [hX]; simp
    rw [← hX]
    clear hX
    refine (c_GetList X F.size _ (by omega)).mono ?_
    rintro e w5 ⟨b, q, rfl, hr5, hb5⟩
    rw [HGL.out] at hr5 ⊢
    simp only at hr5 ⊢
    have HV5 := hid hr5
    have HR5 := hid (HR4.out.fresh (Nat.le_refl _) (Nat.le_refl _) hb5)
    have HB5 := hid (bel_next HB4.out HB4.out.size hb5)
    clear hb5 hr5 HR4 HB4
    go_wp2_with fail
    refine (c_GetText X _ _ (by omega)).mono ?_
    rintro e w6 ⟨rfl, hb6⟩
    rw [HGT.out]
    simp only
    rw [HF.out]
    have HV6 := hid (HV5.out.fresh (Nat.le_refl _) (Nat.le_refl _) hb6)
    have HR6 := hid (HR5.out.fresh (Nat.le_refl _) (Nat.le_refl _) hb6)
    have HB6 := hid (bel_next HB5.out HB5.out.size hb6)
    clear hb6 HV5 HR5 HB5
    have y1 : IntKind.i64.wrap ((F.size : Int) + A.size) = (F.size : Int) + A.size := wrap_in _ (by omega) (by omega)
    have y2 : ((X.size : Nat) : Int) = (F.size : Int) + A.size + B.size := by omega
    have y3 : IntKind.i64.wrap ((A.size : Int) - 1) = (A.size : Int) - 1 := wrap_in _ (by omega) (by omega)
    have y4 : IntKind.i64.wrap ((B.size : Int) - 1) = (B.size : Int) - 1 := wrap_in _ (by omega) (by omega)
    have z1 : ((A.size : Int) - 1).toNat = A.size - 1 := by omega
    have z2 : ((B.size : Int) - 1).toNat = B.size - 1 := by omega
    have z3 : (0 : Int) ≤ (A.size : Int) - 1 := by omega
    have z4 : (0 : Int) ≤ (B.size : Int) - 1 := by omega
    have z5 : (A.size : Int) - 1 ≤ A.size := by omega
    have z6 : (B.size : Int) - 1 ≤ B.size := by omega
    clear hXs
    go_wp2_with fail
    refine (c_r8Same _ _ _ _ _ _ _ HV6.out HR6.out).mono ?_
    rintro e w7 ⟨rfl, hb7⟩
    rw [show decide (zs = zs) = true by simp]
    have HR7 := hid (HR6.out.fresh (Nat.le_refl _) (Nat.le_refl _) hb7)
    have HB7 := hid (bel_next HB6.out HB6.out.size hb7)
    clear hb7 HV6 HR6 HB6
    go_wp2_with fail
    have HLC := hid (HC.out.listCut hzl HZ.out)
    have HTC := hid (HC.out.textCut hll)
    have hAx : (A.extract 0 (A.size - 1)).size ≤ 1099511627776 := by simp; omega
    have hBx : (B.extract 0 (B.size - 1)).size ≤ 1099511627776 := by simp; omega
    refine (c_GetList (A.extract 0 (A.size - 1)) 0 _ hAx).mono ?_
    rintro e w8 ⟨b', q', rfl, hr8, hb8⟩
    rw [HLC.out]
    simp only
    have HR8 := hid (HR7.out.fresh (Nat.le_refl _) (Nat.le_refl _) hb8)
    have HB8 := hid (bel_next HB7.out HB7.out.size hb8)
    clear hb8 hr8 HR7 HB7 hAx
    go_wp2_with fail
    refine (c_GetText (B.extract 0 (B.size - 1)) 0 _ hBx).mono ?_
    rintro e w9 ⟨rfl, hb9⟩
    rw [HTC.out]
    simp only
    have HR9 := hid (HR8.out.fresh (Nat.le_refl _) (Nat.le_refl _) hb9)
    have HB9 := hid (bel_next HB8.out HB8.out.size hb9)
    clear hb9 HR8 HB8 hBx
    go_wp2
    go_loopw [25] (fun i wr => ∃ k : Nat, k ≤ zs.length ∧ i = .int .i64 k ∧ Hid (SlRd cInt (Fresh w.heap.size wr) wr a p zs) ∧ Hid (Below w.heap.size w wr)) (fun i _ => zs.length - (intOf i).toNat)
    case atStart => exact ⟨0, Nat.zero_le _, rfl, HR9, HB9⟩
    case round =>
      obtain ⟨k, hk, rfl, HR, HB⟩ := hrel
      by_cases hlt : k < zs.length
      · obtain ⟨bb, off, rfl⟩ := HR.out.some_of hlt
        obtain ⟨z, hz, hz1, hc, hbl⟩ := HR.out.int_at k hlt
        have hsz := HZ.out z (List.mem_of_getElem? hz)
        obtain ⟨C, hC⟩ : ∃ C : ByteArray, C = ⟨(putN z).toArray⟩ := ⟨_, rfl⟩
        have HPF : Hid (putF z = (putN z, true)) := by unfold Hid putF; rw [if_pos]; exact inB_iff.2 hsz
        have HCs : Hid (strOf (putN z) = .string C) := by unfold Hid; rw [hC]; rfl
        have HCN : Hid (getNumF (C ++ A).data.toList 0 = (z, (C.size : Int), true)) := HC.out.number hsz (by rw [hC])
        have hCl : C.size ≤ 8 := by have := putN_len z hsz.1 hsz.2; rw [hC]; show (putN z).toArray.size ≤ 8; simpa using this
        have hCA : (C ++ A).size ≤ 1099511627776 := by simp; omega
        have i0 : (0 : Int) ≤ (k : Int) := by omega
        have i1 : (k : Int) < (zs.length : Int) := by omega
        clear hz hsz hC
        go_wp2_with fail
        refine (c_PutNumber _ _).mono ?_
        rintro e w10 ⟨rfl, hb10⟩
        rw [HPF.out]
        simp only
        rw [HCs.out]
        have HR10 := hid (HR.out.fresh (Nat.le_refl _) (Nat.le_refl _) hb10)
        have HB10 := hid (bel_next HB.out HB.out.size hb10)
        have c10 := cell_below hb10 hbl hc
        have hbl10 := Nat.lt_of_lt_of_le hbl hb10.size
        clear hb10 HR HB hc hbl
        go_wp2_with fail
        refine (c_GetNumber (C ++ A) 0 _ hCA).mono ?_
        rintro e w11 ⟨rfl, hb11⟩
        rw [HCN.out]
        simp only
        have HR11 := hid (HR10.out.fresh (Nat.le_refl _) (Nat.le_refl _) hb11)
        have HB11 := hid (bel_next HB10.out HB10.out.size hb11)
        have c11 := cell_below hb11 hbl10 c10
        clear hb11 HR10 HB10 c10 hbl10
        go_wp2
        go_roundw
        case rel => exact ⟨k + 1, by omega, by go_num, HR11, HB11⟩
        case measure => simp [intOf]; omega
      · have i2 : decide ((k : Int) < (zs.length : Int)) = false := by simp; omega
        go_wp2
        go_ret
        exact ⟨rfl, HB.out⟩
  · go_enter Try.func3, Try.ntmps3
    go_wp2_with (go_at_call 15; refine (c_r8Long _ _ _ _ _ _ _ hl0 hl1).mono ?_; rintro e w' ⟨rfl, rfl⟩; rw [HLG.out])
    go_ret
    exact ⟨rfl, Below.refl _ _⟩

theorem own : ownKnob Try.prog.godebug = none := by kernel_rfl
theorem laidOut : laidOutB Try.prog = true := by kernel_rfl
set_option maxRecDepth 100000 in
theorem lifted (os : Os) (started : os.Started) (H : Type) (enc : TypeId × Value → H) :
    ReturnsInHanded {} Try.checked os 3 .any (Rows.fnCodedSpec.pre6 enc Try.prog Try.f3 Rows.fnCodedRow.domain false) (Rows.fnCodedSpec.post enc Try.prog Try.f3 false true false false) := by
  refine returnsInHanded_of_change (C := Try.checked) own started (by kernel_rfl) Try.func3
    (ChangeSpec.witness6 (enc := enc) (C := Try.checked) false ⟨#[], #[.slice none 0 0, .slice none 0 0], []⟩ 8 (by kernel_rfl) (by kernel_rfl) (by kernel_rfl) (by kernel_rfl)) ?_
  intro W base args ds gs before hval0 hW hcnd _
  have hval : ∀ (j : Nat) t v, Try.f3.params[j]? = some t → args[j]? = some v → Value.okWide Try.prog W .any base t v := hval0
  have hW' := hW
  obtain ⟨p, q, hA0, hV, rfl, hfz, hnd⟩ := hW
  have hA : DataW.TrodAll enc Try.prog W 0 (fun _ => true) true Try.f3.params.toList args.toList ds p := hA0
  rw [Try.params3] at hA hval
  obtain ⟨v0, vs0, d0, ds0, p0, q0, hargs, rfl, rfl, h0, r0⟩ := trodAll_cons hA
  obtain ⟨v1, vs1, d1, ds1, p1, q1, hargs1, rfl, rfl, h1, r1⟩ := trodAll_cons r0
  obtain ⟨rfl, rfl, rfl⟩ := trodAll_nil r1
  subst hargs1
  obtain rfl : args = #[v0, v1] := by cases args; simp_all
  obtain ⟨rfl, rfl⟩ := trodVars_none hV
  have k0 := h0
  have lt0 : ∀ x ∈ p0, x.block < W.heap.size := by obtain ⟨m, hm⟩ := k0; exact DataW.trod_lt m _ _ _ hm
  obtain ⟨a0, cap0, as0, rfl, s0⟩ := arg_sl Try.underlying22 op_bytes (hval 0 22 v0 rfl rfl) h0
  have k1 := h1
  have lt1 : ∀ x ∈ p1, x.block < W.heap.size := by obtain ⟨m, hm⟩ := k1; exact DataW.trod_lt m _ _ _ hm
  obtain ⟨a1, cap1, as1, rfl, s1⟩ := arg_sl Try.underlying22 op_bytes (hval 1 22 v1 rfl rfl) h1
  clear hA0 hval0
  refine (walk a0 cap0 as0 a1 cap1 as1 W s0 s1).mono fun e W' ⟨he, bel⟩ => ?_
  subst he
  exact ⟨_, rfl, _, _, _, [], _, [], hW', trodAll_mk1 (shut_bool Try.underlying4 _), (trodAll_cons_mk (Below.trod laidOut (by kernel_rfl) (of_decide_eq_true (by kernel_rfl)) k0 bel lt0) (trodAll_cons_mk (Below.trod laidOut (by kernel_rfl) (of_decide_eq_true (by kernel_rfl)) k1 bel lt1) trodAll_mk0)), rfl, bel.frame _, fun h => by cases h⟩

theorem over : Rows.fnCodedRow.holds Try.pinned (OpenSpec.ofChange Rows.fnCodedSpec) :=
  OpenClaim.holds_of_wide 3 Try.f3 rfl rfl rfl rfl rfl rfl rfl ⟨rfl, rfl, rfl, rfl, rfl⟩ rfl rfl rfl rfl rfl (by kernel_rfl) Try.func3 (by kernel_rfl)
    (of_decide_eq_true (by kernel_rfl)) (by unfold Func.isWrapper; first | (rw [if_pos (by decide +kernel)]; kernel_rfl) | (rw [if_neg (by decide +kernel)]; exact ⟨rfl, rfl⟩))
    (fun os started H enc _ => lifted os started H enc)

theorem proved : Rows.FnCodedSaid := over
#print axioms proved
end Go.Proofs.Ytlipoonopajgdaa.fnCoded
