/- For every two strings of bytes the law FnTexts returns true: the string that is drawn is read back from its digits, its words and lines make it up again, no word holds a blank, and its check number lies in its bounds. Condition: Go's own tables stand as its text lays them (the card ties that to the text). -/
import Derived.Test.YtcbaohcgeoaccaaDoorCards
import Derived.Test.YtcbaohcgeoaccaaDoorTie
import Derived.Test.YtcbaohcgeoaccaaDoorDoor
import Derived.Test.YtcbaohcgeoaccaaDoorOpn
import Derived.Test.YtcbaohcgeoaccaaDoorL00b
import Derived.Test.YtcbaohcgeoaccaaDoorTxtJ
import Derived.ProofKit
import Derived.OpenShut
import Derived.ChangeOld
namespace Go.Proofs.YtcbaohcgeoaccaaDoor.fnTexts
open Go.ChangeShapes Go.WideShapes Go.ChangeAt Go.RowKit
open Go.ChangeMaps (open_string shut_string)
set_option linter.unusedVariables false

theorem mem_at {z : List UInt8} {m : Nat} {c : UInt8} (h : z[m]? = some c) : c ∈ z := List.mem_of_getElem? h
set_option maxHeartbeats 4000000 in
set_option maxRecDepth 100000 in
theorem walk (a0 : Option Addr) (p0 : Nat) (bs : List Int) (a1 : Option Addr) (p1 : Nat) (cs : List Int) (w : World) (h0 : SlRd cU8 (fun _ => True) w a0 p0 bs) (h1 : SlRd cU8 (fun _ => True) w a1 p1 cs) (hMAX : MaxE w.heap.size w) :
    Calls Tryd.prog 14 #[.slice a0 bs.length p0, .slice a1 cs.length p1] w fun e w' => e = .returned (.bool true) ∧ Below w.heap.size w w' := by
  have hl0 := h0.len_le
  have hl1 := h1.len_le
  have H0 := hid (h0.keep (S' := fun b => b < w.heap.size) (w' := w) fun b _ hl => ⟨hl, rfl⟩)
  have HM := hid hMAX
  clear h0 h1 hMAX
  obtain ⟨lg, hlg⟩ : ∃ lg, (decide (48 < bs.length) || decide (48 < cs.length)) = lg := ⟨_, rfl⟩
  have HLG := hid hlg
  clear hlg
  cases lg
  · go_enter Tryd.func14, Tryd.ntmps14
    go_wp2_with fail
    refine (c_r8Long _ _ _ _ _ _ _ hl0 hl1).mono ?_
    rintro e w' ⟨rfl, rfl⟩
    rw [HLG.out]
    go_wp2_with fail
    refine (c_R8Bytes H0.out).mono ?_
    rintro e w1 ⟨l, rfl, hll, hb1⟩
    have HB1 := hid hb1
    clear hb1
    have HHX : Hid (hexOfF l = (hexOf l, true)) := by unfold Hid hexOfF; rw [if_pos (by omega)]
    have HRX := hid (readF_hex l (by omega))
    have hxl := hexOf_length l
    have HLE := hid (lines_end l (by omega))
    have HNL := hid (nlS_cut l)
    have HCK := hid (ck_good l (by omega))
    have HJR := hid (jr_cut 32 _ l (Nat.le_refl _))
    have HNM := hid (no_mark 32 _ l (Nat.le_refl _))
    have HP32 := hid (cutL_piece 32 l)
    have HP10 := hid (cutL_piece 10 l)
    have hn32 := cutL_len 32 l
    have hc32 := List.count_le_length (a := (32 : UInt8)) (l := l)
    have hn10 := cutL_len 10 l
    have hc10 := List.count_le_length (a := (10 : UInt8)) (l := l)
    have hm32 : 1 ≤ (cutL 32 l).length ∧ (cutL 32 l).length ≤ l.length + 1 := by omega
    have hm10 : 1 ≤ (cutL 10 l).length ∧ (cutL 10 l).length ≤ l.length + 1 := by omega
    clear hn32 hn10 hc32 hc10
    obtain ⟨S, hS⟩ : ∃ S : ByteArray, S = ⟨l.toArray⟩ := ⟨_, rfl⟩
    have HS : Hid (strOf l = .string S) := by unfold Hid; rw [hS]; rfl
    have HSl : Hid (S.data.toList = l) := by unfold Hid; rw [hS]
    have hSs : S.size = l.length := by rw [hS]; simp [ByteArray.size]
    obtain ⟨X, hX⟩ : ∃ X : ByteArray, X = ⟨(hexOf l).toArray⟩ := ⟨_, rfl⟩
    have HX : Hid (strOf (hexOf l) = .string X) := by unfold Hid; rw [hX]; rfl
    have HXl : Hid (X.data.toList = hexOf l) := by unfold Hid; rw [hX]
    have hXs : X.size = 2 * l.length := by rw [hX, ← hxl]; simp [ByteArray.size]
    clear hS hX hxl
    rw [HS.out]
    go_wp2_with fail
    refine (c_HexOf S w1 (by omega)).mono ?_
    rintro e w2 ⟨rfl, hb2⟩
    rw [HSl.out, HHX.out]
    simp only
    rw [HX.out]
    have HB2 := hid (bel_next HB1.out HB1.out.size hb2)
    clear hb2 HB1
    go_wp2_with fail
    refine (c_ReadHex X w2 (by omega)).mono ?_
    rintro e w3 ⟨rfl, hb3⟩
    rw [HXl.out, HRX.out]
    simp only
    rw [HS.out]
    have HB3 := hid (bel_next HB2.out HB2.out.size hb3)
    clear hb3 HB2
    have y1 : IntKind.i64.wrap (2 * (S.size : Int)) = 2 * (S.size : Int) := wrap_in _ (by omega) (by omega)
    have y2 : ((X.size : Int) != 2 * (S.size : Int)) = false := by rw [hXs, hSs]; simp
    go_wp2_with fail
    refine (c_WordsOf S w3 (by omega) (HM.out.belows HB3.out)).mono ?_
    rw [HSl.out]
    clear y1 y2
    obtain ⟨zs, hzs⟩ : ∃ zs, cutL 32 l = zs := ⟨_, rfl⟩
    rw [hzs] at HJR HNM HP32 hm32 ⊢
    clear hzs
    rintro e w4 ⟨a4, p4, rfl, hs4, hb4⟩
    have HB4 := hid (bel_next HB3.out HB3.out.size hb4)
    have HZ := hid hs4
    clear hb4 hs4 HB3
    go_wp2
    go_loopw [11, 12] (fun o i wr => ∃ (k : Nat) (t : List UInt8), k ≤ zs.length ∧ i = .int .i64 k ∧ o = .string ⟨t.toArray⟩ ∧ t.length ≤ l.length ∧ Hid ((k = 0 → t = []) ∧ (0 < k → t ++ jr 32 (zs.drop k) = l)) ∧ Hid (Below w4.heap.size w4 wr)) (fun _ i _ => zs.length - (intOf i).toNat)
    case atStart => exact ⟨0, [], Nat.zero_le _, rfl, rfl, by simp, ⟨fun _ => rfl, fun h => by omega⟩, Below.refl _ _⟩
    case round =>
      obtain ⟨k, t, hk, rfl, rfl, htl, HT, HBE⟩ := hrel
      by_cases hlt : k < zs.length
      · obtain ⟨b, off, rfl⟩ := HZ.out.some_of hlt
        obtain ⟨z, hz, hz2, hc, hb, _⟩ := (HZ.out.below (Nat.le_refl _) HBE.out).str_at k hlt
        have hzl := HP32.out z (List.mem_of_getElem? hz)
        have HNZ := hid (HNM.out z (List.mem_of_getElem? hz))
        have hd : zs.drop k = z :: zs.drop (k + 1) := by
          rw [List.drop_eq_getElem_cons hlt]; congr 1
          rw [List.getElem?_eq_getElem hlt] at hz; simpa using hz
        have HN : Hid ((k = 0 → t ++ z ++ jr 32 (zs.drop (k + 1)) = l) ∧ (0 < k → (t ++ [32]) ++ z ++ jr 32 (zs.drop (k + 1)) = l)) := by
          refine ⟨fun h0 => ?_, fun h0 => ?_⟩
          · have h9 := HJR.out
            have h8 := HT.out.1 h0
            subst h0
            rw [List.drop_zero] at hd
            rw [hd] at h9
            rw [h8]
            simpa [jr] using h9
          · have h9 := HT.out.2 h0
            rw [hd] at h9
            simpa [jr] using h9
        have i0 : (0 : Int) ≤ (k : Int) := by omega
        have i1 : (k : Int) < (zs.length : Int) := by omega
        have hsl9 : ∀ (u : List UInt8), u ++ jr 32 (zs.drop (k + 1)) = l → u.length ≤ l.length := fun u hu => by
          have := congrArg List.length hu; simp at this; omega
        have HZK := hid hz
        obtain ⟨Z, hZ⟩ : ∃ Z : ByteArray, Z = ⟨z.toArray⟩ := ⟨_, rfl⟩
        have HZS : Hid (Value.string ⟨z.toArray⟩ = Value.string Z) := by unfold Hid; rw [hZ]
        have hZs : Z.size = z.length := by rw [hZ]; simp [ByteArray.size]
        have HNE : Hid (∀ (m : Nat) (h : m < Z.size), ((Z[m].toNat : Int) == 32) = false) := by
          intro m h
          simp only [beq_eq_false_iff_ne, ne_eq]
          intro e
          apply HNZ.out
          have e2 : Z[m] = 32 := UInt8.toNat_inj.1 (by simp; omega)
          rw [← e2]
          have h9 : Z.data.toList = z := by rw [hZ]
          rw [← h9]
          exact List.mem_iff_getElem.2 ⟨m, by simpa using h, rfl⟩
        rw [HZS.out] at hc
        clear hz hd
        by_cases hk0 : k = 0
        · have HN2 := hid (HN.out.1 hk0)
          have hk8 : decide (0 < k) = false := by simp; omega
          clear hk0
          have hz9 : (t ++ z).length ≤ l.length := hsl9 _ HN2.out
          have n3 : ¬ 9223372036854775807 < (t).length + Z.size := by simp at hz9 ⊢; omega
          have e1 : (⟨(t).toArray⟩ ++ Z : ByteArray) = ⟨(t ++ z).toArray⟩ := by rw [hZ]; exact badd _ _
          clear hsl9 HN HT hZ
          obtain ⟨wo, hwo⟩ : ∃ wo : World, wo = wr := ⟨_, rfl⟩
          subst hwo
          go_wp2
          go_loopw [13] (fun j wx => ∃ m : Nat, m ≤ Z.size ∧ j = .int .i64 m ∧ Hid (Below w4.heap.size w4 wx)) (fun j _ => Z.size - (intOf j).toNat)
          case atStart => exact ⟨0, Nat.zero_le _, rfl, HBE⟩
          case round =>
            obtain ⟨m, hm, rfl, HBX⟩ := hrel
            obtain ⟨z', hz', _, hcx, hbx, _⟩ := (HZ.out.below (Nat.le_refl _) HBX.out).str_at k hlt
            rw [HZK.out] at hz'
            cases hz'
            rw [HZS.out] at hcx
            by_cases hmt : m < Z.size
            · have hne := HNE.out m hmt
              have j0 : (0 : Int) ≤ (m : Int) := by omega
              have j1 : (m : Int) < (Z.size : Int) := by omega
              go_wp2
              go_roundw
              case rel => exact ⟨m + 1, by omega, by go_num, HBX⟩
              case measure => simp [intOf]; omega
            · have j1 : decide ((m : Int) < (Z.size : Int)) = false := by simp; omega
              go_wp2
              go_roundw
              case rel => exact ⟨k + 1, t ++ z, by omega, by go_num, rfl, hz9, ⟨fun h => by omega, fun _ => HN2.out⟩, HBX⟩
              case measure => simp [intOf]; omega
        · have HN2 := hid (HN.out.2 (by omega))
          have hk8 : decide (0 < k) = true := by simp; omega
          have e0 := badd t [32]
          have n2 : ¬ 9223372036854775807 < t.length + 1 := by omega
          clear hk0
          have hz9 : (t ++ [32] ++ z).length ≤ l.length := hsl9 _ HN2.out
          have n3 : ¬ 9223372036854775807 < (t ++ [32]).length + Z.size := by simp at hz9 ⊢; omega
          have e1 : (⟨(t ++ [32]).toArray⟩ ++ Z : ByteArray) = ⟨(t ++ [32] ++ z).toArray⟩ := by rw [hZ]; exact badd _ _
          clear hsl9 HN HT hZ
          obtain ⟨wo, hwo⟩ : ∃ wo : World, wo = wr := ⟨_, rfl⟩
          subst hwo
          go_wp2
          go_loopw [13] (fun j wx => ∃ m : Nat, m ≤ Z.size ∧ j = .int .i64 m ∧ Hid (Below w4.heap.size w4 wx)) (fun j _ => Z.size - (intOf j).toNat)
          case atStart => exact ⟨0, Nat.zero_le _, rfl, HBE⟩
          case round =>
            obtain ⟨m, hm, rfl, HBX⟩ := hrel
            obtain ⟨z', hz', _, hcx, hbx, _⟩ := (HZ.out.below (Nat.le_refl _) HBX.out).str_at k hlt
            rw [HZK.out] at hz'
            cases hz'
            rw [HZS.out] at hcx
            by_cases hmt : m < Z.size
            · have hne := HNE.out m hmt
              have j0 : (0 : Int) ≤ (m : Int) := by omega
              have j1 : (m : Int) < (Z.size : Int) := by omega
              go_wp2
              go_roundw
              case rel => exact ⟨m + 1, by omega, by go_num, HBX⟩
              case measure => simp [intOf]; omega
            · have j1 : decide ((m : Int) < (Z.size : Int)) = false := by simp; omega
              go_wp2
              go_roundw
              case rel => exact ⟨k + 1, t ++ [32] ++ z, by omega, by go_num, by simp, hz9, ⟨fun h => by omega, fun _ => HN2.out⟩, HBX⟩
              case measure => simp [intOf]; omega
      · obtain rfl : k = zs.length := by omega
        have HL := hid (HT.out.2 (by omega))
        rw [List.drop_length] at HL
        simp only [jr, List.append_nil] at HL
        have HTS : Hid (Value.string ⟨t.toArray⟩ = Value.string S) := by unfold Hid; rw [HL.out]; exact HS.out
        rw [HTS.out]
        have j1 : decide ((zs.length : Int) < (zs.length : Int)) = false := by simp
        have eS : (S ++ ⟨#[10]⟩ : ByteArray) = ⟨(l ++ [10]).toArray⟩ := by
          have := badd l [10]
          rw [← this]
          have h9 := HS.out
          unfold strOf at h9
          rw [Value.string.inj h9]
        have n5 : ¬ 9223372036854775807 < S.size + 1 := by omega
        obtain ⟨T, hTT⟩ : ∃ T : ByteArray, T = ⟨(l ++ [10]).toArray⟩ := ⟨_, rfl⟩
        rw [← hTT] at eS
        have HTl : Hid (T.data.toList = l ++ [10]) := by unfold Hid; rw [hTT]
        have hTs : T.size ≤ l.length + 1 := by rw [hTT]; simp [ByteArray.size]
        have HTT := hid hTT
        clear hTT
        have HB5 := hid (bel_next HB4.out HB4.out.size HBE.out)
        go_wp2_with fail
        refine (c_LinesOf T wr (by omega) (HM.out.belows HB5.out)).mono ?_
        rw [HTl.out, HLE.out]
        obtain ⟨ys, hys⟩ : ∃ ys, cutL 10 l = ys := ⟨_, rfl⟩
        rw [hys] at HNL HP10 hm10 ⊢
        clear hys
        simp only
        rintro e w6 ⟨a6, p6, rfl, hs6, hb6⟩
        have HB6 := hid (bel_next HB5.out HB5.out.size hb6)
        have HY := hid hs6
        clear hb6 hs6 HB5 HBE HT HL
        go_wp2
        go_loopw [16, 17] (fun o i wr => ∃ k : Nat, k ≤ ys.length ∧ i = .int .i64 k ∧ o = .string ⟨(nlS (ys.take k)).toArray⟩ ∧ Hid (Below w6.heap.size w6 wr)) (fun _ i _ => ys.length - (intOf i).toNat)
        case atStart => exact ⟨0, Nat.zero_le _, rfl, rfl, Below.refl _ _⟩
        case round =>
          obtain ⟨k, hk, rfl, rfl, HBE⟩ := hrel
          by_cases hlt : k < ys.length
          · obtain ⟨b, off, rfl⟩ := HY.out.some_of hlt
            obtain ⟨z, hz, hz2, hc, hb, _⟩ := (HY.out.below (Nat.le_refl _) HBE.out).str_at k hlt
            have hzl := HP10.out z (List.mem_of_getElem? hz)
            have HN := hid (nlS_take hz)
            have hle := nlS_le ys (k + 1)
            rw [HN.out, HNL.out] at hle
            simp only [List.length_append, List.length_singleton] at hle
            have e1 := badd z [10]
            have e2 := badd (nlS (ys.take k)) (z ++ [10])
            have n1 : ¬ 9223372036854775807 < z.length + 1 := by omega
            have n2 : ¬ 9223372036854775807 < (nlS (ys.take k)).length + (z.length + 1) := by omega
            have i0 : (0 : Int) ≤ (k : Int) := by omega
            have i1 : (k : Int) < (ys.length : Int) := by omega
            clear hz
            generalize nlS (ys.take k) = u at *
            go_wp2
            go_roundw
            case rel => exact ⟨k + 1, by omega, by go_num, by rw [HN.out], HBE⟩
            case measure => simp [intOf]; omega
          · obtain rfl : k = ys.length := by omega
            have HNT : Hid (Value.string ⟨(nlS (ys.take ys.length)).toArray⟩ = Value.string T) := by
              unfold Hid; rw [List.take_length, HNL.out, HTT.out]
            rw [HNT.out]
            have j2 : decide ((ys.length : Int) < (ys.length : Int)) = false := by simp
            have HB7 := hid (bel_next HB6.out HB6.out.size HBE.out)
            obtain ⟨ck0, ck1⟩ := HCK.out
            have HCC := hid (c_CheckOf S wr (by unfold maxLen; omega))
            rw [HSl.out] at HCC
            obtain ⟨ck, hck⟩ : ∃ ck, ckOf l = ck := ⟨_, rfl⟩
            rw [hck] at HCC ck0 ck1
            clear hck HTl
            go_wp2_with (go_at_call 60; refine HCC.out.mono ?_; rintro e w8 ⟨rfl, rfl⟩)
            go_ret
            exact ⟨rfl, HB7.out⟩
  · go_enter Tryd.func14, Tryd.ntmps14
    go_wp2_with (go_at_call 56; refine (c_r8Long _ _ _ _ _ _ _ hl0 hl1).mono ?_; rintro e w' ⟨rfl, rfl⟩; rw [HLG.out])
    go_ret
    exact ⟨rfl, Below.refl _ _⟩

theorem own : ownKnob Tryd.prog.godebug = none := by kernel_rfl
theorem laidOut : laidOutB Tryd.prog = true := by kernel_rfl
set_option maxRecDepth 100000 in
theorem lifted (os : Os) (started : os.Started) (H : Type) (enc : TypeId × Value → H) (F : Stop.Interp) :
    ReturnsInHanded {} Tryd.checked os 14 .any ((OpenSpec.ofChange Rows.fnTextsSpec).preRow enc Tryd.prog Tryd.f14 Rows.fnTextsRow.domain false Rows.fnTextsRow.laid) (((OpenSpec.ofChange Rows.fnTextsSpec).at F).post enc Tryd.prog Tryd.f14 false true false false) := by
  refine returnsInHanded_of_row (C := Tryd.checked) (s := OpenSpec.ofChange Rows.fnTextsSpec) own started (by kernel_rfl) Tryd.func14
    (ChangeSpec.witness_shaped (enc := enc) (C := Tryd.checked) (os := os) (s := Rows.fnTextsSpec) (X := fun w _ => laidMetH Tryd.prog Rows.fnTextsRow.laid w) false (World.laidAll Tryd.prog os Rows.fnTextsRow.laid) #[.slice none 0 0, .slice none 0 0] 8 (World.laidAll_os _ _ _)
      (World.shaped_of_ZipB (by kernel_rfl) (by kernel_rfl)) (by kernel_rfl) (by kernel_rfl) (by kernel_rfl)
      (by rw [MakeChecks.laidMetH_plain _ _ _ (by kernel_rfl)]; exact laidMet_laidAll _ (by kernel_rfl) (by kernel_rfl))) ?_
  intro W base args ds gs before hval0 hW hcnd _ _ hL hsh _
  have hval : ∀ (j : Nat) t v, Tryd.f14.params[j]? = some t → args[j]? = some v → Value.okWide Tryd.prog W .any base t v := hval0
  have hW' := hW
  obtain ⟨p, q, hA0, hV, rfl, hfz, hnd⟩ := hW
  have hA : DataW.TrodAll enc Tryd.prog W 0 (fun _ => true) true Tryd.f14.params.toList args.toList ds p := hA0
  rw [Tryd.params14] at hA hval
  obtain ⟨v0, vs0, d0, ds0, p0, q0, hargs, rfl, rfl, h0, r0⟩ := trodAll_cons hA
  obtain ⟨v1, vs1, d1, ds1, p1, q1, hargs1, rfl, rfl, h1, r1⟩ := trodAll_cons r0
  obtain ⟨rfl, rfl, rfl⟩ := trodAll_nil r1
  subst hargs1
  obtain rfl : args = #[v0, v1] := by cases args; simp_all
  obtain ⟨rfl, rfl⟩ := trodVars_none hV
  have k0 := h0
  have lt0 : ∀ x ∈ p0, x.block < W.heap.size := by obtain ⟨m, hm⟩ := k0; exact DataW.trod_lt m _ _ _ hm
  obtain ⟨a0, cap0, as0, rfl, s0⟩ := arg_sl Tryd.underlying80 op_bytes (hval 0 80 v0 rfl rfl) h0
  have k1 := h1
  have lt1 : ∀ x ∈ p1, x.block < W.heap.size := by obtain ⟨m, hm⟩ := k1; exact DataW.trod_lt m _ _ _ hm
  obtain ⟨a1, cap1, as1, rfl, s1⟩ := arg_sl Tryd.underlying80 op_bytes (hval 1 80 v1 rfl rfl) h1
  clear hA0 hval0
  have EMAX := max_of hsh
  refine (walk a0 cap0 as0 a1 cap1 as1 W s0 s1 EMAX).mono fun e W' ⟨he, bel⟩ => ?_
  subst he
  exact ⟨_, rfl, _, _, _, [], _, [], hW', trodAll_mk1 (shut_bool Tryd.underlying4 _), (trodAll_cons_mk (Below.trod laidOut (by kernel_rfl) (of_decide_eq_true (by kernel_rfl)) k0 bel lt0) (trodAll_cons_mk (Below.trod laidOut (by kernel_rfl) (of_decide_eq_true (by kernel_rfl)) k1 bel lt1) trodAll_mk0)), rfl, bel.frame _, fun h => by cases h⟩

theorem said : Rows.FnTextsSaid :=
  OpenClaim.holds_of_cond 14 Tryd.f14 rfl rfl rfl rfl rfl rfl rfl ⟨rfl, rfl, rfl, rfl, rfl⟩ rfl rfl rfl rfl rfl (by kernel_rfl) Tryd.func14 (by kernel_rfl)
    (of_decide_eq_true (by kernel_rfl)) (by unfold Func.isWrapper; first | (rw [if_pos (by decide +kernel)]; kernel_rfl) | (rw [if_neg (by decide +kernel)]; exact ⟨rfl, rfl⟩))
    (fun os started H enc _ F => by rw [OpenClaim.pre_eq_preRow]; exact lifted os started H enc F)
theorem plain (f : FuncId) (fn : Func) (hf : Tryd.pinned.checked.prog.funcNamed "loop.example/g01105/laws.FnTexts" = some f) (hfn : Tryd.pinned.checked.prog.funcs[f]? = some fn) :
    true = Tryd.pinned.checked.prog.looks [] ∧ ∀ (j : Nat) t, fn.params[j]? = some t → Tryd.pinned.checked.prog.wantsStandIn t = false := by
  obtain rfl : f = 14 := Option.some.inj ((show Tryd.prog.funcNamed "loop.example/g01105/laws.FnTexts" = some 14 by kernel_rfl).symm.trans hf) |>.symm
  obtain rfl : fn = Tryd.f14 := (Option.some.inj (Tryd.func14.symm.trans hfn)).symm
  refine ⟨by kernel_rfl, fun j t ht => ?_⟩
  rw [Tryd.params14] at ht
  have hm : t ∈ [80, 80] := by simpa using Array.mem_of_getElem? ht
  have hall : ([80, 80].all fun u => !Tryd.prog.wantsStandIn u) = true := by kernel_rfl
  have hr : Tryd.prog.wantsStandIn t = false := by simpa using List.all_eq_true.1 hall t hm
  exact hr
theorem proved : Rows.FnTextsCardSaid :=
  Claim7.holds_tied_plain_at .later [] _ _ _ _ said (fun _ h => by cases h) (by kernel_rfl) (fun _ h => by cases h) fnTexts_row_tie rfl ⟨rfl, rfl⟩ (by kernel_rfl) rfl plain (by kernel_rfl)
#print axioms proved
end Go.Proofs.YtcbaohcgeoaccaaDoor.fnTexts
