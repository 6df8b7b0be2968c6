/- For every two strings of bytes the law FnDivisors returns true: the greatest common divisor that the program finds divides the numbers drawn from the first, their quotients have no common divisor, and a quotient rounded down is the greatest one that is not too great. No condition. -/
import Derived.Test.YtmpanchappoejaaRows
import Derived.Test.YtmpanchappoejaaOpn
import Derived.Test.YtmpanchappoejaaL00
import Derived.Test.YtmpanchappoejaaL01d
import Derived.Test.YtmpanchappoejaaL01lq
import Derived.ProofKit
import Derived.OpenShut
import Derived.ChangeOld
namespace Go.Proofs.Ytmpanchappoejaa.fnDivisors
open Go.ChangeShapes Go.WideShapes Go.ChangeAt Go.RowKit
open Go.ChangeMaps (open_string shut_string)
set_option linter.unusedVariables false

theorem anyK {zs : List Int} {k : Nat} {z : Int} (h : zs[k]? = some z) : (zs.take (k + 1)).any (fun x => x != 0) = ((zs.take k).any (fun x => x != 0) || (z != 0)) := by
  rw [List.take_add_one, h, List.any_append]; simp
theorem codedL_of {zs : List Int} (hl : zs.length ≤ 100) (h : ∀ z ∈ zs, Small z) : codedL zs = true := by
  simp only [codedL, Bool.and_eq_true, decide_eq_true_eq, allIn, List.all_eq_true]
  exact ⟨hl, fun z hz => inB_iff.2 (h z hz)⟩
theorem quo_small {z : Int} {d : Nat} (h : Small z) (hd : 1 ≤ d) : Small (z.tdiv d) := tdiv_bd z d h.1 h.2 (by omega)
theorem q_lo {z q b : Int} (hz : Small z) (hb : 1 ≤ b) (h : z - q * b < b) : -1000000000000000 ≤ q := by
  by_cases h1 : q < -1000000000000000
  · have h2 : q * b ≤ (-1000000000000001) * b := Int.mul_le_mul_of_nonneg_right (by omega) (by omega)
    have := hz.1
    omega
  · omega
set_option maxHeartbeats 4000000 in
set_option maxRecDepth 100000 in
theorem walk (a0 : Option Addr) (p0 : Nat) (bs : List Int) (a1 : Option Addr) (p1 : Nat) (cs : List Int) (w : World) (h0 : SlRd cU8 (fun _ => True) w a0 p0 bs) (h1 : SlRd cU8 (fun _ => True) w a1 p1 cs) :
    Calls Try.prog 3 #[.slice a0 bs.length p0, .slice a1 cs.length p1] w fun e w' => e = .returned (.bool true) ∧ Below w.heap.size w w' := by
  have hl0 := h0.len_le
  have hl1 := h1.len_le
  have H0 := hid (h0.keep (S' := fun b => b < w.heap.size) (w' := w) fun b _ hl => ⟨hl, rfl⟩)
  have H1 := hid h1
  clear h0 h1
  obtain ⟨lg, hlg⟩ : ∃ lg, (decide (48 < bs.length) || decide (48 < cs.length)) = lg := ⟨_, rfl⟩
  have HLG := hid hlg
  cases lg
  · clear hlg
    go_enter Try.func3, Try.ntmps3
    go_wp2_with fail
    refine (c_r8Long _ _ _ _ _ _ _ hl0 hl1).mono ?_
    rintro e w' ⟨rfl, rfl⟩
    rw [HLG.out]
    go_wp2_with fail
    refine (c_R8List H0.out).mono ?_
    rintro e w1 ⟨zs, a, p, rfl, hzl, hzs, hr, hb⟩
    have hzs' : ∀ z ∈ zs, Small z := hzs
    have HZ := hid hzs'
    have HR := hid hr
    have HB := hid hb
    have HCZ := hid (codedL_of (by omega) hzs')
    obtain ⟨D, hD⟩ : ∃ D, gcdL zs = D := ⟨_, rfl⟩
    have hDl : D ≤ 1000000000000000 := by rw [← hD]; exact gcdL_le zs 0 (by omega) hzs'
    have HD := hid hD
    have HG : Hid (gcdF zs = ((D : Int), true)) := by unfold Hid gcdF; rw [if_pos HCZ.out, hD]
    clear hr hb hzs hzs' hD
    go_wp2_with fail
    refine (c_GcdOf _ _ _ _ HR.out).mono ?_
    rintro e w2 ⟨rfl, hb⟩
    rw [HG.out]
    have HR2 := hid (HR.out.below (Nat.le_refl _) hb)
    have HB2 := hid (bel_next HB.out HB.out.size hb)
    clear hb
    simp only
    go_wp2
    go_loopw [8, 9] (fun an i wr => ∃ k : Nat, k ≤ zs.length ∧ i = .int .i64 k ∧ an = .bool ((zs.take k).any (fun x => x != 0)) ∧ Hid (SlRd cInt (Fresh w.heap.size w1) wr a p zs) ∧ Hid (SlRd cU8 (fun _ => True) wr a1 p1 cs) ∧ Below w.heap.size w wr) (fun _ i _ => zs.length - (intOf i).toNat)
    case atStart => exact ⟨0, Nat.zero_le _, rfl, by simp, HR2, H1.out.below (Nat.le_refl _) HB2.out, HB2.out⟩
    case round =>
      obtain ⟨k, hk, rfl, rfl, HRr, HMr, hbe⟩ := hrel
      have hsz := hbe.size
      by_cases hlt : k < zs.length
      · obtain ⟨b, off, rfl⟩ := HRr.out.some_of hlt
        obtain ⟨z, hz, hz2, hc, hbl⟩ := HRr.out.int_at k hlt
        have hzm := List.mem_of_getElem? hz
        have hzs := HZ.out z hzm
        have HAK := hid (anyK hz)
        obtain ⟨s1, s2⟩ := hzs
        have i0 : (0 : Int) ≤ (k : Int) := by omega
        have i1 : (k : Int) < (zs.length : Int) := by omega
        obtain ⟨an, han⟩ : ∃ an, (zs.take k).any (fun x => x != 0) = an := ⟨_, rfl⟩
        have HAN := hid han
        rw [han]
        have HMr2 := HMr
        have hzeq : (D = 0 → z = 0) ∧ z.tmod D = 0 := by
          have hD := HD.out
          subst hD
          exact ⟨fun h => gcdL_zero.1 h z hzm, tmod_gcd hzm⟩
        obtain ⟨hz0, hzm0⟩ := hzeq
        have HDV := hid (divFl_props z)
        clear hz han hzm
        by_cases hD0 : D = 0
        · have hzz := hz0 hD0
          subst hzz
          have e0 : ((D : Int) == 0) = true := by simp [hD0]
          have e2 : decide ((0 : Int) < (D : Int)) = false := by simp; omega
          have e2n : decide (0 < D) = false := by simp; omega
          have e4 : ((0 : Int) != 0) = false := rfl
          clear hz0 hzm0 hD0
          cases an
          all_goals
            skip
            go_wp2_with (first | (go_at_call 17; refine (c_r8At _ _ _ _ _ HMr.out).mono ?_; rintro e w' ⟨v, rfl, hv0, hv1, rfl⟩; have hb1 : 1 ≤ 1 + v := (by omega); have hb20 : 1 + v ≤ 20 := (by omega)) | (go_at_call 18; generalize 1 + v = B at *; clear hv0 hv1; obtain ⟨q1, q2, q3, q4⟩ := HDV.out B ⟨s1, s2⟩ hb1 hb20; have q5 := q_lo ⟨s1, s2⟩ hb1 q2; have HDF : Hid (divFloorF 0 B = (divFl 0 B, true)) := (by unfold Hid divFloorF; rw [if_pos]; simp only [Bool.and_eq_true, inB_iff]; omega); refine (c_DivFloor _ _ _).mono ?_; rintro e w' ⟨rfl, rfl⟩; rw [HDF.out]; simp only; clear HDF HDV; generalize divFl 0 B = q at *; generalize hqb : q * B = QB at *; have hwq : IntKind.i64.wrap (q * B) = QB := (by rw [hqb]; exact wrap_in _ (by omega) (by omega)); clear hqb))
            go_roundw
            case rel => exact ⟨k + 1, by omega, by go_num, by rw [HAK.out, HAN.out]; rfl, HRr, HMr2, hbe⟩
            case measure => simp [intOf]; omega
        · have hD1 : (1 : Int) ≤ (D : Int) := by omega
          have e1 : ((D : Int) == 0) = false := by simp; omega
          have e2 : decide ((0 : Int) < (D : Int)) = true := by simp; omega
          have e3 : (z.tmod (D : Int) != 0) = false := by rw [hzm0]; rfl
          cases an
          · by_cases hzn : z = 0
            · have e4 : (z != 0) = false := by simp [hzn]
              clear hz0 hzm0 hzn
              go_wp2_with (first | (go_at_call 17; refine (c_r8At _ _ _ _ _ HMr.out).mono ?_; rintro e w' ⟨v, rfl, hv0, hv1, rfl⟩; have hb1 : 1 ≤ 1 + v := (by omega); have hb20 : 1 + v ≤ 20 := (by omega)) | (go_at_call 18; generalize 1 + v = B at *; clear hv0 hv1; obtain ⟨q1, q2, q3, q4⟩ := HDV.out B ⟨s1, s2⟩ hb1 hb20; have q5 := q_lo ⟨s1, s2⟩ hb1 q2; have HDF : Hid (divFloorF z B = (divFl z B, true)) := (by unfold Hid divFloorF; rw [if_pos]; simp only [Bool.and_eq_true, inB_iff]; omega); refine (c_DivFloor _ _ _).mono ?_; rintro e w' ⟨rfl, rfl⟩; rw [HDF.out]; simp only; clear HDF HDV; generalize divFl z B = q at *; generalize hqb : q * B = QB at *; have hwq : IntKind.i64.wrap (q * B) = QB := (by rw [hqb]; exact wrap_in _ (by omega) (by omega)); clear hqb))
              go_roundw
              case rel => exact ⟨k + 1, by omega, by go_num, by rw [HAK.out, HAN.out]; simp [e4], HRr, HMr2, hbe⟩
              case measure => simp [intOf]; omega
            · have e4 : (z != 0) = true := by simp [hzn]
              clear hz0 hzm0 hzn
              go_wp2_with (first | (go_at_call 17; refine (c_r8At _ _ _ _ _ HMr.out).mono ?_; rintro e w' ⟨v, rfl, hv0, hv1, rfl⟩; have hb1 : 1 ≤ 1 + v := (by omega); have hb20 : 1 + v ≤ 20 := (by omega)) | (go_at_call 18; generalize 1 + v = B at *; clear hv0 hv1; obtain ⟨q1, q2, q3, q4⟩ := HDV.out B ⟨s1, s2⟩ hb1 hb20; have q5 := q_lo ⟨s1, s2⟩ hb1 q2; have HDF : Hid (divFloorF z B = (divFl z B, true)) := (by unfold Hid divFloorF; rw [if_pos]; simp only [Bool.and_eq_true, inB_iff]; omega); refine (c_DivFloor _ _ _).mono ?_; rintro e w' ⟨rfl, rfl⟩; rw [HDF.out]; simp only; clear HDF HDV; generalize divFl z B = q at *; generalize hqb : q * B = QB at *; have hwq : IntKind.i64.wrap (q * B) = QB := (by rw [hqb]; exact wrap_in _ (by omega) (by omega)); clear hqb))
              go_roundw
              case rel => exact ⟨k + 1, by omega, by go_num, by rw [HAK.out, HAN.out]; simp [e4], HRr, HMr2, hbe⟩
              case measure => simp [intOf]; omega
          · clear hz0 hzm0
            go_wp2_with (first | (go_at_call 17; refine (c_r8At _ _ _ _ _ HMr.out).mono ?_; rintro e w' ⟨v, rfl, hv0, hv1, rfl⟩; have hb1 : 1 ≤ 1 + v := (by omega); have hb20 : 1 + v ≤ 20 := (by omega)) | (go_at_call 18; generalize 1 + v = B at *; clear hv0 hv1; obtain ⟨q1, q2, q3, q4⟩ := HDV.out B ⟨s1, s2⟩ hb1 hb20; have q5 := q_lo ⟨s1, s2⟩ hb1 q2; have HDF : Hid (divFloorF z B = (divFl z B, true)) := (by unfold Hid divFloorF; rw [if_pos]; simp only [Bool.and_eq_true, inB_iff]; omega); refine (c_DivFloor _ _ _).mono ?_; rintro e w' ⟨rfl, rfl⟩; rw [HDF.out]; simp only; clear HDF HDV; generalize divFl z B = q at *; generalize hqb : q * B = QB at *; have hwq : IntKind.i64.wrap (q * B) = QB := (by rw [hqb]; exact wrap_in _ (by omega) (by omega)); clear hqb))
            go_roundw
            case rel => exact ⟨k + 1, by omega, by go_num, by rw [HAK.out, HAN.out]; simp, HRr, HMr2, hbe⟩
            case measure => simp [intOf]; omega
      · have hke : k = zs.length := by omega
        subst hke
        have HANY : Hid ((zs.take zs.length).any (fun x => x != 0) = decide (0 < D)) := by
          have hD := HD.out
          unfold Hid
          rw [List.take_length, Bool.eq_iff_iff, List.any_eq_true, decide_eq_true_eq]
          constructor
          · rintro ⟨x, hx, hx0⟩
            rcases Nat.eq_zero_or_pos D with h | h
            · have := gcdL_zero.1 (hD.trans h) x hx
              simp [this] at hx0
            · exact h
          · intro h
            rcases Classical.em (∃ x, x ∈ zs ∧ (x != 0) = true) with h9 | h9
            · exact h9
            · exfalso
              have : gcdL zs = 0 := gcdL_zero.2 fun x hx => by
                rcases Classical.em (x = 0) with h7 | h7
                · exact h7
                · exact absurd ⟨x, hx, by simp [h7]⟩ h9
              omega
        have HE : Hid (SlRd cInt (Fresh w.heap.size w1) wr a p zs) := HRr
        by_cases hD0 : D = 0
        · have e2 : decide ((0 : Int) < (D : Int)) = false := by simp; omega
          have e2n : decide (0 < D) = false := by simp; omega
          have e0 : ((D : Int) == 0) = true := by simp [hD0]
          have HA0 : Hid ((zs.take zs.length).any (fun x => x != 0) = false) := by unfold Hid; rw [HANY.out]; simp; omega
          have HG0 : Hid (gcdF [] = (0, true)) := by unfold Hid; rfl
          clear hD0
          rw [HA0.out]
          go_wp2
          go_loopw [13, 14] (fun v i wr2 => i = .int .i64 0 ∧ ∃ g, v = .slice (some ⟨g, 0, none⟩) 0 0 ∧ Below w.heap.size w wr2) (fun _ _ _ => 0)
          case atStart => exact ⟨rfl, _, rfl, hbe.alloc hsz _⟩
          case round =>
            obtain ⟨rfl, g, rfl, hbe2⟩ := hrel
            have hsz2 := hbe2.size
            go_wp2_with (go_at_call 16; refine (c_GcdOf _ _ [] _ (empty_rd cInt (fun _ => True) _ _)).mono ?_; rintro e w3 ⟨rfl, hb3⟩; rw [HG0.out]; simp only)
            all_goals
              go_ret
              exact ⟨rfl, bel_next hbe2 hsz2 hb3⟩
        · have hD1 : (1 : Int) ≤ (D : Int) := by omega
          have e1 : ((D : Int) == 0) = false := by simp; omega
          have e2 : decide ((0 : Int) < (D : Int)) = true := by simp; omega
          have e2n : decide (0 < D) = true := by simp; omega
          have HA1 : Hid ((zs.take zs.length).any (fun x => x != 0) = true) := by unfold Hid; rw [HANY.out]; simp; omega
          have HG1 : Hid (gcdF (zs.map fun z => z.tdiv (D : Int)) = (1, true)) := by
            have hD := HD.out
            unfold Hid gcdF
            rw [if_pos (codedL_of (by simp; omega) (fun y hy => by
              obtain ⟨x, hx, rfl⟩ := List.mem_map.1 hy
              exact quo_small (HZ.out x hx) (by omega)))]
            rw [← hD, gcdL_quot (by omega)]
            rfl
          rw [HA1.out]
          go_wp2
          obtain ⟨wo, rfl⟩ : ∃ wo : World, wo = wr := ⟨_, rfl⟩
          go_loopw [13, 14] (fun v i wr2 => ∃ k : Nat, k ≤ zs.length ∧ i = .int .i64 k ∧ Hid (OwnSl cInt (fun _ => False) wr2 wo.heap.size 2 v ((zs.take k).map fun z => z.tdiv (D : Int))) ∧ Below wo.heap.size wo wr2) (fun _ i _ => zs.length - (intOf i).toNat)
          case atStart => exact ⟨0, Nat.zero_le _, rfl, own_made _ _ _ _ _ (Nat.le_refl _), (Below.refl _ _).alloc (Nat.le_refl _) _⟩
          case round =>
            obtain ⟨k, hk, rfl, HO, hbe2⟩ := hrel
            have hsz2 := hbe2.size
            have HZ2 := hid (HE.out.below (Nat.le_refl _) hbe2)
            by_cases hlt2 : k < zs.length
            · obtain ⟨b, off, rfl⟩ := HZ2.out.some_of hlt2
              obtain ⟨z, hz, hz2, hc, hbl⟩ := HZ2.out.int_at k hlt2
              obtain ⟨s1, s2⟩ := HZ.out z (List.mem_of_getElem? hz)
              have HTK : Hid ((zs.take (k + 1)).map (fun z => z.tdiv (D : Int)) = (zs.take k).map (fun z => z.tdiv (D : Int)) ++ [z.tdiv (D : Int)]) := by unfold Hid; rw [List.take_add_one, hz]; simp
              obtain ⟨t1, t2⟩ := tdiv_bd z D s1 s2 hD1
              have i0 : (0 : Int) ≤ (k : Int) := by omega
              have i1 : (k : Int) < (zs.length : Int) := by omega
              have i2 : decide ((k : Int) < (zs.length : Int)) = true := by simp; omega
              clear hz
              go_wp2_with (at_builtin; refine app_own (C := cInt) rfl (.tmp 129) (.tmp 136) _ rfl slI64 rfl rfl HO.out no_blk (z.tdiv (D : Int)) (rd_int ⟨by omega, by omega⟩) (by simp; omega) hsz2 ?_; intro v3 w3 hO3 hb3; have HO3 := hid hO3; clear hO3)
              go_roundw
              case rel => exact ⟨k + 1, by omega, by go_num, by rw [HTK.out]; exact HO3, hbe2.trans hb3⟩
              case measure => simp [intOf]; omega
            · have hke2 : k = zs.length := by omega
              have i2 : decide ((k : Int) < (zs.length : Int)) = false := by simp; omega
              have hO := HO.out
              rw [hke2, List.take_length] at hO
              have hG1 := HG1.out
              generalize zs.map (fun z => z.tdiv (D : Int)) = ls at hO hG1
              have HG2 := hid hG1
              clear hG1
              obtain ⟨a3, p3, rfl, hs3⟩ := own_rd (own_keep (S' := Fresh wo.heap.size wr) hO (fun _ h => h.elim) fun _ _ _ => rfl) (Nat.le_refl _)
              have HS3 := hid hs3
              clear hs3 hO hke2
              go_wp2_with (go_at_call 16; refine (c_GcdOf _ _ ls _ HS3.out).mono ?_; rintro e w3 ⟨rfl, hb3⟩; rw [HG2.out]; simp only)
              go_ret
              exact ⟨rfl, hbe.trans ((hbe2.trans (hb3.mono hsz2)).mono hsz)⟩
  · clear hlg
    go_enter Try.func3, Try.ntmps3
    go_wp2_with (go_at_call 14; refine (c_r8Long _ _ _ _ _ _ _ hl0 hl1).mono ?_; rintro e w' ⟨rfl, rfl⟩; rw [HLG.out])
    go_ret
    exact ⟨rfl, Below.refl _ _⟩

theorem own : ownKnob Try.prog.godebug = none := by kernel_rfl
theorem laidOut : laidOutB Try.prog = true := by kernel_rfl
set_option maxRecDepth 100000 in
theorem lifted (os : Os) (started : os.Started) (H : Type) (enc : TypeId × Value → H) :
    ReturnsInHanded {} Try.checked os 3 .any (Rows.fnDivisorsSpec.pre6 enc Try.prog Try.f3 Rows.fnDivisorsRow.domain false) (Rows.fnDivisorsSpec.post enc Try.prog Try.f3 false true false false) := by
  refine returnsInHanded_of_change (C := Try.checked) own started (by kernel_rfl) Try.func3
    (ChangeSpec.witness6 (enc := enc) (C := Try.checked) false ⟨#[], #[.slice none 0 0, .slice none 0 0], []⟩ 8 (by kernel_rfl) (by kernel_rfl) (by kernel_rfl) (by kernel_rfl)) ?_
  intro W base args ds gs before hval0 hW hcnd _
  have hval : ∀ (j : Nat) t v, Try.f3.params[j]? = some t → args[j]? = some v → Value.okWide Try.prog W .any base t v := hval0
  have hW' := hW
  obtain ⟨p, q, hA0, hV, rfl, hfz, hnd⟩ := hW
  have hA : DataW.TrodAll enc Try.prog W 0 (fun _ => true) true Try.f3.params.toList args.toList ds p := hA0
  rw [Try.params3] at hA hval
  obtain ⟨v0, vs0, d0, ds0, p0, q0, hargs, rfl, rfl, h0, r0⟩ := trodAll_cons hA
  obtain ⟨v1, vs1, d1, ds1, p1, q1, hargs1, rfl, rfl, h1, r1⟩ := trodAll_cons r0
  obtain ⟨rfl, rfl, rfl⟩ := trodAll_nil r1
  subst hargs1
  obtain rfl : args = #[v0, v1] := by cases args; simp_all
  obtain ⟨rfl, rfl⟩ := trodVars_none hV
  have k0 := h0
  have lt0 : ∀ x ∈ p0, x.block < W.heap.size := by obtain ⟨m, hm⟩ := k0; exact DataW.trod_lt m _ _ _ hm
  obtain ⟨a0, cap0, as0, rfl, s0⟩ := arg_sl Try.underlying22 op_bytes (hval 0 22 v0 rfl rfl) h0
  have k1 := h1
  have lt1 : ∀ x ∈ p1, x.block < W.heap.size := by obtain ⟨m, hm⟩ := k1; exact DataW.trod_lt m _ _ _ hm
  obtain ⟨a1, cap1, as1, rfl, s1⟩ := arg_sl Try.underlying22 op_bytes (hval 1 22 v1 rfl rfl) h1
  clear hA0 hval0
  refine (walk a0 cap0 as0 a1 cap1 as1 W s0 s1).mono fun e W' ⟨he, bel⟩ => ?_
  subst he
  exact ⟨_, rfl, _, _, _, [], _, [], hW', trodAll_mk1 (shut_bool Try.underlying4 _), (trodAll_cons_mk (Below.trod laidOut (by kernel_rfl) (of_decide_eq_true (by kernel_rfl)) k0 bel lt0) (trodAll_cons_mk (Below.trod laidOut (by kernel_rfl) (of_decide_eq_true (by kernel_rfl)) k1 bel lt1) trodAll_mk0)), rfl, bel.frame _, fun h => by cases h⟩

theorem over : Rows.fnDivisorsRow.holds Try.pinned (OpenSpec.ofChange Rows.fnDivisorsSpec) :=
  OpenClaim.holds_of_wide 3 Try.f3 rfl rfl rfl rfl rfl rfl rfl ⟨rfl, rfl, rfl, rfl, rfl⟩ rfl rfl rfl rfl rfl (by kernel_rfl) Try.func3 (by kernel_rfl)
    (of_decide_eq_true (by kernel_rfl)) (by unfold Func.isWrapper; first | (rw [if_pos (by decide +kernel)]; kernel_rfl) | (rw [if_neg (by decide +kernel)]; exact ⟨rfl, rfl⟩))
    (fun os started H enc _ => lifted os started H enc)

theorem proved : Rows.FnDivisorsSaid := over
#print axioms proved
end Go.Proofs.Ytmpanchappoejaa.fnDivisors
