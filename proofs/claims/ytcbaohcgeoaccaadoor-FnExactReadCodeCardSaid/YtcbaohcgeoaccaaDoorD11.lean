/- Contracts: a number read from its decimal numeral. -/
import Derived.Test.YtcbaohcgeoaccaaDoorD02
import Derived.Test.YtcbaohcgeoaccaaDoorReadT
import Derived.Test.YtcbaohcgeoaccaaDoorEnvE
import Derived.Test.YtcbaohcgeoaccaaDoorL01
namespace Go.Proofs.YtcbaohcgeoaccaaDoor
open Go.RowKit

theorem dval_take {s : ByteArray} {k : Nat} (h : k < s.size) : dval (s.data.toList.take (k + 1)) = dstep (dval (s.data.toList.take k)) s[k] := by
  rw [take_snoc s k h, dval_snoc]
set_option maxRecDepth 100000 in
theorem c_l01Value (s : ByteArray) (w : World) (hs : s.size ≤ 1099511627775) :
    Calls Tryd.prog 88 #[.string s] w fun e w' => e = .returned (.tuple #[.int .i64 (readF s.data.toList).1, .bool (readF s.data.toList).2]) ∧ Below w.heap.size w w' := by
  have hsz : s.data.toList.length = s.size := by simp
  by_cases hbig : s.size ≤ 11
  · obtain ⟨q, hq⟩ : ∃ q, readF s.data.toList = q := ⟨_, rfl⟩
    have HQ := hid hq
    obtain ⟨v, hv⟩ : ∃ v, valI s.data.toList = v := ⟨_, rfl⟩
    have HV := hid hv
    have hdl := dval_le s.data.toList
    have HF : Hid (readF s.data.toList = if inB v (-1000000000) 1000000000 = true ∧ Lib.itoa v = s.data.toList then (v, true) else (0, false)) := by
      unfold Hid readF; rw [hv]; simp [hbig]
    have HSZ := hid hsz
    clear hq hv hsz
    go_enter Tryd.func88, Tryd.ntmps88
    go_wp2
    go_loopw [4, 5] (fun n i wr => ∃ k : Nat, k ≤ s.size ∧ i = .int .i64 k ∧ n = .int .i64 (dval (s.data.toList.take k)) ∧ w = wr) (fun _ i _ => s.size - (intOf i).toNat)
    case atStart => exact ⟨0, Nat.zero_le _, rfl, by simp [dval], rfl⟩
    case round =>
      obtain ⟨k, hk, rfl, rfl, rfl⟩ := hrel
      by_cases hlt : k < s.size
      · have HT := hid (dval_take hlt)
        have hD : dval (s.data.toList.take k) < 100000000000 := by
          have h1 := dval_le (s.data.toList.take k)
          have h2 : (s.data.toList.take k).length ≤ 11 := by simp; omega
          have h3 : 10 ^ (s.data.toList.take k).length ≤ 10 ^ 11 := Nat.pow_le_pow_right (by decide) h2
          omega
        obtain ⟨D, hDE⟩ : ∃ D, dval (s.data.toList.take k) = D := ⟨_, rfl⟩
        rw [hDE] at hD HT
        rw [hDE]
        clear hDE
        by_cases hdg : 48 ≤ s[k].toNat ∧ s[k].toNat ≤ 57
        · have HE : Hid (dval (s.data.toList.take (k + 1)) = 10 * D + (s[k].toNat - 48)) := by
            unfold Hid; rw [HT.out]; unfold dstep isDig; rw [if_pos (by simp; exact hdg)]
          obtain ⟨g1, g2⟩ := hdg
          have g3 : (48 : Int) ≤ (s[k].toNat : Int) := by omega
          have g4 : (s[k].toNat : Int) ≤ 57 := by omega
          clear HT
          go_wp2
          go_roundw
          case rel => exact ⟨k + 1, by omega, by go_num, by rw [HE.out]; congr 1; omega, trivial⟩
          case measure => simp [intOf]; omega
        · have HE : Hid (dval (s.data.toList.take (k + 1)) = D) := by
            unfold Hid; rw [HT.out]; unfold dstep isDig; rw [if_neg (by simp; omega)]
          clear HT
          by_cases g1 : 48 ≤ s[k].toNat
          · have g2 : decide ((s[k].toNat : Int) ≤ 57) = false := decide_eq_false (by omega)
            have g3 : decide ((48 : Int) ≤ (s[k].toNat : Int)) = true := decide_eq_true (by omega)
            clear hdg
            go_wp2
            go_roundw
            case rel => exact ⟨k + 1, by omega, by go_num, by rw [HE.out], trivial⟩
            case measure => simp [intOf]; omega
          · have g3 : decide ((48 : Int) ≤ (s[k].toNat : Int)) = false := decide_eq_false (by omega)
            clear hdg
            go_wp2
            go_roundw
            case rel => exact ⟨k + 1, by omega, by go_num, by rw [HE.out], trivial⟩
            case measure => simp [intOf]; omega
      · have hke : s.data.toList.take k = s.data.toList := take_size s k (by omega)
        rw [hke]
        have hD : dval s.data.toList < 100000000000 := by
          have h1 := dval_le s.data.toList
          have h2 : s.data.toList.length ≤ 11 := by simp; omega
          have h3 : 10 ^ s.data.toList.length ≤ 10 ^ 11 := Nat.pow_le_pow_right (by decide) h2
          omega
        clear hke hdl
        obtain ⟨D, hDE⟩ : ∃ D, dval s.data.toList = D := ⟨_, rfl⟩
        have HDE := hid hDE
        rw [hDE] at hD
        rw [hDE]
        clear hDE
        have hfin : ∃ neg : Bool, v = (if neg then -(D : Int) else D) ∧ ((neg = true ∧ ∃ h : 0 < s.size, ((s[0].toNat : Int) == 45) = true) ∨ (neg = false ∧ (s.size = 0 ∨ ∃ h : 0 < s.size, ((s[0].toNat : Int) == 45) = false))) := by
          rcases Nat.eq_zero_or_pos s.size with h | h
          · have e : s.data.toList = [] := List.eq_nil_of_length_eq_zero (by rw [HSZ.out]; exact h)
            refine ⟨false, ?_, .inr ⟨rfl, .inl h⟩⟩
            rw [← HV.out, ← HDE.out]; unfold valI; rw [e]; simp
          · have hh : s.data.toList.head? = some s[0] := by
              rw [List.head?_eq_getElem?, List.getElem?_eq_getElem (by simpa using h)]; rfl
            by_cases h45 : s[0] = 45
            · exact ⟨true, by rw [← HV.out, ← HDE.out]; unfold valI; rw [hh, if_pos (by rw [h45])]; rfl, .inl ⟨rfl, h, by rw [h45]; rfl⟩⟩
            · exact ⟨false, by rw [← HV.out, ← HDE.out]; unfold valI; rw [hh, if_neg (by intro e; exact h45 (Option.some.inj e))]; rfl, .inr ⟨rfl, .inr ⟨h, beq_eq_false_iff_ne.2 fun e => h45 (UInt8.toNat_inj.1 (by simp; omega))⟩⟩⟩
        clear HDE HV
        have h1 : v = -(D : Int) ∨ v = (D : Int) := by obtain ⟨neg, h, _⟩ := hfin; cases neg <;> simp at h <;> omega
        have hI64 : -9223372036854775808 ≤ v ∧ v ≤ 9223372036854775807 := by omega
        clear h1
        obtain ⟨I, hI⟩ : ∃ I, inB v (-1000000000) 1000000000 = I := ⟨_, rfl⟩
        rw [hI] at HF
        have HI := hid hI
        have HFF : Hid (I = false → q = (0, false)) := by intro h; rw [← HQ.out, HF.out, h]; simp
        have hit : (Lib.itoa v).length ≤ 21 := Lib.itoa_length_le v hI64.1 hI64.2
        have HCD := hid fun w => c_l01Dec v w hI64.1 hI64.2
        obtain ⟨E, hE⟩ : ∃ E, (Lib.itoa v == s.toList) = E := ⟨_, rfl⟩
        have HFT : Hid (I = true → q = if E then (v, true) else (0, false)) := by
          intro h
          rw [← HQ.out, HF.out, h, ← hE, ByteArray.toList_eq]
          by_cases h2 : Lib.itoa v = s.data.toList
          · rw [if_pos ⟨rfl, h2⟩, if_pos (by rw [h2]; simp)]
          · rw [if_neg (fun h => h2 h.2), if_neg (by simpa using h2)]
        clear hI HF hI64
        obtain ⟨L, hL⟩ : ∃ L, Lib.itoa v = L := ⟨_, rfl⟩
        rw [hL] at hit hE HCD
        clear hL
        obtain ⟨neg, hv, hcase⟩ := hfin
        rcases hcase with ⟨rfl, h0, e0⟩ | ⟨rfl, h0 | ⟨h0, e0⟩⟩
        all_goals
          simp only [if_true, Bool.false_eq_true, if_false] at hv
          subst hv
          cases I
          · go_wp2_with (go_at_call 110; refine (c_l00In _ _ _ _).mono ?_; rintro e w' ⟨rfl, rfl⟩; rw [HI.out])
            go_ret2
            rw [HQ.out, HFF.out (by trivial)]
            exact ⟨rfl, Below.refl _ _⟩
          · cases E
            all_goals
              have HQ2 := hid (HFT.out (by trivial))
              go_wp2_with (first | (go_at_call 110; refine (c_l00In _ _ _ _).mono ?_; rintro e w' ⟨rfl, rfl⟩; rw [HI.out]) | (go_at_call 61; refine (HCD.out _).mono ?_; rintro e w2 ⟨rfl, hb2⟩; have HB2 := hid hb2; clear hb2; unfold strOf))
              go_ret2
              rw [HQ.out, HQ2.out]
              exact ⟨rfl, HB2.out⟩
  · have HF : Hid (readF s.data.toList = (0, false)) := by unfold Hid readF; rw [if_neg]; rintro ⟨h, _⟩; omega
    clear hsz
    go_enter Tryd.func88, Tryd.ntmps88
    go_wp2
    go_ret2
    rw [HF.out]
    exact ⟨rfl, Below.refl _ _⟩
theorem c_sReadDecimal (s : ByteArray) (w : World) (hs : s.size ≤ 1099511627775) :
    Calls Tryd.prog 42 #[.string s] w fun e w' => e = .returned (.tuple #[.int .i64 (readF s.data.toList).1, .bool (readF s.data.toList).2]) ∧ Below w.heap.size w w' := by
  have HC := hid (c_l01Value s w hs)
  generalize readF s.data.toList = q at *
  go_enter Tryd.func42, Tryd.ntmps42
  go_wp2_with (go_at_call 88; refine HC.out.mono ?_; rintro e w2 ⟨rfl, hb2⟩; have HB2 := hid hb2; clear hb2)
  go_ret2
  exact ⟨rfl, HB2.out⟩
def ParseEnd (s : List UInt8) (w : World) (e : Ending) (w' : World) : Prop :=
  Below w.heap.size w w' ∧ ((∃ v, Lib.parseIntB 64 s = .ok v ∧ e = .returned (.tuple #[.int .i64 v, .nilIface])) ∨ ((∀ v, Lib.parseIntB 64 s ≠ .ok v) ∧ ∃ n te pe, e = .returned (.tuple #[.int .i64 n, .iface te (.pointer pe)])))
theorem c_ParseInt {B : Nat} (s : ByteArray) (w : World) (hs : s.size ≤ 1099511627775) (hE : ErrE B w) :
    Calls Tryd.prog 89 #[.string s, .int .i64 10, .int .i64 64] w (ParseEnd s.data.toList w) := by
  obtain ⟨⟨t1, p1, h1⟩, ⟨t2, p2, h2⟩, hB⟩ := hE
  have h1 := h1 w (Below.refl _ _)
  have h2 := h2 w (Below.refl _ _)
  cases hp : Lib.parseIntB 64 s.data.toList with
  | ok v =>
    refine (Tryd.strconv_ParseInt_10_at64_ok s (by omega) v hp w).mono ?_
    rintro e w' ⟨rfl, rfl | ⟨t, rfl⟩⟩
    · exact ⟨Below.refl _ _, .inl ⟨v, hp, rfl⟩⟩
    · exact ⟨Lib.bytesWorld_below _ _ _, .inl ⟨v, hp, rfl⟩⟩
  | «syntax» =>
    refine (Tryd.strconv_ParseInt_10_at64_syntax_var s (by omega) hp t2 p2 w h2).mono ?_
    rintro e w' ⟨N, rfl, _, _, hb⟩
    exact ⟨hb, .inr ⟨fun v h => (by rw [hp] at h; cases h), _, _, _, rfl⟩⟩
  | range =>
    refine (Tryd.strconv_ParseInt_10_at64_range_var s (by omega) hp t1 p1 w h1).mono ?_
    rintro e w' ⟨N, rfl, _, _, hb⟩
    exact ⟨hb, .inr ⟨fun v h => (by rw [hp] at h; cases h), _, _, _, rfl⟩⟩
set_option maxRecDepth 100000 in
theorem c_ReadDecimal {B : Nat} (s : ByteArray) (w : World) (hs : s.size ≤ 1099511627775) (hT : TabE B w) (hE : ErrE B w) :
    Calls Tryd.prog 43 #[.string s] w fun e w' => e = .returned (.tuple #[.int .i64 (readF s.data.toList).1, .bool (readF s.data.toList).2]) ∧ Below w.heap.size w w' := by
  have HC := hid (c_ParseInt s w hs hE)
  have HT := hid hT
  clear hT hE
  go_enter Tryd.func43, Tryd.ntmps43
  go_wp2_with fail
  refine HC.out.mono ?_
  rintro e w1 ⟨hb1, ⟨v, hp, rfl⟩ | ⟨hp, n, te, pe, rfl⟩⟩
  · have hr := readF_ok hp
    have hv := Lib.parseIntB_bounds hp
    have HB1 := hid hb1
    have HT1 := hid (HT.out.on hb1)
    obtain ⟨I, hI⟩ : ∃ I, inB v (-1000000000) 1000000000 = I := ⟨_, rfl⟩
    rw [hI] at hr
    have HI := hid hI
    obtain ⟨q, hq⟩ : ∃ q, readF s.data.toList = q := ⟨_, rfl⟩
    have HQ := hid hq
    have h1 : -9223372036854775808 ≤ v := by simp at hv; omega
    have h2 : v ≤ 9223372036854775807 := by simp at hv; omega
    have hit : (Lib.itoa v).length ≤ 21 := Lib.itoa_length_le v h1 h2
    have HCD := hid (c_Decimal v w1 h1 h2 HT1.out)
    obtain ⟨E, hE⟩ : ∃ E, (Lib.itoa v == s.toList) = E := ⟨_, rfl⟩
    have HFF : Hid (I = false → q = (0, false)) := by intro h; rw [← hq, hr, h]; simp
    have HFT : Hid (I = true → q = if E then (v, true) else (0, false)) := by
      intro h
      rw [← hq, hr, h, ← hE, ByteArray.toList_eq]
      by_cases h2 : Lib.itoa v = s.data.toList
      · rw [if_pos ⟨rfl, h2⟩, if_pos (by rw [h2]; simp)]
      · rw [if_neg (fun h => h2 h.2), if_neg (by simpa using h2)]
    clear hp hr hv hb1 hI hq
    obtain ⟨L, hL⟩ : ∃ L, Lib.itoa v = L := ⟨_, rfl⟩
    rw [hL] at hit hE HCD
    clear hL
    cases I
    · go_wp2_with (go_at_call 90; refine (c_within _ _ _ _).mono ?_; rintro e w' ⟨rfl, rfl⟩; rw [HI.out])
      go_ret2
      rw [HQ.out, HFF.out (by trivial)]
      exact ⟨rfl, HB1.out⟩
    · cases E
      all_goals
        have HQ2 := hid (HFT.out (by trivial))
        go_wp2_with (first | (go_at_call 90; refine (c_within _ _ _ _).mono ?_; rintro e w' ⟨rfl, rfl⟩; rw [HI.out]) | (go_at_call 16; refine HCD.out.mono ?_; rintro e w2 ⟨rfl, hb2⟩; have HB2 := hid (bel_next HB1.out HB1.out.size hb2); clear hb2; unfold strOf))
        go_ret2
        rw [HQ.out, HQ2.out]
        exact ⟨rfl, HB2.out⟩
  · have HF := hid (readF_no hp)
    have HB1 := hid hb1
    clear hp hb1
    go_wp2
    go_ret2
    rw [HF.out]
    exact ⟨rfl, HB1.out⟩
end Go.Proofs.YtcbaohcgeoaccaaDoor
