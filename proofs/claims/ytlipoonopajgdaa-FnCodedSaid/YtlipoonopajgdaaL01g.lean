/- Contracts: codes of lists, and lists and texts read back. -/
import Derived.Test.YtlipoonopajgdaaL01f
import Derived.Test.YtlipoonopajgdaaHlp
namespace Go.Proofs.Ytlipoonopajgdaa
open Go.RowKit

def putLs (zs : List Int) : List UInt8 := putN zs.length ++ zs.flatMap putN
def putLF (zs : List Int) : List UInt8 × Bool := if codedL zs then (putLs zs, true) else ([], false)
theorem flat_take {zs : List Int} {k : Nat} {z : Int} (h : zs[k]? = some z) : (zs.take (k + 1)).flatMap putN = (zs.take k).flatMap putN ++ putN z := by
  rw [List.take_add_one, h]; simp
theorem flat_len {zs : List Int} (h : ∀ z ∈ zs, Small z) : (zs.flatMap putN).length ≤ 8 * zs.length := by
  induction zs with
  | nil => simp
  | cons z zs ih =>
    have h1 := h z (by simp)
    have h2 := putN_len z h1.1 h1.2
    have h3 := ih fun x hx => h x (by simp [hx])
    simp only [List.flatMap_cons, List.length_append, List.length_cons]; omega
theorem str_app (a b : List UInt8) : (⟨a.toArray⟩ ++ ⟨b.toArray⟩ : ByteArray) = ⟨(a ++ b).toArray⟩ := by ext1; simp

set_option maxRecDepth 100000 in
theorem c_PutList {S : Nat → Prop} (a : Option Addr) (cap : Nat) (zs : List Int) (w : World) (h : SlRd cInt S w a cap zs) :
    Calls Try.prog 18 #[.slice a zs.length cap] w fun e w' => e = .returned (.tuple #[strOf (putLF zs).1, .bool (putLF zs).2]) ∧ Below w.heap.size w w' := by
  have hl := h.len_le
  have H := hid h
  clear h
  by_cases h1 : zs.length ≤ 100
  · by_cases h2 : allIn zs (-1000000000000000) 1000000000000000 = true
    · have HF : Hid (putLF zs = (putLs zs, true)) := by unfold Hid; simp [putLF, codedL, h1, h2]
      have HZS : Hid (∀ z ∈ zs, Small z) := small_of h2
      have hpl := putN_len (zs.length : Int) (by omega) (by omega)
      go_enter Try.func18, Try.ntmps18
      go_wp2_with (first | (go_at_call 78; refine (c_allWithin _ _ _ _ _ _ H.out).mono ?_; rintro e w' ⟨rfl, rfl⟩) | (go_at_call 80; refine (c_size _ _).mono ?_; rintro e w' ⟨rfl, rfl⟩) | (go_at_call 79; refine (c_putNumber _ _ (by omega) (by omega)).mono ?_; rintro e w1 ⟨rfl, hb1⟩; have HB1 := hid hb1; clear hb1))
      go_loopw [4, 21] (fun v i wr => ∃ k : Nat, k ≤ zs.length ∧ i = .int .i64 k ∧ v = strOf (putN zs.length ++ (zs.take k).flatMap putN) ∧ Below w.heap.size w wr) (fun _ i _ => zs.length - (intOf i).toNat)
      case atStart => exact ⟨0, Nat.zero_le _, rfl, by simp, HB1.out⟩
      case round =>
        obtain ⟨k, hk, rfl, rfl, hbe⟩ := hrel
        have hsz := hbe.size
        by_cases hlt : k < zs.length
        · obtain ⟨b, off, rfl⟩ := H.out.some_of hlt
          obtain ⟨z, hzk, hz2, hcz, hb⟩ := (H.out.below (Nat.le_refl _) hbe).int_at k hlt
          have hs := HZS.out z (List.mem_of_getElem? hzk)
          obtain ⟨hs1, hs2⟩ := hs
          have hfl := flat_len (zs := zs.take k) fun x hx => HZS.out x (List.mem_of_mem_take hx)
          have hpz := putN_len z hs1 hs2
          have HS := hid (flat_take hzk)
          have hll : (putN (zs.length : Int) ++ (zs.take k).flatMap putN).length ≤ 1000 := by
            have h3 : (zs.take k).length ≤ 100 := by simp; omega
            rw [List.length_append]; omega
          obtain ⟨acc, hacc⟩ : ∃ acc, putN (zs.length : Int) ++ (zs.take k).flatMap putN = acc := ⟨_, rfl⟩
          rw [hacc] at hll ⊢
          have HACC := hid hacc
          clear hzk hfl hacc
          unfold strOf
          go_wp2_with (go_at_call 79; refine (c_putNumber _ _ hs1 hs2).mono ?_; rintro e w2 ⟨rfl, hb2⟩; have HB2 := hid (bel_next hbe hsz hb2); clear hb2; unfold strOf)
          go_roundw
          case rel => exact ⟨k + 1, by omega, by go_num, by rw [str_app, ← HACC.out, HS.out, List.append_assoc], HB2.out⟩
          case measure => simp [intOf]; omega
        · go_wp2
          go_ret2
          exact ⟨by rw [HF.out, List.take_of_length_le (by omega)]; rfl, hbe⟩
    · have HF : Hid (putLF zs = ([], false)) := by unfold Hid; simp [putLF, codedL, h2]
      have h2' : allIn zs (-1000000000000000) 1000000000000000 = false := by simpa using h2
      go_enter Try.func18, Try.ntmps18
      go_wp2_with (go_at_call 78; refine (c_allWithin _ _ _ _ _ _ H.out).mono ?_; rintro e w' ⟨rfl, rfl⟩)
      go_ret2
      exact ⟨by rw [HF.out]; rfl, Below.refl _ _⟩
  · have HF : Hid (putLF zs = ([], false)) := by unfold Hid; simp [putLF, codedL, h1]
    go_enter Try.func18, Try.ntmps18
    go_wp2
    go_ret2
    exact ⟨by rw [HF.out]; rfl, Below.refl _ _⟩
def getTF (l : List UInt8) (at_ : Int) : List UInt8 × Int × Bool :=
  if (getNumF l at_).2.2 && inB (getNumF l at_).1 0 40000 && decide ((getNumF l at_).1 ≤ (l.length : Int) - (getNumF l at_).2.1) then
    ((l.drop (getNumF l at_).2.1.toNat).take (getNumF l at_).1.toNat, (getNumF l at_).2.1 + (getNumF l at_).1, true)
  else ([], 0, false)
theorem getF_le {l : List UInt8} {n : Int} {c : Nat} (h : getF l = some (n, c)) : c ≤ l.length ∧ -1000000000000000 ≤ n ∧ n ≤ 1000000000000000 := by
  unfold getF at h
  simp only at h
  split at h
  · split at h
    · rename_i x hx
      split at h
      · rename_i hb
        simp only [Bool.and_eq_true] at hb
        have := inB_iff.1 hb.1
        simp only [Option.some.injEq, Prod.mk.injEq] at h
        obtain ⟨rfl, rfl⟩ := h
        exact ⟨(List.getElem?_eq_some_iff.1 hx).1, this⟩
      · cases h
    · cases h
  · cases h
theorem getNumF_le {l : List UInt8} {at_ n m : Int} {b : Bool} (h : getNumF l at_ = (n, m, b)) : 0 ≤ m ∧ m ≤ l.length ∧ -1000000000000000 ≤ n ∧ n ≤ 1000000000000000 := by
  unfold getNumF at h
  split at h
  · rename_i hin
    obtain ⟨h0, h1⟩ := inB_iff.1 hin
    cases hg : getF (l.drop at_.toNat) with
    | none => rw [hg] at h; simp only [getRes, Prod.mk.injEq] at h; obtain ⟨rfl, rfl, rfl⟩ := h; omega
    | some p =>
      obtain ⟨n', c⟩ := p
      rw [hg] at h
      simp only [getRes, Prod.mk.injEq] at h
      obtain ⟨rfl, rfl, rfl⟩ := h
      have := getF_le hg
      rw [List.length_drop] at this
      omega
  · simp only [Prod.mk.injEq] at h; obtain ⟨rfl, rfl, rfl⟩ := h; omega
theorem ext_data (s : ByteArray) (a n : Nat) : (s.extract a (a + n)) = ⟨((s.data.toList.drop a).take n).toArray⟩ := by
  ext1
  rw [← Array.toList_inj]
  simp [List.drop_take]
set_option maxRecDepth 100000 in
theorem c_GetText (s : ByteArray) (at_ : Int) (w : World) (hs : s.size ≤ 1099511627776) :
    Calls Try.prog 21 #[.string s, .int .i64 at_] w fun e w' => e = .returned (.tuple #[strOf (getTF s.data.toList at_).1, .int .i64 (getTF s.data.toList at_).2.1, .bool (getTF s.data.toList at_).2.2]) ∧ Below w.heap.size w w' := by
  obtain ⟨⟨n, m, b⟩, hr⟩ : ∃ r, getNumF s.data.toList at_ = r := ⟨_, rfl⟩
  obtain ⟨h0, h1, h2, h3⟩ := getNumF_le hr
  have h1' : m ≤ s.size := by simpa using h1
  have HR := hid hr
  clear h1 hr
  cases b
  · have HF : Hid (getTF s.data.toList at_ = ([], 0, false)) := by unfold Hid getTF; rw [HR.out]; simp
    go_enter Try.func21, Try.ntmps21
    go_wp2_with (go_at_call 24; refine (c_GetNumber _ _ _ hs).mono ?_; rintro e w1 ⟨rfl, hb1⟩; rw [HR.out])
    go_ret3
    exact ⟨by rw [HF.out]; rfl, hb1⟩
  · by_cases hmn : (s.size : Int) - m < 40000
    · skip
      by_cases hin : inB n 0 ((s.size : Int) - m) = true
      · obtain ⟨i1, i2⟩ := inB_iff.1 hin
        have HF : Hid (getTF s.data.toList at_ = ((s.data.toList.drop m.toNat).take n.toNat, m + n, true)) := by
          unfold Hid getTF; rw [HR.out, if_pos]
          simp [inB]; omega
        obtain ⟨M, rfl⟩ := Int.eq_ofNat_of_zero_le h0
        obtain ⟨N, rfl⟩ := Int.eq_ofNat_of_zero_le i1
        have hx1 : (M : Int) + (N : Int) ≤ (s.size : Int) := by omega
        have hx2 : (M : Int) ≤ (M : Int) + (N : Int) := by omega
        have hx3 : ((M : Int) + (N : Int)).toNat = M + N := by omega
        go_enter Try.func21, Try.ntmps21
        go_wp2_with fail
        refine (c_GetNumber _ _ _ hs).mono ?_
        rintro e w1 ⟨rfl, hb1⟩
        rw [HR.out]
        have HB1 := hid hb1
        clear hb1
        go_wp2_with (first | (go_at_call 80; refine (c_size _ _).mono ?_; rintro e w' ⟨rfl, rfl⟩) | (go_at_call 81; refine (c_within _ _ _ _).mono ?_; rintro e w' ⟨rfl, rfl⟩))
        go_ret3
        exact ⟨by rw [HF.out]; simp [strOf, ext_data], HB1.out⟩
      · have hin' : inB n 0 ((s.size : Int) - m) = false := by simpa using hin
        have HF : Hid (getTF s.data.toList at_ = ([], 0, false)) := by
          unfold Hid getTF; rw [HR.out, if_neg]
          simp [inB] at hin ⊢; omega
        clear hin
        go_enter Try.func21, Try.ntmps21
        go_wp2_with fail
        refine (c_GetNumber _ _ _ hs).mono ?_
        rintro e w1 ⟨rfl, hb1⟩
        rw [HR.out]
        have HB1 := hid hb1
        clear hb1
        go_wp2_with (first | (go_at_call 80; refine (c_size _ _).mono ?_; rintro e w' ⟨rfl, rfl⟩) | (go_at_call 81; refine (c_within _ _ _ _).mono ?_; rintro e w' ⟨rfl, rfl⟩))
        go_ret3
        exact ⟨by rw [HF.out]; rfl, HB1.out⟩
    · skip
      by_cases hin : inB n 0 40000 = true
      · obtain ⟨i1, i2⟩ := inB_iff.1 hin
        have HF : Hid (getTF s.data.toList at_ = ((s.data.toList.drop m.toNat).take n.toNat, m + n, true)) := by
          unfold Hid getTF; rw [HR.out, if_pos]
          simp [inB]; omega
        obtain ⟨M, rfl⟩ := Int.eq_ofNat_of_zero_le h0
        obtain ⟨N, rfl⟩ := Int.eq_ofNat_of_zero_le i1
        have hx1 : (M : Int) + (N : Int) ≤ (s.size : Int) := by omega
        have hx2 : (M : Int) ≤ (M : Int) + (N : Int) := by omega
        have hx3 : ((M : Int) + (N : Int)).toNat = M + N := by omega
        go_enter Try.func21, Try.ntmps21
        go_wp2_with fail
        refine (c_GetNumber _ _ _ hs).mono ?_
        rintro e w1 ⟨rfl, hb1⟩
        rw [HR.out]
        have HB1 := hid hb1
        clear hb1
        go_wp2_with (first | (go_at_call 80; refine (c_size _ _).mono ?_; rintro e w' ⟨rfl, rfl⟩) | (go_at_call 81; refine (c_within _ _ _ _).mono ?_; rintro e w' ⟨rfl, rfl⟩))
        go_ret3
        exact ⟨by rw [HF.out]; simp [strOf, ext_data], HB1.out⟩
      · have hin' : inB n 0 40000 = false := by simpa using hin
        have HF : Hid (getTF s.data.toList at_ = ([], 0, false)) := by
          unfold Hid getTF; rw [HR.out, if_neg]
          simp [inB] at hin ⊢; omega
        clear hin
        go_enter Try.func21, Try.ntmps21
        go_wp2_with fail
        refine (c_GetNumber _ _ _ hs).mono ?_
        rintro e w1 ⟨rfl, hb1⟩
        rw [HR.out]
        have HB1 := hid hb1
        clear hb1
        go_wp2_with (first | (go_at_call 80; refine (c_size _ _).mono ?_; rintro e w' ⟨rfl, rfl⟩) | (go_at_call 81; refine (c_within _ _ _ _).mono ?_; rintro e w' ⟨rfl, rfl⟩))
        go_ret3
        exact ⟨by rw [HF.out]; rfl, HB1.out⟩
end Go.Proofs.Ytlipoonopajgdaa
