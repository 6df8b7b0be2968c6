/- Contracts of chapter 2: equal terms; values of terms. -/
import Derived.Test.YtgmhnnpigghbgaaL02s
import Derived.Test.YtgmhnnpigghbgaaHlp
import Derived.Deep.RegionHeld3
namespace Go.Proofs.Ytgmhnnpigghbgaa
open Go.RowKit

theorem c_slEqual {S T : Nat → Prop} (a b : Option Addr) (ca cb : Nat) (xs ys : List Int) (w : World) (hx : SlRd cInt S w a ca xs) (hy : SlRd cInt T w b cb ys) :
    Calls Try.prog 99 #[.slice a xs.length ca, .slice b ys.length cb] w fun e w' => e = .returned (.bool (decide (xs = ys))) ∧ Below w.heap.size w w' := by
  have HX := hid hx
  have HY := hid hy
  have hlx := hx.len_le
  have hly := hy.len_le
  clear hx hy
  by_cases hl : xs.length = ys.length
  · have h1 : ((xs.length : Int) != ys.length) = false := by simp [hl]
    have hl1 : xs.length ≤ ys.length := by omega
    have hl2 : ys.length ≤ xs.length := by omega
    clear hl
    go_enter Try.func99, Try.ntmps99
    go_wp2
    go_loopw [13] (fun i wr => ∃ k : Nat, k ≤ xs.length ∧ i = .int .i64 k ∧ Hid (xs.take k = ys.take k) ∧ Below w.heap.size w wr) (fun i _ => xs.length - (intOf i).toNat)
    case atStart => exact ⟨0, Nat.zero_le _, rfl, rfl, Below.refl _ _⟩
    case round =>
      obtain ⟨k, hk, rfl, HA, hbe⟩ := hrel
      by_cases hlt : k < xs.length
      · obtain ⟨b1, off1, rfl⟩ := HX.out.some_of hlt
        obtain ⟨b2, off2, rfl⟩ := HY.out.some_of (k := k) (by omega)
        obtain ⟨x, hxk, _, hcx, _⟩ := (HX.out.below (Nat.le_refl _) hbe).int_at k hlt
        obtain ⟨y, hyk, _, hcy, _⟩ := (HY.out.below (Nat.le_refl _) hbe).int_at k (by omega)
        have HXK := hid hxk
        have HYK := hid hyk
        clear hxk hyk
        have i1 : (0 : Int) ≤ (k : Int) := by omega
        have i2 : (k : Int) < (xs.length : Int) := by omega
        have i3 : (k : Int) < (ys.length : Int) := by omega
        by_cases he : x = y
        · have he' : (x != y) = false := by simp [he]
          have HE := hid he
          clear he
          go_wp2
          go_quiet (fail)
          go_wp2
          go_roundw
          case rel => exact ⟨k + 1, by omega, by go_num, take_eq_snoc HA.out HXK.out HYK.out HE.out, hbe.trans (below_drewN _ _ _)⟩
          case measure => simp [intOf]; omega
        · have he' : (x != y) = true := by simp [he]
          have HE := hid he
          clear he
          go_wp2
          go_quiet (fail)
          go_wp2
          go_ret
          exact ⟨ret_bool (by simp [ne_at HXK.out HYK.out HE.out]), hbe.trans (below_drewN _ _ _)⟩
      · go_wp2
        go_ret
        exact ⟨ret_bool (by simp [take_all_eq HA.out (by omega) (by omega)]), hbe⟩
  · have h1 : ((xs.length : Int) != ys.length) = true := by simp; omega
    have HF : Hid (decide (xs = ys) = false) := by unfold Hid; simp; rintro rfl; exact hl rfl
    clear hl
    go_enter Try.func99, Try.ntmps99
    go_wp2
    go_ret
    exact ⟨ret_bool HF.out.symm, Below.refl _ _⟩

theorem c_l00Same {S T : Nat → Prop} (a b : Option Addr) (ca cb : Nat) (xs ys : List Int) (w : World) (hx : SlRd cInt S w a ca xs) (hy : SlRd cInt T w b cb ys) :
    Calls Try.prog 98 #[.slice a xs.length ca, .slice b ys.length cb] w fun e w' => e = .returned (.bool (decide (xs = ys))) ∧ Below w.heap.size w w' := by
  have HX := hid hx
  have HY := hid hy
  have hlx := hx.len_le
  have hly := hy.len_le
  clear hx hy
  by_cases hl : xs.length = ys.length
  · have h1 : ((xs.length : Int) != ys.length) = false := by simp [hl]
    have hl1 : xs.length ≤ ys.length := by omega
    have hl2 : ys.length ≤ xs.length := by omega
    clear hl
    go_enter Try.func98, Try.ntmps98
    go_wp2
    go_loopw [5] (fun i wr => ∃ k : Nat, k ≤ xs.length ∧ i = .int .i64 k ∧ Hid (xs.take k = ys.take k) ∧ Below w.heap.size w wr) (fun i _ => xs.length - (intOf i).toNat)
    case atStart => exact ⟨0, Nat.zero_le _, rfl, rfl, Below.refl _ _⟩
    case round =>
      obtain ⟨k, hk, rfl, HA, hbe⟩ := hrel
      by_cases hlt : k < xs.length
      · obtain ⟨b1, off1, rfl⟩ := HX.out.some_of hlt
        obtain ⟨b2, off2, rfl⟩ := HY.out.some_of (k := k) (by omega)
        obtain ⟨x, hxk, _, hcx, _⟩ := (HX.out.below (Nat.le_refl _) hbe).int_at k hlt
        obtain ⟨y, hyk, _, hcy, _⟩ := (HY.out.below (Nat.le_refl _) hbe).int_at k (by omega)
        have HXK := hid hxk
        have HYK := hid hyk
        clear hxk hyk
        have i1 : (0 : Int) ≤ (k : Int) := by omega
        have i2 : (k : Int) < (xs.length : Int) := by omega
        have i3 : (k : Int) < (ys.length : Int) := by omega
        by_cases he : x = y
        · have he' : (x != y) = false := by simp [he]
          have HE := hid he
          clear he
          go_wp2
          go_quiet (fail)
          go_wp2
          go_roundw
          case rel => exact ⟨k + 1, by omega, by go_num, take_eq_snoc HA.out HXK.out HYK.out HE.out, hbe.trans (below_drewN _ _ _)⟩
          case measure => simp [intOf]; omega
        · have he' : (x != y) = true := by simp [he]
          have HE := hid he
          clear he
          go_wp2
          go_quiet (fail)
          go_wp2
          go_ret
          exact ⟨ret_bool (by simp [ne_at HXK.out HYK.out HE.out]), hbe.trans (below_drewN _ _ _)⟩
      · go_wp2
        go_ret
        exact ⟨ret_bool (by simp [take_all_eq HA.out (by omega) (by omega)]), hbe⟩
  · have h1 : ((xs.length : Int) != ys.length) = true := by simp; omega
    have HF : Hid (decide (xs = ys) = false) := by unfold Hid; simp; rintro rfl; exact hl rfl
    clear hl
    go_enter Try.func98, Try.ntmps98
    go_wp2
    go_ret
    exact ⟨ret_bool HF.out.symm, Below.refl _ _⟩

theorem tEq_iff (c d : Int) (xs ys : List Int) : decide (((c, xs) : Term) = (d, ys)) = (decide (c = d) && decide (xs = ys)) := by
  rw [Bool.eq_iff_iff]; simp
theorem c_Term_equal {S T : Nat → Prop} (c d : Int) (a b : Option Addr) (ca cb : Nat) (xs ys : List Int) (w : World) (hx : SlRd cInt S w a ca xs) (hy : SlRd cInt T w b cb ys) :
    Calls Try.prog 77 #[.agg #[.int .i64 c, .slice a xs.length ca], .agg #[.int .i64 d, .slice b ys.length cb]] w fun e w' => e = .returned (.bool (decide (((c, xs) : Term) = (d, ys)))) ∧ Below w.heap.size w w' := by
  have HX := hid hx
  have HY := hid hy
  clear hx hy
  by_cases hc : c = d
  · have h1 : (c == d) = true := by simp [hc]
    have HF : Hid (decide (((c, xs) : Term) = (d, ys)) = decide (xs = ys)) := by unfold Hid; simp [hc]
    clear hc
    go_enter Try.func77, Try.ntmps77
    go_wp2_with (go_at_call 99; refine (c_slEqual _ _ _ _ _ _ _ ((HX.out.alloc _).alloc _) ((HY.out.alloc _).alloc _)).mono ?_; rintro e w1 ⟨rfl, hb1⟩)
    go_ret
    exact ⟨ret_bool (by rw [HF.out]), (((Below.refl _ _).alloc (Nat.le_refl _) _).alloc (by simp) _).trans (hb1.mono (by simp; omega))⟩
  · have h1 : (c == d) = false := by simp [hc]
    have HF : Hid (decide (((c, xs) : Term) = (d, ys)) = false) := by unfold Hid; simp [hc]
    clear hc
    go_enter Try.func77, Try.ntmps77
    go_wp2
    go_ret
    exact ⟨ret_bool HF.out.symm, ((Below.refl _ _).alloc (Nat.le_refl _) _).alloc (by simp) _⟩
set_option maxRecDepth 100000 in
theorem c_l02Same {S T : Nat → Prop} (b1 o1 b2 o2 : Nat) (c d : Int) (a b : Option Addr) (ca cb : Nat) (xs ys : List Int) (w : World) (h1 : w.cell? ⟨b1, o1, none⟩ = some (.int .i64 c)) (h2 : w.cell? ⟨b1, o1 + 1, none⟩ = some (.slice a xs.length ca))
    (h3 : w.cell? ⟨b2, o2, none⟩ = some (.int .i64 d)) (h4 : w.cell? ⟨b2, o2 + 1, none⟩ = some (.slice b ys.length cb)) (hx : SlRd cInt S w a ca xs) (hy : SlRd cInt T w b cb ys) :
    Calls Try.prog 76 #[.pointer (some ⟨b1, o1, none⟩), .pointer (some ⟨b2, o2, none⟩)] w fun e w' => e = .returned (.bool (decide (((c, xs) : Term) = (d, ys)))) ∧ Below w.heap.size w w' := by
  have HX := hid hx.drew
  have HY := hid hy.drew
  clear hx hy
  by_cases hc : c = d
  · have h1 : (c == d) = true := by simp [hc]
    have HF : Hid (decide (((c, xs) : Term) = (d, ys)) = decide (xs = ys)) := by unfold Hid; simp [hc]
    clear hc
    go_enter Try.func76, Try.ntmps76
    go_wp2
    go_still_tail 18, (by kernel_rfl)
    change wpList _ _ _ _ _ w.drew
    go_wp2_with (go_at_call 98; refine (c_l00Same _ _ _ _ _ _ _ HX.out HY.out).mono ?_; rintro e w1 ⟨rfl, hb1⟩)
    go_ret
    exact ⟨ret_bool (by rw [HF.out]), (Below.refl _ w).drew.trans hb1⟩
  · have h1 : (c == d) = false := by simp [hc]
    have HF : Hid (decide (((c, xs) : Term) = (d, ys)) = false) := by unfold Hid; simp [hc]
    clear hc
    go_enter Try.func76, Try.ntmps76
    go_wp2
    go_quiet (fail)
    go_wp2
    go_ret
    exact ⟨ret_bool HF.out.symm, below_drewN _ _ _⟩
def sameF (t u : Term) : Bool := validTerm t && validTerm u && decide (t = u)
theorem c_SameTerm {S T : Nat → Prop} (c d : Int) (a b : Option Addr) (ca cb : Nat) (xs ys : List Int) (w : World) (hx : SlRd cInt S w a ca xs) (hy : SlRd cInt T w b cb ys) :
    Calls Try.prog 41 #[.agg #[.int .i64 c, .slice a xs.length ca], .agg #[.int .i64 d, .slice b ys.length cb]] w fun e w' => e = .returned (.bool (sameF (c, xs) (d, ys))) ∧ Below w.heap.size w w' := by
  have HX := hid ((hx.alloc (.cells #[.int .i64 c, .slice a xs.length ca] 47)).alloc (.cells #[.int .i64 d, .slice b ys.length cb] 47))
  have HY := hid ((hy.alloc (.cells #[.int .i64 c, .slice a xs.length ca] 47)).alloc (.cells #[.int .i64 d, .slice b ys.length cb] 47))
  clear hx hy
  have HB0 : Hid (Below w.heap.size w ((w.alloc (.cells #[.int .i64 c, .slice a xs.length ca] 47)).alloc (.cells #[.int .i64 d, .slice b ys.length cb] 47))) := ((Below.refl _ _).alloc (Nat.le_refl _) _).alloc (by simp) _
  obtain ⟨p, hp⟩ : ∃ p, validTerm (c, xs) = p := ⟨_, rfl⟩
  have HP := hid hp
  clear hp
  cases p
  · have HF : Hid (sameF (c, xs) (d, ys) = false) := by unfold Hid; simp [sameF, HP.out]
    go_enter Try.func41, Try.ntmps41
    go_wp2_with (go_at_call 30; refine (c_ValidTerm _ _ _ _ _ HX.out).mono ?_; rintro e w1 ⟨rfl, hb1⟩; rw [HP.out]; have HB1 := hid hb1; clear hb1)
    go_ret
    exact ⟨ret_bool HF.out.symm, HB0.out.trans (HB1.out.mono (by simp; omega))⟩
  · obtain ⟨q, hq⟩ : ∃ q, validTerm (d, ys) = q := ⟨_, rfl⟩
    have HQ := hid hq
    clear hq
    cases q
    · have HF : Hid (sameF (c, xs) (d, ys) = false) := by unfold Hid; simp [sameF, HQ.out]
      go_enter Try.func41, Try.ntmps41
      go_wp2_with fail
      refine (c_ValidTerm _ _ _ _ _ HX.out).mono ?_
      rintro e w1 ⟨rfl, hb1⟩
      rw [HP.out]
      obtain ⟨hc1, hf1⟩ := bcell hb1
      have HB1 := hid hb1
      have HY1 := hid (HY.out.below (Nat.le_refl _) hb1)
      clear hb1
      go_wp2_with fail
      refine (c_ValidTerm _ _ _ _ _ HY1.out).mono ?_
      rintro e w2 ⟨rfl, hb2⟩
      rw [HQ.out]
      go_wp2
      go_ret
      exact ⟨ret_bool HF.out.symm, (HB0.out.trans (HB1.out.mono (by simp; omega))).trans (hb2.mono (by have := HB1.out.size; simp at this; omega))⟩
    · obtain ⟨r, hr⟩ : ∃ r, decide (((c, xs) : Term) = (d, ys)) = r := ⟨_, rfl⟩
      have HF : Hid (sameF (c, xs) (d, ys) = r) := by unfold Hid; rw [← hr]; unfold sameF; rw [HP.out, HQ.out]; simp
      have HR := hid hr
      clear hr
      go_enter Try.func41, Try.ntmps41
      go_wp2_with fail
      refine (c_ValidTerm _ _ _ _ _ HX.out).mono ?_
      rintro e w1 ⟨rfl, hb1⟩
      rw [HP.out]
      obtain ⟨hc1, hf1⟩ := bcell hb1
      have hz1 := hb1.size
      simp only [World.size_alloc] at hz1 hc1 hf1
      have HB1 := hid hb1
      have HX1 := hid (HX.out.below (Nat.le_refl _) hb1)
      have HY1 := hid (HY.out.below (Nat.le_refl _) hb1)
      clear hb1
      go_wp2_with fail
      refine (c_ValidTerm _ _ _ _ _ HY1.out).mono ?_
      rintro e w2 ⟨rfl, hb2⟩
      rw [HQ.out]
      have hc2 : ∀ β o, β < w.heap.size + 1 + 1 → w2.cell? ⟨β, o, none⟩ = ((w.alloc (.cells #[.int .i64 c, .slice a xs.length ca] 47)).alloc (.cells #[.int .i64 d, .slice b ys.length cb] 47)).cell? ⟨β, o, none⟩ := fun β o h => ((bcell hb2).1 β o (by omega)).trans (hc1 β o h)
      have HB2 := hid hb2
      have HX2 := hid (HX1.out.below (Nat.le_refl _) hb2)
      have HY2 := hid (HY1.out.below (Nat.le_refl _) hb2)
      clear hb2 hc1 hf1
      go_wp2_with fail
      refine (c_Term_equal _ _ _ _ _ _ _ _ _ HX2.out HY2.out).mono ?_
      rintro e w3 ⟨rfl, hb3⟩
      rw [HR.out]
      go_wp2
      go_ret
      exact ⟨ret_bool HF.out.symm, ((HB0.out.trans (HB1.out.mono (by simp; omega))).trans (HB2.out.mono (by omega))).trans (hb3.mono (by have := HB2.out.size; omega))⟩
end Go.Proofs.Ytgmhnnpigghbgaa
