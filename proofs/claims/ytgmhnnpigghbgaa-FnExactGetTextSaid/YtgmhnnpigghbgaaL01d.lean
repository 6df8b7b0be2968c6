/- Contracts: the greatest common divisor. -/
import Derived.Test.YtgmhnnpigghbgaaL02
import Derived.Deep.QuietTactic
import Derived.BigQuiet
namespace Go.Proofs.Ytgmhnnpigghbgaa
open Go.RowKit

def gcdL (zs : List Int) : Nat := zs.foldl (fun g z => Nat.gcd g z.natAbs) 0
def Small (z : Int) : Prop := -1000000000000000 ≤ z ∧ z ≤ 1000000000000000
theorem gcd_le {a b M : Nat} (ha : a ≤ M) (hb : b ≤ M) : Nat.gcd a b ≤ M := by
  rcases Nat.eq_zero_or_pos b with rfl | h
  · simpa using ha
  · exact Nat.le_trans (Nat.le_of_dvd h (Nat.gcd_dvd_right a b)) hb
theorem gcdL_le : ∀ (zs : List Int) (g : Nat), g ≤ 1000000000000000 → (∀ z ∈ zs, Small z) → zs.foldl (fun g z => Nat.gcd g z.natAbs) g ≤ 1000000000000000 := by
  intro zs
  induction zs with
  | nil => intro g h _; exact h
  | cons z zs ih =>
    intro g h hz
    have := hz z (by simp)
    exact ih _ (gcd_le h (by unfold Small at this; omega)) fun x hx => hz x (by simp [hx])
theorem gcdL_take {zs : List Int} {k : Nat} {z : Int} (h : zs[k]? = some z) : gcdL (zs.take (k + 1)) = Nat.gcd (gcdL (zs.take k)) z.natAbs := by
  unfold gcdL; rw [List.take_add_one, h]; simp
theorem small_of {zs : List Int} (h : allIn zs (-1000000000000000) 1000000000000000 = true) : ∀ z ∈ zs, Small z := by
  intro z hz
  exact inB_iff.1 (List.all_eq_true.1 h z hz)
theorem imodc (p q : Nat) : ((p : Int) % (q : Int)) = ((p % q : Nat) : Int) := by omega
theorem gcd_step (p q : Nat) : Nat.gcd q (p % q) = Nat.gcd p q := by rw [Nat.gcd_comm p q, Nat.gcd_rec q p, Nat.gcd_comm]

theorem c_absolute (n : Int) (w : World) (h1 : -9223372036854775807 ≤ n) (h2 : n ≤ 9223372036854775807) :
    Calls Try.prog 96 #[.int .i64 n] w fun e w' => e = .returned (.int .i64 (n.natAbs : Int)) ∧ w = w' := by
  by_cases h : n < 0
  · go_enter Try.func96, Try.ntmps96
    go_wp2
    go_ret
    exact ⟨ret_int (by omega), rfl⟩
  · go_enter Try.func96, Try.ntmps96
    go_wp2
    go_ret
    exact ⟨ret_int (by omega), rfl⟩
theorem c_l00Max (a b : Int) (w : World) :
    Calls Try.prog 95 #[.int .i64 a, .int .i64 b] w fun e w' => e = .returned (.int .i64 (max a b)) ∧ w = w' := by
  by_cases h : b < a
  · go_enter Try.func95, Try.ntmps95
    go_wp2
    go_ret
    exact ⟨ret_int (by omega), rfl⟩
  · go_enter Try.func95, Try.ntmps95
    go_wp2
    go_ret
    exact ⟨ret_int (by omega), rfl⟩
theorem c_gcd {S : Nat → Prop} (a : Option Addr) (cap : Nat) (zs : List Int) (w : World) (h : SlRd cInt S w a cap zs) (hz : ∀ z ∈ zs, Small z) :
    Calls Try.prog 74 #[.slice a zs.length cap] w fun e w' => e = .returned (.int .i64 (gcdL zs)) ∧ Below w.heap.size w w' := by
  have hl := h.len_le
  have H := hid h
  have HZS := hid hz
  clear h hz
  go_enter Try.func74, Try.ntmps74
  go_wp2
  go_loopw [3, 10] (fun g i wr => ∃ k : Nat, k ≤ zs.length ∧ i = .int .i64 k ∧ g = .int .i64 (gcdL (zs.take k)) ∧ Below w.heap.size w wr) (fun _ i _ => zs.length - (intOf i).toNat)
  case atStart => exact ⟨0, Nat.zero_le _, rfl, rfl, Below.refl _ _⟩
  case round =>
    obtain ⟨k, hk, rfl, rfl, hbe⟩ := hrel
    obtain ⟨wo, rfl⟩ : ∃ wo : World, wo = wr := ⟨_, rfl⟩
    by_cases hlt : k < zs.length
    · obtain ⟨b, off, rfl⟩ := H.out.some_of hlt
      obtain ⟨z, hzk, hz2, hc, hb⟩ := (H.out.below (Nat.le_refl _) hbe).int_at k hlt
      have hs := HZS.out z (List.mem_of_getElem? hzk)
      obtain ⟨hs1, hs2⟩ := hs
      have hg : gcdL (zs.take k) ≤ 1000000000000000 := gcdL_le _ _ (by omega) fun x hx => HZS.out x (List.mem_of_mem_take hx)
      obtain ⟨g, hgg⟩ : ∃ g, gcdL (zs.take k) = g := ⟨_, rfl⟩
      obtain ⟨m, hmm⟩ : ∃ m, z.natAbs = m := ⟨_, rfl⟩
      rw [hgg] at hg ⊢
      have hm : m ≤ 1000000000000000 := by omega
      have HS : Hid (gcdL (zs.take (k + 1)) = Nat.gcd g m) := by unfold Hid; rw [gcdL_take hzk, hgg, hmm]
      have HM := hid hmm
      clear hgg hmm hzk
      go_wp2_with (go_at_call 96; refine (c_absolute _ _ (by omega) (by omega)).mono ?_; rintro e w' ⟨rfl, rfl⟩; rw [HM.out])
      go_loopw [6, 7] (fun x y wr => ∃ p q : Nat, x = .int .i64 p ∧ y = .int .i64 q ∧ p ≤ 1000000000000000 ∧ q ≤ 1000000000000000 ∧ Hid (Nat.gcd p q = Nat.gcd g m) ∧ Below w.heap.size w wr) (fun _ y _ => (intOf y).toNat)
      case atStart => exact ⟨g, m, rfl, rfl, hg, hm, rfl, hbe⟩
      case round =>
        obtain ⟨p, q, rfl, rfl, hp, hq, HG, hbi⟩ := hrel
        by_cases hq0 : q = 0
        · have h0 : ((q : Int) != 0) = false := by simp [hq0]
          have HP : Hid (p = Nat.gcd g m) := by unfold Hid; rw [← HG.out, hq0]; simp
          clear hq0
          go_wp2
          go_roundw
          case rel => exact ⟨k + 1, by omega, by go_num, by rw [HS.out, ← HP.out], hbi⟩
          case measure => simp [intOf]; omega
        · have h0 : ((q : Int) != 0) = true := by simp [hq0]
          have hq1 : 1 ≤ q := by omega
          clear hq0
          go_wp2
          go_quiet (fail)
          go_wp2
          go_roundw
          case rel => exact ⟨q, p % q, rfl, by rw [imodc], hq, by have := Nat.mod_lt p (show q > 0 by omega); omega, by unfold Hid; rw [gcd_step]; exact HG.out, hbi.trans (below_drewN _ _ _)⟩
          case measure => simp only [intOf]; have := Nat.mod_lt p (show q > 0 by omega); have := imodc p q; omega
    · go_wp2
      go_ret
      exact ⟨ret_int (by rw [List.take_of_length_le (by omega)]), hbe⟩
theorem c_l01Gcd (d z : Int) (w : World) (hd : Small d) (hz : Small z) :
    Calls Try.prog 73 #[.int .i64 d, .int .i64 z] w fun e w' => e = .returned (.int .i64 (Nat.gcd d.natAbs z.natAbs : Nat)) ∧ w = w' := by
  obtain ⟨d1, d2⟩ := hd
  obtain ⟨z1, z2⟩ := hz
  obtain ⟨g, hgg⟩ : ∃ g, d.natAbs = g := ⟨_, rfl⟩
  obtain ⟨m, hmm⟩ : ∃ m, z.natAbs = m := ⟨_, rfl⟩
  have hg : g ≤ 1000000000000000 := by omega
  have hm : m ≤ 1000000000000000 := by omega
  have HG0 : Hid (max d (-d) = (g : Int)) := by unfold Hid; omega
  have HM0 : Hid (max z (-z) = (m : Int)) := by unfold Hid; omega
  have HR : Hid (((Nat.gcd d.natAbs z.natAbs : Nat) : Int) = (Nat.gcd g m : Nat)) := by unfold Hid; rw [hgg, hmm]
  clear hgg hmm
  go_enter Try.func73, Try.ntmps73
  go_wp2_with (go_at_call 95; refine (c_l00Max _ _ _).mono ?_; rintro e w' ⟨rfl, rfl⟩; first | rw [HG0.out] | rw [HM0.out])
  go_loop [0, 1] (fun x y => ∃ p q : Nat, x = .int .i64 p ∧ y = .int .i64 q ∧ p ≤ 1000000000000000 ∧ q ≤ 1000000000000000 ∧ Hid (Nat.gcd p q = Nat.gcd g m)) (fun _ y => (intOf y).toNat)
  case atStart => exact ⟨g, m, rfl, rfl, hg, hm, rfl⟩
  case round =>
    obtain ⟨p, q, rfl, rfl, hp, hq, HG⟩ := hrel
    by_cases hq0 : q = 0
    · have h0 : (q : Int) ≤ 0 := by omega
      have HP : Hid (p = Nat.gcd g m) := by unfold Hid; rw [← HG.out, hq0]; simp
      clear hq0
      go_wp2
      go_ret
      exact ⟨ret_int (by rw [HR.out, ← HP.out]), rfl⟩
    · have hq1 : 1 ≤ q := by omega
      clear hq0
      go_wp2
      go_round
      case rel => exact ⟨q, p % q, rfl, by rw [imodc], hq, by have := Nat.mod_lt p (show q > 0 by omega); omega, by unfold Hid; rw [gcd_step]; exact HG.out⟩
      case measure => simp only [intOf]; have := Nat.mod_lt p (show q > 0 by omega); have := imodc p q; omega
def codedL (zs : List Int) : Bool := decide (zs.length ≤ 100) && allIn zs (-1000000000000000) 1000000000000000
def gcdF (zs : List Int) : Int × Bool := if codedL zs then ((gcdL zs : Int), true) else (0, false)
theorem c_l01List {S : Nat → Prop} (a : Option Addr) (cap : Nat) (zs : List Int) (w : World) (h : SlRd cInt S w a cap zs) :
    Calls Try.prog 72 #[.slice a zs.length cap] w fun e w' => e = .returned (.bool (codedL zs)) ∧ w = w' := by
  have hl := h.len_le
  have H := hid h
  clear h
  go_enter Try.func72, Try.ntmps72
  go_wp2
  go_loop [3] (fun i => ∃ k : Nat, k ≤ zs.length ∧ i = .int .i64 k ∧ Hid ((zs.take k).all (fun z => inB z (-1000000000000000) 1000000000000000) = true)) (fun i => zs.length - (intOf i).toNat)
  case atStart => exact ⟨0, Nat.zero_le _, rfl, rfl⟩
  case round =>
    obtain ⟨k, hk, rfl, HA⟩ := hrel
    by_cases hlt : k < zs.length
    · obtain ⟨b, off, rfl⟩ := H.out.some_of hlt
      obtain ⟨z, hz, hz2, hc, hb⟩ := H.out.int_at k hlt
      have HZ := hid hz
      clear hz
      by_cases hin : inB z (-1000000000000000) 1000000000000000 = true
      · go_wp2_with (go_at_call 93; refine (c_l01Number _ _).mono ?_; rintro e w' ⟨rfl, rfl⟩)
        go_round
        case rel => exact ⟨k + 1, by omega, by go_num, (all_take HA.out HZ.out).trans hin⟩
        case measure => simp [intOf]; omega
      · have hin' : inB z (-1000000000000000) 1000000000000000 = false := by simpa using hin
        go_wp2_with (go_at_call 93; refine (c_l01Number _ _).mono ?_; rintro e w' ⟨rfl, rfl⟩)
        go_ret
        exact ⟨ret_bool (by have := all_false (p := fun z => inB z (-1000000000000000) 1000000000000000) HZ.out hin'; simp only [codedL, allIn, this]; simp), rfl⟩
    · go_wp2
      go_ret
      exact ⟨ret_bool (by have := all_end HA.out (by omega); simp only [codedL, allIn, this]; simp; omega), rfl⟩
theorem c_sGcdOf {S : Nat → Prop} (a : Option Addr) (cap : Nat) (zs : List Int) (w : World) (h : SlRd cInt S w a cap zs) :
    Calls Try.prog 34 #[.slice a zs.length cap] w fun e w' => e = .returned (.tuple #[.int .i64 (gcdF zs).1, .bool (gcdF zs).2]) ∧ w = w' := by
  have hl := h.len_le
  have H := hid h
  clear h
  by_cases hc : codedL zs = true
  · have HF : Hid (gcdF zs = ((gcdL zs : Int), true)) := by unfold Hid; simp [gcdF, hc]
    have HZS : Hid (∀ z ∈ zs, Small z) := small_of (by simp [codedL] at hc; exact hc.2)
    go_enter Try.func34, Try.ntmps34
    go_wp2_with (go_at_call 72; refine (c_l01List _ _ _ _ H.out).mono ?_; rintro e w' ⟨rfl, rfl⟩)
    go_loop [4, 5] (fun g i => ∃ k : Nat, k ≤ zs.length ∧ i = .int .i64 k ∧ g = .int .i64 (gcdL (zs.take k))) (fun _ i => zs.length - (intOf i).toNat)
    case atStart => exact ⟨0, Nat.zero_le _, rfl, rfl⟩
    case round =>
      obtain ⟨k, hk, rfl, rfl⟩ := hrel
      by_cases hlt : k < zs.length
      · obtain ⟨b, off, rfl⟩ := H.out.some_of hlt
        obtain ⟨z, hzk, hz2, hcz, hb⟩ := H.out.int_at k hlt
        have hs := HZS.out z (List.mem_of_getElem? hzk)
        have hg : gcdL (zs.take k) ≤ 1000000000000000 := gcdL_le _ _ (by omega) fun x hx => HZS.out x (List.mem_of_mem_take hx)
        have HS := hid (gcdL_take hzk)
        clear hzk
        go_wp2_with (go_at_call 73; refine (c_l01Gcd _ _ _ ⟨by omega, by omega⟩ hs).mono ?_; rintro e w' ⟨rfl, rfl⟩)
        go_round
        case rel => exact ⟨k + 1, by omega, by go_num, by rw [HS.out]; try rfl⟩
        case measure => simp [intOf]; omega
      · go_wp2
        go_ret2
        exact ⟨by rw [HF.out, List.take_of_length_le (by omega)]; rfl, rfl⟩
  · have HF : Hid (gcdF zs = (0, false)) := by unfold Hid; simp [gcdF, hc]
    have hc' : codedL zs = false := by simpa using hc
    go_enter Try.func34, Try.ntmps34
    go_wp2_with (go_at_call 72; refine (c_l01List _ _ _ _ H.out).mono ?_; rintro e w' ⟨rfl, rfl⟩)
    go_ret2
    exact ⟨by rw [HF.out]; rfl, rfl⟩
theorem c_GcdOf {S : Nat → Prop} (a : Option Addr) (cap : Nat) (zs : List Int) (w : World) (h : SlRd cInt S w a cap zs) :
    Calls Try.prog 36 #[.slice a zs.length cap] w fun e w' => e = .returned (.tuple #[.int .i64 (gcdF zs).1, .bool (gcdF zs).2]) ∧ Below w.heap.size w w' := by
  have hl := h.len_le
  have H := hid h
  clear h
  by_cases h1 : zs.length ≤ 100
  · by_cases h2 : allIn zs (-1000000000000000) 1000000000000000 = true
    · have HF : Hid (gcdF zs = ((gcdL zs : Int), true)) := by unfold Hid; simp [gcdF, codedL, h1, h2]
      have HZS : Hid (∀ z ∈ zs, Small z) := small_of h2
      go_enter Try.func36, Try.ntmps36
      go_wp2_with (first | (go_at_call 69; refine (c_allWithin _ _ _ _ _ _ H.out).mono ?_; rintro e w' ⟨rfl, rfl⟩) | (go_at_call 74; refine (c_gcd _ _ _ _ H.out HZS.out).mono ?_; rintro e w' ⟨rfl, hb⟩))
      go_ret2
      exact ⟨by rw [HF.out]; rfl, hb⟩
    · have HF : Hid (gcdF zs = (0, false)) := by unfold Hid; simp [gcdF, codedL, h2]
      have h2' : allIn zs (-1000000000000000) 1000000000000000 = false := by simpa using h2
      go_enter Try.func36, Try.ntmps36
      go_wp2_with (go_at_call 69; refine (c_allWithin _ _ _ _ _ _ H.out).mono ?_; rintro e w' ⟨rfl, rfl⟩)
      go_ret2
      exact ⟨by rw [HF.out]; rfl, Below.refl _ _⟩
  · have HF : Hid (gcdF zs = (0, false)) := by unfold Hid; simp [gcdF, codedL, h1]
    go_enter Try.func36, Try.ntmps36
    go_wp2
    go_ret2
    exact ⟨by rw [HF.out]; rfl, Below.refl _ _⟩
end Go.Proofs.Ytgmhnnpigghbgaa
