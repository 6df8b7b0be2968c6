/- Plain mathematics: what is read back from codes, and from codes that are cut; quotients by the common divisor. No program in sight. -/
import Derived.Test.YtlipoonopajgdaaL01lp
import Derived.Test.YtlipoonopajgdaaL01g
namespace Go.Proofs.Ytlipoonopajgdaa

theorem ofNat_toNat {m : Nat} (h : m < 256) : (UInt8.ofNat m).toNat = m := by simp; omega
theorem putM_shape : ∀ m : Nat, ∃ (p : List UInt8) (c : UInt8), putM m = p ++ [c] ∧ p.all contB = true ∧ contB c = false ∧ (c ≠ 0 ∨ p = []) ∧ valM (p ++ [c]) = m := by
  intro m
  induction m using Nat.strongRecOn with
  | ind m ih =>
    by_cases h : m < 128
    · refine ⟨[], UInt8.ofNat m, by rw [putM_small h]; rfl, rfl, ?_, .inr rfl, ?_⟩
      · unfold contB; rw [ofNat_toNat (by omega)]; simp; omega
      · simp only [List.nil_append, valM]; rw [ofNat_toNat (by omega)]; omega
    · obtain ⟨p, c, h1, h2, h3, h4, h5⟩ := ih (m / 128) (by omega)
      refine ⟨UInt8.ofNat (m % 128 + 128) :: p, c, by rw [putM_big (by omega), h1]; rfl, ?_, h3, .inl ?_, ?_⟩
      · rw [List.all_cons, h2]; unfold contB; rw [ofNat_toNat (by omega)]; simp
      · rcases h4 with h4 | h4
        · exact h4
        · subst h4
          rintro rfl
          simp [valM] at h5
          omega
      · rw [List.cons_append]
        simp only [valM]
        rw [h5, ofNat_toNat (by omega)]; omega
theorem getF_put {n : Int} (hn : Small n) (rest : List UInt8) : getF (putN n ++ rest) = some (n, (putN n).length) := by
  obtain ⟨p, c, h1, h2, h3, h4, h5⟩ := putM_shape (zig n)
  have hl := putN_len n hn.1 hn.2
  have e : putN n = p ++ [c] := h1
  rw [e] at hl ⊢
  simp only [List.length_append, List.length_singleton] at hl
  have hj : p.length < 8 := by omega
  have ht : (p ++ [c] ++ rest).take p.length = p := by rw [List.append_assoc, List.take_append_of_le_length (Nat.le_refl _), List.take_length]
  have ht1 : (p ++ [c] ++ rest).take (p.length + 1) = p ++ [c] := by
    rw [List.take_append_of_le_length (by simp)]; rw [List.take_of_length_le (by simp)]
  have hc : (p ++ [c] ++ rest)[p.length]? = some c := by simp
  rw [getF_end (by rw [ht]; exact h2) hc h3 hj, ht1, h5, unzig_zig, if_pos]
  · simp
  · have : inB n (-1000000000000000) 1000000000000000 = true := by simp [inB]; exact hn
    rw [this]
    rcases h4 with h4 | h4
    · simp [h4]
    · simp [h4]
theorem getF_cut {n : Int} {k : Nat} (hk : k < (putN n).length) : getF ((putN n).take k) = none := by
  obtain ⟨p, c, h1, h2, h3, h4, h5⟩ := putM_shape (zig n)
  have e : putN n = p ++ [c] := h1
  rw [e] at hk ⊢
  simp only [List.length_append, List.length_singleton] at hk
  rw [List.take_append_of_le_length (by omega)]
  apply getF_short
  rw [List.all_eq_true] at h2 ⊢
  exact fun x hx => h2 x (List.mem_of_mem_take hx)
theorem putN_pos (n : Int) : 0 < (putN n).length := by
  obtain ⟨p, c, h1, _⟩ := putM_shape (zig n)
  have e : putN n = p ++ [c] := h1
  rw [e]; simp
theorem getNs_put : ∀ (zs : List Int) (pre rest : List UInt8), (∀ z ∈ zs, Small z) → getNs zs.length (pre ++ (zs.flatMap putN ++ rest)) pre.length = some (zs, pre.length + (zs.flatMap putN).length)
  | [], pre, rest, _ => by simp [getNs]
  | z :: zs, pre, rest, h => by
    simp only [List.length_cons, getNs, List.flatMap_cons]
    have hd : (pre ++ (putN z ++ zs.flatMap putN ++ rest)).drop pre.length = putN z ++ (zs.flatMap putN ++ rest) := by
      rw [List.drop_left, List.append_assoc]
    rw [hd, getF_put (h z (by simp))]
    simp only
    have ih := getNs_put zs (pre ++ putN z) rest fun x hx => h x (by simp [hx])
    rw [List.length_append] at ih
    have e : pre ++ (putN z ++ zs.flatMap putN ++ rest) = pre ++ putN z ++ (zs.flatMap putN ++ rest) := by simp
    rw [e, ih]
    simp; omega
theorem listF_put (zs : List Int) (pre rest : List UInt8) (h : ∀ z ∈ zs, Small z) (hl : zs.length ≤ 100) : listF (pre ++ (putLs zs ++ rest)) pre.length = some (zs, pre.length + (putLs zs).length) := by
  unfold listF putLs
  have hd : (pre ++ (putN zs.length ++ zs.flatMap putN ++ rest)).drop pre.length = putN zs.length ++ (zs.flatMap putN ++ rest) := by rw [List.drop_left, List.append_assoc]
  rw [hd, getF_put ⟨by omega, by omega⟩]
  simp only
  rw [if_pos (by simp [inB]; omega), Int.toNat_natCast]
  have e : pre ++ (putN zs.length ++ zs.flatMap putN ++ rest) = pre ++ putN zs.length ++ (zs.flatMap putN ++ rest) := by simp
  have := getNs_put zs (pre ++ putN zs.length) rest h
  rw [List.length_append] at this
  rw [e, this, List.length_append]
  simp; omega
theorem getListF_put (zs : List Int) (pre rest : List UInt8) (h : ∀ z ∈ zs, Small z) (hl : zs.length ≤ 100) : getListF (pre ++ (putLs zs ++ rest)) pre.length = (zs, (pre.length : Int) + (putLs zs).length, true) := by
  unfold getListF
  rw [if_pos (by simp [inB]; omega), Int.toNat_natCast, listF_put zs pre rest h hl]
  simp [listRes]
theorem getListF_cut (zs : List Int) (h : ∀ z ∈ zs, Small z) (hl : zs.length ≤ 100) : getListF ((putLs zs).take ((putLs zs).length - 1)) 0 = ([], 0, false) := by
  have hpos : 0 < (putLs zs).length := by unfold putLs; have := putN_pos zs.length; rw [List.length_append]; omega
  unfold getListF
  rw [if_pos (by simp [inB])]
  suffices listF ((putLs zs).take ((putLs zs).length - 1)) 0 = none by rw [show (0 : Int).toNat = 0 from rfl, this]; rfl
  rcases List.eq_nil_or_concat zs with rfl | ⟨ys, z, rfl⟩
  · unfold listF putLs
    have := getF_cut (n := 0) (k := (putN 0).length - 1) (by have := putN_pos 0; omega)
    simp only [List.length_nil, List.flatMap_nil, List.append_nil, List.drop_zero]
    rw [show (((0 : Nat) : Int)) = 0 from rfl, this]
  · rw [List.concat_eq_append] at h hl hpos ⊢
    unfold listF
    have hz := putN_pos z
    have e : (putLs (ys ++ [z])).take ((putLs (ys ++ [z])).length - 1) = putN (ys ++ [z]).length ++ (ys.flatMap putN ++ (putN z).take ((putN z).length - 1)) := by
      unfold putLs
      simp only [List.flatMap_append, List.flatMap_cons, List.flatMap_nil, List.append_nil]
      rw [← List.append_assoc, List.length_append, show (putN ((ys ++ [z]).length : Nat) ++ List.flatMap putN ys).length + (putN z).length - 1 = (putN ((ys ++ [z]).length : Nat) ++ List.flatMap putN ys).length + ((putN z).length - 1) by omega, List.take_append, List.take_of_length_le (by omega), List.append_assoc]
      congr 2
      rw [Nat.add_sub_cancel_left]
    rw [e, List.drop_zero, getF_put ⟨by omega, by omega⟩]
    simp only
    rw [if_pos (by simp only [List.length_append, List.length_singleton] at hl ⊢; simp [inB]; omega), Int.toNat_natCast]
    have h1 := getNs_put ys (putN (ys ++ [z]).length) ((putN z).take ((putN z).length - 1)) fun x hx => h x (by simp [hx])
    have h2 : getF ((putN (ys ++ [z]).length ++ (ys.flatMap putN ++ (putN z).take ((putN z).length - 1))).drop ((putN (ys ++ [z]).length).length + (ys.flatMap putN).length)) = none := by
      rw [← List.append_assoc, ← List.length_append, List.drop_left]
      exact getF_cut (by omega)
    rw [Nat.zero_add]
    exact getNs_stop h1 h2 (by simp)
theorem getNumF_at2 {l : List UInt8} {p : Nat} (hp : p ≤ l.length) : getNumF l p = getRes p (getF (l.drop p)) := by
  unfold getNumF; rw [if_pos (by simp [inB]; omega), Int.toNat_natCast]
theorem getNumF_put {n : Int} (hn : Small n) (pre rest : List UInt8) : getNumF (pre ++ (putN n ++ rest)) pre.length = (n, (pre.length : Int) + (putN n).length, true) := by
  rw [getNumF_at2 (by simp), List.drop_left, getF_put hn]; rfl
theorem getTF_put (t pre : List UInt8) (ht : t.length ≤ 40000) : getTF (pre ++ (putN t.length ++ t)) pre.length = (t, (pre.length : Int) + (putN t.length).length + t.length, true) := by
  have h := getNumF_put (n := t.length) ⟨by omega, by omega⟩ pre t
  unfold getTF
  rw [h]
  simp only
  rw [if_pos]
  · have e : ((pre.length : Int) + (putN (t.length : Nat)).length).toNat = (pre ++ putN (t.length : Nat)).length := by rw [List.length_append]; omega
    rw [e, ← List.append_assoc, List.drop_left, Int.toNat_natCast, List.take_length]
  · simp only [List.length_append, Bool.true_and, Bool.and_eq_true, decide_eq_true_eq, inB_iff]
    omega
theorem getTF_cut (t : List UInt8) (ht : t.length ≤ 40000) : (getTF ((putN t.length ++ t).take ((putN t.length ++ t).length - 1)) 0).2.2 = false := by
  have hp := putN_pos t.length
  unfold getTF
  rcases Nat.eq_zero_or_pos t.length with h0 | h0
  · have : t = [] := List.eq_nil_of_length_eq_zero h0
    subst this
    have h1 := getF_cut (n := 0) (k := (putN 0).length - 1) (by have := putN_pos 0; omega)
    have h2 : getNumF ((putN (([] : List UInt8).length : Nat) ++ []).take ((putN (([] : List UInt8).length : Nat) ++ ([] : List UInt8)).length - 1)) 0 = (0, 0, false) := by
      unfold getNumF
      rw [if_pos (by simp [inB])]
      simp only [List.append_nil, List.length_nil]
      rw [show (0 : Int).toNat = 0 from rfl, List.drop_zero, show (((0 : Nat) : Int)) = 0 from rfl, h1]; rfl
    rw [h2]; simp
  · have e : (putN t.length ++ t).take ((putN t.length ++ t).length - 1) = [] ++ (putN t.length ++ t.take (t.length - 1)) := by
      rw [List.nil_append, List.length_append, show (putN (t.length : Nat)).length + t.length - 1 = (putN (t.length : Nat)).length + (t.length - 1) by omega, List.take_append, List.take_of_length_le (by omega), Nat.add_sub_cancel_left]
    have h := getNumF_put (n := t.length) ⟨by omega, by omega⟩ [] (t.take (t.length - 1))
    rw [← e] at h
    rw [show (([] : List UInt8).length : Int) = 0 from rfl] at h
    rw [h]
    simp only
    rw [if_neg]
    rw [e]
    simp only [List.nil_append, List.length_append, List.length_take, Bool.true_and, Bool.and_eq_true, decide_eq_true_eq, inB_iff]
    omega
/-! ### The greatest common divisor -/
theorem gcdL_dvd {zs : List Int} {z : Int} (h : z ∈ zs) : gcdL zs ∣ z.natAbs := by
  have key : ∀ (zs : List Int) (g : Nat), zs.foldl (fun g z => Nat.gcd g z.natAbs) g ∣ g ∧ ∀ z ∈ zs, zs.foldl (fun g z => Nat.gcd g z.natAbs) g ∣ z.natAbs := by
    intro zs
    induction zs with
    | nil => intro g; exact ⟨Nat.dvd_refl _, by simp⟩
    | cons x xs ih =>
      intro g
      obtain ⟨h1, h2⟩ := ih (Nat.gcd g x.natAbs)
      refine ⟨Nat.dvd_trans h1 (Nat.gcd_dvd_left _ _), fun z hz => ?_⟩
      rcases List.mem_cons.1 hz with rfl | hz
      · exact Nat.dvd_trans h1 (Nat.gcd_dvd_right _ _)
      · exact h2 z hz
  exact (key zs 0).2 z h
theorem gcdL_zero {zs : List Int} : gcdL zs = 0 ↔ ∀ z ∈ zs, z = 0 := by
  constructor
  · intro h z hz
    have := gcdL_dvd hz
    rw [h] at this
    have := Nat.eq_zero_of_zero_dvd this
    omega
  · intro h
    have key : ∀ zs : List Int, (∀ z ∈ zs, z = 0) → zs.foldl (fun g z => Nat.gcd g z.natAbs) 0 = 0 := by
      intro zs
      induction zs with
      | nil => intro _; rfl
      | cons x xs ih =>
        intro h
        have := h x (by simp)
        subst this
        exact ih fun z hz => h z (by simp [hz])
    exact key zs h
theorem gcd_fold_mul (d : Nat) : ∀ (ys : List Int) (g : Nat), (ys.map fun y => (d : Int) * y).foldl (fun g z => Nat.gcd g z.natAbs) (d * g) = d * ys.foldl (fun g z => Nat.gcd g z.natAbs) g
  | [], _ => rfl
  | y :: ys, g => by
    simp only [List.map_cons, List.foldl_cons]
    rw [Int.natAbs_mul, Int.natAbs_natCast, Nat.gcd_mul_left]
    exact gcd_fold_mul d ys _
theorem gcdL_mul (d : Nat) (ys : List Int) : gcdL (ys.map fun y => (d : Int) * y) = d * gcdL ys := by
  have := gcd_fold_mul d ys 0
  rw [Nat.mul_zero] at this
  exact this
/-- The quotients have no common divisor. -/
theorem gcdL_quot {zs : List Int} (h : 0 < gcdL zs) : gcdL (zs.map fun z => z.tdiv (gcdL zs)) = 1 := by
  have e : (zs.map fun z => z.tdiv (gcdL zs)).map (fun y => (gcdL zs : Int) * y) = zs := by
    rw [List.map_map]
    conv => rhs; rw [← List.map_id zs]
    apply List.map_congr_left
    intro z hz
    have hd := gcdL_dvd hz
    have : (gcdL zs : Int) ∣ z := Int.ofNat_dvd_left.2 hd
    simp only [Function.comp, id]
    exact Int.mul_tdiv_cancel' this
  have h2 := gcdL_mul (gcdL zs) (zs.map fun z => z.tdiv (gcdL zs))
  rw [e] at h2
  have h3 : gcdL zs * gcdL (zs.map fun z => z.tdiv (gcdL zs)) = gcdL zs * 1 := by rw [← h2, Nat.mul_one]
  exact Nat.eq_of_mul_eq_mul_left h h3
theorem tmod_gcd {zs : List Int} {z : Int} (hz : z ∈ zs) : z.tmod (gcdL zs) = 0 := Int.tmod_eq_zero_of_dvd (Int.ofNat_dvd_left.2 (gcdL_dvd hz))
theorem divFl_props (z b : Int) (hz : Small z) (hb : 1 ≤ b) (hb2 : b ≤ 20) : divFl z b * b ≤ z ∧ z - divFl z b * b < b ∧ -1000000000000001 ≤ divFl z b ∧ divFl z b ≤ 1000000000000000 := by
  have h1 := Int.mul_tdiv_add_tmod z b
  have h2 := tdiv_bd z b hz.1 hz.2 hb
  have h3 : z.tmod b < b := Int.tmod_lt_of_pos _ (by omega)
  have h4 : -b < z.tmod b := by
    have := Int.lt_tmod_of_pos z (show 0 < b by omega)
    omega
  have e : z.tdiv b * b = b * z.tdiv b := Int.mul_comm _ _
  unfold divFl
  split
  · rename_i hneg
    rw [Int.sub_mul]
    omega
  · omega
end Go.Proofs.Ytlipoonopajgdaa
