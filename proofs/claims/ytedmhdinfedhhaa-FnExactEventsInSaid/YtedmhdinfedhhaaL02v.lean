/- Contracts of chapter 2: values of terms. -/
import Derived.Test.YtedmhdinfedhhaaL02s
import Derived.Test.YtedmhdinfedhhaaHlp
namespace Go.Proofs.Ytedmhdinfedhhaa
open Go.RowKit

def dotK (zs vs : List Int) : Nat → Int
  | 0 => 0
  | k + 1 => dotK zs vs k + zs.getD k 0 * vs.getD k 0
def evalT (t : Term) (vs : List Int) : Int := t.1 + dotK t.2 vs t.2.length
def Mid (z : Int) : Prop := -1000000 ≤ z ∧ z ≤ 1000000
def Big (z : Int) : Prop := -1000000000 ≤ z ∧ z ≤ 1000000000
theorem mul_bd {z v : Int} (hz : Mid z) (hv : Big v) : -1000000000000000 ≤ z * v ∧ z * v ≤ 1000000000000000 := by
  obtain ⟨a, b⟩ := hz
  obtain ⟨c, d⟩ := hv
  have h : (z * v).natAbs ≤ 1000000 * 1000000000 := by rw [Int.natAbs_mul]; exact Nat.mul_le_mul (by omega) (by omega)
  omega
theorem dotK_bd {zs vs : List Int} (hz : ∀ z ∈ zs, Mid z) (hv : ∀ v ∈ vs, Big v) : ∀ k : Nat, -(1000000000000000 * (k : Int)) ≤ dotK zs vs k ∧ dotK zs vs k ≤ 1000000000000000 * (k : Int) := by
  intro k
  induction k with
  | zero => simp [dotK]
  | succ k ih =>
    have h1 : Mid (zs.getD k 0) := by
      rw [List.getD_eq_getElem?_getD]
      cases h : zs[k]? with
      | none => simp [Mid]
      | some z => exact hz z (List.mem_of_getElem? h)
    have h2 : Big (vs.getD k 0) := by
      rw [List.getD_eq_getElem?_getD]
      cases h : vs[k]? with
      | none => simp [Big]
      | some z => exact hv z (List.mem_of_getElem? h)
    have := mul_bd h1 h2
    simp only [dotK]
    omega
theorem dotK_succ {zs vs : List Int} {k : Nat} {z v : Int} (h1 : zs[k]? = some z) (h2 : vs[k]? = some v) : dotK zs vs (k + 1) = dotK zs vs k + z * v := by
  simp only [dotK, List.getD_eq_getElem?_getD, h1, h2, Option.getD_some]
theorem mid_of {zs : List Int} (h : allIn zs (-1000000) 1000000 = true) : ∀ z ∈ zs, Mid z := fun z hz => inB_iff.1 (List.all_eq_true.1 h z hz)
theorem big_of {zs : List Int} (h : allIn zs (-1000000000) 1000000000 = true) : ∀ z ∈ zs, Big z := fun z hz => inB_iff.1 (List.all_eq_true.1 h z hz)
theorem validTerm_iff {t : Term} (h : validTerm t = true) : t.2.length ≤ 10 ∧ Mid t.1 ∧ (∀ z ∈ t.2, Mid z) ∧ lastOk t.2 = true := by
  simp only [validTerm, Bool.and_eq_true, decide_eq_true_eq] at h
  exact ⟨h.1.1.1, inB_iff.1 h.1.1.2, mid_of h.1.2, h.2⟩
def valuesOk (vs : List Int) : Bool := decide (vs.length = 10) && allIn vs (-1000000000) 1000000000
def evalF (t : Term) (vs : List Int) : Int × Bool := if validTerm t && valuesOk vs then (evalT t vs, true) else (0, false)

theorem c_eval {S T : Nat → Prop} (c : Int) (a b : Option Addr) (ca cb : Nat) (zs vs : List Int) (w : World) (hx : SlRd cInt S w a ca zs) (hy : SlRd cInt T w b cb vs) (hc : Mid c) (hz : ∀ z ∈ zs, Mid z) (hv : ∀ v ∈ vs, Big v) (hl : zs.length ≤ 10) (hlv : zs.length ≤ vs.length) :
    Calls Try.prog 128 #[.agg #[.int .i64 c, .slice a zs.length ca], .slice b vs.length cb] w fun e w' => e = .returned (.int .i64 (evalT (c, zs) vs)) ∧ Below w.heap.size w w' := by
  have HX := hid (hx.alloc (.cells #[.int .i64 c, .slice a zs.length ca] 50))
  have HY := hid (hy.alloc (.cells #[.int .i64 c, .slice a zs.length ca] 50))
  have hlen := hy.len_le
  have HZ := hid hz
  have HV := hid hv
  have HD := hid (dotK_bd hz hv)
  obtain ⟨hc1, hc2⟩ := hc
  clear hx hy hz hv
  go_enter Try.func128, Try.ntmps128
  go_wp2
  go_loopw [5, 13] (fun n i wr => ∃ k : Nat, k ≤ zs.length ∧ i = .int .i64 k ∧ n = .int .i64 (c + dotK zs vs k) ∧ Below (w.alloc (.cells #[.int .i64 c, .slice a zs.length ca] 50)).heap.size (w.alloc (.cells #[.int .i64 c, .slice a zs.length ca] 50)) wr) (fun _ i _ => zs.length - (intOf i).toNat)
  case atStart => exact ⟨0, Nat.zero_le _, rfl, by simp [dotK], Below.refl _ _⟩
  case round =>
    obtain ⟨k, hk, rfl, rfl, hbe⟩ := hrel
    by_cases hlt : k < zs.length
    · obtain ⟨b1, off1, rfl⟩ := HX.out.some_of hlt
      obtain ⟨b2, off2, rfl⟩ := HY.out.some_of (k := k) (by omega)
      obtain ⟨z, hzk, _, hcz, _⟩ := (HX.out.below (Nat.le_refl _) hbe).int_at k hlt
      obtain ⟨v, hvk, _, hcv, _⟩ := (HY.out.below (Nat.le_refl _) hbe).int_at k (by omega)
      obtain ⟨d, hd⟩ : ∃ d, dotK zs vs k = d := ⟨_, rfl⟩
      have hdb := HD.out k
      rw [hd] at hdb ⊢
      obtain ⟨p1, p2⟩ := mul_bd (HZ.out z (List.mem_of_getElem? hzk)) (HV.out v (List.mem_of_getElem? hvk))
      have HS : Hid (dotK zs vs (k + 1) = d + z * v) := by unfold Hid; rw [dotK_succ hzk hvk, hd]
      obtain ⟨d1, d2⟩ := hdb
      have d3 : -10000000000000000 ≤ d := by omega
      have d4 : d ≤ 10000000000000000 := by omega
      have i1 : (0 : Int) ≤ (k : Int) := by omega
      have i2 : (k : Int) < (zs.length : Int) := by omega
      have i3 : (k : Int) < (vs.length : Int) := by omega
      clear hzk hvk hd d1 d2
      go_wp2
      go_roundw
      case rel => exact ⟨k + 1, by omega, by go_num, by rw [HS.out]; congr 1; omega, hbe⟩
      case measure => simp [intOf]; omega
    · go_wp2
      go_ret
      have hkk : k = zs.length := by omega
      exact ⟨ret_int (by rw [hkk]; rfl), bel_box (Below.refl _ _) (Nat.le_refl _) hbe⟩
theorem c_l02Eval {S T : Nat → Prop} (b0 o0 : Nat) (c : Int) (a b : Option Addr) (ca cb : Nat) (zs vs : List Int) (w : World) (ht0 : w.cell? ⟨b0, o0, none⟩ = some (.int .i64 c)) (ht1 : w.cell? ⟨b0, o0 + 1, none⟩ = some (.slice a zs.length ca)) (hb0 : b0 < w.heap.size) (hx : SlRd cInt S w a ca zs) (hy : SlRd cInt T w b cb vs)
    (hc : Mid c) (hz : ∀ z ∈ zs, Mid z) (hv : ∀ v ∈ vs, Big v) (hl : zs.length ≤ 10) (hlv : zs.length ≤ vs.length) :
    Calls Try.prog 155 #[.pointer (some ⟨b0, o0, none⟩), .slice b vs.length cb] w fun e w' => e = .returned (.int .i64 (evalT (c, zs) vs)) ∧ Below w.heap.size w w' := by
  have HX := hid hx
  have HY := hid hy
  have hlen := hy.len_le
  have HZ := hid hz
  have HV := hid hv
  have HD := hid (dotK_bd hz hv)
  obtain ⟨hc1, hc2⟩ := hc
  clear hx hy hz hv
  go_enter Try.func155, Try.ntmps155
  go_wp2
  go_loopw [5, 6] (fun n i wr => ∃ k : Nat, k ≤ zs.length ∧ i = .int .i64 k ∧ n = .int .i64 (c + dotK zs vs k) ∧ Below w.heap.size w wr) (fun _ i _ => zs.length - (intOf i).toNat)
  case atStart => exact ⟨0, Nat.zero_le _, rfl, by simp [dotK], Below.refl _ _⟩
  case round =>
    obtain ⟨k, hk, rfl, rfl, hbe⟩ := hrel
    have ht0 := cell_below hbe hb0 ht0
    have ht1 := cell_below hbe hb0 ht1
    by_cases hlt : k < zs.length
    · obtain ⟨b1, off1, rfl⟩ := HX.out.some_of hlt
      obtain ⟨b2, off2, rfl⟩ := HY.out.some_of (k := k) (by omega)
      obtain ⟨z, hzk, _, hcz, _⟩ := (HX.out.below (Nat.le_refl _) hbe).int_at k hlt
      obtain ⟨v, hvk, _, hcv, _⟩ := (HY.out.below (Nat.le_refl _) hbe).int_at k (by omega)
      obtain ⟨d, hd⟩ : ∃ d, dotK zs vs k = d := ⟨_, rfl⟩
      have hdb := HD.out k
      rw [hd] at hdb ⊢
      obtain ⟨p1, p2⟩ := mul_bd (HZ.out z (List.mem_of_getElem? hzk)) (HV.out v (List.mem_of_getElem? hvk))
      have HS : Hid (dotK zs vs (k + 1) = d + z * v) := by unfold Hid; rw [dotK_succ hzk hvk, hd]
      obtain ⟨d1, d2⟩ := hdb
      have d3 : -10000000000000000 ≤ d := by omega
      have d4 : d ≤ 10000000000000000 := by omega
      have i1 : (0 : Int) ≤ (k : Int) := by omega
      have i2 : (k : Int) < (zs.length : Int) := by omega
      have i3 : (k : Int) < (vs.length : Int) := by omega
      clear hzk hvk hd d1 d2
      go_wp2
      go_quiet (fail)
      go_wp2
      go_roundw
      case rel => exact ⟨k + 1, by omega, by go_num, by rw [HS.out]; congr 1; omega, hbe.trans (below_drewN _ _ _)⟩
      case measure => simp [intOf]; omega
    · go_wp2
      go_ret
      have hkk : k = zs.length := by omega
      exact ⟨ret_int (by rw [hkk]; rfl), hbe⟩
theorem c_areValues {S : Nat → Prop} (a : Option Addr) (cap : Nat) (zs : List Int) (w : World) (h : SlRd cInt S w a cap zs) :
    Calls Try.prog 126 #[.slice a zs.length cap] w fun e w' => e = .returned (.bool (valuesOk zs)) ∧ w = w' := by
  have H := hid h
  clear h
  by_cases h1 : zs.length = 10
  · have h1' : ((zs.length : Int) == 10) = true := by simp [h1]
    have HF : Hid (valuesOk zs = allIn zs (-1000000000) 1000000000) := by unfold Hid; simp [valuesOk, h1]
    clear h1
    go_enter Try.func126, Try.ntmps126
    go_wp2_with (go_at_call 136; refine (c_allWithin _ _ _ _ _ _ H.out).mono ?_; rintro e w' ⟨rfl, rfl⟩)
    go_ret
    exact ⟨ret_bool HF.out.symm, rfl⟩
  · have h1' : ((zs.length : Int) == 10) = false := by simp; omega
    have HF : Hid (valuesOk zs = false) := by unfold Hid; simp [valuesOk, h1]
    clear h1
    go_enter Try.func126, Try.ntmps126
    go_wp2
    go_ret
    exact ⟨ret_bool HF.out.symm, rfl⟩
end Go.Proofs.Ytedmhdinfedhhaa
