/- Contracts: valid annotated code. -/
import Derived.Test.YtedmhdinfedhhaaHAnn
import Derived.Test.YtedmhdinfedhhaaL03o
import Derived.Test.YtedmhdinfedhhaaL07c
import Derived.Test.YtedmhdinfedhhaaL07p
import Derived.Deep.RegionHeld3
import Derived.Outline
import Derived.Test.YtedmhdinfedhhaaRgH
namespace Go.Proofs.Ytedmhdinfedhhaa

open Go.RowKit

def stepOk (n : Nat) (ps : List Pt) (i : Nat) : Bool := match ps[i]? with
  | some p => (areOverF p.2 6 && inB p.1 0 ((n : Int) - 1)) && (i == 0 || (match ps[i - 1]? with | some q => decide (q.1 < p.1) | none => false))
  | none => true
def ptsOk (n : Nat) (ps : List Pt) (k : Nat) : Bool := (List.range k).all (stepOk n ps)
def headOk (a : An) : Bool := ((validCode a.2.2.1 && areOverF a.1 6) && areOverF a.2.1 6) && decide (a.2.2.2.length ≤ 8)
def validAn (a : An) : Bool := headOk a && ptsOk a.2.2.1.length a.2.2.2 a.2.2.2.length
theorem ptsOk_succ {n : Nat} {ps : List Pt} {k : Nat} (h : ptsOk n ps k = true) : ptsOk n ps (k + 1) = stepOk n ps k := by
  unfold ptsOk at h ⊢; rw [List.range_succ, List.all_append, h]; simp
theorem ptsOk_false {n : Nat} {ps : List Pt} {k m : Nat} (h : stepOk n ps k = false) (hk : k < m) : ptsOk n ps m = false := by
  unfold ptsOk; rw [List.all_eq_false]; exact ⟨k, by simpa using hk, by simp [h]⟩
theorem stepOk_zero {n : Nat} {ps : List Pt} {p : Pt} (h : ps[0]? = some p) : stepOk n ps 0 = (areOverF p.2 6 && inB p.1 0 ((n : Int) - 1)) := by unfold stepOk; rw [h]; simp
theorem stepOk_succ {n : Nat} {ps : List Pt} {p q : Pt} {k : Nat} (h : ps[k + 1]? = some p) (hq : ps[k]? = some q) : stepOk n ps (k + 1) = ((areOverF p.2 6 && inB p.1 0 ((n : Int) - 1)) && decide (q.1 < p.1)) := by
  unfold stepOk; rw [h]; simp [hq]
theorem c_isIndex (k : Int) (n : Nat) (w : World) (hn : n ≤ 1000000) : Calls Try.prog 117 #[.int .i64 k, .int .i64 n] w fun e w' => e = .returned (.bool (inB k 0 ((n : Int) - 1))) ∧ w = w' := by
  go_enter Try.func117, Try.ntmps117
  go_wp2_with (first | (go_at_call 147; refine (c_size _ _).mono ?_; rintro e w' ⟨rfl, rfl⟩) | (go_at_call 73; refine (c_within _ _ _ _).mono ?_; rintro e w' ⟨rfl, rfl⟩))
  go_ret
  exact ⟨rfl, rfl⟩
theorem c_l08Facts {S : Nat → Prop} (a : Option Addr) (cap : Nat) (ts : List Term) (w : World) (h : SlRd cTerm S w a cap ts) :
    Calls Try.prog 111 #[.slice a ts.length cap] w fun e w' => e = .returned (.bool (areOverF ts 6)) ∧ w = w' := by
  have hl := h.len_le
  have H := hid h
  clear h
  go_enter Try.func111, Try.ntmps111
  go_wp2
  go_loop [3] (fun i => ∃ k : Nat, k ≤ ts.length ∧ i = .int .i64 k ∧ Hid ((ts.take k).all overT = true)) (fun i => ts.length - (intOf i).toNat)
  case atStart => exact ⟨0, Nat.zero_le _, rfl, rfl⟩
  case round =>
    obtain ⟨k, hk, rfl, HA⟩ := hrel
    by_cases hlt : k < ts.length
    · obtain ⟨b, off, rfl⟩ := H.out.some_of hlt
      obtain ⟨c, zs, a', cap', hz, hc1, hsl, hc, hc', hb⟩ := H.out.term_at k hlt
      have hzl := hsl.len_le
      have HZ := hid hz
      have HC := hid (c_l02Is _ _ _ _ _ _ _ hc hc' hsl)
      obtain ⟨r, hr⟩ : ∃ r, validTerm (c, zs) = r := ⟨_, rfl⟩
      have HR := hid hr
      clear hz hr hsl
      by_cases h4 : zs.length ≤ 4
      · have h4' : decide ((4 : Int) < zs.length) = false := by simp; omega
        have HO : Hid (overT (c, zs) = r) := by unfold Hid overT; rw [HR.out]; simp [h4]
        cases r
        · go_wp2_with (go_at_call 86; refine HC.out.mono ?_; rintro e w' ⟨rfl, rfl⟩; rw [HR.out])
          go_ret
          exact ⟨ret_bool (by simp [areOverF, all_false HZ.out HO.out]), rfl⟩
        · go_wp2_with (go_at_call 86; refine HC.out.mono ?_; rintro e w' ⟨rfl, rfl⟩; rw [HR.out])
          go_round
          case rel => exact ⟨k + 1, by omega, by go_num, (all_take HA.out HZ.out).trans HO.out⟩
          case measure => simp [intOf]; omega
      · have h4' : decide ((4 : Int) < zs.length) = true := by simp; omega
        have HO : Hid (overT (c, zs) = false) := by unfold Hid overT; simp [h4]
        cases r
        all_goals
          go_wp2_with (go_at_call 86; refine HC.out.mono ?_; rintro e w' ⟨rfl, rfl⟩; rw [HR.out])
          go_ret
          exact ⟨ret_bool (by simp [areOverF, all_false HZ.out HO.out]), rfl⟩
    · go_wp2
      go_ret
      exact ⟨ret_bool (by simp only [areOverF, all_end HA.out (by omega)]; rw [Bool.eq_iff_iff]; simp <;> omega), rfl⟩
end Go.Proofs.Ytedmhdinfedhhaa
