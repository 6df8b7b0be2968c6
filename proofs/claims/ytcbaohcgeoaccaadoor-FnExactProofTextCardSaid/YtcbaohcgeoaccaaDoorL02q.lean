/- Contracts: sequents and counterexamples. -/
import Derived.Test.YtcbaohcgeoaccaaDoorHSeq
import Derived.Test.YtcbaohcgeoaccaaDoorL03o
namespace Go.Proofs.YtcbaohcgeoaccaaDoor
open Go.RowKit

def validSq (s : Sq) : Bool := areTerms s.1 13 && validTerm s.2
def counterB (s : Sq) (vs : List Int) : Bool := holdsF s.1 vs && decide (evalT s.2 vs < 0)
def counterF (s : Sq) (vs : List Int) : Bool := (validSq s && valuesOk vs) && counterB s vs
theorem validSq_iff {s : Sq} (h : validSq s = true) : s.1.length ≤ 13 ∧ (∀ t ∈ s.1, validTerm t = true ∧ t.2.length ≤ 10) ∧ validTerm s.2 = true ∧ s.2.2.length ≤ 10 := by
  simp only [validSq, areTerms, Bool.and_eq_true, decide_eq_true_eq, List.all_eq_true] at h
  obtain ⟨⟨h1, h2⟩, h3⟩ := h
  exact ⟨by omega, fun t ht => ⟨h2 t ht, (validTerm_iff (h2 t ht)).1⟩, h3, (validTerm_iff h3).1⟩
theorem valuesOk_iff {vs : List Int} (h : valuesOk vs = true) : vs.length = 10 ∧ ∀ v ∈ vs, Big v := by
  simp only [valuesOk, Bool.and_eq_true, decide_eq_true_eq] at h
  exact ⟨h.1, big_of h.2⟩
set_option maxRecDepth 100000 in
theorem c_ValidSequent {S : Nat → Prop} {d1 : Int} {a0 : Option Addr} {p0 : Nat} {d0 : List Term} {a2 : Option Addr} {p2 : Nat} {d2 : List Int} {w : World} (h0 : SlRd cTerm S w a0 p0 d0) (h2 : SlRd cInt S w a2 p2 d2) :
    Calls Tryd.prog 86 #[.agg #[.slice a0 d0.length p0, .int .i64 d1, .slice a2 d2.length p2]] w fun e w' => e = .returned (.bool (validSq (d0, d1, d2))) ∧ Below w.heap.size w w' := by
  have H0 := hid (h0.alloc (.cells #[.slice a0 d0.length p0, .int .i64 d1, .slice a2 d2.length p2] 61))
  have H2 := hid (h2.alloc (.cells #[.slice a0 d0.length p0, .int .i64 d1, .slice a2 d2.length p2] 61))
  have HB : Hid (Below w.heap.size w (w.alloc (.cells #[.slice a0 d0.length p0, .int .i64 d1, .slice a2 d2.length p2] 61))) := (Below.refl _ _).alloc (Nat.le_refl _) _
  clear h0 h2
  obtain ⟨r, hr⟩ : ∃ r, areTerms d0 13 = r := ⟨_, rfl⟩
  have HF : Hid (validSq (d0, d1, d2) = (r && validTerm (d1, d2))) := by unfold Hid validSq; rw [hr]
  have HR := hid hr
  clear hr
  cases r
  · go_enter Tryd.func86, Tryd.ntmps86
    go_wp2_with (go_at_call 126; refine (c_areTerms _ _ _ _ _ H0.out).mono ?_; rintro e w1 ⟨rfl, hb1⟩; rw [HR.out])
    go_ret
    exact ⟨ret_bool (by rw [HF.out]; rfl), bel_next HB.out HB.out.size hb1⟩
  · go_enter Tryd.func86, Tryd.ntmps86
    go_wp2_with fail
    refine (c_areTerms _ _ _ _ _ H0.out).mono ?_
    rintro e w1 ⟨rfl, hb1⟩
    rw [HR.out]
    have t0 := cell_below hb1 (b := w.heap.size) (o := 0) (v := .slice a0 d0.length p0) (by simp) (by simp [go_sem])
    have t1 := cell_below hb1 (b := w.heap.size) (o := 1) (v := .int .i64 d1) (by simp) (by simp [go_sem])
    have t2 := cell_below hb1 (b := w.heap.size) (o := 2) (v := .slice a2 d2.length p2) (by simp) (by simp [go_sem])
    have HB1 := hid (bel_next HB.out HB.out.size hb1)
    have H2' := hid (H2.out.below (Nat.le_refl _) hb1)
    clear hb1
    go_wp2_with (go_at_call 75; refine (c_ValidTerm _ _ _ _ _ H2'.out).mono ?_; rintro e w2 ⟨rfl, hb2⟩)
    go_ret
    exact ⟨ret_bool (by rw [HF.out]; rfl), bel_next HB1.out HB1.out.size hb2⟩
theorem c_l02Sequent {S : Nat → Prop} {b o : Nat} {d1 : Int} {a0 : Option Addr} {p0 : Nat} {d0 : List Term} {a2 : Option Addr} {p2 : Nat} {d2 : List Int} {w : World} (t0 : w.cell? ⟨b, o, none⟩ = some (.slice a0 d0.length p0)) (t1 : w.cell? ⟨b, o + 1, none⟩ = some (.int .i64 d1)) (t2 : w.cell? ⟨b, o + 1 + 1, none⟩ = some (.slice a2 d2.length p2)) (h0 : SlRd cTerm S w a0 p0 d0) (h2 : SlRd cInt S w a2 p2 d2) :
    Calls Tryd.prog 83 #[.pointer (some ⟨b, o, none⟩)] w fun e w' => e = .returned (.bool (validSq (d0, d1, d2))) ∧ w = w' := by
  have H0 := hid h0
  have HC := hid (c_l02Is _ _ _ _ _ _ _ t1 t2 h2)
  clear h0 h2
  obtain ⟨r, hr⟩ : ∃ r, areTerms d0 13 = r := ⟨_, rfl⟩
  have HF : Hid (validSq (d0, d1, d2) = (r && validTerm (d1, d2))) := by unfold Hid validSq; rw [hr]
  have HR := hid hr
  clear hr
  cases r
  all_goals
    go_enter Tryd.func83, Tryd.ntmps83
    go_wp2_with (first | (go_at_call 125; refine (c_l02All _ _ _ _ _ H0.out).mono ?_; rintro e w1 ⟨rfl, rfl⟩; rw [HR.out]) | (go_at_call 72; refine HC.out.mono ?_; rintro e w1 ⟨rfl, rfl⟩))
    go_ret
    exact ⟨ret_bool (by rw [HF.out]; rfl), rfl⟩
end Go.Proofs.YtcbaohcgeoaccaaDoor
