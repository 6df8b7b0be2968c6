/- Go's own variables strconv.ErrRange and strconv.ErrSyntax hold errors, whatever is done from block B on. -/
import Derived.Test.YtcbaohcgeoaccaaDoorShelf
import Derived.Test.YtcbaohcgeoaccaaDoorBase
import Derived.Stop.LaidErr
namespace Go.Proofs.YtcbaohcgeoaccaaDoor
open Go.RowKit
def VarB (B : Nat) (w : World) (n : String) : Prop := ∃ tp p, ∀ w', Below B w w' → w'.var? Tryd.prog n = some #[.iface tp p]
theorem VarB.belows {B : Nat} {w w' : World} {n : String} (h : VarB B w n) (hb : Below B w w') : VarB B w' n := by
  obtain ⟨tp, p, h⟩ := h
  exact ⟨tp, p, fun w2 h2 => h w2 (hb.trans h2)⟩
theorem varB_of {w : World} {n : String} {tp : TypeId} {p : Value} (h : w.var? Tryd.prog n = some #[.iface tp p]) : VarB w.heap.size w n := by
  refine ⟨tp, p, fun w' hb => ?_⟩
  unfold World.var? at *
  cases hg : Tryd.prog.globalNamed n with
  | none => simp [hg] at h
  | some g =>
    simp only [hg, Option.bind_some] at h ⊢
    have hlt : g < w.heap.size := by
      rcases Nat.lt_or_ge g w.heap.size with h' | h'
      · exact h'
      · rw [Array.getElem?_eq_none h'] at h; simp at h
    rw [hb.block g hlt]
    exact h
def ErrE (B : Nat) (w : World) : Prop := VarB B w "strconv.ErrRange" ∧ VarB B w "strconv.ErrSyntax" ∧ B ≤ w.heap.size
theorem ErrE.belows {B : Nat} {w w' : World} (h : ErrE B w) (hb : Below B w w') : ErrE B w' := ⟨h.1.belows hb, h.2.1.belows hb, Nat.le_trans h.2.2 hb.size⟩
theorem ErrE.on {B : Nat} {w w' : World} (h : ErrE B w) (hb : Below w.heap.size w w') : ErrE B w' := h.belows (hb.mono h.2.2)
theorem starErr : "*" ++ "errors.errorString" = "*errors.errorString" := by decide
theorem rowErr (u : TypeId) (h : Tryd.prog.typeName? 3 u = some "*errors.errorString") : u = 198 :=
  typeName_ptr_named (nm := "errors.errorString") (by rw [starErr]; kernel_rfl) (by kernel_rfl) (by decide) u (by rw [starErr]; exact h)
theorem err_of {W : World} {r : List (String × DataW Unit)} (h : laidMet Tryd.prog (("strconv.ErrRange", .iface "*errors.errorString" (.ptr (.agg [.lit (.string [118, 97, 108, 117, 101, 32, 111, 117, 116, 32, 111, 102, 32, 114, 97, 110, 103, 101])]))) :: ("strconv.ErrSyntax", .iface "*errors.errorString" (.ptr (.agg [.lit (.string [105, 110, 118, 97, 108, 105, 100, 32, 115, 121, 110, 116, 97, 120])]))) :: r) W) : ErrE W.heap.size W := by
  obtain ⟨a0, s0, hv0, -, -, -⟩ := laid_sentinel h (g := 2) (by kernel_rfl) (by kernel_rfl) Tryd.underlying110 rowErr Tryd.underlying198 Tryd.underlying200 rfl rfl Tryd.underlying9 (by kernel_rfl) (by kernel_rfl)
  obtain ⟨a1, s1, hv1, -, -, -⟩ := laid_sentinel h.tail (g := 1) (by kernel_rfl) (by kernel_rfl) Tryd.underlying110 rowErr Tryd.underlying198 Tryd.underlying200 rfl rfl Tryd.underlying9 (by kernel_rfl) (by kernel_rfl)
  exact ⟨varB_of hv0, varB_of hv1, Nat.le_refl _⟩
end Go.Proofs.YtcbaohcgeoaccaaDoor
