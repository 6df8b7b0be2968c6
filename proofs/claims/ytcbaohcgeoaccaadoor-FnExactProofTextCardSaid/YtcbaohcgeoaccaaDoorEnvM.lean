/- Go's own variable internal/bytealg.MaxLen holds some number, whatever is done from block B on. -/
import Derived.Test.YtcbaohcgeoaccaaDoorShelf
import Derived.Test.YtcbaohcgeoaccaaDoorBase
namespace Go.Proofs.YtcbaohcgeoaccaaDoor
open Go.RowKit
def MaxE (B : Nat) (w : World) : Prop := (∃ m : Int, w.cell? ⟨3, 0, none⟩ = some (.int .i64 m)) ∧ 3 < B ∧ B ≤ w.heap.size
theorem MaxE.belows {B : Nat} {w w' : World} (h : MaxE B w) (hb : Below B w w') : MaxE B w' := by
  obtain ⟨⟨m, h1⟩, h2, h3⟩ := h
  exact ⟨⟨m, (hb.cell (p := ⟨3, 0, none⟩) h2).trans h1⟩, h2, Nat.le_trans h3 hb.size⟩
theorem MaxE.on {B : Nat} {w w' : World} (h : MaxE B w) (hb : Below w.heap.size w w') : MaxE B w' := h.belows (hb.mono h.2.2)
theorem max_of {W : World} (h : W.ShapedOpen Tryd.prog) : MaxE W.heap.size W := by
  obtain ⟨m, hm⟩ := cell_of_shapedOpen_int (P := Tryd.prog) (g := 3) (t := 3) (zero := #[.int .i64 0]) h (of_decide_eq_true (by kernel_rfl)) (by kernel_rfl) rfl (by kernel_rfl) (by kernel_rfl) Tryd.underlying3
  exact ⟨⟨m, hm⟩, World.block_lt_of_cell? W ⟨3, 0, none⟩ hm, Nat.le_refl _⟩
end Go.Proofs.YtcbaohcgeoaccaaDoor
