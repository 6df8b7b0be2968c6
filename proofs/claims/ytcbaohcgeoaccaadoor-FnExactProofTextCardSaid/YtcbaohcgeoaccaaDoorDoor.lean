/- What the reading of a row that lists Go's own variables gives to the walks. -/
import Derived.Test.YtcbaohcgeoaccaaDoorD02
import Derived.Test.YtcbaohcgeoaccaaDoorEnvM
import Derived.Test.YtcbaohcgeoaccaaDoorEnvE
import Derived.Deep.DeepHandedRow
import Derived.Lib.LaidTab
import Derived.Lay
import Derived.Stop.LaidErr
import Derived.MakeChecks
namespace Go.Proofs.YtcbaohcgeoaccaaDoor
open Go.RowKit

theorem laid_drop {P : Program} {w : World} : ∀ (i : Nat) (l : List (String × DataW Unit)), laidMet P l w → laidMet P (l.drop i) w
  | 0, _, h => h
  | _ + 1, [], h => h
  | i + 1, _ :: r, h => laid_drop i r h.tail
theorem laid_from {P : Program} {w : World} {l r : List (String × DataW Unit)} (i : Nat) (h : laidMetH P l w) (hp : (l.all fun x => x.2.handleName?.isNone) = true) (hd : l.drop i = r) : laidMet P r w := by
  rw [MakeChecks.laidMetH_plain _ _ _ hp] at h
  rw [← hd]; exact laid_drop i l h
theorem tab_of {W : World} {r : List (String × DataW Unit)} (h : laidMet Tryd.prog (("internal/strconv.uint64pow10", Lib.tabData .u64 Lib.pow10Tab) :: r) W) : TabE W.heap.size W :=
  ⟨Lib.tabBelow_of_tabIs (Lib.tabIs_of_head (g := 0) (t := 181) (e := 155) (n := 20) (by kernel_rfl) (by kernel_rfl) Tryd.underlying181 Tryd.underlying155 (by kernel_rfl) (by kernel_rfl) h), Nat.le_refl _⟩
end Go.Proofs.YtcbaohcgeoaccaaDoor
