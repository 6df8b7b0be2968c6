/- Contracts: the symbols of terms. -/
import Derived.Test.YtkckhnpdodbffaaL02yp
import Derived.Test.YtkckhnpdodbffaaL02s
import Derived.Test.YtkckhnpdodbffaaApp
import Derived.Test.YtkckhnpdodbffaaHlp
import Derived.Test.YtkckhnpdodbffaaL07c
import Derived.Outline
namespace Go.Proofs.Ytkckhnpdodbffaa
open Go.RowKit

theorem c_coeff {S : Nat → Prop} (c : Int) (a : Option Addr) (p : Nat) (zs : List Int) (k : Nat) (w : World) (h : SlRd cInt S w a p zs) :
    Calls Try.prog 37 #[.agg #[.int .i64 c, .slice a zs.length p], .int .i64 k] w fun e w' => e = .returned (.int .i64 (coefAt (c, zs) k)) ∧ Below w.heap.size w w' := by
  have hl := h.len_le
  have H := hid (h.alloc (.cells #[.int .i64 c, .slice a zs.length p] 39))
  clear h
  by_cases hk : k < zs.length
  · obtain ⟨b, off, rfl⟩ := H.out.some_of hk
    obtain ⟨z, hz, hzz, hc, hb⟩ := H.out.int_at k hk
    have HF : Hid (coefAt (c, zs) k = z) := by unfold Hid coefAt; simp only; rw [List.getD_eq_getElem?_getD, hz]; rfl
    have i0 : (0 : Int) ≤ (k : Int) := by omega
    have i1 : (k : Int) < (zs.length : Int) := by omega
    clear hz
    go_enter Try.func37, Try.ntmps37
    go_wp2
    go_ret
    exact ⟨ret_int HF.out.symm, (Below.refl _ _).alloc (Nat.le_refl _) _⟩
  · have HF : Hid (coefAt (c, zs) k = 0) := by unfold Hid coefAt; simp only; rw [List.getD_eq_getElem?_getD, List.getElem?_eq_none (by omega)]; rfl
    go_enter Try.func37, Try.ntmps37
    go_wp2
    go_ret
    exact ⟨ret_int HF.out.symm, (Below.refl _ _).alloc (Nat.le_refl _) _⟩
end Go.Proofs.Ytkckhnpdodbffaa
