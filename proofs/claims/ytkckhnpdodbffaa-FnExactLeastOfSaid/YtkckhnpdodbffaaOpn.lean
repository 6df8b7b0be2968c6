/- The laws' arguments, as the form's reader reads them, are read by the codecs. -/
import Derived.Test.YtkckhnpdodbffaaProg
import Derived.Test.YtkckhnpdodbffaaMem
namespace Go.Proofs.Ytkckhnpdodbffaa
open Go.RowKit Go.WideShapes

theorem arg_sl {H : Type} {enc : TypeId × Value → H} {P : Program} {W : World} {r : Reach} {b b' : Nat} {sp : Nat → Bool} {hd : Bool} {t e : TypeId} {α : Type} {C : Codec α} {v : Value} {d : DataW H} {p : List MemPlace} (h : P.underlying t = some (.slice e)) (ho : Opens P t (cSl C))
    (hok : Value.okWide P W r b t v) (k : DataW.Trod enc P W b' sp hd t v d p) : ∃ a cap ys, v = .slice a ys.length cap ∧ SlRd C (fun _ => True) W a cap ys := by
  obtain ⟨a, len, cap, rfl⟩ := okWide_slice h hok
  obtain ⟨fuel, hf⟩ := k
  obtain ⟨ys, a', cap', he, hs⟩ := ho.2 H enc W b' sp hd fuel _ _ hf
  simp [Value.cells] at he
  obtain ⟨rfl, rfl, rfl⟩ := he
  exact ⟨_, _, ys, rfl, hs⟩
theorem arg_st {H : Type} {enc : TypeId × Value → H} {P : Program} {W : World} {r : Reach} {b b' : Nat} {sp : Nat → Bool} {hd : Bool} {t : TypeId} {fs : Array Field} {α : Type} {C : Codec α} {v : Value} {d : DataW H} {p : List MemPlace} (h : P.underlying t = some (.struct fs)) (ho : Opens P t C)
    (hok : Value.okWide P W r b t v) (k : DataW.Trod enc P W b' sp hd t v d p) : ∃ ys cs, v = .agg cs ∧ C.rd (fun _ => True) W cs.toList ys := by
  obtain ⟨cs, rfl, _⟩ := okWide_struct h hok
  obtain ⟨fuel, hf⟩ := k
  obtain ⟨ys, hs⟩ := ho.2 H enc W b' sp hd fuel _ _ hf
  exact ⟨ys, cs, rfl, by simpa [Value.cells] using hs⟩
theorem op_i64 : Opens Try.prog 2 cInt := opens_int Try.underlying2 (by kernel_rfl)
theorem op_ints : Opens Try.prog 24 cInts := opens_sl Try.underlying24 (by kernel_rfl) op_i64 (by decide)
theorem op_Term : Opens Try.prog 35 cTerm := opens_struct Try.underlying35 (by kernel_rfl) (opensFs_cons rfl op_i64 (opensFs_last rfl op_ints))
theorem op_Terms : Opens Try.prog 22 cTerms := opens_sl Try.underlying22 (by kernel_rfl) op_Term (by decide)
end Go.Proofs.Ytkckhnpdodbffaa
