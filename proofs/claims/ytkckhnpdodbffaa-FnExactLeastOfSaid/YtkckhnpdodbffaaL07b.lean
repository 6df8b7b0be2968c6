/- Contracts of chapter 7's functions: code, and the laws' helpers over code. -/
import Derived.Test.YtkckhnpdodbffaaL07
import Derived.Deep.QuietTactic
import Derived.BigQuiet
import Derived.StillTailTactics
namespace Go.Proofs.Ytkckhnpdodbffaa
open Go.RowKit

def validCode (xs : List Instr) : Bool := inB xs.length 1 80 && xs.all validI
theorem SlRd.instr_at {S : Nat → Prop} {w : World} {b off cap : Nat} {xs : List Instr} (h : SlRd cInstr S w (some ⟨b, off, none⟩) cap xs) (k : Nat) (hk : k < xs.length) :
    ∃ op arg, xs[k]? = some (op, arg) ∧ I64 op ∧ I64 arg ∧ w.cell? ⟨b, off + k * 2, none⟩ = some (.int .i64 op) ∧ w.cell? ⟨b, off + k * 2 + 1, none⟩ = some (.int .i64 arg) ∧ b < w.heap.size := by
  obtain ⟨⟨op, arg⟩, cs, h1, ⟨c', d, rfl, ⟨rfl, hc1⟩, ⟨rfl, hc2⟩⟩, h7, _, hc⟩ := h.at k hk
  exact ⟨op, arg, h1, hc1, hc2, hc 0 _ rfl, hc 1 _ rfl, h7⟩
end Go.Proofs.Ytkckhnpdodbffaa
