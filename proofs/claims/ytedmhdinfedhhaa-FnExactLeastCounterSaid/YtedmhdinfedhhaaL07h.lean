/- Contracts: how many numbers an instruction takes and puts. -/
import Derived.Test.YtedmhdinfedhhaaHeights
import Derived.Test.YtedmhdinfedhhaaQueue
import Derived.Deep.LoopGhost
namespace Go.Proofs.Ytedmhdinfedhhaa
open Go.RowKit

theorem op_any (P : Int → Prop) (hs : ∀ op, 0 ≤ op → op ≤ 11 → P op) (ho : ∀ op, op < 0 ∨ 11 < op → P op) (op : Int) : P op := by
  by_cases h : 0 ≤ op ∧ op ≤ 11
  · exact hs op h.1 h.2
  · exact ho op (by omega)
theorem effs_out {op : Int} (h : op < 0 ∨ 11 < op) : popsI op = 0 ∧ pushI op = 0 := by
  unfold popsI pushI
  rw [if_neg (by omega), if_neg (by omega), if_neg (by omega)]; exact ⟨rfl, rfl⟩
theorem c_moves (op arg : Int) (w : World) : Calls Try.prog 118 #[.agg #[.int .i64 op, .int .i64 arg]] w fun e w' => e = .returned (.tuple #[.int .i64 (popsI op), .int .i64 (pushI op)]) ∧ Below w.heap.size w w' := by
  rcases op_cases op with (rfl | rfl | rfl | rfl | rfl | rfl | rfl | rfl | rfl | rfl | rfl | rfl) | h
  iterate 12
    · go_enter Try.func118, Try.ntmps118
      go_wp2
      go_ret2
      exact ⟨rfl, (Below.refl _ _).alloc (Nat.le_refl _) _⟩
  have HF := hid (effs_out h)
  have e0 := ne_out (k := 0) h (by omega) (by omega)
  have e1 := ne_out (k := 1) h (by omega) (by omega)
  have e2 := ne_out (k := 2) h (by omega) (by omega)
  have e3 := ne_out (k := 3) h (by omega) (by omega)
  have e4 := ne_out (k := 4) h (by omega) (by omega)
  have e6 := ne_out (k := 6) h (by omega) (by omega)
  have e7 := ne_out (k := 7) h (by omega) (by omega)
  have e8 := ne_out (k := 8) h (by omega) (by omega)
  have e10 := ne_out (k := 10) h (by omega) (by omega)
  clear h
  go_enter Try.func118, Try.ntmps118
  go_wp2
  go_ret2
  exact ⟨by rw [HF.out.1, HF.out.2]; rfl, (Below.refl _ _).alloc (Nat.le_refl _) _⟩
theorem ownQ_mono {w : World} {B1 B2 : Nat → Prop} {v : Value} {zs : List Int} (h : OwnQ w B1 v zs) (hb : ∀ b, B1 b → b < w.heap.size → B2 b) : OwnQ w B2 v zs := by
  obtain ⟨g, off, cap, cur, e, h1, h2, h3, h4⟩ := h
  exact ⟨g, off, cap, cur, e, h1, hb g h2 (Array.getElem?_eq_some_iff.1 h3).1, h3, h4⟩
theorem own_some {α : Type} {C : Codec α} {S : Nat → Prop} {w : World} {base : Nat} {e : TypeId} {v : Value} {zl : List α} (h : OwnSl C S w base e v zl) (hn : 1 ≤ zl.length) : ∃ g cap, v = .slice (some ⟨g, 0, none⟩) zl.length cap ∧ base ≤ g ∧ g < w.heap.size := by
  obtain ⟨xs, hr, _⟩ := h
  rcases hr.2 with ⟨h1, h2⟩ | ⟨g, cap, cur, h1, h2, h3, _⟩
  · omega
  · exact ⟨g, cap, h1, h2, (Array.getElem?_eq_some_iff.1 h3).1⟩
theorem opAt_at {code : List Instr} {k : Nat} {x : Instr} (h : code[k]? = some x) : opAt code k = x.1 := by unfold opAt; rw [h]
/-- Heights, or that there are none. -/
def RetHt (code : List Instr) (w : World) (e : Ending) (w' : World) : Prop :=
  ∃ a cap zs ok, e = .returned (.tuple #[.slice a (zs : List Int).length cap, .bool ok]) ∧ SlRd cInt (Fresh w.heap.size w') w' a cap zs ∧ Below w.heap.size w w' ∧ ((ok = true ∧ heightsF code = (zs, true)) ∨ (ok = false ∧ heightsF code = ([], false)))
end Go.Proofs.Ytedmhdinfedhhaa
