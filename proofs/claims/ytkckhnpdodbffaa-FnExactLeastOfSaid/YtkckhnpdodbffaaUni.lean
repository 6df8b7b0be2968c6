/- The contracts of the laws' helpers over the simple types, in one form; blocks known whole. -/
import Derived.Test.YtkckhnpdodbffaaTurn
import Derived.Test.YtkckhnpdodbffaaApp
import Derived.Test.YtkckhnpdodbffaaL03
import Derived.Test.YtkckhnpdodbffaaL07b
import Derived.Deep.RegionHeld3
namespace Go.Proofs.Ytkckhnpdodbffaa
open Go.RowKit

theorem rd_pair {α β : Type} {C : Codec α} {D : Codec β} {S : Nat → Prop} {w : World} {c d : List Value} {a : α} {b : β} (h1 : C.rd S w c a) (h2 : D.rd S w d b) : (cPair C D).rd S w (c ++ d) (a, b) := ⟨c, d, rfl, h1, h2⟩
theorem rd_int0 {S : Nat → Prop} {w : World} : cInt.rd S w [.int .i64 0] 0 := ⟨rfl, i64_0⟩
theorem rd_nil {α : Type} {C : Codec α} {S : Nat → Prop} {w : World} : (cSl C).rd S w [.slice none 0 0] [] := ⟨none, 0, rfl, nil_rd _ _ _⟩
theorem rd_i {S : Nat → Prop} {w : World} {z : Int} (h : I64 z) : cInt.rd S w [.int .i64 z] z := ⟨rfl, h⟩
theorem rd_sl {α : Type} {C : Codec α} {S : Nat → Prop} {w : World} {a : Option Addr} {p : Nat} {xs : List α} (h : SlRd C S w a p xs) : (cSl C).rd S w [.slice a xs.length p] xs := ⟨a, p, rfl, h⟩
abbrev nInstr : Norm cInstr := nPair nInt nInt
abbrev nCode : Norm cCode := nSl nInstr
abbrev nState : Norm cState := nPair nInts nInts
theorem cell_of {w : World} {b : Nat} {cs : Array Value} {e : TypeId} {fr : Nat × Nat} (h : w.heap[b]? = some (.cells cs e fr)) {j : Nat} {u : Value} (hj : cs[j]? = some u) : w.cell? ⟨b, j, none⟩ = some u := by
  rw [cell_of_row w b j cs e fr h]; exact hj
theorem new_at {w : World} {o : Obj} {n : Nat} (h : w.heap.size = n) : (w.alloc o).heap[n]? = some o := by subst h; exact heap_new w o
theorem frz_of {w : World} {b : Nat} {cs : Array Value} {e : TypeId} (h : w.heap[b]? = some (.cells cs e (0, 0))) (j : Nat) : w.frozen? ⟨b, j, none⟩ = false := frozen_of_row w b j cs e h
theorem blk_ne {w : World} {b : Nat} {o : Obj} {p : Addr} (hne : b ≠ p.block) (h : w.heap[b]? = some o) (u : Value) : (w.setCell p u).heap[b]? = some o := by rw [Below.heap_setCell w p u b hne]; exact h
theorem blk_set {w : World} {b : Nat} {cs : Array Value} {e : TypeId} {fr : Nat × Nat} (h : w.heap[b]? = some (.cells cs e fr)) (j : Nat) (u : Value) : (w.setCell ⟨b, j, none⟩ u).heap[b]? = some (.cells (cs.setIfInBounds j u) e fr) := by
  have hlt := (Array.getElem?_eq_some_iff.1 h).1
  have hv := (Array.getElem?_eq_some_iff.1 h).2
  simp only [World.setCell]
  rw [Array.getElem?_eq_getElem (by simpa using hlt), Array.getElem_modify]
  simp [hv]
/-! ### Sums over the elements of a list -/
theorem sumf_take {α : Type} {f : α → Nat} {xs : List α} {k : Nat} {x : α} (h : xs[k]? = some x) : ((xs.take (k + 1)).map f).sum = ((xs.take k).map f).sum + f x := by
  rw [List.take_add_one, h]; simp
theorem sumf_take_le {α : Type} (f : α → Nat) (xs : List α) (k : Nat) : ((xs.take k).map f).sum ≤ (xs.map f).sum := by
  have : (xs.map f).sum = ((xs.take k).map f).sum + ((xs.drop k).map f).sum := by rw [← List.sum_append, ← List.map_append, List.take_append_drop]
  omega
theorem sumf_mem {α : Type} {f : α → Nat} : ∀ {xs : List α} {x : α}, x ∈ xs → f x ≤ (xs.map f).sum
  | y :: ys, x, h => by
    rcases List.mem_cons.1 h with rfl | h
    · simp
    · have := sumf_mem (f := f) h; simp; omega
theorem u_szInt64S {S : Nat → Prop} {a : Option Addr} {p : Nat} {zs : List Int} {left : Int} {w : World} (h : SlRd cInt S w a p zs) (h0 : 0 ≤ left) (h1 : left ≤ 1048576) :
    Calls Try.prog 26 #[.slice a zs.length p, .int .i64 left] w fun e w' => e = .returned (.int .i64 (szR left (zs.length : Nat))) ∧ Below w.heap.size w w' :=
  (c_szInt64S _ _ _ _ _ h.len_le h0 h1).mono fun _ _ ⟨he, hw⟩ => ⟨he, by rw [← hw]; exact Below.refl _ _⟩
theorem u_szTerm {S : Nat → Prop} {c : Int} {a : Option Addr} {p : Nat} {zs : List Int} {left : Int} {w : World} (h : SlRd cInt S w a p zs) (h0 : 0 ≤ left) (h1 : left ≤ 1048576) :
    Calls Try.prog 14 #[.agg #[.int .i64 c, .slice a zs.length p], .int .i64 left] w fun e w' => e = .returned (.int .i64 (szR left (zs.length : Nat))) ∧ Below w.heap.size w w' := c_szTerm _ _ _ _ _ _ h.len_le h0 h1
theorem u_szTermS {S : Nat → Prop} {a : Option Addr} {p : Nat} {ts : List Term} {left : Int} {w : World} (h : SlRd cTerm S w a p ts) (h0 : 0 ≤ left) (h1 : left ≤ 1048576) :
    Calls Try.prog 5 #[.slice a ts.length p, .int .i64 left] w fun e w' => e = .returned (.int .i64 (szR left (szTs ts : Nat))) ∧ Below w.heap.size w w' := c_szTermS _ _ _ _ _ h h0 h1
theorem u_toInt64S {S : Nat → Prop} {a : Option Addr} {p : Nat} {zs : List Int} {w : World} (h : SlRd cInt S w a p zs) (hz : zs.length ≤ 1048576) : Calls Try.prog 34 #[.slice a zs.length p] w (RetSl cInt zs w) := c_toInt64S _ _ _ _ h hz
theorem u_toTerm {S : Nat → Prop} {c : Int} {a : Option Addr} {p : Nat} {zs : List Int} {w : World} (h : SlRd cInt S w a p zs) (hz : zs.length ≤ 1048576) : Calls Try.prog 16 #[.agg #[.int .i64 c, .slice a zs.length p]] w (RetTerm (c, zs) w) := c_toTerm _ _ _ _ _ h hz
theorem u_toTermS {S : Nat → Prop} {a : Option Addr} {p : Nat} {ts : List Term} {w : World} (h : SlRd cTerm S w a p ts) (hz : szTs ts ≤ 1048576) : Calls Try.prog 7 #[.slice a ts.length p] w (RetSl cTerm ts w) :=
  c_toTermS _ _ _ _ h (by unfold szTs at hz; omega) fun t ht => by have := szTs_le ht; omega
theorem u_eqInt64S {S T : Nat → Prop} {a b : Option Addr} {p q : Nat} {xs ys : List Int} {w : World} (h : SlRd cInt S w a p xs) (h' : SlRd cInt T w b q ys) :
    Calls Try.prog 9 #[.slice a xs.length p, .slice b ys.length q] w fun e w' => e = .returned (.bool (decide (xs = ys))) ∧ Below w.heap.size w w' := c_eqInt64S _ _ _ _ _ _ _ h h'
theorem u_eqTerm {S T : Nat → Prop} {c d : Int} {a b : Option Addr} {p q : Nat} {xs ys : List Int} {w : World} (h : SlRd cInt S w a p xs) (h' : SlRd cInt T w b q ys) :
    Calls Try.prog 18 #[.agg #[.int .i64 c, .slice a xs.length p], .agg #[.int .i64 d, .slice b ys.length q]] w fun e w' => e = .returned (.bool (decide (((c, xs) : Term) = (d, ys)))) ∧ Below w.heap.size w w' := c_eqTerm _ _ _ _ _ _ _ _ _ h h'
theorem u_eqTermS {S T : Nat → Prop} {a b : Option Addr} {p q : Nat} {xs ys : List Term} {w : World} (h : SlRd cTerm S w a p xs) (h' : SlRd cTerm T w b q ys) :
    Calls Try.prog 10 #[.slice a xs.length p, .slice b ys.length q] w fun e w' => e = .returned (.bool (decide (xs = ys))) ∧ Below w.heap.size w w' := c_eqTermS _ _ _ _ _ _ _ h h'
end Go.Proofs.Ytkckhnpdodbffaa
