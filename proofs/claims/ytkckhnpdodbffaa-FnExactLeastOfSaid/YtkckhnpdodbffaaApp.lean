/- One element more at a slice of one's own. No program in sight. -/
import Derived.Test.YtkckhnpdodbffaaOwn
namespace Go.Proofs.Ytkckhnpdodbffaa
open Go.RowKit

variable {α : Type} {C : Codec α} {S : Nat → Prop} {base : Nat} {e : TypeId} {v : Value} {as : List α}
/-- append(v, d), d in the block that was made last. -/
theorem app_own {P : Program} {ops : Array Oper} {rest : List Oper} {o : Oper} {a : Act} {Q : Exit → Act → World → Prop} (hgd : o.guard = none) (s x : Operand) (t : TypeId)
    (ho : o.op = .call { callee := .builtin .append, args := #[s, x], argTypes := #[t, t] }) {z : Value} {bytes : Nat} (hT : SlT P t e z C.n bytes)
    {w0 : World} {cs : Array Value} {e' : TypeId} {c : Nat} (hs : a.eval s = v) (hx : a.eval x = .slice (some ⟨w0.heap.size, 0, none⟩) 1 c) (hown : OwnSl C S w0 base e v as)
    (hS : ∀ b, S b → b < w0.heap.size) (d : α) (hd : C.rd (fun b => S b ∧ some b ≠ v.ownBlock) w0 cs.toList d) (hn : as.length + 1 ≤ 1099511627776) (hbase : base ≤ w0.heap.size)
    (h : ∀ v' w', OwnSl C S w' base e v' (as ++ [d]) → Below base w0 w' → wpList P ops Q rest (a.put o.dst v') w') :
    wpList P ops Q (o :: rest) a (w0.alloc (.cells cs e')) := by
  have ha : Below w0.heap.size w0 (w0.alloc (.cells cs e')) := (Below.refl _ _).alloc (Nat.le_refl _) _
  have hb2 : base ≤ (w0.alloc (.cells cs e')).heap.size := by rw [World.size_alloc]; omega
  obtain ⟨v', w', h1, h2, h3⟩ := app_one hT (w := w0.alloc (.cells cs e')) (fun b hb => by rw [World.size_alloc]; have := hS b hb; omega) (own_alloc hown _) (heap_new w0 _) d (c := c) (C.below (Nat.le_refl _) ha hd) hn hb2 o.type
  exact wpList_app hgd s x t ho hs hx (R := fun v' w' => OwnSl C S w' base e v' (as ++ [d]) ∧ Below base w0 w') ⟨v', w', h1, h2, (ha.mono hbase).trans (bel_own (own_alloc hown _) h3 (Nat.le_refl _) hb2)⟩ fun v' w' hr => h v' w' hr.1 hr.2
/-- The same in a region that draws its order: d in block g. -/
theorem step_own {P : Program} {ops : Array Oper} {o : Oper} {a : Act} {Q : Exit → Act → World → Prop} {K : Act → World → Prop} {E : Prop} (hgd : o.guard = none) (s x : Operand) (t : TypeId)
    (ho : o.op = .call { callee := .builtin .append, args := #[s, x], argTypes := #[t, t] }) {z : Value} {bytes : Nat} (hT : SlT P t e z C.n bytes)
    {w : World} {cs : Array Value} {e' : TypeId} {fr : Nat × Nat} {c g : Nat} (hs : a.eval s = v) (hx : a.eval x = .slice (some ⟨g, 0, none⟩) 1 c) (hown : OwnSl C S w base e v as) (hblk : w.heap[g]? = some (.cells cs e' fr))
    (hS : ∀ b, S b → b < w.heap.size) (d : α) (hd : C.rd (fun b => S b ∧ some b ≠ v.ownBlock) w cs.toList d) (hn : as.length + 1 ≤ 1099511627776) (hbase : base ≤ w.heap.size)
    (h : ∀ v' w', OwnSl C S w' base e v' (as ++ [d]) → Below base w w' → K (a.put o.dst v') w') :
    if Region.wanted o (yielded ops a.tmps) = true then Oper.wp P o a w K Q else E := by
  obtain ⟨v', w', h1, h2, h3⟩ := app_one hT hS hown hblk d hd hn hbase o.type (c := c)
  exact stepR_app hgd s x t ho hs hx (R := fun v' w' => OwnSl C S w' base e v' (as ++ [d]) ∧ Below base w w') ⟨v', w', h1, h2, bel_own hown h3 (Nat.le_refl _) hbase⟩ fun v' w' hr => h v' w' hr.1 hr.2
/-- The same, and which block was written. -/
theorem app_own2 {P : Program} {ops : Array Oper} {rest : List Oper} {o : Oper} {a : Act} {Q : Exit → Act → World → Prop} (hgd : o.guard = none) (s x : Operand) (t : TypeId)
    (ho : o.op = .call { callee := .builtin .append, args := #[s, x], argTypes := #[t, t] }) {z : Value} {bytes : Nat} (hT : SlT P t e z C.n bytes)
    {w0 : World} {cs : Array Value} {e' : TypeId} {c : Nat} (hs : a.eval s = v) (hx : a.eval x = .slice (some ⟨w0.heap.size, 0, none⟩) 1 c) (hown : OwnSl C S w0 base e v as)
    (hS : ∀ b, S b → b < w0.heap.size) (d : α) (hd : C.rd (fun b => S b ∧ some b ≠ v.ownBlock) w0 cs.toList d) (hn : as.length + 1 ≤ 1099511627776) (hbase : base ≤ w0.heap.size)
    (h : ∀ v' w', OwnSl C S w' base e v' (as ++ [d]) → Below base w0 w' → w0.grownBy w' v.ownBlock → wpList P ops Q rest (a.put o.dst v') w') :
    wpList P ops Q (o :: rest) a (w0.alloc (.cells cs e')) := by
  have ha : Below w0.heap.size w0 (w0.alloc (.cells cs e')) := (Below.refl _ _).alloc (Nat.le_refl _) _
  have hb2 : base ≤ (w0.alloc (.cells cs e')).heap.size := by rw [World.size_alloc]; omega
  obtain ⟨v', w', h1, h2, h3⟩ := app_one hT (w := w0.alloc (.cells cs e')) (fun b hb => by rw [World.size_alloc]; have := hS b hb; omega) (own_alloc hown _) (heap_new w0 _) d (c := c) (C.below (Nat.le_refl _) ha hd) hn hb2 o.type
  exact wpList_app hgd s x t ho hs hx (R := fun v' w' => OwnSl C S w' base e v' (as ++ [d]) ∧ Below base w0 w' ∧ w0.grownBy w' v.ownBlock) ⟨v', w', h1, h2, (ha.mono hbase).trans (bel_own (own_alloc hown _) h3 (Nat.le_refl _) hb2), grownBy_trans_alloc h3⟩ fun v' w' hr => h v' w' hr.1 hr.2.1 hr.2.2
theorem cell_grown {w w' : World} {row : Option Nat} {b o : Nat} {u : Value} (h : w.grownBy w' row) (hl : b < w.heap.size) (hn : some b ≠ row) (hc : w.cell? ⟨b, o, none⟩ = some u) : w'.cell? ⟨b, o, none⟩ = some u :=
  (World.cell?_of_block (w := w) (a := ⟨b, o, none⟩) (h.block b hl hn)).trans hc
theorem empty_rd {α : Type} (C : Codec α) (S : Nat → Prop) (w : World) (a : Option Addr) : SlRd C S w a 0 [] := ⟨Nat.le_refl _, by decide, fun _ => rfl, by simp⟩
theorem rd_int {T : Nat → Prop} {w : World} {z : Int} (hz : I64 z) : cInt.rd T w #[Value.int .i64 z].toList z := ⟨rfl, hz⟩
theorem rd_instr {T : Nat → Prop} {w : World} {x y : Int} (hx : I64 x) (hy : I64 y) : cInstr.rd T w #[Value.int .i64 x, Value.int .i64 y].toList (x, y) := ⟨[_], [_], rfl, ⟨rfl, hx⟩, ⟨rfl, hy⟩⟩
theorem rd_str {T : Nat → Prop} {w : World} {l : List UInt8} (h : l.length ≤ 9223372036854775807) : cStr.rd T w #[strOf l].toList l := ⟨rfl, h⟩
theorem rd_bool {T : Nat → Prop} {w : World} {b : Bool} : cBool.rd T w #[Value.bool b].toList b := rfl
theorem no_blk {n : Nat} : ∀ b, (fun _ : Nat => False) b → b < n := fun _ h => h.elim
end Go.Proofs.Ytkckhnpdodbffaa
