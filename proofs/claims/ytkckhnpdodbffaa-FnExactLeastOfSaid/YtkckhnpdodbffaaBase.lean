/- Small lemmas on values, worlds and rows that all contracts share. No program in sight. -/
import Derived.WalkKit
import Derived.Carry
import Derived.Deep.QuietTactic
import Derived.ShutString
namespace Go.Proofs.Ytkckhnpdodbffaa
open Go.RowKit

theorem hid {p : Prop} (h : p) : Hid p := h
theorem ret_bool {a b : Bool} (h : a = b) : Ending.returned (.bool a) = .returned (.bool b) := by rw [h]
theorem ret_int {k : IntKind} {a b : Int} (h : a = b) : Ending.returned (.int k a) = .returned (.int k b) := by rw [h]
theorem ret_str {a b : ByteArray} (h : a = b) : Ending.returned (.string a) = .returned (.string b) := by rw [h]

/-- A string's value out of its bytes. -/
def strOf (l : List UInt8) : Value := .string ⟨l.toArray⟩
theorem strOf_data (s : ByteArray) : Value.string s = strOf s.data.toList := rfl
def u8v (c : UInt8) : Value := .int .u8 c.toNat
def inB (n lo hi : Int) : Bool := decide (lo ≤ n) && decide (n ≤ hi)

theorem inB_iff {n lo hi : Int} : inB n lo hi = true ↔ lo ≤ n ∧ n ≤ hi := by simp [inB]
theorem take_snoc (s : ByteArray) (k : Nat) (h : k < s.size) : s.data.toList.take (k + 1) = s.data.toList.take k ++ [s[k]] := by
  rw [List.take_succ_eq_append_getElem (by simpa using h)]; rfl
theorem take_size (s : ByteArray) (k : Nat) (h : s.size ≤ k) : s.data.toList.take k = s.data.toList := by
  rw [List.take_of_length_le]; simpa using h

theorem below_drewN (B : Nat) (w : World) (n : Nat) : Below B w (w.drewN n) := ⟨rfl, rfl, rfl, Nat.le_refl _, fun _ _ => rfl⟩
theorem quiet_same {P : Program} {f : FuncId} {args : Array Value} {w : World} {n : Nat} {v : Value} (h : ∀ w, Calls P f args w fun e w' => e = .returned v ∧ w = w') : Calls P f args (w.drewN n) fun e w'' => e = .returned v ∧ ∃ m, w'' = w.drewN m :=
  (h _).mono fun _ _ ⟨he, hm⟩ => ⟨he, n, hm.symm⟩
theorem wrap_in (n : Int) (h1 : -9223372036854775808 ≤ n) (h2 : n ≤ 9223372036854775807) : IntKind.i64.wrap n = n := by rw [IntKind.wrap_i64]; omega
theorem bcell {W w1 : World} (hb : Below W.heap.size W w1) : (∀ b o, b < W.heap.size → w1.cell? ⟨b, o, none⟩ = W.cell? ⟨b, o, none⟩) ∧ (∀ b o, b < W.heap.size → w1.frozen? ⟨b, o, none⟩ = W.frozen? ⟨b, o, none⟩) :=
  ⟨fun b o h => hb.cell (p := ⟨b, o, none⟩) h, fun b o h => hb.frozen (p := ⟨b, o, none⟩) h⟩
/-- What the walk needs to know of a slice type t of elements e. -/
structure SlT (P : Program) (t e : TypeId) (z : Value) (size bytes : Nat) : Prop where
  ht : P.underlying t = some (.slice e)
  hi : (P.info? e).map (fun i => (i.zero, i.size, i.bytes)) = some (some z, size, bytes)
  hz : z.cells.size = size
  hs : 0 < size
  hb : bytes ≤ 128


theorem grownBy_trans_alloc {w w' : World} {o : Obj} {row : Option Nat} (h : (w.alloc o).grownBy w' row) : w.grownBy w' row :=
  ⟨h.os, h.tape, h.output, by have := h.size; simp only [World.size_alloc] at this; omega, fun k hk hr => by
    rw [h.block k (by simp; omega) hr]; exact Below.heap_alloc w o k hk⟩

theorem below_of_grown {B : Nat} {w w' : World} {v : Value} {base n size : Nat} {e : TypeId} {xs : List Value} (hown : w.ownsRow base e size v n xs) (hg : w.grownBy w' v.ownBlock) (hb : B ≤ base) (hB : B ≤ w.heap.size) : Below B w w' :=
  (Below.refl B w).grown hg hB fun k hk => Nat.le_trans hb (hown.lt k hk).1

/-- append(s, x..) where the new elements lie in the block that was made last. -/
theorem app_lit {P : Program} {ops : Array Oper} {rest : List Oper} {o : Oper} {a : Act} {Q : Exit → Act → World → Prop} (hgd : o.guard = none) (s x : Operand) (t : TypeId)
    (ho : o.op = .call { callee := .builtin .append, args := #[s, x], argTypes := #[t, t] })
    {e : TypeId} {z : Value} {size bytes : Nat} (hT : SlT P t e z size bytes)
    {w0 : World} {cs : Array Value} {e' : TypeId} {m c : Nat} {base : Nat} {v : Value} {n : Nat} {xs : List Value}
    (hs : a.eval s = v) (hown : w0.ownsRow base e size v n xs)
    (hx : a.eval x = .slice (some ⟨w0.heap.size, 0, none⟩) m c) (hl : cs.size = m * size) (h1 : ∀ u ∈ cs.toList, u.oneCell' = true)
    (hn : n + m ≤ 1099511627776) (hbase : base ≤ w0.heap.size)
    (h : ∀ v' w', w'.ownsRow base e size v' (n + m) (xs ++ cs.toList) → w0.grownBy w' v.ownBlock → (v' = .slice none 0 0 ↔ v = .slice none 0 0 ∧ m = 0) → wpList P ops Q rest (a.put o.dst v') w') :
    wpList P ops Q (o :: rest) a (w0.alloc (.cells cs e')) := by
  obtain ⟨ht, hi, hz, hsz, hb⟩ := hT
  cases hie : P.info? e with
  | none => simp [hie] at hi
  | some i =>
    simp only [hie, Option.map_some, Option.some.injEq, Prod.mk.injEq] at hi
    obtain ⟨hz0, hz1, hz2⟩ := hi
    refine wpList_append_own _ hgd s x t ho base e i z size bytes ht hie hz0 hz1 hz2 hz hsz v n xs hs (hown.alloc _) ⟨w0.heap.size, 0, none⟩ m c cs.toList hx (by simpa using hl) ?_ h1 ?_ ?_ ?_ ?_
    · intro j u hj
      have hadd : (⟨w0.heap.size, 0, none⟩ : Addr).add j = ⟨w0.heap.size, j, none⟩ := by unfold Addr.add; split <;> simp_all
      rw [hadd]
      rw [World.cell?_alloc_at _ _ _ _ rfl]; simpa using hj
    · exact Nat.le_trans hn (by decide)
    · exact Nat.le_trans (Nat.mul_le_mul hn hb) (by decide)
    · rw [World.size_alloc]; exact Nat.le_succ_of_le hbase
    · intro v' w' h2 h3 h4
      exact h v' w' h2 (grownBy_trans_alloc h3) h4

theorem heap_new (w : World) (o : Obj) : (w.alloc o).heap[w.heap.size]? = some o := heap_alloc_new w o
theorem heap_new_drew (w : World) (o : Obj) : (w.alloc o).drew.heap[w.heap.size]? = some o := heap_alloc_new w o
/-- The same as one step of a region that draws its order; the world is whatever it is. -/
theorem step_app {P : Program} {ops : Array Oper} {o : Oper} {a : Act} {Q : Exit → Act → World → Prop} {K : Act → World → Prop} {E : Prop} (hgd : o.guard = none) (s x : Operand) (t : TypeId)
    (ho : o.op = .call { callee := .builtin .append, args := #[s, x], argTypes := #[t, t] })
    {e : TypeId} {z : Value} {size bytes : Nat} (hT : SlT P t e z size bytes)
    {w : World} {cs : Array Value} {e' : TypeId} {fr : Nat × Nat} {m c g : Nat} {base : Nat} {v : Value} {n : Nat} {xs : List Value}
    (hs : a.eval s = v) (hown : w.ownsRow base e size v n xs)
    (hx : a.eval x = .slice (some ⟨g, 0, none⟩) m c) (hblk : w.heap[g]? = some (.cells cs e' fr)) (hl : cs.size = m * size) (h1 : ∀ u ∈ cs.toList, u.oneCell' = true)
    (hn : n + m ≤ 1099511627776) (hbase : base ≤ w.heap.size)
    (h : ∀ v' w', w'.ownsRow base e size v' (n + m) (xs ++ cs.toList) → w.grownBy w' v.ownBlock → (v' = .slice none 0 0 ↔ v = .slice none 0 0 ∧ m = 0) → K (a.put o.dst v') w') :
    if Region.wanted o (yielded ops a.tmps) = true then Oper.wp P o a w K Q else E := by
  rw [if_pos (by simp [Region.wanted, hgd])]
  obtain ⟨ht, hi, hz, hsz, hb⟩ := hT
  cases hie : P.info? e with
  | none => simp [hie] at hi
  | some i =>
    simp only [hie, Option.map_some, Option.some.injEq, Prod.mk.injEq] at hi
    obtain ⟨hz0, hz1, hz2⟩ := hi
    refine wp_append_own _ s x t ho base e i z size bytes ht hie hz0 hz1 hz2 hz hsz v n xs hs hown ⟨g, 0, none⟩ m c cs.toList hx (by simpa using hl) ?_ h1 ?_ ?_ hbase h
    · intro j u hj
      have hadd : (⟨g, 0, none⟩ : Addr).add j = ⟨g, j, none⟩ := by unfold Addr.add; split <;> simp_all
      rw [hadd, cell_of_row w g j cs e' fr hblk]; simpa using hj
    · exact Nat.le_trans hn (by decide)
    · exact Nat.le_trans (Nat.mul_le_mul hn hb) (by decide)

/-- string(out) of a row of bytes that the call owns. -/
theorem conv_own {P : Program} {src dst e : TypeId} (hs : P.underlying src = some (.slice e)) (he : P.underlying e = some (.int .u8)) (hd : P.underlying dst = some .string)
    {w : World} {base : Nat} {v : Value} {n : Nat} (l : List UInt8) (hown : w.ownsRow base e 1 v n (l.map u8v)) : (convert src dst v).run P w = .ok (strOf l) w := by
  have hfold : ∀ (l : List UInt8) (r : ByteArray), (l.map fun c => ((c.toNat : Nat) : Int)).foldl (fun r n => r.push (UInt8.ofNat n.toNat)) r = ⟨r.data ++ l.toArray⟩ := by
    intro l
    induction l with
    | nil => intro r; simp
    | cons c l ih => intro r; simp only [List.map_cons, List.foldl_cons, ih]; simp [ByteArray.push]
  rcases hown.2 with ⟨rfl, hn0⟩ | ⟨g, cap, cur, rfl, _, hg, hnc, _, hcs, htake⟩
  · rw [run_convert_bytes_string w src dst e _ _ _ hs he hd]
    have hl : l = [] := by have := hown.1; simp [hn0] at this; exact this
    subst hl
    simp [Conv.bytesToString, strOf, Sem.run_pure]
    rfl
  · rw [run_convert_bytes_string w src dst e _ _ _ hs he hd]
    have hlen : l.length = n := by simpa using hown.1
    rw [run_bytesToString w ⟨g, 0, none⟩ n cap (l.map fun c => ((c.toNat : Nat) : Int))]
    · rw [hfold]; simp [strOf]
    · have := run_loadCells_list (P := P) (w := w) ⟨g, 0, none⟩ (l.map u8v) (fun j u hu => hown.cells (g := g) rfl j u hu)
      have e : (l.map fun c => ((c.toNat : Nat) : Int)).map (Value.int .u8) = l.map u8v := by rw [List.map_map]; rfl
      rw [e, ← hlen]; simpa using this
end Go.Proofs.Ytkckhnpdodbffaa
