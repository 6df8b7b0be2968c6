/- Contracts and laws of data, 19 texts joined (they are printed one by one from wip/src). -/
import Derived.WalkKit
import Derived.Carry
import Derived.Deep.QuietTactic
import Derived.ShutString
import Derived.Lib.ItoaMem
import Derived.Lib.ItoaLen
import Derived.Lib.SplitLaws
import Derived.Test.YtcmopmapdomneaaDoorProg
import Derived.BigQuiet
import Derived.Deep.Slices
import Derived.ProofKit
import Derived.Laws.MakeOwn
import Derived.Laws.OwnMore
import Derived.Lib.SliceRun
import Derived.Test.YtcmopmapdomneaaDoorShelf
import Derived.Lib.AppendIntMem
import Derived.Stop.LaidErr
import Derived.Deep.DeepHandedRow
import Derived.Lib.LaidTab
import Derived.Lay
import Derived.MakeChecks
import Derived.StillTailTactics

section
namespace Go.Proofs.YtcmopmapdomneaaDoor
open Go.RowKit

theorem hid {p : Prop} (h : p) : Hid p := h
theorem ret_bool {a b : Bool} (h : a = b) : Ending.returned (.bool a) = .returned (.bool b) := by rw [h]
theorem ret_int {k : IntKind} {a b : Int} (h : a = b) : Ending.returned (.int k a) = .returned (.int k b) := by rw [h]
theorem ret_str {a b : ByteArray} (h : a = b) : Ending.returned (.string a) = .returned (.string b) := by rw [h]

/-- A string's value out of its bytes. -/
def strOf (l : List UInt8) : Value := .string ⟨l.toArray⟩
theorem strOf_data (s : ByteArray) : Value.string s = strOf s.data.toList := rfl
def u8v (c : UInt8) : Value := .int .u8 c.toNat
def inB (n lo hi : Int) : Bool := decide (lo ≤ n) && decide (n ≤ hi)

theorem inB_iff {n lo hi : Int} : inB n lo hi = true ↔ lo ≤ n ∧ n ≤ hi := by simp [inB]
theorem take_snoc (s : ByteArray) (k : Nat) (h : k < s.size) : s.data.toList.take (k + 1) = s.data.toList.take k ++ [s[k]] := by
  rw [List.take_succ_eq_append_getElem (by simpa using h)]; rfl
theorem take_size (s : ByteArray) (k : Nat) (h : s.size ≤ k) : s.data.toList.take k = s.data.toList := by
  rw [List.take_of_length_le]; simpa using h

theorem below_drewN (B : Nat) (w : World) (n : Nat) : Below B w (w.drewN n) := ⟨rfl, rfl, rfl, Nat.le_refl _, fun _ _ => rfl⟩
theorem quiet_same {P : Program} {f : FuncId} {args : Array Value} {w : World} {n : Nat} {v : Value} (h : ∀ w, Calls P f args w fun e w' => e = .returned v ∧ w = w') : Calls P f args (w.drewN n) fun e w'' => e = .returned v ∧ ∃ m, w'' = w.drewN m :=
  (h _).mono fun _ _ ⟨he, hm⟩ => ⟨he, n, hm.symm⟩
theorem wrap_in (n : Int) (h1 : -9223372036854775808 ≤ n) (h2 : n ≤ 9223372036854775807) : IntKind.i64.wrap n = n := by rw [IntKind.wrap_i64]; omega
theorem bcell {W w1 : World} (hb : Below W.heap.size W w1) : (∀ b o, b < W.heap.size → w1.cell? ⟨b, o, none⟩ = W.cell? ⟨b, o, none⟩) ∧ (∀ b o, b < W.heap.size → w1.frozen? ⟨b, o, none⟩ = W.frozen? ⟨b, o, none⟩) :=
  ⟨fun b o h => hb.cell (p := ⟨b, o, none⟩) h, fun b o h => hb.frozen (p := ⟨b, o, none⟩) h⟩
/-- What the walk needs to know of a slice type t of elements e. -/
structure SlT (P : Program) (t e : TypeId) (z : Value) (size bytes : Nat) : Prop where
  ht : P.underlying t = some (.slice e)
  hi : (P.info? e).map (fun i => (i.zero, i.size, i.bytes)) = some (some z, size, bytes)
  hz : z.cells.size = size
  hs : 0 < size
  hb : bytes ≤ 128


theorem grownBy_trans_alloc {w w' : World} {o : Obj} {row : Option Nat} (h : (w.alloc o).grownBy w' row) : w.grownBy w' row :=
  ⟨h.os, h.tape, h.output, by have := h.size; simp only [World.size_alloc] at this; omega, fun k hk hr => by
    rw [h.block k (by simp; omega) hr]; exact Below.heap_alloc w o k hk⟩

theorem below_of_grown {B : Nat} {w w' : World} {v : Value} {base n size : Nat} {e : TypeId} {xs : List Value} (hown : w.ownsRow base e size v n xs) (hg : w.grownBy w' v.ownBlock) (hb : B ≤ base) (hB : B ≤ w.heap.size) : Below B w w' :=
  (Below.refl B w).grown hg hB fun k hk => Nat.le_trans hb (hown.lt k hk).1

/-- append(s, x..) where the new elements lie in the block that was made last. -/
theorem app_lit {P : Program} {ops : Array Oper} {rest : List Oper} {o : Oper} {a : Act} {Q : Exit → Act → World → Prop} (hgd : o.guard = none) (s x : Operand) (t : TypeId)
    (ho : o.op = .call { callee := .builtin .append, args := #[s, x], argTypes := #[t, t] })
    {e : TypeId} {z : Value} {size bytes : Nat} (hT : SlT P t e z size bytes)
    {w0 : World} {cs : Array Value} {e' : TypeId} {m c : Nat} {base : Nat} {v : Value} {n : Nat} {xs : List Value}
    (hs : a.eval s = v) (hown : w0.ownsRow base e size v n xs)
    (hx : a.eval x = .slice (some ⟨w0.heap.size, 0, none⟩) m c) (hl : cs.size = m * size) (h1 : ∀ u ∈ cs.toList, u.oneCell' = true)
    (hn : n + m ≤ 1099511627776) (hbase : base ≤ w0.heap.size)
    (h : ∀ v' w', w'.ownsRow base e size v' (n + m) (xs ++ cs.toList) → w0.grownBy w' v.ownBlock → (v' = .slice none 0 0 ↔ v = .slice none 0 0 ∧ m = 0) → wpList P ops Q rest (a.put o.dst v') w') :
    wpList P ops Q (o :: rest) a (w0.alloc (.cells cs e')) := by
  obtain ⟨ht, hi, hz, hsz, hb⟩ := hT
  cases hie : P.info? e with
  | none => simp [hie] at hi
  | some i =>
    simp only [hie, Option.map_some, Option.some.injEq, Prod.mk.injEq] at hi
    obtain ⟨hz0, hz1, hz2⟩ := hi
    refine wpList_append_own _ hgd s x t ho base e i z size bytes ht hie hz0 hz1 hz2 hz hsz v n xs hs (hown.alloc _) ⟨w0.heap.size, 0, none⟩ m c cs.toList hx (by simpa using hl) ?_ h1 ?_ ?_ ?_ ?_
    · intro j u hj
      have hadd : (⟨w0.heap.size, 0, none⟩ : Addr).add j = ⟨w0.heap.size, j, none⟩ := by unfold Addr.add; split <;> simp_all
      rw [hadd]
      rw [World.cell?_alloc_at _ _ _ _ rfl]; simpa using hj
    · exact Nat.le_trans hn (by decide)
    · exact Nat.le_trans (Nat.mul_le_mul hn hb) (by decide)
    · rw [World.size_alloc]; exact Nat.le_succ_of_le hbase
    · intro v' w' h2 h3 h4
      exact h v' w' h2 (grownBy_trans_alloc h3) h4

theorem heap_new (w : World) (o : Obj) : (w.alloc o).heap[w.heap.size]? = some o := heap_alloc_new w o
theorem heap_new_drew (w : World) (o : Obj) : (w.alloc o).drew.heap[w.heap.size]? = some o := heap_alloc_new w o
/-- The same azs one step of a region that draws its order; the world is whatever it is. -/
theorem step_app {P : Program} {ops : Array Oper} {o : Oper} {a : Act} {Q : Exit → Act → World → Prop} {K : Act → World → Prop} {E : Prop} (hgd : o.guard = none) (s x : Operand) (t : TypeId)
    (ho : o.op = .call { callee := .builtin .append, args := #[s, x], argTypes := #[t, t] })
    {e : TypeId} {z : Value} {size bytes : Nat} (hT : SlT P t e z size bytes)
    {w : World} {cs : Array Value} {e' : TypeId} {fr : Nat × Nat} {m c g : Nat} {base : Nat} {v : Value} {n : Nat} {xs : List Value}
    (hs : a.eval s = v) (hown : w.ownsRow base e size v n xs)
    (hx : a.eval x = .slice (some ⟨g, 0, none⟩) m c) (hblk : w.heap[g]? = some (.cells cs e' fr)) (hl : cs.size = m * size) (h1 : ∀ u ∈ cs.toList, u.oneCell' = true)
    (hn : n + m ≤ 1099511627776) (hbase : base ≤ w.heap.size)
    (h : ∀ v' w', w'.ownsRow base e size v' (n + m) (xs ++ cs.toList) → w.grownBy w' v.ownBlock → (v' = .slice none 0 0 ↔ v = .slice none 0 0 ∧ m = 0) → K (a.put o.dst v') w') :
    if Region.wanted o (yielded ops a.tmps) = true then Oper.wp P o a w K Q else E := by
  rw [if_pos (by simp [Region.wanted, hgd])]
  obtain ⟨ht, hi, hz, hsz, hb⟩ := hT
  cases hie : P.info? e with
  | none => simp [hie] at hi
  | some i =>
    simp only [hie, Option.map_some, Option.some.injEq, Prod.mk.injEq] at hi
    obtain ⟨hz0, hz1, hz2⟩ := hi
    refine wp_append_own _ s x t ho base e i z size bytes ht hie hz0 hz1 hz2 hz hsz v n xs hs hown ⟨g, 0, none⟩ m c cs.toList hx (by simpa using hl) ?_ h1 ?_ ?_ hbase h
    · intro j u hj
      have hadd : (⟨g, 0, none⟩ : Addr).add j = ⟨g, j, none⟩ := by unfold Addr.add; split <;> simp_all
      rw [hadd, cell_of_row w g j cs e' fr hblk]; simpa using hj
    · exact Nat.le_trans hn (by decide)
    · exact Nat.le_trans (Nat.mul_le_mul hn hb) (by decide)

/-- string(out) of a row of bytes that the call owns. -/
theorem conv_own {P : Program} {src dst e : TypeId} (hs : P.underlying src = some (.slice e)) (he : P.underlying e = some (.int .u8)) (hd : P.underlying dst = some .string)
    {w : World} {base : Nat} {v : Value} {n : Nat} (l : List UInt8) (hown : w.ownsRow base e 1 v n (l.map u8v)) : (convert src dst v).run P w = .ok (strOf l) w := by
  have hfold : ∀ (l : List UInt8) (r : ByteArray), (l.map fun c => ((c.toNat : Nat) : Int)).foldl (fun r n => r.push (UInt8.ofNat n.toNat)) r = ⟨r.data ++ l.toArray⟩ := by
    intro l
    induction l with
    | nil => intro r; simp
    | cons c l ih => intro r; simp only [List.map_cons, List.foldl_cons, ih]; simp [ByteArray.push]
  rcases hown.2 with ⟨rfl, hn0⟩ | ⟨g, cap, cur, rfl, _, hg, hnc, _, hcs, htake⟩
  · rw [run_convert_bytes_string w src dst e _ _ _ hs he hd]
    have hl : l = [] := by have := hown.1; simp [hn0] at this; exact this
    subst hl
    simp [Conv.bytesToString, strOf, Sem.run_pure]
    rfl
  · rw [run_convert_bytes_string w src dst e _ _ _ hs he hd]
    have hlen : l.length = n := by simpa using hown.1
    rw [run_bytesToString w ⟨g, 0, none⟩ n cap (l.map fun c => ((c.toNat : Nat) : Int))]
    · rw [hfold]; simp [strOf]
    · have := run_loadCells_list (P := P) (w := w) ⟨g, 0, none⟩ (l.map u8v) (fun j u hu => hown.cells (g := g) rfl j u hu)
      have e : (l.map fun c => ((c.toNat : Nat) : Int)).map (Value.int .u8) = l.map u8v := by rw [List.map_map]; rfl
      rw [e, ← hlen]; simpa using this
end Go.Proofs.YtcmopmapdomneaaDoor
end

section
namespace Go.Proofs.YtcmopmapdomneaaDoor
open Go.RowKit

theorem strOf_add (a b : List UInt8) : Value.string (⟨a.toArray⟩ ++ ⟨b.toArray⟩ : ByteArray) = strOf (a ++ b) := by
  unfold strOf
  congr 1
theorem badd (a b : List UInt8) : (⟨a.toArray⟩ ++ ⟨b.toArray⟩ : ByteArray) = ⟨(a ++ b).toArray⟩ := Value.string.inj (strOf_add a b)
/-- The digits of u, none for 0. -/
def digs (u : Nat) : List UInt8 := if _h : u = 0 then [] else digs (u / 10) ++ [UInt8.ofNat (48 + u % 10)]
termination_by u
decreasing_by omega
theorem digs_zero : digs 0 = [] := by rw [digs, dif_pos rfl]
theorem digs_pos {u : Nat} (h : 0 < u) : digs u = digs (u / 10) ++ [UInt8.ofNat (48 + u % 10)] := by rw [digs, dif_neg (by omega)]
theorem digs_eq (u : Nat) (h : 0 < u) : digs u = Lib.decDigits u := by
  induction u using Nat.strongRecOn with
  | _ u ih =>
    rw [digs_pos h]
    by_cases h10 : u < 10
    · rw [Lib.decDigits_one h10, show u / 10 = 0 by omega, digs_zero, Nat.mod_eq_of_lt h10]; rfl
    · rw [Lib.decDigits, dif_neg h10, ih (u / 10) (by omega) (by omega)]
theorem digs_len (u : Nat) (h : u ≤ 9223372036854775808) : (digs u).length ≤ 20 := by
  by_cases h0 : 0 < u
  · rw [digs_eq u h0, Lib.decDigits_length]; exact Lib.nDigits_le20 u (by omega)
  · rw [show u = 0 by omega, digs_zero]; simp
theorem itoa_zero : Lib.itoa 0 = [48] := by rw [Lib.itoa, if_neg (by omega)]; simp [Lib.decDigits_one]
theorem itoa_pos {n : Int} (h : 0 < n) : Lib.itoa n = digs n.natAbs := by
  rw [Lib.itoa, if_neg (by omega), show n.toNat = n.natAbs by omega, digs_eq _ (by omega)]
theorem itoa_neg' {n : Int} (h : n < 0) : Lib.itoa n = 45 :: digs n.natAbs := by
  rw [Lib.itoa, if_pos h, digs_eq _ (by omega)]
theorem tmod_neg_ten (u : Nat) : (-(u : Int)).tmod 10 = -((u % 10 : Nat) : Int) := by rw [Int.neg_tmod, Int.tmod_eq_emod_of_nonneg (by omega)]; simp
theorem tdiv_neg_ten (u : Nat) : (-(u : Int)).tdiv 10 = -((u / 10 : Nat) : Int) := by rw [Int.neg_tdiv, Int.tdiv_eq_ediv_of_nonneg (by omega)]; simp

/-- A text cut at each byte c. -/
def cutL (c : UInt8) : List UInt8 → List (List UInt8)
  | [] => [[]]
  | b :: l => if b = c then [] :: cutL c l else
    match cutL c l with
    | [] => [[b]]
    | p :: ps => (b :: p) :: ps
theorem cutL_ne (c : UInt8) (l : List UInt8) : cutL c l ≠ [] := by
  cases l with
  | nil => simp [cutL]
  | cons b l => unfold cutL; split; · simp
                · split <;> simp
theorem cutL_hit (c : UInt8) (a b : List UInt8) (h : c ∉ a) : cutL c (a ++ c :: b) = a :: cutL c b := by
  induction a with
  | nil => simp [cutL]
  | cons x a ih =>
    simp only [List.mem_cons, not_or] at h
    rw [List.cons_append, cutL, if_neg (Ne.symm h.1), ih h.2]
theorem cutL_none (c : UInt8) (a : List UInt8) (h : c ∉ a) : cutL c a = [a] := by
  induction a with
  | nil => simp [cutL]
  | cons x a ih =>
    simp only [List.mem_cons, not_or] at h
    rw [cutL, if_neg (Ne.symm h.1), ih h.2]
theorem cutL_len (c : UInt8) (l : List UInt8) : (cutL c l).length = l.count c + 1 := by
  induction l with
  | nil => simp [cutL]
  | cons b l ih =>
    unfold cutL
    split
    · rename_i h; subst h; simp [ih]
    · rename_i h
      rw [List.count_cons_of_ne (by simpa using h)]
      split
      · rename_i e; exact absurd e (cutL_ne _ _)
      · rename_i p ps e; rw [e] at ih; simpa using ih
theorem cutL_piece (c : UInt8) (l : List UInt8) : ∀ p ∈ cutL c l, p.length ≤ l.length := by
  induction l with
  | nil => simp [cutL]
  | cons b l ih =>
    unfold cutL
    split
    · intro p hp
      rcases List.mem_cons.1 hp with rfl | hp
      · simp
      · have := ih p hp; simp; omega
    · split
      · intro p hp; simp at hp; subst hp; simp
      · rename_i q qs e
        rw [e] at ih
        intro p hp
        rcases List.mem_cons.1 hp with rfl | hp
        · have := ih q (by simp); simp; omega
        · have := ih p (by simp [hp]); simp; omega
theorem index_at (c : UInt8) (a b : List UInt8) (h : c ∉ a) : Lib.index (a ++ c :: b) [c] = (a.length : Int) := by
  induction a with
  | nil => simp [Lib.index]
  | cons x a ih =>
    simp only [List.mem_cons, not_or] at h
    have e := ih h.2
    rw [List.cons_append, Lib.index]
    have hp : ([c] : List UInt8).isPrefixOf (x :: (a ++ c :: b)) = false := by simp [List.isPrefixOf, h.1]
    rw [hp, e]
    have hn : (((a.length : Int)) == -1) = false := by simp
    simp [hn]
theorem splitK_cut (c : UInt8) : ∀ (n : Nat) (l : List UInt8), l.length ≤ n → Lib.splitK [c] 0 (l.count c) l = cutL c l := by
  intro n
  induction n with
  | zero => intro l h; obtain rfl : l = [] := List.eq_nil_of_length_eq_zero (by omega); rfl
  | succ n ih =>
    intro l h
    by_cases hm : c ∈ l
    · obtain ⟨a, b, rfl, ha⟩ := List.eq_append_cons_of_mem hm
      have hk : (a ++ c :: b).count c = b.count c + 1 := by
        rw [List.count_append, List.count_eq_zero.2 ha, List.count_cons_self]; omega
      rw [hk, Lib.splitK, index_at c a b ha, cutL_hit c a b ha]
      have hn : (((a.length : Int)) == -1) = false := by simp
      simp only [hn, Bool.false_eq_true, if_false, Int.toNat_natCast, Nat.add_zero, List.length_singleton]
      simp at h
      rw [List.take_left, List.drop_append, show a.length + 1 - a.length = 1 by omega, List.drop_of_length_le (by omega)]
      simp [ih b (by omega)]
    · rw [cutL_none c l hm, List.count_eq_zero.2 hm]; rfl
/-- strings.Split at one byte. -/
theorem split_cut (c : UInt8) (s : ByteArray) : (Lib.splitB ⟨#[c]⟩ 0 (Lib.countB s ⟨#[c]⟩) s).map (·.data.toList) = cutL c s.data.toList := by
  rw [Lib.splitB_data]
  show Lib.splitK [c] 0 (Lib.count s.data.toList [c]) s.data.toList = _
  rw [Lib.count_one]
  exact splitK_cut c _ _ (Nat.le_refl _)
theorem cut_at (c : UInt8) (l : List UInt8) : (c ∉ l ∧ Lib.cut l [c] = (l, [], false) ∧ cutL c l = [l]) ∨ ∃ a b, l = a ++ c :: b ∧ c ∉ a ∧ Lib.cut l [c] = (a, b, true) ∧ cutL c l = a :: cutL c b := by
  by_cases hm : c ∈ l
  · obtain ⟨a, b, rfl, ha⟩ := List.eq_append_cons_of_mem hm
    refine .inr ⟨a, b, rfl, ha, ?_, cutL_hit c a b ha⟩
    unfold Lib.cut
    rw [index_at c a b ha, if_pos (by omega)]
    rw [Int.toNat_natCast, List.take_left, List.drop_append, List.drop_of_length_le (by simp)]
    simp
  · refine .inl ⟨hm, ?_, cutL_none c l hm⟩
    unfold Lib.cut
    have : Lib.index l [c] = -1 := by
      induction l with
      | nil => simp [Lib.index]
      | cons x l ih =>
        simp only [List.mem_cons, not_or] at hm
        rw [Lib.index, show ([c] : List UInt8).isPrefixOf (x :: l) = false by simp [List.isPrefixOf, hm.1], ih hm.2]
        simp
    rw [this, if_neg (by omega)]
/-- The list of pieces while a text is cut from the left: what is done, and what begins at 'from'. -/
theorem cut_step (c : UInt8) (l : List UInt8) (done : List (List UInt8)) (f i : Nat) (hf : f ≤ i) (hi : l[i]? = some c) (hno : c ∉ (l.take i).drop f) (h : done ++ cutL c (l.drop f) = cutL c l) :
    (done ++ [(l.take i).drop f]) ++ cutL c (l.drop (i + 1)) = cutL c l := by
  have hl := (List.getElem?_eq_some_iff.1 hi).1
  have e : l.drop f = (l.take i).drop f ++ c :: l.drop (i + 1) := by
    have h1 : l.drop i = c :: l.drop (i + 1) := by
      rw [List.drop_eq_getElem_cons hl]; congr 1
      rw [List.getElem?_eq_getElem hl] at hi; exact Option.some.inj hi
    rw [← h1, List.drop_take]
    conv => lhs; rw [← List.take_append_drop (i - f) (l.drop f)]
    rw [List.drop_drop, show f + (i - f) = i by omega]
  rw [e, cutL_hit _ _ _ hno] at h
  rw [← h]; simp
theorem cut_more (c : UInt8) (l : List UInt8) (f i : Nat) (hf : f ≤ i) {b : UInt8} (hi : l[i]? = some b) (hb : b ≠ c) (hno : c ∉ (l.take i).drop f) : c ∉ (l.take (i + 1)).drop f := by
  have hl := (List.getElem?_eq_some_iff.1 hi).1
  rw [List.take_succ_eq_append_getElem hl, List.drop_append, List.mem_append, not_or]
  refine ⟨hno, fun hm => ?_⟩
  have := List.mem_of_mem_drop hm
  simp at this
  rw [List.getElem?_eq_getElem hl] at hi
  exact hb ((Option.some.inj hi).symm.trans this.symm)
end Go.Proofs.YtcmopmapdomneaaDoor
end

section
namespace Go.Proofs.YtcmopmapdomneaaDoor

def ckStep (ab : Int × Int) (c : UInt8) : Int × Int := ((ab.1 + c.toNat) % 65521, (ab.2 + (ab.1 + c.toNat) % 65521) % 65521)
def ckPair (l : List UInt8) : Int × Int := l.foldl ckStep (1, 0)
theorem ck_bd (l : List UInt8) : 0 ≤ (ckPair l).1 ∧ (ckPair l).1 ≤ 65521 ∧ 0 ≤ (ckPair l).2 ∧ (ckPair l).2 ≤ 65521 := by
  suffices h : ∀ (l : List UInt8) (p : Int × Int), (0 ≤ p.1 ∧ p.1 ≤ 65521 ∧ 0 ≤ p.2 ∧ p.2 ≤ 65521) →
      (0 ≤ (l.foldl ckStep p).1 ∧ (l.foldl ckStep p).1 ≤ 65521 ∧ 0 ≤ (l.foldl ckStep p).2 ∧ (l.foldl ckStep p).2 ≤ 65521) from h l (1, 0) (by decide)
  intro l
  induction l with
  | nil => intro p h; exact h
  | cons c l ih => intro p h; exact ih _ (by simp only [ckStep]; omega)
theorem ck_snoc (l : List UInt8) (c : UInt8) : ckPair (l ++ [c]) = ckStep (ckPair l) c := by simp [ckPair]
def ckOf (l : List UInt8) : Int := (ckPair l).1 + 65521 * (ckPair l).2

/-- All bytes are small letters. -/
def lowB (c : UInt8) : Bool := decide (97 ≤ (c.toNat : Int)) && decide ((c.toNat : Int) ≤ 122)
def isName (l : List UInt8) : Bool := (decide (1 ≤ l.length) && decide (l.length ≤ 10)) && l.all lowB

/-- The code of a number without sign. -/
def putM (m : Nat) : List UInt8 := if m < 128 then [UInt8.ofNat m] else UInt8.ofNat (m % 128 + 128) :: putM (m / 128)
decreasing_by omega
theorem putM_small {m : Nat} (h : m < 128) : putM m = [UInt8.ofNat m] := by rw [putM, if_pos h]
theorem putM_big {m : Nat} (h : 128 ≤ m) : putM m = UInt8.ofNat (m % 128 + 128) :: putM (m / 128) := by rw [putM, if_neg (by omega)]
def zig (n : Int) : Nat := if n < 0 then (-2 * n - 1).toNat else (2 * n).toNat
def putN (n : Int) : List UInt8 := putM (zig n)

theorem putM_len : ∀ (k m : Nat), m < 128 ^ (k + 1) → (putM m).length ≤ k + 1 := by
  intro k
  induction k with
  | zero => intro m h; rw [putM_small (by simpa using h)]; simp
  | succ k ih =>
    intro m h
    by_cases hs : m < 128
    · rw [putM_small hs]; simp
    · rw [putM_big (by omega)]
      have := ih (m / 128) (by rw [Nat.pow_succ] at h; exact Nat.div_lt_of_lt_mul (by rw [Nat.mul_comm]; exact h))
      simp only [List.length_cons]; omega
theorem zig_le (n : Int) (h1 : -1000000000000000 ≤ n) (h2 : n ≤ 1000000000000000) : zig n ≤ 2000000000000000 := by unfold zig; split <;> omega
theorem putN_len (n : Int) (h1 : -1000000000000000 ≤ n) (h2 : n ≤ 1000000000000000) : (putN n).length ≤ 8 := putM_len 7 _ (by have := zig_le n h1 h2; exact Nat.lt_of_le_of_lt this (by decide))
theorem zig_neg {n : Int} (h : n < 0) : ((zig n : Nat) : Int) = -2 * n - 1 := by unfold zig; rw [if_pos h]; omega
theorem zig_pos {n : Int} (h : 0 ≤ n) : ((zig n : Nat) : Int) = 2 * n := by unfold zig; rw [if_neg (by omega)]; omega
theorem u8v_cont (m : Nat) : u8v (UInt8.ofNat (m % 128 + 128)) = .int .u8 ((m : Int) % 128 + 128) := by
  simp [u8v]; omega
theorem u8v_last (m : Nat) (h : m < 128) : u8v (UInt8.ofNat m) = .int .u8 (m : Int) := by
  simp [u8v]; omega
/-- Digits. -/
def hexD (n : Nat) : UInt8 := if n < 10 then UInt8.ofNat (48 + n) else UInt8.ofNat (87 + n)
theorem hexT (n : Nat) (h : n < 16) : (ByteArray.mk #[48, 49, 50, 51, 52, 53, 54, 55, 56, 57, 97, 98, 99, 100, 101, 102])[n] = hexD n := by
  revert h
  have : ∀ n : Fin 16, (ByteArray.mk #[48, 49, 50, 51, 52, 53, 54, 55, 56, 57, 97, 98, 99, 100, 101, 102])[n.1] = hexD n.1 := by decide +kernel
  intro h; exact this ⟨n, h⟩
theorem hexZ (n : Nat) : ((n : Int) / 16).toNat = n / 16 := by omega
theorem hexZ' (n : Nat) : ((n : Int) % 16).toNat = n % 16 := by omega
theorem and15 (c : UInt8) : bits BinOp.and IntKind.u8 (c.toNat : Int) 15 = (c.toNat : Int) % 16 := by
  have : ∀ n : Fin 256, bits BinOp.and IntKind.u8 (n.1 : Int) 15 = (n.1 : Int) % 16 := by decide +kernel
  exact this ⟨c.toNat, c.toNat_lt⟩
def hexOf (l : List UInt8) : List UInt8 := l.flatMap fun c => [hexD (c.toNat / 16), hexD (c.toNat % 16)]
theorem hexOf_snoc (l : List UInt8) (c : UInt8) : hexOf (l ++ [c]) = hexOf l ++ [hexD (c.toNat / 16)] ++ [hexD (c.toNat % 16)] := by simp [hexOf]
theorem hexOf_length (l : List UInt8) : (hexOf l).length = 2 * l.length := by
  induction l with
  | nil => rfl
  | cons c l ih => simp only [hexOf, List.flatMap_cons, List.length_append] at ih ⊢; simp at ih ⊢; omega

def hexOfF (l : List UInt8) : List UInt8 × Bool := if l.length ≤ 40000 then (hexOf l, true) else ([], false)
def putF (n : Int) : List UInt8 × Bool := if inB n (-1000000000000000) 1000000000000000 then (putN n, true) else ([], false)
def putTextF (l : List UInt8) : List UInt8 × Bool := if l.length ≤ 40000 then (putN l.length ++ l, true) else ([], false)
def divFl (a b : Int) : Int := if a.tmod b < 0 then a.tdiv b - 1 else a.tdiv b
def divFloorF (a b : Int) : Int × Bool := if inB a (-1000000000000000) 1000000000000000 && inB b 1 1000000000000000 then (divFl a b, true) else (0, false)
theorem tdiv_bd (a b : Int) (ha : -1000000000000000 ≤ a) (ha' : a ≤ 1000000000000000) (_hb : 1 ≤ b) : -1000000000000000 ≤ a.tdiv b ∧ a.tdiv b ≤ 1000000000000000 := by
  have h := Int.natAbs_tdiv_le_natAbs a b
  omega
end Go.Proofs.YtcmopmapdomneaaDoor
end

section
namespace Go.Proofs.YtcmopmapdomneaaDoor
open Go.RowKit

theorem slU8 : SlT Tryd.prog 133 5 (.int .u8 0) 1 1 := ⟨Tryd.underlying133, by kernel_rfl, rfl, by decide, by decide⟩
theorem c_within (n lo hi : Int) (w : World) :
    Calls Tryd.prog 75 #[.int .i64 n, .int .i64 lo, .int .i64 hi] w fun e w' => e = .returned (.bool (inB n lo hi)) ∧ w = w' := by
  go_enter Tryd.func75, Tryd.ntmps75
  go_wp2
  all_goals
    go_ret
    exact ⟨ret_bool (by simp [inB]; try omega), rfl⟩
theorem c_l00In (n lo hi : Int) (w : World) :
    Calls Tryd.prog 39 #[.int .i64 n, .int .i64 lo, .int .i64 hi] w fun e w' => e = .returned (.bool (inB n lo hi)) ∧ w = w' := by
  go_enter Tryd.func39, Tryd.ntmps39
  go_wp2
  all_goals
    go_ret
    exact ⟨ret_bool (by simp [inB]; try omega), rfl⟩
theorem c_size (n : Int) (w : World) :
    Calls Tryd.prog 76 #[.int .i64 n] w fun e w' => e = .returned (.int .i64 n) ∧ w = w' := by
  go_enter Tryd.func76, Tryd.ntmps76
  go_wp2
  go_ret
  exact ⟨rfl, rfl⟩
end Go.Proofs.YtcmopmapdomneaaDoor
end

section
namespace Go.Proofs.YtcmopmapdomneaaDoor
open Go.RowKit

/-- string([]byte{c}) of a literal. -/
theorem conv_lit {P : Program} {src dst e : TypeId} (hs : P.underlying src = some (.slice e)) (he : P.underlying e = some (.int .u8)) (hd : P.underlying dst = some .string) (w : World) (c : UInt8) :
    (convert src dst (.slice (some ⟨w.heap.size, 0, none⟩) 1 1)).run P (w.alloc (.cells #[u8v c] e)) = .ok (strOf [c]) (w.alloc (.cells #[u8v c] e)) :=
  conv_own (e := e) (base := w.heap.size) (n := 1) hs he hd [c] (by have := World.ownsRow_lit (base := w.heap.size) (e := e) (size := 1) w #[u8v c] 1 (Nat.le_refl _) (by decide) rfl; simpa using this)
set_option maxRecDepth 100000 in
theorem c_l01Dec (n : Int) (w : World) (h1 : -9223372036854775808 ≤ n) (h2 : n ≤ 9223372036854775807) :
    Calls Tryd.prog 73 #[.int .i64 n] w fun e w' => e = .returned (strOf (Lib.itoa n)) ∧ Below w.heap.size w w' := by
  by_cases h0 : n = 0
  · subst h0
    have HI := hid itoa_zero
    go_enter Tryd.func73, Tryd.ntmps73
    go_wp2
    go_ret
    rw [HI.out]
    exact ⟨rfl, Below.refl _ _⟩
  · have hne : (n == 0) = false := by simpa using h0
    obtain ⟨U, HU⟩ : ∃ U : Nat, Hid (n.natAbs = U) := ⟨_, rfl⟩
    have hU : U ≤ 9223372036854775808 := by rw [← HU.out]; omega
    rcases (show n = (U : Int) ∨ n = -(U : Int) by rw [← HU.out]; omega) with rfl | rfl
    any_goals
      have hp : 0 < U := by omega
      have HF : Hid (Lib.itoa (U : Int) = digs U) := by unfold Hid; rw [itoa_pos (by omega)]; simp
    any_goals
      have HF2 : Hid (Lib.itoa (-(U : Int)) = 45 :: digs U) := by unfold Hid; rw [itoa_neg' (by omega)]; simp
    all_goals
      clear h0 hne HU
      go_enter Tryd.func73, Tryd.ntmps73
      go_wp2
      go_loopw [3, 4] (fun v o wr => ∃ (u : Nat) (l : List UInt8), u ≤ U ∧ v = .int .i64 (-(u : Int)) ∧ o = .string ⟨l.toArray⟩ ∧ Hid (digs u ++ l = digs U) ∧ Below w.heap.size w wr) (fun v _ _ => (intOf v).natAbs)
      case atStart => exact ⟨U, [], Nat.le_refl _, rfl, rfl, by simp [Hid], Below.refl _ _⟩
      case round =>
        obtain ⟨u, l, hu, rfl, rfl, HL, hbe⟩ := hrel
        have hsz := hbe.size
        have hll : l.length ≤ 20 := by
          have h9 := digs_len U hU
          rw [← HL.out, List.length_append] at h9; omega
        by_cases hu0 : 0 < u
        · have t1 := tmod_neg_ten u
          have t2 := tdiv_neg_ten u
          have HC := conv_lit Tryd.underlying133 Tryd.underlying5 Tryd.underlying9 wr (UInt8.ofNat (48 + u % 10))
          have e8 : u8v (UInt8.ofNat (48 + u % 10)) = .int .u8 (48 + (u : Int) % 10) := by
            unfold u8v; rw [UInt8.toNat_ofNat_of_lt' (by simp [UInt8.size]; omega)]; simp
          rw [e8] at HC
          have HE : Hid (digs u = digs (u / 10) ++ [UInt8.ofNat (48 + u % 10)]) := digs_pos hu0
          clear e8
          unfold strOf at HC
          generalize UInt8.ofNat (48 + u % 10) = c at *
          go_wp2
          go_roundw
          case rel => exact ⟨u / 10, c :: l, by omega, by go_num, by exact strOf_add [c] l, by have h := HL.out; rw [HE.out] at h; simpa [Hid] using h, hbe.alloc hsz _⟩
          case measure => simp [intOf]; omega
        · obtain rfl : u = 0 := by omega
          have HG : Hid (l = digs U) := by have h := HL.out; rw [digs_zero] at h; exact h
          go_wp2
          go_ret
          first | (rw [HF.out, ← HG.out]; exact ⟨rfl, hbe⟩) | (rw [HF2.out, ← HG.out]; exact ⟨congrArg Ending.returned (strOf_add [45] l), hbe⟩)
end Go.Proofs.YtcmopmapdomneaaDoor
end

section
namespace Go.Proofs.YtcmopmapdomneaaDoor
open Go.RowKit

def I64 (n : Int) : Prop := -9223372036854775808 ≤ n ∧ n ≤ 9223372036854775807
theorem i64_0 : I64 0 := ⟨by omega, by omega⟩

/-- How a type's values lie in n cells (what they lead to lies in the blocks S). -/
structure Codec (α : Type) where
  n : Nat
  rd : (Nat → Prop) → World → List Value → α → Prop
  len : ∀ {S w cs a}, rd S w cs a → cs.length = n
  one : ∀ {S w cs a}, rd S w cs a → ∀ u ∈ cs, u.oneCell' = true
  keep : ∀ {S S' : Nat → Prop} {w w' : World} {cs a}, (∀ b, S b → b < w.heap.size → S' b ∧ w'.heap[b]? = w.heap[b]?) → rd S w cs a → rd S' w' cs a

def cInt : Codec Int where
  n := 1
  rd := fun _ _ cs a => cs = [.int .i64 a] ∧ I64 a
  len := by rintro _ _ _ _ ⟨rfl, _⟩; rfl
  one := by rintro _ _ _ _ ⟨rfl, _⟩ u hu; simp at hu; subst hu; rfl
  keep := fun _ h => h
def cBool : Codec Bool where
  n := 1
  rd := fun _ _ cs a => cs = [.bool a]
  len := by rintro _ _ _ _ rfl; rfl
  one := by rintro _ _ _ _ rfl u hu; simp at hu; subst hu; rfl
  keep := fun _ h => h
def cStr : Codec (List UInt8) where
  n := 1
  rd := fun _ _ cs a => cs = [strOf a] ∧ a.length ≤ 9223372036854775807
  len := by rintro _ _ _ _ ⟨rfl, _⟩; rfl
  one := by rintro _ _ _ _ ⟨rfl, _⟩ u hu; simp at hu; subst hu; rfl
  keep := fun _ h => h

/-- The elements of a slice that begins at a and has room for cap. -/
def SlRd {α : Type} (C : Codec α) (S : Nat → Prop) (w : World) (a : Option Addr) (cap : Nat) (azs : List α) : Prop :=
  azs.length ≤ cap ∧ cap ≤ 9223372036854775807 ∧ (a = none → cap = 0) ∧
    ∀ x, a = some x → ∀ (i : Nat) d, azs[i]? = some d → (x.spot = none ∧ S x.block ∧ x.block < w.heap.size) ∧ ∃ cs, C.rd S w cs d ∧ ∀ (j : Nat) u, cs[j]? = some u → w.cell? ⟨x.block, x.off + i * C.n + j, none⟩ = some u

theorem SlRd.keep {α : Type} {C : Codec α} {S S' : Nat → Prop} {w w' : World} {a : Option Addr} {cap : Nat} {azs : List α} (hk : ∀ b, S b → b < w.heap.size → S' b ∧ w'.heap[b]? = w.heap[b]?)
    (h : SlRd C S w a cap azs) : SlRd C S' w' a cap azs := by
  obtain ⟨h1, h2, h3, h4⟩ := h
  refine ⟨h1, h2, h3, fun x hx i d hi => ?_⟩
  obtain ⟨⟨h5, h6, h7⟩, cs, r, hc⟩ := h4 x hx i d hi
  obtain ⟨k1, k2⟩ := hk _ h6 h7
  refine ⟨⟨h5, k1, ?_⟩, cs, C.keep hk r, fun j u hj => (World.cell?_of_block (w := w) (a := ⟨x.block, x.off + i * C.n + j, none⟩) k2).trans (hc j u hj)⟩
  rw [show w.heap[x.block]? = some w.heap[x.block] by simp [h7]] at k2
  exact (Array.getElem?_eq_some_iff.1 k2).1

def cSl {α : Type} (C : Codec α) : Codec (List α) where
  n := 1
  rd := fun S w cs azs => ∃ a cap, cs = [.slice a azs.length cap] ∧ SlRd C S w a cap azs
  len := by rintro _ _ _ _ ⟨_, _, rfl, _⟩; rfl
  one := by rintro _ _ _ _ ⟨_, _, rfl, _⟩ u hu; simp at hu; subst hu; rfl
  keep := by rintro S S' w w' cs azs hk ⟨a, cap, rfl, h⟩; exact ⟨a, cap, rfl, h.keep hk⟩

def cPair {α β : Type} (C : Codec α) (D : Codec β) : Codec (α × β) where
  n := C.n + D.n
  rd := fun S w cs p => ∃ c d, cs = c ++ d ∧ C.rd S w c p.1 ∧ D.rd S w d p.2
  len := by rintro _ _ _ _ ⟨c, d, rfl, h1, h2⟩; rw [List.length_append, C.len h1, D.len h2]
  one := by
    rintro _ _ _ _ ⟨c, d, rfl, h1, h2⟩ u hu
    rcases List.mem_append.1 hu with hu | hu
    · exact C.one h1 u hu
    · exact D.one h2 u hu
  keep := by rintro S S' w w' cs p hk ⟨c, d, rfl, h1, h2⟩; exact ⟨c, d, rfl, C.keep hk h1, D.keep hk h2⟩

abbrev Term := Int × List Int
abbrev cInts : Codec (List Int) := cSl cInt
abbrev cTerm : Codec Term := cPair cInt cInts
abbrev cTerms : Codec (List Term) := cSl cTerm
abbrev Instr := Int × Int
abbrev cInstr : Codec Instr := cPair cInt cInt
abbrev cCode : Codec (List Instr) := cSl cInstr

abbrev St := List Int × List Int
abbrev cState : Codec St := cPair cInts cInts
/-- A reading outlives whatever makes new blocks alone. -/
theorem Codec.below {α : Type} (C : Codec α) {S : Nat → Prop} {w w' : World} {B : Nat} {cs : List Value} {a : α} (hB : w.heap.size ≤ B) (hb : Below B w w') (h : C.rd S w cs a) : C.rd S w' cs a :=
  C.keep (fun b hs hl => ⟨hs, hb.block b (by omega)⟩) h
theorem SlRd.below {α : Type} {C : Codec α} {S : Nat → Prop} {w w' : World} {a : Option Addr} {cap : Nat} {azs : List α} {B : Nat} (h : SlRd C S w a cap azs) (hB : w.heap.size ≤ B) (hb : Below B w w') : SlRd C S w' a cap azs :=
  h.keep (fun b hs hl => ⟨hs, hb.block b (by omega)⟩)
/-- .. and what touches none of its blocks. -/
theorem SlRd.grown {α : Type} {C : Codec α} {S : Nat → Prop} {w w' : World} {a : Option Addr} {cap : Nat} {azs : List α} {row : Option Nat} (h : SlRd C S w a cap azs) (hb : w.grownBy w' row) (hr : ∀ b, S b → some b ≠ row) : SlRd C S w' a cap azs :=
  h.keep (fun b hs hl => ⟨hs, hb.block b hl (hr b hs)⟩)

theorem SlRd.some_of {α : Type} {C : Codec α} {S : Nat → Prop} {w : World} {a : Option Addr} {cap : Nat} {azs : List α} (h : SlRd C S w a cap azs) {k : Nat} (hk : k < azs.length) : ∃ b off, a = some ⟨b, off, none⟩ := by
  obtain ⟨h1, h2, h3, h4⟩ := h
  cases a with
  | none => have := h3 rfl; omega
  | some x => obtain ⟨⟨h5, _⟩, _⟩ := h4 x rfl k azs[k] (by simp [hk]); obtain ⟨b, off, sp⟩ := x; simp at h5; subst h5; exact ⟨b, off, rfl⟩
theorem SlRd.len_le {α : Type} {C : Codec α} {S : Nat → Prop} {w : World} {a : Option Addr} {cap : Nat} {azs : List α} (h : SlRd C S w a cap azs) : azs.length ≤ 9223372036854775807 := Nat.le_trans h.1 h.2.1
/-- Element k of a slice. -/
theorem SlRd.at {α : Type} {C : Codec α} {S : Nat → Prop} {w : World} {b off cap : Nat} {azs : List α} (h : SlRd C S w (some ⟨b, off, none⟩) cap azs) (k : Nat) (hk : k < azs.length) :
    ∃ d cs, azs[k]? = some d ∧ C.rd S w cs d ∧ b < w.heap.size ∧ S b ∧ ∀ (j : Nat) u, cs[j]? = some u → w.cell? ⟨b, off + k * C.n + j, none⟩ = some u := by
  obtain ⟨⟨h5, h6, h7⟩, cs, hr, hc⟩ := h.2.2.2 _ rfl k azs[k] (by simp [hk])
  exact ⟨azs[k], cs, by simp [hk], hr, h7, h6, hc⟩
/-- Element k of a slice of numbers. -/
theorem SlRd.int_at {S : Nat → Prop} {w : World} {b off cap : Nat} {zs : List Int} (h : SlRd cInt S w (some ⟨b, off, none⟩) cap zs) (k : Nat) (hk : k < zs.length) :
    ∃ z, zs[k]? = some z ∧ I64 z ∧ w.cell? ⟨b, off + k, none⟩ = some (.int .i64 z) ∧ b < w.heap.size := by
  obtain ⟨d, cs, h1, ⟨rfl, hz⟩, h7, _, hc⟩ := h.at k hk
  have := hc 0 _ rfl
  simp only [cInt, Nat.mul_one, Nat.add_zero] at this
  exact ⟨_, h1, hz, this, h7⟩
theorem SlRd.term_at {S : Nat → Prop} {w : World} {b off cap : Nat} {ts : List Term} (h : SlRd cTerm S w (some ⟨b, off, none⟩) cap ts) (k : Nat) (hk : k < ts.length) :
    ∃ (c : Int) (zs : List Int) (a : Option Addr) (cap' : Nat), ts[k]? = some (c, zs) ∧ I64 c ∧ SlRd cInt S w a cap' zs ∧ w.cell? ⟨b, off + k * 2, none⟩ = some (.int .i64 c) ∧ w.cell? ⟨b, off + k * 2 + 1, none⟩ = some (.slice a zs.length cap') ∧ b < w.heap.size := by
  obtain ⟨⟨c, zs⟩, cs, h1, ⟨c', d, rfl, ⟨rfl, hc1⟩, a, cap', rfl, hsl⟩, h7, _, hc⟩ := h.at k hk
  exact ⟨c, zs, a, cap', h1, hc1, hsl, hc 0 _ rfl, hc 1 _ rfl, h7⟩

theorem SlRd.drew {α : Type} {C : Codec α} {S : Nat → Prop} {w : World} {a : Option Addr} {cap : Nat} {azs : List α} (h : SlRd C S w a cap azs) : SlRd C S w.drew a cap azs := SlRd.keep (w := w) (w' := w.drew) (fun _ hs _ => ⟨hs, rfl⟩) h
theorem SlRd.alloc {α : Type} {C : Codec α} {S : Nat → Prop} {w : World} {a : Option Addr} {cap : Nat} {azs : List α} (h : SlRd C S w a cap azs) (o : Obj) : SlRd C S (w.alloc o) a cap azs :=
  h.below (Nat.le_refl _) ((Below.refl _ _).alloc (Nat.le_refl _) o)
/-- A box was made, and then something that turned nothing old. -/
theorem bel_box {B : Nat} {w0 w w' : World} {o : Obj} (h : Below B w0 w) (hB : B ≤ w.heap.size) (h1 : Below (w.alloc o).heap.size (w.alloc o) w') : Below B w0 w' :=
  (h.alloc hB o).trans (h1.mono (by rw [World.size_alloc]; omega))
theorem bel_next {B : Nat} {w0 w w' : World} (h : Below B w0 w) (hB : B ≤ w.heap.size) (h1 : Below w.heap.size w w') : Below B w0 w' := h.trans (h1.mono hB)

theorem term_arr {S : Nat → Prop} {w : World} {cs : Array Value} {d : Term} (h : cTerm.rd S w cs.toList d) : ∃ a cap, cs = #[.int .i64 d.1, .slice a d.2.length cap] ∧ SlRd cInt S w a cap d.2 ∧ I64 d.1 := by
  obtain ⟨c, e, he, ⟨rfl, hc⟩, a, cap, rfl, hs⟩ := h
  exact ⟨a, cap, by rw [← Array.toList_inj, he]; rfl, hs, hc⟩
theorem state_arr {S : Nat → Prop} {w : World} {cs : Array Value} {d : St} (h : cState.rd S w cs.toList d) : ∃ a cap b cap', cs = #[.slice a d.1.length cap, .slice b d.2.length cap'] ∧ SlRd cInt S w a cap d.1 ∧ SlRd cInt S w b cap' d.2 ∧ True := by
  obtain ⟨c, e, he, ⟨a, cap, rfl, hs⟩, b, cap', rfl, hs'⟩ := h
  exact ⟨a, cap, b, cap', by rw [← Array.toList_inj, he]; rfl, hs, hs', trivial⟩
theorem instr_arr {S : Nat → Prop} {w : World} {cs : Array Value} {d : Instr} (h : cInstr.rd S w cs.toList d) : cs = #[.int .i64 d.1, .int .i64 d.2] ∧ I64 d.1 ∧ I64 d.2 := by
  obtain ⟨c, e, he, ⟨rfl, h1⟩, ⟨rfl, h2⟩⟩ := h
  exact ⟨by rw [← Array.toList_inj, he]; rfl, h1, h2⟩
theorem cell_below {W w1 : World} {n b o : Nat} {v : Value} (hb : Below n W w1) (hlt : b < n) (h : W.cell? ⟨b, o, none⟩ = some v) : w1.cell? ⟨b, o, none⟩ = some v := (hb.cell (p := ⟨b, o, none⟩) hlt).trans h
/-! ### What the form's reader reads is read by the codecs -/
def Opens (P : Program) (t : TypeId) {α : Type} (C : Codec α) : Prop :=
  P.cellsOf t = C.n ∧ ∀ (H : Type) (enc : TypeId × Value → H) (w : World) (base : Nat) (spare : Nat → Bool) (held : Bool) (fuel : Nat) (cs : List Value) (x : DataW H × List MemPlace),
    DataW.trod enc P w base spare held fuel t cs = some x → ∃ a, C.rd (fun _ => True) w cs a
theorem opens_int {P : Program} {t : TypeId} (h : P.underlying t = some (.int .i64)) (hn : P.cellsOf t = 1) : Opens P t cInt :=
  ⟨hn, fun H enc w base spare held fuel cs x hx => by
    obtain ⟨n, rfl, _, hw⟩ := DataW.trod_int h hx
    refine ⟨n, rfl, ?_⟩
    simp [Lit.wf, IntKind.min, IntKind.max, IntKind.signed, IntKind.bits] at hw
    exact ⟨by omega, by omega⟩⟩
theorem opens_str {P : Program} {t : TypeId} (h : P.underlying t = some .string) (hn : P.cellsOf t = 1) : Opens P t cStr :=
  ⟨hn, fun H enc w base spare held fuel cs x hx => by
    obtain ⟨s, rfl, _, hw⟩ := DataW.trod_string h hx
    exact ⟨s.data.toList, rfl, by unfold maxLen at hw; simpa using hw⟩⟩
theorem opens_bool {P : Program} {t : TypeId} (h : P.underlying t = some .bool) (hn : P.cellsOf t = 1) : Opens P t cBool :=
  ⟨hn, fun H enc w base spare held fuel cs x hx => by
    obtain ⟨b, rfl, _⟩ := DataW.trod_bool h hx
    exact ⟨b, rfl⟩⟩
theorem list_choose {α : Type} {p : Nat → α → Prop} : ∀ (n : Nat), (∀ i, i < n → ∃ a, p i a) → ∃ l : List α, l.length = n ∧ ∀ i a, l[i]? = some a → p i a
  | 0, _ => ⟨[], rfl, by simp⟩
  | n + 1, h => by
    obtain ⟨l, hl, hp⟩ := list_choose n fun i hi => h i (by omega)
    obtain ⟨a, ha⟩ := h n (by omega)
    refine ⟨l ++ [a], by simp [hl], fun i b hb => ?_⟩
    rw [List.getElem?_append] at hb
    split at hb
    · exact hp i b hb
    · rename_i hge
      have : i = n := by
        have := (List.getElem?_eq_some_iff.1 hb).1
        simp at this; omega
      subst this
      rw [hl] at hb; simp at hb; subst hb; exact ha
theorem cells_of {w : World} {base : Nat} {a : Addr} {n : Nat} {cs : List Value} (h : w.cells? base a n = some cs) (hs : a.spot = none) : ∀ (j : Nat) u, cs[j]? = some u → w.cell? ⟨a.block, a.off + j, none⟩ = some u := by
  unfold World.cells? at h
  split at h
  · intro j u hj
    have hl := mapM_some_length h
    have := mapM_some_get h j j (by
      have := (List.getElem?_eq_some_iff.1 hj).1
      simp at hl
      rw [List.getElem?_range (by omega)])
    rw [hj] at this
    have hadd : a.add j = ⟨a.block, a.off + j, none⟩ := by
      obtain ⟨b, o, s⟩ := a
      simp at hs; subst hs
      unfold Addr.add; split
      · simp_all
      · rfl
    rw [← hadd]; exact this
  · cases h
theorem opens_sl {P : Program} {t e : TypeId} {α : Type} {C : Codec α} (h : P.underlying t = some (.slice e)) (hn : P.cellsOf t = 1) (he : Opens P e C) (hC : 0 < C.n) : Opens P t (cSl C) :=
  ⟨hn, fun H enc w base spare held fuel cs x hx => by
    rcases Go.Deep.open_slice h hx with ⟨rfl, _⟩ | ⟨a, len, cap, m, n, D, Pl, rfl, _, hl, hm, hmm, _, hel⟩
    · exact ⟨[], none, 0, rfl, by simp, by decide, fun _ => rfl, by simp⟩
    · have hle : len ≤ m := by rw [hmm]; split <;> omega
      have hch := list_choose (p := fun i d => ∃ cs', w.cells? base (a.add (i * P.cellsOf e)) (P.cellsOf e) = some cs' ∧ C.rd (fun _ => True) w cs' d) len fun i hi => by
        obtain ⟨cs', h1, h2⟩ := hel i (by omega)
        obtain ⟨d, hd⟩ := he.2 H enc w base spare held n cs' _ h2
        exact ⟨d, cs', h1, hd⟩
      obtain ⟨l, hll, hp⟩ := hch
      refine ⟨l, some a, cap, by rw [hll], by omega, by unfold maxLen at hm; simpa using hm, by simp, ?_⟩
      rintro x hx i d hi
      cases hx
      obtain ⟨cs', h1, hd⟩ := hp i d hi
      have hlen := C.len hd
      rw [he.1] at h1
      have hsp : a.spot = none ∧ ∀ (j : Nat) u, cs'[j]? = some u → w.cell? ⟨a.block, a.off + i * C.n + j, none⟩ = some u := by
        have hs : a.spot = none := by
          have hl0 : 0 < l.length := by have := (List.getElem?_eq_some_iff.1 hi).1; omega
          have h00 := hp 0 l[0] (by simp)
          obtain ⟨cs0, h10, hd0⟩ := h00
          rw [he.1] at h10
          unfold World.cells? at h10
          split at h10
          · have hl0 := C.len hd0
            have := mapM_some_get h10 0 0 (by rw [List.getElem?_range hC])
            rw [show cs0[0]? = some cs0[0] by simp] at this
            simp [Addr.add] at this
            unfold World.cell? at this
            split at this
            · split at this
              · cases this
              · rename_i hns; simpa using hns
            · cases this
          · cases h10
        refine ⟨hs, ?_⟩
        by_cases hi0 : i = 0
        · subst hi0
          have := cells_of h1 (by simp [Addr.add, hs])
          simpa [Addr.add] using this
        · have hne : i * C.n ≠ 0 := by
            have := Nat.mul_pos (Nat.pos_of_ne_zero hi0) hC
            omega
          have := cells_of h1 (by simp [Addr.add, hne])
          simpa [Addr.add, hne] using this
      refine ⟨⟨hsp.1, trivial, ?_⟩, cs', hd, hsp.2⟩
      exact World.block_lt_of_cell? w ⟨a.block, a.off + i * C.n + 0, none⟩ (hsp.2 0 cs'[0] (by simp))⟩

/-- The fields of a struct from one place on. -/
def OpensFs (P : Program) (off : Nat) (fs : List Field) {α : Type} (C : Codec α) : Prop :=
  ∀ (H : Type) (enc : TypeId × Value → H) (w : World) (base : Nat) (spare : Nat → Bool) (held : Bool) (n : Nat) (cs : List Value), cs.length = off + C.n →
    (∀ f ∈ fs, ∃ x, DataW.trod enc P w base spare held n f.type ((cs.drop f.offset).take (P.cellsOf f.type)) = some x) → ∃ a, C.rd (fun _ => True) w (cs.drop off) a
theorem opensFs_last {P : Program} {f : Field} {off : Nat} {α : Type} {C : Codec α} (ho : f.offset = off) (h : Opens P f.type C) : OpensFs P off [f] C :=
  fun H enc w base spare held n cs hl hx => by
    obtain ⟨x, hx⟩ := hx f (by simp)
    rw [ho, h.1, List.take_of_length_le (by simp; omega)] at hx
    exact h.2 H enc w base spare held n _ _ hx
theorem opensFs_cons {P : Program} {f : Field} {fs : List Field} {off : Nat} {α β : Type} {C : Codec α} {D : Codec β} (ho : f.offset = off) (h : Opens P f.type C) (hr : OpensFs P (off + C.n) fs D) : OpensFs P off (f :: fs) (cPair C D) :=
  fun H enc w base spare held n cs hl hx => by
    have hl' : cs.length = off + C.n + D.n := by simp only [cPair] at hl; omega
    obtain ⟨x, hx0⟩ := hx f (by simp)
    rw [ho, h.1] at hx0
    obtain ⟨a, ha⟩ := h.2 H enc w base spare held n _ _ hx0
    obtain ⟨b, hb⟩ := hr H enc w base spare held n cs hl' (fun g hg => hx g (by simp [hg]))
    refine ⟨(a, b), (cs.drop off).take C.n, cs.drop (off + C.n), ?_, ha, hb⟩
    rw [← List.drop_drop, List.take_append_drop]
theorem opens_struct {P : Program} {t : TypeId} {fs : Array Field} {α : Type} {C : Codec α} (h : P.underlying t = some (.struct fs)) (hn : P.cellsOf t = C.n) (hf : OpensFs P 0 fs.toList C) : Opens P t C :=
  ⟨hn, fun H enc w base spare held fuel cs x hx => by
    obtain ⟨xs, n, _, _, hl, hlen, hp⟩ := DataW.trod_struct h hx
    have := hf H enc w base spare held n cs (by omega) (fun f hf => by
      obtain ⟨i, hi⟩ := List.getElem?_of_mem hf
      have hi' : fs[i]? = some f := by simpa using hi
      have := hp i f hi'
      have hlt := (Array.getElem?_eq_some_iff.1 hi').1
      exact ⟨xs[i], by rw [this]; simp⟩)
    simpa using this⟩
end Go.Proofs.YtcmopmapdomneaaDoor
end

section
namespace Go.Proofs.YtcmopmapdomneaaDoor
open Go.RowKit

/-- A block that no string shares. -/
def Thawed (w : World) (b : Nat) : Prop := ∃ cs e, w.heap[b]? = some (.cells cs e (0, 0))
/-- The blocks from B on that may be written. -/
def Fresh (B : Nat) (w : World) (b : Nat) : Prop := B ≤ b ∧ Thawed w b
theorem Thawed.frozen {w : World} {b : Nat} (h : Thawed w b) (o : Nat) : w.frozen? ⟨b, o, none⟩ = false := by
  obtain ⟨cs, e, h⟩ := h; exact frozen_of_row w b o cs e h
theorem Thawed.keep {w w' : World} {b : Nat} (h : Thawed w b) (hb : w'.heap[b]? = w.heap[b]?) : Thawed w' b := by
  obtain ⟨cs, e, h⟩ := h; exact ⟨cs, e, by rw [hb, h]⟩
theorem Fresh.below {B B' n : Nat} {w w' : World} {b : Nat} (hB : B' ≤ B) (hn : w.heap.size ≤ n) (hb : Below n w w') (h : Fresh B w b) (hl : b < w.heap.size) : Fresh B' w' b :=
  ⟨Nat.le_trans hB h.1, h.2.keep (hb.block b (by omega))⟩
/-- A reading out of new blocks, later. -/
theorem Codec.fresh {α : Type} (C : Codec α) {B B' n : Nat} {w w' : World} {cs : List Value} {a : α} (hB : B' ≤ B) (hn : w.heap.size ≤ n) (hb : Below n w w') (h : C.rd (Fresh B w) w cs a) : C.rd (Fresh B' w') w' cs a :=
  C.keep (fun b hs hl => ⟨hs.below hB hn hb hl, hb.block b (by omega)⟩) h
theorem SlRd.fresh {α : Type} {C : Codec α} {B B' n : Nat} {w w' : World} {a : Option Addr} {cap : Nat} {azs : List α} (h : SlRd C (Fresh B w) w a cap azs) (hB : B' ≤ B) (hn : w.heap.size ≤ n) (hb : Below n w w') : SlRd C (Fresh B' w') w' a cap azs :=
  h.keep (fun b hs hl => ⟨hs.below hB hn hb hl, hb.block b (by omega)⟩)

/-- v is a slice of the call's own (blocks from base on) with the elements azs. -/
def OwnSl {α : Type} (C : Codec α) (S : Nat → Prop) (w : World) (base : Nat) (e : TypeId) (v : Value) (azs : List α) : Prop :=
  ∃ xs, w.ownsRow base e C.n v azs.length xs ∧ ∀ (i : Nat) d, azs[i]? = some d → ∃ cs, C.rd (fun b => S b ∧ some b ≠ v.ownBlock) w cs d ∧ ∀ (j : Nat) u, cs[j]? = some u → xs[i * C.n + j]? = some u

variable {α : Type} {C : Codec α} {S : Nat → Prop} {w : World} {base : Nat} {e : TypeId} {v : Value} {azs : List α}

theorem own_nil (C : Codec α) (S : Nat → Prop) (w : World) (base : Nat) (e : TypeId) : OwnSl C S w base e (.slice none 0 0) [] := ⟨[], World.ownsRow_nil _ _ _ _, by simp⟩
theorem own_made (C : Codec α) (S : Nat → Prop) (w : World) (base : Nat) (e : TypeId) (hb : base ≤ w.heap.size) : OwnSl C S (w.alloc (.cells #[] e)) base e (.slice (some ⟨w.heap.size, 0, none⟩) 0 0) [] :=
  ⟨[], World.ownsRow_made _ _ _ hb (by decide) (by simp), by simp⟩
theorem own_keep {S' : Nat → Prop} {w' : World} (h : OwnSl C S w base e v azs) (hS : ∀ b, S b → b < w.heap.size → S' b) (hk : ∀ b, b < w.heap.size → (S b ∨ some b = v.ownBlock) → w'.heap[b]? = w.heap[b]?) : OwnSl C S' w' base e v azs := by
  obtain ⟨xs, hr, hel⟩ := h
  refine ⟨xs, ⟨hr.1, ?_⟩, fun i d hi => ?_⟩
  · rcases hr.2 with h0 | ⟨g, cap, cur, rfl, hb, hg, rest⟩
    · exact .inl h0
    · exact .inr ⟨g, cap, cur, rfl, hb, by rw [hk g (Array.getElem?_eq_some_iff.1 hg).1 (.inr (by simp [Value.ownBlock]))]; exact hg, rest⟩
  · obtain ⟨cs, r, hc⟩ := hel i d hi
    exact ⟨cs, C.keep (fun b hs hl => ⟨⟨hS b hs.1 hl, hs.2⟩, hk b hl (.inl hs.1)⟩) r, hc⟩
theorem own_below {w' : World} {n : Nat} (h : OwnSl C S w base e v azs) (hn : w.heap.size ≤ n) (hb : Below n w w') : OwnSl C S w' base e v azs :=
  own_keep h (fun _ hs _ => hs) fun b hl _ => hb.block b (by omega)
theorem own_alloc (h : OwnSl C S w base e v azs) (o : Obj) : OwnSl C S (w.alloc o) base e v azs := own_below h (Nat.le_refl _) ((Below.refl _ _).alloc (Nat.le_refl _) o)
theorem own_fresh {w' : World} {n B B' : Nat} (h : OwnSl C (Fresh B w) w base e v azs) (hB : B' ≤ B) (hn : w.heap.size ≤ n) (hb : Below n w w') : OwnSl C (Fresh B' w') w' base e v azs :=
  own_keep h (fun _ hs hl => hs.below hB hn hb hl) fun b hl _ => hb.block b (by omega)
theorem own_lt (h : OwnSl C S w base e v azs) : ∀ k, v.ownBlock = some k → base ≤ k ∧ k < w.heap.size := by obtain ⟨xs, hr, _⟩ := h; exact hr.lt
theorem own_len (h : OwnSl C S w base e v azs) : ∃ a cap, v = .slice a azs.length cap := by
  obtain ⟨xs, hr, _⟩ := h
  rcases hr.2 with ⟨h1, h2⟩ | ⟨g, cap, cur, h1, _⟩
  · exact ⟨none, 0, by rw [h1, h2]⟩
  · exact ⟨_, cap, h1⟩
theorem bel_own {B : Nat} {w' : World} (h : OwnSl C S w base e v azs) (hg : w.grownBy w' v.ownBlock) (hb : B ≤ base) (hB : B ≤ w.heap.size) : Below B w w' :=
  (Below.refl B w).grown hg hB fun k hk => Nat.le_trans hb (own_lt h k hk).1

/-- It is read like any other slice. -/
theorem own_rd {B : Nat} (h : OwnSl C (Fresh B w) w base e v azs) (hb : B ≤ base) : ∃ a cap, v = .slice a azs.length cap ∧ SlRd C (Fresh B w) w a cap azs := by
  obtain ⟨xs, hr, hel⟩ := h
  rcases hr.2 with ⟨h1, h2⟩ | ⟨g, cap, cur, rfl, hbg, hg, hnc, hcm, hcs, htake⟩
  · refine ⟨none, 0, by rw [h1, h2], by omega, by decide, fun _ => rfl, by simp⟩
  · refine ⟨_, cap, rfl, hnc, by unfold maxLen at hcm; simpa using hcm, by simp, ?_⟩
    rintro x hx i d hi
    cases hx
    obtain ⟨cs, r, hc⟩ := hel i d hi
    refine ⟨⟨rfl, ⟨Nat.le_trans hb hbg, cur, e, hg⟩, (Array.getElem?_eq_some_iff.1 hg).1⟩, cs, C.keep (fun b hs hl => ⟨hs.1, rfl⟩) r, fun j u hj => ?_⟩
    have h2 := hc j u hj
    rw [← htake, List.getElem?_take] at h2
    split at h2
    · simp only [Nat.zero_add]
      rw [cell_of_row w g _ cur e (0, 0) hg]; simpa using h2
    · cases h2

theorem own_snoc {w' : World} {v' : Value} {m : Nat} {xs ns : List Value} (bs : List α) (hr : w'.ownsRow base e C.n v' (azs.length + bs.length) (xs ++ ns)) (hx : xs.length = azs.length * C.n)
    (h1 : ∀ (i : Nat) d, azs[i]? = some d → ∃ cs, C.rd (fun b => S b ∧ some b ≠ v'.ownBlock) w' cs d ∧ ∀ (j : Nat) u, cs[j]? = some u → xs[i * C.n + j]? = some u)
    (h2 : ∀ (i : Nat) d, bs[i]? = some d → ∃ cs, C.rd (fun b => S b ∧ some b ≠ v'.ownBlock) w' cs d ∧ ∀ (j : Nat) u, cs[j]? = some u → ns[i * C.n + j]? = some u) :
    OwnSl C S w' base e v' (azs ++ bs) := by
  refine ⟨xs ++ ns, by rw [List.length_append]; exact hr, fun i d hi => ?_⟩
  rw [List.getElem?_append] at hi
  split at hi
  · obtain ⟨cs, r, hc⟩ := h1 i d hi
    refine ⟨cs, r, fun j u hj => ?_⟩
    have := hc j u hj
    rw [List.getElem?_append_left (List.getElem?_eq_some_iff.1 this).1]; exact this
  · rename_i hge
    obtain ⟨cs, r, hc⟩ := h2 _ d hi
    refine ⟨cs, r, fun j u hj => ?_⟩
    have := hc j u hj
    have hle : azs.length * C.n ≤ i * C.n := Nat.mul_le_mul_right _ (by omega)
    have he : (i - azs.length) * C.n + j = i * C.n + j - xs.length := by rw [hx, Nat.sub_mul]; omega
    rw [List.getElem?_append_right (by omega), ← he]; exact this

/-- What an append leaves, when the new elements' own readings and the old ones' lie apart from the row. -/
theorem own_grow {w' : World} {v' : Value} {xs ns : List Value} (bs : List α) (hS : ∀ b, S b → b < w.heap.size)
    (hel : ∀ (i : Nat) d, azs[i]? = some d → ∃ cs, C.rd (fun b => S b ∧ some b ≠ v.ownBlock) w cs d ∧ ∀ (j : Nat) u, cs[j]? = some u → xs[i * C.n + j]? = some u)
    (hnew : ∀ (i : Nat) d, bs[i]? = some d → ∃ cs, C.rd (fun b => S b ∧ some b ≠ v.ownBlock) w cs d ∧ ∀ (j : Nat) u, cs[j]? = some u → ns[i * C.n + j]? = some u)
    (hx : xs.length = azs.length * C.n) (hr : w'.ownsRow base e C.n v' (azs.length + bs.length) (xs ++ ns)) (hg : w.grownBy w' v.ownBlock)
    (hv : ∀ k, v'.ownBlock = some k → v.ownBlock = some k ∨ w.heap.size ≤ k) : OwnSl C S w' base e v' (azs ++ bs) := by
  have hk : ∀ b, (S b ∧ some b ≠ v.ownBlock) → b < w.heap.size → (S b ∧ some b ≠ v'.ownBlock) ∧ w'.heap[b]? = w.heap[b]? := by
    rintro b ⟨h1, h2⟩ hl
    refine ⟨⟨h1, fun e => ?_⟩, hg.block b hl h2⟩
    rcases hv b e.symm with h | h
    · exact h2 h.symm
    · omega
  refine own_snoc (m := 0) bs hr hx (fun i d hi => ?_) (fun i d hi => ?_)
  · obtain ⟨cs, r, hc⟩ := hel i d hi; exact ⟨cs, C.keep hk r, hc⟩
  · obtain ⟨cs, r, hc⟩ := hnew i d hi; exact ⟨cs, C.keep hk r, hc⟩
theorem run_app {P : Program} {t ty : TypeId} {z : Value} {size bytes : Nat} (hT : SlT P t e z size bytes) {n : Nat} {xs : List Value} (hown : w.ownsRow base e size v n xs)
    (ad : Option Addr) (m c : Nat) (news : List Value) (hm : ad = none → m = 0 ∧ c = 0) (hl : news.length = m * size) (hnews : ∀ x, ad = some x → ∀ j u, news[j]? = some u → w.cell? (x.add j) = some u) (h1 : ∀ u ∈ news, u.oneCell' = true)
    (hn : n + m ≤ 1099511627776) (hbase : base ≤ w.heap.size) :
    ∃ v' w', (Builtin.append_ #[t, t] ty #[v, .slice ad m c]).run P w = .ok v' w' ∧ w'.ownsRow base e size v' (n + m) (xs ++ news) ∧ w.grownBy w' v.ownBlock ∧ (∀ k, v'.ownBlock = some k → v.ownBlock = some k ∨ w.heap.size ≤ k) := by
  obtain ⟨ht, hi, hz, hsz, hb⟩ := hT
  cases hie : P.info? e with
  | none => simp [hie] at hi
  | some i =>
    simp only [hie, Option.map_some, Option.some.injEq, Prod.mk.injEq] at hi
    obtain ⟨hz0, hz1, hz2⟩ := hi
    have hbig : (n + m) * bytes ≤ 140737488355328 := Nat.le_trans (Nat.mul_le_mul hn hb) (by decide)
    cases ad with
    | none =>
      obtain ⟨rfl, rfl⟩ := hm rfl
      obtain rfl : news = [] := List.eq_nil_of_length_eq_zero (by simpa using hl)
      rcases hown.2 with ⟨rfl, rfl⟩ | ⟨g, cap, cur, rfl, hbg, hg, hnc, hcm, hcs, htake⟩
      · refine ⟨.slice none 0 0, w, ?_, by simpa using hown, ⟨rfl, rfl, rfl, Nat.le_refl _, fun _ _ _ => rfl⟩, by simp [Value.ownBlock]⟩
        simp [Builtin.append_, run_underlying ht, sizeOf, typeInfo, hie, Builtin.lenOf, Builtin.firstCells]
      · refine ⟨_, w, ?_, by simpa using hown, ⟨rfl, rfl, rfl, Nat.le_refl _, fun _ _ _ => rfl⟩, fun k hk => .inl hk⟩
        simp [Builtin.append_, run_underlying ht, sizeOf, typeInfo, hie, Builtin.lenOf, Builtin.firstCells, hnc, storeCells]
    | some ad =>
      have hnews' := hnews ad rfl
      obtain ⟨v', w', hr, h2, h3, h4⟩ := run_append_own (P := P) w base t ty e i z size bytes ht hie hz0 hz1 hz2 hz hsz v n xs hown ad m c news hl hnews' h1 (Nat.le_trans hn (by decide)) hbig hbase
      refine ⟨v', w', hr, h2, h3, ?_⟩
      subst hz1
      subst hz2
      rcases hown.2 with ⟨rfl, rfl⟩ | ⟨g, cap, cur, rfl, hbg, hg, hnc, hcm, hcs, htake⟩
      · by_cases hm0 : m = 0
        · rw [h4.2 ⟨rfl, hm0⟩]; simp [Value.ownBlock]
        · have hr' := run_append_nil (P := P) w t ty e i z ht hie hz0 ad m c news hl hnews' (by omega) (by omega) (by rw [Nat.zero_add] at hbig; omega)
          rw [hr'] at hr
          injection hr with e1 e2
          subst e1
          intro k hk; simp [Value.ownBlock] at hk; omega
      · by_cases hroom : n + m ≤ cap
        · have hfit : n * i.size + news.length ≤ cur.size := by rw [hl, hcs, ← Nat.add_mul]; exact Nat.mul_le_mul_right _ hroom
          have hr' := run_append_room (P := P) w t ty e i ht hie g n cap cur hg ad m c news hl hnews' h1 hroom hfit
          rw [hr'] at hr
          injection hr with e1 e2
          subst e1
          intro k hk; simp [Value.ownBlock] at hk ⊢; omega
        · have hr' := run_append_grow (P := P) w t ty e i z ht hie hz0 ⟨g, 0, none⟩ n cap xs hown.1 (hown.cells (g := g) rfl) ad m c news hl hnews' (by omega) (by omega) (growslice_fits (by omega) hbig)
          rw [hr'] at hr
          injection hr with e1 e2
          subst e1
          intro k hk; simp [Value.ownBlock] at hk; omega

theorem oneCell'_of {cs : List Value} {d : α} {T : Nat → Prop} (h : C.rd T w cs d) : ∀ u ∈ cs, u.oneCell' = true := C.one h

/-- append(v, d) of one element, which lies in the block made last (or anywhere: 'hx', 'hblk'). -/
theorem app_one {P : Program} {t : TypeId} {z : Value} {bytes : Nat} (hT : SlT P t e z C.n bytes) (hS : ∀ b, S b → b < w.heap.size) (hown : OwnSl C S w base e v azs) {g c : Nat} {cs : Array Value} {e' : TypeId} {fr : Nat × Nat}
    (hblk : w.heap[g]? = some (.cells cs e' fr)) (d : α) (hd : C.rd (fun b => S b ∧ some b ≠ v.ownBlock) w cs.toList d) (hn : azs.length + 1 ≤ 1099511627776) (hbase : base ≤ w.heap.size) (ty : TypeId) :
    ∃ v' w', (Builtin.append_ #[t, t] ty #[v, .slice (some ⟨g, 0, none⟩) 1 c]).run P w = .ok v' w' ∧ OwnSl C S w' base e v' (azs ++ [d]) ∧ w.grownBy w' v.ownBlock := by
  obtain ⟨xs, hr, hel⟩ := hown
  obtain ⟨v', w', h1, h2, h3, h4⟩ := run_app (ty := ty) hT hr (some ⟨g, 0, none⟩) 1 c cs.toList (by simp) (by rw [C.len hd]; simp)
    (by
      rintro x hx j u hj
      cases hx
      have hadd : (⟨g, 0, none⟩ : Addr).add j = ⟨g, j, none⟩ := by unfold Addr.add; split <;> simp_all
      rw [hadd, cell_of_row w g j cs e' fr hblk]; simpa using hj) (C.one hd) hn hbase
  refine ⟨v', w', h1, own_grow (azs := azs) (bs := [d]) hS hel (fun i x hi => ?_) hr.1 (by simpa using h2) h3 h4, h3⟩
  match i, hi with
  | 0, hi => simp at hi; subst hi; exact ⟨cs.toList, hd, fun j u hj => by simpa using hj⟩

/-- What an operation that is an append does: for the walk ('wpList') and for a region that draws. -/
theorem wpList_app {P : Program} {ops : Array Oper} {rest : List Oper} {o : Oper} {a : Act} {Q : Exit → Act → World → Prop} (hgd : o.guard = none) (s x : Operand) (t : TypeId)
    (ho : o.op = .call { callee := .builtin .append, args := #[s, x], argTypes := #[t, t] }) {u u' : Value} (hs : a.eval s = u) (hx : a.eval x = u')
    {R : Value → World → Prop} (hrun : ∃ v' w', (Builtin.append_ #[t, t] o.type #[u, u']).run P w = .ok v' w' ∧ R v' w')
    (h : ∀ v' w', R v' w' → wpList P ops Q rest (a.put o.dst v') w') : wpList P ops Q (o :: rest) a w :=
  wpList_plain hgd fun _ hK => by
    obtain ⟨v', w', hr, hR⟩ := hrun
    unfold Oper.wp execOp
    simp only [ho, resolve, invoke, builtin, Sem.run_bind, Sem.run_pure, Result.andThen_ok, List.map_toArray, List.map_cons, List.map_nil, hs, hx, hr]
    exact hK _ _ (h v' w' hR)
theorem stepR_app {P : Program} {ops : Array Oper} {o : Oper} {a : Act} {Q : Exit → Act → World → Prop} {K : Act → World → Prop} {E : Prop} (hgd : o.guard = none) (s x : Operand) (t : TypeId)
    (ho : o.op = .call { callee := .builtin .append, args := #[s, x], argTypes := #[t, t] }) {u u' : Value} (hs : a.eval s = u) (hx : a.eval x = u')
    {R : Value → World → Prop} (hrun : ∃ v' w', (Builtin.append_ #[t, t] o.type #[u, u']).run P w = .ok v' w' ∧ R v' w')
    (h : ∀ v' w', R v' w' → K (a.put o.dst v') w') : if Region.wanted o (yielded ops a.tmps) = true then Oper.wp P o a w K Q else E := by
  rw [if_pos (by simp [Region.wanted, hgd])]
  obtain ⟨v', w', hr, hR⟩ := hrun
  unfold Oper.wp execOp
  simp only [ho, resolve, invoke, builtin, Sem.run_bind, Sem.run_pure, Result.andThen_ok, List.map_toArray, List.map_cons, List.map_nil, hs, hx, hr]
  exact h v' w' hR
/-- make([]T, n): n zero elements. -/
theorem own_mk {P : Program} {t : TypeId} {z : Value} {bytes : Nat} (hT : SlT P t e z C.n bytes) (S : Nat → Prop) (n : Nat) (hn : n ≤ 1099511627776) (hbase : base ≤ w.heap.size) (d : α)
    (hd : ∀ (T : Nat → Prop) (w : World), C.rd T w z.cells.toList d) (kl kc : IntKind) :
    ∃ w', (Instr.makeSlice t (.int kl (n : Int)) (.int kc (n : Int))).run P w = .ok (.slice (some ⟨w.heap.size, 0, none⟩) n n) w' ∧ OwnSl C S w' base e (.slice (some ⟨w.heap.size, 0, none⟩) n n) (List.replicate n d) ∧ w.grownBy w' none := by
  obtain ⟨ht, hi, hz, hsz, hb⟩ := hT
  cases hie : P.info? e with
  | none => simp [hie] at hi
  | some i =>
    simp only [hie, Option.map_some, Option.some.injEq, Prod.mk.injEq] at hi
    obtain ⟨hz0, hz1, hz2⟩ := hi
    obtain ⟨w', h1, h2, h3⟩ := run_make_full (P := P) w base t e i z C.n ht hie hz0 hz1 kl kc n (by rw [hz2]; exact Nat.le_trans (Nat.mul_le_mul hb hn) (by decide)) (Nat.le_trans hn (by decide)) hbase
    refine ⟨w', h1, ⟨_, by rw [List.length_replicate]; exact h2, fun k x hk => ⟨z.cells.toList, ?_, fun j u hj => ?_⟩⟩, h3⟩
    · rw [List.getElem?_replicate] at hk
      split at hk
      · simp at hk; subst hk; exact hd _ _
      · cases hk
    · have hkn : k < n := by have := (List.getElem?_eq_some_iff.1 hk).1; simpa using this
      have hjn : j < C.n := by have := (List.getElem?_eq_some_iff.1 hj).1; rw [← hz]; simpa using this
      have hlt : k * C.n + j < n * C.n := by
        have : (k + 1) * C.n ≤ n * C.n := Nat.mul_le_mul_right _ hkn
        rw [Nat.add_mul] at this; omega
      have hmod : (k * C.n + j) % C.n = j := by rw [Nat.mul_comm, Nat.mul_add_mod]; exact Nat.mod_eq_of_lt hjn
      simp only [List.getElem?_toArray, Array.getElem?_toList] at hj ⊢
      simp [madeCells, hlt, hz, hmod]
      obtain ⟨hlt', he⟩ := Array.getElem?_eq_some_iff.1 (by simpa using hj)
      rw [getElem!_pos z.cells j hlt']; exact he

/-- Stores one behind the other. -/
def stores (w : World) (g off : Nat) : List Value → World
  | [] => w
  | u :: us => stores (w.setCell ⟨g, off, none⟩ u) g (off + 1) us
def setL (xs : List Value) (off : Nat) : List Value → List Value
  | [] => xs
  | u :: us => setL (xs.set off u) (off + 1) us
theorem setL_get (us : List Value) : ∀ (xs : List Value) (off i : Nat), off + us.length ≤ xs.length → (setL xs off us)[i]? = if off ≤ i ∧ i < off + us.length then us[i - off]? else xs[i]? := by
  induction us with
  | nil => intro xs off i _; simp only [setL, List.length_nil]; rw [if_neg (by omega)]
  | cons u us ih =>
    intro xs off i h
    simp only [List.length_cons] at h ⊢
    simp only [setL]
    rw [ih _ _ _ (by rw [List.length_set]; omega)]
    by_cases h1 : i = off
    · subst h1
      rw [if_neg (by omega), if_pos (by omega), List.getElem?_set_self (by omega)]
      simp
    · by_cases h2 : off + 1 ≤ i ∧ i < off + 1 + us.length
      · rw [if_pos h2, if_pos (by omega)]
        rw [show i - off = (i - (off + 1)) + 1 by omega]; simp
      · rw [if_neg h2, if_neg (by omega)]
        rw [List.getElem?_set_ne (by omega)]
theorem stores_row {g n cap size : Nat} (us : List Value) : ∀ (w : World) (xs : List Value) (off : Nat), w.ownsRow base e size (.slice (some ⟨g, 0, none⟩) n cap) n xs →
    (stores w g off us).ownsRow base e size (.slice (some ⟨g, 0, none⟩) n cap) n (setL xs off us) ∧ w.grownBy (stores w g off us) (some g) := by
  induction us with
  | nil => intro w xs off h; exact ⟨h, rfl, rfl, rfl, Nat.le_refl _, fun _ _ _ => rfl⟩
  | cons u us ih =>
    intro w xs off h
    obtain ⟨h1, h2⟩ := h.stored off u
    obtain ⟨h3, h4⟩ := ih _ _ (off + 1) h1
    exact ⟨h3, h4.os.trans h2.os, h4.tape.trans h2.tape, h4.output.trans h2.output, Nat.le_trans h2.size h4.size, fun k hk hne => (h4.block k (Nat.lt_of_lt_of_le hk h2.size) hne).trans (h2.block k hk hne)⟩
/-- v[k] = d. -/
theorem own_set {g cap n : Nat} (h : OwnSl C S w base e (.slice (some ⟨g, 0, none⟩) n cap) azs) (hn : azs.length = n) (k : Nat) (hk : k < n) (cs : List Value) (d : α)
    (hd : C.rd (fun b => S b ∧ b ≠ g) w cs d) : OwnSl C S (stores w g (k * C.n) cs) base e (.slice (some ⟨g, 0, none⟩) n cap) (azs.set k d) ∧ w.grownBy (stores w g (k * C.n) cs) (some g) := by
  subst hn
  obtain ⟨xs, hr, hel⟩ := h
  obtain ⟨h1, h2⟩ := stores_row cs w xs (k * C.n) hr
  have hlen := C.len hd
  have hx := hr.1
  have hfit : k * C.n + cs.length ≤ xs.length := by
    rw [hlen, hx]
    have : (k + 1) * C.n ≤ azs.length * C.n := Nat.mul_le_mul_right _ hk
    rw [Nat.add_mul] at this; omega
  have hkeep : ∀ b, (S b ∧ some b ≠ (Value.slice (some ⟨g, 0, none⟩) azs.length cap).ownBlock) → b < w.heap.size → (S b ∧ some b ≠ (Value.slice (some ⟨g, 0, none⟩) azs.length cap).ownBlock) ∧ (stores w g (k * C.n) cs).heap[b]? = w.heap[b]? := by
    rintro b ⟨hs, hne⟩ hl
    exact ⟨⟨hs, hne⟩, h2.block b hl (by simpa [Value.ownBlock] using hne)⟩
  refine ⟨⟨_, by rw [List.length_set]; exact h1, fun i x hi => ?_⟩, h2⟩
  by_cases hik : i = k
  · subst hik
    simp [hk] at hi
    subst hi
    refine ⟨cs, C.keep (fun b hs hl => hkeep b ⟨hs.1, by simpa [Value.ownBlock] using hs.2⟩ hl) hd, fun j u hj => ?_⟩
    have hj' := (List.getElem?_eq_some_iff.1 hj).1
    rw [setL_get _ _ _ _ hfit, if_pos (by omega), Nat.add_sub_cancel_left]; exact hj
  · rw [List.getElem?_set_ne (by omega)] at hi
    obtain ⟨cs', r, hc⟩ := hel i x hi
    refine ⟨cs', C.keep hkeep r, fun j u hj => ?_⟩
    have hj' := (List.getElem?_eq_some_iff.1 hj).1
    rw [C.len r] at hj'
    rw [setL_get _ _ _ _ hfit, if_neg ?_]; exact hc j u hj
    rw [hlen]
    rintro ⟨ha, hb⟩
    rcases Nat.lt_or_gt_of_ne hik with h | h
    · have : (i + 1) * C.n ≤ k * C.n := Nat.mul_le_mul_right _ h
      rw [Nat.add_mul] at this; omega
    · have : (k + 1) * C.n ≤ i * C.n := Nat.mul_le_mul_right _ h
      rw [Nat.add_mul] at this; omega
/-- The cells of element k. -/
theorem own_at {g cap n : Nat} (h : OwnSl C S w base e (.slice (some ⟨g, 0, none⟩) n cap) azs) (hn : azs.length = n) (k : Nat) (hk : k < n) :
    ∃ d cs, azs[k]? = some d ∧ C.rd (fun b => S b ∧ b ≠ g) w cs d ∧ g < w.heap.size ∧ base ≤ g ∧ (∀ (j : Nat) u, cs[j]? = some u → w.cell? ⟨g, k * C.n + j, none⟩ = some u) ∧ ∀ o, w.frozen? ⟨g, o, none⟩ = false := by
  subst hn
  obtain ⟨xs, hr, hel⟩ := h
  obtain ⟨cs, r, hc⟩ := hel k azs[k] (by simp [hk])
  have hlt := hr.lt g (by simp [Value.ownBlock])
  refine ⟨azs[k], cs, by simp [hk], C.keep (fun b hs hl => ⟨⟨hs.1, by simpa [Value.ownBlock] using hs.2⟩, rfl⟩) r, hlt.2, hlt.1, fun j u hj => ?_, fun o => hr.frozenAt o⟩
  have := hc j u hj
  rw [hr.cellAt _ (by rw [← hr.1]; exact (List.getElem?_eq_some_iff.1 this).1)]; exact this
theorem own_set_int {S : Nat → Prop} {w : World} {base : Nat} {e : TypeId} {azs : List Int} {g cap n : Nat} (h : OwnSl cInt S w base e (.slice (some ⟨g, 0, none⟩) n cap) azs) (hn : azs.length = n) (k : Nat) (hk : k < n) (z : Int) (hz : I64 z) :
    OwnSl cInt S (w.setCell ⟨g, k, none⟩ (.int .i64 z)) base e (.slice (some ⟨g, 0, none⟩) n cap) (azs.set k z) ∧ w.grownBy (w.setCell ⟨g, k, none⟩ (.int .i64 z)) (some g) := by
  have := own_set h hn k hk [.int .i64 z] z ⟨rfl, hz⟩
  simpa [stores, cInt] using this
theorem own_at_int {S : Nat → Prop} {w : World} {base : Nat} {e : TypeId} {azs : List Int} {g cap n : Nat} (h : OwnSl cInt S w base e (.slice (some ⟨g, 0, none⟩) n cap) azs) (hn : azs.length = n) (k : Nat) (hk : k < n) :
    ∃ z, azs[k]? = some z ∧ I64 z ∧ w.cell? ⟨g, k, none⟩ = some (.int .i64 z) ∧ w.frozen? ⟨g, k, none⟩ = false ∧ g < w.heap.size ∧ base ≤ g := by
  obtain ⟨z, cs, h1, ⟨rfl, hz⟩, h2, h3, h4, h5⟩ := own_at h hn k hk
  have := h4 0 _ rfl
  simp only [cInt, Nat.mul_one, Nat.add_zero] at this
  exact ⟨z, h1, hz, this, h5 _, h2, h3⟩
theorem fill_set {α : Type} {zs : List α} {k n : Nat} {z d : α} (hn : zs.length = n) (hk : k < n) (hz : zs[k]? = some z) : (zs.take k ++ List.replicate (n - k) d).set k z = zs.take (k + 1) ++ List.replicate (n - (k + 1)) d := by
  apply List.ext_getElem?
  intro i
  have hl : (zs.take k).length = k := by simp; omega
  have hl' : (zs.take (k + 1)).length = k + 1 := by simp; omega
  rcases Nat.lt_trichotomy i k with h | h | h
  · rw [List.getElem?_set_ne (by omega), List.getElem?_append_left (by omega), List.getElem?_append_left (by omega), List.getElem?_take, List.getElem?_take, if_pos h, if_pos (by omega)]
  · subst h
    rw [List.getElem?_set_self (by simp; omega), List.getElem?_append_left (by omega), List.getElem?_take, if_pos (by omega), hz]
  · rw [List.getElem?_set_ne (by omega), List.getElem?_append_right (by omega), List.getElem?_append_right (by omega), hl, hl', List.getElem?_replicate, List.getElem?_replicate]
    by_cases h2 : i - k < n - k
    · rw [if_pos h2, if_pos (by omega)]
    · rw [if_neg h2, if_neg (by omega)]
theorem fill_len {α : Type} {zs : List α} {k n : Nat} {d : α} (hn : zs.length = n) (hk : k ≤ n) : (zs.take k ++ List.replicate (n - k) d).length = n := by simp; omega
theorem fill_end {α : Type} {zs : List α} {k n : Nat} {d : α} (hn : zs.length = n) (hk : n ≤ k) : zs.take k ++ List.replicate (n - k) d = zs := by
  rw [List.take_of_length_le (by omega), show n - k = 0 by omega]; simp

theorem thawed_setCell {w : World} {b : Nat} (h : Thawed w b) (p : Addr) (u : Value) : Thawed (w.setCell p u) b := by
  obtain ⟨cs, e, h⟩ := h
  by_cases hb : b = p.block
  · subst hb
    have hlt := (Array.getElem?_eq_some_iff.1 h).1
    have hv := (Array.getElem?_eq_some_iff.1 h).2
    refine ⟨if p.spot.isSome then cs else cs.setIfInBounds p.off u, e, ?_⟩
    simp only [World.setCell]
    rw [Array.getElem?_eq_getElem (by simpa using hlt), Array.getElem_modify]
    simp [hv]
  · exact ⟨cs, e, by rw [Below.heap_setCell _ _ _ _ hb]; exact h⟩
theorem thawed_stores {g : Nat} (us : List Value) : ∀ (w : World) (off b : Nat), Thawed w b → Thawed (stores w g off us) b := by
  induction us with
  | nil => intro w off b h; exact h
  | cons u us ih => intro w off b h; exact ih _ _ _ (thawed_setCell h _ _)
theorem own_refresh {α : Type} {C : Codec α} {B base : Nat} {w w' : World} {e : TypeId} {v : Value} {azs : List α} (h : OwnSl C (Fresh B w) w' base e v azs) (ht : ∀ b, Thawed w b → Thawed w' b) : OwnSl C (Fresh B w') w' base e v azs :=
  own_keep h (fun b hs _ => ⟨hs.1, ht b hs.2⟩) fun _ _ _ => rfl
theorem own_set_term {B B' base : Nat} {w : World} {e : TypeId} {azs : List Term} {g cap n : Nat} (h : OwnSl cTerm (Fresh B w) w base e (.slice (some ⟨g, 0, none⟩) n cap) azs) (hn : azs.length = n) (k : Nat) (hk : k < n)
    (c : Int) (hc : I64 c) {a : Option Addr} {cap' : Nat} {zs : List Int} (hs : SlRd cInt (Fresh B' w) w a cap' zs) (hB : B ≤ B') (hg : g < B') :
    OwnSl cTerm (Fresh B ((w.setCell ⟨g, k * 2, none⟩ (.int .i64 c)).setCell ⟨g, k * 2 + 1, none⟩ (.slice a zs.length cap'))) ((w.setCell ⟨g, k * 2, none⟩ (.int .i64 c)).setCell ⟨g, k * 2 + 1, none⟩ (.slice a zs.length cap')) base e (.slice (some ⟨g, 0, none⟩) n cap) (azs.set k (c, zs)) ∧
      w.grownBy ((w.setCell ⟨g, k * 2, none⟩ (.int .i64 c)).setCell ⟨g, k * 2 + 1, none⟩ (.slice a zs.length cap')) (some g) := by
  have := own_set h hn k hk [.int .i64 c, .slice a zs.length cap'] (c, zs) ⟨[_], [_], rfl, ⟨rfl, hc⟩, a, cap', rfl, hs.keep fun b hb hl => ⟨⟨⟨Nat.le_trans hB hb.1, hb.2⟩, by have := hb.1; omega⟩, rfl⟩⟩
  exact ⟨own_refresh this.1 fun b hb => thawed_setCell (thawed_setCell hb _ _) _ _, this.2⟩
theorem own_at_term {S : Nat → Prop} {w : World} {base : Nat} {e : TypeId} {azs : List Term} {g cap n : Nat} (h : OwnSl cTerm S w base e (.slice (some ⟨g, 0, none⟩) n cap) azs) (hn : azs.length = n) (k : Nat) (hk : k < n) :
    ∃ c zs a cap', azs[k]? = some (c, zs) ∧ I64 c ∧ SlRd cInt (fun b => S b ∧ b ≠ g) w a cap' zs ∧ w.cell? ⟨g, k * 2, none⟩ = some (.int .i64 c) ∧ w.cell? ⟨g, k * 2 + 1, none⟩ = some (.slice a zs.length cap') ∧ w.frozen? ⟨g, k * 2, none⟩ = false ∧ w.frozen? ⟨g, k * 2 + 1, none⟩ = false ∧ g < w.heap.size ∧ base ≤ g := by
  obtain ⟨⟨c, zs⟩, cs, h1, ⟨c', d, rfl, ⟨rfl, hc1⟩, a, cap', rfl, hsl⟩, h2, h3, h4, h5⟩ := own_at h hn k hk
  exact ⟨c, zs, a, cap', h1, hc1, hsl, h4 0 _ rfl, h4 1 _ rfl, h5 _, h5 _, h2, h3⟩
theorem own_set_instr {S : Nat → Prop} {base : Nat} {w : World} {e : TypeId} {azs : List Instr} {g cap n : Nat} (h : OwnSl cInstr S w base e (.slice (some ⟨g, 0, none⟩) n cap) azs) (hn : azs.length = n) (k : Nat) (hk : k < n)
    (x y : Int) (hx : I64 x) (hy : I64 y) :
    OwnSl cInstr S ((w.setCell ⟨g, k * 2, none⟩ (.int .i64 x)).setCell ⟨g, k * 2 + 1, none⟩ (.int .i64 y)) base e (.slice (some ⟨g, 0, none⟩) n cap) (azs.set k (x, y)) ∧
      w.grownBy ((w.setCell ⟨g, k * 2, none⟩ (.int .i64 x)).setCell ⟨g, k * 2 + 1, none⟩ (.int .i64 y)) (some g) := own_set h hn k hk [.int .i64 x, .int .i64 y] (x, y) ⟨[_], [_], rfl, ⟨rfl, hx⟩, ⟨rfl, hy⟩⟩
theorem own_at_instr {S : Nat → Prop} {w : World} {base : Nat} {e : TypeId} {azs : List Instr} {g cap n : Nat} (h : OwnSl cInstr S w base e (.slice (some ⟨g, 0, none⟩) n cap) azs) (hn : azs.length = n) (k : Nat) (hk : k < n) :
    ∃ x y, azs[k]? = some (x, y) ∧ I64 x ∧ I64 y ∧ w.cell? ⟨g, k * 2, none⟩ = some (.int .i64 x) ∧ w.cell? ⟨g, k * 2 + 1, none⟩ = some (.int .i64 y) ∧ w.frozen? ⟨g, k * 2, none⟩ = false ∧ w.frozen? ⟨g, k * 2 + 1, none⟩ = false ∧ g < w.heap.size ∧ base ≤ g := by
  obtain ⟨⟨x, y⟩, cs, h1, ⟨c', d, rfl, ⟨rfl, hc1⟩, ⟨rfl, hc2⟩⟩, h2, h3, h4, h5⟩ := own_at h hn k hk
  exact ⟨x, y, h1, hc1, hc2, h4 0 _ rfl, h4 1 _ rfl, h5 _, h5 _, h2, h3⟩
theorem frz_below {W w1 : World} {n b o : Nat} (hb : Below n W w1) (hlt : b < n) (h : W.frozen? ⟨b, o, none⟩ = false) : w1.frozen? ⟨b, o, none⟩ = false := (hb.frozen (p := ⟨b, o, none⟩) hlt).trans h
theorem cell_set_ne {w : World} {p : Addr} {u v : Value} {b o : Nat} (hne : b ≠ p.block) (h : w.cell? ⟨b, o, none⟩ = some v) : (w.setCell p u).cell? ⟨b, o, none⟩ = some v :=
  (World.cell?_of_block (w := w) (a := ⟨b, o, none⟩) (Below.heap_setCell w p u b hne)).trans h
theorem frz_set_ne {w : World} {p : Addr} {u : Value} {b o : Nat} (hne : b ≠ p.block) (h : w.frozen? ⟨b, o, none⟩ = false) : (w.setCell p u).frozen? ⟨b, o, none⟩ = false :=
  (World.frozen?_of_block (w := w) (a := ⟨b, o, none⟩) (Below.heap_setCell w p u b hne)).trans h
theorem size_set (w : World) (p : Addr) (u : Value) : (w.setCell p u).heap.size = w.heap.size := by simp [World.setCell]
theorem SlRd.set_ne {α : Type} {C : Codec α} {S : Nat → Prop} {w : World} {a : Option Addr} {cap : Nat} {azs : List α} (h : SlRd C S w a cap azs) {p : Addr} (hp : ∀ b, S b → b ≠ p.block) (u : Value) : SlRd C S (w.setCell p u) a cap azs :=
  h.keep fun b hs hl => ⟨hs, Below.heap_setCell w p u b (hp b hs)⟩
theorem wpList_mk {P : Program} {w : World} {ops : Array Oper} {rest : List Oper} {o : Oper} {a : Act} {Q : Exit → Act → World → Prop} (hgd : o.guard = none) (l c : Operand) (t : TypeId)
    (ho : o.op = .makeSlice t l c) {u u' : Value} (hl : a.eval l = u) (hc : a.eval c = u') {v : Value}
    {R : World → Prop} (hrun : ∃ w', (Instr.makeSlice t u u').run P w = .ok v w' ∧ R w')
    (h : ∀ w', R w' → wpList P ops Q rest (a.put o.dst v) w') : wpList P ops Q (o :: rest) a w :=
  wpList_plain hgd fun _ hK => by
    obtain ⟨w', hr, hR⟩ := hrun
    unfold Oper.wp
    simp [execOp, ho, hl, hc, hr, Result.andThen]
    exact hK _ _ (h w' hR)

theorem heap_setCell_ne (w : World) (p : Addr) (u : Value) {b : Nat} (h : b ≠ p.block) : (w.setCell p u).heap[b]? = w.heap[b]? := Below.heap_setCell w p u b h
theorem SlRd.setC {α : Type} {C : Codec α} {B : Nat} {w : World} {a : Option Addr} {cap : Nat} {azs : List α} (h : SlRd C (Fresh B w) w a cap azs) {p : Addr} (hp : p.block < B) (u : Value) : SlRd C (Fresh B (w.setCell p u)) (w.setCell p u) a cap azs :=
  h.keep fun b hs hl => have e := heap_setCell_ne w p u (b := b) (by have := hs.1; omega); ⟨⟨hs.1, hs.2.keep e⟩, e⟩
theorem SlRd.lower {α : Type} {C : Codec α} {B B' : Nat} {w w' : World} {a : Option Addr} {cap : Nat} {azs : List α} (h : SlRd C (Fresh B w') w a cap azs) (hB : B' ≤ B) : SlRd C (Fresh B' w') w a cap azs :=
  h.keep fun b hs hl => ⟨⟨Nat.le_trans hB hs.1, hs.2⟩, rfl⟩
/-- What a function that hands back a slice of its own hands back. -/
def RetSl {α : Type} (C : Codec α) (azs : List α) (w : World) (e : Ending) (w' : World) : Prop :=
  ∃ a cap, e = .returned (.slice a azs.length cap) ∧ SlRd C (Fresh w.heap.size w') w' a cap azs ∧ Below w.heap.size w w'
def RetSlB {α : Type} (C : Codec α) (azs : List α) (b : Bool) (w : World) (e : Ending) (w' : World) : Prop :=
  ∃ a cap, e = .returned (.tuple #[.slice a azs.length cap, .bool b]) ∧ SlRd C (Fresh w.heap.size w') w' a cap azs ∧ Below w.heap.size w w'
def RetTerm (t : Term) (w : World) (e : Ending) (w' : World) : Prop :=
  ∃ a cap, e = .returned (.agg #[.int .i64 t.1, .slice a t.2.length cap]) ∧ SlRd cInt (Fresh w.heap.size w') w' a cap t.2 ∧ Below w.heap.size w w'
theorem nil_rd {α : Type} (C : Codec α) (S : Nat → Prop) (w : World) : SlRd C S w none 0 [] := ⟨Nat.le_refl _, by decide, fun _ => rfl, by simp⟩
/-- A slice of one's own azs a result. -/
theorem retSl_own {α : Type} {C : Codec α} {S : Nat → Prop} {w w' : World} {e : TypeId} {v : Value} {azs : List α} (h : OwnSl C S w' w.heap.size e v azs) (hS : ∀ b, S b → b < w'.heap.size → Fresh w.heap.size w' b) (hb : Below w.heap.size w w') :
    RetSl C azs w (.returned v) w' := by
  obtain ⟨a, cap, rfl, hs⟩ := own_rd (own_keep (S' := Fresh w.heap.size w') h hS fun _ _ _ => rfl) (Nat.le_refl _)
  exact ⟨a, cap, rfl, hs, hb⟩
end Go.Proofs.YtcmopmapdomneaaDoor
end

section
namespace Go.Proofs.YtcmopmapdomneaaDoor
open Go.RowKit

variable {α : Type} {C : Codec α} {S : Nat → Prop} {base : Nat} {e : TypeId} {v : Value} {azs : List α}
/-- append(v, d), d in the block that was made last. -/
theorem app_own {P : Program} {ops : Array Oper} {rest : List Oper} {o : Oper} {a : Act} {Q : Exit → Act → World → Prop} (hgd : o.guard = none) (s x : Operand) (t : TypeId)
    (ho : o.op = .call { callee := .builtin .append, args := #[s, x], argTypes := #[t, t] }) {z : Value} {bytes : Nat} (hT : SlT P t e z C.n bytes)
    {w0 : World} {cs : Array Value} {e' : TypeId} {c : Nat} (hs : a.eval s = v) (hx : a.eval x = .slice (some ⟨w0.heap.size, 0, none⟩) 1 c) (hown : OwnSl C S w0 base e v azs)
    (hS : ∀ b, S b → b < w0.heap.size) (d : α) (hd : C.rd (fun b => S b ∧ some b ≠ v.ownBlock) w0 cs.toList d) (hn : azs.length + 1 ≤ 1099511627776) (hbase : base ≤ w0.heap.size)
    (h : ∀ v' w', OwnSl C S w' base e v' (azs ++ [d]) → Below base w0 w' → wpList P ops Q rest (a.put o.dst v') w') :
    wpList P ops Q (o :: rest) a (w0.alloc (.cells cs e')) := by
  have ha : Below w0.heap.size w0 (w0.alloc (.cells cs e')) := (Below.refl _ _).alloc (Nat.le_refl _) _
  have hb2 : base ≤ (w0.alloc (.cells cs e')).heap.size := by rw [World.size_alloc]; omega
  obtain ⟨v', w', h1, h2, h3⟩ := app_one hT (w := w0.alloc (.cells cs e')) (fun b hb => by rw [World.size_alloc]; have := hS b hb; omega) (own_alloc hown _) (heap_new w0 _) d (c := c) (C.below (Nat.le_refl _) ha hd) hn hb2 o.type
  exact wpList_app hgd s x t ho hs hx (R := fun v' w' => OwnSl C S w' base e v' (azs ++ [d]) ∧ Below base w0 w') ⟨v', w', h1, h2, (ha.mono hbase).trans (bel_own (own_alloc hown _) h3 (Nat.le_refl _) hb2)⟩ fun v' w' hr => h v' w' hr.1 hr.2
/-- The same in a region that draws its order: d in block g. -/
theorem step_own {P : Program} {ops : Array Oper} {o : Oper} {a : Act} {Q : Exit → Act → World → Prop} {K : Act → World → Prop} {E : Prop} (hgd : o.guard = none) (s x : Operand) (t : TypeId)
    (ho : o.op = .call { callee := .builtin .append, args := #[s, x], argTypes := #[t, t] }) {z : Value} {bytes : Nat} (hT : SlT P t e z C.n bytes)
    {w : World} {cs : Array Value} {e' : TypeId} {fr : Nat × Nat} {c g : Nat} (hs : a.eval s = v) (hx : a.eval x = .slice (some ⟨g, 0, none⟩) 1 c) (hown : OwnSl C S w base e v azs) (hblk : w.heap[g]? = some (.cells cs e' fr))
    (hS : ∀ b, S b → b < w.heap.size) (d : α) (hd : C.rd (fun b => S b ∧ some b ≠ v.ownBlock) w cs.toList d) (hn : azs.length + 1 ≤ 1099511627776) (hbase : base ≤ w.heap.size)
    (h : ∀ v' w', OwnSl C S w' base e v' (azs ++ [d]) → Below base w w' → K (a.put o.dst v') w') :
    if Region.wanted o (yielded ops a.tmps) = true then Oper.wp P o a w K Q else E := by
  obtain ⟨v', w', h1, h2, h3⟩ := app_one hT hS hown hblk d hd hn hbase o.type (c := c)
  exact stepR_app hgd s x t ho hs hx (R := fun v' w' => OwnSl C S w' base e v' (azs ++ [d]) ∧ Below base w w') ⟨v', w', h1, h2, bel_own hown h3 (Nat.le_refl _) hbase⟩ fun v' w' hr => h v' w' hr.1 hr.2
/-- The same, and which block was written. -/
theorem app_own2 {P : Program} {ops : Array Oper} {rest : List Oper} {o : Oper} {a : Act} {Q : Exit → Act → World → Prop} (hgd : o.guard = none) (s x : Operand) (t : TypeId)
    (ho : o.op = .call { callee := .builtin .append, args := #[s, x], argTypes := #[t, t] }) {z : Value} {bytes : Nat} (hT : SlT P t e z C.n bytes)
    {w0 : World} {cs : Array Value} {e' : TypeId} {c : Nat} (hs : a.eval s = v) (hx : a.eval x = .slice (some ⟨w0.heap.size, 0, none⟩) 1 c) (hown : OwnSl C S w0 base e v azs)
    (hS : ∀ b, S b → b < w0.heap.size) (d : α) (hd : C.rd (fun b => S b ∧ some b ≠ v.ownBlock) w0 cs.toList d) (hn : azs.length + 1 ≤ 1099511627776) (hbase : base ≤ w0.heap.size)
    (h : ∀ v' w', OwnSl C S w' base e v' (azs ++ [d]) → Below base w0 w' → w0.grownBy w' v.ownBlock → wpList P ops Q rest (a.put o.dst v') w') :
    wpList P ops Q (o :: rest) a (w0.alloc (.cells cs e')) := by
  have ha : Below w0.heap.size w0 (w0.alloc (.cells cs e')) := (Below.refl _ _).alloc (Nat.le_refl _) _
  have hb2 : base ≤ (w0.alloc (.cells cs e')).heap.size := by rw [World.size_alloc]; omega
  obtain ⟨v', w', h1, h2, h3⟩ := app_one hT (w := w0.alloc (.cells cs e')) (fun b hb => by rw [World.size_alloc]; have := hS b hb; omega) (own_alloc hown _) (heap_new w0 _) d (c := c) (C.below (Nat.le_refl _) ha hd) hn hb2 o.type
  exact wpList_app hgd s x t ho hs hx (R := fun v' w' => OwnSl C S w' base e v' (azs ++ [d]) ∧ Below base w0 w' ∧ w0.grownBy w' v.ownBlock) ⟨v', w', h1, h2, (ha.mono hbase).trans (bel_own (own_alloc hown _) h3 (Nat.le_refl _) hb2), grownBy_trans_alloc h3⟩ fun v' w' hr => h v' w' hr.1 hr.2.1 hr.2.2
theorem cell_grown {w w' : World} {row : Option Nat} {b o : Nat} {u : Value} (h : w.grownBy w' row) (hl : b < w.heap.size) (hn : some b ≠ row) (hc : w.cell? ⟨b, o, none⟩ = some u) : w'.cell? ⟨b, o, none⟩ = some u :=
  (World.cell?_of_block (w := w) (a := ⟨b, o, none⟩) (h.block b hl hn)).trans hc
theorem empty_rd {α : Type} (C : Codec α) (S : Nat → Prop) (w : World) (a : Option Addr) : SlRd C S w a 0 [] := ⟨Nat.le_refl _, by decide, fun _ => rfl, by simp⟩
theorem rd_int {T : Nat → Prop} {w : World} {z : Int} (hz : I64 z) : cInt.rd T w #[Value.int .i64 z].toList z := ⟨rfl, hz⟩
theorem rd_instr {T : Nat → Prop} {w : World} {x y : Int} (hx : I64 x) (hy : I64 y) : cInstr.rd T w #[Value.int .i64 x, Value.int .i64 y].toList (x, y) := ⟨[_], [_], rfl, ⟨rfl, hx⟩, ⟨rfl, hy⟩⟩
theorem rd_str {T : Nat → Prop} {w : World} {l : List UInt8} (h : l.length ≤ 9223372036854775807) : cStr.rd T w #[strOf l].toList l := ⟨rfl, h⟩
theorem rd_bool {T : Nat → Prop} {w : World} {b : Bool} : cBool.rd T w #[Value.bool b].toList b := rfl
theorem no_blk {n : Nat} : ∀ b, (fun _ : Nat => False) b → b < n := fun _ h => h.elim
end Go.Proofs.YtcmopmapdomneaaDoor
end

section
namespace Go.Proofs.YtcmopmapdomneaaDoor
open Go.RowKit

/-- What a codec reads does not hang on the world. -/
def Flat {α : Type} (C : Codec α) : Prop := ∀ {T T' : Nat → Prop} {w w' : World} {cs : List Value} {d : α}, C.rd T w cs d → C.rd T' w' cs d
theorem flat_int : Flat cInt := fun h => h
theorem flat_bool : Flat cBool := fun h => h
theorem flat_str : Flat cStr := fun h => h
theorem flat_instr : Flat cInstr := fun h => by obtain ⟨c, d, rfl, h1, h2⟩ := h; exact ⟨c, d, rfl, h1, h2⟩
theorem addr_add (b o j : Nat) : (⟨b, o, none⟩ : Addr).add j = ⟨b, o + j, none⟩ := by
  unfold Addr.add; split
  · rename_i h; simp_all
  · rfl
theorem list_choose2 {α : Type} (p : Nat → α → Prop) (n : Nat) (h : ∀ i, i < n → ∃ a, p i a) : ∃ l : List α, l.length = n ∧ ∀ i a, l[i]? = some a → p i a := list_choose n h
/-- The cells of a slice, one behind the other. -/
theorem SlRd.cells_all {α : Type} {C : Codec α} {T : Nat → Prop} {w : World} {a : Option Addr} {cap : Nat} {bs : List α} (h : SlRd C T w a cap bs) (hC : 0 < C.n) :
    ∃ news : List Value, news.length = bs.length * C.n ∧ (∀ x, a = some x → ∀ (j : Nat) u, news[j]? = some u → w.cell? (x.add j) = some u) ∧ (∀ u ∈ news, u.oneCell' = true) ∧
      ∀ (i : Nat) d, bs[i]? = some d → ∃ cs, C.rd T w cs d ∧ ∀ (j : Nat) u, cs[j]? = some u → news[i * C.n + j]? = some u := by
  obtain ⟨h1, h2, h3, h4⟩ := h
  cases a with
  | none =>
    have h0 := h3 rfl
    obtain rfl := List.eq_nil_of_length_eq_zero (show bs.length = 0 by omega)
    exact ⟨[], by simp, by simp, by simp, by simp⟩
  | some x =>
    obtain ⟨l, hl, hp⟩ := list_choose2 (fun i (u : Value) => w.cell? ⟨x.block, x.off + i, none⟩ = some u ∧ u.oneCell' = true) (bs.length * C.n) fun i hi => by
      have hdiv : i / C.n < bs.length := by rw [Nat.div_lt_iff_lt_mul hC]; exact hi
      obtain ⟨_, cs, hr, hc⟩ := h4 x rfl (i / C.n) bs[i / C.n] (by simp [hdiv])
      have hm : i % C.n < cs.length := by rw [C.len hr]; exact Nat.mod_lt _ hC
      have e : x.off + i / C.n * C.n + i % C.n = x.off + i := by
        have := Nat.div_add_mod i C.n
        rw [Nat.mul_comm] at this; omega
      have h9 := hc (i % C.n) cs[i % C.n] (by simp [hm])
      rw [e] at h9
      exact ⟨cs[i % C.n], h9, C.one hr _ (List.getElem_mem hm)⟩
    refine ⟨l, hl, ?_, fun u hu => ?_, fun i d hi => ?_⟩
    · rintro y ⟨⟩ j u hj
      have hb : 0 < bs.length := by
        have h8 := (List.getElem?_eq_some_iff.1 hj).1
        rw [hl] at h8
        exact Nat.pos_of_mul_pos_right (Nat.lt_of_le_of_lt (Nat.zero_le _) h8) |> fun h => by
          rcases Nat.eq_zero_or_pos bs.length with h0 | h0
          · rw [h0] at h8; omega
          · exact h0
      obtain ⟨⟨hs, _⟩, _⟩ := h4 x rfl 0 bs[0] (by simp)
      obtain ⟨b, o, sp⟩ := x
      simp only at hs
      subst hs
      rw [addr_add]
      exact (hp j u hj).1
    · obtain ⟨i, hi⟩ := List.getElem?_of_mem hu
      exact (hp i u hi).2
    · obtain ⟨_, cs, hr, hc⟩ := h4 x rfl i d hi
      refine ⟨cs, hr, fun j u hj => ?_⟩
      have hil := (List.getElem?_eq_some_iff.1 hi).1
      have hjl := (List.getElem?_eq_some_iff.1 hj).1
      rw [C.len hr] at hjl
      have hlt : i * C.n + j < l.length := by
        rw [hl]
        have : (i + 1) * C.n ≤ bs.length * C.n := Nat.mul_le_mul_right _ hil
        rw [Nat.add_mul] at this; omega
      have h8 := (hp (i * C.n + j) l[i * C.n + j] (by simp [hlt])).1
      have h9 := hc j u hj
      rw [Nat.add_assoc] at h9
      rw [h9] at h8
      rw [List.getElem?_eq_getElem hlt, ← h8]
/-- A store of what is there already. -/
theorem setCell_same {w : World} {b o : Nat} {u : Value} (h : w.cell? ⟨b, o, none⟩ = some u) : w.setCell ⟨b, o, none⟩ u = w := by
  obtain ⟨heap, tape, drawn, os, output⟩ := w
  unfold World.cell? at h
  simp only [World.setCell, World.mk.injEq, and_true]
  apply Array.ext_getElem?
  intro i
  rw [Array.getElem?_modify]
  split
  · rename_i hb
    subst hb
    simp only at h ⊢
    cases hh : heap[b]? with
    | none => rfl
    | some ob =>
      rw [hh] at h
      cases ob with
      | cells c el fr =>
        simp only [Option.isSome_none, Bool.false_eq_true, if_false] at h
        simp only [Option.map_some, Option.isSome_none, Bool.false_eq_true, if_false, Option.some.injEq, Obj.cells.injEq, and_true]
        apply Array.ext_getElem?
        intro j
        rw [Array.getElem?_setIfInBounds]
        split
        · rename_i hj
          subst hj
          split
          · exact h.symm
          · rename_i hge; rw [Array.getElem?_eq_none (by omega)]
        · rfl
      | _ => simp at h
  · rfl
/-- The second number of an instruction of one's own. -/
theorem own_set_arg {S : Nat → Prop} {base : Nat} {w : World} {e : TypeId} {azs : List Instr} {g cap n : Nat} (h : OwnSl cInstr S w base e (.slice (some ⟨g, 0, none⟩) n cap) azs) (hn : azs.length = n) (k : Nat) (hk : k < n) (x y z : Int) (hx : azs[k]? = some (x, y)) (hz : I64 z) :
    OwnSl cInstr S (w.setCell ⟨g, k * 2 + 1, none⟩ (.int .i64 z)) base e (.slice (some ⟨g, 0, none⟩) n cap) (azs.set k (x, z)) ∧ w.grownBy (w.setCell ⟨g, k * 2 + 1, none⟩ (.int .i64 z)) (some g) := by
  obtain ⟨x', y', h1, hx', hy', hc, hc', _⟩ := own_at_instr h hn k hk
  rw [hx] at h1
  cases h1
  have := own_set_instr h hn k hk x z hx' hz
  rw [setCell_same hc] at this
  exact this
variable {α : Type} {C : Codec α} {S : Nat → Prop} {base : Nat} {e : TypeId} {v : Value} {azs : List α}
/-- append(v, s...), s a slice of flat elements. -/
theorem run_app_all {P : Program} {t : TypeId} {z : Value} {bytes : Nat} (hT : SlT P t e z C.n bytes) (hf : Flat C) {T : Nat → Prop} {w : World} {a : Option Addr} {cap : Nat} {bs : List α} (hsrc : SlRd C T w a cap bs) (hown : OwnSl C S w base e v azs)
    (hS : ∀ b, S b → b < w.heap.size) (hn : azs.length + bs.length ≤ 1099511627776) (hbase : base ≤ w.heap.size) (ty : TypeId) :
    ∃ v' w', (Builtin.append_ #[t, t] ty #[v, .slice a bs.length cap]).run P w = .ok v' w' ∧ OwnSl C S w' base e v' (azs ++ bs) ∧ w.grownBy w' v.ownBlock := by
  have hC : 0 < C.n := hT.hs
  obtain ⟨news, g1, g2, g3, g4⟩ := hsrc.cells_all hC
  obtain ⟨xs, hr, hel⟩ := hown
  obtain ⟨v', w', h1, h2, h3, h4⟩ := run_app (ty := ty) hT hr a bs.length cap news (fun hz => by have h7 := hsrc.2.2.1 hz; have h8 := hsrc.1; exact ⟨by omega, h7⟩) g1 g2 g3 hn hbase
  refine ⟨v', w', h1, own_grow (azs := azs) bs hS hel (fun i x hi => ?_) hr.1 h2 h3 h4, h3⟩
  obtain ⟨cs, r, hc⟩ := g4 i x hi
  exact ⟨cs, hf r, hc⟩
theorem app_all {P : Program} {ops : Array Oper} {rest : List Oper} {o : Oper} {a : Act} {Q : Exit → Act → World → Prop} (hgd : o.guard = none) (s x : Operand) (t : TypeId)
    (ho : o.op = .call { callee := .builtin .append, args := #[s, x], argTypes := #[t, t] }) {z : Value} {bytes : Nat} (hT : SlT P t e z C.n bytes) (hf : Flat C) {T : Nat → Prop} {w : World} {ad : Option Addr} {cap : Nat} {bs : List α}
    (hs : a.eval s = v) (hx : a.eval x = .slice ad bs.length cap) (hown : OwnSl C S w base e v azs) (hsrc : SlRd C T w ad cap bs) (hS : ∀ b, S b → b < w.heap.size) (hn : azs.length + bs.length ≤ 1099511627776) (hbase : base ≤ w.heap.size)
    (h : ∀ v' w', OwnSl C S w' base e v' (azs ++ bs) → Below base w w' → wpList P ops Q rest (a.put o.dst v') w') : wpList P ops Q (o :: rest) a w := by
  obtain ⟨v', w', h1, h2, h3⟩ := run_app_all hT hf hsrc hown hS hn hbase o.type
  exact wpList_app hgd s x t ho hs hx (R := fun v' w' => OwnSl C S w' base e v' (azs ++ bs) ∧ Below base w w') ⟨v', w', h1, h2, bel_own hown h3 (Nat.le_refl _) hbase⟩ fun v' w' hr => h v' w' hr.1 hr.2
theorem step_all {P : Program} {ops : Array Oper} {o : Oper} {a : Act} {Q : Exit → Act → World → Prop} {K : Act → World → Prop} {E : Prop} (hgd : o.guard = none) (s x : Operand) (t : TypeId)
    (ho : o.op = .call { callee := .builtin .append, args := #[s, x], argTypes := #[t, t] }) {z : Value} {bytes : Nat} (hT : SlT P t e z C.n bytes) (hf : Flat C) {T : Nat → Prop} {w : World} {ad : Option Addr} {cap : Nat} {bs : List α}
    (hs : a.eval s = v) (hx : a.eval x = .slice ad bs.length cap) (hown : OwnSl C S w base e v azs) (hsrc : SlRd C T w ad cap bs) (hS : ∀ b, S b → b < w.heap.size) (hn : azs.length + bs.length ≤ 1099511627776) (hbase : base ≤ w.heap.size)
    (h : ∀ v' w', OwnSl C S w' base e v' (azs ++ bs) → Below base w w' → K (a.put o.dst v') w') : if Region.wanted o (yielded ops a.tmps) = true then Oper.wp P o a w K Q else E := by
  obtain ⟨v', w', h1, h2, h3⟩ := run_app_all hT hf hsrc hown hS hn hbase o.type
  exact stepR_app hgd s x t ho hs hx (R := fun v' w' => OwnSl C S w' base e v' (azs ++ bs) ∧ Below base w w') ⟨v', w', h1, h2, bel_own hown h3 (Nat.le_refl _) hbase⟩ fun v' w' hr => h v' w' hr.1 hr.2
theorem own_base {base' : Nat} {w : World} (h : OwnSl C S w base e v azs) (hb : base' ≤ base) : OwnSl C S w base' e v azs := by
  obtain ⟨xs, hr, hel⟩ := h
  refine ⟨xs, ⟨hr.1, ?_⟩, hel⟩
  rcases hr.2 with h0 | ⟨g, cap, cur, h1, h2, h3⟩
  · exact .inl h0
  · exact .inr ⟨g, cap, cur, h1, Nat.le_trans hb h2, h3⟩
/-- A slice of one written element. -/
theorem own_lit1 (C : Codec α) (S : Nat → Prop) (w : World) (base : Nat) (e : TypeId) (hb : base ≤ w.heap.size) {cs : Array Value} (d : α) (hd : C.rd (fun b => S b ∧ b ≠ w.heap.size) (w.alloc (.cells cs e)) cs.toList d) : OwnSl C S (w.alloc (.cells cs e)) base e (.slice (some ⟨w.heap.size, 0, none⟩) 1 1) [d] := by
  have hl := C.len hd
  refine ⟨cs.toList, World.ownsRow_lit w cs 1 hb (by decide) (by simpa using hl), fun i x hi => ?_⟩
  match i, hi with
  | 0, hi =>
    simp at hi; subst hi
    exact ⟨cs.toList, C.keep (fun b hb hl => ⟨⟨hb.1, by simpa [Value.ownBlock] using hb.2⟩, rfl⟩) hd, fun j u hj => by simpa using hj⟩
end Go.Proofs.YtcmopmapdomneaaDoor
end

section
namespace Go.Proofs.YtcmopmapdomneaaDoor
open Go.RowKit

/-- Go's table of powers of ten stands, whatever is done from block B on. -/
def TabE (B : Nat) (w : World) : Prop := Lib.TabBelow Tryd.prog B w "internal/strconv.uint64pow10" .u64 Lib.pow10Tab ∧ B ≤ w.heap.size
theorem TabE.on {B : Nat} {w w' : World} (h : TabE B w) (hb : Below w.heap.size w w') : TabE B w' := ⟨h.1.on (hb.mono h.2), Nat.le_trans h.2 hb.size⟩
theorem TabE.belows {B : Nat} {w w' : World} (h : TabE B w) (hb : Below B w w') : TabE B w' := ⟨h.1.on hb, Nat.le_trans h.2 hb.size⟩
theorem c_Decimal {B : Nat} (n : Int) (w : World) (h1 : -9223372036854775808 ≤ n) (h2 : n ≤ 9223372036854775807) (ht : TabE B w) :
    Calls Tryd.prog 85 #[.int .i64 n] w fun e w' => e = .returned (strOf (Lib.itoa n)) ∧ Below w.heap.size w w' := by
  have HT := hid ht.1.here
  clear ht
  go_enter Tryd.func85, Tryd.ntmps85
  go_wp2_with (go_at_call 108; refine (Tryd.strconv_FormatInt_10 n h1 h2 w HT.out).mono ?_; rintro e w1 ⟨rfl, k, os, rfl⟩; have HB := hid (Lib.below_grow w.heap.size w (Nat.le_refl _) k os); generalize Go.Sort.grow (w.drewN k) os = w2 at *)
  go_ret
  exact ⟨rfl, HB.out⟩
end Go.Proofs.YtcmopmapdomneaaDoor
end

section
namespace Go.Proofs.YtcmopmapdomneaaDoor
open Go.RowKit
end Go.Proofs.YtcmopmapdomneaaDoor
end

section
namespace Go.Proofs.YtcmopmapdomneaaDoor
open Go.RowKit
end Go.Proofs.YtcmopmapdomneaaDoor
end

section
namespace Go.Proofs.YtcmopmapdomneaaDoor
open Go.RowKit

theorem laid_drop {P : Program} {w : World} : ∀ (i : Nat) (l : List (String × DataW Unit)), laidMet P l w → laidMet P (l.drop i) w
  | 0, _, h => h
  | _ + 1, [], h => h
  | i + 1, _ :: r, h => laid_drop i r h.tail
theorem laid_from {P : Program} {w : World} {l r : List (String × DataW Unit)} (i : Nat) (h : laidMetH P l w) (hp : (l.all fun x => x.2.handleName?.isNone) = true) (hd : l.drop i = r) : laidMet P r w := by
  rw [MakeChecks.laidMetH_plain _ _ _ hp] at h
  rw [← hd]; exact laid_drop i l h
theorem tab_of {W : World} {r : List (String × DataW Unit)} (h : laidMet Tryd.prog (("internal/strconv.uint64pow10", Lib.tabData .u64 Lib.pow10Tab) :: r) W) : TabE W.heap.size W :=
  ⟨Lib.tabBelow_of_tabIs (Lib.tabIs_of_head (g := 0) (t := 171) (e := 164) (n := 20) (by kernel_rfl) (by kernel_rfl) Tryd.underlying171 Tryd.underlying164 (by kernel_rfl) (by kernel_rfl) h), Nat.le_refl _⟩
end Go.Proofs.YtcmopmapdomneaaDoor
end

section
namespace Go.Proofs.YtcmopmapdomneaaDoor
open Go.RowKit Go.WideShapes

theorem arg_sl {H : Type} {enc : TypeId × Value → H} {P : Program} {W : World} {r : Reach} {b b' : Nat} {sp : Nat → Bool} {hd : Bool} {t e : TypeId} {α : Type} {C : Codec α} {v : Value} {d : DataW H} {p : List MemPlace} (h : P.underlying t = some (.slice e)) (ho : Opens P t (cSl C))
    (hok : Value.okWide P W r b t v) (k : DataW.Trod enc P W b' sp hd t v d p) : ∃ a cap ys, v = .slice a ys.length cap ∧ SlRd C (fun _ => True) W a cap ys := by
  obtain ⟨a, len, cap, rfl⟩ := okWide_slice h hok
  obtain ⟨fuel, hf⟩ := k
  obtain ⟨ys, a', cap', he, hs⟩ := ho.2 H enc W b' sp hd fuel _ _ hf
  simp [Value.cells] at he
  obtain ⟨rfl, rfl, rfl⟩ := he
  exact ⟨_, _, ys, rfl, hs⟩
theorem arg_st {H : Type} {enc : TypeId × Value → H} {P : Program} {W : World} {r : Reach} {b b' : Nat} {sp : Nat → Bool} {hd : Bool} {t : TypeId} {fs : Array Field} {α : Type} {C : Codec α} {v : Value} {d : DataW H} {p : List MemPlace} (h : P.underlying t = some (.struct fs)) (ho : Opens P t C)
    (hok : Value.okWide P W r b t v) (k : DataW.Trod enc P W b' sp hd t v d p) : ∃ ys cs, v = .agg cs ∧ C.rd (fun _ => True) W cs.toList ys := by
  obtain ⟨cs, rfl, _⟩ := okWide_struct h hok
  obtain ⟨fuel, hf⟩ := k
  obtain ⟨ys, hs⟩ := ho.2 H enc W b' sp hd fuel _ _ hf
  exact ⟨ys, cs, rfl, by simpa [Value.cells] using hs⟩
theorem op_i64 : Opens Tryd.prog 2 cInt := opens_int Tryd.underlying2 (by kernel_rfl)
theorem op_ints : Opens Tryd.prog 72 cInts := opens_sl Tryd.underlying72 (by kernel_rfl) op_i64 (by decide)
theorem op_Term : Opens Tryd.prog 74 cTerm := opens_struct Tryd.underlying74 (by kernel_rfl) (opensFs_cons rfl op_i64 (opensFs_last rfl op_ints))
theorem op_Terms : Opens Tryd.prog 22 cTerms := opens_sl Tryd.underlying22 (by kernel_rfl) op_Term (by decide)
theorem op_Instr : Opens Tryd.prog 92 cInstr := opens_struct Tryd.underlying92 (by kernel_rfl) (opensFs_cons rfl op_i64 (opensFs_last rfl op_i64))
theorem op_Code : Opens Tryd.prog 23 cCode := opens_sl Tryd.underlying23 (by kernel_rfl) op_Instr (by decide)
end Go.Proofs.YtcmopmapdomneaaDoor
end

section
namespace Go.Proofs.YtcmopmapdomneaaDoor
open Go.RowKit

/-- The same cell, or a number in place of a number. -/
def kin (v v' : Value) : Prop := v' = v ∨ (∃ n n', v = .int .i64 n ∧ v' = .int .i64 n' ∧ I64 n') ∨ ∃ s s', v = .string s ∧ v' = .string s'
theorem kin.refl (v : Value) : kin v v := .inl rfl
theorem kin.trans {a b c : Value} (h : kin a b) (h' : kin b c) : kin a c := by
  rcases h with rfl | ⟨n, n', rfl, rfl, hn⟩ | ⟨s, s', rfl, rfl⟩
  · exact h'
  · rcases h' with rfl | ⟨m, m', h1, rfl, hm⟩ | ⟨m, m', h1, rfl⟩
    · exact .inr (.inl ⟨n, n', rfl, rfl, hn⟩)
    · exact .inr (.inl ⟨n, m', rfl, rfl, hm⟩)
    · cases h1
  · rcases h' with rfl | ⟨m, m', h1, rfl, hm⟩ | ⟨m, m', h1, rfl⟩
    · exact .inr (.inr ⟨s, s', rfl, rfl⟩)
    · cases h1
    · exact .inr (.inr ⟨s, m', rfl, rfl⟩)
/-- Within the blocks S numbers have been replaced by numbers; all else stands, and new blocks may be there. -/
structure Turned (S : Nat → Prop) (w w' : World) : Prop where
  os : w'.os = w.os
  tape : w'.tape = w.tape
  output : w'.output = w.output
  size : w.heap.size ≤ w'.heap.size
  block : ∀ b, b < w.heap.size → ¬ S b → w'.heap[b]? = w.heap[b]?
  cell : ∀ (b o : Nat) v, w.cell? ⟨b, o, none⟩ = some v → ∃ v', w'.cell? ⟨b, o, none⟩ = some v' ∧ kin v v'
  thaw : ∀ b, Thawed w b → Thawed w' b
theorem Turned.refl (S : Nat → Prop) (w : World) : Turned S w w := ⟨rfl, rfl, rfl, Nat.le_refl _, fun _ _ _ => rfl, fun _ _ v h => ⟨v, h, kin.refl v⟩, fun _ h => h⟩
theorem Turned.trans {S : Nat → Prop} {a b c : World} (h : Turned S a b) (k : Turned S b c) : Turned S a c :=
  ⟨k.os.trans h.os, k.tape.trans h.tape, k.output.trans h.output, Nat.le_trans h.size k.size, fun i hi hs => (k.block i (Nat.lt_of_lt_of_le hi h.size) hs).trans (h.block i hi hs),
    fun b o v hv => by
      obtain ⟨v1, h1, h2⟩ := h.cell b o v hv
      obtain ⟨v2, h3, h4⟩ := k.cell b o v1 h1
      exact ⟨v2, h3, h2.trans h4⟩, fun b hb => k.thaw b (h.thaw b hb)⟩
theorem Turned.drew {S : Nat → Prop} {a w : World} (h : Turned S a w) : Turned S a w.drew := ⟨h.os, h.tape, h.output, h.size, h.block, h.cell, h.thaw⟩
theorem Turned.of_below {S : Nat → Prop} {w w' : World} (h : Below w.heap.size w w') : Turned S w w' :=
  ⟨h.os, h.tape, h.output, h.size, fun b hb _ => h.block b hb, fun b o v hv => ⟨v, (h.cell (p := ⟨b, o, none⟩) (World.block_lt_of_cell? w ⟨b, o, none⟩ hv)).trans hv, kin.refl v⟩,
    fun b hb => hb.keep (h.block b (by obtain ⟨cs, e, hb⟩ := hb; exact (Array.getElem?_eq_some_iff.1 hb).1))⟩
theorem Turned.alloc {S : Nat → Prop} {a w : World} (h : Turned S a w) (o : Obj) : Turned S a (w.alloc o) := h.trans (.of_below ((Below.refl _ _).alloc (Nat.le_refl _) o))
theorem Turned.below {S : Nat → Prop} {a w w' : World} (h : Turned S a w) (hb : Below w.heap.size w w') : Turned S a w' := h.trans (.of_below hb)
theorem Turned.set {S : Nat → Prop} {w : World} {b o : Nat} {n n' : Int} (hb : S b) (hc : w.cell? ⟨b, o, none⟩ = some (.int .i64 n)) (hn : I64 n') : Turned S w (w.setCell ⟨b, o, none⟩ (.int .i64 n')) := by
  refine ⟨rfl, rfl, rfl, by simp [World.setCell], fun k _ hs => Below.heap_setCell _ _ _ _ (by rintro rfl; exact hs hb), fun b' o' v hv => ?_, fun _ h => thawed_setCell h _ _⟩
  by_cases he : b' = b ∧ o' = o
  · obtain ⟨rfl, rfl⟩ := he
    rw [hc] at hv
    cases hv
    exact ⟨.int .i64 n', by simp [go_sem, hc], .inr (.inl ⟨n, n', rfl, rfl, hn⟩)⟩
  · refine ⟨v, ?_, kin.refl v⟩
    by_cases hbb : b' = b
    · subst hbb
      have hne : ¬ o' = o := fun e => he ⟨rfl, e⟩
      simp [go_sem, hv]
    · exact cell_set_ne hbb hv
theorem Turned.setStr {S : Nat → Prop} {w : World} {b o : Nat} {s s' : ByteArray} (hb : S b) (hc : w.cell? ⟨b, o, none⟩ = some (.string s)) : Turned S w (w.setCell ⟨b, o, none⟩ (.string s')) := by
  refine ⟨rfl, rfl, rfl, by simp [World.setCell], fun k _ hs => Below.heap_setCell _ _ _ _ (by rintro rfl; exact hs hb), fun b' o' v hv => ?_, fun _ h => thawed_setCell h _ _⟩
  by_cases he : b' = b ∧ o' = o
  · obtain ⟨rfl, rfl⟩ := he
    rw [hc] at hv
    cases hv
    exact ⟨.string s', by simp [go_sem, hc], .inr (.inr ⟨s, s', rfl, rfl⟩)⟩
  · refine ⟨v, ?_, kin.refl v⟩
    by_cases hbb : b' = b
    · subst hbb
      have hne : ¬ o' = o := fun e => he ⟨rfl, e⟩
      simp [go_sem, hv]
    · exact cell_set_ne hbb hv
/-- What lies outside the turned blocks stands. -/
theorem Turned.bel {S : Nat → Prop} {w w' : World} {B : Nat} (h : Turned S w w') (hB : B ≤ w.heap.size) (hS : ∀ b, S b → B ≤ b) : Below B w w' :=
  ⟨h.os, h.tape, h.output, h.size, fun k hk => h.block k (by omega) (fun hs => by have := hS k hs; omega)⟩
theorem SlRd.out_of {α : Type} {C : Codec α} {S T : Nat → Prop} {w w' : World} {a : Option Addr} {cap : Nat} {azs : List α} (h : SlRd C T w a cap azs) (t : Turned S w w') (hd : ∀ b, T b → b < w.heap.size → ¬ S b) : SlRd C T w' a cap azs :=
  h.keep fun b hb hl => ⟨hb, t.block b hl (hd b hb hl)⟩
theorem SlRd.out_fresh {α : Type} {C : Codec α} {S : Nat → Prop} {B : Nat} {w w' : World} {a : Option Addr} {cap : Nat} {azs : List α} (h : SlRd C (Fresh B w) w a cap azs) (t : Turned S w w') (hd : ∀ b, B ≤ b → b < w.heap.size → ¬ S b) : SlRd C (Fresh B w') w' a cap azs :=
  h.keep fun b hb hl => ⟨⟨hb.1, t.thaw b hb.2⟩, t.block b hl (hd b hb.1 hl)⟩

inductive F2 : List Value → List Value → Prop
  | nil : F2 [] []
  | cons {v v' : Value} {l l' : List Value} : kin v v' → F2 l l' → F2 (v :: l) (v' :: l')
/-- Codecs whose readings keep their form when numbers are replaced. -/
structure Norm {α : Type} (C : Codec α) where
  nf : α → α
  turn : ∀ {S T : Nat → Prop} {w w' : World} {cs cs' : List Value} {a : α}, Turned T w w' → C.rd S w cs a → F2 cs cs' → ∃ a', C.rd S w' cs' a' ∧ nf a' = nf a
theorem f2_one {v : Value} {cs' : List Value} (h : F2 [v] cs') : ∃ v', cs' = [v'] ∧ kin v v' := by
  cases h with
  | cons h1 h2 => cases h2; exact ⟨_, rfl, h1⟩
theorem kin_sl {a : Option Addr} {n cap : Nat} {v' : Value} (h : kin (.slice a n cap) v') : v' = .slice a n cap := by
  rcases h with h | ⟨n, n', h, _⟩ | ⟨n, n', h, _⟩
  · exact h
  · cases h
  · cases h
theorem f2_append {u v cs' : List Value} (h : F2 (u ++ v) cs') : ∃ p q, cs' = p ++ q ∧ F2 u p ∧ F2 v q := by
  induction u generalizing cs' with
  | nil => exact ⟨[], cs', rfl, .nil, h⟩
  | cons x u ih =>
    cases h with
    | cons h1 h2 =>
      obtain ⟨p, q, rfl, h3, h4⟩ := ih h2
      exact ⟨_ :: p, q, rfl, .cons h1 h3, h4⟩
def nInt : Norm cInt where
  nf := fun _ => 0
  turn := by
    rintro S T w w' cs cs' a ht ⟨rfl, ha⟩ hf
    obtain ⟨v', rfl, hk⟩ := f2_one hf
    rcases hk with rfl | ⟨n, n', h1, rfl, hn⟩ | ⟨n, n', h1, rfl⟩
    · exact ⟨a, ⟨rfl, ha⟩, rfl⟩
    · exact ⟨n', ⟨rfl, hn⟩, rfl⟩
    · cases h1
theorem cells_turn {T : Nat → Prop} {w w' : World} (ht : Turned T w w') (b : Nat) : ∀ (cs : List Value) (o : Nat), (∀ (j : Nat) u, cs[j]? = some u → w.cell? ⟨b, o + j, none⟩ = some u) → ∃ cs', F2 cs cs' ∧ ∀ (j : Nat) u, cs'[j]? = some u → w'.cell? ⟨b, o + j, none⟩ = some u
  | [], _, _ => ⟨[], .nil, by simp⟩
  | v :: cs, o, h => by
    obtain ⟨v', h1, h2⟩ := ht.cell b (o + 0) v (h 0 v rfl)
    obtain ⟨cs', h3, h4⟩ := cells_turn ht b cs (o + 1) fun j u hj => by rw [show o + 1 + j = o + (j + 1) by omega]; exact h (j + 1) u hj
    refine ⟨v' :: cs', .cons h2 h3, fun j u hj => ?_⟩
    cases j with
    | zero => simp at hj; subst hj; exact h1
    | succ j => rw [show o + (j + 1) = o + 1 + j by omega]; exact h4 j u hj
theorem SlRd.turned {α : Type} {C : Codec α} (N : Norm C) {S T : Nat → Prop} {w w' : World} {a : Option Addr} {cap : Nat} {azs : List α} (h : SlRd C S w a cap azs) (ht : Turned T w w') :
    ∃ azs', SlRd C S w' a cap azs' ∧ azs'.map N.nf = azs.map N.nf := by
  obtain ⟨h1, h2, h3, h4⟩ := h
  cases a with
  | none =>
    have h0 := h3 rfl
    obtain rfl := List.eq_nil_of_length_eq_zero (show azs.length = 0 by omega)
    exact ⟨[], ⟨h1, h2, h3, by simp⟩, rfl⟩
  | some x =>
    obtain ⟨l, hl, hp⟩ := list_choose (p := fun i (d' : α) => (∃ d, azs[i]? = some d ∧ N.nf d' = N.nf d) ∧ (x.spot = none ∧ S x.block ∧ x.block < w'.heap.size) ∧ ∃ cs, C.rd S w' cs d' ∧ ∀ (j : Nat) u, cs[j]? = some u → w'.cell? ⟨x.block, x.off + i * C.n + j, none⟩ = some u) azs.length fun i hi => by
      obtain ⟨⟨h5, h6, h7⟩, cs, r, hc⟩ := h4 x rfl i azs[i] (by simp [hi])
      obtain ⟨cs', hf, hc'⟩ := cells_turn ht x.block cs (x.off + i * C.n) hc
      obtain ⟨d', hr, hn⟩ := N.turn ht r hf
      exact ⟨d', ⟨azs[i], by simp [hi], hn⟩, ⟨h5, h6, Nat.lt_of_lt_of_le h7 ht.size⟩, cs', hr, hc'⟩
    refine ⟨l, ⟨by omega, h2, by simp, ?_⟩, ?_⟩
    · rintro y ⟨⟩ i d hi
      exact (hp i d hi).2
    · apply List.ext_getElem?
      intro i
      simp only [List.getElem?_map]
      by_cases hi : i < l.length
      · obtain ⟨⟨d, hd, hn⟩, _⟩ := hp i l[i] (by simp [hi])
        rw [hd, List.getElem?_eq_getElem hi]; simp [hn]
      · rw [List.getElem?_eq_none (by omega), List.getElem?_eq_none (by omega)]
def nSl {α : Type} {C : Codec α} (N : Norm C) : Norm (cSl C) where
  nf := fun azs => azs.map N.nf
  turn := by
    rintro S T w w' cs cs' azs ht ⟨a, cap, rfl, h⟩ hf
    obtain ⟨v', rfl, hk⟩ := f2_one hf
    obtain rfl := kin_sl hk
    obtain ⟨azs', h1, h2⟩ := h.turned N ht
    refine ⟨azs', ⟨a, cap, ?_, h1⟩, h2⟩
    have := congrArg List.length h2
    simp at this
    rw [this]
def nPair {α β : Type} {C : Codec α} {D : Codec β} (N : Norm C) (M : Norm D) : Norm (cPair C D) where
  nf := fun p => (N.nf p.1, M.nf p.2)
  turn := by
    rintro S T w w' cs cs' ⟨a, b⟩ ht ⟨c, d, rfl, h1, h2⟩ hf
    obtain ⟨p, q, rfl, h3, h4⟩ := f2_append hf
    obtain ⟨a', h5, h6⟩ := N.turn ht h1 h3
    obtain ⟨b', h7, h8⟩ := M.turn ht h2 h4
    exact ⟨(a', b'), ⟨p, q, rfl, h5, h7⟩, by simp [h6, h8]⟩
abbrev nInts : Norm cInts := nSl nInt
abbrev nTerm : Norm cTerm := nPair nInt nInts
abbrev nTerms : Norm cTerms := nSl nTerm
theorem map_len {α β : Type} {f : α → β} {azs bs : List α} (h : azs.map f = bs.map f) : azs.length = bs.length := by simpa using congrArg List.length h
theorem map_at {α β : Type} {f : α → β} {azs bs : List α} {i : Nat} {x y : α} (h : azs.map f = bs.map f) (hx : azs[i]? = some x) (hy : bs[i]? = some y) : f x = f y := by
  have := congrArg (·[i]?) h
  simpa [hx, hy] using this
/-- The blocks from one on, before another. -/
def Btw (B B' b : Nat) : Prop := B ≤ b ∧ b < B'
theorem SlRd.btw {α : Type} {C : Codec α} {B n : Nat} {w w' : World} {a : Option Addr} {cap : Nat} {azs : List α} (h : SlRd C (Fresh B w) w a cap azs) (hb : Below n w w') (hn : w.heap.size ≤ n) : SlRd C (fun b => Btw B w.heap.size b ∧ Thawed w' b) w' a cap azs :=
  h.keep fun b hs hl => ⟨⟨⟨hs.1, hl⟩, hs.2.keep (hb.block b (by omega))⟩, hb.block b (by omega)⟩
end Go.Proofs.YtcmopmapdomneaaDoor
end

section
namespace Go.Proofs.YtcmopmapdomneaaDoor
open Go.RowKit

def allIn (zs : List Int) (lo hi : Int) : Bool := zs.all fun z => inB z lo hi
def lastOk (zs : List Int) : Bool := match zs.getLast? with | some z => z != 0 | none => true
def validTerm (t : Term) : Bool := decide (t.2.length ≤ 10) && inB t.1 (-1000000) 1000000 && allIn t.2 (-1000000) 1000000 && lastOk t.2
def areTerms (ts : List Term) (most : Int) : Bool := decide ((ts.length : Int) ≤ most) && ts.all validTerm
theorem all_take {α : Type} {p : α → Bool} {l : List α} {k : Nat} {x : α} (h : (l.take k).all p = true) (hx : l[k]? = some x) : (l.take (k + 1)).all p = p x := by
  rw [List.take_add_one, hx, List.all_append, h]; simp
theorem all_false {α : Type} {p : α → Bool} {l : List α} {k : Nat} {x : α} (hx : l[k]? = some x) (h : p x = false) : l.all p = false := by
  rw [List.all_eq_false]; exact ⟨x, List.mem_of_getElem? hx, by simp [h]⟩
theorem all_end {α : Type} {p : α → Bool} {l : List α} {k : Nat} (h : (l.take k).all p = true) (hk : l.length ≤ k) : l.all p = true := by
  rwa [List.take_of_length_le hk] at h

theorem c_allWithin {S : Nat → Prop} (a : Option Addr) (cap : Nat) (zs : List Int) (lo hi : Int) (w : World) (h : SlRd cInt S w a cap zs) :
    Calls Tryd.prog 113 #[.slice a zs.length cap, .int .i64 lo, .int .i64 hi] w fun e w' => e = .returned (.bool (allIn zs lo hi)) ∧ w = w' := by
  have hl := h.len_le
  have H := hid h
  clear h
  go_enter Tryd.func113, Tryd.ntmps113
  go_wp2
  go_loop [11] (fun i => ∃ k : Nat, k ≤ zs.length ∧ i = .int .i64 k ∧ Hid ((zs.take k).all (fun z => inB z lo hi) = true)) (fun i => zs.length - (intOf i).toNat)
  case atStart => exact ⟨0, Nat.zero_le _, rfl, rfl⟩
  case round =>
    obtain ⟨k, hk, rfl, HA⟩ := hrel
    by_cases hlt : k < zs.length
    · obtain ⟨b, off, rfl⟩ := H.out.some_of hlt
      obtain ⟨z, hz, hz2, hc, hb⟩ := H.out.int_at k hlt
      have HZ := hid hz
      clear hz
      by_cases hin : inB z lo hi = true
      · go_wp2_with (go_at_call 75; refine (c_within _ _ _ _).mono ?_; rintro e w' ⟨rfl, rfl⟩)
        go_round
        case rel => exact ⟨k + 1, by omega, by go_num, (all_take HA.out HZ.out).trans hin⟩
        case measure => simp [intOf]; omega
      · have hin' : inB z lo hi = false := by simpa using hin
        go_wp2_with (go_at_call 75; refine (c_within _ _ _ _).mono ?_; rintro e w' ⟨rfl, rfl⟩)
        go_ret
        exact ⟨ret_bool (all_false HZ.out hin').symm, rfl⟩
    · go_wp2
      go_ret
      exact ⟨ret_bool (all_end HA.out (by omega)).symm, rfl⟩
theorem c_isCoeff (n : Int) (w : World) :
    Calls Tryd.prog 102 #[.int .i64 n] w fun e w' => e = .returned (.bool (inB n (-1000000) 1000000)) ∧ w = w' := by
  go_enter Tryd.func102, Tryd.ntmps102
  go_wp2_with (go_at_call 75; refine (c_within _ _ _ _).mono ?_; rintro e w' ⟨rfl, rfl⟩)
  go_ret
  exact ⟨rfl, rfl⟩
theorem c_ValidTerm {S : Nat → Prop} (c : Int) (a : Option Addr) (cap : Nat) (zs : List Int) (w : World) (h : SlRd cInt S w a cap zs) :
    Calls Tryd.prog 107 #[.agg #[.int .i64 c, .slice a zs.length cap]] w fun e w' => e = .returned (.bool (validTerm (c, zs))) ∧ Below w.heap.size w w' := by
  have hl := h.len_le
  have hb0 : Below w.heap.size w (w.alloc (.cells #[.int .i64 c, .slice a zs.length cap] 89)) := (Below.refl _ _).alloc (Nat.le_refl _) _
  have H0 := hid (h.below (Nat.le_refl _) hb0)
  have H := hid h
  clear h
  by_cases h1 : zs.length ≤ 10
  · by_cases h2 : inB c (-1000000) 1000000 = true
    · by_cases h3 : allIn zs (-1000000) 1000000 = true
      · by_cases h4 : zs.length = 0
        · have h4' : ((zs.length : Int) == 0) = true := by simp [h4]
          have HF : Hid (validTerm (c, zs) = true) := by unfold Hid; obtain rfl := List.eq_nil_of_length_eq_zero h4; simp [validTerm, h2, allIn, lastOk]
          clear h4
          go_enter Tryd.func107, Tryd.ntmps107
          go_wp2_with (first | (go_at_call 102; refine (c_isCoeff _ _).mono ?_; rintro e w' ⟨rfl, rfl⟩) | (go_at_call 113; refine (c_allWithin _ _ _ _ _ _ H0.out).mono ?_; rintro e w' ⟨rfl, rfl⟩))
          go_ret
          exact ⟨ret_bool HF.out.symm, hb0⟩
        · have h4' : ((zs.length : Int) == 0) = false := by simp; simpa using h4
          obtain ⟨b, off, rfl⟩ := H.out.some_of (k := 0) (by omega)
          obtain ⟨z, hz, hz2, hc, hb⟩ := H.out.int_at (zs.length - 1) (by omega)
          have HF : Hid (validTerm (c, zs) = (z != 0)) := by unfold Hid; simp [validTerm, h1, h2, h3, lastOk, List.getLast?_eq_getElem?, hz]
          clear hz
          have h5 : 1 ≤ zs.length := by omega
          clear h4
          go_enter Tryd.func107, Tryd.ntmps107
          go_wp2_with (first | (go_at_call 102; refine (c_isCoeff _ _).mono ?_; rintro e w' ⟨rfl, rfl⟩) | (go_at_call 113; refine (c_allWithin _ _ _ _ _ _ H0.out).mono ?_; rintro e w' ⟨rfl, rfl⟩))
          go_ret
          exact ⟨ret_bool HF.out.symm, hb0⟩
      · have h3' : allIn zs (-1000000) 1000000 = false := by simpa using h3
        have HF : Hid (validTerm (c, zs) = false) := by unfold Hid; simp [validTerm, h3']
        clear h3
        go_enter Tryd.func107, Tryd.ntmps107
        go_wp2_with (first | (go_at_call 102; refine (c_isCoeff _ _).mono ?_; rintro e w' ⟨rfl, rfl⟩) | (go_at_call 113; refine (c_allWithin _ _ _ _ _ _ H0.out).mono ?_; rintro e w' ⟨rfl, rfl⟩))
        go_ret
        exact ⟨ret_bool HF.out.symm, hb0⟩
    · have h2' : inB c (-1000000) 1000000 = false := by simpa using h2
      have HF : Hid (validTerm (c, zs) = false) := by unfold Hid; simp [validTerm, h2']
      clear h2
      go_enter Tryd.func107, Tryd.ntmps107
      go_wp2_with (go_at_call 102; refine (c_isCoeff _ _).mono ?_; rintro e w' ⟨rfl, rfl⟩)
      go_ret
      exact ⟨ret_bool HF.out.symm, hb0⟩
  · have HF : Hid (validTerm (c, zs) = false) := by unfold Hid; simp [validTerm, h1]
    go_enter Tryd.func107, Tryd.ntmps107
    go_wp2
    go_ret
    exact ⟨ret_bool HF.out.symm, hb0⟩
end Go.Proofs.YtcmopmapdomneaaDoor
end

section
namespace Go.Proofs.YtcmopmapdomneaaDoor
open Go.RowKit

def szR (left n : Int) : Int := if left < n then -1 else left - n
theorem slI64 : SlT Tryd.prog 72 2 (.int .i64 0) 1 8 := ⟨Tryd.underlying72, by kernel_rfl, rfl, by decide, by decide⟩
theorem slTerm : SlT Tryd.prog 30 89 (.agg #[.int .i64 0, .slice none 0 0]) 2 32 := ⟨Tryd.underlying30, by kernel_rfl, rfl, by decide, by decide⟩
theorem c_szInt64S (a : Option Addr) (n cap : Nat) (left : Int) (w : World) (hn : n ≤ 9223372036854775807) (h0 : 0 ≤ left) (h1 : left ≤ 1048576) :
    Calls Tryd.prog 67 #[.slice a n cap, .int .i64 left] w fun e w' => e = .returned (.int .i64 (szR left n)) ∧ w = w' := by
  by_cases h : left < n
  · have HF : Hid (szR left n = -1) := by unfold Hid; simp [szR, h]
    have h' : left - (n : Int) < 0 := by omega
    go_enter Tryd.func67, Tryd.ntmps67
    go_wp2
    go_ret
    exact ⟨ret_int HF.out.symm, rfl⟩
  · have HF : Hid (szR left n = left - n) := by unfold Hid; simp [szR, h]
    go_enter Tryd.func67, Tryd.ntmps67
    go_wp2
    go_ret
    exact ⟨ret_int HF.out.symm, rfl⟩
theorem c_szTerm (c : Int) (a : Option Addr) (n cap : Nat) (left : Int) (w : World) (hn : n ≤ 9223372036854775807) (h0 : 0 ≤ left) (h1 : left ≤ 1048576) :
    Calls Tryd.prog 35 #[.agg #[.int .i64 c, .slice a n cap], .int .i64 left] w fun e w' => e = .returned (.int .i64 (szR left n)) ∧ Below w.heap.size w w' := by
  obtain ⟨r, hr⟩ : ∃ r, r = szR left n := ⟨_, rfl⟩
  have hr1 : r < 0 → r = -1 := by rw [hr]; unfold szR; split <;> omega
  have HR := hid hr
  by_cases h : r < 0
  · have h1 := hid (hr1 h)
    clear hr1 hr
    go_enter Tryd.func35, Tryd.ntmps35
    go_wp2_with (go_at_call 67; refine (c_szInt64S _ _ _ _ _ hn (by omega) (by omega)).mono ?_; rintro e w' ⟨rfl, rfl⟩; rw [← HR.out])
    go_ret
    exact ⟨ret_int (by rw [← HR.out, h1.out]), (Below.refl _ _).alloc (Nat.le_refl _) _⟩
  · clear hr1 hr
    go_enter Tryd.func35, Tryd.ntmps35
    go_wp2_with (go_at_call 67; refine (c_szInt64S _ _ _ _ _ hn (by omega) (by omega)).mono ?_; rintro e w' ⟨rfl, rfl⟩; rw [← HR.out])
    go_ret
    exact ⟨ret_int HR.out, (Below.refl _ _).alloc (Nat.le_refl _) _⟩
theorem c_toInt64S {S : Nat → Prop} (a : Option Addr) (cap : Nat) (zs : List Int) (w : World) (h : SlRd cInt S w a cap zs) (hn : zs.length ≤ 1048576) :
    Calls Tryd.prog 74 #[.slice a zs.length cap] w (RetSl cInt zs w) := by
  have H := hid h
  clear h
  go_enter Tryd.func74, Tryd.ntmps74
  go_wp2_with (at_make; go_loud (refine wpList_mk rfl (.tmp 6) (.tmp 6) _ rfl rfl rfl (own_mk slI64 (C := cInt) (base := w.heap.size) (fun _ => False) zs.length (by omega) (Nat.le_refl _) 0 (fun _ _ => ⟨rfl, i64_0⟩) _ _) ?_); rintro w1 ⟨hown, hg⟩)
  go_loopw [4] (fun i wr => ∃ k : Nat, k ≤ zs.length ∧ i = .int .i64 k ∧ OwnSl cInt (fun _ => False) wr w.heap.size 2 (.slice (some ⟨w.heap.size, 0, none⟩) zs.length zs.length) (zs.take k ++ List.replicate (zs.length - k) 0) ∧ Below w.heap.size w wr) (fun i _ => zs.length - (intOf i).toNat)
  case atStart => exact ⟨0, Nat.zero_le _, rfl, by simpa using hown, (Below.refl _ _).grown hg (Nat.le_refl _) (by simp)⟩
  case round =>
    obtain ⟨k, hk, rfl, hown, hbe⟩ := hrel
    by_cases hlt : k < zs.length
    · obtain ⟨b, off, rfl⟩ := H.out.some_of hlt
      obtain ⟨z, hz, hz2, hc, hb⟩ := (H.out.below (Nat.le_refl _) hbe).int_at k hlt
      obtain ⟨z', _, _, hc', hf', _, _⟩ := own_at_int hown (fill_len rfl hk) k hlt
      have HZ := hid hz
      have HO := hid hown
      clear hz hown hg
      go_wp2
      go_roundw
      case rel =>
        obtain ⟨h1, h2⟩ := own_set_int HO.out (fill_len rfl hk) k hlt z hz2
        rw [fill_set rfl hlt HZ.out] at h1
        exact ⟨k + 1, by omega, by go_num, h1, hbe.setCell (Nat.le_refl _) _⟩
      case measure => simp [intOf]; omega
    · go_wp2
      go_ret
      rw [fill_end rfl (by omega)] at hown
      exact retSl_own hown (fun _ h => h.elim) hbe
theorem c_toTerm {S : Nat → Prop} (c : Int) (a : Option Addr) (cap : Nat) (zs : List Int) (w : World) (h : SlRd cInt S w a cap zs) (hn : zs.length ≤ 1048576) :
    Calls Tryd.prog 43 #[.agg #[.int .i64 c, .slice a zs.length cap]] w (RetTerm (c, zs) w) := by
  have H := hid h
  clear h
  go_enter Tryd.func43, Tryd.ntmps43
  go_wp2_with (go_at_call 74; refine (c_toInt64S _ _ _ _ (((H.out.alloc _).alloc _).alloc _) hn).mono ?_; rintro e w1 ⟨a1, cap1, rfl, hs1, hb1⟩; obtain ⟨hc1, hf1⟩ := bcell hb1; have hz1 := hb1.size; simp only [World.size_alloc] at hz1 hc1 hf1; have HB := hid hb1; have HS := hid hs1; clear hb1 hs1)
  refine bodyPost_ret (v := .agg #[.int .i64 c, .slice a1 zs.length cap1]) (by simp [results, Tryd.results43, go_sem, hc1]) rfl ⟨a1, cap1, rfl, ?_, ?_⟩
  · have h1 := HS.out
    simp only [World.size_alloc] at h1
    exact ((((h1.setC (by simp) _).setC (by simp) _).setC (by simp) _).lower (by omega))
  · refine Below.setCell (Below.setCell (Below.setCell ?_ (by simp; omega) _) (by simp) _) (by simp) _
    exact (((Below.refl _ _).alloc (Nat.le_refl _) _).alloc (by simp) _).alloc (by simp; omega) _ |>.trans (HB.out.mono (by simp; omega))
theorem take_eq_snoc {α : Type} {xs ys : List α} {k : Nat} {x y : α} (h : xs.take k = ys.take k) (hx : xs[k]? = some x) (hy : ys[k]? = some y) (e : x = y) : xs.take (k + 1) = ys.take (k + 1) := by
  rw [List.take_add_one, List.take_add_one, h, hx, hy, e]
theorem ne_at {α : Type} {xs ys : List α} {k : Nat} {x y : α} (hx : xs[k]? = some x) (hy : ys[k]? = some y) (e : x ≠ y) : xs ≠ ys := by
  rintro rfl; rw [hx] at hy; exact e (by simpa using hy)
theorem take_all_eq {α : Type} {xs ys : List α} {k : Nat} (h : xs.take k = ys.take k) (h1 : xs.length ≤ k) (h2 : ys.length ≤ k) : xs = ys := by
  rwa [List.take_of_length_le h1, List.take_of_length_le h2] at h
theorem c_eqInt64S {S T : Nat → Prop} (a b : Option Addr) (ca cb : Nat) (xs ys : List Int) (w : World) (hx : SlRd cInt S w a ca xs) (hy : SlRd cInt T w b cb ys) :
    Calls Tryd.prog 92 #[.slice a xs.length ca, .slice b ys.length cb] w fun e w' => e = .returned (.bool (decide (xs = ys))) ∧ Below w.heap.size w w' := by
  have HX := hid hx
  have HY := hid hy
  have hlx := hx.len_le
  have hly := hy.len_le
  clear hx hy
  by_cases hl : xs.length = ys.length
  · have h1 : ((xs.length : Int) != ys.length) = false := by simp [hl]
    have HL := hid hl
    have hl1 : xs.length ≤ ys.length := by omega
    have hl2 : ys.length ≤ xs.length := by omega
    clear hl
    go_enter Tryd.func92, Tryd.ntmps92
    go_wp2
    go_loopw [5] (fun i wr => ∃ k : Nat, k ≤ xs.length ∧ i = .int .i64 k ∧ Hid (xs.take k = ys.take k) ∧ Below w.heap.size w wr) (fun i _ => xs.length - (intOf i).toNat)
    case atStart => exact ⟨0, Nat.zero_le _, rfl, rfl, Below.refl _ _⟩
    case round =>
      obtain ⟨k, hk, rfl, HA, hbe⟩ := hrel
      by_cases hlt : k < xs.length
      · obtain ⟨b1, off1, rfl⟩ := HX.out.some_of hlt
        obtain ⟨b2, off2, rfl⟩ := HY.out.some_of (k := k) (by omega)
        obtain ⟨x, hxk, _, hcx, _⟩ := (HX.out.below (Nat.le_refl _) hbe).int_at k hlt
        obtain ⟨y, hyk, _, hcy, _⟩ := (HY.out.below (Nat.le_refl _) hbe).int_at k (by omega)
        have HXK := hid hxk
        have HYK := hid hyk
        clear hxk hyk
        have i1 : (0 : Int) ≤ (k : Int) := by omega
        have i2 : (k : Int) < (xs.length : Int) := by omega
        have i3 : (k : Int) < (ys.length : Int) := by omega
        by_cases he : x = y
        · have he' : (x != y) = false := by simp [he]
          have HE := hid he
          clear he
          go_wp2
          go_quiet (fail)
          go_wp2
          go_roundw
          case rel => exact ⟨k + 1, by omega, by go_num, take_eq_snoc HA.out HXK.out HYK.out HE.out, hbe.trans (below_drewN _ _ _)⟩
          case measure => simp [intOf]; omega
        · have he' : (x != y) = true := by simp [he]
          have HE := hid he
          clear he
          go_wp2
          go_quiet (fail)
          go_wp2
          go_ret
          exact ⟨ret_bool (by simp [ne_at HXK.out HYK.out HE.out]), hbe.trans (below_drewN _ _ _)⟩
      · go_wp2
        go_ret
        exact ⟨ret_bool (by simp [take_all_eq HA.out (by omega) (by omega)]), hbe⟩
  · have h1 : ((xs.length : Int) != ys.length) = true := by simp; omega
    have HF : Hid (decide (xs = ys) = false) := by unfold Hid; simp; rintro rfl; exact hl rfl
    clear hl
    go_enter Tryd.func92, Tryd.ntmps92
    go_wp2
    go_ret
    exact ⟨ret_bool HF.out.symm, Below.refl _ _⟩
theorem c_eqTerm {S T : Nat → Prop} (c d : Int) (a b : Option Addr) (ca cb : Nat) (xs ys : List Int) (w : World) (hx : SlRd cInt S w a ca xs) (hy : SlRd cInt T w b cb ys) :
    Calls Tryd.prog 54 #[.agg #[.int .i64 c, .slice a xs.length ca], .agg #[.int .i64 d, .slice b ys.length cb]] w fun e w' => e = .returned (.bool (decide (((c, xs) : Term) = (d, ys)))) ∧ Below w.heap.size w w' := by
  have HX := hid hx
  have HY := hid hy
  clear hx hy
  by_cases hc : c = d
  · have h1 : (c != d) = false := by simp [hc]
    have HF : Hid (decide (((c, xs) : Term) = (d, ys)) = decide (xs = ys)) := by unfold Hid; simp [hc]
    have HC := hid hc
    clear hc
    obtain ⟨r, hr⟩ : ∃ r, decide (xs = ys) = r := ⟨_, rfl⟩
    have HR := hid hr
    clear hr
    cases r
    all_goals
      go_enter Tryd.func54, Tryd.ntmps54
      go_wp2_with (go_at_call 92; refine (c_eqInt64S _ _ _ _ _ _ _ ((HX.out.alloc _).alloc _) ((HY.out.alloc _).alloc _)).mono ?_; rintro e w1 ⟨rfl, hb1⟩; rw [HR.out])
      go_ret
      exact ⟨ret_bool (by rw [HF.out, HR.out]), (((Below.refl _ _).alloc (Nat.le_refl _) _).alloc (by simp) _).trans (hb1.mono (by simp; omega))⟩
  · have h1 : (c != d) = true := by simp [hc]
    have HF : Hid (decide (((c, xs) : Term) = (d, ys)) = false) := by unfold Hid; simp [hc]
    clear hc
    go_enter Tryd.func54, Tryd.ntmps54
    go_wp2
    go_ret
    exact ⟨ret_bool HF.out.symm, ((Below.refl _ _).alloc (Nat.le_refl _) _).alloc (by simp) _⟩
def szT (t : Term) : Nat := t.2.length
def szTs (ts : List Term) : Nat := ts.length + (ts.map szT).sum
theorem szR_neg {left : Int} {n m : Nat} (h : szR left n < 0) : szR left (n + m : Nat) = -1 := by unfold szR at *; split at h <;> split <;> omega
theorem szR_add {left : Int} {n m : Nat} (h : 0 ≤ szR left n) : szR (szR left n) m = szR left (n + m : Nat) := by unfold szR at *; split at h <;> (split <;> split <;> omega)
theorem szR_ge {left : Int} {n : Nat} (h : 0 ≤ szR left n) : (n : Int) ≤ left ∧ szR left n ≤ left := by unfold szR at *; split at h <;> (try split) <;> omega
theorem sum_take {ts : List Term} {k : Nat} {t : Term} (h : ts[k]? = some t) : ((ts.take (k + 1)).map szT).sum = ((ts.take k).map szT).sum + szT t := by
  rw [List.take_add_one, h]; simp
theorem sum_take_le (ts : List Term) (k : Nat) : ((ts.take k).map szT).sum ≤ (ts.map szT).sum := by
  have : (ts.map szT).sum = ((ts.take k).map szT).sum + ((ts.drop k).map szT).sum := by rw [← List.sum_append, ← List.map_append, List.take_append_drop]
  omega
theorem szTs_le {ts : List Term} {t : Term} (h : t ∈ ts) : t.2.length ≤ szTs ts := by
  have : ∀ ts : List Term, t ∈ ts → t.2.length ≤ (ts.map szT).sum := by
    intro ts
    induction ts with
    | nil => intro h; cases h
    | cons u ts ih =>
      intro h
      rcases List.mem_cons.1 h with rfl | h
      · simp [szT]
      · have := ih h; simp; omega
  have := this ts h
  unfold szTs; omega
theorem c_szTermS {S : Nat → Prop} (a : Option Addr) (cap : Nat) (ts : List Term) (left : Int) (w : World) (h : SlRd cTerm S w a cap ts) (h0 : 0 ≤ left) (h1 : left ≤ 1048576) :
    Calls Tryd.prog 15 #[.slice a ts.length cap, .int .i64 left] w fun e w' => e = .returned (.int .i64 (szR left (szTs ts))) ∧ Below w.heap.size w w' := by
  have H := hid h
  have hl := h.len_le
  clear h
  by_cases hs : left < ts.length
  · have HF : Hid (szR left (szTs ts) = -1) := szR_neg (n := ts.length) (by unfold szR; rw [if_pos hs]; omega)
    have h' : left - (ts.length : Int) < 0 := by omega
    go_enter Tryd.func15, Tryd.ntmps15
    go_wp2
    go_ret
    exact ⟨ret_int HF.out.symm, Below.refl _ _⟩
  · have h' : 0 ≤ left - (ts.length : Int) := by omega
    go_enter Tryd.func15, Tryd.ntmps15
    go_wp2
    go_loopw [1, 5] (fun u i wr => ∃ (k : Nat) (r : Int), k ≤ ts.length ∧ i = .int .i64 k ∧ u = .int .i64 r ∧ 0 ≤ r ∧ r ≤ left ∧ Hid (r = szR left (ts.length + ((ts.take k).map szT).sum : Nat)) ∧ Below w.heap.size w wr) (fun _ i _ => ts.length - (intOf i).toNat)
    case atStart => exact ⟨0, _, Nat.zero_le _, rfl, rfl, h', by omega, by (unfold Hid szR; simp; omega), Below.refl _ _⟩
    case round =>
      obtain ⟨k, r, hk, rfl, rfl, hr0, hr1, HR, hbe⟩ := hrel
      have hsz := hbe.size
      by_cases hlt : k < ts.length
      · obtain ⟨b, off, rfl⟩ := H.out.some_of hlt
        obtain ⟨c, zs, a', cap', hz, hc1, hsl, hc, hc', hb⟩ := (H.out.below (Nat.le_refl _) hbe).term_at k hlt
        have hzl := hsl.len_le
        have HZ := hid hz
        clear hz hsl
        obtain ⟨q, hq⟩ : ∃ q, szR r zs.length = q := ⟨_, rfl⟩
        have hqs : q = szR left (ts.length + ((ts.take (k + 1)).map szT).sum : Nat) := by
          rw [← hq, sum_take HZ.out]
          have hr := HR.out
          rw [hr] at hr0
          rw [hr, szR_add hr0]
          congr 1
          show _ = ((ts.length + (((ts.take k).map szT).sum + zs.length) : Nat) : Int)
          omega
        have hq1 : q ≤ r := by rw [← hq]; unfold szR; split <;> omega
        have HQ := hid hq
        have HS := hid hqs
        clear hq hqs
        by_cases hneg : q < 0
        · have HF : Hid (szR left (szTs ts) = -1) := by
            have h2 := HS.out
            rw [h2] at hneg
            have h3 : szTs ts = (ts.length + ((ts.take (k + 1)).map szT).sum) + ((ts.map szT).sum - ((ts.take (k + 1)).map szT).sum) := by
              have := sum_take_le ts (k + 1)
              unfold szTs; omega
            unfold Hid; rw [h3]; exact szR_neg hneg
          go_wp2_with (go_at_call 35; refine (c_szTerm _ _ _ _ _ _ hzl (by omega) (by omega)).mono ?_; rintro e w1 ⟨rfl, hb1⟩; rw [HQ.out])
          go_ret
          exact ⟨ret_int HF.out.symm, bel_next hbe hsz hb1⟩
        · go_wp2_with (go_at_call 35; refine (c_szTerm _ _ _ _ _ _ hzl (by omega) (by omega)).mono ?_; rintro e w1 ⟨rfl, hb1⟩; rw [HQ.out])
          go_roundw
          case rel => exact ⟨k + 1, q, by omega, by go_num, rfl, by omega, by omega, HS, bel_next hbe hsz hb1⟩
          case measure => simp [intOf]; omega
      · go_wp2
        go_ret
        exact ⟨ret_int (by rw [HR.out, List.take_of_length_le (by omega)]; rfl), hbe⟩
theorem c_toTermS {S : Nat → Prop} (a : Option Addr) (cap : Nat) (ts : List Term) (w : World) (h : SlRd cTerm S w a cap ts) (hn : ts.length ≤ 1048576) (hn' : ∀ t ∈ ts, t.2.length ≤ 1048576) :
    Calls Tryd.prog 20 #[.slice a ts.length cap] w (RetSl cTerm ts w) := by
  have H := hid h
  have HN := hid hn'
  clear h hn'
  go_enter Tryd.func20, Tryd.ntmps20
  go_wp2_with (at_make; go_loud (refine wpList_mk rfl (.tmp 6) (.tmp 6) _ rfl rfl rfl (own_mk slTerm (C := cTerm) (base := w.heap.size) (fun _ => False) ts.length (by omega) (Nat.le_refl _) (0, []) (fun _ _ => ⟨[_], [_], rfl, ⟨rfl, i64_0⟩, none, 0, rfl, nil_rd _ _ _⟩) _ _) ?_); rintro w1 ⟨hown, hg⟩)
  have hlt0 : w.heap.size < w1.heap.size := (own_lt hown _ rfl).2
  have HO := hid hown
  have HG := hid hg
  clear hown hg
  go_loopw [4] (fun i wr => ∃ k : Nat, k ≤ ts.length ∧ i = .int .i64 k ∧ OwnSl cTerm (Fresh w.heap.size wr) wr w.heap.size 89 (.slice (some ⟨w.heap.size, 0, none⟩) ts.length ts.length) (ts.take k ++ List.replicate (ts.length - k) (0, [])) ∧ Below w.heap.size w wr ∧ w.heap.size < wr.heap.size) (fun i _ => ts.length - (intOf i).toNat)
  case atStart => exact ⟨0, Nat.zero_le _, rfl, by simpa using own_keep (S' := Fresh w.heap.size w1) HO.out (fun _ h => h.elim) (fun _ _ _ => rfl), (Below.refl _ _).grown HG.out (Nat.le_refl _) (by simp), hlt0⟩
  case round =>
    obtain ⟨k, hk, rfl, hown, hbe, hgl⟩ := hrel
    have hsz := hbe.size
    by_cases hlt : k < ts.length
    · obtain ⟨b, off, rfl⟩ := H.out.some_of hlt
      obtain ⟨c, zs, a', cap', hz, hc1, hsl, hc, hc', hb⟩ := (H.out.below (Nat.le_refl _) hbe).term_at k hlt
      have hzl := HN.out _ (List.mem_of_getElem? hz)
      have HZ := hid hz
      have HW := hid hown
      clear hz hown
      go_wp2_with (go_at_call 43; refine (c_toTerm _ _ _ _ _ hsl hzl).mono ?_; rintro e w2 ⟨a2, cap2, rfl, hs2, hb2⟩; have hw2 := own_fresh HW.out (Nat.le_refl _) (Nat.le_refl _) hb2; obtain ⟨_, _, _, _, _, _, _, g1, g2, g3, g4, g5, _⟩ := own_at_term hw2 (fill_len rfl hk) k hlt; have HW2 := hid hw2; have HS2 := hid hs2; have hz2 := hb2.size; have HB2 := hid hb2; clear hw2 hs2 hb2)
      go_roundw
      case rel =>
        obtain ⟨h1, h2⟩ := own_set_term HW2.out (fill_len rfl hk) k hlt c hc1 HS2.out hsz hgl
        rw [fill_set rfl hlt HZ.out] at h1
        exact ⟨k + 1, by omega, by go_num, h1, ((hbe.trans (HB2.out.mono hsz)).setCell (Nat.le_refl _) _).setCell (Nat.le_refl _) _, by simp [World.setCell]; omega⟩
      case measure => simp [intOf]; omega
    · go_wp2
      go_ret
      rw [fill_end rfl (by omega)] at hown
      exact retSl_own hown (fun _ h _ => h) hbe
set_option maxRecDepth 100000 in
theorem c_eqTermS {S T : Nat → Prop} (a b : Option Addr) (ca cb : Nat) (xs ys : List Term) (w : World) (hx : SlRd cTerm S w a ca xs) (hy : SlRd cTerm T w b cb ys) :
    Calls Tryd.prog 25 #[.slice a xs.length ca, .slice b ys.length cb] w fun e w' => e = .returned (.bool (decide (xs = ys))) ∧ Below w.heap.size w w' := by
  have HX := hid hx
  have HY := hid hy
  have hlx := hx.len_le
  have hly := hy.len_le
  clear hx hy
  by_cases hl : xs.length = ys.length
  · have h1 : ((xs.length : Int) != ys.length) = false := by simp [hl]
    have hl1 : xs.length ≤ ys.length := by omega
    have hl2 : ys.length ≤ xs.length := by omega
    clear hl
    go_enter Tryd.func25, Tryd.ntmps25
    go_wp2
    go_loopw [5] (fun i wr => ∃ k : Nat, k ≤ xs.length ∧ i = .int .i64 k ∧ Hid (xs.take k = ys.take k) ∧ Below w.heap.size w wr) (fun i _ => xs.length - (intOf i).toNat)
    case atStart => exact ⟨0, Nat.zero_le _, rfl, rfl, Below.refl _ _⟩
    case round =>
      obtain ⟨k, hk, rfl, HA, hbe⟩ := hrel
      have hsz := hbe.size
      by_cases hlt : k < xs.length
      · obtain ⟨b1, off1, rfl⟩ := HX.out.some_of hlt
        obtain ⟨b2, off2, rfl⟩ := HY.out.some_of (k := k) (by omega)
        obtain ⟨x, xs', a1, p1, hxk, _, hsx, hcx, hcx', hbx⟩ := (HX.out.below (Nat.le_refl _) hbe).term_at k hlt
        obtain ⟨y, ys', a2, p2, hyk, _, hsy, hcy, hcy', hby⟩ := (HY.out.below (Nat.le_refl _) hbe).term_at k (by omega)
        have HXK := hid hxk
        have HYK := hid hyk
        have HSX := hid hsx.drew
        have HSY := hid hsy.drew
        clear hxk hyk hsx hsy
        have i1 : (0 : Int) ≤ (k : Int) := by omega
        have i2 : (k : Int) < (xs.length : Int) := by omega
        have i3 : (k : Int) < (ys.length : Int) := by omega
        obtain ⟨r, hr⟩ : ∃ r, decide (((x, xs') : Term) = (y, ys')) = r := ⟨_, rfl⟩
        have HR := hid hr
        clear hr
        cases r
        · go_wp2
          go_still_tail 8, (by kernel_rfl)
          change wpList _ _ _ _ _ wr.drew
          go_wp2_with (go_at_call 54; refine (c_eqTerm _ _ _ _ _ _ _ _ _ HSX.out HSY.out).mono ?_; rintro e w1 ⟨rfl, hb1⟩; rw [HR.out])
          go_ret
          exact ⟨ret_bool (by simp [ne_at HXK.out HYK.out (of_decide_eq_false HR.out)]), hbe.drew.trans (hb1.mono hsz)⟩
        · go_wp2
          go_still_tail 8, (by kernel_rfl)
          change wpList _ _ _ _ _ wr.drew
          go_wp2_with (go_at_call 54; refine (c_eqTerm _ _ _ _ _ _ _ _ _ HSX.out HSY.out).mono ?_; rintro e w1 ⟨rfl, hb1⟩; rw [HR.out])
          go_roundw
          case rel => exact ⟨k + 1, by omega, by go_num, take_eq_snoc HA.out HXK.out HYK.out (of_decide_eq_true HR.out), hbe.drew.trans (hb1.mono hsz)⟩
          case measure => simp [intOf]; omega
      · go_wp2
        go_ret
        exact ⟨ret_bool (by simp [take_all_eq HA.out (by omega) (by omega)]), hbe⟩
  · have h1 : ((xs.length : Int) != ys.length) = true := by simp; omega
    have HF : Hid (decide (xs = ys) = false) := by unfold Hid; simp; rintro rfl; exact hl rfl
    clear hl
    go_enter Tryd.func25, Tryd.ntmps25
    go_wp2
    go_ret
    exact ⟨ret_bool HF.out.symm, Below.refl _ _⟩
end Go.Proofs.YtcmopmapdomneaaDoor
end

section
namespace Go.Proofs.YtcmopmapdomneaaDoor
open Go.RowKit

def numsOk (zs : List Int) (n : Nat) : Bool := decide (zs.length = n) && allIn zs (-1000000000) 1000000000
def validState (s : St) : Bool := numsOk s.1 4 && numsOk s.2 8

def RetState (s : St) (w : World) (e : Ending) (w' : World) : Prop :=
  ∃ a cap b cap', e = .returned (.agg #[.slice a s.1.length cap, .slice b s.2.length cap']) ∧ SlRd cInt (Fresh w.heap.size w') w' a cap s.1 ∧ SlRd cInt (Fresh w.heap.size w') w' b cap' s.2 ∧ Below w.heap.size w w'
end Go.Proofs.YtcmopmapdomneaaDoor
end

section
namespace Go.Proofs.YtcmopmapdomneaaDoor
open Go.RowKit

def validI (x : Instr) : Bool :=
  if x.1 = 0 ∨ x.1 = 4 then inB x.2 (-1000000) 1000000
  else if x.1 = 1 ∨ x.1 = 2 then inB x.2 0 3
  else if x.1 = 5 ∨ x.1 = 6 then inB x.2 0 79
  else if x.1 = 9 then inB x.2 0 3
  else if x.1 = 3 ∨ x.1 = 7 ∨ x.1 = 8 ∨ x.1 = 10 ∨ x.1 = 11 then x.2 == 0
  else false
theorem op_cases (op : Int) : (op = 0 ∨ op = 1 ∨ op = 2 ∨ op = 3 ∨ op = 4 ∨ op = 5 ∨ op = 6 ∨ op = 7 ∨ op = 8 ∨ op = 9 ∨ op = 10 ∨ op = 11) ∨ (op < 0 ∨ 11 < op) := by omega
theorem validI_out {op arg : Int} (h : op < 0 ∨ 11 < op) : validI (op, arg) = false := by
  unfold validI
  simp only
  rw [if_neg (by omega), if_neg (by omega), if_neg (by omega), if_neg (by omega), if_neg (by omega)]
theorem ne_out {op k : Int} (h : op < 0 ∨ 11 < op) (h0 : 0 ≤ k) (h1 : k ≤ 11) : (op == k) = false := by simp; omega

theorem c7_isCoeff (n : Int) (w : World) : Calls Tryd.prog 102 #[.int .i64 n] w fun e w' => e = .returned (.bool (inB n (-1000000) 1000000)) ∧ w = w' := c_isCoeff n w
theorem c_isVar (n : Int) (w : World) : Calls Tryd.prog 103 #[.int .i64 n] w fun e w' => e = .returned (.bool (inB n 0 3)) ∧ w = w' := by
  go_enter Tryd.func103, Tryd.ntmps103
  go_wp2_with (go_at_call 75; refine (c_within _ _ _ _).mono ?_; rintro e w' ⟨rfl, rfl⟩)
  go_ret
  exact ⟨rfl, rfl⟩
theorem c_isEvent (n : Int) (w : World) : Calls Tryd.prog 105 #[.int .i64 n] w fun e w' => e = .returned (.bool (inB n 0 3)) ∧ w = w' := by
  go_enter Tryd.func105, Tryd.ntmps105
  go_wp2_with (go_at_call 75; refine (c_within _ _ _ _).mono ?_; rintro e w' ⟨rfl, rfl⟩)
  go_ret
  exact ⟨rfl, rfl⟩
theorem c_isPlace (n : Int) (w : World) : Calls Tryd.prog 104 #[.int .i64 n] w fun e w' => e = .returned (.bool (inB n 0 79)) ∧ w = w' := by
  go_enter Tryd.func104, Tryd.ntmps104
  go_wp2_with (go_at_call 75; refine (c_within _ _ _ _).mono ?_; rintro e w' ⟨rfl, rfl⟩)
  go_ret
  exact ⟨rfl, rfl⟩
set_option maxHeartbeats 1000000 in
theorem c_ValidInstr (op arg : Int) (w : World) :
    Calls Tryd.prog 79 #[.agg #[.int .i64 op, .int .i64 arg]] w fun e w' => e = .returned (.bool (validI (op, arg))) ∧ Below w.heap.size w w' := by
  rcases op_cases op with h | h
  · rcases h with rfl | rfl | rfl | rfl | rfl | rfl | rfl | rfl | rfl | rfl | rfl | rfl
    all_goals
      go_enter Tryd.func79, Tryd.ntmps79
      go_wp2_with (first | (go_at_call 102; refine (c_isCoeff _ _).mono ?_; rintro e w' ⟨rfl, rfl⟩) | (go_at_call 103; refine (c_isVar _ _).mono ?_; rintro e w' ⟨rfl, rfl⟩) | (go_at_call 104; refine (c_isPlace _ _).mono ?_; rintro e w' ⟨rfl, rfl⟩) | (go_at_call 105; refine (c_isEvent _ _).mono ?_; rintro e w' ⟨rfl, rfl⟩))
      go_ret
      exact ⟨ret_bool (by simp [validI]), (Below.refl _ _).alloc (Nat.le_refl _) _⟩
  · have h0 := ne_out h (show (0 : Int) ≤ 0 by omega) (by omega)
    have h1 := ne_out h (show (0 : Int) ≤ 1 by omega) (by omega)
    have h2 := ne_out h (show (0 : Int) ≤ 2 by omega) (by omega)
    have h3 := ne_out h (show (0 : Int) ≤ 3 by omega) (by omega)
    have h4 := ne_out h (show (0 : Int) ≤ 4 by omega) (by omega)
    have h5 := ne_out h (show (0 : Int) ≤ 5 by omega) (by omega)
    have h6 := ne_out h (show (0 : Int) ≤ 6 by omega) (by omega)
    have h7 := ne_out h (show (0 : Int) ≤ 7 by omega) (by omega)
    have h8 := ne_out h (show (0 : Int) ≤ 8 by omega) (by omega)
    have h9 := ne_out h (show (0 : Int) ≤ 9 by omega) (by omega)
    have h10 := ne_out h (show (0 : Int) ≤ 10 by omega) (by omega)
    have h11 := ne_out h (show (0 : Int) ≤ 11 by omega) (by omega)
    have HF := hid (validI_out (arg := arg) h)
    clear h
    go_enter Tryd.func79, Tryd.ntmps79
    go_wp2
    go_ret
    exact ⟨ret_bool HF.out.symm, (Below.refl _ _).alloc (Nat.le_refl _) _⟩
theorem c7_l02Number (n : Int) (w : World) :
    Calls Tryd.prog 100 #[.int .i64 n] w fun e w' => e = .returned (.bool (inB n (-1000000) 1000000)) ∧ w = w' := by
  go_enter Tryd.func100, Tryd.ntmps100
  go_wp2_with (go_at_call 39; refine (c_l00In _ _ _ _).mono ?_; rintro e w' ⟨rfl, rfl⟩)
  go_ret
  exact ⟨rfl, rfl⟩
set_option maxHeartbeats 1000000 in
theorem c_l07Instr (op arg : Int) (w : World) :
    Calls Tryd.prog 68 #[.agg #[.int .i64 op, .int .i64 arg]] w fun e w' => e = .returned (.bool (validI (op, arg))) ∧ Below w.heap.size w w' := by
  rcases op_cases op with h | h
  · rcases h with rfl | rfl | rfl | rfl | rfl | rfl | rfl | rfl | rfl | rfl | rfl | rfl
    all_goals
      go_enter Tryd.func68, Tryd.ntmps68
      go_wp2_with (first | (go_at_call 100; refine (c7_l02Number _ _).mono ?_; rintro e w' ⟨rfl, rfl⟩) | (go_at_call 39; refine (c_l00In _ _ _ _).mono ?_; rintro e w' ⟨rfl, rfl⟩))
      go_ret
      exact ⟨ret_bool (by simp [validI]), (Below.refl _ _).alloc (Nat.le_refl _) _⟩
  · have h0 := ne_out h (show (0 : Int) ≤ 0 by omega) (by omega)
    have h1 := ne_out h (show (0 : Int) ≤ 1 by omega) (by omega)
    have h2 := ne_out h (show (0 : Int) ≤ 2 by omega) (by omega)
    have h3 := ne_out h (show (0 : Int) ≤ 3 by omega) (by omega)
    have h4 := ne_out h (show (0 : Int) ≤ 4 by omega) (by omega)
    have h5 := ne_out h (show (0 : Int) ≤ 5 by omega) (by omega)
    have h6 := ne_out h (show (0 : Int) ≤ 6 by omega) (by omega)
    have h7 := ne_out h (show (0 : Int) ≤ 7 by omega) (by omega)
    have h8 := ne_out h (show (0 : Int) ≤ 8 by omega) (by omega)
    have h9 := ne_out h (show (0 : Int) ≤ 9 by omega) (by omega)
    have h10 := ne_out h (show (0 : Int) ≤ 10 by omega) (by omega)
    have h11 := ne_out h (show (0 : Int) ≤ 11 by omega) (by omega)
    have HF := hid (validI_out (arg := arg) h)
    clear h
    go_enter Tryd.func68, Tryd.ntmps68
    go_wp2
    go_ret
    exact ⟨ret_bool HF.out.symm, (Below.refl _ _).alloc (Nat.le_refl _) _⟩
theorem c_toInstr (op arg : Int) (w : World) :
    Calls Tryd.prog 44 #[.agg #[.int .i64 op, .int .i64 arg]] w fun e w' => e = .returned (.agg #[.int .i64 op, .int .i64 arg]) ∧ Below w.heap.size w w' := by
  go_enter Tryd.func44, Tryd.ntmps44
  go_wp2
  refine bodyPost_ret (v := .agg #[.int .i64 op, .int .i64 arg]) (by simp [results, Tryd.results44, go_sem]) rfl ⟨rfl, ?_⟩
  repeat' (first | exact Below.refl _ _ | refine Below.setCell ?_ ?_ _ | refine Below.alloc ?_ ?_ _)
  all_goals (simp [World.setCell]; try omega)
end Go.Proofs.YtcmopmapdomneaaDoor
end
