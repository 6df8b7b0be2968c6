/- Worlds in which some numbers have been replaced by numbers: what is read keeps its form. No program in sight. -/
import Derived.Test.YtkckhnpdodbffaaOwn
namespace Go.Proofs.Ytkckhnpdodbffaa
open Go.RowKit

/-- The same cell, or a number in place of a number. -/
def kin (v v' : Value) : Prop := v' = v ∨ (∃ n n', v = .int .i64 n ∧ v' = .int .i64 n' ∧ I64 n') ∨ ∃ s s', v = .string s ∧ v' = .string s'
theorem kin.refl (v : Value) : kin v v := .inl rfl
theorem kin.trans {a b c : Value} (h : kin a b) (h' : kin b c) : kin a c := by
  rcases h with rfl | ⟨n, n', rfl, rfl, hn⟩ | ⟨s, s', rfl, rfl⟩
  · exact h'
  · rcases h' with rfl | ⟨m, m', h1, rfl, hm⟩ | ⟨m, m', h1, rfl⟩
    · exact .inr (.inl ⟨n, n', rfl, rfl, hn⟩)
    · exact .inr (.inl ⟨n, m', rfl, rfl, hm⟩)
    · cases h1
  · rcases h' with rfl | ⟨m, m', h1, rfl, hm⟩ | ⟨m, m', h1, rfl⟩
    · exact .inr (.inr ⟨s, s', rfl, rfl⟩)
    · cases h1
    · exact .inr (.inr ⟨s, m', rfl, rfl⟩)
/-- Within the blocks S numbers have been replaced by numbers; all else stands, and new blocks may be there. -/
structure Turned (S : Nat → Prop) (w w' : World) : Prop where
  os : w'.os = w.os
  tape : w'.tape = w.tape
  output : w'.output = w.output
  size : w.heap.size ≤ w'.heap.size
  block : ∀ b, b < w.heap.size → ¬ S b → w'.heap[b]? = w.heap[b]?
  cell : ∀ (b o : Nat) v, w.cell? ⟨b, o, none⟩ = some v → ∃ v', w'.cell? ⟨b, o, none⟩ = some v' ∧ kin v v'
  thaw : ∀ b, Thawed w b → Thawed w' b
theorem Turned.refl (S : Nat → Prop) (w : World) : Turned S w w := ⟨rfl, rfl, rfl, Nat.le_refl _, fun _ _ _ => rfl, fun _ _ v h => ⟨v, h, kin.refl v⟩, fun _ h => h⟩
theorem Turned.trans {S : Nat → Prop} {a b c : World} (h : Turned S a b) (k : Turned S b c) : Turned S a c :=
  ⟨k.os.trans h.os, k.tape.trans h.tape, k.output.trans h.output, Nat.le_trans h.size k.size, fun i hi hs => (k.block i (Nat.lt_of_lt_of_le hi h.size) hs).trans (h.block i hi hs),
    fun b o v hv => by
      obtain ⟨v1, h1, h2⟩ := h.cell b o v hv
      obtain ⟨v2, h3, h4⟩ := k.cell b o v1 h1
      exact ⟨v2, h3, h2.trans h4⟩, fun b hb => k.thaw b (h.thaw b hb)⟩
theorem Turned.drew {S : Nat → Prop} {a w : World} (h : Turned S a w) : Turned S a w.drew := ⟨h.os, h.tape, h.output, h.size, h.block, h.cell, h.thaw⟩
theorem Turned.of_below {S : Nat → Prop} {w w' : World} (h : Below w.heap.size w w') : Turned S w w' :=
  ⟨h.os, h.tape, h.output, h.size, fun b hb _ => h.block b hb, fun b o v hv => ⟨v, (h.cell (p := ⟨b, o, none⟩) (World.block_lt_of_cell? w ⟨b, o, none⟩ hv)).trans hv, kin.refl v⟩,
    fun b hb => hb.keep (h.block b (by obtain ⟨cs, e, hb⟩ := hb; exact (Array.getElem?_eq_some_iff.1 hb).1))⟩
theorem Turned.alloc {S : Nat → Prop} {a w : World} (h : Turned S a w) (o : Obj) : Turned S a (w.alloc o) := h.trans (.of_below ((Below.refl _ _).alloc (Nat.le_refl _) o))
theorem Turned.below {S : Nat → Prop} {a w w' : World} (h : Turned S a w) (hb : Below w.heap.size w w') : Turned S a w' := h.trans (.of_below hb)
theorem Turned.set {S : Nat → Prop} {w : World} {b o : Nat} {n n' : Int} (hb : S b) (hc : w.cell? ⟨b, o, none⟩ = some (.int .i64 n)) (hn : I64 n') : Turned S w (w.setCell ⟨b, o, none⟩ (.int .i64 n')) := by
  refine ⟨rfl, rfl, rfl, by simp [World.setCell], fun k _ hs => Below.heap_setCell _ _ _ _ (by rintro rfl; exact hs hb), fun b' o' v hv => ?_, fun _ h => thawed_setCell h _ _⟩
  by_cases he : b' = b ∧ o' = o
  · obtain ⟨rfl, rfl⟩ := he
    rw [hc] at hv
    cases hv
    exact ⟨.int .i64 n', by simp [go_sem, hc], .inr (.inl ⟨n, n', rfl, rfl, hn⟩)⟩
  · refine ⟨v, ?_, kin.refl v⟩
    by_cases hbb : b' = b
    · subst hbb
      have hne : ¬ o' = o := fun e => he ⟨rfl, e⟩
      simp [go_sem, hv]
    · exact cell_set_ne hbb hv
theorem Turned.setStr {S : Nat → Prop} {w : World} {b o : Nat} {s s' : ByteArray} (hb : S b) (hc : w.cell? ⟨b, o, none⟩ = some (.string s)) : Turned S w (w.setCell ⟨b, o, none⟩ (.string s')) := by
  refine ⟨rfl, rfl, rfl, by simp [World.setCell], fun k _ hs => Below.heap_setCell _ _ _ _ (by rintro rfl; exact hs hb), fun b' o' v hv => ?_, fun _ h => thawed_setCell h _ _⟩
  by_cases he : b' = b ∧ o' = o
  · obtain ⟨rfl, rfl⟩ := he
    rw [hc] at hv
    cases hv
    exact ⟨.string s', by simp [go_sem, hc], .inr (.inr ⟨s, s', rfl, rfl⟩)⟩
  · refine ⟨v, ?_, kin.refl v⟩
    by_cases hbb : b' = b
    · subst hbb
      have hne : ¬ o' = o := fun e => he ⟨rfl, e⟩
      simp [go_sem, hv]
    · exact cell_set_ne hbb hv
/-- What lies outside the turned blocks stands. -/
theorem Turned.bel {S : Nat → Prop} {w w' : World} {B : Nat} (h : Turned S w w') (hB : B ≤ w.heap.size) (hS : ∀ b, S b → B ≤ b) : Below B w w' :=
  ⟨h.os, h.tape, h.output, h.size, fun k hk => h.block k (by omega) (fun hs => by have := hS k hs; omega)⟩
theorem SlRd.out_of {α : Type} {C : Codec α} {S T : Nat → Prop} {w w' : World} {a : Option Addr} {cap : Nat} {as : List α} (h : SlRd C T w a cap as) (t : Turned S w w') (hd : ∀ b, T b → b < w.heap.size → ¬ S b) : SlRd C T w' a cap as :=
  h.keep fun b hb hl => ⟨hb, t.block b hl (hd b hb hl)⟩
theorem SlRd.out_fresh {α : Type} {C : Codec α} {S : Nat → Prop} {B : Nat} {w w' : World} {a : Option Addr} {cap : Nat} {as : List α} (h : SlRd C (Fresh B w) w a cap as) (t : Turned S w w') (hd : ∀ b, B ≤ b → b < w.heap.size → ¬ S b) : SlRd C (Fresh B w') w' a cap as :=
  h.keep fun b hb hl => ⟨⟨hb.1, t.thaw b hb.2⟩, t.block b hl (hd b hb.1 hl)⟩

inductive F2 : List Value → List Value → Prop
  | nil : F2 [] []
  | cons {v v' : Value} {l l' : List Value} : kin v v' → F2 l l' → F2 (v :: l) (v' :: l')
/-- Codecs whose readings keep their form when numbers are replaced. -/
structure Norm {α : Type} (C : Codec α) where
  nf : α → α
  turn : ∀ {S T : Nat → Prop} {w w' : World} {cs cs' : List Value} {a : α}, Turned T w w' → C.rd S w cs a → F2 cs cs' → ∃ a', C.rd S w' cs' a' ∧ nf a' = nf a
theorem f2_one {v : Value} {cs' : List Value} (h : F2 [v] cs') : ∃ v', cs' = [v'] ∧ kin v v' := by
  cases h with
  | cons h1 h2 => cases h2; exact ⟨_, rfl, h1⟩
theorem kin_sl {a : Option Addr} {n cap : Nat} {v' : Value} (h : kin (.slice a n cap) v') : v' = .slice a n cap := by
  rcases h with h | ⟨n, n', h, _⟩ | ⟨n, n', h, _⟩
  · exact h
  · cases h
  · cases h
theorem f2_append {u v cs' : List Value} (h : F2 (u ++ v) cs') : ∃ p q, cs' = p ++ q ∧ F2 u p ∧ F2 v q := by
  induction u generalizing cs' with
  | nil => exact ⟨[], cs', rfl, .nil, h⟩
  | cons x u ih =>
    cases h with
    | cons h1 h2 =>
      obtain ⟨p, q, rfl, h3, h4⟩ := ih h2
      exact ⟨_ :: p, q, rfl, .cons h1 h3, h4⟩
def nInt : Norm cInt where
  nf := fun _ => 0
  turn := by
    rintro S T w w' cs cs' a ht ⟨rfl, ha⟩ hf
    obtain ⟨v', rfl, hk⟩ := f2_one hf
    rcases hk with rfl | ⟨n, n', h1, rfl, hn⟩ | ⟨n, n', h1, rfl⟩
    · exact ⟨a, ⟨rfl, ha⟩, rfl⟩
    · exact ⟨n', ⟨rfl, hn⟩, rfl⟩
    · cases h1
theorem cells_turn {T : Nat → Prop} {w w' : World} (ht : Turned T w w') (b : Nat) : ∀ (cs : List Value) (o : Nat), (∀ (j : Nat) u, cs[j]? = some u → w.cell? ⟨b, o + j, none⟩ = some u) → ∃ cs', F2 cs cs' ∧ ∀ (j : Nat) u, cs'[j]? = some u → w'.cell? ⟨b, o + j, none⟩ = some u
  | [], _, _ => ⟨[], .nil, by simp⟩
  | v :: cs, o, h => by
    obtain ⟨v', h1, h2⟩ := ht.cell b (o + 0) v (h 0 v rfl)
    obtain ⟨cs', h3, h4⟩ := cells_turn ht b cs (o + 1) fun j u hj => by rw [show o + 1 + j = o + (j + 1) by omega]; exact h (j + 1) u hj
    refine ⟨v' :: cs', .cons h2 h3, fun j u hj => ?_⟩
    cases j with
    | zero => simp at hj; subst hj; exact h1
    | succ j => rw [show o + (j + 1) = o + 1 + j by omega]; exact h4 j u hj
theorem SlRd.turned {α : Type} {C : Codec α} (N : Norm C) {S T : Nat → Prop} {w w' : World} {a : Option Addr} {cap : Nat} {as : List α} (h : SlRd C S w a cap as) (ht : Turned T w w') :
    ∃ as', SlRd C S w' a cap as' ∧ as'.map N.nf = as.map N.nf := by
  obtain ⟨h1, h2, h3, h4⟩ := h
  cases a with
  | none =>
    have h0 := h3 rfl
    obtain rfl := List.eq_nil_of_length_eq_zero (show as.length = 0 by omega)
    exact ⟨[], ⟨h1, h2, h3, by simp⟩, rfl⟩
  | some x =>
    obtain ⟨l, hl, hp⟩ := list_choose (p := fun i (d' : α) => (∃ d, as[i]? = some d ∧ N.nf d' = N.nf d) ∧ (x.spot = none ∧ S x.block ∧ x.block < w'.heap.size) ∧ ∃ cs, C.rd S w' cs d' ∧ ∀ (j : Nat) u, cs[j]? = some u → w'.cell? ⟨x.block, x.off + i * C.n + j, none⟩ = some u) as.length fun i hi => by
      obtain ⟨⟨h5, h6, h7⟩, cs, r, hc⟩ := h4 x rfl i as[i] (by simp [hi])
      obtain ⟨cs', hf, hc'⟩ := cells_turn ht x.block cs (x.off + i * C.n) hc
      obtain ⟨d', hr, hn⟩ := N.turn ht r hf
      exact ⟨d', ⟨as[i], by simp [hi], hn⟩, ⟨h5, h6, Nat.lt_of_lt_of_le h7 ht.size⟩, cs', hr, hc'⟩
    refine ⟨l, ⟨by omega, h2, by simp, ?_⟩, ?_⟩
    · rintro y ⟨⟩ i d hi
      exact (hp i d hi).2
    · apply List.ext_getElem?
      intro i
      simp only [List.getElem?_map]
      by_cases hi : i < l.length
      · obtain ⟨⟨d, hd, hn⟩, _⟩ := hp i l[i] (by simp [hi])
        rw [hd, List.getElem?_eq_getElem hi]; simp [hn]
      · rw [List.getElem?_eq_none (by omega), List.getElem?_eq_none (by omega)]
def nSl {α : Type} {C : Codec α} (N : Norm C) : Norm (cSl C) where
  nf := fun as => as.map N.nf
  turn := by
    rintro S T w w' cs cs' as ht ⟨a, cap, rfl, h⟩ hf
    obtain ⟨v', rfl, hk⟩ := f2_one hf
    obtain rfl := kin_sl hk
    obtain ⟨as', h1, h2⟩ := h.turned N ht
    refine ⟨as', ⟨a, cap, ?_, h1⟩, h2⟩
    have := congrArg List.length h2
    simp at this
    rw [this]
def nPair {α β : Type} {C : Codec α} {D : Codec β} (N : Norm C) (M : Norm D) : Norm (cPair C D) where
  nf := fun p => (N.nf p.1, M.nf p.2)
  turn := by
    rintro S T w w' cs cs' ⟨a, b⟩ ht ⟨c, d, rfl, h1, h2⟩ hf
    obtain ⟨p, q, rfl, h3, h4⟩ := f2_append hf
    obtain ⟨a', h5, h6⟩ := N.turn ht h1 h3
    obtain ⟨b', h7, h8⟩ := M.turn ht h2 h4
    exact ⟨(a', b'), ⟨p, q, rfl, h5, h7⟩, by simp [h6, h8]⟩
abbrev nInts : Norm cInts := nSl nInt
abbrev nTerm : Norm cTerm := nPair nInt nInts
abbrev nTerms : Norm cTerms := nSl nTerm
theorem map_len {α β : Type} {f : α → β} {as bs : List α} (h : as.map f = bs.map f) : as.length = bs.length := by simpa using congrArg List.length h
theorem map_at {α β : Type} {f : α → β} {as bs : List α} {i : Nat} {x y : α} (h : as.map f = bs.map f) (hx : as[i]? = some x) (hy : bs[i]? = some y) : f x = f y := by
  have := congrArg (·[i]?) h
  simpa [hx, hy] using this
/-- The blocks from one on, before another. -/
def Btw (B B' b : Nat) : Prop := B ≤ b ∧ b < B'
theorem SlRd.btw {α : Type} {C : Codec α} {B n : Nat} {w w' : World} {a : Option Addr} {cap : Nat} {as : List α} (h : SlRd C (Fresh B w) w a cap as) (hb : Below n w w') (hn : w.heap.size ≤ n) : SlRd C (fun b => Btw B w.heap.size b ∧ Thawed w' b) w' a cap as :=
  h.keep fun b hs hl => ⟨⟨⟨hs.1, hl⟩, hs.2.keep (hb.block b (by omega))⟩, hb.block b (by omega)⟩
end Go.Proofs.Ytkckhnpdodbffaa
