/- What the walks of the laws carry along: readings in intervals of blocks. No program in sight. -/
import Derived.Test.YtkckhnpdodbffaaUni
import Derived.Test.YtkckhnpdodbffaaMark
namespace Go.Proofs.Ytkckhnpdodbffaa
open Go.RowKit
variable {α : Type} {C : Codec α}
theorem SlRd.mk {lo hi B : Nat} {w : World} {a : Option Addr} {p : Nat} {xs : List α} (h : SlRd C (Fresh B w) w a p xs) (hlo : lo ≤ B) (hhi : w.heap.size ≤ hi) : SlRd C (fun b => Btw lo hi b ∧ Thawed w b) w a p xs :=
  h.keep fun _ hb hl => ⟨⟨⟨Nat.le_trans hlo hb.1, Nat.lt_of_lt_of_le hl hhi⟩, hb.2⟩, rfl⟩
theorem thaw_below {S : Nat → Prop} {w w' : World} (h : ∀ b, S b → Thawed w b) (hb : Below w.heap.size w w') : ∀ b, S b → Thawed w' b := fun b hs => by
  have ht := h b hs
  obtain ⟨cs, e, he⟩ := ht
  exact Thawed.keep ⟨cs, e, he⟩ (hb.block b (Array.getElem?_eq_some_iff.1 he).1)
theorem thaw_drew {S : Nat → Prop} {w : World} (h : ∀ b, S b → Thawed w b) : ∀ b, S b → Thawed w.drew b := h
theorem SlRd.sep {lo hi lo' hi' : Nat} {P P' : Nat → Prop} {w w' : World} {a : Option Addr} {p : Nat} {xs : List α} (h : SlRd C (fun b => Btw lo hi b ∧ P b) w a p xs) (t : Turned (fun b => Btw lo' hi' b ∧ P' b) w w') (hd : hi ≤ lo' ∨ hi' ≤ lo) : SlRd C (fun b => Btw lo hi b ∧ P b) w' a p xs :=
  h.keep fun b hb hl => ⟨hb, t.block b hl fun hs => by have h1 := hb.1.1; have h2 := hb.1.2; have h3 := hs.1.1; have h4 := hs.1.2; omega⟩
theorem cell_sep {S : Nat → Prop} {w w' : World} {b o : Nat} {v : Value} (t : Turned S w w') (hl : b < w.heap.size) (hn : ¬ S b) (h : w.cell? ⟨b, o, none⟩ = some v) : w'.cell? ⟨b, o, none⟩ = some v :=
  (World.cell?_of_block (w := w) (a := ⟨b, o, none⟩) (t.block b hl hn)).trans h
theorem u_markInt64S {S : Nat → Prop} {a : Option Addr} {p : Nat} {zs : List Int} {m : Int} {w : World} (h : SlRd cInt S w a p zs) (hS : ∀ b, S b → Thawed w b) (hm : 0 ≤ m) (hm2 : m + zs.length ≤ 4611686018427387904) :
    Calls Try.prog 12 #[.slice a zs.length p, .int .i64 m] w fun e w' => e = .returned (.int .i64 (m + zs.length)) ∧ Turned S w w' := (c_markInt64S _ _ _ _ _ _ h rfl hS hm hm2).mono fun _ _ ⟨he, _, ht⟩ => ⟨he, ht⟩
theorem u_markTermS {S : Nat → Prop} {a : Option Addr} {p : Nat} {ts : List Term} {m : Int} {w : World} (h : SlRd cTerm S w a p ts) (hS : ∀ b, S b → Thawed w b) (hm : 0 ≤ m) (hm2 : m + szTs ts ≤ 4611686018427387904) :
    Calls Try.prog 11 #[.slice a ts.length p, .int .i64 m] w fun e w' => e = .returned (.int .i64 (m + szTs ts)) ∧ Turned S w w' := c_markTermS _ _ _ _ _ h hS hm hm2
end Go.Proofs.Ytkckhnpdodbffaa
