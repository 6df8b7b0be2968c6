/- Many elements more at a slice of one's own; slices made of a literal. No program in sight. -/
import Derived.Test.YtkckhnpdodbffaaApp
import Derived.Laws.OwnMore
import Derived.Lib.SliceRun
namespace Go.Proofs.Ytkckhnpdodbffaa
open Go.RowKit

/-- What a codec reads does not hang on the world. -/
def Flat {α : Type} (C : Codec α) : Prop := ∀ {T T' : Nat → Prop} {w w' : World} {cs : List Value} {d : α}, C.rd T w cs d → C.rd T' w' cs d
theorem flat_int : Flat cInt := fun h => h
theorem flat_bool : Flat cBool := fun h => h
theorem flat_str : Flat cStr := fun h => h
theorem flat_instr : Flat cInstr := fun h => by obtain ⟨c, d, rfl, h1, h2⟩ := h; exact ⟨c, d, rfl, h1, h2⟩
theorem addr_add (b o j : Nat) : (⟨b, o, none⟩ : Addr).add j = ⟨b, o + j, none⟩ := by
  unfold Addr.add; split
  · rename_i h; simp_all
  · rfl
theorem list_choose2 {α : Type} (p : Nat → α → Prop) (n : Nat) (h : ∀ i, i < n → ∃ a, p i a) : ∃ l : List α, l.length = n ∧ ∀ i a, l[i]? = some a → p i a := list_choose n h
/-- The cells of a slice, one behind the other. -/
theorem SlRd.cells_all {α : Type} {C : Codec α} {T : Nat → Prop} {w : World} {a : Option Addr} {cap : Nat} {bs : List α} (h : SlRd C T w a cap bs) (hC : 0 < C.n) :
    ∃ news : List Value, news.length = bs.length * C.n ∧ (∀ x, a = some x → ∀ (j : Nat) u, news[j]? = some u → w.cell? (x.add j) = some u) ∧ (∀ u ∈ news, u.oneCell' = true) ∧
      ∀ (i : Nat) d, bs[i]? = some d → ∃ cs, C.rd T w cs d ∧ ∀ (j : Nat) u, cs[j]? = some u → news[i * C.n + j]? = some u := by
  obtain ⟨h1, h2, h3, h4⟩ := h
  cases a with
  | none =>
    have h0 := h3 rfl
    obtain rfl := List.eq_nil_of_length_eq_zero (show bs.length = 0 by omega)
    exact ⟨[], by simp, by simp, by simp, by simp⟩
  | some x =>
    obtain ⟨l, hl, hp⟩ := list_choose2 (fun i (u : Value) => w.cell? ⟨x.block, x.off + i, none⟩ = some u ∧ u.oneCell' = true) (bs.length * C.n) fun i hi => by
      have hdiv : i / C.n < bs.length := by rw [Nat.div_lt_iff_lt_mul hC]; exact hi
      obtain ⟨_, cs, hr, hc⟩ := h4 x rfl (i / C.n) bs[i / C.n] (by simp [hdiv])
      have hm : i % C.n < cs.length := by rw [C.len hr]; exact Nat.mod_lt _ hC
      have e : x.off + i / C.n * C.n + i % C.n = x.off + i := by
        have := Nat.div_add_mod i C.n
        rw [Nat.mul_comm] at this; omega
      have h9 := hc (i % C.n) cs[i % C.n] (by simp [hm])
      rw [e] at h9
      exact ⟨cs[i % C.n], h9, C.one hr _ (List.getElem_mem hm)⟩
    refine ⟨l, hl, ?_, fun u hu => ?_, fun i d hi => ?_⟩
    · rintro y ⟨⟩ j u hj
      have hb : 0 < bs.length := by
        have h8 := (List.getElem?_eq_some_iff.1 hj).1
        rw [hl] at h8
        exact Nat.pos_of_mul_pos_right (Nat.lt_of_le_of_lt (Nat.zero_le _) h8) |> fun h => by
          rcases Nat.eq_zero_or_pos bs.length with h0 | h0
          · rw [h0] at h8; omega
          · exact h0
      obtain ⟨⟨hs, _⟩, _⟩ := h4 x rfl 0 bs[0] (by simp)
      obtain ⟨b, o, sp⟩ := x
      simp only at hs
      subst hs
      rw [addr_add]
      exact (hp j u hj).1
    · obtain ⟨i, hi⟩ := List.getElem?_of_mem hu
      exact (hp i u hi).2
    · obtain ⟨_, cs, hr, hc⟩ := h4 x rfl i d hi
      refine ⟨cs, hr, fun j u hj => ?_⟩
      have hil := (List.getElem?_eq_some_iff.1 hi).1
      have hjl := (List.getElem?_eq_some_iff.1 hj).1
      rw [C.len hr] at hjl
      have hlt : i * C.n + j < l.length := by
        rw [hl]
        have : (i + 1) * C.n ≤ bs.length * C.n := Nat.mul_le_mul_right _ hil
        rw [Nat.add_mul] at this; omega
      have h8 := (hp (i * C.n + j) l[i * C.n + j] (by simp [hlt])).1
      have h9 := hc j u hj
      rw [Nat.add_assoc] at h9
      rw [h9] at h8
      rw [List.getElem?_eq_getElem hlt, ← h8]
/-- A store of what is there already. -/
theorem setCell_same {w : World} {b o : Nat} {u : Value} (h : w.cell? ⟨b, o, none⟩ = some u) : w.setCell ⟨b, o, none⟩ u = w := by
  obtain ⟨heap, tape, drawn, os, output⟩ := w
  unfold World.cell? at h
  simp only [World.setCell, World.mk.injEq, and_true]
  apply Array.ext_getElem?
  intro i
  rw [Array.getElem?_modify]
  split
  · rename_i hb
    subst hb
    simp only at h ⊢
    cases hh : heap[b]? with
    | none => rfl
    | some ob =>
      rw [hh] at h
      cases ob with
      | cells c el fr =>
        simp only [Option.isSome_none, Bool.false_eq_true, if_false] at h
        simp only [Option.map_some, Option.isSome_none, Bool.false_eq_true, if_false, Option.some.injEq, Obj.cells.injEq, and_true]
        apply Array.ext_getElem?
        intro j
        rw [Array.getElem?_setIfInBounds]
        split
        · rename_i hj
          subst hj
          split
          · exact h.symm
          · rename_i hge; rw [Array.getElem?_eq_none (by omega)]
        · rfl
      | _ => simp at h
  · rfl
/-- The second number of an instruction of one's own. -/
theorem own_set_arg {S : Nat → Prop} {base : Nat} {w : World} {e : TypeId} {as : List Instr} {g cap n : Nat} (h : OwnSl cInstr S w base e (.slice (some ⟨g, 0, none⟩) n cap) as) (hn : as.length = n) (k : Nat) (hk : k < n) (x y z : Int) (hx : as[k]? = some (x, y)) (hz : I64 z) :
    OwnSl cInstr S (w.setCell ⟨g, k * 2 + 1, none⟩ (.int .i64 z)) base e (.slice (some ⟨g, 0, none⟩) n cap) (as.set k (x, z)) ∧ w.grownBy (w.setCell ⟨g, k * 2 + 1, none⟩ (.int .i64 z)) (some g) := by
  obtain ⟨x', y', h1, hx', hy', hc, hc', _⟩ := own_at_instr h hn k hk
  rw [hx] at h1
  cases h1
  have := own_set_instr h hn k hk x z hx' hz
  rw [setCell_same hc] at this
  exact this
variable {α : Type} {C : Codec α} {S : Nat → Prop} {base : Nat} {e : TypeId} {v : Value} {as : List α}
/-- append(v, s...), s a slice of flat elements. -/
theorem run_app_all {P : Program} {t : TypeId} {z : Value} {bytes : Nat} (hT : SlT P t e z C.n bytes) (hf : Flat C) {T : Nat → Prop} {w : World} {a : Option Addr} {cap : Nat} {bs : List α} (hsrc : SlRd C T w a cap bs) (hown : OwnSl C S w base e v as)
    (hS : ∀ b, S b → b < w.heap.size) (hn : as.length + bs.length ≤ 1099511627776) (hbase : base ≤ w.heap.size) (ty : TypeId) :
    ∃ v' w', (Builtin.append_ #[t, t] ty #[v, .slice a bs.length cap]).run P w = .ok v' w' ∧ OwnSl C S w' base e v' (as ++ bs) ∧ w.grownBy w' v.ownBlock := by
  have hC : 0 < C.n := hT.hs
  obtain ⟨news, g1, g2, g3, g4⟩ := hsrc.cells_all hC
  obtain ⟨xs, hr, hel⟩ := hown
  obtain ⟨v', w', h1, h2, h3, h4⟩ := run_app (ty := ty) hT hr a bs.length cap news (fun hz => by have h7 := hsrc.2.2.1 hz; have h8 := hsrc.1; exact ⟨by omega, h7⟩) g1 g2 g3 hn hbase
  refine ⟨v', w', h1, own_grow (as := as) bs hS hel (fun i x hi => ?_) hr.1 h2 h3 h4, h3⟩
  obtain ⟨cs, r, hc⟩ := g4 i x hi
  exact ⟨cs, hf r, hc⟩
theorem app_all {P : Program} {ops : Array Oper} {rest : List Oper} {o : Oper} {a : Act} {Q : Exit → Act → World → Prop} (hgd : o.guard = none) (s x : Operand) (t : TypeId)
    (ho : o.op = .call { callee := .builtin .append, args := #[s, x], argTypes := #[t, t] }) {z : Value} {bytes : Nat} (hT : SlT P t e z C.n bytes) (hf : Flat C) {T : Nat → Prop} {w : World} {ad : Option Addr} {cap : Nat} {bs : List α}
    (hs : a.eval s = v) (hx : a.eval x = .slice ad bs.length cap) (hown : OwnSl C S w base e v as) (hsrc : SlRd C T w ad cap bs) (hS : ∀ b, S b → b < w.heap.size) (hn : as.length + bs.length ≤ 1099511627776) (hbase : base ≤ w.heap.size)
    (h : ∀ v' w', OwnSl C S w' base e v' (as ++ bs) → Below base w w' → wpList P ops Q rest (a.put o.dst v') w') : wpList P ops Q (o :: rest) a w := by
  obtain ⟨v', w', h1, h2, h3⟩ := run_app_all hT hf hsrc hown hS hn hbase o.type
  exact wpList_app hgd s x t ho hs hx (R := fun v' w' => OwnSl C S w' base e v' (as ++ bs) ∧ Below base w w') ⟨v', w', h1, h2, bel_own hown h3 (Nat.le_refl _) hbase⟩ fun v' w' hr => h v' w' hr.1 hr.2
theorem step_all {P : Program} {ops : Array Oper} {o : Oper} {a : Act} {Q : Exit → Act → World → Prop} {K : Act → World → Prop} {E : Prop} (hgd : o.guard = none) (s x : Operand) (t : TypeId)
    (ho : o.op = .call { callee := .builtin .append, args := #[s, x], argTypes := #[t, t] }) {z : Value} {bytes : Nat} (hT : SlT P t e z C.n bytes) (hf : Flat C) {T : Nat → Prop} {w : World} {ad : Option Addr} {cap : Nat} {bs : List α}
    (hs : a.eval s = v) (hx : a.eval x = .slice ad bs.length cap) (hown : OwnSl C S w base e v as) (hsrc : SlRd C T w ad cap bs) (hS : ∀ b, S b → b < w.heap.size) (hn : as.length + bs.length ≤ 1099511627776) (hbase : base ≤ w.heap.size)
    (h : ∀ v' w', OwnSl C S w' base e v' (as ++ bs) → Below base w w' → K (a.put o.dst v') w') : if Region.wanted o (yielded ops a.tmps) = true then Oper.wp P o a w K Q else E := by
  obtain ⟨v', w', h1, h2, h3⟩ := run_app_all hT hf hsrc hown hS hn hbase o.type
  exact stepR_app hgd s x t ho hs hx (R := fun v' w' => OwnSl C S w' base e v' (as ++ bs) ∧ Below base w w') ⟨v', w', h1, h2, bel_own hown h3 (Nat.le_refl _) hbase⟩ fun v' w' hr => h v' w' hr.1 hr.2
theorem own_base {base' : Nat} {w : World} (h : OwnSl C S w base e v as) (hb : base' ≤ base) : OwnSl C S w base' e v as := by
  obtain ⟨xs, hr, hel⟩ := h
  refine ⟨xs, ⟨hr.1, ?_⟩, hel⟩
  rcases hr.2 with h0 | ⟨g, cap, cur, h1, h2, h3⟩
  · exact .inl h0
  · exact .inr ⟨g, cap, cur, h1, Nat.le_trans hb h2, h3⟩
/-- A slice of one written element. -/
theorem own_lit1 (C : Codec α) (S : Nat → Prop) (w : World) (base : Nat) (e : TypeId) (hb : base ≤ w.heap.size) {cs : Array Value} (d : α) (hd : C.rd (fun b => S b ∧ b ≠ w.heap.size) (w.alloc (.cells cs e)) cs.toList d) : OwnSl C S (w.alloc (.cells cs e)) base e (.slice (some ⟨w.heap.size, 0, none⟩) 1 1) [d] := by
  have hl := C.len hd
  refine ⟨cs.toList, World.ownsRow_lit w cs 1 hb (by decide) (by simpa using hl), fun i x hi => ?_⟩
  match i, hi with
  | 0, hi =>
    simp at hi; subst hi
    exact ⟨cs.toList, C.keep (fun b hb hl => ⟨⟨hb.1, by simpa [Value.ownBlock] using hb.2⟩, rfl⟩) hd, fun j u hj => by simpa using hj⟩
end Go.Proofs.Ytkckhnpdodbffaa
