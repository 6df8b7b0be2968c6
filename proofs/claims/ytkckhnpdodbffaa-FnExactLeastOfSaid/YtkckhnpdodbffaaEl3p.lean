/- Three slices of one's own side by side, whose elements share what they lead to. No program in sight. -/
import Derived.Test.YtkckhnpdodbffaaElimP
import Derived.Test.YtkckhnpdodbffaaOwn
import Derived.Test.YtkckhnpdodbffaaApp
import Derived.Test.YtkckhnpdodbffaaHlp
namespace Go.Proofs.Ytkckhnpdodbffaa
open Go.RowKit

abbrev cRow : Codec (Term × List Int) := cPair cTerm cInts
/-- Three slices; T are the blocks that their elements lead to. -/
structure Rows3 {α : Type} (C : Codec α) (T : Nat → Prop) (w : World) (B : Nat) (e : TypeId) (rv nv sv : Value) (rs ns ss : List α) : Prop where
  lt : ∀ b, T b → b < w.heap.size
  hr : OwnSl C T w B e rv rs
  hn : OwnSl C T w B e nv ns
  hs : OwnSl C T w B e sv ss
  tr : ∀ k, rv.ownBlock = some k → ¬ T k
  tn : ∀ k, nv.ownBlock = some k → ¬ T k
  ts : ∀ k, sv.ownBlock = some k → ¬ T k
  rn : ∀ k, rv.ownBlock = some k → nv.ownBlock ≠ some k
  rz : ∀ k, rv.ownBlock = some k → sv.ownBlock ≠ some k
  nz : ∀ k, nv.ownBlock = some k → sv.ownBlock ≠ some k
variable {α : Type} {C : Codec α} {T : Nat → Prop} {w : World} {B : Nat} {e : TypeId} {rv nv sv : Value} {rs ns ss : List α}
theorem Rows3.swap (h : Rows3 C T w B e rv nv sv rs ns ss) : Rows3 C T w B e rv sv nv rs ss ns :=
  ⟨h.lt, h.hr, h.hs, h.hn, h.tr, h.ts, h.tn, h.rz, h.rn, fun k hk hk' => h.nz k hk' hk⟩
theorem Rows3.turn (h : Rows3 C T w B e rv nv sv rs ns ss) : Rows3 C T w B e nv rv sv ns rs ss :=
  ⟨h.lt, h.hn, h.hr, h.hs, h.tn, h.tr, h.ts, fun k hk hk' => h.rn k hk' hk, h.nz, h.rz⟩
theorem Rows3.more {w' : World} {F : Nat → Prop} (h : Rows3 C T w B e rv nv sv rs ns ss) (hb : Below w.heap.size w w') (hF : ∀ b, F b → w.heap.size ≤ b ∧ b < w'.heap.size) : Rows3 C (fun b => T b ∨ F b) w' B e rv nv sv rs ns ss := by
  have hz := hb.size
  have key : ∀ {v : Value} {us : List α}, OwnSl C T w B e v us → OwnSl C (fun b => T b ∨ F b) w' B e v us := fun g => own_keep g (fun b hs _ => .inl hs) fun b hl _ => hb.block b hl
  have kt : ∀ {v : Value} {us : List α}, OwnSl C T w B e v us → (∀ k, v.ownBlock = some k → ¬ T k) → ∀ k, v.ownBlock = some k → ¬ (T k ∨ F k) := fun g ht k hk hh => by
    have := (own_lt g k hk).2
    rcases hh with hh | hh
    · exact ht k hk hh
    · have := (hF k hh).1; omega
  refine ⟨fun b hb' => ?_, key h.hr, key h.hn, key h.hs, kt h.hr h.tr, kt h.hn h.tn, kt h.hs h.ts, h.rn, h.rz, h.nz⟩
  rcases hb' with hb' | hb'
  · exact Nat.lt_of_lt_of_le (h.lt b hb') hz
  · exact (hF b hb').2
theorem Rows3.below {w' : World} (h : Rows3 C T w B e rv nv sv rs ns ss) (hb : Below w.heap.size w w') : Rows3 C T w' B e rv nv sv rs ns ss :=
  ⟨fun b hb' => Nat.lt_of_lt_of_le (h.lt b hb') hb.size, own_below h.hr (Nat.le_refl _) hb, own_below h.hn (Nat.le_refl _) hb, own_below h.hs (Nat.le_refl _) hb, h.tr, h.tn, h.ts, h.rn, h.rz, h.nz⟩
/-- The next stage begins. -/
theorem Rows3.next (h : Rows3 C T w B e rv nv sv rs ns ss) : Rows3 C T w B e nv (.slice none 0 0) sv ns [] ss :=
  ⟨h.lt, h.hn, own_nil _ _ _ _ _, h.hs, h.tn, fun k hk => by simp [Value.ownBlock] at hk, h.ts, fun k _ hk => by simp [Value.ownBlock] at hk, h.nz, fun k hk => by simp [Value.ownBlock] at hk⟩
theorem Rows3.begin (T : Nat → Prop) (hT : ∀ b, T b → b < w.heap.size) : Rows3 C T w B e (.slice none 0 0) (.slice none 0 0) (.slice none 0 0) [] [] [] :=
  ⟨hT, own_nil _ _ _ _ _, own_nil _ _ _ _ _, own_nil _ _ _ _ _, fun k hk => by simp [Value.ownBlock] at hk, fun k hk => by simp [Value.ownBlock] at hk, fun k hk => by simp [Value.ownBlock] at hk, fun k hk => by simp [Value.ownBlock] at hk, fun k hk => by simp [Value.ownBlock] at hk, fun k hk => by simp [Value.ownBlock] at hk⟩
/-- The second slice has grown. -/
theorem Rows3.grown {w' : World} {v' : Value} {xs : List α} (h : Rows3 C T w B e rv nv sv rs ns ss) (ho : OwnSl C T w' B e v' xs) (hg : w.grownBy w' nv.ownBlock) (hv : ∀ k, v'.ownBlock = some k → nv.ownBlock = some k ∨ w.heap.size ≤ k) : Rows3 C T w' B e rv v' sv rs xs ss := by
  have key : ∀ {v : Value} {us : List α}, OwnSl C T w B e v us → (∀ k, v.ownBlock = some k → nv.ownBlock ≠ some k) → OwnSl C T w' B e v us := fun g hne => own_keep g (fun b hs _ => hs) fun b hl hs => hg.block b hl fun e => by
    rcases hs with hs | hs
    · exact h.tn b e.symm hs
    · exact hne b hs.symm e.symm
  refine ⟨fun b hb => Nat.lt_of_lt_of_le (h.lt b hb) hg.size, key h.hr h.rn, ho, key h.hs fun k hk hk' => h.nz k hk' hk, h.tr, fun k hk hT => ?_, h.ts, fun k hk hk' => ?_, h.rz, fun k hk hk' => ?_⟩
  · rcases hv k hk with h1 | h1
    · exact h.tn k h1 hT
    · have := h.lt k hT; omega
  · rcases hv k hk' with h1 | h1
    · exact h.rn k hk h1
    · have := (own_lt h.hr k hk).2; omega
  · rcases hv k hk with h1 | h1
    · exact h.nz k h1 hk'
    · have := (own_lt h.hs k hk').2; omega
/-- append of one element, with all that it leaves. -/
theorem app_one3 {P : Program} {t : TypeId} {z : Value} {bytes : Nat} (hT : SlT P t e z C.n bytes) (h : Rows3 C T w B e rv nv sv rs ns ss) {g c : Nat} {cs : Array Value} {e' : TypeId} {fr : Nat × Nat}
    (hblk : w.heap[g]? = some (.cells cs e' fr)) (d : α) (hd : C.rd T w cs.toList d) (hn : ns.length + 1 ≤ 1099511627776) (hbase : B ≤ w.heap.size) (ty : TypeId) :
    ∃ v' w', (Builtin.append_ #[t, t] ty #[nv, .slice (some ⟨g, 0, none⟩) 1 c]).run P w = .ok v' w' ∧ Rows3 C T w' B e rv v' sv rs (ns ++ [d]) ss ∧ Below B w w' ∧ ∀ b, T b → w'.heap[b]? = w.heap[b]? := by
  obtain ⟨xs, hr, hel⟩ := h.hn
  obtain ⟨v', w', h1, h2, h3, h4⟩ := run_app (ty := ty) hT hr (some ⟨g, 0, none⟩) 1 c cs.toList (by simp) (by rw [C.len hd]; simp)
    (by
      rintro x hx j u hj
      cases hx
      have hadd : (⟨g, 0, none⟩ : Addr).add j = ⟨g, j, none⟩ := by unfold Addr.add; split <;> simp_all
      rw [hadd, cell_of_row w g j cs e' fr hblk]; simpa using hj) (C.one hd) hn hbase
  refine ⟨v', w', h1, h.grown (own_grow [d] h.lt hel (fun i x hi => ?_) hr.1 (by simpa using h2) h3 h4) h3 h4, bel_own h.hn h3 (Nat.le_refl _) hbase, fun b hb => h3.block b (h.lt b hb) fun e => h.tn b e.symm hb⟩
  match i, hi with
  | 0, hi => simp at hi; subst hi; exact ⟨cs.toList, C.keep (fun b hb _ => ⟨⟨hb, fun e => h.tn b e.symm hb⟩, rfl⟩) hd, fun j u hj => by simpa using hj⟩
theorem app_rows {P : Program} {ops : Array Oper} {rest : List Oper} {o : Oper} {a : Act} {Q : Exit → Act → World → Prop} (hgd : o.guard = none) (s x : Operand) (t : TypeId)
    (ho : o.op = .call { callee := .builtin .append, args := #[s, x], argTypes := #[t, t] }) {z : Value} {bytes : Nat} (hT : SlT P t e z C.n bytes)
    {w0 : World} {cs : Array Value} {e' : TypeId} {c g : Nat} (hs : a.eval s = nv) (hx : a.eval x = .slice (some ⟨g, 0, none⟩) 1 c) (hg : g = w0.heap.size) (H : Rows3 C T w0 B e rv nv sv rs ns ss)
    (d : α) (hd : C.rd T w0 cs.toList d) (hn : ns.length + 1 ≤ 1099511627776) (hbase : B ≤ w0.heap.size)
    (h : ∀ v' w', Rows3 C T w' B e rv v' sv rs (ns ++ [d]) ss → Below B w0 w' → (∀ b, T b → w'.heap[b]? = w0.heap[b]?) → wpList P ops Q rest (a.put o.dst v') w') :
    wpList P ops Q (o :: rest) a (w0.alloc (.cells cs e')) := by
  subst hg
  have ha : Below w0.heap.size w0 (w0.alloc (.cells cs e')) := (Below.refl _ _).alloc (Nat.le_refl _) _
  have hb2 : B ≤ (w0.alloc (.cells cs e')).heap.size := by rw [World.size_alloc]; omega
  obtain ⟨v', w', h1, h2, h3, h4⟩ := app_one3 hT (H.below ha) (heap_new w0 _) d (c := c) (C.below (Nat.le_refl _) ha hd) hn hb2 o.type
  exact wpList_app hgd s x t ho hs hx (R := fun v' w' => Rows3 C T w' B e rv v' sv rs (ns ++ [d]) ss ∧ Below B w0 w' ∧ ∀ b, T b → w'.heap[b]? = w0.heap[b]?) ⟨v', w', h1, h2, (ha.mono hbase).trans h3, fun b hb => (h4 b hb).trans (ha.block b (H.lt b hb))⟩ fun v' w' hr => h v' w' hr.1 hr.2.1 hr.2.2
/-- An element of the first slice. -/
theorem Rows3.at (h : Rows3 C T w B e rv nv sv rs ns ss) (k : Nat) (hk : k < rs.length) :
    ∃ g cap d cs, rv = .slice (some ⟨g, 0, none⟩) rs.length cap ∧ rs[k]? = some d ∧ C.rd T w cs d ∧ g < w.heap.size ∧ (∀ (j : Nat) u, cs[j]? = some u → w.cell? ⟨g, k * C.n + j, none⟩ = some u) ∧ rs.length ≤ cap ∧ cap ≤ 9223372036854775807 := by
  obtain ⟨xs, hr, hel⟩ := id h.hr
  rcases hr.2 with ⟨_, h2⟩ | ⟨g, cap, cur, rfl, hbg, hg, hnc, hcm, hcs, htake⟩
  · omega
  · obtain ⟨d, cs, h1, h2, h3, _, h4, _⟩ := own_at h.hr rfl k hk
    exact ⟨g, cap, d, cs, rfl, h1, C.keep (fun b hs _ => ⟨hs.1, rfl⟩) h2, h3, h4, hnc, by unfold maxLen at hcm; simpa using hcm⟩
theorem Rows3.len (h : Rows3 C T w B e rv nv sv rs ns ss) : ∃ a cap, rv = .slice a rs.length cap := own_len h.hr
theorem Rows3.slice (h : Rows3 C T w B e rv nv sv rs ns ss) : ∃ a cap, rv = .slice a rs.length cap ∧ SlRd C (fun b => b < w.heap.size) w a cap rs := by
  obtain ⟨xs, hr, hel⟩ := h.hr
  rcases hr.2 with ⟨h1, h2⟩ | ⟨g, cap, cur, rfl, hbg, hg, hnc, hcm, hcs, htake⟩
  · refine ⟨none, 0, by rw [h1, h2], by omega, by decide, fun _ => rfl, by simp⟩
  · refine ⟨_, cap, rfl, hnc, by unfold maxLen at hcm; simpa using hcm, by simp, ?_⟩
    rintro x hx i d hi
    cases hx
    obtain ⟨cs, r, hc⟩ := hel i d hi
    refine ⟨⟨rfl, (Array.getElem?_eq_some_iff.1 hg).1, (Array.getElem?_eq_some_iff.1 hg).1⟩, cs, C.keep (fun b hs hl => ⟨hl, rfl⟩) r, fun j u hj => ?_⟩
    have h2 := hc j u hj
    rw [← htake, List.getElem?_take] at h2
    split at h2
    · simp only [Nat.zero_add]
      rw [cell_of_row w g _ cur e (0, 0) hg]; simpa using h2
    · cases h2
theorem row_cs {T : Nat → Prop} {w : World} {cs : List Value} {c : Int} {zs ts : List Int} (h : cRow.rd T w cs ((c, zs), ts)) : ∃ a p am pm, cs = [.int .i64 c, .slice a zs.length p, .slice am ts.length pm] ∧ I64 c ∧ SlRd cInt T w a p zs ∧ SlRd cInt T w am pm ts := by
  obtain ⟨_, _, rfl, ⟨_, _, rfl, ⟨rfl, hc⟩, a, p, rfl, hs⟩, am, pm, rfl, hm⟩ := h
  exact ⟨a, p, am, pm, rfl, hc, hs, hm⟩
theorem rd_row {T : Nat → Prop} {w : World} {c : Int} {zs ts : List Int} {a am : Option Addr} {p pm : Nat} (hc : I64 c) (hs : SlRd cInt T w a p zs) (hm : SlRd cInt T w am pm ts) : cRow.rd T w #[Value.int .i64 c, .slice a zs.length p, .slice am ts.length pm].toList ((c, zs), ts) :=
  ⟨[_, _], [_], rfl, ⟨[_], [_], rfl, ⟨rfl, hc⟩, a, p, rfl, hs⟩, am, pm, rfl, hm⟩
/-- A row out of the first slice. -/
theorem Rows3.row_at {rs ns ss : List (Term × List Int)} (h : Rows3 cRow T w B e rv nv sv rs ns ss) (k : Nat) (hk : k < rs.length) :
    ∃ g cap c zs ts a p am pm, rv = .slice (some ⟨g, 0, none⟩) rs.length cap ∧ rs[k]? = some ((c, zs), ts) ∧ I64 c ∧ SlRd cInt T w a p zs ∧ SlRd cInt T w am pm ts ∧ g < w.heap.size ∧ w.cell? ⟨g, k * 3, none⟩ = some (.int .i64 c) ∧ w.cell? ⟨g, k * 3 + 1, none⟩ = some (.slice a zs.length p) ∧ w.cell? ⟨g, k * 3 + 2, none⟩ = some (.slice am ts.length pm) ∧ rs.length ≤ cap ∧ cap ≤ 9223372036854775807 := by
  obtain ⟨g, cap, ⟨⟨c, zs⟩, ts⟩, cs, h1, h2, h3, h4, h5, h6, h7⟩ := h.at k hk
  obtain ⟨a, p, am, pm, rfl, hc, hs, hm⟩ := row_cs h3
  exact ⟨g, cap, c, zs, ts, a, p, am, pm, h1, h2, hc, hs, hm, h4, h5 0 _ rfl, h5 1 _ rfl, h5 2 _ rfl, h6, h7⟩
theorem Rows3.rowI_at {rows : List Row} {ns ss : List (Term × List Int)} (h : Rows3 cRow T w B e rv nv sv (rows.map rowI) ns ss) (k : Nat) (hk : k < rows.length) :
    ∃ g cap r a p am pm, rv = .slice (some ⟨g, 0, none⟩) rows.length cap ∧ rows[k]? = some r ∧ I64 r.1 ∧ SlRd cInt T w a p (trimL r.2.1) ∧ SlRd cInt T w am pm r.2.2 ∧ g < w.heap.size ∧ w.cell? ⟨g, k * 3, none⟩ = some (.int .i64 r.1) ∧ w.cell? ⟨g, k * 3 + 1, none⟩ = some (.slice a (trimL r.2.1).length p) ∧ w.cell? ⟨g, k * 3 + 2, none⟩ = some (.slice am r.2.2.length pm) ∧ rows.length ≤ cap ∧ cap ≤ 9223372036854775807 := by
  obtain ⟨g, cap, c, zs, ts, a, p, am, pm, h1, h2, hc, hs, hm, h4, c0, c1, c2, h6, h7⟩ := h.row_at k (by simpa using hk)
  rw [List.getElem?_map, List.getElem?_eq_getElem hk] at h2
  simp only [Option.map_some, Option.some.injEq, rowI, Prod.mk.injEq] at h2
  obtain ⟨⟨rfl, rfl⟩, rfl⟩ := h2
  rw [List.length_map] at h1 h6
  exact ⟨g, cap, rows[k], a, p, am, pm, h1, List.getElem?_eq_getElem hk, hc, hs, hm, h4, c0, c1, c2, h6, h7⟩
/-- A row in a box of its own, read within T. -/
structure BoxR (T : Nat → Prop) (w : World) (b : Nat) (r : Row) (a : Option Addr) (p : Nat) (am : Option Addr) (pm : Nat) : Prop where
  c0 : w.cell? ⟨b, 0, none⟩ = some (.int .i64 r.1)
  c1 : w.cell? ⟨b, 1, none⟩ = some (.slice a (trimL r.2.1).length p)
  c2 : w.cell? ⟨b, 2, none⟩ = some (.slice am r.2.2.length pm)
  hb : T b
  h1 : SlRd cInt T w a p (trimL r.2.1)
  h2 : SlRd cInt T w am pm r.2.2
theorem BoxR.keep {T' : Nat → Prop} {w' : World} {b : Nat} {r : Row} {a am : Option Addr} {p pm : Nat} (h : BoxR T w b r a p am pm) (hk : ∀ b, T b → T' b ∧ w'.heap[b]? = w.heap[b]?) : BoxR T' w' b r a p am pm := by
  obtain ⟨k1, k2⟩ := hk b h.hb
  exact ⟨(World.cell?_of_block (w := w) (a := ⟨b, 0, none⟩) k2).trans h.c0, (World.cell?_of_block (w := w) (a := ⟨b, 1, none⟩) k2).trans h.c1, (World.cell?_of_block (w := w) (a := ⟨b, 2, none⟩) k2).trans h.c2, k1, h.h1.keep fun b hs _ => hk b hs, h.h2.keep fun b hs _ => hk b hs⟩
theorem wide_sl {α : Type} {C : Codec α} {T T' : Nat → Prop} {w w' : World} {a : Option Addr} {p : Nat} {xs : List α} (h : SlRd C T w a p xs) (hT : ∀ b, T b → T' b) (hb : Below w.heap.size w w') : SlRd C T' w' a p xs := h.keep fun b hs hl => ⟨hT b hs, hb.block b hl⟩
end Go.Proofs.Ytkckhnpdodbffaa
