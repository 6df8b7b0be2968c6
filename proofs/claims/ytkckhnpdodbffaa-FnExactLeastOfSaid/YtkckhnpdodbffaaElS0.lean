/- A row that the reference builds in a box: two slices of its own in its cells. No program in sight. -/
import Derived.Test.YtkckhnpdodbffaaEl3p
import Derived.Test.YtkckhnpdodbffaaApp2
import Derived.Test.YtkckhnpdodbffaaUni
namespace Go.Proofs.Ytkckhnpdodbffaa
open Go.RowKit

/-- The row as the reference lays it. -/
def rowS (r : Row) : Term × List Int := ((r.1, r.2.1), r.2.2)
/-- A box b with a number and two own slices in the cells i and j. -/
structure RBox (w : World) (B b : Nat) (e : TypeId) (c : Int) (i j : Nat) (lv tv : Value) (ls ts : List Int) : Prop where
  lt : b < w.heap.size
  hB : B ≤ b
  th : Thawed w b
  c0 : w.cell? ⟨b, 0, none⟩ = some (.int .i64 c)
  c1 : w.cell? ⟨b, i, none⟩ = some lv
  c2 : w.cell? ⟨b, j, none⟩ = some tv
  hl : OwnSl cInt (fun _ => False) w B e lv ls
  ht : OwnSl cInt (fun _ => False) w B e tv ts
  nl : lv.ownBlock ≠ some b
  nt : tv.ownBlock ≠ some b
  ne : ∀ k, lv.ownBlock = some k → tv.ownBlock ≠ some k
variable {w : World} {B b : Nat} {e : TypeId} {c : Int} {i j : Nat} {lv tv : Value} {ls ts : List Int}
theorem RBox.swap (h : RBox w B b e c i j lv tv ls ts) : RBox w B b e c j i tv lv ts ls :=
  ⟨h.lt, h.hB, h.th, h.c0, h.c2, h.c1, h.ht, h.hl, h.nt, h.nl, fun k hk hk' => h.ne k hk' hk⟩
theorem RBox.fr (h : RBox w B b e c i j lv tv ls ts) (o : Nat) : w.frozen? ⟨b, o, none⟩ = false := h.th.frozen o
theorem RBox.below {w' : World} (h : RBox w B b e c i j lv tv ls ts) (hb : Below w.heap.size w w') : RBox w' B b e c i j lv tv ls ts :=
  ⟨Nat.lt_of_lt_of_le h.lt hb.size, h.hB, h.th.keep (hb.block b h.lt), cell_below hb h.lt h.c0, cell_below hb h.lt h.c1, cell_below hb h.lt h.c2, own_below h.hl (Nat.le_refl _) hb, own_below h.ht (Nat.le_refl _) hb, h.nl, h.nt, h.ne⟩
/-- The first slice has grown (and lies in no cell yet). -/
theorem RBox.grown {w' : World} {v' : Value} {xs : List Int} (h : RBox w B b e c i j lv tv ls ts) (ho : OwnSl cInt (fun _ => False) w' B e v' xs) (hg : w.grownBy w' lv.ownBlock) (hv : ∀ k, v'.ownBlock = some k → lv.ownBlock = some k ∨ w.heap.size ≤ k) (hij : i ≠ j) (hi : i ≠ 0) :
    w'.cell? ⟨b, i, none⟩ = some lv ∧ w'.frozen? ⟨b, i, none⟩ = false ∧ RBox (w'.setCell ⟨b, i, none⟩ v') B b e c i j v' tv xs ts := by
  have hbk := hg.block b h.lt fun e => h.nl e.symm
  have hth := h.th.keep hbk
  have hci : w'.cell? ⟨b, i, none⟩ = some lv := cell_grown hg h.lt (fun e => h.nl e.symm) h.c1
  have hnv : v'.ownBlock ≠ some b := fun hk => by
    rcases hv b hk with h1 | h1
    · exact h.nl h1
    · have := h.lt; omega
  have hts := own_keep h.ht (S' := fun _ => False) (w' := w') (fun _ hs _ => hs) fun k hl hs => hg.block k hl fun e => by
    rcases hs with hs | hs
    · exact hs
    · exact h.ne k e.symm hs.symm
  refine ⟨hci, hth.frozen i, ⟨by rw [size_set]; exact Nat.lt_of_lt_of_le h.lt hg.size, h.hB, thawed_setCell hth _ _, ?_, World.cell?_setCell_same _ _ _ hci, ?_, ?_, ?_, hnv, h.nt, fun k hk hk' => ?_⟩⟩
  · exact (World.cell?_setCell_other _ _ _ _ (by first | (simp; done) | (simp; omega))).trans (cell_grown hg h.lt (fun e => h.nl e.symm) h.c0)
  · exact (World.cell?_setCell_other _ _ _ _ (by first | (simp; done) | (simp; omega))).trans (cell_grown hg h.lt (fun e => h.nl e.symm) h.c2)
  · exact own_keep ho (fun _ hs _ => hs) fun k hl hs => heap_setCell_ne _ _ _ (by
      rcases hs with hs | hs
      · exact hs.elim
      · intro e; subst e; exact hnv hs.symm)
  · exact own_keep hts (fun _ hs _ => hs) fun k hl hs => heap_setCell_ne _ _ _ (by
      rcases hs with hs | hs
      · exact hs.elim
      · intro e; subst e; exact h.nt hs.symm)
  · rcases hv k hk with h1 | h1
    · exact h.ne k h1 hk'
    · have := (own_lt h.ht k hk').2; omega
/-- append to the first slice, in a region that draws; the store comes later. -/
theorem step_box {P : Program} {ops : Array Oper} {o : Oper} {a : Act} {Q : Exit → Act → World → Prop} {K : Act → World → Prop} {E : Prop} (hgd : o.guard = none) (s x : Operand) (t : TypeId)
    (ho : o.op = .call { callee := .builtin .append, args := #[s, x], argTypes := #[t, t] }) {z : Value} {bytes : Nat} (hT : SlT P t e z 1 bytes)
    {e' : TypeId} {fr : Nat × Nat} {k g : Nat} {d : Int} (hs : a.eval s = lv) (hx : a.eval x = .slice (some ⟨g, 0, none⟩) 1 k) (H : RBox w B b e c i j lv tv ls ts) (hblk : w.heap[g]? = some (.cells #[.int .i64 d] e' fr))
    (hd : I64 d) (hn : ls.length + 1 ≤ 1099511627776) (hij : i ≠ j) (hi : i ≠ 0)
    (h : ∀ v' w', w'.cell? ⟨b, i, none⟩ = some lv → w'.frozen? ⟨b, i, none⟩ = false → Hid (RBox (w'.setCell ⟨b, i, none⟩ v') B b e c i j v' tv (ls ++ [d]) ts) → Below B w w' → K (a.put o.dst v') w') :
    if Region.wanted o (yielded ops a.tmps) = true then Oper.wp P o a w K Q else E := by
  have hbase : B ≤ w.heap.size := by have := H.hB; have := H.lt; omega
  have hd' : cInt.rd (fun _ => False) w #[Value.int .i64 d].toList d := rd_int hd
  obtain ⟨xs, hr, hel⟩ := H.hl
  obtain ⟨v', w', h1, h2, h3, h4⟩ := run_app (ty := o.type) hT hr (some ⟨g, 0, none⟩) 1 k #[Value.int .i64 d].toList (by simp) (by simp)
    (by
      rintro x hx j u hj
      cases hx
      rw [addr_add, cell_of_row w g _ _ e' fr hblk, Nat.zero_add]; simpa using hj) (cInt.one hd') hn hbase
  have ho2 : OwnSl cInt (fun _ => False) w' B e v' (ls ++ [d]) := own_grow (C := cInt) [d] no_blk hel (fun i x hi => by
    match i, hi with
    | 0, hi => simp at hi; subst hi; exact ⟨[Value.int .i64 d], rd_int hd, fun j u hj => by simpa using hj⟩) hr.1 h2 h3 h4
  obtain ⟨g1, g2, g3⟩ := H.grown ho2 h3 h4 hij hi
  exact stepR_app hgd s x t ho hs hx (R := fun v' w' => w'.cell? ⟨b, i, none⟩ = some lv ∧ w'.frozen? ⟨b, i, none⟩ = false ∧ Hid (RBox (w'.setCell ⟨b, i, none⟩ v') B b e c i j v' tv (ls ++ [d]) ts) ∧ Below B w w') ⟨v', w', h1, g1, g2, g3, bel_own H.hl h3 (Nat.le_refl _) hbase⟩ fun v' w' hr => h v' w' hr.1 hr.2.1 hr.2.2.1 hr.2.2.2
/-- A number of the first slice is written. -/
theorem RBox.at {n : Nat} (h : RBox w B b e c i j lv tv ls ts) (hn : ls.length = n) (k : Nat) (hk : k < n) :
    ∃ g cap z, lv = .slice (some ⟨g, 0, none⟩) n cap ∧ ls[k]? = some z ∧ I64 z ∧ w.cell? ⟨g, k, none⟩ = some (.int .i64 z) ∧ w.frozen? ⟨g, k, none⟩ = false ∧ g < w.heap.size ∧ B ≤ g ∧ g ≠ b ∧ n ≤ cap ∧ cap ≤ 9223372036854775807 := by
  subst hn
  obtain ⟨g, cap, rfl⟩ : ∃ g cap, lv = .slice (some ⟨g, 0, none⟩) ls.length cap := by
    obtain ⟨xs, hr, _⟩ := h.hl
    rcases hr.2 with ⟨_, h2⟩ | ⟨g, cap, cur, h1, _⟩
    · omega
    · exact ⟨g, cap, h1⟩
  obtain ⟨z, h1, h2, h3, h4, h5, h6⟩ := own_at_int h.hl rfl k hk
  obtain ⟨a', c', he, hs⟩ := own_rd (own_keep (S' := Fresh B w) h.hl (fun _ h => h.elim) fun _ _ _ => rfl) (Nat.le_refl _)
  injection he with _ _ he
  subst he
  exact ⟨g, cap, z, rfl, h1, h2, h3, h4, h5, h6, fun e => h.nl (by rw [e]; rfl), hs.1, hs.2.1⟩
theorem RBox.set {g n cap : Nat} (h : RBox w B b e c i j (.slice (some ⟨g, 0, none⟩) n cap) tv ls ts) (hn : ls.length = n) (k : Nat) (hk : k < n) (z : Int) (hz : I64 z) :
    RBox (w.setCell ⟨g, k, none⟩ (.int .i64 z)) B b e c i j (.slice (some ⟨g, 0, none⟩) n cap) tv (ls.set k z) ts := by
  subst hn
  have hgb : b ≠ g := fun e => h.nl (by rw [e]; rfl)
  obtain ⟨g1, g2⟩ := own_set_int h.hl rfl k hk z hz
  exact ⟨by rw [size_set]; exact h.lt, h.hB, thawed_setCell h.th _ _, cell_set_ne hgb h.c0, cell_set_ne hgb h.c1, cell_set_ne hgb h.c2, g1, own_keep h.ht (fun _ hs _ => hs) fun k hl hs => heap_setCell_ne _ _ _ (by
    rcases hs with hs | hs
    · exact hs.elim
    · intro e; subst e; exact h.ne _ rfl hs.symm), h.nl, h.nt, h.ne⟩
theorem RBox.setC (h : RBox w B b e c i j lv tv ls ts) (z : Int) (hi : i ≠ 0) (hj : j ≠ 0) : RBox (w.setCell ⟨b, 0, none⟩ (.int .i64 z)) B b e z i j lv tv ls ts :=
  ⟨by rw [size_set]; exact h.lt, h.hB, thawed_setCell h.th _ _, World.cell?_setCell_same _ _ _ h.c0, (World.cell?_setCell_other _ _ _ _ (by first | (simp; done) | (simp; omega))).trans h.c1, (World.cell?_setCell_other _ _ _ _ (by first | (simp; done) | (simp; omega))).trans h.c2,
    own_keep h.hl (fun _ hs _ => hs) fun k hl hs => heap_setCell_ne _ _ _ (by
      rcases hs with hs | hs
      · exact hs.elim
      · intro e; subst e; exact h.nl hs.symm),
    own_keep h.ht (fun _ hs _ => hs) fun k hl hs => heap_setCell_ne _ _ _ (by
      rcases hs with hs | hs
      · exact hs.elim
      · intro e; subst e; exact h.nt hs.symm), h.nl, h.nt, h.ne⟩
theorem RBox.len (h : RBox w B b e c i j lv tv ls ts) : ∃ a cap, lv = .slice a ls.length cap ∧ SlRd cInt (fun k => B ≤ k ∧ k < w.heap.size) w a cap ls := by
  obtain ⟨a', c', he, hs⟩ := own_rd (own_keep (S' := Fresh B w) h.hl (fun _ h => h.elim) fun _ _ _ => rfl) (Nat.le_refl _)
  exact ⟨a', c', he, hs.keep fun b hb hl => ⟨⟨hb.1, hl⟩, rfl⟩⟩
/-- A row that lies in a slice, read through a pointer. -/
structure RowS (S : Nat → Prop) (w : World) (b o : Nat) (r : Row) (a1 : Option Addr) (p1 : Nat) (a2 : Option Addr) (p2 : Nat) : Prop where
  lt : b < w.heap.size
  c0 : w.cell? ⟨b, o, none⟩ = some (.int .i64 r.1)
  c1 : w.cell? ⟨b, o + 1, none⟩ = some (.slice a1 r.2.1.length p1)
  c2 : w.cell? ⟨b, o + 2, none⟩ = some (.slice a2 r.2.2.length p2)
  h1 : SlRd cInt S w a1 p1 r.2.1
  h2 : SlRd cInt S w a2 p2 r.2.2
theorem RowS.below {S : Nat → Prop} {w w' : World} {b o : Nat} {r : Row} {a1 a2 : Option Addr} {p1 p2 : Nat} (h : RowS S w b o r a1 p1 a2 p2) (hb : Below w.heap.size w w') : RowS S w' b o r a1 p1 a2 p2 :=
  ⟨Nat.lt_of_lt_of_le h.lt hb.size, cell_below hb h.lt h.c0, cell_below hb h.lt h.c1, cell_below hb h.lt h.c2, h.h1.below (Nat.le_refl _) hb, h.h2.below (Nat.le_refl _) hb⟩
theorem SlRd.rowS_at {S : Nat → Prop} {w : World} {b off cap : Nat} {rows : List Row} (h : SlRd cRow S w (some ⟨b, off, none⟩) cap (rows.map rowS)) (k : Nat) (hk : k < rows.length) :
    ∃ r a p am pm, rows[k]? = some r ∧ I64 r.1 ∧ RowS S w b (off + k * 3) r a p am pm := by
  obtain ⟨⟨⟨c, zs⟩, ts⟩, cs, h1, h2, h3, _, h5⟩ := h.at k (by simpa using hk)
  obtain ⟨a, p, am, pm, rfl, hc, hs, hm⟩ := row_cs h2
  rw [List.getElem?_map, List.getElem?_eq_getElem hk] at h1
  simp only [Option.map_some, Option.some.injEq, rowS, Prod.mk.injEq] at h1
  obtain ⟨⟨rfl, rfl⟩, rfl⟩ := h1
  exact ⟨rows[k], a, p, am, pm, List.getElem?_eq_getElem hk, hc, h3, h5 0 _ rfl, h5 1 _ rfl, h5 2 _ rfl, hs, hm⟩
theorem gcdL_snoc (zs : List Int) (z : Int) : gcdL (zs ++ [z]) = Nat.gcd (gcdL zs) z.natAbs := by unfold gcdL; rw [List.foldl_append]; rfl
end Go.Proofs.Ytkckhnpdodbffaa
