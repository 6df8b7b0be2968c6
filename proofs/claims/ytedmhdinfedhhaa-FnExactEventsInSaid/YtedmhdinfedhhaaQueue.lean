/- Slices of numbers that a call owns, which lose their first element and grow at the end. -/
import Derived.Test.YtedmhdinfedhhaaApp2
import Derived.Test.YtedmhdinfedhhaaUni
import Derived.Laws.AppendOwn
namespace Go.Proofs.Ytedmhdinfedhhaa
open Go.RowKit

/-- v is a slice of numbers in one of the blocks Bk, which nothing else reads. -/
def OwnQ (w : World) (Bk : Nat → Prop) (v : Value) (zs : List Int) : Prop :=
  ∃ (g off cap : Nat) (cur : Array Value) (e : TypeId), v = .slice (some ⟨g, off, none⟩) zs.length cap ∧ Bk g ∧ w.heap[g]? = some (.cells cur e (0, 0)) ∧ zs.length ≤ cap ∧ cap ≤ 9223372036854775807 ∧ off + cap ≤ cur.size ∧
    ∀ (i : Nat) (z : Int), zs[i]? = some z → cur[off + i]? = some (Value.int .i64 z) ∧ I64 z
theorem ownQ_lit {w : World} {Bk : Nat → Prop} {e : TypeId} {z : Int} (hb : Bk w.heap.size) (hz : I64 z) : OwnQ (w.alloc (.cells #[.int .i64 z] e)) Bk (.slice (some ⟨w.heap.size, 0, none⟩) 1 1) [z] :=
  ⟨w.heap.size, 0, 1, #[.int .i64 z], e, rfl, hb, heap_new _ _, by simp, by omega, by simp, fun i y hi => by
    match i, hi with
    | 0, hi => simp at hi; subst hi; exact ⟨rfl, hz⟩
    | i + 1, hi => simp at hi⟩
theorem ownQ_keep {w w' : World} {Bk : Nat → Prop} {v : Value} {zs : List Int} (h : OwnQ w Bk v zs) (hk : ∀ b, Bk b → b < w.heap.size → w'.heap[b]? = w.heap[b]?) : OwnQ w' Bk v zs := by
  obtain ⟨g, off, cap, cur, e, h1, h2, h3, h4⟩ := h
  exact ⟨g, off, cap, cur, e, h1, h2, by rw [hk g h2 (Array.getElem?_eq_some_iff.1 h3).1]; exact h3, h4⟩
theorem ownQ_below {w w' : World} {Bk : Nat → Prop} {n : Nat} {v : Value} {zs : List Int} (h : OwnQ w Bk v zs) (hn : w.heap.size ≤ n) (hb : Below n w w') : OwnQ w' Bk v zs := ownQ_keep h fun b _ hl => hb.block b (by omega)
theorem ownQ_head {w : World} {Bk : Nat → Prop} {v : Value} {z : Int} {zs : List Int} (h : OwnQ w Bk v (z :: zs)) :
    ∃ g off off' cap, v = .slice (some ⟨g, off, none⟩) (zs.length + 1) cap ∧ w.cell? ⟨g, off, none⟩ = some (.int .i64 z) ∧ I64 z ∧ zs.length + 1 ≤ cap ∧ cap ≤ 9223372036854775807 ∧ OwnQ w Bk (.slice (some ⟨g, off', none⟩) zs.length (cap - 1)) zs ∧ ((cap = 1 ∧ off' = off) ∨ (cap ≠ 1 ∧ off' = off + 1)) := by
  obtain ⟨g, off, cap, cur, e, rfl, h2, h3, h4, h5, h6, h7⟩ := h
  obtain ⟨c0, hz⟩ := h7 0 z rfl
  simp only [List.length_cons] at h4
  by_cases hc : cap = 1
  · refine ⟨g, off, off, cap, rfl, by rw [cell_of_row w g off cur e (0, 0) h3]; exact c0, hz, h4, h5, ⟨g, off, cap - 1, cur, e, rfl, h2, h3, by omega, by omega, by omega, fun i y hi => ?_⟩, .inl ⟨hc, rfl⟩⟩
    have := (List.getElem?_eq_some_iff.1 hi).1
    omega
  · refine ⟨g, off, off + 1, cap, rfl, by rw [cell_of_row w g off cur e (0, 0) h3]; exact c0, hz, h4, h5, ⟨g, off + 1, cap - 1, cur, e, rfl, h2, h3, by omega, by omega, by omega, fun i y hi => ?_⟩, .inr ⟨hc, rfl⟩⟩
    have := h7 (i + 1) y (by simpa using hi)
    rwa [show off + (i + 1) = off + 1 + i by omega] at this
/-- The last one. -/
theorem ownQ_last {w : World} {Bk : Nat → Prop} {v : Value} {z : Int} {zs : List Int} (h : OwnQ w Bk v (zs ++ [z])) :
    ∃ g off cap, v = .slice (some ⟨g, off, none⟩) (zs.length + 1) cap ∧ w.cell? ⟨g, off + zs.length, none⟩ = some (.int .i64 z) ∧ I64 z ∧ zs.length + 1 ≤ cap ∧ cap ≤ 9223372036854775807 ∧ OwnQ w Bk (.slice (some ⟨g, off, none⟩) zs.length cap) zs := by
  obtain ⟨g, off, cap, cur, e, rfl, h2, h3, h4, h5, h6, h7⟩ := h
  obtain ⟨c0, hz⟩ := h7 zs.length z (by simp)
  simp only [List.length_append, List.length_singleton] at h4
  refine ⟨g, off, cap, by simp, by rw [cell_of_row w g _ cur e (0, 0) h3]; exact c0, hz, h4, h5, g, off, cap, cur, e, rfl, h2, h3, by omega, h5, h6, fun i y hi => ?_⟩
  have hlt := (List.getElem?_eq_some_iff.1 hi).1
  exact h7 i y (by rw [List.getElem?_append_left hlt]; exact hi)
/-- Only blocks Bk have changed. -/
structure KeptB (Bk : Nat → Prop) (w w' : World) : Prop where
  os : w'.os = w.os
  tape : w'.tape = w.tape
  output : w'.output = w.output
  size : w.heap.size ≤ w'.heap.size
  block : ∀ k, k < w.heap.size → ¬ Bk k → w'.heap[k]? = w.heap[k]?
theorem KeptB.below {Bk : Nat → Prop} {w w' : World} {B : Nat} (h : KeptB Bk w w') (hB : ∀ b, Bk b → B ≤ b) (hs : B ≤ w.heap.size) : Below B w w' :=
  ⟨h.os, h.tape, h.output, h.size, fun k hk => h.block k (by omega) fun hb => by have := hB k hb; omega⟩
theorem setRow_at (g : Nat) : ∀ (news : List Value) (off : Nat) (w : World) (cur : Array Value) (e : TypeId), w.heap[g]? = some (.cells cur e (0, 0)) →
    ∃ cur', (w.setCells g off news).heap[g]? = some (.cells cur' e (0, 0)) ∧ cur'.size = cur.size ∧ (∀ j, j < off → cur'[j]? = cur[j]?) ∧ (∀ (j : Nat) u, news[j]? = some u → off + j < cur.size → cur'[off + j]? = some u)
  | [], off, w, cur, e, h => ⟨cur, h, rfl, fun _ _ => rfl, fun j u hj => by simp at hj⟩
  | v :: r, off, w, cur, e, h => by
    have h1 := blk_set h off v
    obtain ⟨cur', g1, g2, g3, g4⟩ := setRow_at g r (off + 1) (w.setCell ⟨g, off, none⟩ v) (cur.setIfInBounds off v) e h1
    refine ⟨cur', g1, by rw [g2]; simp, fun j hj => ?_, fun j u hj hl => ?_⟩
    · rw [g3 j (by omega), Array.getElem?_setIfInBounds, if_neg (by omega)]
    · match j, hj with
      | 0, hj =>
        simp at hj; subst hj
        rw [Nat.add_zero, g3 off (by omega), Array.getElem?_setIfInBounds, if_pos rfl]
        simp; omega
      | j + 1, hj =>
        have := g4 j u (by simpa using hj) (by simp; omega)
        rwa [show off + 1 + j = off + (j + 1) by omega] at this
theorem setCells_other {g b : Nat} (hb : b ≠ g) : ∀ (news : List Value) (off : Nat) (w : World), (w.setCells g off news).heap[b]? = w.heap[b]? ∧ (w.setCells g off news).heap.size = w.heap.size ∧ (w.setCells g off news).os = w.os ∧ (w.setCells g off news).tape = w.tape ∧ (w.setCells g off news).output = w.output
  | [], off, w => ⟨rfl, rfl, rfl, rfl, rfl⟩
  | v :: r, off, w => by
    obtain ⟨h1, h2, h3, h4, h5⟩ := setCells_other hb r (off + 1) (w.setCell ⟨g, off, none⟩ v)
    exact ⟨h1.trans (heap_setCell_ne _ _ _ hb), h2.trans (size_set _ _ _), h3, h4, h5⟩
theorem zeros_size (z : Array Value) (n : Nat) : (Builtin.zeroCells z n).size = z.size * n := by simp [Builtin.zeroCells, Nat.mul_comm]
/-- append(v, s...), s a slice of numbers. -/
theorem ownQ_append {P : Program} {t e : TypeId} (hT : SlT P t e (.int .i64 0) 1 8) {w : World} {Bk : Nat → Prop} {v : Value} {zs : List Int} (h : OwnQ w Bk v zs) {T : Nat → Prop} {a : Option Addr} {c : Nat} {bs : List Int} (hsrc : SlRd cInt T w a c bs)
    (hn : zs.length + bs.length ≤ 1099511627776) (hbase : ∀ b, w.heap.size ≤ b → Bk b) (ty : TypeId) :
    ∃ v' w', (Builtin.append_ #[t, t] ty #[v, .slice a bs.length c]).run P w = .ok v' w' ∧ OwnQ w' Bk v' (zs ++ bs) ∧ KeptB Bk w w' := by
  obtain ⟨news, g1, g2, g3, g4⟩ := hsrc.cells_all (C := cInt) (by decide)
  have hbz : ∀ (i : Nat) (z : Int), bs[i]? = some z → news[i]? = some (Value.int .i64 z) ∧ I64 z := fun i z hi => by
    obtain ⟨cs, ⟨rfl, hz⟩, hc⟩ := g4 i z hi
    have := hc 0 _ rfl
    simp only [cInt, Nat.mul_one, Nat.add_zero] at this
    exact ⟨this, hz⟩
  have hnl : news.length = bs.length := by simpa [cInt] using g1
  obtain ⟨g, off, cap, cur, e', rfl, h2, h3, h4, h5, h6, h7⟩ := h
  have hgl := (Array.getElem?_eq_some_iff.1 h3).1
  obtain ⟨ht, hi, hz, hsz, hb⟩ := hT
  cases hie : P.info? e with
  | none => simp [hie] at hi
  | some i =>
    simp only [hie, Option.map_some, Option.some.injEq, Prod.mk.injEq] at hi
    obtain ⟨hz0, hz1, hz2⟩ := hi
    cases a with
    | none =>
      have hl0 := hsrc.2.2.1 rfl
      have hle := hsrc.1
      obtain rfl : bs = [] := List.eq_nil_of_length_eq_zero (by omega)
      subst hl0
      refine ⟨.slice (some ⟨g, off, none⟩) zs.length cap, w, ?_, ⟨g, off, cap, cur, e', by simp, h2, h3, by simpa using h4, h5, h6, by simpa using h7⟩, ⟨rfl, rfl, rfl, Nat.le_refl _, fun _ _ _ => rfl⟩⟩
      simp [Builtin.append_, run_underlying ht, sizeOf, typeInfo, hie, Builtin.lenOf, Builtin.firstCells, h4, storeCells]
    | some ad =>
      by_cases hroom : zs.length + bs.length ≤ cap
      · have hcell : ∀ j, j < news.length → (w.cell? ⟨g, off + zs.length * i.size + j, none⟩).isSome = true := fun j hj => by
          rw [hz1, Nat.mul_one, cell_of_row w g _ cur e' (0, 0) h3, Array.getElem?_eq_getElem (by omega)]; rfl
        have hfrz : ∀ j, j < news.length → w.frozen? ⟨g, off + zs.length * i.size + j, none⟩ = false := fun j _ => frozen_of_row w g _ cur e' h3
        have hr := run_append_room_cells (P := P) w t ty e i ht hie g off zs.length cap ad bs.length c news (by rw [hz1]; omega) (g2 ad rfl) g3 hroom hcell hfrz
        obtain ⟨cur', k1, k2, k3, k4⟩ := setRow_at g news (off + zs.length * i.size) w cur e' h3
        rw [hz1, Nat.mul_one] at hr k1 k3 k4
        refine ⟨_, _, hr, ⟨g, off, cap, cur', e', by rw [List.length_append], h2, k1, by rw [List.length_append]; exact hroom, h5, by omega, fun j z hj => ?_⟩, ?_⟩
        · rw [List.getElem?_append] at hj
          split at hj
          · rename_i hlt
            rw [k3 (off + j) (by omega)]; exact h7 j z hj
          · rename_i hge
            obtain ⟨c1, c2⟩ := hbz _ z hj
            have hlt2 := (List.getElem?_eq_some_iff.1 hj).1
            have := k4 _ _ c1 (by omega)
            rw [show off + zs.length + (j - zs.length) = off + j by omega] at this
            exact ⟨this, c2⟩
        · obtain ⟨q1, q2, q3, q4, q5⟩ := setCells_other (g := g) (b := g + 1) (by omega) news (off + zs.length) w
          exact ⟨q3, q4, q5, Nat.le_of_eq q2.symm, fun k hk hnb => (setCells_other (b := k) (g := g) (fun e => hnb (by rw [e]; exact h2)) news _ w).1⟩
      · have holds : ∀ (j : Nat) u, (zs.map (Value.int .i64))[j]? = some u → w.cell? ((⟨g, off, none⟩ : Addr).add j) = some u := fun j u hj => by
          rw [List.getElem?_map] at hj
          cases hzj : zs[j]? with
          | none => rw [hzj] at hj; cases hj
          | some z =>
            rw [hzj] at hj
            simp at hj; subst hj
            rw [addr_add, cell_of_row w g _ cur e' (0, 0) h3]; exact (h7 j z hzj).1
        have hge := grownCap_ge w (zs.length + bs.length) cap e
        have hcm := grownCap_le_maxLen w (zs.length + bs.length) cap e (by unfold maxLen; omega)
        have hr := run_append_grow (P := P) w t ty e i (.int .i64 0) ht hie hz0 ⟨g, off, none⟩ zs.length cap (zs.map (Value.int .i64)) (by rw [hz1]; simp) holds ad bs.length c news (by rw [hz1]; omega) (g2 ad rfl) (by omega) (by omega) (growslice_fits (by omega) (by rw [hz2]; omega))
        refine ⟨_, _, hr, ⟨w.heap.size, 0, _, _, e, by rw [List.length_append], hbase _ (Nat.le_refl _), heap_alloc_new w.drew _, by rw [List.length_append]; exact hge, by unfold maxLen at hcm; exact hcm, ?_, fun j z hj => ?_⟩, ⟨rfl, rfl, rfl, by simp, fun k hk _ => Below.heap_alloc w.drew _ k (by show k < w.heap.size; omega)⟩⟩
        · simp only [Array.size_append, List.size_toArray, zeros_size, List.length_map, hnl]
          simp [Value.cells]; omega
        · rw [Nat.zero_add, Array.getElem?_append_left (by simp only [Array.size_append, List.size_toArray, List.length_map, hnl]; have := (List.getElem?_eq_some_iff.1 hj).1; rw [List.length_append] at this; omega)]
          rw [List.getElem?_append] at hj
          split at hj
          · rename_i hlt
            rw [Array.getElem?_append_left (by simpa using hlt)]
            simp [hj]; exact (h7 j z hj).2
          · rename_i hge2
            rw [Array.getElem?_append_right (by simp; omega)]
            obtain ⟨c1, c2⟩ := hbz _ z hj
            simp only [List.size_toArray, List.length_map, List.getElem?_toArray]
            exact ⟨c1, c2⟩
theorem app_q {P : Program} {ops : Array Oper} {rest : List Oper} {o : Oper} {a : Act} {Q : Exit → Act → World → Prop} (hgd : o.guard = none) (s x : Operand) (t : TypeId) {e : TypeId}
    (ho : o.op = .call { callee := .builtin .append, args := #[s, x], argTypes := #[t, t] }) (hT : SlT P t e (.int .i64 0) 1 8) {w : World} {Bk : Nat → Prop} {v : Value} {zs : List Int} {T : Nat → Prop} {ad : Option Addr} {c : Nat} {bs : List Int}
    (hs : a.eval s = v) (hx : a.eval x = .slice ad bs.length c) (hown : OwnQ w Bk v zs) (hsrc : SlRd cInt T w ad c bs) (hn : zs.length + bs.length ≤ 1099511627776) (hbase : ∀ b, w.heap.size ≤ b → Bk b)
    (h : ∀ v' w', OwnQ w' Bk v' (zs ++ bs) → KeptB Bk w w' → wpList P ops Q rest (a.put o.dst v') w') : wpList P ops Q (o :: rest) a w := by
  obtain ⟨v', w', h1, h2, h3⟩ := ownQ_append hT hown hsrc hn hbase o.type
  exact wpList_app hgd s x t ho hs hx (R := fun v' w' => OwnQ w' Bk v' (zs ++ bs) ∧ KeptB Bk w w') ⟨v', w', h1, h2, h3⟩ fun v' w' hr => h v' w' hr.1 hr.2
end Go.Proofs.Ytedmhdinfedhhaa
