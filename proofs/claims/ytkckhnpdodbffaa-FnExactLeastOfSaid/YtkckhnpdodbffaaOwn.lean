/- Slices that a call makes itself: made, appended to, stored into, read. No program in sight. -/
import Derived.Test.YtkckhnpdodbffaaMem
import Derived.Laws.MakeOwn
namespace Go.Proofs.Ytkckhnpdodbffaa
open Go.RowKit

/-- A block that no string shares. -/
def Thawed (w : World) (b : Nat) : Prop := ∃ cs e, w.heap[b]? = some (.cells cs e (0, 0))
/-- The blocks from B on that may be written. -/
def Fresh (B : Nat) (w : World) (b : Nat) : Prop := B ≤ b ∧ Thawed w b
theorem Thawed.frozen {w : World} {b : Nat} (h : Thawed w b) (o : Nat) : w.frozen? ⟨b, o, none⟩ = false := by
  obtain ⟨cs, e, h⟩ := h; exact frozen_of_row w b o cs e h
theorem Thawed.keep {w w' : World} {b : Nat} (h : Thawed w b) (hb : w'.heap[b]? = w.heap[b]?) : Thawed w' b := by
  obtain ⟨cs, e, h⟩ := h; exact ⟨cs, e, by rw [hb, h]⟩
theorem Fresh.below {B B' n : Nat} {w w' : World} {b : Nat} (hB : B' ≤ B) (hn : w.heap.size ≤ n) (hb : Below n w w') (h : Fresh B w b) (hl : b < w.heap.size) : Fresh B' w' b :=
  ⟨Nat.le_trans hB h.1, h.2.keep (hb.block b (by omega))⟩
/-- A reading out of new blocks, later. -/
theorem Codec.fresh {α : Type} (C : Codec α) {B B' n : Nat} {w w' : World} {cs : List Value} {a : α} (hB : B' ≤ B) (hn : w.heap.size ≤ n) (hb : Below n w w') (h : C.rd (Fresh B w) w cs a) : C.rd (Fresh B' w') w' cs a :=
  C.keep (fun b hs hl => ⟨hs.below hB hn hb hl, hb.block b (by omega)⟩) h
theorem SlRd.fresh {α : Type} {C : Codec α} {B B' n : Nat} {w w' : World} {a : Option Addr} {cap : Nat} {as : List α} (h : SlRd C (Fresh B w) w a cap as) (hB : B' ≤ B) (hn : w.heap.size ≤ n) (hb : Below n w w') : SlRd C (Fresh B' w') w' a cap as :=
  h.keep (fun b hs hl => ⟨hs.below hB hn hb hl, hb.block b (by omega)⟩)

/-- v is a slice of the call's own (blocks from base on) with the elements as. -/
def OwnSl {α : Type} (C : Codec α) (S : Nat → Prop) (w : World) (base : Nat) (e : TypeId) (v : Value) (as : List α) : Prop :=
  ∃ xs, w.ownsRow base e C.n v as.length xs ∧ ∀ (i : Nat) d, as[i]? = some d → ∃ cs, C.rd (fun b => S b ∧ some b ≠ v.ownBlock) w cs d ∧ ∀ (j : Nat) u, cs[j]? = some u → xs[i * C.n + j]? = some u

variable {α : Type} {C : Codec α} {S : Nat → Prop} {w : World} {base : Nat} {e : TypeId} {v : Value} {as : List α}

theorem own_nil (C : Codec α) (S : Nat → Prop) (w : World) (base : Nat) (e : TypeId) : OwnSl C S w base e (.slice none 0 0) [] := ⟨[], World.ownsRow_nil _ _ _ _, by simp⟩
theorem own_made (C : Codec α) (S : Nat → Prop) (w : World) (base : Nat) (e : TypeId) (hb : base ≤ w.heap.size) : OwnSl C S (w.alloc (.cells #[] e)) base e (.slice (some ⟨w.heap.size, 0, none⟩) 0 0) [] :=
  ⟨[], World.ownsRow_made _ _ _ hb (by decide) (by simp), by simp⟩
theorem own_keep {S' : Nat → Prop} {w' : World} (h : OwnSl C S w base e v as) (hS : ∀ b, S b → b < w.heap.size → S' b) (hk : ∀ b, b < w.heap.size → (S b ∨ some b = v.ownBlock) → w'.heap[b]? = w.heap[b]?) : OwnSl C S' w' base e v as := by
  obtain ⟨xs, hr, hel⟩ := h
  refine ⟨xs, ⟨hr.1, ?_⟩, fun i d hi => ?_⟩
  · rcases hr.2 with h0 | ⟨g, cap, cur, rfl, hb, hg, rest⟩
    · exact .inl h0
    · exact .inr ⟨g, cap, cur, rfl, hb, by rw [hk g (Array.getElem?_eq_some_iff.1 hg).1 (.inr (by simp [Value.ownBlock]))]; exact hg, rest⟩
  · obtain ⟨cs, r, hc⟩ := hel i d hi
    exact ⟨cs, C.keep (fun b hs hl => ⟨⟨hS b hs.1 hl, hs.2⟩, hk b hl (.inl hs.1)⟩) r, hc⟩
theorem own_below {w' : World} {n : Nat} (h : OwnSl C S w base e v as) (hn : w.heap.size ≤ n) (hb : Below n w w') : OwnSl C S w' base e v as :=
  own_keep h (fun _ hs _ => hs) fun b hl _ => hb.block b (by omega)
theorem own_alloc (h : OwnSl C S w base e v as) (o : Obj) : OwnSl C S (w.alloc o) base e v as := own_below h (Nat.le_refl _) ((Below.refl _ _).alloc (Nat.le_refl _) o)
theorem own_fresh {w' : World} {n B B' : Nat} (h : OwnSl C (Fresh B w) w base e v as) (hB : B' ≤ B) (hn : w.heap.size ≤ n) (hb : Below n w w') : OwnSl C (Fresh B' w') w' base e v as :=
  own_keep h (fun _ hs hl => hs.below hB hn hb hl) fun b hl _ => hb.block b (by omega)
theorem own_lt (h : OwnSl C S w base e v as) : ∀ k, v.ownBlock = some k → base ≤ k ∧ k < w.heap.size := by obtain ⟨xs, hr, _⟩ := h; exact hr.lt
theorem own_len (h : OwnSl C S w base e v as) : ∃ a cap, v = .slice a as.length cap := by
  obtain ⟨xs, hr, _⟩ := h
  rcases hr.2 with ⟨h1, h2⟩ | ⟨g, cap, cur, h1, _⟩
  · exact ⟨none, 0, by rw [h1, h2]⟩
  · exact ⟨_, cap, h1⟩
theorem bel_own {B : Nat} {w' : World} (h : OwnSl C S w base e v as) (hg : w.grownBy w' v.ownBlock) (hb : B ≤ base) (hB : B ≤ w.heap.size) : Below B w w' :=
  (Below.refl B w).grown hg hB fun k hk => Nat.le_trans hb (own_lt h k hk).1

/-- It is read like any other slice. -/
theorem own_rd {B : Nat} (h : OwnSl C (Fresh B w) w base e v as) (hb : B ≤ base) : ∃ a cap, v = .slice a as.length cap ∧ SlRd C (Fresh B w) w a cap as := by
  obtain ⟨xs, hr, hel⟩ := h
  rcases hr.2 with ⟨h1, h2⟩ | ⟨g, cap, cur, rfl, hbg, hg, hnc, hcm, hcs, htake⟩
  · refine ⟨none, 0, by rw [h1, h2], by omega, by decide, fun _ => rfl, by simp⟩
  · refine ⟨_, cap, rfl, hnc, by unfold maxLen at hcm; simpa using hcm, by simp, ?_⟩
    rintro x hx i d hi
    cases hx
    obtain ⟨cs, r, hc⟩ := hel i d hi
    refine ⟨⟨rfl, ⟨Nat.le_trans hb hbg, cur, e, hg⟩, (Array.getElem?_eq_some_iff.1 hg).1⟩, cs, C.keep (fun b hs hl => ⟨hs.1, rfl⟩) r, fun j u hj => ?_⟩
    have h2 := hc j u hj
    rw [← htake, List.getElem?_take] at h2
    split at h2
    · simp only [Nat.zero_add]
      rw [cell_of_row w g _ cur e (0, 0) hg]; simpa using h2
    · cases h2

theorem own_snoc {w' : World} {v' : Value} {m : Nat} {xs ns : List Value} (bs : List α) (hr : w'.ownsRow base e C.n v' (as.length + bs.length) (xs ++ ns)) (hx : xs.length = as.length * C.n)
    (h1 : ∀ (i : Nat) d, as[i]? = some d → ∃ cs, C.rd (fun b => S b ∧ some b ≠ v'.ownBlock) w' cs d ∧ ∀ (j : Nat) u, cs[j]? = some u → xs[i * C.n + j]? = some u)
    (h2 : ∀ (i : Nat) d, bs[i]? = some d → ∃ cs, C.rd (fun b => S b ∧ some b ≠ v'.ownBlock) w' cs d ∧ ∀ (j : Nat) u, cs[j]? = some u → ns[i * C.n + j]? = some u) :
    OwnSl C S w' base e v' (as ++ bs) := by
  refine ⟨xs ++ ns, by rw [List.length_append]; exact hr, fun i d hi => ?_⟩
  rw [List.getElem?_append] at hi
  split at hi
  · obtain ⟨cs, r, hc⟩ := h1 i d hi
    refine ⟨cs, r, fun j u hj => ?_⟩
    have := hc j u hj
    rw [List.getElem?_append_left (List.getElem?_eq_some_iff.1 this).1]; exact this
  · rename_i hge
    obtain ⟨cs, r, hc⟩ := h2 _ d hi
    refine ⟨cs, r, fun j u hj => ?_⟩
    have := hc j u hj
    have hle : as.length * C.n ≤ i * C.n := Nat.mul_le_mul_right _ (by omega)
    have he : (i - as.length) * C.n + j = i * C.n + j - xs.length := by rw [hx, Nat.sub_mul]; omega
    rw [List.getElem?_append_right (by omega), ← he]; exact this

/-- What an append leaves, when the new elements' own readings and the old ones' lie apart from the row. -/
theorem own_grow {w' : World} {v' : Value} {xs ns : List Value} (bs : List α) (hS : ∀ b, S b → b < w.heap.size)
    (hel : ∀ (i : Nat) d, as[i]? = some d → ∃ cs, C.rd (fun b => S b ∧ some b ≠ v.ownBlock) w cs d ∧ ∀ (j : Nat) u, cs[j]? = some u → xs[i * C.n + j]? = some u)
    (hnew : ∀ (i : Nat) d, bs[i]? = some d → ∃ cs, C.rd (fun b => S b ∧ some b ≠ v.ownBlock) w cs d ∧ ∀ (j : Nat) u, cs[j]? = some u → ns[i * C.n + j]? = some u)
    (hx : xs.length = as.length * C.n) (hr : w'.ownsRow base e C.n v' (as.length + bs.length) (xs ++ ns)) (hg : w.grownBy w' v.ownBlock)
    (hv : ∀ k, v'.ownBlock = some k → v.ownBlock = some k ∨ w.heap.size ≤ k) : OwnSl C S w' base e v' (as ++ bs) := by
  have hk : ∀ b, (S b ∧ some b ≠ v.ownBlock) → b < w.heap.size → (S b ∧ some b ≠ v'.ownBlock) ∧ w'.heap[b]? = w.heap[b]? := by
    rintro b ⟨h1, h2⟩ hl
    refine ⟨⟨h1, fun e => ?_⟩, hg.block b hl h2⟩
    rcases hv b e.symm with h | h
    · exact h2 h.symm
    · omega
  refine own_snoc (m := 0) bs hr hx (fun i d hi => ?_) (fun i d hi => ?_)
  · obtain ⟨cs, r, hc⟩ := hel i d hi; exact ⟨cs, C.keep hk r, hc⟩
  · obtain ⟨cs, r, hc⟩ := hnew i d hi; exact ⟨cs, C.keep hk r, hc⟩
theorem run_app {P : Program} {t ty : TypeId} {z : Value} {size bytes : Nat} (hT : SlT P t e z size bytes) {n : Nat} {xs : List Value} (hown : w.ownsRow base e size v n xs)
    (ad : Option Addr) (m c : Nat) (news : List Value) (hm : ad = none → m = 0 ∧ c = 0) (hl : news.length = m * size) (hnews : ∀ x, ad = some x → ∀ j u, news[j]? = some u → w.cell? (x.add j) = some u) (h1 : ∀ u ∈ news, u.oneCell' = true)
    (hn : n + m ≤ 1099511627776) (hbase : base ≤ w.heap.size) :
    ∃ v' w', (Builtin.append_ #[t, t] ty #[v, .slice ad m c]).run P w = .ok v' w' ∧ w'.ownsRow base e size v' (n + m) (xs ++ news) ∧ w.grownBy w' v.ownBlock ∧ (∀ k, v'.ownBlock = some k → v.ownBlock = some k ∨ w.heap.size ≤ k) := by
  obtain ⟨ht, hi, hz, hsz, hb⟩ := hT
  cases hie : P.info? e with
  | none => simp [hie] at hi
  | some i =>
    simp only [hie, Option.map_some, Option.some.injEq, Prod.mk.injEq] at hi
    obtain ⟨hz0, hz1, hz2⟩ := hi
    have hbig : (n + m) * bytes ≤ 140737488355328 := Nat.le_trans (Nat.mul_le_mul hn hb) (by decide)
    cases ad with
    | none =>
      obtain ⟨rfl, rfl⟩ := hm rfl
      obtain rfl : news = [] := List.eq_nil_of_length_eq_zero (by simpa using hl)
      rcases hown.2 with ⟨rfl, rfl⟩ | ⟨g, cap, cur, rfl, hbg, hg, hnc, hcm, hcs, htake⟩
      · refine ⟨.slice none 0 0, w, ?_, by simpa using hown, ⟨rfl, rfl, rfl, Nat.le_refl _, fun _ _ _ => rfl⟩, by simp [Value.ownBlock]⟩
        simp [Builtin.append_, run_underlying ht, sizeOf, typeInfo, hie, Builtin.lenOf, Builtin.firstCells]
      · refine ⟨_, w, ?_, by simpa using hown, ⟨rfl, rfl, rfl, Nat.le_refl _, fun _ _ _ => rfl⟩, fun k hk => .inl hk⟩
        simp [Builtin.append_, run_underlying ht, sizeOf, typeInfo, hie, Builtin.lenOf, Builtin.firstCells, hnc, storeCells]
    | some ad =>
      have hnews' := hnews ad rfl
      obtain ⟨v', w', hr, h2, h3, h4⟩ := run_append_own (P := P) w base t ty e i z size bytes ht hie hz0 hz1 hz2 hz hsz v n xs hown ad m c news hl hnews' h1 (Nat.le_trans hn (by decide)) hbig hbase
      refine ⟨v', w', hr, h2, h3, ?_⟩
      subst hz1
      subst hz2
      rcases hown.2 with ⟨rfl, rfl⟩ | ⟨g, cap, cur, rfl, hbg, hg, hnc, hcm, hcs, htake⟩
      · by_cases hm0 : m = 0
        · rw [h4.2 ⟨rfl, hm0⟩]; simp [Value.ownBlock]
        · have hr' := run_append_nil (P := P) w t ty e i z ht hie hz0 ad m c news hl hnews' (by omega) (by omega) (by rw [Nat.zero_add] at hbig; omega)
          rw [hr'] at hr
          injection hr with e1 e2
          subst e1
          intro k hk; simp [Value.ownBlock] at hk; omega
      · by_cases hroom : n + m ≤ cap
        · have hfit : n * i.size + news.length ≤ cur.size := by rw [hl, hcs, ← Nat.add_mul]; exact Nat.mul_le_mul_right _ hroom
          have hr' := run_append_room (P := P) w t ty e i ht hie g n cap cur hg ad m c news hl hnews' h1 hroom hfit
          rw [hr'] at hr
          injection hr with e1 e2
          subst e1
          intro k hk; simp [Value.ownBlock] at hk ⊢; omega
        · have hr' := run_append_grow (P := P) w t ty e i z ht hie hz0 ⟨g, 0, none⟩ n cap xs hown.1 (hown.cells (g := g) rfl) ad m c news hl hnews' (by omega) (by omega) (growslice_fits (by omega) hbig)
          rw [hr'] at hr
          injection hr with e1 e2
          subst e1
          intro k hk; simp [Value.ownBlock] at hk; omega

theorem oneCell'_of {cs : List Value} {d : α} {T : Nat → Prop} (h : C.rd T w cs d) : ∀ u ∈ cs, u.oneCell' = true := C.one h

/-- append(v, d) of one element, which lies in the block made last (or anywhere: 'hx', 'hblk'). -/
theorem app_one {P : Program} {t : TypeId} {z : Value} {bytes : Nat} (hT : SlT P t e z C.n bytes) (hS : ∀ b, S b → b < w.heap.size) (hown : OwnSl C S w base e v as) {g c : Nat} {cs : Array Value} {e' : TypeId} {fr : Nat × Nat}
    (hblk : w.heap[g]? = some (.cells cs e' fr)) (d : α) (hd : C.rd (fun b => S b ∧ some b ≠ v.ownBlock) w cs.toList d) (hn : as.length + 1 ≤ 1099511627776) (hbase : base ≤ w.heap.size) (ty : TypeId) :
    ∃ v' w', (Builtin.append_ #[t, t] ty #[v, .slice (some ⟨g, 0, none⟩) 1 c]).run P w = .ok v' w' ∧ OwnSl C S w' base e v' (as ++ [d]) ∧ w.grownBy w' v.ownBlock := by
  obtain ⟨xs, hr, hel⟩ := hown
  obtain ⟨v', w', h1, h2, h3, h4⟩ := run_app (ty := ty) hT hr (some ⟨g, 0, none⟩) 1 c cs.toList (by simp) (by rw [C.len hd]; simp)
    (by
      rintro x hx j u hj
      cases hx
      have hadd : (⟨g, 0, none⟩ : Addr).add j = ⟨g, j, none⟩ := by unfold Addr.add; split <;> simp_all
      rw [hadd, cell_of_row w g j cs e' fr hblk]; simpa using hj) (C.one hd) hn hbase
  refine ⟨v', w', h1, own_grow (as := as) (bs := [d]) hS hel (fun i x hi => ?_) hr.1 (by simpa using h2) h3 h4, h3⟩
  match i, hi with
  | 0, hi => simp at hi; subst hi; exact ⟨cs.toList, hd, fun j u hj => by simpa using hj⟩

/-- What an operation that is an append does: for the walk ('wpList') and for a region that draws. -/
theorem wpList_app {P : Program} {ops : Array Oper} {rest : List Oper} {o : Oper} {a : Act} {Q : Exit → Act → World → Prop} (hgd : o.guard = none) (s x : Operand) (t : TypeId)
    (ho : o.op = .call { callee := .builtin .append, args := #[s, x], argTypes := #[t, t] }) {u u' : Value} (hs : a.eval s = u) (hx : a.eval x = u')
    {R : Value → World → Prop} (hrun : ∃ v' w', (Builtin.append_ #[t, t] o.type #[u, u']).run P w = .ok v' w' ∧ R v' w')
    (h : ∀ v' w', R v' w' → wpList P ops Q rest (a.put o.dst v') w') : wpList P ops Q (o :: rest) a w :=
  wpList_plain hgd fun _ hK => by
    obtain ⟨v', w', hr, hR⟩ := hrun
    unfold Oper.wp execOp
    simp only [ho, resolve, invoke, builtin, Sem.run_bind, Sem.run_pure, Result.andThen_ok, List.map_toArray, List.map_cons, List.map_nil, hs, hx, hr]
    exact hK _ _ (h v' w' hR)
theorem stepR_app {P : Program} {ops : Array Oper} {o : Oper} {a : Act} {Q : Exit → Act → World → Prop} {K : Act → World → Prop} {E : Prop} (hgd : o.guard = none) (s x : Operand) (t : TypeId)
    (ho : o.op = .call { callee := .builtin .append, args := #[s, x], argTypes := #[t, t] }) {u u' : Value} (hs : a.eval s = u) (hx : a.eval x = u')
    {R : Value → World → Prop} (hrun : ∃ v' w', (Builtin.append_ #[t, t] o.type #[u, u']).run P w = .ok v' w' ∧ R v' w')
    (h : ∀ v' w', R v' w' → K (a.put o.dst v') w') : if Region.wanted o (yielded ops a.tmps) = true then Oper.wp P o a w K Q else E := by
  rw [if_pos (by simp [Region.wanted, hgd])]
  obtain ⟨v', w', hr, hR⟩ := hrun
  unfold Oper.wp execOp
  simp only [ho, resolve, invoke, builtin, Sem.run_bind, Sem.run_pure, Result.andThen_ok, List.map_toArray, List.map_cons, List.map_nil, hs, hx, hr]
  exact h v' w' hR
/-- make([]T, n): n zero elements. -/
theorem own_mk {P : Program} {t : TypeId} {z : Value} {bytes : Nat} (hT : SlT P t e z C.n bytes) (S : Nat → Prop) (n : Nat) (hn : n ≤ 1099511627776) (hbase : base ≤ w.heap.size) (d : α)
    (hd : ∀ (T : Nat → Prop) (w : World), C.rd T w z.cells.toList d) (kl kc : IntKind) :
    ∃ w', (Instr.makeSlice t (.int kl (n : Int)) (.int kc (n : Int))).run P w = .ok (.slice (some ⟨w.heap.size, 0, none⟩) n n) w' ∧ OwnSl C S w' base e (.slice (some ⟨w.heap.size, 0, none⟩) n n) (List.replicate n d) ∧ w.grownBy w' none := by
  obtain ⟨ht, hi, hz, hsz, hb⟩ := hT
  cases hie : P.info? e with
  | none => simp [hie] at hi
  | some i =>
    simp only [hie, Option.map_some, Option.some.injEq, Prod.mk.injEq] at hi
    obtain ⟨hz0, hz1, hz2⟩ := hi
    obtain ⟨w', h1, h2, h3⟩ := run_make_full (P := P) w base t e i z C.n ht hie hz0 hz1 kl kc n (by rw [hz2]; exact Nat.le_trans (Nat.mul_le_mul hb hn) (by decide)) (Nat.le_trans hn (by decide)) hbase
    refine ⟨w', h1, ⟨_, by rw [List.length_replicate]; exact h2, fun k x hk => ⟨z.cells.toList, ?_, fun j u hj => ?_⟩⟩, h3⟩
    · rw [List.getElem?_replicate] at hk
      split at hk
      · simp at hk; subst hk; exact hd _ _
      · cases hk
    · have hkn : k < n := by have := (List.getElem?_eq_some_iff.1 hk).1; simpa using this
      have hjn : j < C.n := by have := (List.getElem?_eq_some_iff.1 hj).1; rw [← hz]; simpa using this
      have hlt : k * C.n + j < n * C.n := by
        have : (k + 1) * C.n ≤ n * C.n := Nat.mul_le_mul_right _ hkn
        rw [Nat.add_mul] at this; omega
      have hmod : (k * C.n + j) % C.n = j := by rw [Nat.mul_comm, Nat.mul_add_mod]; exact Nat.mod_eq_of_lt hjn
      simp only [List.getElem?_toArray, Array.getElem?_toList] at hj ⊢
      simp [madeCells, hlt, hz, hmod]
      obtain ⟨hlt', he⟩ := Array.getElem?_eq_some_iff.1 (by simpa using hj)
      rw [getElem!_pos z.cells j hlt']; exact he

/-- Stores one behind the other. -/
def stores (w : World) (g off : Nat) : List Value → World
  | [] => w
  | u :: us => stores (w.setCell ⟨g, off, none⟩ u) g (off + 1) us
def setL (xs : List Value) (off : Nat) : List Value → List Value
  | [] => xs
  | u :: us => setL (xs.set off u) (off + 1) us
theorem setL_get (us : List Value) : ∀ (xs : List Value) (off i : Nat), off + us.length ≤ xs.length → (setL xs off us)[i]? = if off ≤ i ∧ i < off + us.length then us[i - off]? else xs[i]? := by
  induction us with
  | nil => intro xs off i _; simp only [setL, List.length_nil]; rw [if_neg (by omega)]
  | cons u us ih =>
    intro xs off i h
    simp only [List.length_cons] at h ⊢
    simp only [setL]
    rw [ih _ _ _ (by rw [List.length_set]; omega)]
    by_cases h1 : i = off
    · subst h1
      rw [if_neg (by omega), if_pos (by omega), List.getElem?_set_self (by omega)]
      simp
    · by_cases h2 : off + 1 ≤ i ∧ i < off + 1 + us.length
      · rw [if_pos h2, if_pos (by omega)]
        rw [show i - off = (i - (off + 1)) + 1 by omega]; simp
      · rw [if_neg h2, if_neg (by omega)]
        rw [List.getElem?_set_ne (by omega)]
theorem stores_row {g n cap size : Nat} (us : List Value) : ∀ (w : World) (xs : List Value) (off : Nat), w.ownsRow base e size (.slice (some ⟨g, 0, none⟩) n cap) n xs →
    (stores w g off us).ownsRow base e size (.slice (some ⟨g, 0, none⟩) n cap) n (setL xs off us) ∧ w.grownBy (stores w g off us) (some g) := by
  induction us with
  | nil => intro w xs off h; exact ⟨h, rfl, rfl, rfl, Nat.le_refl _, fun _ _ _ => rfl⟩
  | cons u us ih =>
    intro w xs off h
    obtain ⟨h1, h2⟩ := h.stored off u
    obtain ⟨h3, h4⟩ := ih _ _ (off + 1) h1
    exact ⟨h3, h4.os.trans h2.os, h4.tape.trans h2.tape, h4.output.trans h2.output, Nat.le_trans h2.size h4.size, fun k hk hne => (h4.block k (Nat.lt_of_lt_of_le hk h2.size) hne).trans (h2.block k hk hne)⟩
/-- v[k] = d. -/
theorem own_set {g cap n : Nat} (h : OwnSl C S w base e (.slice (some ⟨g, 0, none⟩) n cap) as) (hn : as.length = n) (k : Nat) (hk : k < n) (cs : List Value) (d : α)
    (hd : C.rd (fun b => S b ∧ b ≠ g) w cs d) : OwnSl C S (stores w g (k * C.n) cs) base e (.slice (some ⟨g, 0, none⟩) n cap) (as.set k d) ∧ w.grownBy (stores w g (k * C.n) cs) (some g) := by
  subst hn
  obtain ⟨xs, hr, hel⟩ := h
  obtain ⟨h1, h2⟩ := stores_row cs w xs (k * C.n) hr
  have hlen := C.len hd
  have hx := hr.1
  have hfit : k * C.n + cs.length ≤ xs.length := by
    rw [hlen, hx]
    have : (k + 1) * C.n ≤ as.length * C.n := Nat.mul_le_mul_right _ hk
    rw [Nat.add_mul] at this; omega
  have hkeep : ∀ b, (S b ∧ some b ≠ (Value.slice (some ⟨g, 0, none⟩) as.length cap).ownBlock) → b < w.heap.size → (S b ∧ some b ≠ (Value.slice (some ⟨g, 0, none⟩) as.length cap).ownBlock) ∧ (stores w g (k * C.n) cs).heap[b]? = w.heap[b]? := by
    rintro b ⟨hs, hne⟩ hl
    exact ⟨⟨hs, hne⟩, h2.block b hl (by simpa [Value.ownBlock] using hne)⟩
  refine ⟨⟨_, by rw [List.length_set]; exact h1, fun i x hi => ?_⟩, h2⟩
  by_cases hik : i = k
  · subst hik
    simp [hk] at hi
    subst hi
    refine ⟨cs, C.keep (fun b hs hl => hkeep b ⟨hs.1, by simpa [Value.ownBlock] using hs.2⟩ hl) hd, fun j u hj => ?_⟩
    have hj' := (List.getElem?_eq_some_iff.1 hj).1
    rw [setL_get _ _ _ _ hfit, if_pos (by omega), Nat.add_sub_cancel_left]; exact hj
  · rw [List.getElem?_set_ne (by omega)] at hi
    obtain ⟨cs', r, hc⟩ := hel i x hi
    refine ⟨cs', C.keep hkeep r, fun j u hj => ?_⟩
    have hj' := (List.getElem?_eq_some_iff.1 hj).1
    rw [C.len r] at hj'
    rw [setL_get _ _ _ _ hfit, if_neg ?_]; exact hc j u hj
    rw [hlen]
    rintro ⟨ha, hb⟩
    rcases Nat.lt_or_gt_of_ne hik with h | h
    · have : (i + 1) * C.n ≤ k * C.n := Nat.mul_le_mul_right _ h
      rw [Nat.add_mul] at this; omega
    · have : (k + 1) * C.n ≤ i * C.n := Nat.mul_le_mul_right _ h
      rw [Nat.add_mul] at this; omega
/-- The cells of element k. -/
theorem own_at {g cap n : Nat} (h : OwnSl C S w base e (.slice (some ⟨g, 0, none⟩) n cap) as) (hn : as.length = n) (k : Nat) (hk : k < n) :
    ∃ d cs, as[k]? = some d ∧ C.rd (fun b => S b ∧ b ≠ g) w cs d ∧ g < w.heap.size ∧ base ≤ g ∧ (∀ (j : Nat) u, cs[j]? = some u → w.cell? ⟨g, k * C.n + j, none⟩ = some u) ∧ ∀ o, w.frozen? ⟨g, o, none⟩ = false := by
  subst hn
  obtain ⟨xs, hr, hel⟩ := h
  obtain ⟨cs, r, hc⟩ := hel k as[k] (by simp [hk])
  have hlt := hr.lt g (by simp [Value.ownBlock])
  refine ⟨as[k], cs, by simp [hk], C.keep (fun b hs hl => ⟨⟨hs.1, by simpa [Value.ownBlock] using hs.2⟩, rfl⟩) r, hlt.2, hlt.1, fun j u hj => ?_, fun o => hr.frozenAt o⟩
  have := hc j u hj
  rw [hr.cellAt _ (by rw [← hr.1]; exact (List.getElem?_eq_some_iff.1 this).1)]; exact this
theorem own_set_int {S : Nat → Prop} {w : World} {base : Nat} {e : TypeId} {as : List Int} {g cap n : Nat} (h : OwnSl cInt S w base e (.slice (some ⟨g, 0, none⟩) n cap) as) (hn : as.length = n) (k : Nat) (hk : k < n) (z : Int) (hz : I64 z) :
    OwnSl cInt S (w.setCell ⟨g, k, none⟩ (.int .i64 z)) base e (.slice (some ⟨g, 0, none⟩) n cap) (as.set k z) ∧ w.grownBy (w.setCell ⟨g, k, none⟩ (.int .i64 z)) (some g) := by
  have := own_set h hn k hk [.int .i64 z] z ⟨rfl, hz⟩
  simpa [stores, cInt] using this
theorem own_at_int {S : Nat → Prop} {w : World} {base : Nat} {e : TypeId} {as : List Int} {g cap n : Nat} (h : OwnSl cInt S w base e (.slice (some ⟨g, 0, none⟩) n cap) as) (hn : as.length = n) (k : Nat) (hk : k < n) :
    ∃ z, as[k]? = some z ∧ I64 z ∧ w.cell? ⟨g, k, none⟩ = some (.int .i64 z) ∧ w.frozen? ⟨g, k, none⟩ = false ∧ g < w.heap.size ∧ base ≤ g := by
  obtain ⟨z, cs, h1, ⟨rfl, hz⟩, h2, h3, h4, h5⟩ := own_at h hn k hk
  have := h4 0 _ rfl
  simp only [cInt, Nat.mul_one, Nat.add_zero] at this
  exact ⟨z, h1, hz, this, h5 _, h2, h3⟩
theorem fill_set {α : Type} {zs : List α} {k n : Nat} {z d : α} (hn : zs.length = n) (hk : k < n) (hz : zs[k]? = some z) : (zs.take k ++ List.replicate (n - k) d).set k z = zs.take (k + 1) ++ List.replicate (n - (k + 1)) d := by
  apply List.ext_getElem?
  intro i
  have hl : (zs.take k).length = k := by simp; omega
  have hl' : (zs.take (k + 1)).length = k + 1 := by simp; omega
  rcases Nat.lt_trichotomy i k with h | h | h
  · rw [List.getElem?_set_ne (by omega), List.getElem?_append_left (by omega), List.getElem?_append_left (by omega), List.getElem?_take, List.getElem?_take, if_pos h, if_pos (by omega)]
  · subst h
    rw [List.getElem?_set_self (by simp; omega), List.getElem?_append_left (by omega), List.getElem?_take, if_pos (by omega), hz]
  · rw [List.getElem?_set_ne (by omega), List.getElem?_append_right (by omega), List.getElem?_append_right (by omega), hl, hl', List.getElem?_replicate, List.getElem?_replicate]
    by_cases h2 : i - k < n - k
    · rw [if_pos h2, if_pos (by omega)]
    · rw [if_neg h2, if_neg (by omega)]
theorem fill_len {α : Type} {zs : List α} {k n : Nat} {d : α} (hn : zs.length = n) (hk : k ≤ n) : (zs.take k ++ List.replicate (n - k) d).length = n := by simp; omega
theorem fill_end {α : Type} {zs : List α} {k n : Nat} {d : α} (hn : zs.length = n) (hk : n ≤ k) : zs.take k ++ List.replicate (n - k) d = zs := by
  rw [List.take_of_length_le (by omega), show n - k = 0 by omega]; simp

theorem thawed_setCell {w : World} {b : Nat} (h : Thawed w b) (p : Addr) (u : Value) : Thawed (w.setCell p u) b := by
  obtain ⟨cs, e, h⟩ := h
  by_cases hb : b = p.block
  · subst hb
    have hlt := (Array.getElem?_eq_some_iff.1 h).1
    have hv := (Array.getElem?_eq_some_iff.1 h).2
    refine ⟨if p.spot.isSome then cs else cs.setIfInBounds p.off u, e, ?_⟩
    simp only [World.setCell]
    rw [Array.getElem?_eq_getElem (by simpa using hlt), Array.getElem_modify]
    simp [hv]
  · exact ⟨cs, e, by rw [Below.heap_setCell _ _ _ _ hb]; exact h⟩
theorem thawed_stores {g : Nat} (us : List Value) : ∀ (w : World) (off b : Nat), Thawed w b → Thawed (stores w g off us) b := by
  induction us with
  | nil => intro w off b h; exact h
  | cons u us ih => intro w off b h; exact ih _ _ _ (thawed_setCell h _ _)
theorem own_refresh {α : Type} {C : Codec α} {B base : Nat} {w w' : World} {e : TypeId} {v : Value} {as : List α} (h : OwnSl C (Fresh B w) w' base e v as) (ht : ∀ b, Thawed w b → Thawed w' b) : OwnSl C (Fresh B w') w' base e v as :=
  own_keep h (fun b hs _ => ⟨hs.1, ht b hs.2⟩) fun _ _ _ => rfl
theorem own_set_term {B B' base : Nat} {w : World} {e : TypeId} {as : List Term} {g cap n : Nat} (h : OwnSl cTerm (Fresh B w) w base e (.slice (some ⟨g, 0, none⟩) n cap) as) (hn : as.length = n) (k : Nat) (hk : k < n)
    (c : Int) (hc : I64 c) {a : Option Addr} {cap' : Nat} {zs : List Int} (hs : SlRd cInt (Fresh B' w) w a cap' zs) (hB : B ≤ B') (hg : g < B') :
    OwnSl cTerm (Fresh B ((w.setCell ⟨g, k * 2, none⟩ (.int .i64 c)).setCell ⟨g, k * 2 + 1, none⟩ (.slice a zs.length cap'))) ((w.setCell ⟨g, k * 2, none⟩ (.int .i64 c)).setCell ⟨g, k * 2 + 1, none⟩ (.slice a zs.length cap')) base e (.slice (some ⟨g, 0, none⟩) n cap) (as.set k (c, zs)) ∧
      w.grownBy ((w.setCell ⟨g, k * 2, none⟩ (.int .i64 c)).setCell ⟨g, k * 2 + 1, none⟩ (.slice a zs.length cap')) (some g) := by
  have := own_set h hn k hk [.int .i64 c, .slice a zs.length cap'] (c, zs) ⟨[_], [_], rfl, ⟨rfl, hc⟩, a, cap', rfl, hs.keep fun b hb hl => ⟨⟨⟨Nat.le_trans hB hb.1, hb.2⟩, by have := hb.1; omega⟩, rfl⟩⟩
  exact ⟨own_refresh this.1 fun b hb => thawed_setCell (thawed_setCell hb _ _) _ _, this.2⟩
theorem own_at_term {S : Nat → Prop} {w : World} {base : Nat} {e : TypeId} {as : List Term} {g cap n : Nat} (h : OwnSl cTerm S w base e (.slice (some ⟨g, 0, none⟩) n cap) as) (hn : as.length = n) (k : Nat) (hk : k < n) :
    ∃ c zs a cap', as[k]? = some (c, zs) ∧ I64 c ∧ SlRd cInt (fun b => S b ∧ b ≠ g) w a cap' zs ∧ w.cell? ⟨g, k * 2, none⟩ = some (.int .i64 c) ∧ w.cell? ⟨g, k * 2 + 1, none⟩ = some (.slice a zs.length cap') ∧ w.frozen? ⟨g, k * 2, none⟩ = false ∧ w.frozen? ⟨g, k * 2 + 1, none⟩ = false ∧ g < w.heap.size ∧ base ≤ g := by
  obtain ⟨⟨c, zs⟩, cs, h1, ⟨c', d, rfl, ⟨rfl, hc1⟩, a, cap', rfl, hsl⟩, h2, h3, h4, h5⟩ := own_at h hn k hk
  exact ⟨c, zs, a, cap', h1, hc1, hsl, h4 0 _ rfl, h4 1 _ rfl, h5 _, h5 _, h2, h3⟩
theorem own_set_instr {S : Nat → Prop} {base : Nat} {w : World} {e : TypeId} {as : List Instr} {g cap n : Nat} (h : OwnSl cInstr S w base e (.slice (some ⟨g, 0, none⟩) n cap) as) (hn : as.length = n) (k : Nat) (hk : k < n)
    (x y : Int) (hx : I64 x) (hy : I64 y) :
    OwnSl cInstr S ((w.setCell ⟨g, k * 2, none⟩ (.int .i64 x)).setCell ⟨g, k * 2 + 1, none⟩ (.int .i64 y)) base e (.slice (some ⟨g, 0, none⟩) n cap) (as.set k (x, y)) ∧
      w.grownBy ((w.setCell ⟨g, k * 2, none⟩ (.int .i64 x)).setCell ⟨g, k * 2 + 1, none⟩ (.int .i64 y)) (some g) := own_set h hn k hk [.int .i64 x, .int .i64 y] (x, y) ⟨[_], [_], rfl, ⟨rfl, hx⟩, ⟨rfl, hy⟩⟩
theorem own_at_instr {S : Nat → Prop} {w : World} {base : Nat} {e : TypeId} {as : List Instr} {g cap n : Nat} (h : OwnSl cInstr S w base e (.slice (some ⟨g, 0, none⟩) n cap) as) (hn : as.length = n) (k : Nat) (hk : k < n) :
    ∃ x y, as[k]? = some (x, y) ∧ I64 x ∧ I64 y ∧ w.cell? ⟨g, k * 2, none⟩ = some (.int .i64 x) ∧ w.cell? ⟨g, k * 2 + 1, none⟩ = some (.int .i64 y) ∧ w.frozen? ⟨g, k * 2, none⟩ = false ∧ w.frozen? ⟨g, k * 2 + 1, none⟩ = false ∧ g < w.heap.size ∧ base ≤ g := by
  obtain ⟨⟨x, y⟩, cs, h1, ⟨c', d, rfl, ⟨rfl, hc1⟩, ⟨rfl, hc2⟩⟩, h2, h3, h4, h5⟩ := own_at h hn k hk
  exact ⟨x, y, h1, hc1, hc2, h4 0 _ rfl, h4 1 _ rfl, h5 _, h5 _, h2, h3⟩
theorem frz_below {W w1 : World} {n b o : Nat} (hb : Below n W w1) (hlt : b < n) (h : W.frozen? ⟨b, o, none⟩ = false) : w1.frozen? ⟨b, o, none⟩ = false := (hb.frozen (p := ⟨b, o, none⟩) hlt).trans h
theorem cell_set_ne {w : World} {p : Addr} {u v : Value} {b o : Nat} (hne : b ≠ p.block) (h : w.cell? ⟨b, o, none⟩ = some v) : (w.setCell p u).cell? ⟨b, o, none⟩ = some v :=
  (World.cell?_of_block (w := w) (a := ⟨b, o, none⟩) (Below.heap_setCell w p u b hne)).trans h
theorem frz_set_ne {w : World} {p : Addr} {u : Value} {b o : Nat} (hne : b ≠ p.block) (h : w.frozen? ⟨b, o, none⟩ = false) : (w.setCell p u).frozen? ⟨b, o, none⟩ = false :=
  (World.frozen?_of_block (w := w) (a := ⟨b, o, none⟩) (Below.heap_setCell w p u b hne)).trans h
theorem size_set (w : World) (p : Addr) (u : Value) : (w.setCell p u).heap.size = w.heap.size := by simp [World.setCell]
theorem SlRd.set_ne {α : Type} {C : Codec α} {S : Nat → Prop} {w : World} {a : Option Addr} {cap : Nat} {as : List α} (h : SlRd C S w a cap as) {p : Addr} (hp : ∀ b, S b → b ≠ p.block) (u : Value) : SlRd C S (w.setCell p u) a cap as :=
  h.keep fun b hs hl => ⟨hs, Below.heap_setCell w p u b (hp b hs)⟩
theorem wpList_mk {P : Program} {w : World} {ops : Array Oper} {rest : List Oper} {o : Oper} {a : Act} {Q : Exit → Act → World → Prop} (hgd : o.guard = none) (l c : Operand) (t : TypeId)
    (ho : o.op = .makeSlice t l c) {u u' : Value} (hl : a.eval l = u) (hc : a.eval c = u') {v : Value}
    {R : World → Prop} (hrun : ∃ w', (Instr.makeSlice t u u').run P w = .ok v w' ∧ R w')
    (h : ∀ w', R w' → wpList P ops Q rest (a.put o.dst v) w') : wpList P ops Q (o :: rest) a w :=
  wpList_plain hgd fun _ hK => by
    obtain ⟨w', hr, hR⟩ := hrun
    unfold Oper.wp
    simp [execOp, ho, hl, hc, hr, Result.andThen]
    exact hK _ _ (h w' hR)

theorem heap_setCell_ne (w : World) (p : Addr) (u : Value) {b : Nat} (h : b ≠ p.block) : (w.setCell p u).heap[b]? = w.heap[b]? := Below.heap_setCell w p u b h
theorem SlRd.setC {α : Type} {C : Codec α} {B : Nat} {w : World} {a : Option Addr} {cap : Nat} {as : List α} (h : SlRd C (Fresh B w) w a cap as) {p : Addr} (hp : p.block < B) (u : Value) : SlRd C (Fresh B (w.setCell p u)) (w.setCell p u) a cap as :=
  h.keep fun b hs hl => have e := heap_setCell_ne w p u (b := b) (by have := hs.1; omega); ⟨⟨hs.1, hs.2.keep e⟩, e⟩
theorem SlRd.lower {α : Type} {C : Codec α} {B B' : Nat} {w w' : World} {a : Option Addr} {cap : Nat} {as : List α} (h : SlRd C (Fresh B w') w a cap as) (hB : B' ≤ B) : SlRd C (Fresh B' w') w a cap as :=
  h.keep fun b hs hl => ⟨⟨Nat.le_trans hB hs.1, hs.2⟩, rfl⟩
/-- What a function that hands back a slice of its own hands back. -/
def RetSl {α : Type} (C : Codec α) (as : List α) (w : World) (e : Ending) (w' : World) : Prop :=
  ∃ a cap, e = .returned (.slice a as.length cap) ∧ SlRd C (Fresh w.heap.size w') w' a cap as ∧ Below w.heap.size w w'
def RetSlB {α : Type} (C : Codec α) (as : List α) (b : Bool) (w : World) (e : Ending) (w' : World) : Prop :=
  ∃ a cap, e = .returned (.tuple #[.slice a as.length cap, .bool b]) ∧ SlRd C (Fresh w.heap.size w') w' a cap as ∧ Below w.heap.size w w'
def RetTerm (t : Term) (w : World) (e : Ending) (w' : World) : Prop :=
  ∃ a cap, e = .returned (.agg #[.int .i64 t.1, .slice a t.2.length cap]) ∧ SlRd cInt (Fresh w.heap.size w') w' a cap t.2 ∧ Below w.heap.size w w'
theorem nil_rd {α : Type} (C : Codec α) (S : Nat → Prop) (w : World) : SlRd C S w none 0 [] := ⟨Nat.le_refl _, by decide, fun _ => rfl, by simp⟩
/-- A slice of one's own as a result. -/
theorem retSl_own {α : Type} {C : Codec α} {S : Nat → Prop} {w w' : World} {e : TypeId} {v : Value} {as : List α} (h : OwnSl C S w' w.heap.size e v as) (hS : ∀ b, S b → b < w'.heap.size → Fresh w.heap.size w' b) (hb : Below w.heap.size w w') :
    RetSl C as w (.returned v) w' := by
  obtain ⟨a, cap, rfl, hs⟩ := own_rd (own_keep (S' := Fresh w.heap.size w') h hS fun _ _ _ => rfl) (Nat.le_refl _)
  exact ⟨a, cap, rfl, hs, hb⟩
end Go.Proofs.Ytkckhnpdodbffaa
