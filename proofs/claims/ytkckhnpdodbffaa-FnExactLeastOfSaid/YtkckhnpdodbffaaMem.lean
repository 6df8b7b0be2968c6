/- How Go's data lie in memory, read as Lean's lists and pairs. No program in sight. -/
import Derived.Test.YtkckhnpdodbffaaBase
import Derived.Deep.Slices
import Derived.ProofKit
namespace Go.Proofs.Ytkckhnpdodbffaa
open Go.RowKit

def I64 (n : Int) : Prop := -9223372036854775808 ≤ n ∧ n ≤ 9223372036854775807
theorem i64_0 : I64 0 := ⟨by omega, by omega⟩

/-- How a type's values lie in n cells (what they lead to lies in the blocks S). -/
structure Codec (α : Type) where
  n : Nat
  rd : (Nat → Prop) → World → List Value → α → Prop
  len : ∀ {S w cs a}, rd S w cs a → cs.length = n
  one : ∀ {S w cs a}, rd S w cs a → ∀ u ∈ cs, u.oneCell' = true
  keep : ∀ {S S' : Nat → Prop} {w w' : World} {cs a}, (∀ b, S b → b < w.heap.size → S' b ∧ w'.heap[b]? = w.heap[b]?) → rd S w cs a → rd S' w' cs a

def cInt : Codec Int where
  n := 1
  rd := fun _ _ cs a => cs = [.int .i64 a] ∧ I64 a
  len := by rintro _ _ _ _ ⟨rfl, _⟩; rfl
  one := by rintro _ _ _ _ ⟨rfl, _⟩ u hu; simp at hu; subst hu; rfl
  keep := fun _ h => h
def cBool : Codec Bool where
  n := 1
  rd := fun _ _ cs a => cs = [.bool a]
  len := by rintro _ _ _ _ rfl; rfl
  one := by rintro _ _ _ _ rfl u hu; simp at hu; subst hu; rfl
  keep := fun _ h => h
def cStr : Codec (List UInt8) where
  n := 1
  rd := fun _ _ cs a => cs = [strOf a] ∧ a.length ≤ 9223372036854775807
  len := by rintro _ _ _ _ ⟨rfl, _⟩; rfl
  one := by rintro _ _ _ _ ⟨rfl, _⟩ u hu; simp at hu; subst hu; rfl
  keep := fun _ h => h

/-- The elements of a slice that begins at a and has room for cap. -/
def SlRd {α : Type} (C : Codec α) (S : Nat → Prop) (w : World) (a : Option Addr) (cap : Nat) (as : List α) : Prop :=
  as.length ≤ cap ∧ cap ≤ 9223372036854775807 ∧ (a = none → cap = 0) ∧
    ∀ x, a = some x → ∀ (i : Nat) d, as[i]? = some d → (x.spot = none ∧ S x.block ∧ x.block < w.heap.size) ∧ ∃ cs, C.rd S w cs d ∧ ∀ (j : Nat) u, cs[j]? = some u → w.cell? ⟨x.block, x.off + i * C.n + j, none⟩ = some u

theorem SlRd.keep {α : Type} {C : Codec α} {S S' : Nat → Prop} {w w' : World} {a : Option Addr} {cap : Nat} {as : List α} (hk : ∀ b, S b → b < w.heap.size → S' b ∧ w'.heap[b]? = w.heap[b]?)
    (h : SlRd C S w a cap as) : SlRd C S' w' a cap as := by
  obtain ⟨h1, h2, h3, h4⟩ := h
  refine ⟨h1, h2, h3, fun x hx i d hi => ?_⟩
  obtain ⟨⟨h5, h6, h7⟩, cs, r, hc⟩ := h4 x hx i d hi
  obtain ⟨k1, k2⟩ := hk _ h6 h7
  refine ⟨⟨h5, k1, ?_⟩, cs, C.keep hk r, fun j u hj => (World.cell?_of_block (w := w) (a := ⟨x.block, x.off + i * C.n + j, none⟩) k2).trans (hc j u hj)⟩
  rw [show w.heap[x.block]? = some w.heap[x.block] by simp [h7]] at k2
  exact (Array.getElem?_eq_some_iff.1 k2).1

def cSl {α : Type} (C : Codec α) : Codec (List α) where
  n := 1
  rd := fun S w cs as => ∃ a cap, cs = [.slice a as.length cap] ∧ SlRd C S w a cap as
  len := by rintro _ _ _ _ ⟨_, _, rfl, _⟩; rfl
  one := by rintro _ _ _ _ ⟨_, _, rfl, _⟩ u hu; simp at hu; subst hu; rfl
  keep := by rintro S S' w w' cs as hk ⟨a, cap, rfl, h⟩; exact ⟨a, cap, rfl, h.keep hk⟩

def cPair {α β : Type} (C : Codec α) (D : Codec β) : Codec (α × β) where
  n := C.n + D.n
  rd := fun S w cs p => ∃ c d, cs = c ++ d ∧ C.rd S w c p.1 ∧ D.rd S w d p.2
  len := by rintro _ _ _ _ ⟨c, d, rfl, h1, h2⟩; rw [List.length_append, C.len h1, D.len h2]
  one := by
    rintro _ _ _ _ ⟨c, d, rfl, h1, h2⟩ u hu
    rcases List.mem_append.1 hu with hu | hu
    · exact C.one h1 u hu
    · exact D.one h2 u hu
  keep := by rintro S S' w w' cs p hk ⟨c, d, rfl, h1, h2⟩; exact ⟨c, d, rfl, C.keep hk h1, D.keep hk h2⟩

abbrev Term := Int × List Int
abbrev cInts : Codec (List Int) := cSl cInt
abbrev cTerm : Codec Term := cPair cInt cInts
abbrev cTerms : Codec (List Term) := cSl cTerm
abbrev Instr := Int × Int
abbrev cInstr : Codec Instr := cPair cInt cInt
abbrev cCode : Codec (List Instr) := cSl cInstr

abbrev St := List Int × List Int
abbrev cState : Codec St := cPair cInts cInts
/-- A reading outlives whatever makes new blocks alone. -/
theorem Codec.below {α : Type} (C : Codec α) {S : Nat → Prop} {w w' : World} {B : Nat} {cs : List Value} {a : α} (hB : w.heap.size ≤ B) (hb : Below B w w') (h : C.rd S w cs a) : C.rd S w' cs a :=
  C.keep (fun b hs hl => ⟨hs, hb.block b (by omega)⟩) h
theorem SlRd.below {α : Type} {C : Codec α} {S : Nat → Prop} {w w' : World} {a : Option Addr} {cap : Nat} {as : List α} {B : Nat} (h : SlRd C S w a cap as) (hB : w.heap.size ≤ B) (hb : Below B w w') : SlRd C S w' a cap as :=
  h.keep (fun b hs hl => ⟨hs, hb.block b (by omega)⟩)
/-- .. and what touches none of its blocks. -/
theorem SlRd.grown {α : Type} {C : Codec α} {S : Nat → Prop} {w w' : World} {a : Option Addr} {cap : Nat} {as : List α} {row : Option Nat} (h : SlRd C S w a cap as) (hb : w.grownBy w' row) (hr : ∀ b, S b → some b ≠ row) : SlRd C S w' a cap as :=
  h.keep (fun b hs hl => ⟨hs, hb.block b hl (hr b hs)⟩)

theorem SlRd.some_of {α : Type} {C : Codec α} {S : Nat → Prop} {w : World} {a : Option Addr} {cap : Nat} {as : List α} (h : SlRd C S w a cap as) {k : Nat} (hk : k < as.length) : ∃ b off, a = some ⟨b, off, none⟩ := by
  obtain ⟨h1, h2, h3, h4⟩ := h
  cases a with
  | none => have := h3 rfl; omega
  | some x => obtain ⟨⟨h5, _⟩, _⟩ := h4 x rfl k as[k] (by simp [hk]); obtain ⟨b, off, sp⟩ := x; simp at h5; subst h5; exact ⟨b, off, rfl⟩
theorem SlRd.len_le {α : Type} {C : Codec α} {S : Nat → Prop} {w : World} {a : Option Addr} {cap : Nat} {as : List α} (h : SlRd C S w a cap as) : as.length ≤ 9223372036854775807 := Nat.le_trans h.1 h.2.1
/-- Element k of a slice. -/
theorem SlRd.at {α : Type} {C : Codec α} {S : Nat → Prop} {w : World} {b off cap : Nat} {as : List α} (h : SlRd C S w (some ⟨b, off, none⟩) cap as) (k : Nat) (hk : k < as.length) :
    ∃ d cs, as[k]? = some d ∧ C.rd S w cs d ∧ b < w.heap.size ∧ S b ∧ ∀ (j : Nat) u, cs[j]? = some u → w.cell? ⟨b, off + k * C.n + j, none⟩ = some u := by
  obtain ⟨⟨h5, h6, h7⟩, cs, hr, hc⟩ := h.2.2.2 _ rfl k as[k] (by simp [hk])
  exact ⟨as[k], cs, by simp [hk], hr, h7, h6, hc⟩
/-- Element k of a slice of numbers. -/
theorem SlRd.int_at {S : Nat → Prop} {w : World} {b off cap : Nat} {zs : List Int} (h : SlRd cInt S w (some ⟨b, off, none⟩) cap zs) (k : Nat) (hk : k < zs.length) :
    ∃ z, zs[k]? = some z ∧ I64 z ∧ w.cell? ⟨b, off + k, none⟩ = some (.int .i64 z) ∧ b < w.heap.size := by
  obtain ⟨d, cs, h1, ⟨rfl, hz⟩, h7, _, hc⟩ := h.at k hk
  have := hc 0 _ rfl
  simp only [cInt, Nat.mul_one, Nat.add_zero] at this
  exact ⟨_, h1, hz, this, h7⟩
theorem SlRd.term_at {S : Nat → Prop} {w : World} {b off cap : Nat} {ts : List Term} (h : SlRd cTerm S w (some ⟨b, off, none⟩) cap ts) (k : Nat) (hk : k < ts.length) :
    ∃ (c : Int) (zs : List Int) (a : Option Addr) (cap' : Nat), ts[k]? = some (c, zs) ∧ I64 c ∧ SlRd cInt S w a cap' zs ∧ w.cell? ⟨b, off + k * 2, none⟩ = some (.int .i64 c) ∧ w.cell? ⟨b, off + k * 2 + 1, none⟩ = some (.slice a zs.length cap') ∧ b < w.heap.size := by
  obtain ⟨⟨c, zs⟩, cs, h1, ⟨c', d, rfl, ⟨rfl, hc1⟩, a, cap', rfl, hsl⟩, h7, _, hc⟩ := h.at k hk
  exact ⟨c, zs, a, cap', h1, hc1, hsl, hc 0 _ rfl, hc 1 _ rfl, h7⟩

theorem SlRd.drew {α : Type} {C : Codec α} {S : Nat → Prop} {w : World} {a : Option Addr} {cap : Nat} {as : List α} (h : SlRd C S w a cap as) : SlRd C S w.drew a cap as := SlRd.keep (w := w) (w' := w.drew) (fun _ hs _ => ⟨hs, rfl⟩) h
theorem SlRd.alloc {α : Type} {C : Codec α} {S : Nat → Prop} {w : World} {a : Option Addr} {cap : Nat} {as : List α} (h : SlRd C S w a cap as) (o : Obj) : SlRd C S (w.alloc o) a cap as :=
  h.below (Nat.le_refl _) ((Below.refl _ _).alloc (Nat.le_refl _) o)
/-- A box was made, and then something that turned nothing old. -/
theorem bel_box {B : Nat} {w0 w w' : World} {o : Obj} (h : Below B w0 w) (hB : B ≤ w.heap.size) (h1 : Below (w.alloc o).heap.size (w.alloc o) w') : Below B w0 w' :=
  (h.alloc hB o).trans (h1.mono (by rw [World.size_alloc]; omega))
theorem bel_next {B : Nat} {w0 w w' : World} (h : Below B w0 w) (hB : B ≤ w.heap.size) (h1 : Below w.heap.size w w') : Below B w0 w' := h.trans (h1.mono hB)

theorem term_arr {S : Nat → Prop} {w : World} {cs : Array Value} {d : Term} (h : cTerm.rd S w cs.toList d) : ∃ a cap, cs = #[.int .i64 d.1, .slice a d.2.length cap] ∧ SlRd cInt S w a cap d.2 ∧ I64 d.1 := by
  obtain ⟨c, e, he, ⟨rfl, hc⟩, a, cap, rfl, hs⟩ := h
  exact ⟨a, cap, by rw [← Array.toList_inj, he]; rfl, hs, hc⟩
theorem state_arr {S : Nat → Prop} {w : World} {cs : Array Value} {d : St} (h : cState.rd S w cs.toList d) : ∃ a cap b cap', cs = #[.slice a d.1.length cap, .slice b d.2.length cap'] ∧ SlRd cInt S w a cap d.1 ∧ SlRd cInt S w b cap' d.2 ∧ True := by
  obtain ⟨c, e, he, ⟨a, cap, rfl, hs⟩, b, cap', rfl, hs'⟩ := h
  exact ⟨a, cap, b, cap', by rw [← Array.toList_inj, he]; rfl, hs, hs', trivial⟩
theorem instr_arr {S : Nat → Prop} {w : World} {cs : Array Value} {d : Instr} (h : cInstr.rd S w cs.toList d) : cs = #[.int .i64 d.1, .int .i64 d.2] ∧ I64 d.1 ∧ I64 d.2 := by
  obtain ⟨c, e, he, ⟨rfl, h1⟩, ⟨rfl, h2⟩⟩ := h
  exact ⟨by rw [← Array.toList_inj, he]; rfl, h1, h2⟩
theorem cell_below {W w1 : World} {n b o : Nat} {v : Value} (hb : Below n W w1) (hlt : b < n) (h : W.cell? ⟨b, o, none⟩ = some v) : w1.cell? ⟨b, o, none⟩ = some v := (hb.cell (p := ⟨b, o, none⟩) hlt).trans h
/-! ### What the form's reader reads is read by the codecs -/
def Opens (P : Program) (t : TypeId) {α : Type} (C : Codec α) : Prop :=
  P.cellsOf t = C.n ∧ ∀ (H : Type) (enc : TypeId × Value → H) (w : World) (base : Nat) (spare : Nat → Bool) (held : Bool) (fuel : Nat) (cs : List Value) (x : DataW H × List MemPlace),
    DataW.trod enc P w base spare held fuel t cs = some x → ∃ a, C.rd (fun _ => True) w cs a
theorem opens_int {P : Program} {t : TypeId} (h : P.underlying t = some (.int .i64)) (hn : P.cellsOf t = 1) : Opens P t cInt :=
  ⟨hn, fun H enc w base spare held fuel cs x hx => by
    obtain ⟨n, rfl, _, hw⟩ := DataW.trod_int h hx
    refine ⟨n, rfl, ?_⟩
    simp [Lit.wf, IntKind.min, IntKind.max, IntKind.signed, IntKind.bits] at hw
    exact ⟨by omega, by omega⟩⟩
theorem opens_str {P : Program} {t : TypeId} (h : P.underlying t = some .string) (hn : P.cellsOf t = 1) : Opens P t cStr :=
  ⟨hn, fun H enc w base spare held fuel cs x hx => by
    obtain ⟨s, rfl, _, hw⟩ := DataW.trod_string h hx
    exact ⟨s.data.toList, rfl, by unfold maxLen at hw; simpa using hw⟩⟩
theorem opens_bool {P : Program} {t : TypeId} (h : P.underlying t = some .bool) (hn : P.cellsOf t = 1) : Opens P t cBool :=
  ⟨hn, fun H enc w base spare held fuel cs x hx => by
    obtain ⟨b, rfl, _⟩ := DataW.trod_bool h hx
    exact ⟨b, rfl⟩⟩
theorem list_choose {α : Type} {p : Nat → α → Prop} : ∀ (n : Nat), (∀ i, i < n → ∃ a, p i a) → ∃ l : List α, l.length = n ∧ ∀ i a, l[i]? = some a → p i a
  | 0, _ => ⟨[], rfl, by simp⟩
  | n + 1, h => by
    obtain ⟨l, hl, hp⟩ := list_choose n fun i hi => h i (by omega)
    obtain ⟨a, ha⟩ := h n (by omega)
    refine ⟨l ++ [a], by simp [hl], fun i b hb => ?_⟩
    rw [List.getElem?_append] at hb
    split at hb
    · exact hp i b hb
    · rename_i hge
      have : i = n := by
        have := (List.getElem?_eq_some_iff.1 hb).1
        simp at this; omega
      subst this
      rw [hl] at hb; simp at hb; subst hb; exact ha
theorem cells_of {w : World} {base : Nat} {a : Addr} {n : Nat} {cs : List Value} (h : w.cells? base a n = some cs) (hs : a.spot = none) : ∀ (j : Nat) u, cs[j]? = some u → w.cell? ⟨a.block, a.off + j, none⟩ = some u := by
  unfold World.cells? at h
  split at h
  · intro j u hj
    have hl := mapM_some_length h
    have := mapM_some_get h j j (by
      have := (List.getElem?_eq_some_iff.1 hj).1
      simp at hl
      rw [List.getElem?_range (by omega)])
    rw [hj] at this
    have hadd : a.add j = ⟨a.block, a.off + j, none⟩ := by
      obtain ⟨b, o, s⟩ := a
      simp at hs; subst hs
      unfold Addr.add; split
      · simp_all
      · rfl
    rw [← hadd]; exact this
  · cases h
theorem opens_sl {P : Program} {t e : TypeId} {α : Type} {C : Codec α} (h : P.underlying t = some (.slice e)) (hn : P.cellsOf t = 1) (he : Opens P e C) (hC : 0 < C.n) : Opens P t (cSl C) :=
  ⟨hn, fun H enc w base spare held fuel cs x hx => by
    rcases Go.Deep.open_slice h hx with ⟨rfl, _⟩ | ⟨a, len, cap, m, n, D, Pl, rfl, _, hl, hm, hmm, _, hel⟩
    · exact ⟨[], none, 0, rfl, by simp, by decide, fun _ => rfl, by simp⟩
    · have hle : len ≤ m := by rw [hmm]; split <;> omega
      have hch := list_choose (p := fun i d => ∃ cs', w.cells? base (a.add (i * P.cellsOf e)) (P.cellsOf e) = some cs' ∧ C.rd (fun _ => True) w cs' d) len fun i hi => by
        obtain ⟨cs', h1, h2⟩ := hel i (by omega)
        obtain ⟨d, hd⟩ := he.2 H enc w base spare held n cs' _ h2
        exact ⟨d, cs', h1, hd⟩
      obtain ⟨l, hll, hp⟩ := hch
      refine ⟨l, some a, cap, by rw [hll], by omega, by unfold maxLen at hm; simpa using hm, by simp, ?_⟩
      rintro x hx i d hi
      cases hx
      obtain ⟨cs', h1, hd⟩ := hp i d hi
      have hlen := C.len hd
      rw [he.1] at h1
      have hsp : a.spot = none ∧ ∀ (j : Nat) u, cs'[j]? = some u → w.cell? ⟨a.block, a.off + i * C.n + j, none⟩ = some u := by
        have hs : a.spot = none := by
          have hl0 : 0 < l.length := by have := (List.getElem?_eq_some_iff.1 hi).1; omega
          have h00 := hp 0 l[0] (by simp)
          obtain ⟨cs0, h10, hd0⟩ := h00
          rw [he.1] at h10
          unfold World.cells? at h10
          split at h10
          · have hl0 := C.len hd0
            have := mapM_some_get h10 0 0 (by rw [List.getElem?_range hC])
            rw [show cs0[0]? = some cs0[0] by simp] at this
            simp [Addr.add] at this
            unfold World.cell? at this
            split at this
            · split at this
              · cases this
              · rename_i hns; simpa using hns
            · cases this
          · cases h10
        refine ⟨hs, ?_⟩
        by_cases hi0 : i = 0
        · subst hi0
          have := cells_of h1 (by simp [Addr.add, hs])
          simpa [Addr.add] using this
        · have hne : i * C.n ≠ 0 := by
            have := Nat.mul_pos (Nat.pos_of_ne_zero hi0) hC
            omega
          have := cells_of h1 (by simp [Addr.add, hne])
          simpa [Addr.add, hne] using this
      refine ⟨⟨hsp.1, trivial, ?_⟩, cs', hd, hsp.2⟩
      exact World.block_lt_of_cell? w ⟨a.block, a.off + i * C.n + 0, none⟩ (hsp.2 0 cs'[0] (by simp))⟩

/-- The fields of a struct from one place on. -/
def OpensFs (P : Program) (off : Nat) (fs : List Field) {α : Type} (C : Codec α) : Prop :=
  ∀ (H : Type) (enc : TypeId × Value → H) (w : World) (base : Nat) (spare : Nat → Bool) (held : Bool) (n : Nat) (cs : List Value), cs.length = off + C.n →
    (∀ f ∈ fs, ∃ x, DataW.trod enc P w base spare held n f.type ((cs.drop f.offset).take (P.cellsOf f.type)) = some x) → ∃ a, C.rd (fun _ => True) w (cs.drop off) a
theorem opensFs_last {P : Program} {f : Field} {off : Nat} {α : Type} {C : Codec α} (ho : f.offset = off) (h : Opens P f.type C) : OpensFs P off [f] C :=
  fun H enc w base spare held n cs hl hx => by
    obtain ⟨x, hx⟩ := hx f (by simp)
    rw [ho, h.1, List.take_of_length_le (by simp; omega)] at hx
    exact h.2 H enc w base spare held n _ _ hx
theorem opensFs_cons {P : Program} {f : Field} {fs : List Field} {off : Nat} {α β : Type} {C : Codec α} {D : Codec β} (ho : f.offset = off) (h : Opens P f.type C) (hr : OpensFs P (off + C.n) fs D) : OpensFs P off (f :: fs) (cPair C D) :=
  fun H enc w base spare held n cs hl hx => by
    have hl' : cs.length = off + C.n + D.n := by simp only [cPair] at hl; omega
    obtain ⟨x, hx0⟩ := hx f (by simp)
    rw [ho, h.1] at hx0
    obtain ⟨a, ha⟩ := h.2 H enc w base spare held n _ _ hx0
    obtain ⟨b, hb⟩ := hr H enc w base spare held n cs hl' (fun g hg => hx g (by simp [hg]))
    refine ⟨(a, b), (cs.drop off).take C.n, cs.drop (off + C.n), ?_, ha, hb⟩
    rw [← List.drop_drop, List.take_append_drop]
theorem opens_struct {P : Program} {t : TypeId} {fs : Array Field} {α : Type} {C : Codec α} (h : P.underlying t = some (.struct fs)) (hn : P.cellsOf t = C.n) (hf : OpensFs P 0 fs.toList C) : Opens P t C :=
  ⟨hn, fun H enc w base spare held fuel cs x hx => by
    obtain ⟨xs, n, _, _, hl, hlen, hp⟩ := DataW.trod_struct h hx
    have := hf H enc w base spare held n cs (by omega) (fun f hf => by
      obtain ⟨i, hi⟩ := List.getElem?_of_mem hf
      have hi' : fs[i]? = some f := by simpa using hi
      have := hp i f hi'
      have hlt := (Array.getElem?_eq_some_iff.1 hi').1
      exact ⟨xs[i], by rw [this]; simp⟩)
    simpa using this⟩
end Go.Proofs.Ytkckhnpdodbffaa
