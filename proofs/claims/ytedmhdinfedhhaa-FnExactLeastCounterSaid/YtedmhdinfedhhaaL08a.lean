/- Annotated code as the reference reads it: its points, and the places behind an instruction. -/
import Derived.Test.YtedmhdinfedhhaaL08v
import Derived.Test.YtedmhdinfedhhaaL08w
import Derived.Test.YtedmhdinfedhhaaL07k
namespace Go.Proofs.Ytedmhdinfedhhaa
open Go.RowKit

def pointF (ps : List Pt) (at_ : Int) : Int := match ps.findIdx? (fun p => p.1 == at_) with
  | some i => (i : Int)
  | none => -1
theorem pointF_hit {ps : List Pt} {at_ : Int} {k : Nat} {p : Pt} (hn : ∀ q ∈ ps.take k, q.1 ≠ at_) (hk : ps[k]? = some p) (hp : p.1 = at_) : pointF ps at_ = (k : Int) := by
  have hlt := (List.getElem?_eq_some_iff.1 hk).1
  have he := (List.getElem?_eq_some_iff.1 hk).2
  have : ps.findIdx? (fun p => p.1 == at_) = some k := by
    rw [List.findIdx?_eq_some_iff_getElem]
    refine ⟨hlt, by rw [he]; simpa using hp, fun j hj => ?_⟩
    have h9 := hn ps[j] (List.mem_take_iff_getElem.2 ⟨j, by omega, rfl⟩)
    simpa using h9
  unfold pointF; rw [this]
theorem pointF_miss {ps : List Pt} {at_ : Int} (hn : ∀ q ∈ ps, q.1 ≠ at_) : pointF ps at_ = -1 := by
  have : ps.findIdx? (fun p => p.1 == at_) = none := by
    rw [List.findIdx?_eq_none_iff]; intro x hx; simpa using hn x hx
  unfold pointF; rw [this]
theorem pointF_cases (ps : List Pt) (at_ : Int) : (∃ k p, pointF ps at_ = ((k : Nat) : Int) ∧ ps[k]? = some p ∧ p.1 = at_) ∨ (pointF ps at_ = -1 ∧ ∀ q ∈ ps, q.1 ≠ at_) := by
  cases h : ps.findIdx? (fun p => p.1 == at_) with
  | none =>
    refine .inr ⟨by unfold pointF; rw [h], fun q hq => ?_⟩
    have := (List.findIdx?_eq_none_iff.1 h) q hq
    simpa using this
  | some i =>
    obtain ⟨h1, h2, _⟩ := List.findIdx?_eq_some_iff_getElem.1 h
    exact .inl ⟨i, ps[i], by unfold pointF; rw [h], List.getElem?_eq_getElem h1, by simpa using h2⟩
def nextI (k : Nat) (x : Instr) : List Int := if x.1 = 11 then [] else if x.1 = 5 then [x.2] else if x.1 = 6 then [(k : Int) + 1, x.2] else [(k : Int) + 1]
def nextL (code : List Instr) (k : Nat) : List Int := match code[k]? with
  | some x => nextI k x
  | none => []
theorem nextL_at {code : List Instr} {k : Nat} {x : Instr} (h : code[k]? = some x) : nextL code k = nextI k x := by unfold nextL; rw [h]
theorem nextL_mem {code : List Instr} {k : Nat} {t : Int} : t ∈ nextL code k ↔ t ∈ targF code k := by
  unfold nextL targF
  cases code[k]? with
  | none => rfl
  | some x =>
    simp only
    unfold nextI targI
    split
    · rfl
    · split
      · rfl
      · split
        · rw [mem_putL]; simp; exact Or.comm
        · rfl
theorem nextL_len (code : List Instr) (k : Nat) : (nextL code k).length ≤ 2 := by
  unfold nextL
  split
  · unfold nextI; split
    · simp
    · split
      · simp
      · split <;> simp
  · simp
/-- Annotated code in a block g: its code and its points, all below block N. -/
structure An2 (N : Nat) (w : World) (g : Nat) (a2 : Option Addr) (p2 : Nat) (d2 : List Instr) (a3 : Option Addr) (p3 : Nat) (d3 : List Pt) : Prop where
  lt : g < N
  le : N ≤ w.heap.size
  c2 : w.cell? ⟨g, 2, none⟩ = some (.slice a2 d2.length p2)
  c3 : w.cell? ⟨g, 3, none⟩ = some (.slice a3 d3.length p3)
  code : SlRd cInstr (fun b => b < N) w a2 p2 d2
  pts : SlRd cPoint (fun b => b < N) w a3 p3 d3
theorem An2.on {N : Nat} {w w' : World} {g : Nat} {a2 : Option Addr} {p2 : Nat} {d2 : List Instr} {a3 : Option Addr} {p3 : Nat} {d3 : List Pt} (h : An2 N w g a2 p2 d2 a3 p3 d3) (hb : Below N w w') : An2 N w' g a2 p2 d2 a3 p3 d3 :=
  ⟨h.lt, Nat.le_trans h.le hb.size, (hb.cell (p := ⟨g, 2, none⟩) h.lt).trans h.c2, (hb.cell (p := ⟨g, 3, none⟩) h.lt).trans h.c3,
    h.code.keep fun b hb' _ => ⟨hb', hb.block b hb'⟩, h.pts.keep fun b hb' _ => ⟨hb', hb.block b hb'⟩⟩
theorem heap_new2 (w : World) (o o' : Obj) : ((w.alloc o).alloc o').heap[w.heap.size + 1]? = some o' := by
  have := heap_new (w.alloc o) o'; rwa [World.size_alloc] at this
set_option maxRecDepth 100000 in
theorem c_l08Point {N : Nat} {g : Nat} {a2 : Option Addr} {p2 : Nat} {d2 : List Instr} {a3 : Option Addr} {p3 : Nat} {d3 : List Pt} {w : World} (h : An2 N w g a2 p2 d2 a3 p3 d3) (at_ : Int) :
    Calls Try.prog 62 #[.pointer (some ⟨g, 0, none⟩), .int .i64 at_] w fun e w' => e = .returned (.int .i64 (pointF d3 at_)) ∧ Below w.heap.size w w' := by
  have H := hid h
  have c3 := h.c3
  have hl := h.pts.len_le
  have glt := Nat.lt_of_lt_of_le h.lt h.le
  clear h
  go_enter Try.func62, Try.ntmps62
  go_wp2
  go_loopw [5] (fun i wr => ∃ k : Nat, k ≤ d3.length ∧ i = .int .i64 k ∧ Hid (∀ q ∈ d3.take k, q.1 ≠ at_) ∧ Hid (Below w.heap.size w wr)) (fun i _ => d3.length - (intOf i).toNat)
  case atStart => exact ⟨0, Nat.zero_le _, rfl, by unfold Hid; simp, Below.refl _ _⟩
  case round =>
    obtain ⟨k, hk, rfl, HK, HB⟩ := hrel
    have cr := cell_below HB.out glt c3
    by_cases hlt : k < d3.length
    · obtain ⟨b, off, rfl⟩ := H.out.pts.some_of hlt
      obtain ⟨x, a', cap', ts, hz, hx1, hsl, hc, hc', hb⟩ := (H.out.on (HB.out.mono H.out.le)).pts.pt_at k hlt
      have i0 : (0 : Int) ≤ (k : Int) := by omega
      have i1 : (k : Int) < (d3.length : Int) := by omega
      have e1 : decide ((k : Int) < (d3.length : Int)) = true := decide_eq_true i1
      by_cases hxa : x = at_
      · have e2 : (x == at_) = true := by simp [hxa]
        have HF := hid (pointF_hit HK.out hz hxa)
        clear hz hsl hxa
        go_wp2
        go_ret
        rw [HF.out]
        exact ⟨rfl, HB.out⟩
      · have e2 : (x == at_) = false := by simp [hxa]
        have HK2 : Hid (∀ q ∈ d3.take (k + 1), q.1 ≠ at_) := by
          intro q hq
          rw [List.take_add_one, hz] at hq
          rcases List.mem_append.1 hq with h1 | h1
          · exact HK.out q h1
          · simp at h1; rw [h1]; exact hxa
        clear hz hsl hxa
        go_wp2
        go_roundw
        case rel => exact ⟨k + 1, by omega, by go_num, HK2, HB⟩
        case measure => simp [intOf]; omega
    · have e1 : decide ((k : Int) < (d3.length : Int)) = false := by simp; omega
      have HF := hid (pointF_miss (ps := d3) (at_ := at_) fun q hq => HK.out q (by rw [List.take_of_length_le (by omega)]; exact hq))
      go_wp2
      go_ret
      rw [HF.out]
      exact ⟨rfl, HB.out⟩
theorem c_l08Effect (op : Int) (w : World) : Calls Try.prog 112 #[.int .i64 op] w fun e w' => e = .returned (.tuple #[.int .i64 (popsI op), .int .i64 (pushI op)]) ∧ w = w' := by
  by_cases h0 : op = 0
  · subst h0; go_enter Try.func112, Try.ntmps112; go_wp2; go_ret2; exact ⟨rfl, rfl⟩
  by_cases h1 : op = 1
  · subst h1; go_enter Try.func112, Try.ntmps112; go_wp2; go_ret2; exact ⟨rfl, rfl⟩
  by_cases h2 : op = 2
  · subst h2; go_enter Try.func112, Try.ntmps112; go_wp2; go_ret2; exact ⟨rfl, rfl⟩
  by_cases h3 : op = 3
  · subst h3; go_enter Try.func112, Try.ntmps112; go_wp2; go_ret2; exact ⟨rfl, rfl⟩
  by_cases h4 : op = 4
  · subst h4; go_enter Try.func112, Try.ntmps112; go_wp2; go_ret2; exact ⟨rfl, rfl⟩
  by_cases h6 : op = 6
  · subst h6; go_enter Try.func112, Try.ntmps112; go_wp2; go_ret2; exact ⟨rfl, rfl⟩
  by_cases h7 : op = 7
  · subst h7; go_enter Try.func112, Try.ntmps112; go_wp2; go_ret2; exact ⟨rfl, rfl⟩
  by_cases h8 : op = 8
  · subst h8; go_enter Try.func112, Try.ntmps112; go_wp2; go_ret2; exact ⟨rfl, rfl⟩
  by_cases h10 : op = 10
  · subst h10; go_enter Try.func112, Try.ntmps112; go_wp2; go_ret2; exact ⟨rfl, rfl⟩
  have f0 : (op == 0) = false := by simp [h0]
  have f1 : (op == 1) = false := by simp [h1]
  have f2 : (op == 2) = false := by simp [h2]
  have f3 : (op == 3) = false := by simp [h3]
  have f4 : (op == 4) = false := by simp [h4]
  have f6 : (op == 6) = false := by simp [h6]
  have f7 : (op == 7) = false := by simp [h7]
  have f8 : (op == 8) = false := by simp [h8]
  have f10 : (op == 10) = false := by simp [h10]
  have HP : Hid (popsI op = 0) := by unfold Hid popsI; rw [if_neg (by omega), if_neg (by omega)]
  have HU : Hid (pushI op = 0) := by unfold Hid pushI; rw [if_neg (by omega)]
  clear h0 h1 h2 h3 h4 h6 h7 h8 h10
  go_enter Try.func112, Try.ntmps112
  go_wp2
  go_ret2
  rw [HP.out, HU.out]
  exact ⟨rfl, rfl⟩
set_option maxRecDepth 100000 in
theorem c_l08Next {N : Nat} {g : Nat} {a2 : Option Addr} {p2 : Nat} {d2 : List Instr} {a3 : Option Addr} {p3 : Nat} {d3 : List Pt} {w : World} (h : An2 N w g a2 p2 d2 a3 p3 d3) {k : Nat} (hk : k < d2.length) (hn : d2.length ≤ 80) :
    Calls Try.prog 61 #[.pointer (some ⟨g, 0, none⟩), .int .i64 k] w (RetSl cInt (nextL d2 k) w) := by
  obtain ⟨b, off, rfl⟩ := h.code.some_of hk
  obtain ⟨op, arg, hz, ho, ha, hc, hc', hb⟩ := h.code.instr_at k hk
  have c2 := h.c2
  have HT := hid (nextL_at hz)
  have i0 : (0 : Int) ≤ (k : Int) := by omega
  have i1 : (k : Int) < (d2.length : Int) := by omega
  have hw1 : IntKind.i64.wrap ((k : Int) + 1) = (k : Int) + 1 := wrap_in _ (by omega) (by omega)
  have hk64 : I64 ((k : Int) + 1) := ⟨by omega, by omega⟩
  have HB1 : Hid (Below w.heap.size w (w.alloc (.cells #[.int .i64 op, .int .i64 arg] 159))) := (Below.refl _ _).alloc (Nat.le_refl _) _
  have hsz1 : w.heap.size ≤ (w.alloc (.cells #[.int .i64 op, .int .i64 arg] 159)).heap.size := by simp
  have hsz2 : w.heap.size ≤ w.heap.size + 1 := Nat.le_succ _
  clear h hz
  by_cases h11 : op = 11
  · subst h11
    have HT2 : Hid (nextL d2 k = []) := HT.out
    go_enter Try.func61, Try.ntmps61
    go_wp2
    go_ret
    rw [HT2.out]
    exact ⟨some ⟨w.heap.size + 1, 0, none⟩, 0, rfl, rd_blk (cs := #[]) (e := 2) (heap_new2 _ _ _) hsz2 (Nat.le_refl _) (by omega) (fun i y hi => by simp at hi), HB1.out.alloc hsz1 _⟩
  · have e11 : (op == 11) = false := by rw [beq_eq_false_iff_ne]; exact h11
    by_cases h5 : op = 5
    · subst h5
      have HT2 : Hid (nextL d2 k = [arg]) := HT.out
      clear h11
      go_enter Try.func61, Try.ntmps61
      go_wp2
      go_ret
      rw [HT2.out]
      exact ⟨some ⟨w.heap.size + 1, 0, none⟩, 1, rfl, rd_one (heap_new2 _ _ _) hsz2 (by omega) (by omega) ha, HB1.out.alloc hsz1 _⟩
    · have e5 : (op == 5) = false := by rw [beq_eq_false_iff_ne]; exact h5
      by_cases h6 : op = 6
      · subst h6
        have HT2 : Hid (nextL d2 k = [(k : Int) + 1, arg]) := HT.out
        clear h11 h5
        go_enter Try.func61, Try.ntmps61
        go_wp2
        go_ret
        rw [HT2.out]
        refine ⟨some ⟨w.heap.size + 1, 0, none⟩, 2, rfl, rd_blk (cs := #[.int .i64 ((k : Int) + 1), .int .i64 arg]) (e := 2) (heap_new2 _ _ _) hsz2 (by simp) (by omega) (fun i y hi => ?_), HB1.out.alloc hsz1 _⟩
        match i, hi with
        | 0, hi => simp at hi; subst hi; exact ⟨rfl, hk64⟩
        | 1, hi => simp at hi; subst hi; exact ⟨rfl, ha⟩
        | i + 2, hi => simp at hi
      · have e6 : (op == 6) = false := by rw [beq_eq_false_iff_ne]; exact h6
        have HT2 : Hid (nextL d2 k = [(k : Int) + 1]) := by unfold Hid; rw [HT.out]; unfold nextI; rw [if_neg h11, if_neg h5, if_neg h6]
        clear h11 h5 h6
        go_enter Try.func61, Try.ntmps61
        go_wp2
        go_ret
        rw [HT2.out]
        exact ⟨some ⟨w.heap.size + 1, 0, none⟩, 1, rfl, rd_one (heap_new2 _ _ _) hsz2 (by omega) (by omega) hk64, HB1.out.alloc hsz1 _⟩
end Go.Proofs.Ytedmhdinfedhhaa
