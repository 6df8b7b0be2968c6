/- Contracts: the places at which the machine can go on. -/
import Derived.Test.YtedmhdinfedhhaaSort2
import Derived.Test.YtedmhdinfedhhaaL07c
import Derived.Test.YtedmhdinfedhhaaL07p
import Derived.Test.YtedmhdinfedhhaaL02y
import Derived.Test.YtedmhdinfedhhaaL08p
namespace Go.Proofs.Ytedmhdinfedhhaa
open Go.RowKit

def targI (k : Nat) (x : Instr) : List Int := if x.1 = 11 then [] else if x.1 = 5 then [x.2] else if x.1 = 6 then putL [(k : Int) + 1] x.2 else [(k : Int) + 1]
def targF (code : List Instr) (k : Nat) : List Int := match code[k]? with
  | some x => targI k x
  | none => []
theorem targF_at {code : List Instr} {k : Nat} {x : Instr} (h : code[k]? = some x) : targF code k = targI k x := by unfold targF; rw [h]
theorem targI_len (k : Nat) (x : Instr) : (targI k x).length ≤ 2 := by
  unfold targI
  split
  · simp
  · split
    · simp
    · split
      · exact putL_len
      · simp
theorem rd_blk {B g cap : Nat} {w : World} {cs : Array Value} {e : TypeId} {zs : List Int} (h : w.heap[g]? = some (.cells cs e (0, 0))) (hB : B ≤ g) (hc : zs.length ≤ cap) (hc2 : cap ≤ 9223372036854775807) (hz : ∀ (i : Nat) (z : Int), zs[i]? = some z → cs[i]? = some (Value.int .i64 z) ∧ I64 z) :
    SlRd cInt (Fresh B w) w (some ⟨g, 0, none⟩) cap zs := by
  refine ⟨hc, hc2, by simp, ?_⟩
  rintro x ⟨⟩ i d hi
  obtain ⟨h1, h2⟩ := hz i d hi
  refine ⟨⟨rfl, ⟨hB, cs, e, h⟩, (Array.getElem?_eq_some_iff.1 h).1⟩, [.int .i64 d], ⟨rfl, h2⟩, fun j u hj => ?_⟩
  match j, hj with
  | 0, hj =>
    simp at hj; subst hj
    rw [cell_of_row w g _ cs e (0, 0) h]
    simpa [cInt] using h1
theorem rd_one {B cap : Nat} {w : World} {e : TypeId} {z : Int} {g : Nat} (h : w.heap[g]? = some (.cells #[.int .i64 z] e (0, 0))) (hB : B ≤ g) (hc : 1 ≤ cap) (hc2 : cap ≤ 9223372036854775807) (hz : I64 z) : SlRd cInt (Fresh B w) w (some ⟨g, 0, none⟩) cap [z] :=
  rd_blk h hB hc hc2 fun i y hi => by
    match i, hi with
    | 0, hi => simp at hi; subst hi; exact ⟨rfl, hz⟩
    | i + 1, hi => simp at hi
theorem grown_bel {w w' : World} {g B : Nat} (h : w.grownBy w' (some g)) (hB : B ≤ g) (hBs : B ≤ w.heap.size) : Below B w w' := ⟨h.os, h.tape, h.output, h.size, fun k hk => h.block k (by omega) (by simp; omega)⟩
set_option maxRecDepth 100000 in
theorem c_targets {S : Nat → Prop} {a : Option Addr} {p : Nat} {code : List Instr} {k : Nat} {w : World} (h : SlRd cInstr S w a p code) (hk : k < code.length) (hn : code.length ≤ 80) :
    Calls Try.prog 119 #[.slice a code.length p, .int .i64 k] w (RetSl cInt (targF code k) w) := by
  obtain ⟨b, off, rfl⟩ := h.some_of hk
  obtain ⟨op, arg, hz, ho, ha, hc, hc', hb⟩ := h.instr_at k hk
  have HT := hid (targF_at hz)
  have i0 : (0 : Int) ≤ (k : Int) := by omega
  have i1 : (k : Int) < (code.length : Int) := by omega
  have hw1 : IntKind.i64.wrap ((k : Int) + 1) = (k : Int) + 1 := wrap_in _ (by omega) (by omega)
  have HB1 : Hid (Below w.heap.size w (w.alloc (.cells #[.int .i64 op, .int .i64 arg] 159))) := (Below.refl _ _).alloc (Nat.le_refl _) _
  clear h hz
  by_cases h11 : op = 11
  · subst h11
    go_enter Try.func119, Try.ntmps119
    go_wp2
    go_ret
    rw [HT.out]
    exact ⟨none, 0, rfl, nil_rd _ _ _, HB1.out⟩
  · have e11 : (op == 11) = false := by rw [beq_eq_false_iff_ne]; exact h11
    by_cases h5 : op = 5
    · subst h5
      clear h11
      go_enter Try.func119, Try.ntmps119
      go_wp2
      go_ret
      rw [HT.out]
      have hs : (w.alloc (.cells #[.int .i64 5, .int .i64 arg] 159)).heap.size = w.heap.size + 1 := by simp
      exact ⟨some ⟨w.heap.size + 1, 0, none⟩, 1, rfl, rd_one (e := 2) (new_at hs) (by omega) (by omega) (by omega) ha, HB1.out.alloc (by rw [hs]; omega) _⟩
    · have e5 : (op == 5) = false := by rw [beq_eq_false_iff_ne]; exact h5
      have hs : (w.alloc (.cells #[.int .i64 op, .int .i64 arg] 159)).heap.size = w.heap.size + 1 := by simp
      by_cases h6 : op = 6
      · subst h6
        have HS2 := hid (c_sort2 (w.heap.size + 1) 2 ((k : Int) + 1) arg 2 ((w.alloc (.cells #[.int .i64 6, .int .i64 arg] 159)).alloc (.cells #[.int .i64 ((k : Int) + 1), .int .i64 arg] 2)) (new_at hs))
        have HB2 : Hid (Below w.heap.size w ((w.alloc (.cells #[.int .i64 6, .int .i64 arg] 159)).alloc (.cells #[.int .i64 ((k : Int) + 1), .int .i64 arg] 2))) := HB1.out.alloc (by rw [hs]; omega) _
        clear h11 h5
        go_enter Try.func119, Try.ntmps119
        go_wp2_with fail
        refine HS2.out.mono ?_
        rintro r w3 ⟨rfl, hs3⟩
        have HC := hid (c_comp2 (w.heap.size + 1) 2 _ _ 2 w3 (by omega) (by omega) hs3.1)
        have HB3 := hid (HB2.out.trans (grown_bel hs3.2 (by omega) (by simp; omega)))
        have hsz3 : w.heap.size ≤ w3.heap.size := HB3.out.size
        clear hs3
        go_wp2_with fail
        refine HC.out.mono ?_
        rintro r w4 ⟨n, cs, rfl, hn1, hcs, hc0, hc1, hcl, hg⟩
        have HB4 := hid (HB3.out.trans (grown_bel hg (by omega) hsz3))
        have HX := hid (And.intro hn1 (And.intro hcs (And.intro hc0 hc1)))
        clear hn1 hcs hc0 hc1 hcl hg
        go_wp2
        go_ret
        rw [HT.out]
        obtain ⟨hn1, hcs, hc0, hc1⟩ := HX.out
        have hk64 : I64 ((k : Int) + 1) := ⟨by omega, by omega⟩
        have hL : targI k (6, arg) = if min ((k : Int) + 1) arg = max ((k : Int) + 1) arg then [min ((k : Int) + 1) arg] else [min ((k : Int) + 1) arg, max ((k : Int) + 1) arg] := by
          unfold targI
          rw [if_neg (by simp), if_neg (by simp), if_pos rfl]
          simp only [putL]
          by_cases h1 : arg ≤ (k : Int) + 1
          · rw [if_pos h1, Int.min_eq_right h1, Int.max_eq_left h1]
            by_cases h2 : arg < (k : Int) + 1
            · rw [if_pos h2, if_neg (by omega)]
            · rw [if_neg h2, if_pos (by omega), show arg = (k : Int) + 1 by omega]
          · rw [if_neg h1, Int.min_eq_left (by omega), Int.max_eq_right (by omega), if_neg (by omega)]
        have hmn : I64 (min ((k : Int) + 1) arg) := by unfold I64 at *; omega
        have hmx : I64 (max ((k : Int) + 1) arg) := by unfold I64 at *; omega
        rw [hL]
        by_cases hmm : min ((k : Int) + 1) arg = max ((k : Int) + 1) arg
        · rw [if_pos hmm] at hn1 ⊢
          subst hn1
          exact ⟨_, 2, rfl, rd_blk hcs (by omega) (by simp) (by omega) (fun i y hi => by
            match i, hi with
            | 0, hi => simp at hi; subst hi; exact ⟨hc0, hmn⟩
            | i + 1, hi => simp at hi), HB4.out⟩
        · rw [if_neg hmm] at hn1 ⊢
          subst hn1
          exact ⟨_, 2, rfl, rd_blk hcs (by omega) (by simp) (by omega) (fun i y hi => by
            match i, hi with
            | 0, hi => simp at hi; subst hi; exact ⟨hc0, hmn⟩
            | 1, hi => simp at hi; subst hi; exact ⟨hc1 hmm, hmx⟩
            | i + 2, hi => simp at hi), HB4.out⟩
      · have e6 : (op == 6) = false := by rw [beq_eq_false_iff_ne]; exact h6
        have HL : Hid (targI k (op, arg) = [(k : Int) + 1]) := by unfold Hid targI; rw [if_neg h11, if_neg h5, if_neg h6]
        have hk64 : I64 ((k : Int) + 1) := ⟨by omega, by omega⟩
        clear h11 h5 h6
        go_enter Try.func119, Try.ntmps119
        go_wp2
        go_ret
        rw [HT.out, HL.out]
        exact ⟨some ⟨w.heap.size + 1, 0, none⟩, 1, rfl, rd_one (e := 2) (new_at hs) (by omega) (by omega) (by omega) hk64, HB1.out.alloc (by rw [hs]; omega) _⟩
def targetsOfF (code : List Instr) (k : Int) : List Int × Bool := if validCode code && inB k 0 ((code.length : Int) - 1) then (targF code k.toNat, true) else ([], false)
theorem targF_len (code : List Instr) (k : Nat) : (targF code k).length ≤ 2 := by
  unfold targF; split
  · exact targI_len _ _
  · simp
theorem targetsOfF_len (code : List Instr) (k : Int) : (targetsOfF code k).1.length ≤ 1048576 := by
  unfold targetsOfF; split
  · have := targF_len code k.toNat; simp only; omega
  · simp
end Go.Proofs.Ytedmhdinfedhhaa
