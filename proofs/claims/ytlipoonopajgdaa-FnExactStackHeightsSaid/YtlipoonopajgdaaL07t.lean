/- Contracts: the places at which the machine can go on. -/
import Derived.Test.YtlipoonopajgdaaSort2
import Derived.Test.YtlipoonopajgdaaL07c
import Derived.Test.YtlipoonopajgdaaL07p
import Derived.Test.YtlipoonopajgdaaL02y
import Derived.Test.YtlipoonopajgdaaL08p
namespace Go.Proofs.Ytlipoonopajgdaa
open Go.RowKit

def targI (k : Nat) (x : Instr) : List Int := if x.1 = 11 then [] else if x.1 = 5 then [x.2] else if x.1 = 6 then putL [(k : Int) + 1] x.2 else [(k : Int) + 1]
def targF (code : List Instr) (k : Nat) : List Int := match code[k]? with
  | some x => targI k x
  | none => []
theorem targF_at {code : List Instr} {k : Nat} {x : Instr} (h : code[k]? = some x) : targF code k = targI k x := by unfold targF; rw [h]
theorem targI_len (k : Nat) (x : Instr) : (targI k x).length ≤ 2 := by
  unfold targI
  split
  · simp
  · split
    · simp
    · split
      · exact putL_len
      · simp
theorem rd_blk {B g cap : Nat} {w : World} {cs : Array Value} {e : TypeId} {zs : List Int} (h : w.heap[g]? = some (.cells cs e (0, 0))) (hB : B ≤ g) (hc : zs.length ≤ cap) (hc2 : cap ≤ 9223372036854775807) (hz : ∀ (i : Nat) (z : Int), zs[i]? = some z → cs[i]? = some (Value.int .i64 z) ∧ I64 z) :
    SlRd cInt (Fresh B w) w (some ⟨g, 0, none⟩) cap zs := by
  refine ⟨hc, hc2, by simp, ?_⟩
  rintro x ⟨⟩ i d hi
  obtain ⟨h1, h2⟩ := hz i d hi
  refine ⟨⟨rfl, ⟨hB, cs, e, h⟩, (Array.getElem?_eq_some_iff.1 h).1⟩, [.int .i64 d], ⟨rfl, h2⟩, fun j u hj => ?_⟩
  match j, hj with
  | 0, hj =>
    simp at hj; subst hj
    rw [cell_of_row w g _ cs e (0, 0) h]
    simpa [cInt] using h1
theorem rd_one {B cap : Nat} {w : World} {e : TypeId} {z : Int} {g : Nat} (h : w.heap[g]? = some (.cells #[.int .i64 z] e (0, 0))) (hB : B ≤ g) (hc : 1 ≤ cap) (hc2 : cap ≤ 9223372036854775807) (hz : I64 z) : SlRd cInt (Fresh B w) w (some ⟨g, 0, none⟩) cap [z] :=
  rd_blk h hB hc hc2 fun i y hi => by
    match i, hi with
    | 0, hi => simp at hi; subst hi; exact ⟨rfl, hz⟩
    | i + 1, hi => simp at hi
theorem grown_bel {w w' : World} {g B : Nat} (h : w.grownBy w' (some g)) (hB : B ≤ g) (hBs : B ≤ w.heap.size) : Below B w w' := ⟨h.os, h.tape, h.output, h.size, fun k hk => h.block k (by omega) (by simp; omega)⟩
set_option maxRecDepth 100000 in
theorem c_targets {S : Nat → Prop} {a : Option Addr} {p : Nat} {code : List Instr} {k : Nat} {w : World} (h : SlRd cInstr S w a p code) (hk : k < code.length) (hn : code.length ≤ 80) :
    Calls Try.prog 121 #[.slice a code.length p, .int .i64 k] w (RetSl cInt (targF code k) w) := by
  obtain ⟨b, off, rfl⟩ := h.some_of hk
  obtain ⟨op, arg, hz, ho, ha, hc, hc', hb⟩ := h.instr_at k hk
  have HT := hid (targF_at hz)
  have i0 : (0 : Int) ≤ (k : Int) := by omega
  have i1 : (k : Int) < (code.length : Int) := by omega
  have hw1 : IntKind.i64.wrap ((k : Int) + 1) = (k : Int) + 1 := wrap_in _ (by omega) (by omega)
  have HB1 : Hid (Below w.heap.size w (w.alloc (.cells #[.int .i64 op, .int .i64 arg] 169))) := (Below.refl _ _).alloc (Nat.le_refl _) _
  clear h hz
  by_cases h11 : op = 11
  · subst h11
    go_enter Try.func121, Try.ntmps121
    go_wp2
    go_ret
    rw [HT.out]
    exact ⟨none, 0, rfl, nil_rd _ _ _, HB1.out⟩
  · have e11 : (op == 11) = false := by rw [beq_eq_false_iff_ne]; exact h11
    by_cases h5 : op = 5
    · subst h5
      clear h11
      go_enter Try.func121, Try.ntmps121
      go_wp2
      go_ret
      rw [HT.out]
      have hs : (w.alloc (.cells #[.int .i64 5, .int .i64 arg] 169)).heap.size = w.heap.size + 1 := by simp
      exact ⟨some ⟨w.heap.size + 1, 0, none⟩, 1, rfl, rd_one (e := 2) (new_at hs) (by omega) (by omega) (by omega) ha, HB1.out.alloc (by rw [hs]; omega) _⟩
    · have e5 : (op == 5) = false := by rw [beq_eq_false_iff_ne]; exact h5
      have hs : (w.alloc (.cells #[.int .i64 op, .int .i64 arg] 169)).heap.size = w.heap.size + 1 := by simp
      by_cases h6 : op = 6
      · subst h6
        have HS2 := hid (c_sort2 (w.heap.size + 1) 2 ((k : Int) + 1) arg 2 ((w.alloc (.cells #[.int .i64 6, .int .i64 arg] 169)).alloc (.cells #[.int .i64 ((k : Int) + 1), .int .i64 arg] 2)) (new_at hs))
        have HB2 : Hid (Below w.heap.size w ((w.alloc (.cells #[.int .i64 6, .int .i64 arg] 169)).alloc (.cells #[.int .i64 ((k : Int) + 1), .int .i64 arg] 2))) := HB1.out.alloc (by rw [hs]; omega) _
        clear h11 h5
        go_enter Try.func121, Try.ntmps121
        go_wp2_with fail
        refine HS2.out.mono ?_
        rintro r w3 ⟨rfl, hs3⟩
        have HC := hid (c_comp2 (w.heap.size + 1) 2 _ _ 2 w3 (by omega) (by omega) hs3.1)
        have HB3 := hid (HB2.out.trans (grown_bel hs3.2 (by omega) (by simp; omega)))
        have hsz3 : w.heap.size ≤ w3.heap.size := HB3.out.size
        clear hs3
        go_wp2_with fail
        refine HC.out.mono ?_
        rintro r w4 ⟨n, cs, rfl, hn1, hcs, hc0, hc1, hcl, hg⟩
        have HB4 := hid (HB3.out.trans (grown_bel hg (by omega) hsz3))
        have HX := hid (And.intro hn1 (And.intro hcs (And.intro hc0 hc1)))
        clear hn1 hcs hc0 hc1 hcl hg
        go_wp2
        go_ret
        rw [HT.out]
        obtain ⟨hn1, hcs, hc0, hc1⟩ := HX.out
        have hk64 : I64 ((k : Int) + 1) := ⟨by omega, by omega⟩
        have hL : targI k (6, arg) = if min ((k : Int) + 1) arg = max ((k : Int) + 1) arg then [min ((k : Int) + 1) arg] else [min ((k : Int) + 1) arg, max ((k : Int) + 1) arg] := by
          unfold targI
          rw [if_neg (by simp), if_neg (by simp), if_pos rfl]
          simp only [putL]
          by_cases h1 : arg ≤ (k : Int) + 1
          · rw [if_pos h1, Int.min_eq_right h1, Int.max_eq_left h1]
            by_cases h2 : arg < (k : Int) + 1
            · rw [if_pos h2, if_neg (by omega)]
            · rw [if_neg h2, if_pos (by omega), show arg = (k : Int) + 1 by omega]
          · rw [if_neg h1, Int.min_eq_left (by omega), Int.max_eq_right (by omega), if_neg (by omega)]
        have hmn : I64 (min ((k : Int) + 1) arg) := by unfold I64 at *; omega
        have hmx : I64 (max ((k : Int) + 1) arg) := by unfold I64 at *; omega
        rw [hL]
        by_cases hmm : min ((k : Int) + 1) arg = max ((k : Int) + 1) arg
        · rw [if_pos hmm] at hn1 ⊢
          subst hn1
          exact ⟨_, 2, rfl, rd_blk hcs (by omega) (by simp) (by omega) (fun i y hi => by
            match i, hi with
            | 0, hi => simp at hi; subst hi; exact ⟨hc0, hmn⟩
            | i + 1, hi => simp at hi), HB4.out⟩
        · rw [if_neg hmm] at hn1 ⊢
          subst hn1
          exact ⟨_, 2, rfl, rd_blk hcs (by omega) (by simp) (by omega) (fun i y hi => by
            match i, hi with
            | 0, hi => simp at hi; subst hi; exact ⟨hc0, hmn⟩
            | 1, hi => simp at hi; subst hi; exact ⟨hc1 hmm, hmx⟩
            | i + 2, hi => simp at hi), HB4.out⟩
      · have e6 : (op == 6) = false := by rw [beq_eq_false_iff_ne]; exact h6
        have HL : Hid (targI k (op, arg) = [(k : Int) + 1]) := by unfold Hid targI; rw [if_neg h11, if_neg h5, if_neg h6]
        have hk64 : I64 ((k : Int) + 1) := ⟨by omega, by omega⟩
        clear h11 h5 h6
        go_enter Try.func121, Try.ntmps121
        go_wp2
        go_ret
        rw [HT.out, HL.out]
        exact ⟨some ⟨w.heap.size + 1, 0, none⟩, 1, rfl, rd_one (e := 2) (new_at hs) (by omega) (by omega) (by omega) hk64, HB1.out.alloc (by rw [hs]; omega) _⟩
def targetsOfF (code : List Instr) (k : Int) : List Int × Bool := if validCode code && inB k 0 ((code.length : Int) - 1) then (targF code k.toNat, true) else ([], false)
theorem targF_len (code : List Instr) (k : Nat) : (targF code k).length ≤ 2 := by
  unfold targF; split
  · exact targI_len _ _
  · simp
theorem targetsOfF_len (code : List Instr) (k : Int) : (targetsOfF code k).1.length ≤ 1048576 := by
  unfold targetsOfF; split
  · have := targF_len code k.toNat; simp only; omega
  · simp
theorem c_TargetsOf {S : Nat → Prop} {a : Option Addr} {p : Nat} {code : List Instr} {k : Int} {w : World} (h : SlRd cInstr S w a p code) :
    Calls Try.prog 61 #[.slice a code.length p, .int .i64 k] w (RetSlB cInt (targetsOfF code k).1 (targetsOfF code k).2 w) := by
  have H := hid h
  clear h
  obtain ⟨r, hr⟩ : ∃ r, validCode code = r := ⟨_, rfl⟩
  obtain ⟨q, hq⟩ : ∃ q, inB k 0 ((code.length : Int) - 1) = q := ⟨_, rfl⟩
  have HR := hid hr
  have HQ := hid hq
  have HF : Hid (targetsOfF code k = if r && q then (targF code k.toNat, true) else ([], false)) := by unfold Hid targetsOfF; rw [hr, hq]
  cases r
  · clear hr hq
    go_enter Try.func61, Try.ntmps61
    go_wp2_with (go_at_call 93; refine (c_ValidCode _ _ _ _ H.out).mono ?_; rintro e w1 ⟨rfl, hb1⟩; rw [HR.out]; have HB1 := hid hb1; clear hb1)
    go_ret2
    rw [HF.out]
    exact ⟨none, 0, rfl, nil_rd _ _ _, HB1.out⟩
  · have hn80 := (validCode_iff hr).2.1
    have hn6 : code.length ≤ 1000000 := by omega
    cases q
    · clear hr hq
      go_enter Try.func61, Try.ntmps61
      go_wp2_with (first | (go_at_call 93; refine (c_ValidCode _ _ _ _ H.out).mono ?_; rintro e w1 ⟨rfl, hb1⟩; rw [HR.out]; have HB1 := hid hb1; clear hb1) | (go_at_call 95; refine (c_isIndex _ _ _ hn6).mono ?_; rintro e w2 ⟨rfl, rfl⟩; rw [HQ.out]))
      go_ret2
      rw [HF.out]
      exact ⟨none, 0, rfl, nil_rd _ _ _, HB1.out⟩
    · obtain ⟨h0, h1⟩ := inB_iff.1 hq
      obtain ⟨K, rfl⟩ := Int.eq_ofNat_of_zero_le h0
      have hK : K < code.length := by omega
      clear hr hq h0 h1
      go_enter Try.func61, Try.ntmps61
      go_wp2_with (first | (go_at_call 93; refine (c_ValidCode _ _ _ _ H.out).mono ?_; rintro e w1 ⟨rfl, hb1⟩; rw [HR.out]; have HB1 := hid hb1; have H1 := hid (H.out.below (Nat.le_refl _) hb1); clear hb1) | (go_at_call 95; refine (c_isIndex _ _ _ hn6).mono ?_; rintro e w2 ⟨rfl, rfl⟩; rw [HQ.out]) | (go_at_call 121; refine (c_targets H1.out hK hn80).mono ?_; rintro e w2 ⟨a2, p2, rfl, hs2, hb2⟩; have HS2 := hid hs2; have HB2 := hid (bel_next HB1.out HB1.out.size hb2); have hz1 := HB1.out.size; clear hs2 hb2))
      go_ret2
      rw [HF.out]
      exact ⟨a2, p2, rfl, HS2.out.lower hz1, HB2.out⟩
set_option maxRecDepth 100000 in
theorem c_l07Targets {S : Nat → Prop} {a : Option Addr} {p : Nat} {code : List Instr} {k : Nat} {w : World} (h : SlRd cInstr S w a p code) (hk : k < code.length) (hn : code.length ≤ 80) :
    Calls Try.prog 119 #[.slice a code.length p, .int .i64 k] w (RetSl cInt (targF code k) w) := by
  obtain ⟨b, off, rfl⟩ := h.some_of hk
  obtain ⟨op, arg, hz, ho, ha, hc, hc', hb⟩ := h.instr_at k hk
  have HT := hid (targF_at hz)
  have i0 : (0 : Int) ≤ (k : Int) := by omega
  have i1 : (k : Int) < (code.length : Int) := by omega
  have hw1 : IntKind.i64.wrap ((k : Int) + 1) = (k : Int) + 1 := wrap_in _ (by omega) (by omega)
  have hk64 : I64 ((k : Int) + 1) := ⟨by omega, by omega⟩
  clear h hz
  by_cases h11 : op = 11
  · subst h11
    go_enter Try.func119, Try.ntmps119
    go_wp2
    go_ret
    rw [HT.out]
    exact ⟨some ⟨w.heap.size, 0, none⟩, 0, rfl, empty_rd _ _ _ _, (Below.refl _ _).alloc (Nat.le_refl _) _⟩
  · have e11 : (op == 11) = false := by rw [beq_eq_false_iff_ne]; exact h11
    by_cases h5 : op = 5
    · subst h5
      clear h11
      go_enter Try.func119, Try.ntmps119
      go_wp2
      go_ret
      rw [HT.out]
      exact ⟨some ⟨w.heap.size, 0, none⟩, 1, rfl, rd_one (e := 2) (heap_new _ _) (Nat.le_refl _) (by omega) (by omega) ha, (Below.refl _ _).alloc (Nat.le_refl _) _⟩
    · have e5 : (op == 5) = false := by rw [beq_eq_false_iff_ne]; exact h5
      by_cases h6 : op = 6
      · subst h6
        have HL := hid (rd_one (B := 0) (cap := 1) (w := w.alloc (.cells #[.int .i64 ((k : Int) + 1)] 2)) (heap_new _ _) (Nat.zero_le _) (by omega) (by omega) hk64)
        have HB1 : Hid (Below w.heap.size w (w.alloc (.cells #[.int .i64 ((k : Int) + 1)] 2))) := (Below.refl _ _).alloc (Nat.le_refl _) _
        have HTL : Hid (targI k (6, arg) = putL [(k : Int) + 1] arg) := rfl
        clear h11 h5
        go_enter Try.func119, Try.ntmps119
        go_wp2_with fail
        refine (c_l00Put (l := [(k : Int) + 1]) HL.out (by simp) ha).mono ?_
        rintro r w2 ⟨a2, p2, rfl, hs2, hb2⟩
        have HS2 := hid hs2
        have HB2 := hid (HB1.out.trans (hb2.mono (by simp)))
        clear hs2 hb2
        go_wp2
        go_ret
        rw [HT.out, HTL.out]
        exact ⟨a2, p2, rfl, HS2.out.lower (by simp), HB2.out⟩
      · have e6 : (op == 6) = false := by rw [beq_eq_false_iff_ne]; exact h6
        have HL : Hid (targI k (op, arg) = [(k : Int) + 1]) := by unfold Hid targI; rw [if_neg h11, if_neg h5, if_neg h6]
        clear h11 h5 h6
        go_enter Try.func119, Try.ntmps119
        go_wp2
        go_ret
        rw [HT.out, HL.out]
        exact ⟨some ⟨w.heap.size, 0, none⟩, 1, rfl, rd_one (e := 2) (heap_new _ _) (Nat.le_refl _) (by omega) (by omega) hk64, (Below.refl _ _).alloc (Nat.le_refl _) _⟩
theorem c_sTargetsOf {S : Nat → Prop} {a : Option Addr} {p : Nat} {code : List Instr} {k : Int} {w : World} (h : SlRd cInstr S w a p code) :
    Calls Try.prog 59 #[.slice a code.length p, .int .i64 k] w (RetSlB cInt (targetsOfF code k).1 (targetsOfF code k).2 w) := by
  have H := hid h
  clear h
  obtain ⟨r, hr⟩ : ∃ r, validCode code = r := ⟨_, rfl⟩
  obtain ⟨q, hq⟩ : ∃ q, inB k 0 ((code.length : Int) - 1) = q := ⟨_, rfl⟩
  have HR := hid hr
  have HQ := hid hq
  have HF : Hid (targetsOfF code k = if r && q then (targF code k.toNat, true) else ([], false)) := by unfold Hid targetsOfF; rw [hr, hq]
  cases r
  · clear hr hq
    go_enter Try.func59, Try.ntmps59
    go_wp2_with (go_at_call 118; refine (c_l07Is _ _ _ _ H.out).mono ?_; rintro e w1 ⟨rfl, hb1⟩; rw [HR.out]; have HB1 := hid hb1; clear hb1)
    go_ret2
    rw [HF.out]
    exact ⟨none, 0, rfl, nil_rd _ _ _, HB1.out⟩
  · have hn80 := (validCode_iff hr).2.1
    have hwl : IntKind.i64.wrap ((code.length : Int) - 1) = (code.length : Int) - 1 := wrap_in _ (by omega) (by omega)
    cases q
    · clear hr hq
      go_enter Try.func59, Try.ntmps59
      go_wp2_with (first | (go_at_call 118; refine (c_l07Is _ _ _ _ H.out).mono ?_; rintro e w1 ⟨rfl, hb1⟩; rw [HR.out]; have HB1 := hid hb1; clear hb1) | (go_at_call 102; refine (c_l00In _ _ _ _).mono ?_; rintro e w2 ⟨rfl, rfl⟩; rw [HQ.out]))
      go_ret2
      rw [HF.out]
      exact ⟨none, 0, rfl, nil_rd _ _ _, HB1.out⟩
    · obtain ⟨h0, h1⟩ := inB_iff.1 hq
      obtain ⟨K, rfl⟩ := Int.eq_ofNat_of_zero_le h0
      have hK : K < code.length := by omega
      clear hr hq h0 h1
      go_enter Try.func59, Try.ntmps59
      go_wp2_with (first | (go_at_call 118; refine (c_l07Is _ _ _ _ H.out).mono ?_; rintro e w1 ⟨rfl, hb1⟩; rw [HR.out]; have HB1 := hid hb1; have H1 := hid (H.out.below (Nat.le_refl _) hb1); clear hb1) | (go_at_call 102; refine (c_l00In _ _ _ _).mono ?_; rintro e w2 ⟨rfl, rfl⟩; rw [HQ.out]) | (go_at_call 119; refine (c_l07Targets H1.out hK hn80).mono ?_; rintro e w2 ⟨a2, p2, rfl, hs2, hb2⟩; have HS2 := hid hs2; have HB2 := hid (bel_next HB1.out HB1.out.size hb2); have hz1 := HB1.out.size; clear hs2 hb2))
      go_ret2
      rw [HF.out]
      exact ⟨a2, p2, rfl, HS2.out.lower hz1, HB2.out⟩
end Go.Proofs.Ytlipoonopajgdaa
