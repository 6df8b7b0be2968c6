/- Contracts: the events of a program. -/
import Derived.Test.YtedmhdinfedhhaaEvP
import Derived.Test.YtedmhdinfedhhaaL03v
import Derived.Test.YtedmhdinfedhhaaHProg
import Derived.Test.YtedmhdinfedhhaaQueue
import Derived.Test.YtedmhdinfedhhaaL02y
import Derived.Test.YtedmhdinfedhhaaShelf
import Derived.Sort.Grow
namespace Go.Proofs.Ytedmhdinfedhhaa
open Go.RowKit Go.Sort

def evL (ps : List Stmt) : List Int := (ps.filter fun s => s.1 == 5).map fun s => s.2.2.1
theorem evL_take {ps : List Stmt} {k : Nat} {s : Stmt} (h : ps[k]? = some s) : evL (ps.take (k + 1)) = evL (ps.take k) ++ if s.1 == 5 then [s.2.2.1] else [] := by
  unfold evL
  rw [List.take_add_one, h, List.filter_append, List.map_append]
  congr 1
  cases hc : (s.1 == 5) <;> simp [hc]
theorem evL_len (ps : List Stmt) : (evL ps).length ≤ ps.length := by unfold evL; rw [List.length_map]; exact List.length_filter_le _ _
def eventsF (p : Pg) : List Int × Bool := if progF p then (setF (evL p.2.1), true) else ([], false)
theorem progF_len {p : Pg} (h : progF p = true) : p.2.1.length ≤ 30 := by
  unfold progF at h; simp only [Bool.and_eq_true] at h; exact (body_walk h.1.1).1
theorem eventsF_len (p : Pg) : (eventsF p).1.length ≤ 1048576 := by
  unfold eventsF
  split
  · rename_i h
    have h1 := progF_len h
    have h2 := setF_len (evL p.2.1)
    have h3 := evL_len p.2.1
    simp only; omega
  · simp
/-- The cells of an own slice written anew. -/
theorem ownQ_putRow {w : World} {Bk : Nat → Prop} {g n cap : Nat} {zs : List Int} (h : OwnQ w Bk (.slice (some ⟨g, 0, none⟩) n cap) zs) (ys : List Int) (m : Nat) (hm : m ≤ ys.length) (hy : ys.length = zs.length) (h64 : ∀ y ∈ ys, I64 y) (q : Nat) (os : Array Obj) :
    OwnQ (grow (putRow (Value.int .i64) (Sort.ahead w q) g 0 ys.toArray) os) Bk (.slice (some ⟨g, 0, none⟩) m cap) (ys.take m) ∧ KeptB Bk w (grow (putRow (Value.int .i64) (Sort.ahead w q) g 0 ys.toArray) os) := by
  obtain ⟨g', off, cap', cur, e, he, h2, h3, h4, h5, h6, h7⟩ := h
  cases he
  have hgl := (Array.getElem?_eq_some_iff.1 h3).1
  have hsz : (putRow (Value.int .i64) (Sort.ahead w q) g 0 ys.toArray).heap.size = w.heap.size := by unfold putRow mapBlock Sort.ahead; simp
  have hg : (grow (putRow (Value.int .i64) (Sort.ahead w q) g 0 ys.toArray) os).heap[g]? = some (.cells (putCells (Value.int .i64) 0 ys.toArray cur) e (0, 0)) := by
    unfold grow
    show (_ ++ os)[g]? = _
    rw [Array.getElem?_append_left (by rw [hsz]; exact hgl)]
    unfold putRow mapBlock Sort.ahead
    simp only [Array.getElem?_modify, if_true]
    rw [h3]; rfl
  refine ⟨⟨g, 0, cap, _, e, by rw [List.length_take]; congr 1; omega, h2, hg, by rw [List.length_take]; omega, h5, by unfold putCells; simpa using h6, fun i z hi => ?_⟩, rfl, rfl, rfl, ?_, fun k hk hn => ?_⟩
  · rw [List.getElem?_take] at hi
    split at hi
    · rename_i him
      have hil := (List.getElem?_eq_some_iff.1 hi).1
      refine ⟨?_, h64 z (List.mem_of_getElem? hi)⟩
      unfold putCells
      rw [Array.getElem?_mapIdx, Nat.zero_add]
      have hc : i < cur.size := by omega
      rw [Array.getElem?_eq_getElem hc]
      simp only [Option.map_some]
      rw [if_pos (by simp; omega)]
      have : ys.toArray[i - 0]! = z := by
        rw [Nat.sub_zero]
        simp [hil, (List.getElem?_eq_some_iff.1 hi).2]
      rw [this]
    · cases hi
  · show w.heap.size ≤ (_ ++ os).size
    rw [Array.size_append, hsz]; omega
  · have hne : k ≠ g := fun e => hn (by rw [e]; exact h2)
    unfold grow
    show (_ ++ os)[k]? = _
    rw [Array.getElem?_append_left (by rw [hsz]; exact hk)]
    unfold putRow mapBlock Sort.ahead
    simp only [Array.getElem?_modify]
    rw [if_neg (by omega)]
theorem ownQ_holds {w : World} {Bk : Nat → Prop} {g n cap : Nat} {zs : List Int} (h : OwnQ w Bk (.slice (some ⟨g, 0, none⟩) n cap) zs) : Holds (Value.int .i64) w g 0 zs.toArray ∧ g < w.heap.size ∧ zs.length ≤ cap ∧ cap ≤ 9223372036854775807 ∧ Bk g ∧ ∀ z ∈ zs, I64 z := by
  obtain ⟨g', off, cap', cur, e, he, h2, h3, h4, h5, h6, h7⟩ := h
  cases he
  refine ⟨fun j hj => ?_, (Array.getElem?_eq_some_iff.1 h3).1, h4, h5, h2, fun z hz => ?_⟩
  · have hj2 : j < zs.length := by simpa using hj
    have h8 := (h7 j _ (List.getElem?_eq_getElem hj2)).1
    rw [cell_of_row w g _ cur e (0, 0) h3, h8]
    refine ⟨by simp [hj2], frozen_of_row w g _ cur e h3⟩
  · obtain ⟨i, hi, rfl⟩ := List.mem_iff_getElem.1 hz
    exact (h7 i _ (List.getElem?_eq_getElem hi)).2
theorem ownQ_rd {w : World} {Bk : Nat → Prop} {v : Value} {zs : List Int} (h : OwnQ w Bk v zs) : ∃ a cap, v = .slice a zs.length cap ∧ SlRd cInt (fun b => Bk b ∧ Thawed w b) w a cap zs := by
  obtain ⟨g, off, cap, cur, e, rfl, h2, h3, h4, h5, h6, h7⟩ := h
  refine ⟨_, cap, rfl, h4, h5, by simp, ?_⟩
  rintro x hx i d hi
  cases hx
  obtain ⟨h8, h9⟩ := h7 i d hi
  refine ⟨⟨rfl, ⟨h2, cur, e, h3⟩, (Array.getElem?_eq_some_iff.1 h3).1⟩, [_], ⟨rfl, h9⟩, fun j u hj => ?_⟩
  match j, hj with
  | 0, hj =>
    simp at hj; subst hj
    simp only [cInt, Nat.mul_one, Nat.add_zero]
    rw [cell_of_row w g _ cur e (0, 0) h3]; exact h8
theorem own_q2 {w : World} {base : Nat} {e : TypeId} {v : Value} {zs : List Int} (h : OwnSl cInt (fun _ => False) w base e v zs) : (v = .slice none 0 0 ∧ zs = []) ∨ OwnQ w (fun b => base ≤ b) v zs := by
  obtain ⟨xs, hr, hel⟩ := h
  rcases hr.2 with ⟨h1, h2⟩ | ⟨g, cap, cur, rfl, hb, hg, hnc, hcm, hcs, htk⟩
  · exact .inl ⟨h1, List.eq_nil_of_length_eq_zero h2⟩
  · refine .inr ⟨g, 0, cap, cur, e, rfl, hb, hg, hnc, by unfold maxLen at hcm; exact hcm, by rw [hcs]; simp [cInt], fun i z hi => ?_⟩
    obtain ⟨cs, ⟨rfl, hz⟩, hc⟩ := hel i z hi
    have h9 := hc 0 _ rfl
    have hn : cInt.n = 1 := rfl
    rw [← htk, hn, Nat.mul_one, Nat.mul_one, Nat.add_zero] at h9
    have hlt : i < zs.length := (List.getElem?_eq_some_iff.1 hi).1
    rw [List.getElem?_take, if_pos hlt] at h9
    refine ⟨?_, hz⟩
    rw [Nat.zero_add, ← Array.getElem?_toList]; exact h9
theorem own_some2 {α : Type} {C : Codec α} {S : Nat → Prop} {w : World} {base : Nat} {e : TypeId} {v : Value} {zl : List α} (h : OwnSl C S w base e v zl) (hn : 1 ≤ zl.length) : ∃ g cap, v = .slice (some ⟨g, 0, none⟩) zl.length cap ∧ base ≤ g ∧ g < w.heap.size := by
  obtain ⟨xs, hr, _⟩ := h
  rcases hr.2 with ⟨h1, h2⟩ | ⟨g, cap, cur, h1, h2, h3, _⟩
  · omega
  · exact ⟨g, cap, h1, h2, (Array.getElem?_eq_some_iff.1 h3).1⟩
theorem compact_le (zs : List Int) : (Lib.compact zs).length ≤ zs.length := by
  unfold Lib.compact Lib.compactUpTo
  rw [List.length_map]
  exact Nat.le_trans (List.length_filter_le _ _) (by simp)
set_option maxHeartbeats 4000000 in
set_option maxRecDepth 100000 in
theorem c_EventsIn {S : Nat → Prop} {a0 : Option Addr} {p0 : Nat} {d0 : List Term} {a1 : Option Addr} {p1 : Nat} {d1 : List Stmt} {a2 : Option Addr} {p2 : Nat} {d2 : List Term} {w : World} (h0 : SlRd cTerm S w a0 p0 d0) (h1 : SlRd cStmt S w a1 p1 d1) (h2 : SlRd cTerm S w a2 p2 d2) :
    Calls Try.prog 43 #[.agg #[.slice a0 d0.length p0, .slice a1 d1.length p1, .slice a2 d2.length p2]] w (RetSlB cInt (eventsF (d0, d1, d2)).1 (eventsF (d0, d1, d2)).2 w) := by
  have H0 := hid (h0.alloc (.cells #[.slice a0 d0.length p0, .slice a1 d1.length p1, .slice a2 d2.length p2] 75))
  have H1 := hid (h1.alloc (.cells #[.slice a0 d0.length p0, .slice a1 d1.length p1, .slice a2 d2.length p2] 75))
  have H2 := hid (h2.alloc (.cells #[.slice a0 d0.length p0, .slice a1 d1.length p1, .slice a2 d2.length p2] 75))
  have HB : Hid (Below w.heap.size w (w.alloc (.cells #[.slice a0 d0.length p0, .slice a1 d1.length p1, .slice a2 d2.length p2] 75))) := (Below.refl _ _).alloc (Nat.le_refl _) _
  have t1 : (w.alloc (.cells #[.slice a0 d0.length p0, .slice a1 d1.length p1, .slice a2 d2.length p2] 75)).cell? ⟨w.heap.size, 1, none⟩ = some (.slice a1 d1.length p1) := by rw [World.cell?_alloc_at _ _ _ _ rfl]; rfl
  have z0 : w.heap.size < (w.alloc (.cells #[.slice a0 d0.length p0, .slice a1 d1.length p1, .slice a2 d2.length p2] 75)).heap.size := by simp
  have hl1 := h1.len_le
  obtain ⟨r, hr⟩ : ∃ r, progF (d0, d1, d2) = r := ⟨_, rfl⟩
  have HR := hid hr
  have HC := hid (c_ValidProgram H0.out H1.out H2.out)
  rw [hr] at HC
  clear h0 h1 h2 hr
  cases r
  · have HF : Hid (eventsF (d0, d1, d2) = ([], false)) := by unfold Hid eventsF; rw [HR.out]; rfl
    go_enter Try.func43, Try.ntmps43
    go_wp2_with fail
    generalize w.alloc (.cells #[.slice a0 d0.length p0, .slice a1 d1.length p1, .slice a2 d2.length p2] 75) = W at *
    refine HC.out.mono ?_
    rintro e w1 ⟨rfl, hb1⟩
    have HB1 := hid (bel_next HB.out HB.out.size hb1)
    clear hb1
    go_wp2
    go_ret2
    rw [HF.out]
    exact ⟨none, 0, rfl, nil_rd _ _ _, HB1.out⟩
  · have HF : Hid (eventsF (d0, d1, d2) = (setF (evL d1), true)) := by unfold Hid eventsF; rw [HR.out]; rfl
    have h30 := progF_len HR.out
    simp only at h30
    go_enter Try.func43, Try.ntmps43
    go_wp2_with fail
    generalize w.alloc (.cells #[.slice a0 d0.length p0, .slice a1 d1.length p1, .slice a2 d2.length p2] 75) = W at *
    refine HC.out.mono ?_
    rintro e w1 ⟨rfl, hb1⟩
    have HB1 := hid (bel_next HB.out HB.out.size hb1)
    have H11 := hid (H1.out.below (Nat.le_refl _) hb1)
    have t11 := cell_below hb1 z0 t1
    have z1 := Nat.lt_of_lt_of_le z0 hb1.size
    clear hb1 t1 z0 H0 H1 H2 HB HC HR
    go_wp2
    go_loopw [4, 13] (fun v i wr => ∃ k : Nat, k ≤ d1.length ∧ i = .int .i64 k ∧ Hid (OwnSl cInt (fun _ => False) wr w1.heap.size 2 v (evL (d1.take k))) ∧ Hid (Below w1.heap.size w1 wr)) (fun _ i _ => d1.length - (intOf i).toNat)
    case atStart => exact ⟨0, Nat.zero_le _, rfl, own_nil _ _ _ _ _, Below.refl _ _⟩
    case round =>
      obtain ⟨k, hk, rfl, HO, HBR⟩ := hrel
      have hsz := HBR.out.size
      by_cases hlt : k < d1.length
      · obtain ⟨b, off, rfl⟩ := H11.out.some_of hlt
        obtain ⟨s0, s1, s2, s3, b4, q4, s4, s5, b6, q6, s6, b7, q7, s7, hz, j0, j1, j2, j3, j5, hs4, hs6, hs7, hc0, hc1, hc2, hc3, hc4, hc5, hc6, hc7, hb⟩ := (H11.out.below (Nat.le_refl _) HBR.out).stmt_at k hlt
        have HT := hid (evL_take hz)
        have hel := evL_len (d1.take k)
        rw [List.length_take] at hel
        have i0 : (0 : Int) ≤ (k : Int) := by omega
        have i1 : (k : Int) < (d1.length : Int) := by omega
        clear hz hs4 hs6 hs7
        by_cases h5 : s0 = 5
        · have e5 : (s0 == 5) = true := by simpa using h5
          have HT2 : Hid (evL (d1.take (k + 1)) = evL (d1.take k) ++ [s2]) := by unfold Hid; rw [HT.out]; simp [h5]
          clear h5
          have HOA := hid (own_alloc HO.out (.cells #[.int .i64 s0, .int .i64 s1, .int .i64 s2, .int .i64 s3, .slice b4 s4.length q4, .int .i64 s5, .slice b6 s6.length q6, .slice b7 s7.length q7] 144))
          have HBA := hid (HBR.out.alloc hsz (.cells #[.int .i64 s0, .int .i64 s1, .int .i64 s2, .int .i64 s3, .slice b4 s4.length q4, .int .i64 s5, .slice b6 s6.length q6, .slice b7 s7.length q7] 144))
          go_wp2_with (at_builtin; refine app_own (C := cInt) rfl (.tmp 20) (.tmp 23) _ rfl slI64 rfl (by rw [World.size_alloc]; rfl) HOA.out no_blk s2 (rd_int j2) (by omega) HBA.out.size ?_; intro v6 w6 hO6 hb6; have HO6 := hid hO6; have HB6 := hid (HBA.out.trans hb6); clear hO6 hb6)
          go_roundw
          case rel => exact ⟨k + 1, by omega, by go_num, by rw [HT2.out]; exact HO6, HB6⟩
          case measure => simp [intOf]; omega
        · have e5 : (s0 == 5) = false := by simpa using h5
          have HT2 : Hid (evL (d1.take (k + 1)) = evL (d1.take k)) := by unfold Hid; rw [HT.out]; simp [h5]
          clear h5
          have HOA := hid (own_alloc HO.out (.cells #[.int .i64 s0, .int .i64 s1, .int .i64 s2, .int .i64 s3, .slice b4 s4.length q4, .int .i64 s5, .slice b6 s6.length q6, .slice b7 s7.length q7] 144))
          have HBA := hid (HBR.out.alloc hsz (.cells #[.int .i64 s0, .int .i64 s1, .int .i64 s2, .int .i64 s3, .slice b4 s4.length q4, .int .i64 s5, .slice b6 s6.length q6, .slice b7 s7.length q7] 144))
          go_wp2
          go_roundw
          case rel => exact ⟨k + 1, by omega, by go_num, by rw [HT2.out]; exact HOA.out, HBA⟩
          case measure => simp [intOf]; omega
      · have HK : Hid (d1.take k = d1) := List.take_of_length_le (by omega)
        rw [HK.out] at HO
        have hbnd : (evL d1).length ≤ 30 := by have := evL_len d1; omega
        have HCS : Hid (Lib.compact ((evL d1).mergeSort fun x y => decide (x ≤ y)) = setF (evL d1)) := compact_sort _
        have HB3 := hid (bel_next HB1.out HB1.out.size HBR.out)
        have e1 : decide ((k : Int) < (d1.length : Int)) = false := decide_eq_false (by omega)
        obtain ⟨ES, hES⟩ : ∃ ES, evL d1 = ES := ⟨_, rfl⟩
        rw [hES] at HO HF hbnd HCS
        clear hES
        by_cases hn : 1 ≤ ES.length
        · obtain ⟨g, cap, rfl, hg1, hg2⟩ := own_some2 HO.out hn
          have hq : OwnQ wr (fun b => w1.heap.size ≤ b) (.slice (some ⟨g, 0, none⟩) ES.length cap) ES := by
            rcases own_q2 HO.out with ⟨h, _⟩ | h
            · cases h
            · exact h
          obtain ⟨hh, _, hcap, hcm, _, h64⟩ := ownQ_holds hq
          have HSO := hid (Try.slices_Sort_int g 0 cap ES wr hh hg2 (by omega))
          have HQ := hid hq
          have H64 := hid h64
          clear hq hh h64 HO
          go_wp2_with fail
          refine HSO.out.mono ?_
          rintro e w4 ⟨rfl, nn, os, hw4⟩
          obtain ⟨ZS, hZS⟩ : ∃ ZS, (ES.mergeSort fun x y => decide (x ≤ y)) = ZS := ⟨_, rfl⟩
          have hzl : ZS.length = ES.length := by rw [← hZS]; exact List.length_mergeSort ES
          have hz64 : ∀ z ∈ ZS, I64 z := fun z hz => H64.out z (by rw [← hZS] at hz; exact List.mem_mergeSort.1 hz)
          rw [hZS] at HCS hw4
          have hp := ownQ_putRow HQ.out ZS ZS.length (Nat.le_refl _) hzl hz64 nn os
          rw [← hw4, List.take_length, hzl] at hp
          obtain ⟨hq4, hk4⟩ := hp
          have hB4 := hk4.below (B := w1.heap.size) (fun _ h => h) hsz
          rw [← hzl] at hq4
          obtain ⟨hh4, hg4, hcap4, _, _, _⟩ := ownQ_holds hq4
          have HSC := hid (Try.slices_Compact_int g 0 cap ZS w4 hh4 (by omega) hcap4)
          have HQ4 := hid hq4
          have HB4 := hid (bel_next HB1.out HB1.out.size (HBR.out.trans hB4))
          have hsz4 := hB4.size
          have HZ64 := hid hz64
          rw [hzl] at HSC
          have HZL := hid hzl
          clear hw4 hk4 hB4 hq4 hh4 hZS hz64 hzl HSO HQ
          go_wp2_with fail
          refine HSC.out.mono ?_
          rintro e w5 ⟨rfl, qq, hw5⟩
          rw [HCS.out] at hw5
          rw [HCS.out]
          have hcl : (setF ES).length ≤ ZS.length := by rw [← HCS.out]; exact compact_le ZS
          have hp := ownQ_putRow HQ4.out (setF ES ++ List.replicate (ES.length - (setF ES).length) 0) (setF ES).length (by simp) (by rw [HZL.out] at hcl ⊢; simp; omega) (fun z hz => by
            rcases List.mem_append.1 hz with h | h
            · exact H64.out z (mem_setF.1 h)
            · rw [(List.mem_replicate.1 h).2]; exact i64_0) qq #[]
          rw [grow_empty, List.take_left, ← hw5] at hp
          obtain ⟨hq5, hk5⟩ := hp
          obtain ⟨a6, p6, he6, hs6⟩ := ownQ_rd hq5
          have HB5 := hid (HB4.out.trans ((hk5.below (B := w1.heap.size) (fun _ h => h) (by omega)).mono HB1.out.size))
          have HS6 : Hid (SlRd cInt (Fresh w.heap.size w5) w5 a6 p6 (setF ES)) := hs6.keep fun b hb _ => ⟨⟨Nat.le_trans HB1.out.size hb.1, hb.2⟩, rfl⟩
          rw [he6]
          clear hw5 hk5 hq5 hs6 he6 hcl
          go_wp2
          go_ret2
          rw [HF.out]
          exact ⟨a6, p6, rfl, HS6.out, HB5.out⟩
        · have hn0 : ES = [] := List.eq_nil_of_length_eq_zero (by omega)
          subst hn0
          obtain ⟨a6, p6, he6, hs6⟩ := own_rd (own_keep (S' := Fresh w1.heap.size wr) HO.out (fun _ h => h.elim) fun _ _ _ => rfl) (Nat.le_refl _)
          subst he6
          have HSO := hid (Try.slices_Sort_int_none a6 p6 wr)
          have HSC := hid (Try.slices_Compact_int_empty a6 p6 wr)
          have HS6 : Hid (SlRd cInt (Fresh w.heap.size wr) wr a6 p6 []) := hs6.keep fun b hb _ => ⟨⟨Nat.le_trans HB1.out.size hb.1, hb.2⟩, rfl⟩
          clear HO hs6
          go_wp2_with fail
          refine HSO.out.mono ?_
          rintro e w4 ⟨rfl, rfl⟩
          go_wp2_with fail
          refine HSC.out.mono ?_
          rintro e w5 ⟨rfl, rfl⟩
          go_wp2
          go_ret2
          rw [HF.out]
          exact ⟨a6, p6, rfl, HS6.out, HB3.out⟩
set_option maxHeartbeats 4000000 in
set_option maxRecDepth 100000 in
theorem c_sEventsIn {S : Nat → Prop} {a0 : Option Addr} {p0 : Nat} {d0 : List Term} {a1 : Option Addr} {p1 : Nat} {d1 : List Stmt} {a2 : Option Addr} {p2 : Nat} {d2 : List Term} {w : World} (h0 : SlRd cTerm S w a0 p0 d0) (h1 : SlRd cStmt S w a1 p1 d1) (h2 : SlRd cTerm S w a2 p2 d2) :
    Calls Try.prog 41 #[.agg #[.slice a0 d0.length p0, .slice a1 d1.length p1, .slice a2 d2.length p2]] w (RetSlB cInt (eventsF (d0, d1, d2)).1 (eventsF (d0, d1, d2)).2 w) := by
  have H0 := hid (h0.alloc (.cells #[.slice a0 d0.length p0, .slice a1 d1.length p1, .slice a2 d2.length p2] 75))
  have H1 := hid (h1.alloc (.cells #[.slice a0 d0.length p0, .slice a1 d1.length p1, .slice a2 d2.length p2] 75))
  have H2 := hid (h2.alloc (.cells #[.slice a0 d0.length p0, .slice a1 d1.length p1, .slice a2 d2.length p2] 75))
  have HB : Hid (RowKit.Below w.heap.size w (w.alloc (.cells #[.slice a0 d0.length p0, .slice a1 d1.length p1, .slice a2 d2.length p2] 75))) := (Below.refl _ _).alloc (Nat.le_refl _) _
  have t0 : (w.alloc (.cells #[.slice a0 d0.length p0, .slice a1 d1.length p1, .slice a2 d2.length p2] 75)).cell? ⟨w.heap.size, 0, none⟩ = some (.slice a0 d0.length p0) := by rw [World.cell?_alloc_at _ _ _ _ rfl]; rfl
  have t1 : (w.alloc (.cells #[.slice a0 d0.length p0, .slice a1 d1.length p1, .slice a2 d2.length p2] 75)).cell? ⟨w.heap.size, 1, none⟩ = some (.slice a1 d1.length p1) := by rw [World.cell?_alloc_at _ _ _ _ rfl]; rfl
  have t2 : (w.alloc (.cells #[.slice a0 d0.length p0, .slice a1 d1.length p1, .slice a2 d2.length p2] 75)).cell? ⟨w.heap.size, 2, none⟩ = some (.slice a2 d2.length p2) := by rw [World.cell?_alloc_at _ _ _ _ rfl]; rfl
  have z0 : w.heap.size < (w.alloc (.cells #[.slice a0 d0.length p0, .slice a1 d1.length p1, .slice a2 d2.length p2] 75)).heap.size := by simp
  have hl1 := h1.len_le
  obtain ⟨r, hr⟩ : ∃ r, progF (d0, d1, d2) = r := ⟨_, rfl⟩
  have HR := hid hr
  have HC := hid (c_l03Is H0.out H1.out H2.out t0 t1 t2)
  rw [hr] at HC
  clear h0 h1 h2 hr t0 t2
  cases r
  · have HF : Hid (eventsF (d0, d1, d2) = ([], false)) := by unfold Hid eventsF; rw [HR.out]; rfl
    go_enter Try.func41, Try.ntmps41
    go_wp2_with (go_at_call 101; refine HC.out.mono ?_; rintro e w1 ⟨rfl, rfl⟩)
    go_ret2
    rw [HF.out]
    exact ⟨none, 0, rfl, nil_rd _ _ _, HB.out⟩
  · have HF : Hid (eventsF (d0, d1, d2) = (setF (evL d1), true)) := by unfold Hid eventsF; rw [HR.out]; rfl
    have h30 := progF_len HR.out
    simp only at h30
    go_enter Try.func41, Try.ntmps41
    go_wp2_with fail
    generalize w.alloc (.cells #[.slice a0 d0.length p0, .slice a1 d1.length p1, .slice a2 d2.length p2] 75) = W at *
    refine HC.out.mono ?_
    rintro e w1 ⟨rfl, rfl⟩
    go_wp2
    go_loopw [4, 5] (fun v i wr => ∃ (k : Nat) (av : Option Addr) (pv : Nat) (out : List Int), k ≤ d1.length ∧ i = .int .i64 k ∧ v = .slice av out.length pv ∧ Hid (out = setF (evL (d1.take k))) ∧ Hid (SlRd cInt (Fresh w.heap.size wr) wr av pv out) ∧ Hid (RowKit.Below W.heap.size W wr)) (fun _ i _ => d1.length - (intOf i).toNat)
    case atStart => exact ⟨0, _, 0, [], Nat.zero_le _, rfl, rfl, rfl, empty_rd _ _ _ _, (Below.refl _ _).alloc (Nat.le_refl _) _⟩
    case round =>
      obtain ⟨k, av, pv, out, hk, rfl, rfl, HOU, HS, HBR⟩ := hrel
      have hsz := HBR.out.size
      have t1r := cell_below HBR.out z0 t1
      by_cases hlt : k < d1.length
      · obtain ⟨b, off, rfl⟩ := H1.out.some_of hlt
        obtain ⟨s0, s1, s2, s3, b4, q4, s4, s5, b6, q6, s6, b7, q7, s7, hz, j0, j1, j2, j3, j5, hs4, hs6, hs7, hc0, hc1, hc2, hc3, hc4, hc5, hc6, hc7, hb⟩ := (H1.out.below (Nat.le_refl _) HBR.out).stmt_at k hlt
        have HT := hid (evL_take hz)
        have hel := evL_len (d1.take k)
        rw [List.length_take] at hel
        have hsl := setF_len (evL (d1.take k))
        rw [← HOU.out] at hsl
        have i0 : (0 : Int) ≤ (k : Int) := by omega
        have i1 : (k : Int) < (d1.length : Int) := by omega
        clear hz hs4 hs6 hs7
        by_cases h5 : s0 = 5
        · have e5 : (s0 == 5) = true := by simpa using h5
          have HT2 : Hid (setF (evL (d1.take (k + 1))) = putL out s2) := by unfold Hid; rw [HT.out, h5, HOU.out]; simp only [beq_self_eq_true, if_true]; exact setF_snoc _ _
          have HC2 := hid (c_l00Put HS.out (by omega) j2)
          clear h5
          go_wp2_with (go_at_call 102; refine HC2.out.mono ?_; rintro e w6 ⟨a6, p6, rfl, hs6, hb6⟩; have HS6 : Hid (SlRd cInt (Fresh w.heap.size w6) w6 a6 p6 _) := hs6.keep fun b hb _ => ⟨⟨by have := hb.1; omega, hb.2⟩, rfl⟩; have HB6 := hid (bel_next HBR.out hsz hb6); clear hs6 hb6)
          go_roundw
          case rel => exact ⟨k + 1, a6, p6, _, by omega, by go_num, rfl, HT2.out.symm, HS6, HB6⟩
          case measure => simp [intOf]; omega
        · have e5 : (s0 == 5) = false := by simpa using h5
          have HT2 : Hid (setF (evL (d1.take (k + 1))) = out) := by unfold Hid; rw [HT.out, HOU.out]; simp [h5]
          clear h5
          go_wp2
          go_roundw
          case rel => exact ⟨k + 1, av, pv, out, by omega, by go_num, rfl, HT2.out.symm, HS, HBR⟩
          case measure => simp [intOf]; omega
      · have HK : Hid (d1.take k = d1) := List.take_of_length_le (by omega)
        rw [HK.out] at HOU
        have e1 : decide ((k : Int) < (d1.length : Int)) = false := decide_eq_false (by omega)
        have HB6 := hid (bel_next HB.out HB.out.size HBR.out)
        go_wp2
        go_ret2
        rw [HF.out, ← HOU.out]
        exact ⟨av, pv, rfl, HS.out, HB6.out⟩
end Go.Proofs.Ytedmhdinfedhhaa
