/- Contracts: sums of terms without zeros at their end. -/
import Derived.Test.YtkckhnpdodbffaaElimP
import Derived.Test.YtkckhnpdodbffaaOwn
import Derived.Test.YtkckhnpdodbffaaApp
import Derived.Test.YtkckhnpdodbffaaHlp
namespace Go.Proofs.Ytkckhnpdodbffaa
open Go.RowKit

set_option maxRecDepth 100000 in
theorem c_trimmed {S : Nat → Prop} {b off cap : Nat} {c : Int} {zs : List Int} {w : World} (h : SlRd cInt S w (some ⟨b, off, none⟩) cap zs) :
    Calls Try.prog 50 #[.agg #[.int .i64 c, .slice (some ⟨b, off, none⟩) zs.length cap]] w fun e w' => e = .returned (.agg #[.int .i64 c, .slice (some ⟨b, off, none⟩) (trimN zs zs.length) cap]) ∧ Below w.heap.size w w' := by
  have hl := h.len_le
  have hcap := h.1
  have hcap2 := h.2.1
  have HB : Hid (Below w.heap.size w ((w.alloc (.cells #[.int .i64 c, .slice (some ⟨b, off, none⟩) zs.length cap] 39)).alloc (.cells #[.int .i64 0, .slice none 0 0] 39))) := ((Below.refl _ _).alloc (Nat.le_refl _) _).alloc (by simp) _
  have H := hid (h.below (Nat.le_refl _) HB.out)
  have t1 : ((w.alloc (.cells #[.int .i64 c, .slice (some ⟨b, off, none⟩) zs.length cap] 39)).alloc (.cells #[.int .i64 0, .slice none 0 0] 39)).cell? ⟨w.heap.size, 1, none⟩ = some (.slice (some ⟨b, off, none⟩) zs.length cap) := by simp [go_sem]
  clear h
  go_enter Try.func50, Try.ntmps50
  go_wp2
  go_loop [3] (fun n => ∃ k : Nat, n = .int .i64 k ∧ k ≤ zs.length ∧ Hid (trimN zs zs.length = trimN zs k)) (fun n => (intOf n).toNat)
  case atStart => exact ⟨zs.length, rfl, Nat.le_refl _, rfl⟩
  case round =>
    obtain ⟨k, rfl, hk, HK⟩ := hrel
    by_cases h0 : k = 0
    · subst h0
      have HF : Hid (trimN zs zs.length = 0) := HK.out
      clear HK
      go_wp2
      refine bodyPost_ret (v := .agg #[.int .i64 c, .slice (some ⟨b, off, none⟩) 0 cap]) (by simp [results, Try.results50, go_sem]) rfl ?_
      rw [HF.out]
      exact ⟨rfl, ((Below.refl _ _).alloc (Nat.le_refl _) _).alloc (by simp) _⟩
    · obtain ⟨k, rfl⟩ : ∃ k', k = k' + 1 := ⟨k - 1, by omega⟩
      obtain ⟨z, hz, hzz, hc, hb⟩ := H.out.int_at k (by omega)
      have hgd : zs.getD k 0 = z := by rw [List.getD_eq_getElem?_getD, hz]; rfl
      have i0 : (0 : Int) ≤ (k : Int) := by omega
      have i1 : (k : Int) < (zs.length : Int) := by omega
      have i2 : (0 : Int) < (k : Int) + 1 := by omega
      have hw1 : IntKind.i64.wrap ((k : Int) + 1 - 1) = (k : Int) := by rw [wrap_in _ (by omega) (by omega)]; omega
      have i4 : (0 : Int) ≤ (k : Int) + 1 := by omega
      have i5 : (k : Int) + 1 ≤ (cap : Int) := by omega
      have i7 : ((k : Int) + 1).toNat = k + 1 := by omega
      clear hz h0
      by_cases hz0 : z = 0
      · subst hz0
        have HK2 : Hid (trimN zs zs.length = trimN zs k) := by unfold Hid; rw [HK.out]; show (if zs.getD k 0 = 0 then trimN zs k else k + 1) = _; rw [if_pos hgd]
        clear hgd HK
        go_wp2
        go_round
        case rel => exact ⟨k, by go_num, by omega, HK2⟩
        case measure => simp [intOf] <;> omega
      · have HF : Hid (trimN zs zs.length = k + 1) := by unfold Hid; rw [HK.out]; show (if zs.getD k 0 = 0 then trimN zs k else k + 1) = _; rw [if_neg (by rw [hgd]; exact hz0)]
        have e0 : (z == 0) = false := by simpa using hz0
        clear hgd HK hz0
        go_wp2
        refine bodyPost_ret (v := .agg #[.int .i64 c, .slice (some ⟨b, off, none⟩) (k + 1) cap]) (by simp [results, Try.results50, go_sem]) rfl ?_
        rw [HF.out]
        exact ⟨rfl, ((Below.refl _ _).alloc (Nat.le_refl _) _).alloc (by simp) _⟩
/-! ### The sum of terms, each times a number -/
def rng (f : Nat → Int) : List Int := (List.range 10).map f
def addT (acc : Int × List Int) (t : Term) (m : Int) : Int × List Int := (acc.1 + m * t.1, rng fun x => acc.2.getD x 0 + m * t.2.getD x 0)
def accN (ts : List Term) (ms : List Int) : Nat → Int × List Int
  | 0 => (0, List.replicate 10 0)
  | i + 1 => addT (accN ts ms i) (ts.getD i (0, [])) (ms.getD i 0)
def partC (acc : List Int) (t : List Int) (m : Int) (k : Nat) : List Int := rng fun x => acc.getD x 0 + (if x < k then m * t.getD x 0 else 0)
theorem range_getD (f : Nat → Int) {k : Nat} (hk : k < 10) : (rng f).getD k 0 = f k := by
  unfold rng; rw [List.getD_eq_getElem?_getD, List.getElem?_map, List.getElem?_range hk]; rfl
theorem range_len (f : Nat → Int) : (rng f).length = 10 := by simp [rng]
theorem accN_len (ts : List Term) (ms : List Int) : ∀ i, (accN ts ms i).2.length = 10
  | 0 => by simp [accN]
  | i + 1 => by show (addT _ _ _).2.length = 10; exact range_len _
theorem partC_zero {acc t : List Int} {m : Int} (h : acc.length = 10) : partC acc t m 0 = acc := by
  apply list_getD_ext
  · rw [h]; exact range_len _
  · intro k hk
    rw [show (partC acc t m 0).length = 10 from range_len _] at hk
    unfold partC; rw [range_getD _ hk]; simp
theorem partC_end {acc t : List Int} {c d m : Int} {k : Nat} (h : t.length ≤ k) : partC acc t m k = (addT (c, acc) (d, t) m).2 := by
  show List.map (fun x => acc.getD x 0 + (if x < k then m * t.getD x 0 else 0)) (List.range 10) = List.map (fun x => acc.getD x 0 + m * t.getD x 0) (List.range 10)
  apply List.map_congr_left
  intro x _
  split
  · rfl
  · rw [getD_out (zs := t) (k := x) (by omega)]; simp
theorem partC_at {acc t : List Int} {m : Int} {k : Nat} (hk : k < 10) : (partC acc t m k).getD k 0 = acc.getD k 0 := by
  unfold partC; rw [range_getD _ hk]; simp
theorem partC_set {acc t : List Int} {m : Int} {k : Nat} (hk : k < 10) : (partC acc t m k).set k (acc.getD k 0 + m * t.getD k 0) = partC acc t m (k + 1) := by
  apply list_getD_ext
  · rw [List.length_set]; exact (range_len _).trans (range_len _).symm
  · intro x hx
    rw [List.length_set, show (partC acc t m k).length = 10 from range_len _] at hx
    by_cases hxk : x = k
    · subst hxk
      rw [List.getD_eq_getElem?_getD, List.getElem?_set_self (by rw [show (partC acc t m x).length = 10 from range_len _]; exact hx)]
      unfold partC; rw [range_getD _ hx]; simp
    · rw [List.getD_eq_getElem?_getD, List.getElem?_set_ne (by omega), ← List.getD_eq_getElem?_getD]
      unfold partC
      rw [range_getD _ hx, range_getD _ hx]
      congr 1
      by_cases h1 : x < k
      · rw [if_pos h1, if_pos (by omega)]
      · rw [if_neg h1, if_neg (by omega)]
def bd (n : Nat) (z : Int) : Prop := -(1000000000000 * (n : Int)) ≤ z ∧ z ≤ 1000000000000 * (n : Int)
theorem bd_zero : bd 0 0 := ⟨by decide, by decide⟩
theorem bd_add {i : Nat} {x y : Int} (h : bd i x) (hy : -1000000000000 ≤ y ∧ y ≤ 1000000000000) : bd (i + 1) (x + y) := by unfold bd at h ⊢; omega
theorem bd_any (i : Nat) : bd i 0 := by unfold bd; omega
theorem getD_sm {zs : List Int} (h : ∀ z ∈ zs, sm z) (k : Nat) : sm (zs.getD k 0) := by
  rw [List.getD_eq_getElem?_getD]
  cases hz : zs[k]? with
  | none => exact ⟨by decide, by decide⟩
  | some z => exact h z (List.mem_of_getElem? hz)
theorem accN_bd {ts : List Term} {ms : List Int} (ht : ∀ t ∈ ts, sm t.1 ∧ ∀ z ∈ t.2, sm z) (hm : ∀ z ∈ ms, sm z) : ∀ i, bd i (accN ts ms i).1 ∧ ∀ x, bd i ((accN ts ms i).2.getD x 0)
  | 0 => ⟨bd_zero, fun x => by
      have : (accN ts ms 0).2.getD x 0 = 0 := by
        show (List.replicate 10 (0 : Int)).getD x 0 = 0
        rw [List.getD_eq_getElem?_getD, List.getElem?_replicate]; split <;> rfl
      rw [this]; exact bd_zero⟩
  | i + 1 => by
    obtain ⟨h1, h2⟩ := accN_bd ht hm i
    have hmi := getD_sm hm i
    have hti : sm (ts.getD i (0, [])).1 ∧ ∀ z ∈ (ts.getD i (0, [])).2, sm z := by
      rw [List.getD_eq_getElem?_getD]
      cases hz : ts[i]? with
      | none => exact ⟨⟨by decide, by decide⟩, fun z hz => by simp at hz⟩
      | some t => exact ht t (List.mem_of_getElem? hz)
    refine ⟨bd_add h1 (prod_abs hmi hti.1), fun x => ?_⟩
    show bd (i + 1) ((rng fun x => (accN ts ms i).2.getD x 0 + ms.getD i 0 * (ts.getD i (0, [])).2.getD x 0).getD x 0)
    by_cases hx : x < 10
    · rw [range_getD _ hx]
      exact bd_add (h2 x) (prod_abs hmi (getD_sm hti.2 x))
    · rw [getD_out (by rw [range_len]; omega)]
      exact bd_any _
theorem accN_two {p q : Row} {n m : Int} (hp : p.2.1.length = 10) (hq : q.2.1.length = 10) : accN [(p.1, trimL p.2.1), (q.1, trimL q.2.1)] [n, m] 2 = (n * p.1 + m * q.1, comb n m p.2.1 q.2.1) := by
  have e1 : (accN [(p.1, trimL p.2.1), (q.1, trimL q.2.1)] [n, m] 2).1 = n * p.1 + m * q.1 := by
    show 0 + n * p.1 + m * q.1 = _
    rw [Int.zero_add]
  have e2 : (accN [(p.1, trimL p.2.1), (q.1, trimL q.2.1)] [n, m] 2).2 = comb n m p.2.1 q.2.1 := by
    apply list_getD_ext
    · rw [accN_len, comb_len (by rw [hp, hq]), hp]
    · intro k hk
      rw [accN_len] at hk
      have hc : (comb n m p.2.1 q.2.1).getD k 0 = n * p.2.1.getD k 0 + m * q.2.1.getD k 0 := by
        have h1 : k < p.2.1.length := by omega
        have h2 : k < q.2.1.length := by omega
        rw [List.getD_eq_getElem?_getD, comb_at (List.getElem?_eq_getElem h1) (List.getElem?_eq_getElem h2), List.getD_eq_getElem?_getD, List.getD_eq_getElem?_getD, List.getElem?_eq_getElem h1, List.getElem?_eq_getElem h2]; rfl
      rw [hc]
      show (rng fun x => (rng fun x => (List.replicate 10 (0 : Int)).getD x 0 + n * (trimL p.2.1).getD x 0).getD x 0 + m * (trimL q.2.1).getD x 0).getD k 0 = _
      rw [range_getD _ hk, range_getD _ hk, trimL_getD, trimL_getD]
      have : (List.replicate 10 (0 : Int)).getD k 0 = 0 := by rw [List.getD_eq_getElem?_getD, List.getElem?_replicate]; split <;> rfl
      rw [this, Int.zero_add]
  rw [← e1, ← e2]
set_option maxHeartbeats 2000000 in
set_option maxRecDepth 100000 in
theorem c_combined {S : Nat → Prop} {a am : Option Addr} {p pm : Nat} {ts : List Term} {ms : List Int} {w : World} (h : SlRd cTerm S w a p ts) (hm : SlRd cInt S w am pm ms) (hlm : ms.length = ts.length) (hl2 : ts.length ≤ 2) (hts : ∀ t ∈ ts, (sm t.1 ∧ ∀ z ∈ t.2, sm z) ∧ t.2.length ≤ 10) (hms : ∀ z ∈ ms, sm z) :
    Calls Try.prog 38 #[.slice a ts.length p, .slice am ms.length pm] w fun e w' => ∃ L, e = .returned (.agg #[.int .i64 (accN ts ms ts.length).1, .slice (some ⟨L, 0, none⟩) (trimN (accN ts ms ts.length).2 10) 10]) ∧ OwnSl cInt (fun _ => False) w' w.heap.size 2 (.slice (some ⟨L, 0, none⟩) 10 10) (accN ts ms ts.length).2 ∧ Below w.heap.size w w' := by
  have HBD := hid (accN_bd (fun t ht => (hts t ht).1) hms)
  have HTS := hid hts
  have HMS := hid hms
  have H := hid (h.keep (S' := fun b => b < w.heap.size) (w' := w) fun b _ hl => ⟨hl, rfl⟩)
  have HM := hid (hm.keep (S' := fun b => b < w.heap.size) (w' := w) fun b _ hl => ⟨hl, rfl⟩)
  clear h hm hts hms
  obtain ⟨R, hR⟩ : ∃ R, R = w.heap.size := ⟨_, rfl⟩
  go_enter Try.func38, Try.ntmps38
  go_wp2_with (at_make; go_loud (refine wpList_mk rfl (.const (.int .i64 10)) (.const (.int .i64 10)) _ rfl rfl rfl (own_mk slI64 (C := cInt) (base := w.heap.size) (fun _ => False) 10 (by omega) (by simp) 0 (fun _ _ => ⟨rfl, i64_0⟩) _ _) ?_); rintro w1 ⟨hown, hg⟩; rw [World.size_alloc] at hown; have hL := own_lt hown (w.heap.size + 1) rfl; have HOWN := hid hown; have r0 : w1.cell? ⟨w.heap.size, 0, none⟩ = some (.int .i64 0) := cell_grown hg (by simp) (by simp) (by rw [World.cell?_alloc_at _ _ _ _ rfl]; rfl); have r1 : w1.cell? ⟨w.heap.size, 1, none⟩ = some (.slice none 0 0) := cell_grown hg (by simp) (by simp) (by rw [World.cell?_alloc_at _ _ _ _ rfl]; rfl); have HB1 : Hid (Below w.heap.size w w1) := ((Below.refl _ _).alloc (Nat.le_refl _) _).grown hg (by simp) (by simp); have rf : ∀ o, w1.frozen? ⟨w.heap.size, o, none⟩ = false := fun o => (World.frozen?_of_block (w := w.alloc (.cells #[.int .i64 0, .slice none 0 0] 39)) (a := ⟨w.heap.size, o, none⟩) (hg.block _ (by simp) (by simp))).trans (frozen_of_row _ _ _ _ _ (heap_new _ _)); have HRF := hid rf; clear hown hg rf)
  obtain ⟨g, hg⟩ : ∃ g, g = w1.heap.size := ⟨_, rfl⟩
  obtain ⟨L, hLe⟩ : ∃ L, L = w.heap.size + 1 := ⟨_, rfl⟩
  obtain ⟨W2, hW2⟩ : ∃ W2, W2 = w1.alloc (.cells #[.int .i64 0, .slice (some ⟨w.heap.size + 1, 0, none⟩) 10 10] 39) := ⟨_, rfl⟩
  have HBL : Hid (Below w1.heap.size w1 W2) := by rw [hW2]; exact (Below.refl _ _).alloc (Nat.le_refl _) _
  have c0 : W2.cell? ⟨g, 0, none⟩ = some (.int .i64 0) := by rw [hW2, hg, World.cell?_alloc_at _ _ _ _ rfl]; rfl
  have c1 : W2.cell? ⟨g, 1, none⟩ = some (.slice (some ⟨L, 0, none⟩) 10 10) := by rw [hW2, hg, hLe, World.cell?_alloc_at _ _ _ _ rfl]; rfl
  have f0 : W2.frozen? ⟨g, 0, none⟩ = false := by rw [hW2, hg]; exact frozen_of_row _ _ _ _ _ (heap_new _ _)
  have hg2 : g < W2.heap.size := by rw [hW2, hg]; simp
  have hgL : L < g := by omega
  have hRL : R < L := by omega
  have HRe := hid hR
  have s0 : W2.cell? ⟨R, 0, none⟩ = some (.int .i64 0) := by rw [hR]; exact cell_below HBL.out (by omega) r0
  have s1 : W2.cell? ⟨R, 1, none⟩ = some (.slice none 0 0) := by rw [hR]; exact cell_below HBL.out (by omega) r1
  have q0 : W2.frozen? ⟨R, 0, none⟩ = false := by rw [hR]; exact frz_below HBL.out (by omega) (HRF.out 0)
  have q1 : W2.frozen? ⟨R, 1, none⟩ = false := by rw [hR]; exact frz_below HBL.out (by omega) (HRF.out 1)
  have HO2 : Hid (OwnSl cInt (fun _ => False) W2 w.heap.size 2 (.slice (some ⟨L, 0, none⟩) 10 10) (List.replicate 10 0)) := by rw [hLe]; exact own_below HOWN.out (Nat.le_refl _) HBL.out
  have HB2 : Hid (Below w.heap.size w W2) := bel_next HB1.out HB1.out.size HBL.out
  have HWE := hid hW2
  have HGE := hid hg
  have HLE := hid hLe
  clear r0 r1 HOWN HRF HB1 HBL hR hg hLe hL hW2
  rw [← HGE.out, ← HWE.out]
  clear HWE HGE
  go_loopw [14] (fun i wr => ∃ (k : Nat) (C : Int) (Ls : List Int), k ≤ ts.length ∧ i = .int .i64 k ∧ Hid (C = (accN ts ms k).1 ∧ Ls = (accN ts ms k).2) ∧ g < wr.heap.size ∧ wr.cell? ⟨g, 0, none⟩ = some (.int .i64 C) ∧ wr.frozen? ⟨g, 0, none⟩ = false ∧ wr.cell? ⟨g, 1, none⟩ = some (.slice (some ⟨L, 0, none⟩) 10 10) ∧ wr.cell? ⟨R, 0, none⟩ = some (.int .i64 0) ∧ wr.cell? ⟨R, 1, none⟩ = some (.slice none 0 0) ∧ wr.frozen? ⟨R, 0, none⟩ = false ∧ wr.frozen? ⟨R, 1, none⟩ = false ∧ Hid (OwnSl cInt (fun _ => False) wr w.heap.size 2 (.slice (some ⟨L, 0, none⟩) 10 10) Ls) ∧ Hid (Below w.heap.size w wr)) (fun i _ => ts.length - (intOf i).toNat)
  case atStart => exact ⟨0, 0, List.replicate 10 0, Nat.zero_le _, rfl, ⟨rfl, rfl⟩, hg2, c0, f0, c1, s0, s1, q0, q1, HO2, HB2⟩
  case round =>
    clear c0 f0 c1 s0 s1 q0 q1 HO2 HB2 hg2
    obtain ⟨k, C, Ls, hk, rfl, HA, hgr, c0, f0, c1, s0, s1, q0, q1, HO, HBR⟩ := hrel
    by_cases hlt : k < ts.length
    · obtain ⟨b1, o1, rfl⟩ := H.out.some_of hlt
      obtain ⟨bm, om, rfl⟩ := HM.out.some_of (k := k) (by omega)
      obtain ⟨c, zs, a', cap', hz, hc1, hsl, hc, hc', hb⟩ := (H.out.below (Nat.le_refl _) HBR.out).term_at k hlt
      obtain ⟨m, hmz, hm1, hmc, hmb⟩ := (HM.out.below (Nat.le_refl _) HBR.out).int_at k (by omega)
      obtain ⟨_, _, _, _, _, hbmS, _⟩ := HM.out.at k (by omega)
      obtain ⟨⟨tc, tz⟩, tl⟩ := HTS.out _ (List.mem_of_getElem? hz)
      have mc := HMS.out _ (List.mem_of_getElem? hmz)
      simp only at tc tz tl
      obtain ⟨hbd, hbd2⟩ := HBD.out k
      have hbd9 : bd 2 (accN ts ms k).1 ∧ ∀ x, bd 2 ((accN ts ms k).2.getD x 0) := by
        have hk2 : k ≤ 2 := by omega
        exact ⟨by unfold bd at hbd ⊢; omega, fun x => by have := hbd2 x; unfold bd at this ⊢; omega⟩
      obtain ⟨hA1, hA2⟩ := HA.out
      rw [← hA1, ← hA2] at hbd9
      have hpm := prod_abs mc tc
      obtain ⟨P, hP⟩ : ∃ P, m * c = P := ⟨_, rfl⟩
      rw [hP] at hpm
      have hwP : IntKind.i64.wrap (m * c) = P := by rw [hP]; exact wrap_in _ (by omega) (by omega)
      have hwC : IntKind.i64.wrap (C + P) = C + P := by have := hbd9.1; unfold bd at this; exact wrap_in _ (by omega) (by omega)
      have HP := hid hP
      have HAN : Hid (accN ts ms (k + 1) = addT (C, Ls) (c, zs) m) := by
        show addT (accN ts ms k) (ts.getD k (0, [])) (ms.getD k 0) = _
        rw [List.getD_eq_getElem?_getD, List.getD_eq_getElem?_getD, hz, hmz, hA1, hA2]; rfl
      have hLl : Ls.length = 10 := by rw [hA2]; exact accN_len _ _ _
      have HBX : Hid (Below wr.heap.size wr (wr.alloc (.cells #[.int .i64 c, .slice a' zs.length cap'] 39))) := (Below.refl _ _).alloc (Nat.le_refl _) _
      have HBd := hid (fun x => by have := hbd9.2 x; exact (this : bd 2 (Ls.getD x 0)))
      have HTZ := hid tz
      have HSL := hid hsl
      have x1 : (wr.alloc (.cells #[.int .i64 c, .slice a' zs.length cap'] 39)).cell? ⟨wr.heap.size, 1, none⟩ = some (.slice a' zs.length cap') := by rw [World.cell?_alloc_at _ _ _ _ rfl]; rfl
      have x0 : (wr.alloc (.cells #[.int .i64 c, .slice a' zs.length cap'] 39)).cell? ⟨wr.heap.size, 0, none⟩ = some (.int .i64 c) := by rw [World.cell?_alloc_at _ _ _ _ rfl]; rfl
      have y0 := cell_below HBX.out hgr c0
      have yf0 := frz_below HBX.out hgr f0
      have y1 := cell_below HBX.out hgr c1
      have ys0 := cell_below HBX.out (Nat.lt_trans (Nat.lt_trans hRL hgL) hgr) s0
      have ys1 := cell_below HBX.out (Nat.lt_trans (Nat.lt_trans hRL hgL) hgr) s1
      have yq0 := frz_below HBX.out (Nat.lt_trans (Nat.lt_trans hRL hgL) hgr) q0
      have yq1 := frz_below HBX.out (Nat.lt_trans (Nat.lt_trans hRL hgL) hgr) q1
      have ym := cell_below HBX.out hmb hmc
      have HOX := hid (own_below HO.out (Nat.le_refl _) HBX.out)
      have HBRX := hid (bel_next HBR.out HBR.out.size HBX.out)
      have hgx : g < (wr.alloc (.cells #[.int .i64 c, .slice a' zs.length cap'] 39)).heap.size := Nat.lt_of_lt_of_le hgr HBX.out.size
      have i0 : (0 : Int) ≤ (k : Int) := by omega
      have i1 : (k : Int) < (ts.length : Int) := by omega
      have i2 : (k : Int) < (ms.length : Int) := by omega
      have e1 : decide ((k : Int) < (ts.length : Int)) = true := decide_eq_true i1
      clear hz hmz hsl tz hA1 hA2 hbd hbd2 hbd9 hP HA HO hpm
      go_wp2
      generalize wr.alloc (.cells #[.int .i64 c, .slice a' zs.length cap'] 39) = Wx at *
      go_region
      have hRw : R = w.heap.size := HRe.out
      have hbR : bm < R := by rw [hRw]; exact hbmS
      have hX : g < wr.heap.size := hgr
      have z0 : (Wx.setCell ⟨g, 0, none⟩ (.int .i64 (C + P))).drew.cell? ⟨g, 0, none⟩ = some (.int .i64 (C + P)) := World.cell?_setCell_same _ _ _ y0
      have zf0 : (Wx.setCell ⟨g, 0, none⟩ (.int .i64 (C + P))).drew.frozen? ⟨g, 0, none⟩ = false := by show (Wx.setCell ⟨g, 0, none⟩ (.int .i64 (C + P))).frozen? ⟨g, 0, none⟩ = false; rw [World.frozen?_setCell]; exact yf0
      have z1 : (Wx.setCell ⟨g, 0, none⟩ (.int .i64 (C + P))).drew.cell? ⟨g, 1, none⟩ = some (.slice (some ⟨L, 0, none⟩) 10 10) := (World.cell?_setCell_other _ _ _ _ (by simp)).trans y1
      have zs0 : (Wx.setCell ⟨g, 0, none⟩ (.int .i64 (C + P))).drew.cell? ⟨R, 0, none⟩ = some (.int .i64 0) := cell_set_ne (show R ≠ g by omega) ys0
      have zs1 : (Wx.setCell ⟨g, 0, none⟩ (.int .i64 (C + P))).drew.cell? ⟨R, 1, none⟩ = some (.slice none 0 0) := cell_set_ne (show R ≠ g by omega) ys1
      have zq0 : (Wx.setCell ⟨g, 0, none⟩ (.int .i64 (C + P))).drew.frozen? ⟨R, 0, none⟩ = false := frz_set_ne (show R ≠ g by omega) yq0
      have zq1 : (Wx.setCell ⟨g, 0, none⟩ (.int .i64 (C + P))).drew.frozen? ⟨R, 1, none⟩ = false := frz_set_ne (show R ≠ g by omega) yq1
      have zm : (Wx.setCell ⟨g, 0, none⟩ (.int .i64 (C + P))).drew.cell? ⟨bm, om + k, none⟩ = some (.int .i64 m) := cell_set_ne (show bm ≠ g by omega) ym
      have zx1 : (Wx.setCell ⟨g, 0, none⟩ (.int .i64 (C + P))).drew.cell? ⟨wr.heap.size, 1, none⟩ = some (.slice a' zs.length cap') := cell_set_ne (show wr.heap.size ≠ g by omega) x1
      have HOY : Hid (OwnSl cInt (fun _ => False) (Wx.setCell ⟨g, 0, none⟩ (.int .i64 (C + P))).drew w.heap.size 2 (.slice (some ⟨L, 0, none⟩) 10 10) Ls) := own_keep HOX.out (fun _ h _ => h) fun b hl hs => heap_setCell_ne _ _ _ (by rcases hs with hs | hs <;> first | exact hs.elim | (have : b = L := (by simpa [Value.ownBlock] using hs); show b ≠ g; omega))
      have HBY : Hid (Below w.heap.size w (Wx.setCell ⟨g, 0, none⟩ (.int .i64 (C + P))).drew) := (HBRX.out.setCell (by show w.heap.size ≤ g; omega) _).drew
      have HSY : Hid (SlRd cInt (fun b => b < R) (Wx.setCell ⟨g, 0, none⟩ (.int .i64 (C + P))).drew a' cap' zs) := HSL.out.keep fun b hb hl => ⟨by rw [hRw]; exact hb, (heap_setCell_ne _ _ _ (show b ≠ g by omega)).trans (HBX.out.block b hl)⟩
      have hgy : g < (Wx.setCell ⟨g, 0, none⟩ (.int .i64 (C + P))).drew.heap.size := by show g < (Wx.setCell ⟨g, 0, none⟩ (.int .i64 (C + P))).heap.size; rw [size_set]; exact hgx
      clear hRw hbmS x0 x1 y0 yf0 y1 ys0 ys1 yq0 yq1 ym HOX HBRX hgx HBX HSL HBR c0 f0 c1 s0 s1 q0 q1 hc hc'
      go_wp2
      clear zx1
      generalize (Wx.setCell ⟨g, 0, none⟩ (.int .i64 (C + P))).drew = Wy at *
      obtain ⟨wo, rfl⟩ : ∃ wo : World, wo = wr := ⟨_, rfl⟩
      go_loopw [33] (fun i wr => ∃ (j : Nat) (Lj : List Int), j ≤ zs.length ∧ i = .int .i64 j ∧ Hid (Lj = partC Ls zs m j) ∧ g < wr.heap.size ∧ wr.cell? ⟨g, 0, none⟩ = some (.int .i64 (C + P)) ∧ wr.frozen? ⟨g, 0, none⟩ = false ∧ wr.cell? ⟨g, 1, none⟩ = some (.slice (some ⟨L, 0, none⟩) 10 10) ∧ wr.cell? ⟨R, 0, none⟩ = some (.int .i64 0) ∧ wr.cell? ⟨R, 1, none⟩ = some (.slice none 0 0) ∧ wr.frozen? ⟨R, 0, none⟩ = false ∧ wr.frozen? ⟨R, 1, none⟩ = false ∧ wr.cell? ⟨bm, om + k, none⟩ = some (.int .i64 m) ∧ Hid (OwnSl cInt (fun _ => False) wr w.heap.size 2 (.slice (some ⟨L, 0, none⟩) 10 10) Lj) ∧ Hid (SlRd cInt (fun b => b < R) wr a' cap' zs) ∧ Hid (Below w.heap.size w wr)) (fun i _ => zs.length - (intOf i).toNat)
      case atStart => exact ⟨0, Ls, Nat.zero_le _, rfl, (partC_zero hLl).symm, hgy, z0, zf0, z1, zs0, zs1, zq0, zq1, zm, HOY, HSY, HBY⟩
      case round =>
        clear z0 zf0 z1 zs0 zs1 zq0 zq1 zm HOY HSY HBY hgy
        obtain ⟨j, Lj, hj, rfl, HLj, hgr2, c0, f0, c1, s0, s1, q0, q1, cm, HO, HS, HBR⟩ := hrel
        by_cases hlt2 : j < zs.length
        · obtain ⟨bz, oz, rfl⟩ := HS.out.some_of hlt2
          obtain ⟨z, hz, hz1, hzc, hzb⟩ := HS.out.int_at j hlt2
          have hsz := HTZ.out z (List.mem_of_getElem? hz)
          have hLjl : Lj.length = 10 := by rw [HLj.out]; exact range_len _
          obtain ⟨y, hy, hy1, hyc, hyf, hyL, _⟩ := own_at_int HO.out hLjl j (by omega)
          have hyv : y = Ls.getD j 0 := by
            have h9 := partC_at (acc := Ls) (t := zs) (m := m) (k := j) (by omega)
            rw [← HLj.out, List.getD_eq_getElem?_getD, hy] at h9
            exact h9
          have hzv : zs.getD j 0 = z := by rw [List.getD_eq_getElem?_getD, hz]; rfl
          have hbd := HBd.out j
          rw [← hyv] at hbd
          have hpz := prod_abs mc hsz
          obtain ⟨Q, hQ⟩ : ∃ Q, m * z = Q := ⟨_, rfl⟩
          rw [hQ] at hpz
          have hwQ : IntKind.i64.wrap (m * z) = Q := by rw [hQ]; exact wrap_in _ (by omega) (by omega)
          have hyq : -4000000000000 ≤ y + Q ∧ y + Q ≤ 4000000000000 := by unfold bd at hbd; omega
          have hwY : IntKind.i64.wrap (y + Q) = y + Q := wrap_in _ (by omega) (by omega)
          have HSET := hid (own_set_int HO.out hLjl j (by omega) (y + Q) ⟨by omega, by omega⟩).1
          have HPC : Hid (Lj.set j (y + Q) = partC Ls zs m (j + 1)) := by unfold Hid; rw [HLj.out, hyv, ← hQ, ← hzv]; exact partC_set (by omega)
          have j0 : (0 : Int) ≤ (j : Int) := by omega
          have j1 : (j : Int) < (zs.length : Int) := by omega
          have j2 : (j : Int) < (10 : Int) := by omega
          have e2 : decide ((j : Int) < (zs.length : Int)) = true := decide_eq_true j1
          clear hz hy hyv hzv hQ HLj HO hbd hpz
          go_wp2
          have hwL : w.heap.size ≤ L := by rw [← HRe.out]; omega
          go_region
          go_wp2
          go_roundw
          case rel => exact ⟨j + 1, Lj.set j (y + Q), by omega, by go_num, HPC, by show g < (wr.setCell ⟨L, j, none⟩ (.int .i64 (y + Q))).heap.size; rw [size_set]; exact hgr2, cell_set_ne (show g ≠ L by omega) c0, frz_set_ne (show g ≠ L by omega) f0, cell_set_ne (show g ≠ L by omega) c1, cell_set_ne (show R ≠ L by omega) s0, cell_set_ne (show R ≠ L by omega) s1, frz_set_ne (show R ≠ L by omega) q0, frz_set_ne (show R ≠ L by omega) q1, cell_set_ne (show bm ≠ L by omega) cm, own_keep HSET.out (fun _ h _ => h) fun _ _ _ => rfl, HS.out.keep fun b hb hl => ⟨hb, heap_setCell_ne _ _ _ (show b ≠ L by omega)⟩, (HBR.out.setCell (show w.heap.size ≤ L from hwL) _).drew⟩
          case measure => simp [intOf]; omega
        · have HE : Hid (Lj = (accN ts ms (k + 1)).2) := by unfold Hid; rw [HLj.out, HAN.out]; exact partC_end (by omega)
          have HCC : Hid (C + P = (accN ts ms (k + 1)).1) := by unfold Hid; rw [HAN.out, ← HP.out]; rfl
          have e2 : decide ((j : Int) < (zs.length : Int)) = false := decide_eq_false (by omega)
          clear HLj HAN HP
          go_wp2
          go_roundw
          case rel => exact ⟨k + 1, C + P, Lj, by omega, by go_num, ⟨HCC.out, HE.out⟩, hgr2, c0, f0, c1, s0, s1, q0, q1, HO, HBR⟩
          case measure => simp [intOf]; omega
    · have hkk : k = ts.length := by omega
      have e1 : decide ((k : Int) < (ts.length : Int)) = false := decide_eq_false (by omega)
      have HA2 : Hid (C = (accN ts ms ts.length).1 ∧ Ls = (accN ts ms ts.length).2) := by rw [← hkk]; exact HA.out
      have hLl : Ls.length = 10 := by rw [HA2.out.2]; exact accN_len _ _ _
      obtain ⟨a9, c9, he9, hs9⟩ := own_rd (own_keep (S' := Fresh w.heap.size wr) HO.out (fun _ h => h.elim) fun _ _ _ => rfl) (Nat.le_refl _)
      rw [hLl] at he9
      injection he9 with ha9 _ hc9
      subst ha9
      subst hc9
      have HCT := hid (c_trimmed (c := C) hs9)
      rw [hLl] at HCT
      rw [HRe.out] at s0 s1 q0 q1
      have hRw := HRe.out
      have hwr : w.heap.size < wr.heap.size := by omega
      clear hkk HA hs9 hRw
      go_wp2_with (go_at_call 50; refine HCT.out.mono ?_; rintro e w5 ⟨rfl, hb5⟩; have HB5 := hid hb5; have r0 := cell_below hb5 hwr s0; have r1 := cell_below hb5 hwr s1; have rq0 := frz_below hb5 hwr q0; have rq1 := frz_below hb5 hwr q1; clear hb5)
      have k0 : ((w5.setCell ⟨w.heap.size, 0, none⟩ (.int .i64 C)).setCell ⟨w.heap.size, 1, none⟩ (.slice (some ⟨L, 0, none⟩) (trimN Ls 10) 10)).cell? ⟨w.heap.size, 0, none⟩ = some (.int .i64 C) := (World.cell?_setCell_other _ _ _ _ (by simp)).trans (World.cell?_setCell_same _ _ _ r0)
      have k1 : ((w5.setCell ⟨w.heap.size, 0, none⟩ (.int .i64 C)).setCell ⟨w.heap.size, 1, none⟩ (.slice (some ⟨L, 0, none⟩) (trimN Ls 10) 10)).cell? ⟨w.heap.size, 1, none⟩ = some (.slice (some ⟨L, 0, none⟩) (trimN Ls 10) 10) := World.cell?_setCell_same _ _ _ ((World.cell?_setCell_other _ _ _ _ (by simp)).trans r1)
      refine bodyPost_ret (v := .agg #[.int .i64 C, .slice (some ⟨L, 0, none⟩) (trimN Ls 10) 10]) (by simp [results, Try.results38, go_sem, k0, k1]) rfl ?_
      have hLw : L ≠ w.heap.size := by have := HRe.out; omega
      refine ⟨L, by rw [← HA2.out.1, ← HA2.out.2], ?_, ((bel_next HBR.out HBR.out.size HB5.out).setCell (Nat.le_refl _) _).setCell (Nat.le_refl _) _⟩
      rw [← HA2.out.2]
      exact own_keep (own_below HO.out (Nat.le_refl _) HB5.out) (fun _ h _ => h) fun b hl hs => by
        have hbL : b = L := by
          rcases hs with hs | hs
          · exact hs.elim
          · simpa [Value.ownBlock] using hs
        rw [heap_setCell_ne _ _ _ (show b ≠ w.heap.size by omega), heap_setCell_ne _ _ _ (show b ≠ w.heap.size by omega)]
end Go.Proofs.Ytkckhnpdodbffaa
