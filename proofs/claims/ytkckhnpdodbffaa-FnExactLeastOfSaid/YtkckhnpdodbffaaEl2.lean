/- Contracts: a row of two others without a symbol, the program's side. -/
import Derived.Test.YtkckhnpdodbffaaEl1
import Derived.Test.YtkckhnpdodbffaaL02y
import Derived.Test.YtkckhnpdodbffaaRgH
import Derived.Test.YtkckhnpdodbffaaApp2
import Derived.Deep.RegionHeld3
import Derived.Deep.RegionLaw
namespace Go.Proofs.Ytkckhnpdodbffaa
open Go.RowKit

/-- A slice of two written elements. -/
theorem rd_lit2 {α : Type} {C : Codec α} {S : Nat → Prop} {w : World} {e : TypeId} {cs : Array Value} {x y : α} {c1 c2 : List Value} (h1 : C.rd S (w.alloc (.cells cs e)) c1 x) (h2 : C.rd S (w.alloc (.cells cs e)) c2 y) (hcs : cs.toList = c1 ++ c2) (hS : S w.heap.size) :
    SlRd C S (w.alloc (.cells cs e)) (some ⟨w.heap.size, 0, none⟩) 2 [x, y] := by
  refine ⟨by simp, by decide, by simp, ?_⟩
  rintro z hz i d hi
  cases hz
  refine ⟨⟨rfl, hS, by simp⟩, ?_⟩
  have hl := C.len h1
  have hcell : ∀ o, (w.alloc (.cells cs e)).cell? ⟨w.heap.size, o, none⟩ = cs[o]? := fun o => by rw [cell_of_row _ w.heap.size o cs e (0, 0) (heap_new _ _)]
  match i, hi with
  | 0, hi =>
    simp at hi; subst hi
    refine ⟨c1, h1, fun j u hj => ?_⟩
    have hjl := (List.getElem?_eq_some_iff.1 hj).1
    rw [show 0 + 0 * C.n + j = j by omega, hcell, ← Array.getElem?_toList, hcs, List.getElem?_append_left hjl]; exact hj
  | 1, hi =>
    simp at hi; subst hi
    refine ⟨c2, h2, fun j u hj => ?_⟩
    rw [show 0 + 1 * C.n + j = c1.length + j by omega, hcell, ← Array.getElem?_toList, hcs, List.getElem?_append_right (by omega), Nat.add_sub_cancel_left]; exact hj
  | i + 2, hi => simp at hi
theorem coef_trim (c : Int) (zs : List Int) (k : Nat) : coefAt (c, trimL zs) k = zs.getD k 0 := trimL_getD zs k
/-- A row's three cells. -/
def RowC (w : World) (b : Nat) (r : Row) (a1 : Option Addr) (p1 : Nat) (a2 : Option Addr) (p2 : Nat) : Prop :=
  w.cell? ⟨b, 0, none⟩ = some (.int .i64 r.1) ∧ w.cell? ⟨b, 1, none⟩ = some (.slice a1 (trimL r.2.1).length p1) ∧ w.cell? ⟨b, 2, none⟩ = some (.slice a2 r.2.2.length p2)
theorem SlRd.front {α : Type} {C : Codec α} {S : Nat → Prop} {w : World} {a : Option Addr} {cap : Nat} {xs : List α} (h : SlRd C S w a cap xs) (n : Nat) : SlRd C S w a cap (xs.take n) := by
  obtain ⟨h1, h2, h3, h4⟩ := h
  refine ⟨by rw [List.length_take]; omega, h2, h3, fun x hx i d hi => ?_⟩
  have hlt := (List.getElem?_eq_some_iff.1 hi).1
  rw [List.length_take] at hlt
  rw [List.getElem?_take, if_pos (by omega)] at hi
  exact h4 x hx i d hi
theorem comb_take {n m x y : Int} {xs ys : List Int} {i : Nat} (hx : xs[i]? = some x) (hy : ys[i]? = some y) : comb n m (xs.take (i + 1)) (ys.take (i + 1)) = comb n m (xs.take i) (ys.take i) ++ [n * x + m * y] := by
  unfold comb
  rw [List.take_add_one, List.take_add_one, hx, hy]
  have hl : (xs.take i).length = (ys.take i).length := by
    have h1 := (List.getElem?_eq_some_iff.1 hx).1
    have h2 := (List.getElem?_eq_some_iff.1 hy).1
    rw [List.length_take, List.length_take]; omega
  rw [List.zipWith_append hl]; rfl
/-- The first j numbers divided. -/
def divP (g : Int) (xs : List Int) (j : Nat) : List Int := (xs.take j).map (fun z => z.tdiv g) ++ xs.drop j
theorem divP_zero (g : Int) (xs : List Int) : divP g xs 0 = xs := by simp [divP]
theorem divP_len (g : Int) (xs : List Int) (j : Nat) : (divP g xs j).length = xs.length := by simp [divP]; omega
theorem divP_at {g : Int} {xs : List Int} {j : Nat} (h : j < xs.length) : (divP g xs j)[j]? = xs[j]? := by
  unfold divP
  rw [List.getElem?_append_right (by simp; omega)]
  rw [List.getElem?_drop]
  congr 1
  simp; omega
theorem divP_set {g x : Int} {xs : List Int} {j : Nat} (h : xs[j]? = some x) : (divP g xs j).set j (x.tdiv g) = divP g xs (j + 1) := by
  have hl := (List.getElem?_eq_some_iff.1 h).1
  have he : xs.drop j = x :: xs.drop (j + 1) := by
    rw [List.drop_eq_getElem_cons hl]
    rw [List.getElem?_eq_getElem hl] at h
    rw [Option.some.inj h]
  unfold divP
  rw [he, List.set_append_right _ _ (by simp; omega), List.take_add_one, h, List.map_append]
  have : j - ((xs.take j).map fun z => z.tdiv g).length = 0 := by simp; omega
  rw [this]
  simp
theorem divP_front {g : Int} {xs : List Int} {j : Nat} (h : j ≤ xs.length) : (divP g xs j).take j = divL g (xs.take j) := by
  unfold divP divL
  rw [List.take_append_of_le_length (by simp; omega), List.take_of_length_le (by simp; omega)]
theorem own_some {α : Type} {C : Codec α} {S : Nat → Prop} {w : World} {base : Nat} {e : TypeId} {v : Value} {xs : List α} (h : OwnSl C S w base e v xs) (hn : 0 < xs.length) : ∃ g cap, v = .slice (some ⟨g, 0, none⟩) xs.length cap := by
  obtain ⟨ys, hr, _⟩ := h
  rcases hr.2 with ⟨h1, h2⟩ | ⟨g, cap, cur, h1, _⟩
  · omega
  · exact ⟨g, cap, h1⟩
set_option maxHeartbeats 2000000 in
set_option maxRecDepth 100000 in
theorem c_cancelled {n k : Nat} {S : Nat → Prop} {p q : Row} {ap1 ap2 aq1 aq2 : Option Addr} {cp1 cp2 cq1 cq2 : Nat} {w : World} (hp1 : SlRd cInt S w ap1 cp1 (trimL p.2.1)) (hp2 : SlRd cInt S w ap2 cp2 p.2.2) (hq1 : SlRd cInt S w aq1 cq1 (trimL q.2.1)) (hq2 : SlRd cInt S w aq2 cq2 q.2.2)
    (hp : RowOk n p) (hq : RowOk n q) (hpq : pairB p q k = true) (hk : k < 10) (hn : n ≤ 14) :
    Calls Try.prog 43 #[.agg #[.int .i64 p.1, .slice ap1 (trimL p.2.1).length cp1, .slice ap2 p.2.2.length cp2], .agg #[.int .i64 q.1, .slice aq1 (trimL q.2.1).length cq1, .slice aq2 q.2.2.length cq2], .int .i64 k] w fun e w' => ∃ L x2 c2, e = .returned (.tuple #[.agg #[.int .i64 (mixF p q k).1, .slice (some ⟨L, 0, none⟩) (trimL (mixF p q k).2.1).length 10, .slice x2 (mixF p q k).2.2.length c2], .bool (fineB (mixF p q k))]) ∧ SlRd cInt (Fresh w.heap.size w') w' (some ⟨L, 0, none⟩) 10 (trimL (mixF p q k).2.1) ∧ SlRd cInt (Fresh w.heap.size w') w' x2 c2 (mixF p q k).2.2 ∧ Below w.heap.size w w' := by
  obtain ⟨hg0, hm, hn', hm0, hn0⟩ := mixMN hp hq hpq
  have hpc := cfR_sm hp k
  have hqc := cfR_sm hq k
  have HPO := hid hp
  have HQO := hid hq
  have HB0 : Hid (Below w.heap.size w (((w.alloc (.cells #[.int .i64 p.1, .slice ap1 (trimL p.2.1).length cp1, .slice ap2 p.2.2.length cp2] 52)).alloc (.cells #[.int .i64 q.1, .slice aq1 (trimL q.2.1).length cq1, .slice aq2 q.2.2.length cq2] 52)).alloc (.cells #[.int .i64 0, .slice none 0 0, .slice none 0 0] 52))) := (((Below.refl _ _).alloc (Nat.le_refl _) _).alloc (by simp) _).alloc (by simp only [World.size_alloc]; omega) _
  have H1 := hid (hp1.below (Nat.le_refl _) HB0.out)
  have H2 := hid (hp2.below (Nat.le_refl _) HB0.out)
  have H3 := hid (hq1.below (Nat.le_refl _) HB0.out)
  have H4 := hid (hq2.below (Nat.le_refl _) HB0.out)
  obtain ⟨W0, hW0⟩ : ∃ W0, W0 = (((w.alloc (.cells #[.int .i64 p.1, .slice ap1 (trimL p.2.1).length cp1, .slice ap2 p.2.2.length cp2] 52)).alloc (.cells #[.int .i64 q.1, .slice aq1 (trimL q.2.1).length cq1, .slice aq2 q.2.2.length cq2] 52)).alloc (.cells #[.int .i64 0, .slice none 0 0, .slice none 0 0] 52)) := ⟨_, rfl⟩
  rw [← hW0] at HB0 H1 H2 H3 H4
  have HP : Hid (RowC W0 w.heap.size p ap1 cp1 ap2 cp2) := by rw [hW0]; exact ⟨by simp [go_sem], by simp [go_sem], by simp [go_sem]⟩
  have HQ : Hid (RowC W0 (w.heap.size + 1) q aq1 cq1 aq2 cq2) := by rw [hW0]; exact ⟨by simp [go_sem], by simp [go_sem], by simp [go_sem]⟩
  have hs0 : W0.heap.size = w.heap.size + 3 := by rw [hW0]; simp
  have HR : Hid (W0.cell? ⟨w.heap.size + 2, 0, none⟩ = some (.int .i64 0) ∧ W0.cell? ⟨w.heap.size + 2, 1, none⟩ = some (.slice none 0 0) ∧ W0.cell? ⟨w.heap.size + 2, 2, none⟩ = some (.slice none 0 0) ∧ ∀ o, W0.frozen? ⟨w.heap.size + 2, o, none⟩ = false) := by
    rw [hW0]
    refine ⟨by simp [go_sem], by simp [go_sem], by simp [go_sem], fun o => ?_⟩
    exact frozen_of_row _ _ _ _ _ (by rw [show w.heap.size + 2 = ((w.alloc (.cells #[.int .i64 p.1, .slice ap1 (trimL p.2.1).length cp1, .slice ap2 p.2.2.length cp2] 52)).alloc (.cells #[.int .i64 q.1, .slice aq1 (trimL q.2.1).length cq1, .slice aq2 q.2.2.length cq2] 52)).heap.size by simp]; exact heap_new _ _)
  obtain ⟨p0, p1, p2⟩ := HP.out
  obtain ⟨q0, q1, q2⟩ := HQ.out
  have HS0 := hid hs0
  have z0 : w.heap.size < W0.heap.size := by omega
  have z1 : w.heap.size + 1 < W0.heap.size := by omega
  have HC1 := hid (fun (w' : World) (hb' : Below W0.heap.size W0 w') => c_coeff p.1 ap1 cp1 (trimL p.2.1) k w' (H1.out.below (Nat.le_refl _) hb'))
  have HC2 := hid (fun (w' : World) (hb' : Below W0.heap.size W0 w') => c_coeff q.1 aq1 cq1 (trimL q.2.1) k w' (H3.out.below (Nat.le_refl _) hb'))
  have ec1 : coefAt (p.1, trimL p.2.1) k = cfR p k := coef_trim _ _ _
  have ec2 : coefAt (q.1, trimL q.2.1) k = cfR q k := coef_trim _ _ _
  rw [ec1] at HC1
  rw [ec2] at HC2
  obtain ⟨mm, hmm⟩ : ∃ x, cfR p k = x := ⟨_, rfl⟩
  obtain ⟨nq, hnq⟩ : ∃ x, cfR q k = x := ⟨_, rfl⟩
  have hMM : mixM p q k = mm.tdiv (gcd2 mm (-nq)) := by unfold mixM; rw [hmm, hnq]
  have hNN : mixN p q k = (-nq).tdiv (gcd2 mm (-nq)) := by unfold mixN; rw [hmm, hnq]
  rw [hmm] at HC1 hpc hg0
  rw [hnq] at HC2 hqc hg0
  have HMM := hid hMM
  have HNN := hid hNN
  have HW0 := hid hW0
  have HG : Hid True := trivial
  have wn : IntKind.i64.wrap (-nq) = -nq := by unfold sm at hqc; exact wrap_in _ (by omega) (by omega)
  clear ec1 ec2 hmm hnq hMM hNN hW0 hs0 hp1 hp2 hq1 hq2 hp hq
  go_enter Try.func43, Try.ntmps43
  go_wp2
  rw [← HW0.out]
  go_region_held3 (fun w' => w'.cell? ⟨w.heap.size, 0, none⟩ = some (.int .i64 p.1) ∧ w'.cell? ⟨w.heap.size, 1, none⟩ = some (.slice ap1 (trimL p.2.1).length cp1) ∧ w'.cell? ⟨w.heap.size + 1, 0, none⟩ = some (.int .i64 q.1) ∧ w'.cell? ⟨w.heap.size + 1, 1, none⟩ = some (.slice aq1 (trimL q.2.1).length cq1)) (first | exact ⟨p0, p1, q0, q1⟩ | exact kk1 | exact kk2) (first | (have hq := HG.out; clear hq HG; go_at_call 37; refine (HC1.out _ (below_drewN _ _ 1)).mono ?_; rintro e w2 ⟨rfl, hb2⟩; have HB2 : Hid (Below W0.heap.size W0 w2) := (below_drewN _ W0 1).trans hb2; have kk1 := And.intro (cell_below HB2.out z0 p0) (And.intro (cell_below HB2.out z0 p1) (And.intro (cell_below HB2.out z1 q0) (cell_below HB2.out z1 q1))); clear hb2) | (go_at_call 37; refine (HC2.out _ HB2.out).mono ?_; rintro e w3 ⟨rfl, hb3⟩; have HB3 := hid (bel_next HB2.out HB2.out.size hb3); have kk2 := And.intro (cell_below HB3.out z0 p0) (And.intro (cell_below HB3.out z0 p1) (And.intro (cell_below HB3.out z1 q0) (cell_below HB3.out z1 q1))); clear hb3))
  clear kk1 kk2 HB2
  have hqn : sm (-nq) := by unfold sm at hqc ⊢; omega
  clear wn
  generalize -nq = nn at *
  clear HC2 hqc
  have hqc := hqn
  clear hqn
  have HLB : Hid (Below w3.heap.size w3 (w3.alloc (.cells #[.int .i64 mm, .int .i64 nn] 2))) := (Below.refl _ _).alloc (Nat.le_refl _) _
  have HBL := hid (bel_next HB3.out HB3.out.size HLB.out)
  have hi1 : I64 mm := by unfold sm at hpc; exact ⟨by omega, by omega⟩
  have hi2 : I64 nn := by unfold sm at hqc; exact ⟨by omega, by omega⟩
  have HCG := hid (c_gcd (S := fun _ => True) (some ⟨w3.heap.size, 0, none⟩) 2 [mm, nn] (w3.alloc (.cells #[.int .i64 mm, .int .i64 nn] 2)) (rd_lit2 (C := cInt) (c1 := [.int .i64 mm]) (c2 := [.int .i64 nn]) ⟨rfl, hi1⟩ ⟨rfl, hi2⟩ rfl trivial) (fun z hz => by
    unfold sm at hpc hqc
    rcases List.mem_cons.1 hz with rfl | hz
    · exact ⟨by omega, by omega⟩
    · rw [List.mem_singleton.1 hz]; exact ⟨by omega, by omega⟩))
  have eg : gcdL [mm, nn] = gcd2 mm nn := by simp [gcdL, gcd2]
  rw [eg] at HCG
  obtain ⟨G, hG⟩ : ∃ G, gcd2 mm nn = G := ⟨_, rfl⟩
  rw [hG] at HCG HMM HNN hg0
  have hM := HMM.out
  have hN := HNN.out
  rw [hM] at hm hm0
  rw [hN] at hn' hn0
  obtain ⟨M, hMe⟩ : ∃ x, mm.tdiv G = x := ⟨_, rfl⟩
  obtain ⟨N, hNe⟩ : ∃ x, nn.tdiv G = x := ⟨_, rfl⟩
  rw [hMe] at hm hm0 HMM
  rw [hNe] at hn' hn0 HNN
  have wM : IntKind.i64.wrap (mm.tdiv G) = M := by unfold sm at hm; rw [hMe]; exact wrap_in _ (by omega) (by omega)
  have wN : IntKind.i64.wrap (nn.tdiv G) = N := by unfold sm at hn'; rw [hNe]; exact wrap_in _ (by omega) (by omega)
  have hGi : ((G : Nat) : Int) ≠ 0 := by omega
  have hGb : (((G : Nat) : Int) == 0) = false := by simpa using hGi
  clear eg hM hN hMe hNe hG
  go_wp2_with (go_at_call 52; refine HCG.out.mono ?_; rintro e w4 ⟨rfl, hb4⟩; have HB4 := hid (bel_next HBL.out HBL.out.size hb4); clear hb4)
  go_region
  have HB4d : Hid (Below W0.heap.size W0 w4.drew) := HB4.out.drew
  generalize w4.drew = w5 at *
  have u0 := cell_below HB4d.out z0 p0
  have u1 := cell_below HB4d.out z0 p1
  have v0 := cell_below HB4d.out z1 q0
  have v1 := cell_below HB4d.out z1 q1
  clear HCG HLB HBL HB3 HB4
  have HA1 : Hid (Below w5.heap.size w5 (w5.alloc (.cells #[.int .i64 p.1, .slice ap1 (trimL p.2.1).length cp1, .int .i64 q.1, .slice aq1 (trimL q.2.1).length cq1] 39))) := (Below.refl _ _).alloc (Nat.le_refl _) _
  have H1a := hid (((H1.out.below (Nat.le_refl _) HB4d.out).keep (S' := fun _ => True) fun _ _ _ => ⟨trivial, rfl⟩).below (Nat.le_refl _) HA1.out)
  have H3a := hid (((H3.out.below (Nat.le_refl _) HB4d.out).keep (S' := fun _ => True) fun _ _ _ => ⟨trivial, rfl⟩).below (Nat.le_refl _) HA1.out)
  have hpc1 : I64 p.1 := by have := HPO.out.c; unfold sm at this; exact ⟨by omega, by omega⟩
  have hqc1 : I64 q.1 := by have := HQO.out.c; unfold sm at this; exact ⟨by omega, by omega⟩
  have hNi : I64 N := by unfold sm at hn'; exact ⟨by omega, by omega⟩
  have hMi : I64 M := by unfold sm at hm; exact ⟨by omega, by omega⟩
  have htl1 : (trimL p.2.1).length ≤ 10 := by rw [trimL_len, HPO.out.len]; exact trimN_le _ _
  have htl2 : (trimL q.2.1).length ≤ 10 := by rw [trimL_len, HQO.out.len]; exact trimN_le _ _
  have HLT : Hid (SlRd cTerm (fun _ => True) (w5.alloc (.cells #[.int .i64 p.1, .slice ap1 (trimL p.2.1).length cp1, .int .i64 q.1, .slice aq1 (trimL q.2.1).length cq1] 39)) (some ⟨w5.heap.size, 0, none⟩) 2 [(p.1, trimL p.2.1), (q.1, trimL q.2.1)]) := rd_lit2 (C := cTerm) (c1 := [.int .i64 p.1, .slice ap1 (trimL p.2.1).length cp1]) (c2 := [.int .i64 q.1, .slice aq1 (trimL q.2.1).length cq1]) ⟨[_], [_], rfl, ⟨rfl, hpc1⟩, ⟨ap1, cp1, rfl, H1a.out⟩⟩ ⟨[_], [_], rfl, ⟨rfl, hqc1⟩, ⟨aq1, cq1, rfl, H3a.out⟩⟩ rfl trivial
  have HLM : Hid (SlRd cInt (fun _ => True) ((w5.alloc (.cells #[.int .i64 p.1, .slice ap1 (trimL p.2.1).length cp1, .int .i64 q.1, .slice aq1 (trimL q.2.1).length cq1] 39)).alloc (.cells #[.int .i64 N, .int .i64 M] 2)) (some ⟨w5.heap.size + 1, 0, none⟩) 2 [N, M]) := by
    have h9 := rd_lit2 (C := cInt) (S := fun _ => True) (w := w5.alloc (.cells #[.int .i64 p.1, .slice ap1 (trimL p.2.1).length cp1, .int .i64 q.1, .slice aq1 (trimL q.2.1).length cq1] 39)) (e := 2) (cs := #[.int .i64 N, .int .i64 M]) (c1 := [.int .i64 N]) (c2 := [.int .i64 M]) ⟨rfl, hNi⟩ ⟨rfl, hMi⟩ rfl trivial
    rw [World.size_alloc] at h9
    exact h9
  have HCC := hid (c_combined (HLT.out.alloc (.cells #[.int .i64 N, .int .i64 M] 2)) HLM.out rfl (by simp) (fun t ht => by
    rcases List.mem_cons.1 ht with rfl | ht
    · exact ⟨⟨HPO.out.c, fun z hz => HPO.out.ls z (trim_mem hz)⟩, htl1⟩
    · rw [List.mem_singleton.1 ht]; exact ⟨⟨HQO.out.c, fun z hz => HQO.out.ls z (trim_mem hz)⟩, htl2⟩) (fun z hz => by
    rcases List.mem_cons.1 hz with rfl | hz
    · exact hn'
    · rw [List.mem_singleton.1 hz]; exact hm))
  have eA : accN [(p.1, trimL p.2.1), (q.1, trimL q.2.1)] [N, M] [(p.1, trimL p.2.1), (q.1, trimL q.2.1)].length = (N * p.1 + M * q.1, comb N M p.2.1 q.2.1) := accN_two HPO.out.len HQO.out.len
  rw [eA] at HCC
  obtain ⟨CC, hCC⟩ : ∃ x, N * p.1 + M * q.1 = x := ⟨_, rfl⟩
  obtain ⟨CL, hCL⟩ : ∃ x, comb N M p.2.1 q.2.1 = x := ⟨_, rfl⟩
  have HCCe := hid hCC
  have HCLe := hid hCL
  rw [hCC, hCL] at HCC
  have HA2 : Hid (Below w5.heap.size w5 ((w5.alloc (.cells #[.int .i64 p.1, .slice ap1 (trimL p.2.1).length cp1, .int .i64 q.1, .slice aq1 (trimL q.2.1).length cq1] 39)).alloc (.cells #[.int .i64 N, .int .i64 M] 2))) := HA1.out.alloc HA1.out.size _
  have HB5 := hid (bel_next HB4d.out HB4d.out.size HA2.out)
  clear eA hCC hCL hGb hGi wM wN HLT HLM H1a H3a HA1 HA2
  go_wp2_with (go_at_call 38; refine HCC.out.mono ?_; rintro e w6 ⟨L, rfl, ho6, hb6⟩; have HB6 := hid (bel_next HB5.out HB5.out.size hb6); have HO6 := hid ho6; have HB7 := hid (HB6.out.alloc HB6.out.size (.cells #[.int .i64 CC, .slice (some ⟨L, 0, none⟩) (trimN CL 10) 10] 39)); have a2 := cell_below HB7.out z0 p2; have b2 := cell_below HB7.out z1 q2; clear ho6 hb6)
  have hLt := (own_lt HO6.out L rfl).2
  obtain ⟨tb, htb⟩ : ∃ t, t = w6.heap.size := ⟨_, rfl⟩
  obtain ⟨W7, hW7⟩ : ∃ x, x = w6.alloc (.cells #[.int .i64 CC, .slice (some ⟨L, 0, none⟩) (trimN CL 10) 10] 39) := ⟨_, rfl⟩
  have hB67 : Below w6.heap.size w6 W7 := by rw [hW7]; exact (Below.refl _ _).alloc (Nat.le_refl _) _
  have HO7 : Hid (OwnSl cInt (fun _ => False) W7 W0.heap.size 2 (.slice (some ⟨L, 0, none⟩) 10 10) CL) := own_base (own_below HO6.out (Nat.le_refl _) hB67) HB5.out.size
  have tc0 : W7.cell? ⟨tb, 0, none⟩ = some (.int .i64 CC) := by rw [hW7, htb, World.cell?_alloc_at _ _ _ _ rfl]; rfl
  have tc1 : W7.cell? ⟨tb, 1, none⟩ = some (.slice (some ⟨L, 0, none⟩) (trimN CL 10) 10) := by rw [hW7, htb, World.cell?_alloc_at _ _ _ _ rfl]; rfl
  have HTF : Hid (∀ o, W7.frozen? ⟨tb, o, none⟩ = false) := by rw [hW7, htb]; exact fun o => frozen_of_row _ _ _ _ _ (heap_new _ _)
  have htb7 : tb < W7.heap.size := by rw [hW7, htb]; simp
  have hLtb : L < tb := by omega
  have hW0L := (own_lt HO7.out L rfl).1
  rw [← hW7] at HB7 a2 b2 ⊢
  rw [← htb]
  have HTBE := hid htb
  clear hW7 htb hLt HO6 HB6 HB5 HCC hB67 HTBE
  have hW07 : W0.heap.size ≤ W7.heap.size := HB7.out.size
  have hl1 : p.2.2.length ≤ n := Nat.le_of_eq HPO.out.tlen
  have hl1' : n ≤ p.2.2.length := Nat.le_of_eq HPO.out.tlen.symm
  have hl2 : q.2.2.length ≤ n := Nat.le_of_eq HQO.out.tlen
  have hl2' : n ≤ q.2.2.length := Nat.le_of_eq HQO.out.tlen.symm
  have HTP := hid (times_sm HPO.out)
  have HTQ := hid (times_sm HQO.out)
  go_loopw [12, 47] (fun v i wr => ∃ j : Nat, j ≤ n ∧ i = .int .i64 j ∧ Hid (OwnSl cInt (fun _ => False) wr W7.heap.size 2 v (comb N M (p.2.2.take j) (q.2.2.take j))) ∧ Hid (Below W7.heap.size W7 wr)) (fun _ i _ => n - (intOf i).toNat)
  case atStart => exact ⟨0, Nat.zero_le _, rfl, own_nil _ _ _ _ _, Below.refl _ _⟩
  case round =>
    obtain ⟨j, hj, rfl, HO, HBR⟩ := hrel
    have HBR0 := hid (bel_next HB7.out HB7.out.size HBR.out)
    have c2 := cell_below HBR0.out z0 p2
    have d2 := cell_below HBR0.out z1 q2
    by_cases hlt : j < n
    · obtain ⟨bp, op', rfl⟩ := H2.out.some_of (k := j) (by omega)
      obtain ⟨bq, oq, rfl⟩ := H4.out.some_of (k := j) (by omega)
      obtain ⟨x, hx, hx1, hxc, hxb⟩ := (H2.out.below (Nat.le_refl _) HBR0.out).int_at j (by omega)
      obtain ⟨y, hy, hy1, hyc, hyb⟩ := (H4.out.below (Nat.le_refl _) HBR0.out).int_at j (by omega)
      have xs := HTP.out x (List.mem_of_getElem? hx)
      have ys := HTQ.out y (List.mem_of_getElem? hy)
      have b1 := prod_abs hn' xs
      have b2' := prod_abs hm ys
      have HN := hid (comb_take (n := N) (m := M) hx hy)
      obtain ⟨X, hX⟩ : ∃ X, N * x = X := ⟨_, rfl⟩
      obtain ⟨Y, hY⟩ : ∃ Y, M * y = Y := ⟨_, rfl⟩
      rw [hX, hY] at HN
      rw [hX] at b1
      rw [hY] at b2'
      have wX : IntKind.i64.wrap (N * x) = X := by rw [hX]; exact wrap_in _ (by omega) (by omega)
      have wY : IntKind.i64.wrap (M * y) = Y := by rw [hY]; exact wrap_in _ (by omega) (by omega)
      have wZ : IntKind.i64.wrap (X + Y) = X + Y := wrap_in _ (by omega) (by omega)
      have j0 : (0 : Int) ≤ (j : Int) := by omega
      have j1 : (j : Int) < (p.2.2.length : Int) := by omega
      have j2 : (j : Int) < (q.2.2.length : Int) := by omega
      have e1 : decide ((j : Int) < (p.2.2.length : Int)) = true := decide_eq_true j1
      have hcl : (comb N M (p.2.2.take j) (q.2.2.take j)).length ≤ 14 := by rw [comb_len (by rw [List.length_take, List.length_take]; omega), List.length_take]; omega
      clear hx hy hX hY
      have HLX : Hid (Below wr.heap.size wr (wr.alloc (.cells #[.int .i64 (X + Y)] 2)).drew) := ((Below.refl _ _).alloc (Nat.le_refl _) _).drew
      have HOA := hid (own_below HO.out (Nat.le_refl _) HLX.out)
      have HBK : Hid ((wr.alloc (.cells #[.int .i64 (X + Y)] 2)).drew.heap[wr.heap.size]? = some (.cells #[.int .i64 (X + Y)] 2 (0, 0))) := heap_new wr _
      have HBA := hid (bel_next HBR.out HBR.out.size HLX.out)
      go_wp2
      go_region_law (refine step_own (C := cInt) rfl (.tmp 50) (.tmp 66) _ rfl slI64 rfl rfl HOA.out HBK.out no_blk (X + Y) (rd_int ⟨by omega, by omega⟩) (by omega) HBA.out.size ?_; intro v8 w8 hO8 hb8; have HO8 := hid hO8; have HB8 := hid (HBA.out.trans hb8); clear hO8 hb8)
      all_goals
        go_wp2
        go_roundw
        case rel => exact ⟨j + 1, by omega, by go_num, by rw [HN.out]; exact HO8, HB8⟩
        case measure => simp [intOf]; omega
    · have hjn : j = n := by omega
      have e1 : decide ((j : Int) < (p.2.2.length : Int)) = false := decide_eq_false (by omega)
      have h9 := HO.out
      rw [List.take_of_length_le (l := p.2.2) (by omega), List.take_of_length_le (l := q.2.2) (by omega)] at h9
      have HO8 := hid h9
      clear h9
      clear hjn HO
      have hCLl : CL.length = 10 := by rw [← HCLe.out, comb_len (by rw [HPO.out.len, HQO.out.len]), HPO.out.len]
      have htr : (trimL CL).length = trimN CL 10 := by rw [trimL_len, hCLl]
      have hBYl : (comb N M p.2.2 q.2.2).length = n := by rw [comb_len (by rw [HPO.out.tlen, HQO.out.tlen]), HPO.out.tlen]
      obtain ⟨BY, hBY⟩ : ∃ x, comb N M p.2.2 q.2.2 = x := ⟨_, rfl⟩
      have HRAW : Hid (rawMix p q k = (CC, CL, BY)) := by unfold Hid rawMix; rw [HMM.out, HNN.out, HCCe.out, HCLe.out, hBY]
      have HRO := hid (raw_ok HPO.out HQO.out hpq)
      rw [HRAW.out] at HRO
      rw [hBY] at HO8 hBYl
      have HO7r := hid (own_below HO7.out (Nat.le_refl _) HBR.out)
      obtain ⟨a9, c9, he9, hs9⟩ := own_rd (own_keep (S' := Fresh W0.heap.size wr) HO7r.out (fun _ h => h.elim) fun _ _ _ => rfl) (Nat.le_refl _)
      rw [hCLl] at he9
      injection he9 with ha9 _ hc9
      subst ha9
      subst hc9
      have HTR := hid (hs9.front (trimN CL CL.length))
      have hBYp : 0 < BY.length := by obtain ⟨z, hz, _⟩ := HRO.out.pos; exact List.length_pos_of_mem hz
      obtain ⟨yb, c8, rfl⟩ := own_some HO8.out hBYp
      obtain ⟨a8, c8', he8, hs8⟩ := own_rd (own_keep (S' := Fresh W7.heap.size wr) HO8.out (fun _ h => h.elim) fun _ _ _ => rfl) (Nat.le_refl _)
      injection he8 with ha8 _ hc8
      subst ha8
      subst hc8
      have HS8 := hid hs8
      have hyb := own_lt HO8.out yb rfl
      have HCLl := hid hCLl
      have HTRl := hid htr
      have HBYl := hid hBYl
      have tr0 := cell_below HBR.out htb7 tc0
      have tr1 := cell_below HBR.out htb7 tc1
      have htr10 : (trimL CL).length ≤ 10 := by rw [htr, ← hCLl]; exact trimN_le _ _
      have hBY14 : BY.length ≤ 14 := by omega
      clear hCLl htr hBYl hBY hs8 hs9 HO7r c2 d2
      have hCCi : I64 CC := by have := HRO.out.c; exact ⟨by omega, by omega⟩
      have HBLt : Hid (Below wr.heap.size wr (wr.alloc (.cells #[.int .i64 CC] 2))) := (Below.refl _ _).alloc (Nat.le_refl _) _
      have hw7r := HBR.out.size
      have HOL : Hid (OwnSl cInt (fun _ => False) (wr.alloc (.cells #[.int .i64 CC] 2)) wr.heap.size 2 (.slice (some ⟨wr.heap.size, 0, none⟩) 1 1) [CC]) := own_lit1 cInt (fun _ => False) wr wr.heap.size 2 (Nat.le_refl _) (cs := #[.int .i64 CC]) CC (rd_int hCCi)
      have htbr : tb < wr.heap.size := Nat.lt_of_lt_of_le htb7 hw7r
      have tl0 := cell_below HBLt.out htbr tr0
      have tl1 := cell_below HBLt.out htbr tr1
      have HTRL : Hid (SlRd cInt (Fresh W0.heap.size wr) (wr.alloc (.cells #[.int .i64 CC] 2)) (some ⟨L, 0, none⟩) 10 (trimL CL)) := HTR.out.below (Nat.le_refl _) HBLt.out
      have HS8L := hid (HS8.out.below (Nat.le_refl _) HBLt.out)
      have HBRL := hid (bel_next HBR.out HBR.out.size HBLt.out)
      have HGE : Hid (gcdL (([CC] ++ trimL CL) ++ BY) = rowG (CC, CL, BY)) := gcdL_trim CC CL BY
      have HSM : Hid (∀ z ∈ ([CC] ++ trimL CL) ++ BY, Small z) := by
        intro z hz
        rcases List.mem_append.1 hz with hz | hz
        · rcases List.mem_append.1 hz with hz | hz
          · rw [List.mem_singleton.1 hz]; have := HRO.out.c; exact ⟨by omega, by omega⟩
          · have := HRO.out.ls z (trim_mem hz); exact ⟨by omega, by omega⟩
        · have := HRO.out.ts z hz; exact ⟨by omega, by omega⟩
      have hGpos := rowG_pos HRO.out
      have hCCb := HRO.out.c
      simp only at hCCb
      obtain ⟨G2, hG2⟩ : ∃ x, rowG (CC, CL, BY) = x := ⟨_, rfl⟩
      rw [hG2] at HGE hGpos
      have HG2 := hid hG2
      have hG2i : ((G2 : Nat) : Int) ≠ 0 := by omega
      obtain ⟨C2, hC2⟩ : ∃ x, CC.tdiv (G2 : Int) = x := ⟨_, rfl⟩
      have hC2b : C2.natAbs ≤ 2000000000000 := by rw [← hC2, Int.natAbs_tdiv]; exact Nat.le_trans (Nat.div_le_self _ _) (by omega)
      have wC2 : IntKind.i64.wrap (CC.tdiv (G2 : Int)) = C2 := by rw [hC2]; exact wrap_in _ (by omega) (by omega)
      have HC2 := hid hC2
      clear hG2 hC2
      obtain ⟨GL, hGL⟩ : ∃ x, ([CC] ++ trimL CL) ++ BY = x := ⟨_, rfl⟩
      rw [hGL] at HGE HSM
      have HGL := hid hGL
      clear hGL
      have hHOLg : Hid True := trivial
      go_wp2_with (first | (have hq := hHOLg.out; clear hq hHOLg; at_builtin; refine app_all (C := cInt) rfl (.tmp 71) (.tmp 73) _ rfl slI64 flat_int rfl (by rw [HTRl.out]; rfl) HOL.out HTRL.out no_blk (by rw [List.length_singleton]; omega) HBLt.out.size ?_; intro v8 w8 hO9 hb8; have HO9 := hid hO9; have HB8 := hid (HBLt.out.trans hb8); have HS9 := hid (HS8.out.below (Nat.le_refl _) HB8.out); clear hO9 hb8) | (at_builtin; refine app_all (C := cInt) rfl (.tmp 74) (.tmp 75) _ rfl slI64 flat_int rfl rfl HO9.out HS9.out no_blk (by rw [List.length_append, List.length_singleton]; omega) HB8.out.size ?_; intro v9 w9 hO9 hb9; rw [HGL.out] at hO9; obtain ⟨ag, cg, rfl, hsg⟩ := own_rd (own_keep (S' := Fresh wr.heap.size w9) hO9 (fun _ h => h.elim) fun _ _ _ => rfl) (Nat.le_refl _); have HCGG := hid (c_gcd ag cg _ w9 hsg HSM.out); rw [HGE.out] at HCGG; have HB9 := hid (HB8.out.trans hb9); clear hO9 hb9 hsg) | (go_at_call 52; refine HCGG.out.mono ?_; rintro e w10 ⟨rfl, hb10⟩; have HB10 := hid (HB9.out.trans (hb10.mono HB9.out.size)); have s0 := cell_below HB10.out htbr tr0; have s1 := cell_below HB10.out htbr tr1; have sf0 := frz_below HB10.out htbr (frz_below HBR.out htb7 (HTF.out 0)); clear hb10))
      have hyb1 := hyb.1
      have hyb2 := hyb.2
      have hLw10 : L < w10.heap.size := by have := HB10.out.size; omega
      have HBW : Hid (Below W0.heap.size W0 (w10.setCell ⟨tb, 0, none⟩ (.int .i64 C2))) := (bel_next HBR0.out HBR0.out.size HB10.out).setCell (show W0.heap.size ≤ tb by omega) _
      have m0 : (w10.setCell ⟨tb, 0, none⟩ (.int .i64 C2)).cell? ⟨tb, 0, none⟩ = some (.int .i64 C2) := World.cell?_setCell_same _ _ _ s0
      have m1 : (w10.setCell ⟨tb, 0, none⟩ (.int .i64 C2)).cell? ⟨tb, 1, none⟩ = some (.slice (some ⟨L, 0, none⟩) (trimN CL 10) 10) := (World.cell?_setCell_other _ _ _ _ (by simp)).trans s1
      have HOCL : Hid (OwnSl cInt (fun _ => False) (w10.setCell ⟨tb, 0, none⟩ (.int .i64 C2)) W0.heap.size 2 (.slice (some ⟨L, 0, none⟩) 10 10) CL) := own_keep (own_below (own_below HO7.out (Nat.le_refl _) HBR.out) (Nat.le_refl _) HB10.out) (fun _ h _ => h) fun b hl hs => heap_setCell_ne _ _ _ (by rcases hs with hs | hs <;> first | exact hs.elim | (have : b = L := (by simpa [Value.ownBlock] using hs); show b ≠ tb; omega))
      have HOBY : Hid (OwnSl cInt (fun _ => False) (w10.setCell ⟨tb, 0, none⟩ (.int .i64 C2)) W7.heap.size 2 (.slice (some ⟨yb, 0, none⟩) BY.length c8) BY) := own_keep (own_below HO8.out (Nat.le_refl _) HB10.out) (fun _ h _ => h) fun b hl hs => heap_setCell_ne _ _ _ (by rcases hs with hs | hs <;> first | exact hs.elim | (have : b = yb := (by simpa [Value.ownBlock] using hs); show b ≠ tb; omega))
      have htbW : tb < (w10.setCell ⟨tb, 0, none⟩ (.int .i64 C2)).heap.size := by rw [size_set]; have := HB10.out.size; omega
      have htN : trimN CL 10 ≤ 10 := trimN_le _ _
      obtain ⟨tN, htNe⟩ : ∃ x, trimN CL 10 = x := ⟨_, rfl⟩
      have HTN := hid htNe
      clear tr0 tr1 tl0 tl1 s0 s1 sf0 HO8 HO9 HS8L HS9 HB8 HB9 HCGG HBLt HBRL HOL HTRL HTR HS8 HSM hyb
      generalize w10.setCell ⟨tb, 0, none⟩ (.int .i64 C2) = W8 at *
      rw [htNe] at m1 htN ⊢
      clear htNe
      obtain ⟨wo, rfl⟩ : ∃ wo : World, wo = wr := ⟨_, rfl⟩
      go_loopw [86] (fun i wr => ∃ (j : Nat) (LL : List Int), j ≤ tN ∧ i = .int .i64 j ∧ Hid (LL = divP G2 CL j) ∧ tb < wr.heap.size ∧ wr.cell? ⟨tb, 0, none⟩ = some (.int .i64 C2) ∧ wr.cell? ⟨tb, 1, none⟩ = some (.slice (some ⟨L, 0, none⟩) tN 10) ∧ Hid (OwnSl cInt (fun _ => False) wr W0.heap.size 2 (.slice (some ⟨L, 0, none⟩) 10 10) LL) ∧ Hid (OwnSl cInt (fun _ => False) wr W7.heap.size 2 (.slice (some ⟨yb, 0, none⟩) BY.length c8) BY) ∧ Hid (Below W0.heap.size W0 wr)) (fun i _ => tN - (intOf i).toNat)
      case atStart => exact ⟨0, CL, Nat.zero_le _, rfl, (divP_zero _ _).symm, htbW, m0, m1, HOCL, HOBY, HBW⟩
      case round =>
        clear m0 m1 HOCL HOBY HBW htbW
        obtain ⟨j2, LL, hj2, rfl, HLL, htbr2, m0, m1, HOL, HOY, HBR2⟩ := hrel
        by_cases hlt2 : j2 < tN
        · have hLL : LL.length = 10 := by rw [HLL.out, divP_len, HCLl.out]
          obtain ⟨z, hz, hz1, hzc, hzf, hzL, _⟩ := own_at_int HOL.out hLL j2 (by omega)
          have hzv : CL[j2]? = some z := by rw [← divP_at (g := G2) (by rw [HCLl.out]; omega), ← HLL.out]; exact hz
          have hzb : -2000000000000 ≤ z ∧ z ≤ 2000000000000 := HRO.out.ls z (List.mem_of_getElem? hzv)
          obtain ⟨D, hD⟩ : ∃ x, z.tdiv (G2 : Int) = x := ⟨_, rfl⟩
          have hDb : D.natAbs ≤ 2000000000000 := by rw [← hD, Int.natAbs_tdiv]; exact Nat.le_trans (Nat.div_le_self _ _) (by omega)
          have wD : IntKind.i64.wrap (z.tdiv (G2 : Int)) = D := by rw [hD]; exact wrap_in _ (by omega) (by omega)
          have HSET := hid (own_set_int HOL.out hLL j2 (by omega) D ⟨by omega, by omega⟩).1
          have HPS : Hid (LL.set j2 D = divP G2 CL (j2 + 1)) := by unfold Hid; rw [HLL.out, ← hD]; exact divP_set hzv
          have j0' : (0 : Int) ≤ (j2 : Int) := by omega
          have j1' : (j2 : Int) < (tN : Int) := by omega
          have e2 : decide ((j2 : Int) < (tN : Int)) = true := decide_eq_true j1'
          clear hz hzv hD HLL HOL
          go_wp2
          go_roundw
          case rel => exact ⟨j2 + 1, LL.set j2 D, by omega, by go_num, HPS, by rw [size_set]; exact htbr2, cell_set_ne (show tb ≠ L by omega) m0, cell_set_ne (show tb ≠ L by omega) m1, HSET, own_keep HOY.out (fun _ h _ => h) fun b hl hs => heap_setCell_ne _ _ _ (by rcases hs with hs | hs <;> first | exact hs.elim | (have : b = yb := (by simpa [Value.ownBlock] using hs); show b ≠ L; omega)), HBR2.out.setCell (show W0.heap.size ≤ L by omega) _⟩
          case measure => simp [intOf]; omega
        · have hjt : j2 = tN := by omega
          have e2 : decide ((j2 : Int) < (tN : Int)) = false := decide_eq_false (by omega)
          have HLE : Hid (LL = divP G2 CL tN) := by rw [← hjt]; exact HLL
          clear hjt HLL
          go_wp2
          obtain ⟨wo2, rfl⟩ : ∃ wo2 : World, wo2 = wr := ⟨_, rfl⟩
          go_loopw [100] (fun i wr => ∃ (j : Nat) (YY : List Int), j ≤ BY.length ∧ i = .int .i64 j ∧ Hid (YY = divP G2 BY j) ∧ tb < wr.heap.size ∧ wr.cell? ⟨tb, 0, none⟩ = some (.int .i64 C2) ∧ wr.cell? ⟨tb, 1, none⟩ = some (.slice (some ⟨L, 0, none⟩) tN 10) ∧ Hid (OwnSl cInt (fun _ => False) wr W0.heap.size 2 (.slice (some ⟨L, 0, none⟩) 10 10) LL) ∧ Hid (OwnSl cInt (fun _ => False) wr W7.heap.size 2 (.slice (some ⟨yb, 0, none⟩) BY.length c8) YY) ∧ Hid (Below W0.heap.size W0 wr)) (fun i _ => BY.length - (intOf i).toNat)
          case atStart => exact ⟨0, BY, Nat.zero_le _, rfl, (divP_zero _ _).symm, htbr2, m0, m1, HOL, HOY, HBR2⟩
          case round =>
            clear m0 m1 HOL HOY HBR2 htbr2
            obtain ⟨j3, YY, hj3, rfl, HYY, htbr3, m0, m1, HOL, HOY, HBR3⟩ := hrel
            by_cases hlt3 : j3 < BY.length
            · have hYY : YY.length = BY.length := by rw [HYY.out, divP_len]
              obtain ⟨z, hz, hz1, hzc, hzf, hzL, _⟩ := own_at_int HOY.out hYY j3 hlt3
              have hzv : BY[j3]? = some z := by rw [← divP_at (g := G2) hlt3, ← HYY.out]; exact hz
              have hzb : 0 ≤ z ∧ z ≤ 2000000000000 := HRO.out.ts z (List.mem_of_getElem? hzv)
              obtain ⟨D, hD⟩ : ∃ x, z.tdiv (G2 : Int) = x := ⟨_, rfl⟩
              have hDb : D.natAbs ≤ 2000000000000 := by rw [← hD, Int.natAbs_tdiv]; exact Nat.le_trans (Nat.div_le_self _ _) (by omega)
              have wD : IntKind.i64.wrap (z.tdiv (G2 : Int)) = D := by rw [hD]; exact wrap_in _ (by omega) (by omega)
              have HSET := hid (own_set_int HOY.out hYY j3 hlt3 D ⟨by omega, by omega⟩).1
              have HPS : Hid (YY.set j3 D = divP G2 BY (j3 + 1)) := by unfold Hid; rw [HYY.out, ← hD]; exact divP_set hzv
              have j0' : (0 : Int) ≤ (j3 : Int) := by omega
              have j1' : (j3 : Int) < (BY.length : Int) := by omega
              have e3 : decide ((j3 : Int) < (BY.length : Int)) = true := decide_eq_true j1'
              clear hz hzv hD HYY HOY hYY
              go_wp2
              go_roundw
              case rel => exact ⟨j3 + 1, YY.set j3 D, by omega, by go_num, HPS, by rw [size_set]; exact htbr3, cell_set_ne (show tb ≠ yb by omega) m0, cell_set_ne (show tb ≠ yb by omega) m1, own_keep HOL.out (fun _ h _ => h) fun b hl hs => heap_setCell_ne _ _ _ (by rcases hs with hs | hs <;> first | exact hs.elim | (have : b = L := (by simpa [Value.ownBlock] using hs); show b ≠ yb; omega)), HSET, HBR3.out.setCell (show W0.heap.size ≤ yb by omega) _⟩
              case measure => simp [intOf]; omega
            · have hjt : j3 = BY.length := by omega
              have e3 : decide ((j3 : Int) < (BY.length : Int)) = false := decide_eq_false (by omega)
              have HYE : Hid (YY = divL G2 BY) := by
                unfold Hid
                rw [HYY.out, hjt]
                unfold divP divL
                rw [List.take_of_length_le (Nat.le_refl _), List.drop_of_length_le (Nat.le_refl _), List.append_nil]
              have HMX : Hid (mixF p q k = (C2, divL G2 CL, divL G2 BY)) := by
                unfold Hid mixF
                rw [HRAW.out, HG2.out]
                show (CC.tdiv G2, divL G2 CL, divL G2 BY) = _
                rw [HC2.out]
              have hLLl : LL.length = 10 := by rw [HLE.out, divP_len, HCLl.out]
              have HDV : Hid (∀ z ∈ CL, G2 ∣ z.natAbs) := by
                have := (rowG_dv (r := (CC, CL, BY))).2.1
                rw [HG2.out] at this
                exact this
              have HTL : Hid (LL.take tN = trimL (divL G2 CL)) := by
                unfold Hid
                rw [HLE.out, divP_front (by rw [HCLl.out]; omega), ← HTN.out, ← HCLl.out]
                exact trim_div HDV.out
              obtain ⟨a9, c9, he9, hs9⟩ := own_rd (own_keep (S' := Fresh W0.heap.size wr) HOL.out (fun _ h => h.elim) fun _ _ _ => rfl) (Nat.le_refl _)
              rw [hLLl] at he9
              injection he9 with ha9 _ hc9
              subst ha9
              subst hc9
              have hs10 := hs9.front tN
              have htl : (LL.take tN).length = tN := by rw [List.length_take]; omega
              have HVT := hid (fun (w' : World) (hb' : Below wr.heap.size wr w') => c_ValidTerm C2 (some ⟨L, 0, none⟩) 10 (LL.take tN) w' (hs10.below (Nat.le_refl _) hb'))
              rw [htl, HTL.out] at HVT
              have hdl : (divL G2 CL).length = 10 := by unfold divL; rw [List.length_map]; exact HCLl.out
              have HFB : Hid (fineB (mixF p q k) = (validTerm (C2, trimL (divL G2 CL)) && allIn YY (-1000000) 1000000)) := by
                unfold Hid
                rw [HMX.out, valid_trim hdl, HYE.out]; rfl
              have hRz : w.heap.size + 2 < W0.heap.size := by have := HS0.out; omega
              have r0 := cell_below HBR3.out hRz HR.out.1
              have r1 := cell_below HBR3.out hRz HR.out.2.1
              have r2 := cell_below HBR3.out hRz HR.out.2.2.1
              have rf : ∀ o, wr.frozen? ⟨w.heap.size + 2, o, none⟩ = false := fun o => frz_below HBR3.out hRz (HR.out.2.2.2 o)
              have rf0 := rf 0
              have rf1 := rf 1
              have rf2 := rf 2
              have HYR := hid (own_rd (own_keep (S' := Fresh W7.heap.size wr) HOY.out (fun _ h => h.elim) fun _ _ _ => rfl) (Nat.le_refl _))
              have hYYl : YY.length = BY.length := by rw [HYE.out]; unfold divL; rw [List.length_map]
              have HAW : Hid (∀ (w' : World), Below wr.heap.size wr w' → Calls Try.prog 49 #[.slice (some ⟨yb, 0, none⟩) BY.length c8, .int .i64 (-1000000), .int .i64 1000000] w' fun e w'' => e = .returned (.bool (allIn YY (-1000000) 1000000)) ∧ w' = w'') := by
                intro w' hb'
                obtain ⟨a6, c6, he6, hs6⟩ := HYR.out
                rw [hYYl] at he6
                injection he6 with ha6 _ hc6
                subst ha6
                subst hc6
                have := c_allWithin (some ⟨yb, 0, none⟩) c8 YY (-1000000) 1000000 w' (hs6.below (Nat.le_refl _) hb')
                rw [hYYl] at this
                exact this
              obtain ⟨V, hV⟩ : ∃ x, validTerm (C2, trimL (divL G2 CL)) = x := ⟨_, rfl⟩
              obtain ⟨A, hA⟩ : ∃ x, allIn YY (-1000000) 1000000 = x := ⟨_, rfl⟩
              rw [hV] at HVT HFB
              rw [hA] at HAW HFB
              have hbt := htbr3
              have hRtb : w.heap.size + 2 ≠ tb := by omega
              have hs11 : SlRd cInt (Fresh W0.heap.size wr) wr (some ⟨L, 0, none⟩) 10 (trimL (divL G2 CL)) := by rw [← HTL.out]; exact hs10
              have htl' : (trimL (divL G2 CL)).length = tN := by rw [← HTL.out]; exact htl
              have hW0w : w.heap.size + 3 ≤ W0.heap.size := Nat.le_of_eq HS0.out.symm
              have HFIN : Hid (∀ (Bv : Bool) (wv : World), Below wr.heap.size wr wv → (V && A) = Bv → ∃ L' x2 c2, Ending.returned (.tuple #[.agg #[.int .i64 C2, .slice (some ⟨L, 0, none⟩) tN 10, .slice (some ⟨yb, 0, none⟩) BY.length c8], .bool Bv]) = .returned (.tuple #[.agg #[.int .i64 (mixF p q k).1, .slice (some ⟨L', 0, none⟩) (trimL (mixF p q k).2.1).length 10, .slice x2 (mixF p q k).2.2.length c2], .bool (fineB (mixF p q k))]) ∧ SlRd cInt (Fresh w.heap.size (((wv.setCell ⟨w.heap.size + 1 + 1, 0, none⟩ (.int .i64 C2)).setCell ⟨w.heap.size + 1 + 1, 1, none⟩ (.slice (some ⟨L, 0, none⟩) tN 10)).setCell ⟨w.heap.size + 1 + 1, 2, none⟩ (.slice (some ⟨yb, 0, none⟩) BY.length c8))) (((wv.setCell ⟨w.heap.size + 1 + 1, 0, none⟩ (.int .i64 C2)).setCell ⟨w.heap.size + 1 + 1, 1, none⟩ (.slice (some ⟨L, 0, none⟩) tN 10)).setCell ⟨w.heap.size + 1 + 1, 2, none⟩ (.slice (some ⟨yb, 0, none⟩) BY.length c8)) (some ⟨L', 0, none⟩) 10 (trimL (mixF p q k).2.1) ∧ SlRd cInt (Fresh w.heap.size (((wv.setCell ⟨w.heap.size + 1 + 1, 0, none⟩ (.int .i64 C2)).setCell ⟨w.heap.size + 1 + 1, 1, none⟩ (.slice (some ⟨L, 0, none⟩) tN 10)).setCell ⟨w.heap.size + 1 + 1, 2, none⟩ (.slice (some ⟨yb, 0, none⟩) BY.length c8))) (((wv.setCell ⟨w.heap.size + 1 + 1, 0, none⟩ (.int .i64 C2)).setCell ⟨w.heap.size + 1 + 1, 1, none⟩ (.slice (some ⟨L, 0, none⟩) tN 10)).setCell ⟨w.heap.size + 1 + 1, 2, none⟩ (.slice (some ⟨yb, 0, none⟩) BY.length c8)) x2 c2 (mixF p q k).2.2 ∧ Below w.heap.size w (((wv.setCell ⟨w.heap.size + 1 + 1, 0, none⟩ (.int .i64 C2)).setCell ⟨w.heap.size + 1 + 1, 1, none⟩ (.slice (some ⟨L, 0, none⟩) tN 10)).setCell ⟨w.heap.size + 1 + 1, 2, none⟩ (.slice (some ⟨yb, 0, none⟩) BY.length c8))) := by
                intro Bv wv hbv hB
                have hblk : ∀ b, W0.heap.size ≤ b → b < wr.heap.size → (((wv.setCell ⟨w.heap.size + 1 + 1, 0, none⟩ (.int .i64 C2)).setCell ⟨w.heap.size + 1 + 1, 1, none⟩ (.slice (some ⟨L, 0, none⟩) tN 10)).setCell ⟨w.heap.size + 1 + 1, 2, none⟩ (.slice (some ⟨yb, 0, none⟩) BY.length c8)).heap[b]? = wr.heap[b]? := fun b h1 h2 => by
                  rw [heap_setCell_ne _ _ _ (show b ≠ w.heap.size + 1 + 1 by omega), heap_setCell_ne _ _ _ (show b ≠ w.heap.size + 1 + 1 by omega), heap_setCell_ne _ _ _ (show b ≠ w.heap.size + 1 + 1 by omega)]
                  exact hbv.block b h2
                obtain ⟨a6, c6, he6, hs6⟩ := HYR.out
                rw [hYYl] at he6
                injection he6 with ha6 _ hc6
                subst ha6
                subst hc6
                refine ⟨L, some ⟨yb, 0, none⟩, c8, ?_, ?_, ?_, ?_⟩
                · rw [HFB.out, hB, HMX.out]
                  simp only
                  rw [htl', ← HYE.out, hYYl]
                · rw [HMX.out]
                  exact hs11.keep fun b hb hl => ⟨⟨Nat.le_trans (by omega) hb.1, hb.2.keep (hblk b hb.1 hl)⟩, hblk b hb.1 hl⟩
                · rw [HMX.out]
                  show SlRd cInt _ _ _ _ (divL G2 BY)
                  rw [← HYE.out]
                  exact hs6.keep fun b hb hl => ⟨⟨Nat.le_trans (by omega) (Nat.le_trans hW07 hb.1), hb.2.keep (hblk b (Nat.le_trans hW07 hb.1) hl)⟩, hblk b (Nat.le_trans hW07 hb.1) hl⟩
                · exact (((bel_next (HB0.out.trans (HBR3.out.mono (by omega))) (by have := HBR3.out.size; omega) hbv).setCell (show w.heap.size ≤ w.heap.size + 1 + 1 by omega) _).setCell (show w.heap.size ≤ w.heap.size + 1 + 1 by omega) _).setCell (show w.heap.size ≤ w.heap.size + 1 + 1 by omega) _
              clear hjt HYY rf hV hA hs9 hs10 hYYl hdl hLLl htl
              go_wp2
              cases V
              · refine wp_region_held_drew (S := fun w' => w'.cell? ⟨tb, 0, none⟩ = some (.int .i64 C2) ∧ w'.cell? ⟨tb, 1, none⟩ = some (.slice (some ⟨L, 0, none⟩) tN 10)) (by kernel_rfl) ⟨m0, m1⟩ (fun hHeld => ?_)
                refine rgH (i := 0) (oi := ?qo1) ?qh1 ?qr1
                case qh1 => (simp only [List.getElem?_toArray, List.getElem?_cons_zero]; rfl)
                (refine ⟨by kernel_rfl, by kernel_rfl, by kernel_rfl, by assumption, ?qv1, fun _ _ _ h => h, Or.inl ⟨by kernel_rfl, ?qy1⟩, ?qn1⟩; case qy1 => (intro w hSw; (try dsimp only at hSw); go_simp; try with_reducible rfl))
                refine rgH (i := 1) (oi := ?qo2) ?qh2 ?qr2
                case qh2 => (simp only [List.getElem?_toArray, List.getElem?_cons_succ, List.getElem?_cons_zero]; rfl)
                (refine ⟨by kernel_rfl, by kernel_rfl, by kernel_rfl, by assumption, ?qv2, fun _ _ _ h => h, Or.inl ⟨by kernel_rfl, ?qy2⟩, ?qn2⟩; case qy2 => (intro w hSw; (try dsimp only at hSw); go_simp; try with_reducible rfl))
                refine rgH (i := 2) (oi := ?qo3) ?qh3 ?qr3
                case qh3 => (simp only [List.getElem?_toArray, List.getElem?_cons_succ, List.getElem?_cons_zero]; rfl)
                (refine ⟨by kernel_rfl, by kernel_rfl, by kernel_rfl, by assumption, ?qv3, fun _ _ _ h => h, Or.inl ⟨by kernel_rfl, ?qy3⟩, ?qn3⟩; case qy3 => (intro w hSw; (try dsimp only at hSw); go_simp; try with_reducible rfl))
                refine rgH (i := 3) (oi := ?qo4) ?qh4 ?qr4
                case qh4 => (simp only [List.getElem?_toArray, List.getElem?_cons_succ, List.getElem?_cons_zero]; rfl)
                (refine ⟨by kernel_rfl, by kernel_rfl, by kernel_rfl, by assumption, ?qv4, fun _ _ _ h => h, Or.inl ⟨by kernel_rfl, ?qy4⟩, ?qn4⟩; case qy4 => (intro w hSw; (try dsimp only at hSw); go_simp; try with_reducible rfl))
                (try simp only [Act.put, List.setIfInBounds_toArray, List.set_cons_zero, List.set_cons_succ])
                refine wpAnyH_ready (rs := [4]) (by kernel_rfl) (by simp) ?_
                refine rgHcall (i := 4) (o := ?qo5) ?qh5 ?qk5
                case qh5 => (simp only [List.getElem?_toArray, List.getElem?_cons_succ, List.getElem?_cons_zero]; rfl)
                intro K hK
                go_simp
                (go_at_call 36; refine (HVT.out _ (below_drewN _ _ 1)).mono ?_; rintro e wv ⟨rfl, hbv⟩; have HBV : Hid (Below wr.heap.size wr wv) := (below_drewN _ wr 1).trans hbv; have kk1 := And.intro (cell_below HBV.out hbt m0) (cell_below HBV.out hbt m1); have rr0 := cell_below HBV.out (Nat.lt_of_lt_of_le hRz HBR3.out.size) r0; have rr1 := cell_below HBV.out (Nat.lt_of_lt_of_le hRz HBR3.out.size) r1; have rr2 := cell_below HBV.out (Nat.lt_of_lt_of_le hRz HBR3.out.size) r2; have rrf0 := frz_below HBV.out (Nat.lt_of_lt_of_le hRz HBR3.out.size) rf0; have rrf1 := frz_below HBV.out (Nat.lt_of_lt_of_le hRz HBR3.out.size) rf1; have rrf2 := frz_below HBV.out (Nat.lt_of_lt_of_le hRz HBR3.out.size) rf2; clear hbv)
                refine hK.out _ _ kk1 (fun hHeld => ?_)
                clear hK K
                refine rgH (i := 5) (oi := ?qo6) ?qh6 ?qr6
                case qh6 => (simp only [List.getElem?_toArray, List.getElem?_cons_succ, List.getElem?_cons_zero]; rfl)
                (refine ⟨by kernel_rfl, by kernel_rfl, by kernel_rfl, by assumption, ?qv6, fun _ _ _ h => h, Or.inl ⟨by kernel_rfl, ?qy6⟩, ?qn6⟩; case qy6 => (intro w hSw; (try dsimp only at hSw); go_simp; try with_reducible rfl))
                (try simp only [Act.put, List.setIfInBounds_toArray, List.set_cons_zero, List.set_cons_succ])
                refine rgH (i := 6) (oi := ?qo7) ?qh7 ?qr7
                case qh7 => (simp only [List.getElem?_toArray, List.getElem?_cons_succ, List.getElem?_cons_zero]; rfl)
                (refine ⟨by kernel_rfl, by kernel_rfl, by kernel_rfl, by assumption, undef, fun _ _ _ h => h, Or.inr ⟨by kernel_rfl, rfl⟩, ?qm7⟩)
                refine rgH (i := 7) (oi := ?qo8) ?qh8 ?qr8
                case qh8 => (simp only [List.getElem?_toArray, List.getElem?_cons_succ, List.getElem?_cons_zero]; rfl)
                (refine ⟨by kernel_rfl, by kernel_rfl, by kernel_rfl, by assumption, undef, fun _ _ _ h => h, Or.inr ⟨by kernel_rfl, rfl⟩, ?qm8⟩)
                (try simp only [Act.put, List.setIfInBounds_toArray, List.set_cons_zero, List.set_cons_succ])
                refine rgH (i := 8) (oi := ?qo9) ?qh9 ?qr9
                case qh9 => (simp only [List.getElem?_toArray, List.getElem?_cons_succ, List.getElem?_cons_zero]; rfl)
                (refine ⟨by kernel_rfl, by kernel_rfl, by kernel_rfl, by assumption, ?qv9, fun _ _ _ h => h, Or.inl ⟨by kernel_rfl, ?qy9⟩, ?qn9⟩; case qy9 => (intro w hSw; (try dsimp only at hSw); go_simp; try with_reducible rfl))
                (try simp only [Act.put, List.setIfInBounds_toArray, List.set_cons_zero, List.set_cons_succ])
                refine wpAnyH_ready (rs := [9]) (by kernel_rfl) (by simp) ?_
                refine rgHcall (i := 9) (o := ?qo10) ?qh10 ?qk10
                case qh10 => (simp only [List.getElem?_toArray, List.getElem?_cons_succ, List.getElem?_cons_zero]; rfl)
                intro K hK
                go_simp
                skip
                refine hK.out _ _ ⟨cell_set_ne (by simp; omega) (cell_set_ne (by simp; omega) (cell_set_ne (by simp; omega) kk1.1)), cell_set_ne (by simp; omega) (cell_set_ne (by simp; omega) (cell_set_ne (by simp; omega) kk1.2))⟩ (fun hHeld => ?_)
                clear hK K
                refine rgH (i := 10) (oi := ?qo11) ?qh11 ?qr11
                case qh11 => (simp only [List.getElem?_toArray, List.getElem?_cons_succ, List.getElem?_cons_zero]; rfl)
                (refine ⟨by kernel_rfl, by kernel_rfl, by kernel_rfl, by assumption, ?qv11, fun _ _ _ h => h, Or.inl ⟨by kernel_rfl, ?qy11⟩, ?qn11⟩; case qy11 => (intro w hSw; (try dsimp only at hSw); go_simp; try with_reducible rfl))
                (try simp only [Act.put, List.setIfInBounds_toArray, List.set_cons_zero, List.set_cons_succ])
                refine wpAnyH_done (by kernel_rfl) ?_ _
                go_wp2
                have k0 : (((wv.setCell ⟨w.heap.size + 1 + 1, 0, none⟩ (.int .i64 C2)).setCell ⟨w.heap.size + 1 + 1, 1, none⟩ (.slice (some ⟨L, 0, none⟩) tN 10)).setCell ⟨w.heap.size + 1 + 1, 2, none⟩ (.slice (some ⟨yb, 0, none⟩) BY.length c8)).cell? ⟨w.heap.size + 1 + 1, 0, none⟩ = some (.int .i64 C2) := (World.cell?_setCell_other _ _ _ _ (by simp)).trans ((World.cell?_setCell_other _ _ _ _ (by simp)).trans (World.cell?_setCell_same _ _ _ rr0))
                have k1 : (((wv.setCell ⟨w.heap.size + 1 + 1, 0, none⟩ (.int .i64 C2)).setCell ⟨w.heap.size + 1 + 1, 1, none⟩ (.slice (some ⟨L, 0, none⟩) tN 10)).setCell ⟨w.heap.size + 1 + 1, 2, none⟩ (.slice (some ⟨yb, 0, none⟩) BY.length c8)).cell? ⟨w.heap.size + 1 + 1, 1, none⟩ = some (.slice (some ⟨L, 0, none⟩) tN 10) := (World.cell?_setCell_other _ _ _ _ (by simp)).trans (World.cell?_setCell_same _ _ _ ((World.cell?_setCell_other _ _ _ _ (by simp)).trans rr1))
                have k2 : (((wv.setCell ⟨w.heap.size + 1 + 1, 0, none⟩ (.int .i64 C2)).setCell ⟨w.heap.size + 1 + 1, 1, none⟩ (.slice (some ⟨L, 0, none⟩) tN 10)).setCell ⟨w.heap.size + 1 + 1, 2, none⟩ (.slice (some ⟨yb, 0, none⟩) BY.length c8)).cell? ⟨w.heap.size + 1 + 1, 2, none⟩ = some (.slice (some ⟨yb, 0, none⟩) BY.length c8) := World.cell?_setCell_same _ _ _ ((World.cell?_setCell_other _ _ _ _ (by simp)).trans ((World.cell?_setCell_other _ _ _ _ (by simp)).trans rr2))
                refine bodyPost_ret (v := .tuple #[.agg #[.int .i64 C2, .slice (some ⟨L, 0, none⟩) tN 10, .slice (some ⟨yb, 0, none⟩) BY.length c8], .bool false]) (by simp [results, Try.results43, go_sem, k0, k1, k2]) rfl ?_
                exact HFIN.out _ _ HBV.out rfl
              · go_region_held3 (fun w' => w'.cell? ⟨tb, 0, none⟩ = some (.int .i64 C2) ∧ w'.cell? ⟨tb, 1, none⟩ = some (.slice (some ⟨L, 0, none⟩) tN 10)) (first | exact ⟨m0, m1⟩ | exact kk1 | exact ⟨cell_set_ne (by simp; omega) (cell_set_ne (by simp; omega) (cell_set_ne (by simp; omega) kk1.1)), cell_set_ne (by simp; omega) (cell_set_ne (by simp; omega) (cell_set_ne (by simp; omega) kk1.2))⟩) (first | (go_at_call 36; refine (HVT.out _ (below_drewN _ _ 1)).mono ?_; rintro e wv ⟨rfl, hbv⟩; have HBV : Hid (Below wr.heap.size wr wv) := (below_drewN _ wr 1).trans hbv; have kk1 := And.intro (cell_below HBV.out hbt m0) (cell_below HBV.out hbt m1); have rr0 := cell_below HBV.out (Nat.lt_of_lt_of_le hRz HBR3.out.size) r0; have rr1 := cell_below HBV.out (Nat.lt_of_lt_of_le hRz HBR3.out.size) r1; have rr2 := cell_below HBV.out (Nat.lt_of_lt_of_le hRz HBR3.out.size) r2; have rrf0 := frz_below HBV.out (Nat.lt_of_lt_of_le hRz HBR3.out.size) rf0; have rrf1 := frz_below HBV.out (Nat.lt_of_lt_of_le hRz HBR3.out.size) rf1; have rrf2 := frz_below HBV.out (Nat.lt_of_lt_of_le hRz HBR3.out.size) rf2; clear hbv) | (go_at_call 49; refine (HAW.out _ HBV.out).mono ?_; rintro e wv2 ⟨rfl, rfl⟩))
                go_wp2
                have k0 : (((wv.setCell ⟨w.heap.size + 1 + 1, 0, none⟩ (.int .i64 C2)).setCell ⟨w.heap.size + 1 + 1, 1, none⟩ (.slice (some ⟨L, 0, none⟩) tN 10)).setCell ⟨w.heap.size + 1 + 1, 2, none⟩ (.slice (some ⟨yb, 0, none⟩) BY.length c8)).cell? ⟨w.heap.size + 1 + 1, 0, none⟩ = some (.int .i64 C2) := (World.cell?_setCell_other _ _ _ _ (by simp)).trans ((World.cell?_setCell_other _ _ _ _ (by simp)).trans (World.cell?_setCell_same _ _ _ rr0))
                have k1 : (((wv.setCell ⟨w.heap.size + 1 + 1, 0, none⟩ (.int .i64 C2)).setCell ⟨w.heap.size + 1 + 1, 1, none⟩ (.slice (some ⟨L, 0, none⟩) tN 10)).setCell ⟨w.heap.size + 1 + 1, 2, none⟩ (.slice (some ⟨yb, 0, none⟩) BY.length c8)).cell? ⟨w.heap.size + 1 + 1, 1, none⟩ = some (.slice (some ⟨L, 0, none⟩) tN 10) := (World.cell?_setCell_other _ _ _ _ (by simp)).trans (World.cell?_setCell_same _ _ _ ((World.cell?_setCell_other _ _ _ _ (by simp)).trans rr1))
                have k2 : (((wv.setCell ⟨w.heap.size + 1 + 1, 0, none⟩ (.int .i64 C2)).setCell ⟨w.heap.size + 1 + 1, 1, none⟩ (.slice (some ⟨L, 0, none⟩) tN 10)).setCell ⟨w.heap.size + 1 + 1, 2, none⟩ (.slice (some ⟨yb, 0, none⟩) BY.length c8)).cell? ⟨w.heap.size + 1 + 1, 2, none⟩ = some (.slice (some ⟨yb, 0, none⟩) BY.length c8) := World.cell?_setCell_same _ _ _ ((World.cell?_setCell_other _ _ _ _ (by simp)).trans ((World.cell?_setCell_other _ _ _ _ (by simp)).trans rr2))
                refine bodyPost_ret (v := .tuple #[.agg #[.int .i64 C2, .slice (some ⟨L, 0, none⟩) tN 10, .slice (some ⟨yb, 0, none⟩) BY.length c8], .bool A]) (by simp [results, Try.results43, go_sem, k0, k1, k2]) rfl ?_
                exact HFIN.out _ _ HBV.out rfl
end Go.Proofs.Ytkckhnpdodbffaa
