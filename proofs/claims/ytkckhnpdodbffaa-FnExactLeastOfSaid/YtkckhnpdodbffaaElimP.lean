/- Elimination of symbols from facts. No program in sight. -/
import Derived.Test.YtkckhnpdodbffaaL02
import Derived.Test.YtkckhnpdodbffaaL01d
namespace Go.Proofs.Ytkckhnpdodbffaa
open Go.RowKit

/-- A row: a number, the coefficients of all ten symbols, the multipliers. -/
abbrev Row := Int × List Int × List Int
def sm (n : Int) : Prop := -1000000 ≤ n ∧ n ≤ 1000000
def cfR (r : Row) (k : Nat) : Int := r.2.1.getD k 0
def comb (n m : Int) (xs ys : List Int) : List Int := List.zipWith (fun x y => n * x + m * y) xs ys
def gcd2 (a b : Int) : Nat := Nat.gcd a.natAbs b.natAbs
def mixM (p q : Row) (k : Nat) : Int := (cfR p k).tdiv (gcd2 (cfR p k) (-cfR q k))
def mixN (p q : Row) (k : Nat) : Int := (-cfR q k).tdiv (gcd2 (cfR p k) (-cfR q k))
def rawMix (p q : Row) (k : Nat) : Row := (mixN p q k * p.1 + mixM p q k * q.1, comb (mixN p q k) (mixM p q k) p.2.1 q.2.1, comb (mixN p q k) (mixM p q k) p.2.2 q.2.2)
def rowG (r : Row) : Nat := gcdL ((r.1 :: r.2.1) ++ r.2.2)
def divL (g : Int) (zs : List Int) : List Int := zs.map fun z => z.tdiv g
def divRow (g : Int) (r : Row) : Row := (r.1.tdiv g, divL g r.2.1, divL g r.2.2)
def mixF (p q : Row) (k : Nat) : Row := divRow (rowG (rawMix p q k)) (rawMix p q k)
def fineB (r : Row) : Bool := (inB r.1 (-1000000) 1000000 && allIn r.2.1 (-1000000) 1000000) && allIn r.2.2 (-1000000) 1000000
def pairB (p q : Row) (k : Nat) : Bool := decide (0 < cfR p k) && decide (cfR q k < 0)
def goQ (k : Nat) (p : Row) : List Row → List Row → Option (List Row)
  | [], out => some out
  | q :: qs, out => if pairB p q k then (if fineB (mixF p q k) && decide (out.length ≠ 60) then goQ k p qs (out ++ [mixF p q k]) else none) else goQ k p qs out
def goP (k : Nat) (rows : List Row) : List Row → List Row → Option (List Row)
  | [], out => some out
  | p :: ps, out => (goQ k p rows out).bind (goP k rows ps)
def zeroRs (k : Nat) (rows : List Row) : List Row := rows.filter fun r => cfR r k == 0
def stageF (k : Nat) (rows : List Row) : Option (List Row) := goP k rows rows (zeroRs k rows)
def stagesF : List Nat → List Row → Option (List Row)
  | [], rows => some rows
  | k :: ks, rows => (stageF k rows).bind (stagesF ks)
def padL (zs : List Int) : List Int := (List.range 10).map fun k => zs.getD k 0
def unitL (n i : Nat) : List Int := (List.replicate n 0).set i 1
def row0 (n : Nat) (ti : Term × Nat) : Row := (ti.1.1, padL ti.1.2, unitL n ti.2)
def rows0 (ts : List Term) : List Row := ts.zipIdx.map (row0 ts.length)
/-- What holds of every row of n facts. -/
structure RowOk (n : Nat) (r : Row) : Prop where
  c : sm r.1
  len : r.2.1.length = 10
  ls : ∀ z ∈ r.2.1, sm z
  tlen : r.2.2.length = n
  ts : ∀ z ∈ r.2.2, 0 ≤ z ∧ z ≤ 1000000
  pos : ∃ z ∈ r.2.2, 0 < z

theorem gcdL_dv {zs : List Int} {z : Int} (h : z ∈ zs) : gcdL zs ∣ z.natAbs := by
  have key : ∀ (zs : List Int) (g : Nat), zs.foldl (fun g z => Nat.gcd g z.natAbs) g ∣ g ∧ ∀ z ∈ zs, zs.foldl (fun g z => Nat.gcd g z.natAbs) g ∣ z.natAbs := by
    intro zs
    induction zs with
    | nil => intro g; exact ⟨Nat.dvd_refl _, by simp⟩
    | cons x xs ih =>
      intro g
      obtain ⟨h1, h2⟩ := ih (Nat.gcd g x.natAbs)
      refine ⟨Nat.dvd_trans h1 (Nat.gcd_dvd_left _ _), fun z hz => ?_⟩
      rcases List.mem_cons.1 hz with rfl | hz
      · exact Nat.dvd_trans h1 (Nat.gcd_dvd_right _ _)
      · exact h2 z hz
  exact (key zs 0).2 z h
theorem gcdL_pos {zs : List Int} {z : Int} (h : z ∈ zs) (hz : z ≠ 0) : 0 < gcdL zs := by
  have := gcdL_dv h
  rcases Nat.eq_zero_or_pos (gcdL zs) with h0 | h0
  · rw [h0] at this; have := Nat.eq_zero_of_zero_dvd this; omega
  · exact h0
theorem sm_abs {z : Int} : sm z ↔ z.natAbs ≤ 1000000 := by unfold sm; omega
/-- A product of two numbers of bounded size. -/
theorem mul_abs {x y : Int} {a b : Nat} (hx : x.natAbs ≤ a) (hy : y.natAbs ≤ b) : (x * y).natAbs ≤ a * b := by
  rw [Int.natAbs_mul]; exact Nat.mul_le_mul hx hy
theorem comb_abs {n m x y : Int} (hn : sm n) (hm : sm m) (hx : sm x) (hy : sm y) : -2000000000000 ≤ n * x + m * y ∧ n * x + m * y ≤ 2000000000000 := by
  have h1 := mul_abs (sm_abs.1 hn) (sm_abs.1 hx)
  have h2 := mul_abs (sm_abs.1 hm) (sm_abs.1 hy)
  omega
theorem prod_abs {n x : Int} (hn : sm n) (hx : sm x) : -1000000000000 ≤ n * x ∧ n * x ≤ 1000000000000 := by
  have h1 := mul_abs (sm_abs.1 hn) (sm_abs.1 hx)
  omega
theorem cfR_sm {n : Nat} {r : Row} (h : RowOk n r) (k : Nat) : sm (cfR r k) := by
  unfold cfR
  rw [List.getD_eq_getElem?_getD]
  cases hz : r.2.1[k]? with
  | none => exact ⟨by decide, by decide⟩
  | some z => exact h.ls z (List.mem_of_getElem? hz)
theorem tdiv_sm {z : Int} {g : Nat} (hz : sm z) (hg : 0 < g) : sm (z.tdiv g) := by
  rw [sm_abs] at hz ⊢
  rw [Int.natAbs_tdiv]
  exact Nat.le_trans (Nat.div_le_self _ _) hz
theorem tdiv_pos {z : Int} {g : Nat} (hz : 0 < z) (hd : g ∣ z.natAbs) : 0 < z.tdiv g := by
  obtain ⟨c, hc⟩ := hd
  have h0 : 0 < g := by rcases Nat.eq_zero_or_pos g with h | h; (subst h; omega); exact h
  have hzz : z = (g : Int) * c := by have : (z.natAbs : Int) = z := by omega
                                     rw [← this, hc]; simp
  rw [hzz, Int.mul_tdiv_cancel_left _ (by omega)]
  rcases Nat.eq_zero_or_pos c with h | h
  · subst h; omega
  · omega
theorem mixMN {n : Nat} {p q : Row} {k : Nat} (hp : RowOk n p) (hq : RowOk n q) (h : pairB p q k = true) :
    0 < gcd2 (cfR p k) (-cfR q k) ∧ sm (mixM p q k) ∧ sm (mixN p q k) ∧ 0 < mixM p q k ∧ 0 < mixN p q k := by
  simp only [pairB, Bool.and_eq_true, decide_eq_true_eq] at h
  have h1 := cfR_sm hp k
  have h2 := cfR_sm hq k
  have hg : 0 < gcd2 (cfR p k) (-cfR q k) := Nat.gcd_pos_of_pos_left _ (by omega)
  refine ⟨hg, tdiv_sm h1 hg, tdiv_sm (by unfold sm at h2 ⊢; omega) hg, tdiv_pos h.1 (Nat.gcd_dvd_left _ _), tdiv_pos (by omega) (Nat.gcd_dvd_right _ _)⟩
theorem comb_len {n m : Int} {xs ys : List Int} (h : xs.length = ys.length) : (comb n m xs ys).length = xs.length := by simp [comb, h]
theorem comb_at {n m x y : Int} {xs ys : List Int} {k : Nat} (hx : xs[k]? = some x) (hy : ys[k]? = some y) : (comb n m xs ys)[k]? = some (n * x + m * y) := by
  unfold comb; rw [List.getElem?_zipWith, hx, hy]
theorem comb_mem {n m : Int} {xs ys : List Int} {z : Int} (h : z ∈ comb n m xs ys) : ∃ x y, x ∈ xs ∧ y ∈ ys ∧ z = n * x + m * y := by
  obtain ⟨k, hk⟩ := List.mem_iff_getElem?.1 h
  unfold comb at hk
  rw [List.getElem?_zipWith] at hk
  cases hx : xs[k]? with
  | none => rw [hx] at hk; simp at hk
  | some x =>
    cases hy : ys[k]? with
    | none => rw [hx, hy] at hk; simp at hk
    | some y =>
      rw [hx, hy] at hk
      simp at hk
      exact ⟨x, y, List.mem_of_getElem? hx, List.mem_of_getElem? hy, hk.symm⟩
/-- What holds of the sum before it is divided. -/
structure RawOk (n : Nat) (r : Row) : Prop where
  c : -2000000000000 ≤ r.1 ∧ r.1 ≤ 2000000000000
  len : r.2.1.length = 10
  ls : ∀ z ∈ r.2.1, -2000000000000 ≤ z ∧ z ≤ 2000000000000
  tlen : r.2.2.length = n
  ts : ∀ z ∈ r.2.2, 0 ≤ z ∧ z ≤ 2000000000000
  pos : ∃ z ∈ r.2.2, 0 < z
theorem times_sm {n : Nat} {r : Row} (h : RowOk n r) : ∀ z ∈ r.2.2, sm z := fun z hz => by have := h.ts z hz; unfold sm; omega
theorem raw_ok {n : Nat} {p q : Row} {k : Nat} (hp : RowOk n p) (hq : RowOk n q) (h : pairB p q k = true) : RawOk n (rawMix p q k) := by
  obtain ⟨_, hm, hn, hm0, hn0⟩ := mixMN hp hq h
  refine ⟨comb_abs hn hm hp.c hq.c, (comb_len (by rw [hp.len, hq.len])).trans hp.len, fun z hz => ?_, (comb_len (by rw [hp.tlen, hq.tlen])).trans hp.tlen, fun z hz => ?_, ?_⟩
  · obtain ⟨x, y, hx, hy, rfl⟩ := comb_mem hz
    exact comb_abs hn hm (hp.ls x hx) (hq.ls y hy)
  · obtain ⟨x, y, hx, hy, rfl⟩ := comb_mem hz
    have h1 := comb_abs hn hm (times_sm hp x hx) (times_sm hq y hy)
    have h2 := Int.mul_nonneg (Int.le_of_lt hn0) (hp.ts x hx).1
    have h3 := Int.mul_nonneg (Int.le_of_lt hm0) (hq.ts y hy).1
    omega
  · obtain ⟨x, hx, hx0⟩ := hp.pos
    obtain ⟨i, hi⟩ := List.mem_iff_getElem?.1 hx
    have hil := (List.getElem?_eq_some_iff.1 hi).1
    have hiq : i < q.2.2.length := by rw [hq.tlen, ← hp.tlen]; exact hil
    refine ⟨_, List.mem_of_getElem? (comb_at hi (List.getElem?_eq_getElem hiq)), ?_⟩
    have h2 := Int.mul_pos hn0 hx0
    have h3 := Int.mul_nonneg (Int.le_of_lt hm0) (hq.ts _ (List.getElem_mem hiq)).1
    show 0 < mixN p q k * x + mixM p q k * q.2.2[i]
    omega
theorem rowG_pos {n : Nat} {r : Row} (h : RawOk n r) : 0 < rowG r := by
  obtain ⟨z, hz, hz0⟩ := h.pos
  exact gcdL_pos (List.mem_append_right _ hz) (by omega)
theorem rowG_dv {r : Row} : rowG r ∣ r.1.natAbs ∧ (∀ z ∈ r.2.1, rowG r ∣ z.natAbs) ∧ ∀ z ∈ r.2.2, rowG r ∣ z.natAbs :=
  ⟨gcdL_dv (by simp), fun z hz => gcdL_dv (by simp [hz]), fun z hz => gcdL_dv (by simp [hz])⟩
theorem mix_ok {n : Nat} {p q : Row} {k : Nat} (hp : RowOk n p) (hq : RowOk n q) (h : pairB p q k = true) (hf : fineB (mixF p q k) = true) : RowOk n (mixF p q k) := by
  have hr := raw_ok hp hq h
  have hg := rowG_pos hr
  obtain ⟨d0, d1, d2⟩ := rowG_dv (r := rawMix p q k)
  simp only [fineB, Bool.and_eq_true, allIn, List.all_eq_true, inB_iff] at hf
  obtain ⟨⟨h1, h2⟩, h3⟩ := hf
  refine ⟨h1, by simp [mixF, divRow, divL, hr.len], h2, by simp [mixF, divRow, divL, hr.tlen], fun z hz => ?_, ?_⟩
  · refine ⟨?_, (h3 z hz).2⟩
    obtain ⟨y, hy, rfl⟩ := List.mem_map.1 hz
    have := (hr.ts y hy).1
    exact Int.tdiv_nonneg this (by omega)
  · obtain ⟨y, hy, hy0⟩ := hr.pos
    exact ⟨_, List.mem_map.2 ⟨y, hy, rfl⟩, tdiv_pos hy0 (d2 y hy)⟩
def RowsOk (n : Nat) (rows : List Row) : Prop := ∀ r ∈ rows, RowOk n r
theorem goQ_ok {n k : Nat} {p : Row} (hp : RowOk n p) : ∀ (qs out res : List Row), RowsOk n qs → RowsOk n out → goQ k p qs out = some res → RowsOk n res ∧ out.length ≤ res.length ∧ (out.length ≤ 60 → res.length ≤ 60)
  | [], out, res, hq, ho, h => by simp [goQ] at h; subst h; exact ⟨ho, Nat.le_refl _, id⟩
  | q :: qs, out, res, hq, ho, h => by
    unfold goQ at h
    split at h
    · rename_i hpair
      split at h
      · rename_i hfine
        simp only [Bool.and_eq_true, decide_eq_true_eq] at hfine
        obtain ⟨h1, h2, h3⟩ := goQ_ok hp qs _ res (fun r hr => hq r (by simp [hr])) (fun r hr => by
          rcases List.mem_append.1 hr with hr | hr
          · exact ho r hr
          · simp at hr; subst hr; exact mix_ok hp (hq q (by simp)) hpair hfine.1) h
        simp only [List.length_append, List.length_cons, List.length_nil] at h2 h3
        exact ⟨h1, by omega, fun h => h3 (by omega)⟩
      · cases h
    · exact goQ_ok hp qs out res (fun r hr => hq r (by simp [hr])) ho h
theorem goP_ok {n k : Nat} {rows : List Row} (hr : RowsOk n rows) : ∀ (ps out res : List Row), RowsOk n ps → RowsOk n out → goP k rows ps out = some res → RowsOk n res ∧ out.length ≤ res.length ∧ (out.length ≤ 60 → res.length ≤ 60)
  | [], out, res, hp, ho, h => by simp [goP] at h; subst h; exact ⟨ho, Nat.le_refl _, id⟩
  | p :: ps, out, res, hp, ho, h => by
    unfold goP at h
    cases h1 : goQ k p rows out with
    | none => rw [h1] at h; cases h
    | some o1 =>
      rw [h1] at h
      obtain ⟨g1, g2, g3⟩ := goQ_ok (hp p (by simp)) rows out o1 hr ho h1
      obtain ⟨g4, g5, g6⟩ := goP_ok hr ps o1 res (fun r hr => hp r (by simp [hr])) g1 h
      exact ⟨g4, by omega, fun h => g6 (g3 h)⟩
theorem zero_ok {n k : Nat} {rows : List Row} (h : RowsOk n rows) : RowsOk n (zeroRs k rows) := fun r hr => h r (List.mem_filter.1 hr).1
theorem stage_ok {n k : Nat} {rows res : List Row} (h : RowsOk n rows) (hl : rows.length ≤ 60) (hs : stageF k rows = some res) : RowsOk n res ∧ res.length ≤ 60 := by
  obtain ⟨h1, _, h3⟩ := goP_ok h rows _ res h (zero_ok h) hs
  exact ⟨h1, h3 (Nat.le_trans (List.length_filter_le _ _) hl)⟩
/-! ### Numbers without zeros at their end -/
def trimN (zs : List Int) : Nat → Nat
  | 0 => 0
  | n + 1 => if zs.getD n 0 = 0 then trimN zs n else n + 1
def trimL (zs : List Int) : List Int := zs.take (trimN zs zs.length)
theorem trimN_le (zs : List Int) : ∀ n, trimN zs n ≤ n
  | 0 => Nat.le_refl _
  | n + 1 => by unfold trimN; split; (have := trimN_le zs n; omega); exact Nat.le_refl _
theorem trimN_zero (zs : List Int) : ∀ n k, trimN zs n ≤ k → k < n → zs.getD k 0 = 0
  | 0, k, _, h => by omega
  | n + 1, k, h1, h2 => by
    unfold trimN at h1
    split at h1
    · rename_i h0
      by_cases hk : k = n
      · subst hk; exact h0
      · exact trimN_zero zs n k h1 (by omega)
    · omega
theorem trimN_last (zs : List Int) : ∀ n, trimN zs n ≠ 0 → zs.getD (trimN zs n - 1) 0 ≠ 0
  | 0, h => absurd rfl h
  | n + 1, h => by
    unfold trimN at h ⊢
    split
    · rename_i h0; rw [if_pos h0] at h; exact trimN_last zs n h
    · rename_i h0; exact h0
theorem trimN_uniq {zs : List Int} {n t : Nat} (ht : t ≤ n) (h1 : ∀ k, t ≤ k → k < n → zs.getD k 0 = 0) (h2 : t ≠ 0 → zs.getD (t - 1) 0 ≠ 0) : trimN zs n = t := by
  have a1 := trimN_le zs n
  rcases Nat.lt_trichotomy (trimN zs n) t with h | h | h
  · exact absurd (trimN_zero zs n (t - 1) (by omega) (by omega)) (h2 (by omega))
  · exact h
  · exact absurd (h1 (trimN zs n - 1) (by omega) (by omega)) (trimN_last zs n (by omega))
theorem trimL_len (zs : List Int) : (trimL zs).length = trimN zs zs.length := by
  unfold trimL; rw [List.length_take]; exact Nat.min_eq_left (trimN_le _ _)
theorem trimL_getD (zs : List Int) (k : Nat) : (trimL zs).getD k 0 = zs.getD k 0 := by
  by_cases hk : k < trimN zs zs.length
  · unfold trimL
    rw [List.getD_eq_getElem?_getD, List.getElem?_take, if_pos hk, ← List.getD_eq_getElem?_getD]
  · rw [List.getD_eq_getElem?_getD, List.getElem?_eq_none (by rw [trimL_len]; omega)]
    by_cases hl : k < zs.length
    · exact (trimN_zero zs zs.length k (by omega) hl).symm
    · rw [List.getD_eq_getElem?_getD, List.getElem?_eq_none (by omega)]
theorem padL_len (zs : List Int) : (padL zs).length = 10 := by simp [padL]
theorem padL_getD (zs : List Int) (k : Nat) (hk : k < 10) : (padL zs).getD k 0 = zs.getD k 0 := by
  unfold padL
  rw [List.getD_eq_getElem?_getD, List.getElem?_map, List.getElem?_range hk]; rfl
theorem list_getD_ext {xs ys : List Int} (hl : xs.length = ys.length) (h : ∀ k, k < xs.length → xs.getD k 0 = ys.getD k 0) : xs = ys := by
  apply List.ext_getElem hl
  intro i h1 h2
  have := h i h1
  simpa [List.getD_eq_getElem?_getD, h1, h2] using this
theorem lastOk_getD {zs : List Int} (h : lastOk zs = true) (hn : zs.length ≠ 0) : zs.getD (zs.length - 1) 0 ≠ 0 := by
  unfold lastOk at h
  rw [List.getLast?_eq_getElem?] at h
  have hlt : zs.length - 1 < zs.length := by omega
  rw [List.getElem?_eq_getElem hlt] at h
  simp only [bne_iff_ne, ne_eq] at h
  rw [List.getD_eq_getElem?_getD, List.getElem?_eq_getElem hlt]
  exact h
theorem getD_out {zs : List Int} {k : Nat} (h : zs.length ≤ k) : zs.getD k 0 = 0 := by
  rw [List.getD_eq_getElem?_getD, List.getElem?_eq_none h]; rfl
theorem trim_pad {zs : List Int} (hl : zs.length ≤ 10) (h : lastOk zs = true) : trimL (padL zs) = zs := by
  have ht : trimN (padL zs) (padL zs).length = zs.length := trimN_uniq (by rw [padL_len]; exact hl) (fun k h1 h2 => by
      rw [padL_len] at h2
      rw [padL_getD _ _ h2]; exact getD_out h1) (fun hn => by rw [padL_getD _ _ (by omega)]; exact lastOk_getD h hn)
  apply list_getD_ext
  · rw [trimL_len, ht]
  · intro k hk
    rw [trimL_len, ht] at hk
    rw [trimL_getD, padL_getD _ _ (by omega)]
theorem trim_div {zs : List Int} {g : Nat} (hd : ∀ z ∈ zs, g ∣ z.natAbs) : divL g (trimL zs) = trimL (divL g zs) := by
  have hz0 : ∀ k, (divL g zs).getD k 0 = 0 ↔ zs.getD k 0 = 0 := by
    intro k
    unfold divL
    rw [List.getD_eq_getElem?_getD, List.getD_eq_getElem?_getD, List.getElem?_map]
    cases hz : zs[k]? with
    | none => simp
    | some z =>
      simp only [Option.map_some, Option.getD_some]
      constructor
      · intro h
        have hdv : (g : Int) ∣ z := Int.ofNat_dvd_left.2 (hd z (List.mem_of_getElem? hz))
        have := Int.mul_tdiv_cancel' hdv
        rw [h] at this; omega
      · rintro rfl; simp
  have ht : trimN (divL g zs) (divL g zs).length = trimN zs zs.length := by
    have hl : (divL g zs).length = zs.length := List.length_map _
    rw [hl]
    exact trimN_uniq (trimN_le _ _) (fun k h1 h2 => (hz0 k).2 (trimN_zero zs _ k h1 h2)) (fun hn h => trimN_last zs _ hn ((hz0 _).1 h))
  unfold trimL
  rw [ht]
  unfold divL
  rw [List.map_take]
theorem foldl_zeros : ∀ (zs : List Int) (g : Nat), (∀ z ∈ zs, z = 0) → zs.foldl (fun g z => Nat.gcd g z.natAbs) g = g
  | [], g, _ => rfl
  | z :: zs, g, h => by
    have : z = 0 := h z (by simp)
    subst this
    simp only [List.foldl_cons, Int.natAbs_zero, Nat.gcd_zero_right]
    exact foldl_zeros zs g fun y hy => h y (by simp [hy])
theorem foldl_trim (zs : List Int) (g : Nat) : zs.foldl (fun g z => Nat.gcd g z.natAbs) g = (trimL zs).foldl (fun g z => Nat.gcd g z.natAbs) g := by
  have e : zs.foldl (fun g z => Nat.gcd g z.natAbs) g = (zs.take (trimN zs zs.length) ++ zs.drop (trimN zs zs.length)).foldl (fun g z => Nat.gcd g z.natAbs) g := by rw [List.take_append_drop]
  rw [e, List.foldl_append, foldl_zeros]
  · rfl
  intro z hz
  obtain ⟨k, hk⟩ := List.mem_iff_getElem?.1 hz
  rw [List.getElem?_drop] at hk
  have hl := (List.getElem?_eq_some_iff.1 hk).1
  have := trimN_zero zs zs.length _ (Nat.le_add_right _ k) hl
  rw [List.getD_eq_getElem?_getD, hk] at this
  exact this
theorem gcdL_trim (c : Int) (zs ts : List Int) : gcdL ((c :: trimL zs) ++ ts) = gcdL ((c :: zs) ++ ts) := by
  unfold gcdL
  simp only [List.cons_append, List.foldl_cons, List.foldl_append]
  rw [← foldl_trim]
theorem trim_mem {zs : List Int} {z : Int} (h : z ∈ trimL zs) : z ∈ zs := List.mem_of_mem_take h
theorem trim_all {zs : List Int} : allIn (trimL zs) (-1000000) 1000000 = allIn zs (-1000000) 1000000 := by
  rw [Bool.eq_iff_iff]
  simp only [allIn, List.all_eq_true]
  constructor
  · intro h z hz
    obtain ⟨k, hk⟩ := List.mem_iff_getElem?.1 hz
    by_cases hlt : k < trimN zs zs.length
    · exact h z (List.mem_of_getElem? (i := k) (by unfold trimL; rw [List.getElem?_take, if_pos hlt]; exact hk))
    · have hl := (List.getElem?_eq_some_iff.1 hk).1
      have := trimN_zero zs zs.length k (by omega) hl
      rw [List.getD_eq_getElem?_getD, hk] at this
      simp at this; subst this; rfl
  · exact fun h z hz => h z (trim_mem hz)
theorem trim_last (zs : List Int) : lastOk (trimL zs) = true := by
  unfold lastOk
  rw [List.getLast?_eq_getElem?]
  by_cases hn : trimN zs zs.length = 0
  · have : trimL zs = [] := by unfold trimL; rw [hn]; rfl
    rw [this]; rfl
  · have h1 := trimN_last zs _ hn
    rw [← trimL_getD, List.getD_eq_getElem?_getD] at h1
    rw [trimL_len]
    have hlt : trimN zs zs.length - 1 < (trimL zs).length := by rw [trimL_len]; omega
    rw [List.getElem?_eq_getElem hlt] at h1 ⊢
    simpa using h1
theorem valid_trim {c : Int} {zs : List Int} (hl : zs.length = 10) : validTerm (c, trimL zs) = (inB c (-1000000) 1000000 && allIn zs (-1000000) 1000000) := by
  unfold validTerm
  simp only
  rw [trim_all, trim_last, Bool.and_true]
  have : (trimL zs).length ≤ 10 := by rw [trimL_len, ← hl]; exact trimN_le _ _
  rw [decide_eq_true this, Bool.true_and]
/-- The row as the program lays it. -/
def rowI (r : Row) : Term × List Int := ((r.1, trimL r.2.1), r.2.2)
theorem unit_len (n i : Nat) : (unitL n i).length = n := by simp [unitL]
theorem unit_mem {n i : Nat} {z : Int} (h : z ∈ unitL n i) : 0 ≤ z ∧ z ≤ 1 := by
  unfold unitL at h
  rcases List.mem_or_eq_of_mem_set h with h | h
  · have := List.eq_of_mem_replicate h; omega
  · omega
theorem row0_ok {n i : Nat} {t : Term} (hv : validTerm t = true) (hi : i < n) : RowOk n (row0 n (t, i)) := by
  have hv2 := hv
  unfold validTerm at hv
  simp only [Bool.and_eq_true, decide_eq_true_eq] at hv
  obtain ⟨⟨⟨h1, h2⟩, h3⟩, _⟩ := hv
  refine ⟨inB_iff.1 h2, padL_len _, fun z hz => ?_, unit_len _ _, fun z hz => ?_, ⟨1, ?_, by decide⟩⟩
  · obtain ⟨k, _, rfl⟩ := List.mem_map.1 hz
    rw [List.getD_eq_getElem?_getD]
    cases hk : t.2[k]? with
    | none => exact ⟨by decide, by decide⟩
    | some y => exact inB_iff.1 (List.all_eq_true.1 h3 y (List.mem_of_getElem? hk))
  · have := unit_mem hz; omega
  · show (1 : Int) ∈ (List.replicate n 0).set i 1
    exact List.mem_of_getElem? (i := i) (by rw [List.getElem?_set_self]; simpa using hi)
theorem rows0_at {ts : List Term} {i : Nat} {t : Term} (h : ts[i]? = some t) : (rows0 ts)[i]? = some (row0 ts.length (t, i)) := by
  unfold rows0; rw [List.getElem?_map, List.getElem?_zipIdx, h]; simp
theorem rows0_len (ts : List Term) : (rows0 ts).length = ts.length := by simp [rows0]
theorem rows0_ok {ts : List Term} (h : ∀ t ∈ ts, validTerm t = true) : RowsOk ts.length (rows0 ts) := by
  intro r hr
  obtain ⟨i, hi⟩ := List.mem_iff_getElem?.1 hr
  have hl := (List.getElem?_eq_some_iff.1 hi).1
  rw [rows0_len] at hl
  rw [rows0_at (List.getElem?_eq_getElem hl)] at hi
  cases hi
  exact row0_ok (h _ (List.getElem_mem hl)) hl
theorem row0_I {n i : Nat} {t : Term} (hv : validTerm t = true) : rowI (row0 n (t, i)) = (t, unitL n i) := by
  unfold validTerm at hv
  simp only [Bool.and_eq_true, decide_eq_true_eq] at hv
  unfold rowI row0
  simp only
  rw [trim_pad hv.1.1.1 hv.2]
def allRows (ks : List Nat) (ts : List Term) : Option (List Row) := stagesF ks (rows0 ts)
theorem stages_ok {n : Nat} : ∀ (ks : List Nat) (rows res : List Row), RowsOk n rows → rows.length ≤ 60 → stagesF ks rows = some res → RowsOk n res ∧ res.length ≤ 60
  | [], rows, res, h, hl, hs => by simp [stagesF] at hs; subst hs; exact ⟨h, hl⟩
  | k :: ks, rows, res, h, hl, hs => by
    unfold stagesF at hs
    cases h1 : stageF k rows with
    | none => rw [h1] at hs; cases hs
    | some r1 =>
      rw [h1] at hs
      obtain ⟨g1, g2⟩ := stage_ok h hl h1
      exact stages_ok ks r1 res g1 g2 hs
def refuteF (ts : List Term) : List Int × Bool := if areTerms ts 14 then (match allRows (List.range 10) ts with
  | none => ([], false)
  | some rows => match rows.find? (fun r => decide (r.1 < 0)) with
    | some r => (r.2.2, true)
    | none => ([], false)) else ([], false)
end Go.Proofs.Ytkckhnpdodbffaa
