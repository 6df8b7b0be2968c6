/- The least number that a goal is at least: the law in plain words. No program in sight. -/
import Derived.Test.YtkckhnpdodbffaaEl1
import Derived.Test.YtkckhnpdodbffaaL02yp
import Derived.Test.YtkckhnpdodbffaaL01p
namespace Go.Proofs.Ytkckhnpdodbffaa
open Go.RowKit

def unit9 : List Int := (List.replicate 10 (0 : Int)).set 9 1
/-- The goal's opposite and the last symbol. -/
def addedT (g : Term) : Term := (-g.1, rng fun x => unit9.getD x 0 - g.2.getD x 0)
theorem unit9_len : unit9.length = 10 := rfl
theorem unit9_trim : trimL unit9 = unit9 := by decide
theorem accN_added (g : Term) : accN [(0, unit9), g] [1, -1] 2 = addedT g := by
  have e1 : (accN [(0, unit9), g] [1, -1] 2).1 = (addedT g).1 := by
    show 0 + 1 * 0 + -1 * g.1 = -g.1
    omega
  have e2 : (accN [(0, unit9), g] [1, -1] 2).2 = (addedT g).2 := by
    apply list_getD_ext
    · rw [accN_len]; exact (range_len _).symm
    · intro k hk
      rw [accN_len] at hk
      show (rng fun x => (rng fun x => (List.replicate 10 (0 : Int)).getD x 0 + 1 * unit9.getD x 0).getD x 0 + -1 * g.2.getD x 0).getD k 0 = (rng fun x => unit9.getD x 0 - g.2.getD x 0).getD k 0
      rw [range_getD _ hk, range_getD _ hk, range_getD _ hk]
      have : (List.replicate 10 (0 : Int)).getD k 0 = 0 := by rw [List.getD_eq_getElem?_getD, List.getElem?_replicate]; split <;> rfl
      rw [this]; omega
  exact Prod.ext e1 e2
theorem added_len (g : Term) : (addedT g).2.length = 10 := range_len _
theorem added_getD (g : Term) {k : Nat} (hk : k < 10) : (addedT g).2.getD k 0 = unit9.getD k 0 - g.2.getD k 0 := range_getD (fun x => unit9.getD x 0 - g.2.getD x 0) hk
theorem added_nine {g : Term} (h : g.2.getD 9 0 = 0) : (addedT g).2.getD 9 0 = 1 := by rw [added_getD g (by decide), h]; rfl
theorem added_trim {g : Term} (h : g.2.getD 9 0 = 0) : trimN (addedT g).2 10 = 10 := by
  show (if (addedT g).2.getD 9 0 = 0 then trimN (addedT g).2 9 else 10) = 10
  rw [added_nine h]; rfl
/-- A valid term has ten coefficients just when its last one is not zero. -/
theorem ten_nine {t : Term} (h : validTerm t = true) : t.2.length = 10 ↔ t.2.getD 9 0 ≠ 0 := by
  unfold validTerm at h
  simp only [Bool.and_eq_true, decide_eq_true_eq] at h
  constructor
  · intro hl
    have := lastOk_getD h.2 (by omega)
    rw [hl] at this
    exact this
  · intro hn
    rcases Nat.lt_or_ge t.2.length 10 with h1 | h1
    · exact absurd (getD_out (by omega)) hn
    · omega
/-! ### The last coefficient is never negative -/
def Last (r : Row) : Prop := 0 ≤ cfR r 9
theorem mix_last {n : Nat} {p q : Row} {k : Nat} (hp : RowOk n p) (hq : RowOk n q) (h : pairB p q k = true) (h1 : Last p) (h2 : Last q) : Last (mixF p q k) := by
  obtain ⟨_, _, _, hm0, hn0⟩ := mixMN hp hq h
  unfold Last cfR at *
  have hpl : 9 < p.2.1.length := by rw [hp.len]; decide
  have hql : 9 < q.2.1.length := by rw [hq.len]; decide
  have hc := comb_at (n := mixN p q k) (m := mixM p q k) (List.getElem?_eq_getElem hpl) (List.getElem?_eq_getElem hql)
  show 0 ≤ (divL _ (comb (mixN p q k) (mixM p q k) p.2.1 q.2.1)).getD 9 0
  unfold divL
  rw [List.getD_eq_getElem?_getD, List.getElem?_map, hc]
  rw [List.getD_eq_getElem?_getD, List.getElem?_eq_getElem hpl] at h1
  rw [List.getD_eq_getElem?_getD, List.getElem?_eq_getElem hql] at h2
  simp only [Option.map_some, Option.getD_some] at h1 h2 ⊢
  have a1 := Int.mul_nonneg (Int.le_of_lt hn0) h1
  have a2 := Int.mul_nonneg (Int.le_of_lt hm0) h2
  exact Int.tdiv_nonneg (by omega) (by omega)
def LastAll (rows : List Row) : Prop := ∀ r ∈ rows, Last r
theorem goQ_last {n k : Nat} {p : Row} (hp : RowOk n p) (hl : Last p) : ∀ (qs out res : List Row), RowsOk n qs → LastAll qs → LastAll out → goQ k p qs out = some res → LastAll res
  | [], out, res, _, _, ho, h => by simp [goQ] at h; subst h; exact ho
  | q :: qs, out, res, hq, hql, ho, h => by
    unfold goQ at h
    split at h
    · rename_i hpair
      split at h
      · exact goQ_last hp hl qs _ res (fun r hr => hq r (by simp [hr])) (fun r hr => hql r (by simp [hr])) (fun r hr => by
          rcases List.mem_append.1 hr with hr | hr
          · exact ho r hr
          · simp at hr; subst hr; exact mix_last hp (hq q (by simp)) hpair hl (hql q (by simp))) h
      · cases h
    · exact goQ_last hp hl qs out res (fun r hr => hq r (by simp [hr])) (fun r hr => hql r (by simp [hr])) ho h
theorem goP_last {n k : Nat} {rows : List Row} (hr : RowsOk n rows) (hl : LastAll rows) : ∀ (ps out res : List Row), RowsOk n ps → LastAll ps → LastAll out → goP k rows ps out = some res → LastAll res
  | [], out, res, _, _, ho, h => by simp [goP] at h; subst h; exact ho
  | p :: ps, out, res, hp, hpl, ho, h => by
    unfold goP at h
    cases h1 : goQ k p rows out with
    | none => rw [h1] at h; cases h
    | some o1 =>
      rw [h1] at h
      exact goP_last hr hl ps o1 res (fun r hr => hp r (by simp [hr])) (fun r hr => hpl r (by simp [hr])) (goQ_last (hp p (by simp)) (hpl p (by simp)) rows out o1 hr hl ho h1) h
theorem stage_last {n k : Nat} {rows res : List Row} (h : RowsOk n rows) (hl : LastAll rows) (hs : stageF k rows = some res) : LastAll res :=
  goP_last h hl rows _ res h hl (fun r hr => hl r (List.mem_filter.1 hr).1) hs
theorem stages_last {n : Nat} : ∀ (ks : List Nat) (rows res : List Row), RowsOk n rows → rows.length ≤ 60 → LastAll rows → stagesF ks rows = some res → LastAll res
  | [], rows, res, _, _, hl, hs => by simp [stagesF] at hs; subst hs; exact hl
  | k :: ks, rows, res, h, hn, hl, hs => by
    unfold stagesF at hs
    cases h1 : stageF k rows with
    | none => rw [h1] at hs; cases hs
    | some r1 =>
      rw [h1] at hs
      obtain ⟨g1, g2⟩ := stage_ok h hn h1
      exact stages_last ks r1 res g1 g2 (stage_last h hl h1) hs
theorem rows0_last {ts : List Term} (h : ∀ t ∈ ts, 0 ≤ t.2.getD 9 0) : LastAll (rows0 ts) := by
  intro r hr
  obtain ⟨i, hi⟩ := List.mem_iff_getElem?.1 hr
  have hl := (List.getElem?_eq_some_iff.1 hi).1
  rw [rows0_len] at hl
  rw [rows0_at (List.getElem?_eq_getElem hl)] at hi
  cases hi
  show 0 ≤ (padL ts[i].2).getD 9 0
  rw [padL_getD _ _ (by decide)]
  exact h _ (List.getElem_mem hl)
/-! ### What is picked -/
def upN (r : Row) : Int := -(divFl r.1 (cfR r 9))
def goB : List Row → Int → Bool → Int × Bool
  | [], best, found => (best, found)
  | r :: rs, best, found => if cfR r 9 = 0 then (if r.1 < 0 then (0, false) else goB rs best found) else (if !found || decide (best < upN r) then goB rs (upN r) true else goB rs best found)
def leastN (ts : List Term) (g : Term) : Int × Bool :=
  if validTerm (addedT g) then (match allRows (List.range 9) (ts ++ [addedT g]) with
    | none => (0, false)
    | some rows => goB rows 0 false) else (0, false)
def leastO (ts : List Term) (g : Term) : Int × Bool :=
  if areTerms ts 13 && validTerm g then (if g.2.getD 9 0 = 0 ∧ ts.all (fun t => t.2.getD 9 0 == 0) = true then leastN ts g else (0, false)) else (0, false)
theorem added_rows {ts : List Term} {g : Term} (ha : areTerms ts 13 = true) (hz : g.2.getD 9 0 = 0) (ht : ts.all (fun t => t.2.getD 9 0 == 0) = true) (hv : validTerm (addedT g) = true) :
    (∀ t ∈ ts ++ [addedT g], validTerm t = true) ∧ (ts ++ [addedT g]).length ≤ 14 ∧ LastAll (rows0 (ts ++ [addedT g])) := by
  unfold areTerms at ha
  simp only [Bool.and_eq_true, decide_eq_true_eq, List.all_eq_true] at ha
  simp only [List.all_eq_true, beq_iff_eq] at ht
  refine ⟨fun t h => ?_, by rw [List.length_append, List.length_singleton]; omega, rows0_last fun t h => ?_⟩
  · rcases List.mem_append.1 h with h | h
    · exact ha.2 t h
    · rw [List.mem_singleton.1 h]; exact hv
  · rcases List.mem_append.1 h with h | h
    · rw [ht t h]; exact Int.le_refl _
    · rw [List.mem_singleton.1 h, added_nine hz]; decide
/-- Rounded up by hand: what the reference reckons. -/
theorem up_eq (c m : Int) : (if (-c).tdiv m * m < -c then (-c).tdiv m + 1 else (-c).tdiv m) = -(divFl c m) := by
  have h1 : (-c).tdiv m = -(c.tdiv m) := Int.neg_tdiv ..
  have h2 := Int.tmod_add_mul_tdiv c m
  have h3 : c.tdiv m * m = m * c.tdiv m := Int.mul_comm _ _
  rw [h1]
  unfold divFl
  have h4 : -(c.tdiv m) * m = -(c.tdiv m * m) := Int.neg_mul ..
  rw [h4, h3]
  by_cases h : c.tmod m < 0
  · rw [if_pos (by omega), if_pos h]; omega
  · rw [if_neg (by omega), if_neg h]
end Go.Proofs.Ytkckhnpdodbffaa
