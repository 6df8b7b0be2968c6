/- Plain: circles without points, found by a search from each instruction. No program in sight but the places behind an instruction. -/
import Derived.Test.YtedmhdinfedhhaaL08b
namespace Go.Proofs.Ytedmhdinfedhhaa

inductive Gr (su : Nat → List Int) (S0 : List Int) : Int → Prop
  | base {t : Int} : t ∈ S0 → Gr su S0 t
  | step {k : Nat} {t : Int} : Gr su S0 k → t ∈ su k → Gr su S0 t
structure GInv (n : Nat) (su : Nat → List Int) (S0 : List Int) (out : List Bool) (work : List Int) : Prop where
  len : out.length = n
  sound : ∀ i : Nat, out[i]? = some true → Gr su S0 i
  workR : ∀ t ∈ work, Gr su S0 t
  closed : ∀ i : Nat, out[i]? = some true → ∀ t ∈ su i, t ∈ work ∨ out[t.toNat]? = some true
  start : ∀ t ∈ S0, t ∈ work ∨ out[t.toNat]? = some true
theorem GInv.begin (n : Nat) (su : Nat → List Int) (S0 : List Int) : GInv n su S0 (List.replicate n false) S0 := by
  have h0 : ∀ i : Nat, (List.replicate n false)[i]? ≠ some true := fun i h => by
    rw [List.getElem?_replicate] at h; split at h <;> simp at h
  exact ⟨by simp, fun i h => absurd h (h0 i), fun t ht => .base ht, fun i h => absurd h (h0 i), fun t ht => .inl ht⟩
theorem GInv.same {n : Nat} {su : Nat → List Int} {S0 : List Int} {out : List Bool} {w1 w2 : List Int} (h : GInv n su S0 out w1) (he : ∀ x, x ∈ w1 ↔ x ∈ w2) : GInv n su S0 out w2 :=
  ⟨h.len, h.sound, fun t ht => h.workR t ((he t).2 ht), fun i hi t ht => (h.closed i hi t ht).imp (fun g => (he t).1 g) id, fun t ht => (h.start t ht).imp (fun g => (he t).1 g) id⟩
theorem GInv.skip {n : Nat} {su : Nat → List Int} {S0 : List Int} {out : List Bool} {work : List Int} {t : Int} (h : GInv n su S0 out (t :: work)) (ht : out[t.toNat]? = some true) : GInv n su S0 out work := by
  have key : ∀ x, x ∈ t :: work ∨ out[x.toNat]? = some true → x ∈ work ∨ out[x.toNat]? = some true := fun x hx => by
    rcases hx with g | g
    · rcases List.mem_cons.1 g with rfl | g
      · exact .inr ht
      · exact .inl g
    · exact .inr g
  exact ⟨h.len, h.sound, fun x hx => h.workR x (List.mem_cons_of_mem _ hx), fun i hi x hx => key x (h.closed i hi x hx), fun x hx => key x (h.start x hx)⟩
theorem GInv.push {n : Nat} {su : Nat → List Int} {S0 : List Int} {out : List Bool} {work : List Int} {k : Nat} (h : GInv n su S0 out ((k : Int) :: work)) (hk : k < n) : GInv n su S0 (out.set k true) (work ++ su k) := by
  have hR := h.workR k (by simp)
  have hl := h.len
  have hself : (out.set k true)[k]? = some true := List.getElem?_set_self (by omega)
  have hset : ∀ i : Nat, (out.set k true)[i]? = some true → i = k ∨ out[i]? = some true := fun i hi => by
    by_cases e : k = i
    · exact .inl e.symm
    · rw [List.getElem?_set_ne e] at hi; exact .inr hi
  have hkeep : ∀ i : Nat, out[i]? = some true → (out.set k true)[i]? = some true := fun i hi => by
    by_cases e : k = i
    · subst e; exact hself
    · rw [List.getElem?_set_ne e]; exact hi
  have key : ∀ x, x ∈ (k : Int) :: work ∨ out[x.toNat]? = some true → x ∈ work ++ su k ∨ (out.set k true)[x.toNat]? = some true := fun x hx => by
    rcases hx with g | g
    · rcases List.mem_cons.1 g with rfl | g
      · exact .inr (by rw [Int.toNat_natCast]; exact hself)
      · exact .inl (List.mem_append_left _ g)
    · exact .inr (hkeep _ g)
  refine ⟨by rw [List.length_set]; exact hl, fun i hi => ?_, fun x hx => ?_, fun i hi x hx => ?_, fun x hx => key x (h.start x hx)⟩
  · rcases hset i hi with rfl | g
    · exact hR
    · exact h.sound i g
  · rcases List.mem_append.1 hx with g | g
    · exact h.workR x (List.mem_cons_of_mem _ g)
    · exact .step hR g
  · rcases hset i hi with rfl | g
    · exact .inl (List.mem_append_right _ hx)
    · exact key x (h.closed i g x hx)
/-- The places lie in the code. -/
def Rng (n : Nat) (su : Nat → List Int) : Prop := ∀ k, ∀ t ∈ su k, 0 ≤ t ∧ t < (n : Int)
theorem Gr.rng {n : Nat} {su : Nat → List Int} {i : Nat} (hr : Rng n su) {t : Int} (h : Gr su (su i) t) : 0 ≤ t ∧ t < (n : Int) := by
  cases h with
  | base h => exact hr _ _ h
  | step _ h => exact hr _ _ h
theorem GInv.complete {n : Nat} {su : Nat → List Int} {i : Nat} {out : List Bool} (hr : Rng n su) (h : GInv n su (su i) out []) {t : Int} (ht : Gr su (su i) t) : out[t.toNat]? = some true := by
  induction ht with
  | base hm =>
    rcases h.start _ hm with g | g
    · cases g
    · exact g
  | step hk hm ih =>
    rw [Int.toNat_natCast] at ih
    rcases h.closed _ ih _ hm with g | g
    · cases g
    · exact g
theorem GInv.unique {n : Nat} {su : Nat → List Int} {i : Nat} {o1 o2 : List Bool} (hr : Rng n su) (h1 : GInv n su (su i) o1 []) (h2 : GInv n su (su i) o2 []) : o1 = o2 := by
  have key : ∀ {a b : List Bool}, GInv n su (su i) a [] → GInv n su (su i) b [] → ∀ j : Nat, a[j]? = some true → b[j]? = some true := fun ha hb j hj => by
    have := hb.complete hr (ha.sound j hj)
    rwa [Int.toNat_natCast] at this
  apply List.ext_getElem (by rw [h1.len, h2.len])
  intro j hj hj'
  have g1 := List.getElem?_eq_getElem hj
  have g2 := List.getElem?_eq_getElem hj'
  cases e1 : o1[j] with
  | true =>
    rw [e1] at g1
    have := key h1 h2 j g1
    rw [g2] at this
    simpa using this.symm
  | false =>
    cases e2 : o2[j] with
    | true =>
      rw [e2] at g2
      have := key h2 h1 j g2
      rw [g1, e1] at this; simp at this
    | false => rfl
theorem msr_pushG {su : Nat → List Int} {out : List Bool} {work : List Int} {k : Nat} (hs : (su k).length ≤ 2) (h : out[k]? = some false) : msr (out.set k true) (work ++ su k) < msr out ((k : Int) :: work) := by
  have h1 := count_set h
  unfold msr
  rw [List.length_append, List.length_cons]; omega
def runG (su : Nat → List Int) : Nat → List Bool → List Int → List Bool
  | 0, out, _ => out
  | _ + 1, out, [] => out
  | f + 1, out, t :: work => if out[t.toNat]? == some false then runG su f (out.set t.toNat true) (work ++ su t.toNat) else runG su f out work
theorem runG_inv {n : Nat} {su : Nat → List Int} {i : Nat} (hr : Rng n su) (hs : ∀ k, (su k).length ≤ 2) : ∀ (f : Nat) (out : List Bool) (work : List Int), GInv n su (su i) out work → msr out work ≤ f → GInv n su (su i) (runG su f out work) [] := by
  intro f
  induction f with
  | zero =>
    intro out work h hm
    cases work with
    | nil => exact h
    | cons t work => unfold msr at hm; simp at hm
  | succ f ih =>
    intro out work h hm
    cases work with
    | nil => exact h
    | cons t work =>
      obtain ⟨h0, h1⟩ := (h.workR t (by simp)).rng hr
      obtain ⟨k, rfl⟩ := Int.eq_ofNat_of_zero_le h0
      unfold runG
      rw [Int.toNat_natCast]
      split
      · rename_i hc
        simp only [beq_iff_eq] at hc
        refine ih _ _ (h.push (by omega)) ?_
        have := msr_pushG (work := work) (hs k) hc
        omega
      · rename_i hc
        refine ih _ _ (h.skip ?_) (by unfold msr at hm ⊢; simp only [List.length_cons] at hm; omega)
        rw [Int.toNat_natCast]
        have hlt : k < out.length := by rw [h.len]; omega
        rw [List.getElem?_eq_getElem hlt] at hc ⊢
        cases e : out[k] with
        | true => rfl
        | false => rw [e] at hc; simp at hc
def metF (n : Nat) (su : Nat → List Int) (i : Nat) : List Bool := runG su (3 * n + 2) (List.replicate n false) (su i)
theorem metF_inv {n : Nat} {su : Nat → List Int} (hr : Rng n su) (hs : ∀ k, (su k).length ≤ 2) (i : Nat) : GInv n su (su i) (metF n su i) [] :=
  runG_inv hr hs _ _ _ (.begin n su (su i)) (by unfold msr; have := hs i; simp; omega)
theorem metF_of {n : Nat} {su : Nat → List Int} (hr : Rng n su) (hs : ∀ k, (su k).length ≤ 2) {i : Nat} {out : List Bool} (h : GInv n su (su i) out []) : out = metF n su i := h.unique hr (metF_inv hr hs i)
theorem bareF_rng (code : List Instr) (ps : List Pt) : Rng code.length (bareF code ps) := fun k t ht => by
  unfold bareF at ht
  obtain ⟨_, h⟩ := List.mem_filter.1 ht
  simp only [Bool.and_eq_true] at h
  have := inB_iff.1 h.1
  omega
theorem bareF_len (code : List Instr) (ps : List Pt) (k : Nat) : (bareF code ps k).length ≤ 2 := Nat.le_trans (List.length_filter_le _ _) (targF_len code k)
theorem bareF_mem {code : List Instr} {ps : List Pt} {k : Nat} {t : Int} : t ∈ bareF code ps k ↔ t ∈ nextL code k ∧ (0 ≤ t ∧ t < (code.length : Int)) ∧ noPt ps t = true := by
  unfold bareF
  rw [List.mem_filter, nextL_mem, Bool.and_eq_true, inB_iff]
  constructor
  · rintro ⟨h1, h2, h3⟩; exact ⟨h1, by omega, h3⟩
  · rintro ⟨h1, h2, h3⟩; exact ⟨h1, by omega, h3⟩
def openB (code : List Instr) (ps : List Pt) (i : Nat) : Bool := noPt ps i && (metF code.length (bareF code ps) i).getD i false
def openBs (code : List Instr) (ps : List Pt) : List Bool := (List.range code.length).map (openB code ps)
theorem openBs_len (code : List Instr) (ps : List Pt) : (openBs code ps).length = code.length := by simp [openBs]
theorem openBs_at {code : List Instr} {ps : List Pt} {i : Nat} (h : i < code.length) : (openBs code ps)[i]? = some (openB code ps i) := by simp [openBs, h]
def openF (a : An) : List Int × Bool := if validAn a then (idxL (openBs a.2.2.1 a.2.2.2), true) else ([], false)
theorem openF_len (a : An) : (openF a).1.length ≤ 1048576 := by
  obtain ⟨d0, d1, d2, d3⟩ := a
  unfold openF
  split
  · rename_i hv
    obtain ⟨h1, _⟩ := validAn_iff hv
    obtain ⟨_, h80, _⟩ := validCode_iff h1
    have := idxK_len (openBs d2 d3) (openBs d2 d3).length
    have hl := openBs_len d2 d3
    simp only [idxL]; omega
  · simp
/-- What the reference's search meets. -/
inductive Nr (n : Nat) (nx : Nat → List Int) (P : Int → Bool) (i : Nat) : Int → Prop
  | base {t : Int} : P i = true → t ∈ nx i → 0 ≤ t ∧ t < (n : Int) → Nr n nx P i t
  | step {u : Nat} {t : Int} : Nr n nx P i u → P u = true → t ∈ nx u → 0 ≤ t ∧ t < (n : Int) → Nr n nx P i t
structure BInv (n : Nat) (nx : Nat → List Int) (P : Int → Bool) (i : Nat) (seen : List Bool) (W : List Int) (m : Nat) (back : Bool) (cur : List Int) : Prop where
  len : seen.length = n
  cnt : W.length + seen.count false = n + 1
  first : W[0]? = some (i : Int)
  rng : ∀ t ∈ W, 0 ≤ t ∧ t < (n : Int)
  mem : ∀ t ∈ W, t = i ∨ Nr n nx P i t
  seenW : ∀ t : Nat, seen[t]? = some true → (t : Int) ∈ W
  done : ∀ u ∈ W.take m, P u = true → ∀ t ∈ nx u.toNat, ((0 ≤ t ∧ t < (n : Int)) → seen[t.toNat]? = some true) ∧ (t = i → back = true)
  part : ∀ t ∈ cur, ((0 ≤ t ∧ t < (n : Int)) → seen[t.toNat]? = some true) ∧ (t = i → back = true)
  bk : back = true → ∃ u : Nat, ((u : Int) = i ∨ Nr n nx P i u) ∧ P u = true ∧ (i : Int) ∈ nx u
theorem BInv.begin {n : Nat} (nx : Nat → List Int) (P : Int → Bool) {i : Nat} (hi : i < n) : BInv n nx P i (List.replicate n false) [(i : Int)] 0 false [] := by
  have h0 : ∀ j : Nat, (List.replicate n false)[j]? ≠ some true := fun j h => by
    rw [List.getElem?_replicate] at h; split at h <;> simp at h
  exact ⟨by simp, by simp; omega, rfl, fun t ht => by simp at ht; omega, fun t ht => by simp at ht; exact .inl ht, fun t ht => absurd ht (h0 t), fun u hu => by simp at hu, fun t ht => by simp at ht, fun h => by cases h⟩
theorem BInv.skipPt {n : Nat} {nx : Nat → List Int} {P : Int → Bool} {i : Nat} {seen : List Bool} {W : List Int} {m : Nat} {back : Bool} {u : Int} (h : BInv n nx P i seen W m back []) (hu : W[m]? = some u) (hp : P u = false) : BInv n nx P i seen W (m + 1) back [] :=
  ⟨h.len, h.cnt, h.first, h.rng, h.mem, h.seenW, fun v hv hP => by
    rw [List.take_add_one, hu] at hv
    rcases List.mem_append.1 hv with g | g
    · exact h.done v g hP
    · simp at g; subst g; exact absurd hP (by rw [hp]; simp), h.part, h.bk⟩
theorem BInv.fin {n : Nat} {nx : Nat → List Int} {P : Int → Bool} {i : Nat} {seen : List Bool} {W : List Int} {m : Nat} {back : Bool} {u : Int} (h : BInv n nx P i seen W m back (nx u.toNat)) (hu : W[m]? = some u) : BInv n nx P i seen W (m + 1) back [] :=
  ⟨h.len, h.cnt, h.first, h.rng, h.mem, h.seenW, fun v hv hP => by
    rw [List.take_add_one, hu] at hv
    rcases List.mem_append.1 hv with g | g
    · exact h.done v g hP
    · simp at g; subst g; exact h.part, fun t ht => by simp at ht, h.bk⟩
theorem BInv.bk' {n : Nat} {nx : Nat → List Int} {P : Int → Bool} {i : Nat} {seen : List Bool} {W : List Int} {m : Nat} {back : Bool} {cur : List Int} {u : Nat} {t : Int} (h : BInv n nx P i seen W m back cur) (hu : W[m]? = some (u : Int)) (hp : P u = true) (ht : t ∈ nx u) (hb : (back || t == i) = true) : ∃ u : Nat, ((u : Int) = i ∨ Nr n nx P i u) ∧ P u = true ∧ (i : Int) ∈ nx u := by
  rcases Bool.or_eq_true _ _ ▸ hb with g | g
  · exact h.bk g
  · exact ⟨u, h.mem _ (List.mem_of_getElem? hu), hp, by simp at g; rw [← g]; exact ht⟩
theorem BInv.pass {n : Nat} {nx : Nat → List Int} {P : Int → Bool} {i : Nat} {seen : List Bool} {W : List Int} {m : Nat} {back : Bool} {cur : List Int} {u : Nat} {t : Int} (h : BInv n nx P i seen W m back cur) (hu : W[m]? = some (u : Int)) (hp : P u = true) (ht : t ∈ nx u) (hs : (0 ≤ t ∧ t < (n : Int)) → seen[t.toNat]? = some true) : BInv n nx P i seen W m (back || t == i) (cur ++ [t]) :=
  ⟨h.len, h.cnt, h.first, h.rng, h.mem, h.seenW, fun v hv hP x hx => ⟨(h.done v hv hP x hx).1, fun e => by rw [(h.done v hv hP x hx).2 e]; rfl⟩, fun x hx => by
    rcases List.mem_append.1 hx with g | g
    · exact ⟨(h.part x g).1, fun e => by rw [(h.part x g).2 e]; rfl⟩
    · simp at g; subst g; exact ⟨hs, fun e => by rw [e]; simp⟩, h.bk' hu hp ht⟩
theorem BInv.mark {n : Nat} {nx : Nat → List Int} {P : Int → Bool} {i : Nat} {seen : List Bool} {W : List Int} {m : Nat} {back : Bool} {cur : List Int} {u q : Nat} (h : BInv n nx P i seen W m back cur) (hu : W[m]? = some (u : Int)) (hp : P u = true) (ht : (q : Int) ∈ nx u) (hq : q < n) (hs : seen[q]? = some false) : BInv n nx P i (seen.set q true) (W ++ [(q : Int)]) m (back || (q : Int) == i) (cur ++ [(q : Int)]) := by
  have hm : m < W.length := (List.getElem?_eq_some_iff.1 hu).1
  have hself : (seen.set q true)[q]? = some true := List.getElem?_set_self (by rw [h.len]; exact hq)
  have hkeep : ∀ j : Nat, seen[j]? = some true → (seen.set q true)[j]? = some true := fun j hj => by
    by_cases e : q = j
    · subst e; exact hself
    · rw [List.getElem?_set_ne e]; exact hj
  have hc := count_set hs
  refine ⟨by rw [List.length_set]; exact h.len, by rw [List.length_append]; have := h.cnt; simp only [List.length_singleton]; omega, ?_, fun t ht' => ?_, fun t ht' => ?_, fun t ht' => ?_, fun v hv hP x hx => ?_, fun x hx => ?_, h.bk' hu hp ht⟩
  · rw [List.getElem?_append_left (by omega)]; exact h.first
  · rcases List.mem_append.1 ht' with g | g
    · exact h.rng t g
    · simp at g; omega
  · rcases List.mem_append.1 ht' with g | g
    · exact h.mem t g
    · simp at g; subst g
      refine .inr ?_
      rcases h.mem _ (List.mem_of_getElem? hu) with e | e
      · have : u = i := by omega
        subst this
        exact .base hp ht ⟨by omega, by omega⟩
      · exact .step e hp ht ⟨by omega, by omega⟩
  · by_cases e : q = t
    · subst e; simp
    · rw [List.getElem?_set_ne e] at ht'
      exact List.mem_append_left _ (h.seenW t ht')
  · rw [List.take_append_of_le_length (by omega)] at hv
    obtain ⟨g1, g2⟩ := h.done v hv hP x hx
    exact ⟨fun hb => hkeep _ (g1 hb), fun e => by rw [g2 e]; rfl⟩
  · rcases List.mem_append.1 hx with g | g
    · obtain ⟨g1, g2⟩ := h.part x g
      exact ⟨fun hb => hkeep _ (g1 hb), fun e => by rw [g2 e]; rfl⟩
    · simp at g; subst g
      exact ⟨fun _ => by rw [Int.toNat_natCast]; exact hself, fun e => by rw [e]; simp⟩
theorem Nr.gr {n : Nat} {nx su : Nat → List Int} {P : Int → Bool} {i : Nat} (hsu : ∀ (k : Nat) (t : Int), t ∈ su k ↔ t ∈ nx k ∧ (0 ≤ t ∧ t < (n : Int)) ∧ P t = true) {t : Int} (h : Nr n nx P i t) (hP : P t = true) : Gr su (su i) t := by
  induction h with
  | base h1 h2 h3 => exact .base ((hsu _ _).2 ⟨h2, h3, hP⟩)
  | step _ h2 h3 h4 ih => exact .step (ih h2) ((hsu _ _).2 ⟨h3, h4, hP⟩)
theorem BInv.back_iff {n : Nat} {nx su : Nat → List Int} {P : Int → Bool} {i : Nat} {seen : List Bool} {W : List Int} {back : Bool} (hsu : ∀ (k : Nat) (t : Int), t ∈ su k ↔ t ∈ nx k ∧ (0 ≤ t ∧ t < (n : Int)) ∧ P t = true) (h : BInv n nx P i seen W W.length back []) (hi : i < n) (hP : P i = true) : back = true ↔ Gr su (su i) i := by
  have hiW : (i : Int) ∈ W := List.mem_of_getElem? h.first
  have hdone : ∀ u ∈ W, P u = true → ∀ t ∈ nx u.toNat, ((0 ≤ t ∧ t < (n : Int)) → seen[t.toNat]? = some true) ∧ (t = i → back = true) := by
    have := h.done; rwa [List.take_length] at this
  have hseen : ∀ t, Gr su (su i) t → P t = true ∧ t ∈ W := by
    intro t ht
    induction ht with
    | base hm =>
      rename_i t'
      obtain ⟨g1, g2, g3⟩ := (hsu _ _).1 hm
      have := (hdone _ hiW hP t' (by rw [Int.toNat_natCast]; exact g1)).1 g2
      have h9 := h.seenW _ this
      rw [show ((t'.toNat : Nat) : Int) = t' by omega] at h9
      exact ⟨g3, h9⟩
    | step hk hm ih =>
      rename_i k t'
      obtain ⟨g1, g2, g3⟩ := (hsu _ _).1 hm
      have := (hdone _ ih.2 ih.1 t' (by rw [Int.toNat_natCast]; exact g1)).1 g2
      have h9 := h.seenW _ this
      rw [show ((t'.toNat : Nat) : Int) = t' by omega] at h9
      exact ⟨g3, h9⟩
  constructor
  · intro hb
    obtain ⟨u, hu, hPu, hin⟩ := h.bk hb
    rcases hu with e | e
    · have : u = i := by omega
      subst this
      exact .base ((hsu _ _).2 ⟨hin, ⟨by omega, by omega⟩, hP⟩)
    · exact .step (e.gr hsu hPu) ((hsu _ _).2 ⟨hin, ⟨by omega, by omega⟩, hP⟩)
  · intro hg
    cases hg with
    | base hm =>
      obtain ⟨g1, _, _⟩ := (hsu _ _).1 hm
      exact (hdone _ hiW hP i (by rw [Int.toNat_natCast]; exact g1)).2 rfl
    | step hk hm =>
      rename_i k
      obtain ⟨g1, _, _⟩ := (hsu _ _).1 hm
      obtain ⟨q1, q2⟩ := hseen _ hk
      exact (hdone _ q2 q1 i (by rw [Int.toNat_natCast]; exact g1)).2 rfl
theorem openB_back {code : List Instr} {ps : List Pt} {i : Nat} {seen : List Bool} {W : List Int} {back : Bool} (h : BInv code.length (nextL code) (noPt ps) i seen W W.length back []) (hi : i < code.length) (hP : noPt ps i = true) : openB code ps i = back := by
  have h1 := h.back_iff (su := bareF code ps) (fun k t => bareF_mem) hi hP
  have hI := metF_inv (bareF_rng code ps) (bareF_len code ps) i
  have h2 : (metF code.length (bareF code ps) i)[i]? = some true ↔ Gr (bareF code ps) (bareF code ps i) i := by
    constructor
    · exact fun e => hI.sound i e
    · intro e
      have := hI.complete (bareF_rng code ps) e
      rwa [Int.toNat_natCast] at this
  unfold openB
  rw [hP, Bool.true_and]
  have hlt : i < (metF code.length (bareF code ps) i).length := by rw [hI.len]; exact hi
  rw [List.getElem?_eq_getElem hlt] at h2
  rw [List.getD_eq_getElem?_getD, List.getElem?_eq_getElem hlt]
  simp only [Option.getD_some]
  cases hb : back with
  | true => exact Option.some.inj (h2.2 (h1.1 hb))
  | false =>
    cases hm : (metF code.length (bareF code ps) i)[i] with
    | false => rfl
    | true => rw [hm] at h2; have := h1.2 (h2.1 rfl); rw [hb] at this; cases this
end Go.Proofs.Ytedmhdinfedhhaa
