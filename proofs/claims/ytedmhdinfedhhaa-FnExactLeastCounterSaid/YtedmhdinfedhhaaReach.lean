/- Plain: what can be reached from the first instruction, by a list of places that are still to be visited. No program in sight but the places behind an instruction. -/
import Derived.Test.YtedmhdinfedhhaaL07t
import Derived.Test.YtedmhdinfedhhaaBools
namespace Go.Proofs.Ytedmhdinfedhhaa

theorem place_arg {x : Instr} (h : validI x = true) (hj : x.1 = 5 ∨ x.1 = 6) : 0 ≤ x.2 ∧ x.2 ≤ 79 := by
  obtain ⟨op, arg⟩ := x
  unfold validI at h
  simp only at h hj ⊢
  rcases hj with rfl | rfl
  · have := inB_iff.1 (show inB arg 0 79 = true by simpa using h); omega
  · have := inB_iff.1 (show inB arg 0 79 = true by simpa using h); omega
inductive Rch (code : List Instr) : Int → Prop
  | zero : Rch code 0
  | step {k : Nat} {t : Int} : Rch code k → k < code.length → t ∈ targF code k → Rch code t
/-- The state of a search: what is marked, and what is still to be visited. -/
structure RInv (code : List Instr) (out : List Bool) (work : List Int) : Prop where
  len : out.length = code.length
  sound : ∀ i : Nat, out[i]? = some true → Rch code i
  workR : ∀ t ∈ work, Rch code t
  closed : ∀ i : Nat, out[i]? = some true → ∀ t ∈ targF code i, t ∈ work ∨ out[t.toNat]? = some true ∧ 0 ≤ t ∨ ¬ (0 ≤ t ∧ t < code.length)
  start : (0 : Int) ∈ work ∨ out[0]? = some true
theorem RInv.begin (code : List Instr) : RInv code (List.replicate code.length false) [0] := by
  have h0 : ∀ i : Nat, (List.replicate code.length false)[i]? ≠ some true := fun i h => by
    rw [List.getElem?_replicate] at h; split at h <;> simp at h
  exact ⟨by simp, fun i h => absurd h (h0 i), fun t ht => by simp at ht; subst ht; exact .zero, fun i h => absurd h (h0 i), .inl (by simp)⟩
theorem RInv.same {code : List Instr} {out : List Bool} {w1 w2 : List Int} (h : RInv code out w1) (he : ∀ x, x ∈ w1 ↔ x ∈ w2) : RInv code out w2 :=
  ⟨h.len, h.sound, fun t ht => h.workR t ((he t).2 ht), fun i hi t ht => (h.closed i hi t ht).imp (fun g => (he t).1 g) id, h.start.imp (fun g => (he 0).1 g) id⟩
theorem RInv.skip {code : List Instr} {out : List Bool} {work : List Int} {t : Int} (h : RInv code out (t :: work)) (ht : ¬ (0 ≤ t ∧ t < code.length) ∨ (out[t.toNat]? = some true ∧ 0 ≤ t)) (hn : 1 ≤ code.length) : RInv code out work := by
  refine ⟨h.len, h.sound, fun x hx => h.workR x (List.mem_cons_of_mem _ hx), fun i hi x hx => ?_, ?_⟩
  · rcases h.closed i hi x hx with g | g
    · rcases List.mem_cons.1 g with rfl | g
      · rcases ht with ht | ht
        · exact .inr (.inr ht)
        · exact .inr (.inl ht)
      · exact .inl g
    · exact .inr g
  · rcases h.start with g | g
    · rcases List.mem_cons.1 g with rfl | g
      · rcases ht with ht | ht
        · omega
        · exact .inr ht.1
      · exact .inl g
    · exact .inr g
theorem RInv.push {code : List Instr} {out : List Bool} {work : List Int} {k : Nat} (h : RInv code out ((k : Int) :: work)) (hk : k < code.length) : RInv code (out.set k true) (work ++ targF code k) := by
  have hR := h.workR k (by simp)
  have hl := h.len
  have hset : ∀ i : Nat, (out.set k true)[i]? = some true → i = k ∨ out[i]? = some true := fun i hi => by
    by_cases e : k = i
    · exact .inl e.symm
    · rw [List.getElem?_set_ne e] at hi; exact .inr hi
  have hkeep : ∀ i : Nat, out[i]? = some true → (out.set k true)[i]? = some true := fun i hi => by
    by_cases e : k = i
    · subst e; rw [List.getElem?_set_self (by omega)]
    · rw [List.getElem?_set_ne e]; exact hi
  refine ⟨by rw [List.length_set]; exact hl, fun i hi => ?_, fun x hx => ?_, fun i hi x hx => ?_, ?_⟩
  · rcases hset i hi with rfl | g
    · exact hR
    · exact h.sound i g
  · rcases List.mem_append.1 hx with g | g
    · exact h.workR x (List.mem_cons_of_mem _ g)
    · exact .step hR hk g
  · rcases hset i hi with rfl | g
    · exact .inl (List.mem_append_right _ hx)
    · rcases h.closed i g x hx with g | g | g
      · rcases List.mem_cons.1 g with rfl | g
        · exact .inr (.inl ⟨by rw [Int.toNat_natCast, List.getElem?_set_self (by omega)], by omega⟩)
        · exact .inl (List.mem_append_left _ g)
      · exact .inr (.inl ⟨hkeep _ g.1, g.2⟩)
      · exact .inr (.inr g)
  · rcases h.start with g | g
    · rcases List.mem_cons.1 g with g | g
      · have : k = 0 := by omega
        subst this
        exact .inr (by rw [List.getElem?_set_self (by omega)])
      · exact .inl (List.mem_append_left _ g)
    · exact .inr (hkeep 0 g)
theorem RInv.complete {code : List Instr} {out : List Bool} (h : RInv code out []) {t : Int} (ht : Rch code t) (h0 : 0 ≤ t) (h1 : t < code.length) : out[t.toNat]? = some true := by
  have key : ∀ t, Rch code t → 0 ≤ t ∧ t < code.length → out[t.toNat]? = some true := by
    intro t ht
    induction ht with
    | zero => intro _; rcases h.start with g | g
              · cases g
              · exact g
    | step hk hlt hm ih =>
      intro hb
      have hi := ih ⟨by omega, by omega⟩
      rw [Int.toNat_natCast] at hi
      rcases h.closed _ hi _ hm with g | g | g
      · cases g
      · exact g.1
      · exact absurd hb g
  exact key t ht ⟨h0, h1⟩
theorem RInv.unique {code : List Instr} {o1 o2 : List Bool} (h1 : RInv code o1 []) (h2 : RInv code o2 []) : o1 = o2 := by
  have key : ∀ {a b : List Bool}, RInv code a [] → RInv code b [] → ∀ i : Nat, a[i]? = some true → b[i]? = some true := fun ha hb i hi => by
    have hlt : i < code.length := by rw [← ha.len]; exact (List.getElem?_eq_some_iff.1 hi).1
    have := hb.complete (ha.sound i hi) (by omega) (by omega)
    rwa [Int.toNat_natCast] at this
  apply List.ext_getElem (by rw [h1.len, h2.len])
  intro i hi hi'
  have g1 := List.getElem?_eq_getElem hi
  have g2 := List.getElem?_eq_getElem hi'
  cases e1 : o1[i] with
  | true =>
    rw [e1] at g1
    have := key h1 h2 i g1
    rw [g2] at this
    simpa using this.symm
  | false =>
    cases e2 : o2[i] with
    | true =>
      rw [e2] at g2
      have := key h2 h1 i g2
      rw [g1, e1] at this; simp at this
    | false => rfl
/-- How much is still to be done at most. -/
def msr (out : List Bool) (work : List Int) : Nat := 3 * out.count false + work.length
theorem count_set {out : List Bool} {k : Nat} (h : out[k]? = some false) : (out.set k true).count false + 1 = out.count false := by
  induction out generalizing k with
  | nil => simp at h
  | cons b bs ih =>
    cases k with
    | zero => simp at h; subst h; simp
    | succ k =>
      simp only [List.getElem?_cons_succ] at h
      simp only [List.set_cons_succ, List.count_cons]
      have := ih h
      omega
theorem msr_push {code : List Instr} {out : List Bool} {work : List Int} {k : Nat} (h : out[k]? = some false) : msr (out.set k true) (work ++ targF code k) < msr out ((k : Int) :: work) := by
  have h1 := count_set h
  have h2 := targF_len code k
  unfold msr
  rw [List.length_append, List.length_cons]; omega
/-- The search, with places taken from the front. -/
def runR (code : List Instr) : Nat → List Bool → List Int → List Bool
  | 0, out, _ => out
  | _ + 1, out, [] => out
  | f + 1, out, t :: work => if (decide (0 ≤ t) && decide (t < (code.length : Int))) && (out[t.toNat]? == some false) then runR code f (out.set t.toNat true) (work ++ targF code t.toNat) else runR code f out work
theorem runR_inv {code : List Instr} (hn : 1 ≤ code.length) : ∀ (f : Nat) (out : List Bool) (work : List Int), RInv code out work → msr out work ≤ f → RInv code (runR code f out work) [] := by
  intro f
  induction f with
  | zero =>
    intro out work h hm
    cases work with
    | nil => exact h
    | cons t work => unfold msr at hm; simp at hm
  | succ f ih =>
    intro out work h hm
    cases work with
    | nil => exact h
    | cons t work =>
      unfold runR
      split
      · rename_i hc
        simp only [Bool.and_eq_true, decide_eq_true_eq, beq_iff_eq] at hc
        obtain ⟨⟨h0, h1⟩, h2⟩ := hc
        obtain ⟨k, rfl⟩ := Int.eq_ofNat_of_zero_le h0
        rw [Int.toNat_natCast] at h2 ⊢
        refine ih _ _ (h.push (by omega)) ?_
        have := msr_push (code := code) (work := work) h2
        omega
      · rename_i hc
        refine ih _ _ (h.skip ?_ hn) (by unfold msr at hm ⊢; simp only [List.length_cons] at hm; omega)
        by_cases hb : 0 ≤ t ∧ t < (code.length : Int)
        · refine .inr ⟨?_, hb.1⟩
          simp only [hb.1, hb.2, decide_true, Bool.true_and, beq_iff_eq, Bool.not_eq_true] at hc
          have hlt : t.toNat < out.length := by rw [h.len]; omega
          rw [List.getElem?_eq_getElem hlt] at hc ⊢
          cases e : out[t.toNat] with
          | true => rfl
          | false => rw [e] at hc; simp at hc
        · exact .inl hb
def reachB (code : List Instr) : List Bool := runR code (3 * code.length + 1) (List.replicate code.length false) [0]
theorem reachB_inv {code : List Instr} (hn : 1 ≤ code.length) : RInv code (reachB code) [] :=
  runR_inv hn _ _ _ (.begin code) (by unfold msr; simp)
theorem reachB_of {code : List Instr} (hn : 1 ≤ code.length) {out : List Bool} (h : RInv code out []) : out = reachB code := h.unique (reachB_inv hn)
def reachF (code : List Instr) : List Int × Bool := if validCode code then (idxL (reachB code), true) else ([], false)
theorem reachF_len (code : List Instr) : (reachF code).1.length ≤ 1048576 := by
  unfold reachF
  split
  · rename_i hv
    obtain ⟨h1, h80, _⟩ := validCode_iff hv
    have := idxK_len (reachB code) (reachB code).length
    have hl := (reachB_inv (code := code) (by omega)).len
    simp only [idxL]; omega
  · simp
/-- The places behind an instruction of valid code are not negative. -/
theorem targF_nonneg {code : List Instr} (hv : ∀ x ∈ code, validI x = true) {k : Nat} {t : Int} (h : t ∈ targF code k) : 0 ≤ t ∧ t ≤ 80 + k := by
  unfold targF at h
  cases hx : code[k]? with
  | none => rw [hx] at h; cases h
  | some x =>
    rw [hx] at h
    have hm := hv x (List.mem_of_getElem? hx)
    have hj := place_arg hm
    simp only [targI] at h
    split at h
    · cases h
    · split at h
      · rename_i e5
        have := hj (.inl e5)
        simp at h; omega
      · split at h
        · rename_i e6
          have := hj (.inr e6)
          rcases mem_putL.1 h with e | e
          · omega
          · simp at e; omega
        · simp at h; omega
end Go.Proofs.Ytedmhdinfedhhaa
