/- Plain mathematics: where blocks of code begin. No program in sight. -/
import Derived.Test.YtmpanchappoejaaL07s
import Derived.Test.YtmpanchappoejaaL02yp
import Derived.Test.YtmpanchappoejaaBools
namespace Go.Proofs.Ytmpanchappoejaa

/-- What an instruction makes of a place. -/
def leadI (k : Nat) (x : Instr) (j : Nat) : Bool := (jumpB x.1 && x.2 == (j : Int)) || ((jumpB x.1 || x.1 == 11) && k + 1 == j)
def isLead (xs : List Instr) : Nat → Nat → Bool
  | 0, j => j == 0
  | m + 1, j => isLead xs m j || (match xs[m]? with | some x => leadI m x j | none => false)
def leadK (xs : List Instr) (m : Nat) : List Int := ((List.range xs.length).filter (isLead xs m)).map fun j : Nat => (j : Int)
def leadL (xs : List Instr) : List Int := leadK xs xs.length
def leadF (xs : List Instr) : List Int × Bool := if validCode xs then (leadL xs, true) else ([], false)
theorem leadF_len (xs : List Instr) : (leadF xs).1.length ≤ 1048576 := by
  unfold leadF
  split
  · rename_i h
    have h1 := (validCode_iff h).2.1
    simp only [leadL, leadK, List.length_map]
    have := List.length_filter_le (isLead xs xs.length) (List.range xs.length)
    simp at this; omega
  · simp
theorem isLead_succ {xs : List Instr} {m j : Nat} {x : Instr} (h : xs[m]? = some x) : isLead xs (m + 1) j = (isLead xs m j || leadI m x j) := by simp [isLead, h]
/-- What has been collected behind m instructions. -/
def LeadAt (xs : List Instr) (m : Nat) (out : List Int) : Prop := Srt out ∧ ∀ x, x ∈ out ↔ ∃ j : Nat, x = j ∧ j < xs.length ∧ isLead xs m j = true
theorem leadAt_start {xs : List Instr} (h : 1 ≤ xs.length) : LeadAt xs 0 [0] := by
  refine ⟨by simp [Srt], fun x => ?_⟩
  simp only [List.mem_singleton, isLead, beq_iff_eq]
  constructor
  · rintro rfl; exact ⟨0, rfl, h, rfl⟩
  · rintro ⟨j, rfl, _, rfl⟩; rfl
/-- One place more, or none. -/
def putIf (c : Bool) (out : List Int) (n : Int) : List Int := if c then putL out n else out
theorem putIf_srt {c : Bool} {out : List Int} {n : Int} (h : Srt out) : Srt (putIf c out n) := by unfold putIf; split; exact putL_srt h; exact h
theorem mem_putIf {c : Bool} {out : List Int} {n x : Int} : x ∈ putIf c out n ↔ (c = true ∧ x = n) ∨ x ∈ out := by
  unfold putIf
  cases c
  · simp
  · simp [mem_putL]
theorem leadAt_next {xs : List Instr} {m : Nat} {out : List Int} {x : Instr} (h : LeadAt xs m out) (hx : xs[m]? = some x) (ha : jumpB x.1 = true → 0 ≤ x.2) :
    LeadAt xs (m + 1) (putIf ((jumpB x.1 || x.1 == 11) && decide ((m : Int) + 1 < xs.length)) (putIf (jumpB x.1 && decide (x.2 < xs.length)) out x.2) ((m : Int) + 1)) := by
  refine ⟨putIf_srt (putIf_srt h.1), fun y => ?_⟩
  rw [mem_putIf, mem_putIf, h.2 y]
  simp only [isLead_succ hx, leadI, Bool.and_eq_true, Bool.or_eq_true, decide_eq_true_eq, beq_iff_eq]
  constructor
  · rintro (⟨⟨h1, h2⟩, rfl⟩ | ⟨⟨h1, h2⟩, rfl⟩ | ⟨j, rfl, h1, h2⟩)
    · exact ⟨m + 1, by omega, by omega, .inr (.inr ⟨h1, rfl⟩)⟩
    · obtain ⟨j, hj⟩ := Int.eq_ofNat_of_zero_le (ha h1)
      exact ⟨j, hj, by omega, .inr (.inl ⟨h1, hj⟩)⟩
    · exact ⟨j, rfl, h1, .inl h2⟩
  · rintro ⟨j, rfl, h1, h2 | ⟨h2, h3⟩ | ⟨h2, h3⟩⟩
    · exact .inr (.inr ⟨j, rfl, h1, h2⟩)
    · exact .inr (.inl ⟨⟨h2, by omega⟩, h3.symm⟩)
    · exact .inl ⟨⟨h2, by omega⟩, by omega⟩
theorem leadAt_end {xs : List Instr} {out : List Int} {m : Nat} (h : LeadAt xs m out) (hm : m = xs.length) : out = leadL xs := by
  subst hm
  refine srt_ext h.1 ?_ fun x => (h.2 x).trans ?_
  · unfold Srt leadL leadK
    rw [List.pairwise_map]
    exact (List.Pairwise.filter _ List.pairwise_lt_range).imp fun h => by omega
  · unfold leadL leadK
    simp only [List.mem_map, List.mem_filter, List.mem_range]
    constructor
    · rintro ⟨j, rfl, h1, h2⟩; exact ⟨j, ⟨h1, h2⟩, rfl⟩
    · rintro ⟨j, ⟨h1, h2⟩, rfl⟩; exact ⟨j, rfl, h1, h2⟩
theorem leadAt_len {xs : List Instr} {out : List Int} {m : Nat} (h : LeadAt xs m out) : out.length ≤ xs.length := by
  have := srt_len (a := 0) (b := xs.length) h.1 fun x hx => by
    obtain ⟨k, rfl, hk, _⟩ := (h.2 x).1 hx; omega
  omega
/-- The program's table of places. -/
def leadT (xs : List Instr) (m n : Nat) : List Bool := (List.range n).map fun j => isLead xs m j
theorem leadT_len (xs : List Instr) (m n : Nat) : (leadT xs m n).length = n := by simp [leadT]
theorem leadT_at {xs : List Instr} {m n j : Nat} (h : j < n) : (leadT xs m n)[j]? = some (isLead xs m j) := by simp [leadT, h]
theorem leadT_start {xs : List Instr} {n : Nat} (h : 0 < n) : (List.replicate n false).set 0 true = leadT xs 0 n := by
  apply List.ext_getElem?
  intro j
  by_cases hj : j < n
  · rw [leadT_at hj, List.getElem?_set]
    split
    · rename_i h0; subst h0; simp [isLead, h]
    · rw [List.getElem?_replicate, if_pos hj]; simp [isLead]; omega
  · rw [List.getElem?_eq_none (by simp; omega), List.getElem?_eq_none (by rw [leadT_len]; omega)]
theorem leadT_set {xs : List Instr} {m n : Nat} {x : Instr} (hx : xs[m]? = some x) {ys : List Bool} (hl : ys.length = n) (hy : ∀ j, j < n → ys[j]? = some (isLead xs m j || leadI m x j)) : ys = leadT xs (m + 1) n := by
  apply List.ext_getElem?
  intro j
  by_cases hj : j < n
  · rw [leadT_at hj, hy j hj, isLead_succ hx]
  · rw [List.getElem?_eq_none (by omega), List.getElem?_eq_none (by rw [leadT_len]; omega)]
theorem leadT_idx (xs : List Instr) {n : Nat} (hn : xs.length ≤ n) : idxL ((leadT xs xs.length n).take xs.length) = leadL xs := by
  have hlen : ((leadT xs xs.length n).take xs.length).length = xs.length := by rw [List.length_take, leadT_len]; omega
  unfold idxL idxK leadL leadK
  rw [hlen]
  congr 1
  apply List.filter_congr
  intro j hj
  rw [List.mem_range] at hj
  rw [List.getD_eq_getElem?_getD, List.getElem?_take, if_pos hj, leadT_at (by omega)]; rfl
end Go.Proofs.Ytmpanchappoejaa
