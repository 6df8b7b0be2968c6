/- Contracts: proofs as trees, the reference's side. -/
import Derived.Test.YtedmhdinfedhhaaL05
import Derived.Test.YtedmhdinfedhhaaL02s
namespace Go.Proofs.Ytedmhdinfedhhaa
open Go.RowKit

theorem c_l05Zero (b o : Nat) (c : Int) (a : Option Addr) (cap n : Nat) (w : World) (hc : w.cell? ⟨b, o, none⟩ = some (.int .i64 c)) (hc' : w.cell? ⟨b, o + 1, none⟩ = some (.slice a n cap)) :
    Calls Try.prog 179 #[.pointer (some ⟨b, o, none⟩)] w fun e w' => e = .returned (.bool ((c == 0) && ((n : Int) == 0))) ∧ w = w' := by
  by_cases h : c = 0
  · have h' : (c == 0) = true := by simp [h]
    have HF : Hid (((c == 0) && ((n : Int) == 0)) = ((n : Int) == 0)) := by unfold Hid; rw [h']; rfl
    clear h
    go_enter Try.func179, Try.ntmps179
    go_wp2
    go_ret
    exact ⟨ret_bool HF.out.symm, rfl⟩
  · have h' : (c == 0) = false := by simp [h]
    have HF : Hid (((c == 0) && ((n : Int) == 0)) = false) := by unfold Hid; rw [h']; rfl
    clear h
    go_enter Try.func179, Try.ntmps179
    go_wp2
    go_ret
    exact ⟨ret_bool HF.out.symm, rfl⟩
def beN (ps : List Nd) (i : Nat) : Nat := match ps[i]? with
  | some d => nodeBe d
  | none => 0
theorem beN_at {ps : List Nd} {k : Nat} {d : Nd} (h : ps[k]? = some d) : beN ps k = nodeBe d := by unfold beN; rw [h]
def endF (ps : List Nd) (k : Nat) : Option Nat := walkT (fun i => some (beN ps i)) ps.length 1 k
def endI : Option Nat → Int
  | some e => e
  | none => -1
theorem arN_be {ps : List Nd} (i a : Nat) (h : arN ps i = some a) : a = beN ps i := by
  unfold arN at h
  cases hd : ps[i]? with
  | none => rw [hd] at h; cases h
  | some d =>
    rw [hd] at h
    rw [beN_at hd]
    simp only [nodeAr] at h
    split at h
    · cases h; rfl
    · cases h
theorem all_arN (ps : List Nd) : (List.range ps.length).all (fun i => (arN ps i).isSome) = ps.all nodeOk := by
  have h1 : ∀ i (d : Nd), ps[i]? = some d → (arN ps i).isSome = nodeOk d := by
    intro i d h
    rw [arN_at h]; unfold nodeAr; split <;> simp_all
  rw [Bool.eq_iff_iff, List.all_eq_true, List.all_eq_true]
  constructor
  · intro h d hd
    obtain ⟨i, hi, hd⟩ := List.getElem_of_mem hd
    have := h i (List.mem_range.2 hi)
    rw [h1 i d (by rw [List.getElem?_eq_getElem hi, hd])] at this
    exact this
  · intro h i hi
    have hi := List.mem_range.1 hi
    rw [h1 i ps[i] (List.getElem?_eq_getElem hi)]
    exact h _ (List.getElem_mem hi)
theorem isProof_split (ps : List Nd) : isProofF ps = ((inB (ps.length : Int) 1 60 && ps.all nodeOk) && (endI (endF ps 0) == (ps.length : Int))) := by
  unfold isProofF
  rw [tree_split (arN ps) (beN ps) ps.length arN_be, all_arN]
  have h2 : treeB (fun i => some (beN ps i)) ps.length = (decide (1 ≤ ps.length) && (endI (endF ps 0) == (ps.length : Int))) := by
    rw [Bool.eq_iff_iff]
    constructor
    · intro h
      have h1 := treeB_pos h
      unfold treeB at h
      rw [decide_eq_true_eq] at h
      unfold endF
      rw [h]
      simp [endI]; exact h1
    · intro h
      simp only [Bool.and_eq_true, decide_eq_true_eq, beq_iff_eq] at h
      unfold treeB
      rw [decide_eq_true_eq]
      obtain ⟨h1, h2⟩ := h
      unfold endF endI at h2
      cases hw : walkT (fun i => some (beN ps i)) ps.length 1 0 with
      | none => rw [hw] at h2; exfalso; simp only at h2; omega
      | some e => rw [hw] at h2; simp only at h2; congr 1; omega
  rw [h2]
  have h3 : inB (ps.length : Int) 1 60 = (decide (1 ≤ ps.length) && decide (ps.length ≤ 60)) := by
    rw [Bool.eq_iff_iff, inB_iff]; simp; omega
  rw [h3]
  cases decide (ps.length ≤ 60) <;> cases decide (1 ≤ ps.length) <;> cases ps.all nodeOk <;> simp
end Go.Proofs.Ytedmhdinfedhhaa
