/- Contracts: proofs as trees. -/
import Derived.Test.YtedmhdinfedhhaaHNode
import Derived.Test.YtedmhdinfedhhaaTree
import Derived.Test.YtedmhdinfedhhaaL03o
import Derived.Deep.RegionHeld3
namespace Go.Proofs.Ytedmhdinfedhhaa
open Go.RowKit

def zeroT (t : Term) : Bool := (t.1 == 0) && ((t.2.length : Int) == 0)
def arI : Option Nat → Int
  | some a => a
  | none => -1
def node1 (d : Nd) : Bool := (((d.2.1 == 0) && zeroT d.2.2.1) && decide ((d.2.2.2.length : Int) ≤ 20)) && allIn d.2.2.2 0 1000000
def node2 (d : Nd) : Bool := ((d.2.1 == 0) && ((d.2.2.2.length : Int) == 0)) && validTerm d.2.2.1
def node3 (d : Nd) : Bool := ((inB d.2.1 0 19) && zeroT d.2.2.1) && ((d.2.2.2.length : Int) == 0)
def nodeBe (d : Nd) : Nat := if d.1 = 1 then 0 else if d.1 = 2 then 2 else 1
def nodeOk (d : Nd) : Bool := if d.1 = 1 then node1 d else if d.1 = 2 then node2 d else if d.1 = 3 then node3 d else false
def nodeAr (d : Nd) : Option Nat := if nodeOk d then some (nodeBe d) else none
theorem c_isZero (c : Int) (a : Option Addr) (cap n : Nat) (w : World) :
    Calls Try.prog 190 #[.agg #[.int .i64 c, .slice a n cap]] w fun e w' => e = .returned (.bool ((c == 0) && ((n : Int) == 0))) ∧ Below w.heap.size w w' := by
  by_cases h : c = 0
  · have h' : (c == 0) = true := by simp [h]
    have HF : Hid (((c == 0) && ((n : Int) == 0)) = ((n : Int) == 0)) := by unfold Hid; rw [h']; rfl
    clear h
    go_enter Try.func190, Try.ntmps190
    go_wp2
    go_ret
    exact ⟨ret_bool HF.out.symm, (Below.refl _ _).alloc (Nat.le_refl _) _⟩
  · have h' : (c == 0) = false := by simp [h]
    have HF : Hid (((c == 0) && ((n : Int) == 0)) = false) := by unfold Hid; rw [h']; rfl
    clear h
    go_enter Try.func190, Try.ntmps190
    go_wp2
    go_ret
    exact ⟨ret_bool HF.out.symm, (Below.refl _ _).alloc (Nat.le_refl _) _⟩
def arN (ps : List Nd) (i : Nat) : Option Nat := match ps[i]? with
  | some d => nodeAr d
  | none => none
theorem arN_at {ps : List Nd} {k : Nat} {d : Nd} (h : ps[k]? = some d) : arN ps k = nodeAr d := by unfold arN; rw [h]
theorem nodeAr_le {d : Nd} {a : Nat} (h : nodeAr d = some a) : a ≤ 2 := by
  unfold nodeAr nodeBe at h
  split at h
  · cases h; split
    · omega
    · split <;> omega
  · cases h
def behV (r : Nat × Nat × Bool) : Value := .tuple #[.int .i64 r.1, .int .i64 r.2.1, .bool r.2.2]
def isProofF (ps : List Nd) : Bool := decide (ps.length ≤ 60) && treeB (arN ps) ps.length
theorem isProof_beh {ps : List Nd} (h : ps.length ≤ 60) : isProofF ps = ((behR (arN ps) ps.length 0).2.2 && (((behR (arN ps) ps.length 0).1 : Int) == (ps.length : Int))) := by
  unfold isProofF treeB behR
  rw [decide_eq_true h, Bool.true_and]
  cases walkT (arN ps) ps.length 1 0 with
  | none => rfl
  | some e => simp only [Option.some.injEq, Bool.true_and]; rw [Bool.eq_iff_iff]; simp <;> omega
end Go.Proofs.Ytedmhdinfedhhaa
