/- Contracts: bodies, their ends, programs: the program's side. -/
import Derived.Test.YtedmhdinfedhhaaL03t
import Derived.Test.YtedmhdinfedhhaaTreeD
import Derived.Test.YtedmhdinfedhhaaL08p
import Derived.Test.YtedmhdinfedhhaaHProg
namespace Go.Proofs.Ytedmhdinfedhhaa
open Go.RowKit

def bodyF (ps : List Stmt) : Bool := decide (ps.length ≤ 30) && treeB (stN ps) ps.length
def endAt (ps : List Stmt) (k : Nat) : Nat := endE (stN ps) ps.length k
def endOfF (ps : List Stmt) (k : Int) : Int × Bool := if bodyF ps && inB k 0 ((ps.length : Int) - 1) then ((endAt ps k.toNat : Nat), true) else (0, false)
def progF (p : Pg) : Bool := (bodyF p.2.1 && areOverF p.1 6) && areOverF p.2.2 6
theorem body_beh {ps : List Stmt} (h : ps.length ≤ 30) : bodyF ps = ((behR (stN ps) ps.length 0).2.2 && (((behR (stN ps) ps.length 0).1 : Int) == (ps.length : Int))) := by
  unfold bodyF treeB behR
  rw [decide_eq_true h, Bool.true_and]
  cases walkT (stN ps) ps.length 1 0 with
  | none => rfl
  | some e => simp only [Option.some.injEq, Bool.true_and]; rw [Bool.eq_iff_iff]; simp <;> omega
theorem body_walk {ps : List Stmt} (h : bodyF ps = true) : ps.length ≤ 30 ∧ walkT (stN ps) ps.length 1 0 = some ps.length := by
  unfold bodyF treeB at h
  simp only [Bool.and_eq_true, decide_eq_true_eq] at h
  exact h
def RetPB (b : Bool) (w : World) (e : Ending) (w' : World) : Prop := ∃ q : Option Addr, e = .returned (.tuple #[.pointer q, .bool b]) ∧ Below w.heap.size w w'
theorem c_treeOf {S : Nat → Prop} {a : Option Addr} {p : Nat} {ps : List Stmt} {w : World} (h : SlRd cStmt S w a p ps) :
    Calls Try.prog 162 #[.slice a ps.length p] w (RetPB (bodyF ps) w) := by
  have hl := h.len_le
  by_cases h60 : ps.length ≤ 30
  · have HC := hid (c_treeAt h60 ps.length 0 w (by omega) h)
    have e1 : decide ((30 : Int) < (ps.length : Int)) = false := decide_eq_false (by omega)
    have e1n : decide (30 < ps.length) = false := decide_eq_false (by omega)
    have HF := hid (body_beh h60)
    obtain ⟨⟨e, d, ok⟩, hr⟩ : ∃ r, behR (stN ps) ps.length 0 = r := ⟨_, rfl⟩
    have HR := hid hr
    have HF2 : Hid (bodyF ps = (ok && ((e : Int) == (ps.length : Int)))) := by unfold Hid; rw [HF.out, hr]
    clear h hr HF
    cases ok
    all_goals
      go_enter Try.func162, Try.ntmps162
      go_wp2_with (go_at_call 181; refine HC.out.mono ?_; rw [HR.out]; rintro e w1 ⟨q, rfl, hb1⟩; have HB1 := hid hb1; clear hb1)
      go_ret2
      exact ⟨q, by rw [HF2.out]; rfl, HB1.out⟩
  · have e1 : decide ((30 : Int) < (ps.length : Int)) = true := decide_eq_true (by omega)
    have e1n : decide (30 < ps.length) = true := decide_eq_true (by omega)
    have HF : Hid (bodyF ps = false) := by unfold Hid bodyF; simp [h60]
    clear h
    go_enter Try.func162, Try.ntmps162
    go_wp2
    go_ret2
    exact ⟨none, by rw [HF.out]; rfl, Below.refl _ _⟩
theorem c_IsBody {S : Nat → Prop} {a : Option Addr} {p : Nat} {ps : List Stmt} {w : World} (h : SlRd cStmt S w a p ps) :
    Calls Try.prog 142 #[.slice a ps.length p] w fun e w' => e = .returned (.bool (bodyF ps)) ∧ Below w.heap.size w w' := by
  have H := hid h
  clear h
  go_enter Try.func142, Try.ntmps142
  go_wp2_with (go_at_call 162; refine (c_treeOf H.out).mono ?_; rintro e w1 ⟨q, rfl, hb1⟩; have HB1 := hid hb1; clear hb1)
  go_ret
  exact ⟨rfl, HB1.out⟩
set_option maxRecDepth 100000 in
theorem c_ValidProgram {S : Nat → Prop} {a0 : Option Addr} {p0 : Nat} {d0 : List Term} {a1 : Option Addr} {p1 : Nat} {d1 : List Stmt} {a2 : Option Addr} {p2 : Nat} {d2 : List Term} {w : World} (h0 : SlRd cTerm S w a0 p0 d0) (h1 : SlRd cStmt S w a1 p1 d1) (h2 : SlRd cTerm S w a2 p2 d2) :
    Calls Try.prog 104 #[.agg #[.slice a0 d0.length p0, .slice a1 d1.length p1, .slice a2 d2.length p2]] w fun e w' => e = .returned (.bool (progF (d0, d1, d2))) ∧ Below w.heap.size w w' := by
  have H0 := hid (h0.alloc (.cells #[.slice a0 d0.length p0, .slice a1 d1.length p1, .slice a2 d2.length p2] 75))
  have H1 := hid (h1.alloc (.cells #[.slice a0 d0.length p0, .slice a1 d1.length p1, .slice a2 d2.length p2] 75))
  have H2 := hid (h2.alloc (.cells #[.slice a0 d0.length p0, .slice a1 d1.length p1, .slice a2 d2.length p2] 75))
  have HB : Hid (Below w.heap.size w (w.alloc (.cells #[.slice a0 d0.length p0, .slice a1 d1.length p1, .slice a2 d2.length p2] 75))) := (Below.refl _ _).alloc (Nat.le_refl _) _
  have t0 : (w.alloc (.cells #[.slice a0 d0.length p0, .slice a1 d1.length p1, .slice a2 d2.length p2] 75)).cell? ⟨w.heap.size, 0, none⟩ = some (.slice a0 d0.length p0) := by rw [World.cell?_alloc_at _ _ _ _ rfl]; rfl
  have t1 : (w.alloc (.cells #[.slice a0 d0.length p0, .slice a1 d1.length p1, .slice a2 d2.length p2] 75)).cell? ⟨w.heap.size, 1, none⟩ = some (.slice a1 d1.length p1) := by rw [World.cell?_alloc_at _ _ _ _ rfl]; rfl
  have t2 : (w.alloc (.cells #[.slice a0 d0.length p0, .slice a1 d1.length p1, .slice a2 d2.length p2] 75)).cell? ⟨w.heap.size, 2, none⟩ = some (.slice a2 d2.length p2) := by rw [World.cell?_alloc_at _ _ _ _ rfl]; rfl
  have z0 : w.heap.size < (w.alloc (.cells #[.slice a0 d0.length p0, .slice a1 d1.length p1, .slice a2 d2.length p2] 75)).heap.size := by simp
  clear h0 h1 h2
  obtain ⟨r, hr⟩ : ∃ r, bodyF d1 = r := ⟨_, rfl⟩
  obtain ⟨q, hq⟩ : ∃ q, areOverF d0 6 = q := ⟨_, rfl⟩
  obtain ⟨u, hu⟩ : ∃ u, areOverF d2 6 = u := ⟨_, rfl⟩
  have HF : Hid (progF (d0, d1, d2) = ((r && q) && u)) := by unfold Hid progF; rw [hr, hq, hu]
  have HR := hid hr
  have HQ := hid hq
  have HU := hid hu
  clear hr hq hu
  cases r
  all_goals
    go_enter Try.func104, Try.ntmps104
    go_wp2_with fail
    generalize w.alloc (.cells #[.slice a0 d0.length p0, .slice a1 d1.length p1, .slice a2 d2.length p2] 75) = W0 at *
    refine (c_IsBody H1.out).mono ?_
    rintro e w1 ⟨rfl, hb1⟩
    rw [HR.out]
    have s0 := cell_below hb1 z0 t0
    have s2 := cell_below hb1 z0 t2
    have z1 := Nat.lt_of_lt_of_le z0 hb1.size
    have HB1 := hid (bel_next HB.out HB.out.size hb1)
    have H01 := hid (H0.out.below (Nat.le_refl _) hb1)
    have H21 := hid (H2.out.below (Nat.le_refl _) hb1)
    clear hb1
  · go_wp2
    go_ret
    exact ⟨ret_bool (by rw [HF.out]; rfl), HB1.out⟩
  · cases q
    all_goals
      go_wp2_with fail
      refine (c_areOver _ _ _ _ _ H01.out).mono ?_
      rintro e w2 ⟨rfl, hb2⟩
      rw [HQ.out]
      have s02 := cell_below hb2 z1 s2
      have HB2 := hid (bel_next HB1.out HB1.out.size hb2)
      have H22 := hid (H21.out.below (Nat.le_refl _) hb2)
      clear hb2
    · go_wp2
      go_ret
      exact ⟨ret_bool (by rw [HF.out]; rfl), HB2.out⟩
    · go_wp2_with fail
      refine (c_areOver _ _ _ _ _ H22.out).mono ?_
      rintro e w3 ⟨rfl, hb3⟩
      rw [HU.out]
      have HB3 := hid (bel_next HB2.out HB2.out.size hb3)
      clear hb3
      go_wp2
      go_ret
      exact ⟨ret_bool (by rw [HF.out]; rfl), HB3.out⟩
end Go.Proofs.Ytedmhdinfedhhaa
