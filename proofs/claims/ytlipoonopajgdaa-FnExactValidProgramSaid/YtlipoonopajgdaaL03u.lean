/- Contracts: bodies, their ends, programs: the program's side. -/
import Derived.Test.YtlipoonopajgdaaL03t
import Derived.Test.YtlipoonopajgdaaTreeD
import Derived.Test.YtlipoonopajgdaaL08p
import Derived.Test.YtlipoonopajgdaaHProg
namespace Go.Proofs.Ytlipoonopajgdaa
open Go.RowKit

def bodyF (ps : List Stmt) : Bool := decide (ps.length ≤ 30) && treeB (stN ps) ps.length
def endAt (ps : List Stmt) (k : Nat) : Nat := endE (stN ps) ps.length k
def endOfF (ps : List Stmt) (k : Int) : Int × Bool := if bodyF ps && inB k 0 ((ps.length : Int) - 1) then ((endAt ps k.toNat : Nat), true) else (0, false)
def progF (p : Pg) : Bool := (bodyF p.2.1 && areOverF p.1 6) && areOverF p.2.2 6
theorem body_beh {ps : List Stmt} (h : ps.length ≤ 30) : bodyF ps = ((behR (stN ps) ps.length 0).2.2 && (((behR (stN ps) ps.length 0).1 : Int) == (ps.length : Int))) := by
  unfold bodyF treeB behR
  rw [decide_eq_true h, Bool.true_and]
  cases walkT (stN ps) ps.length 1 0 with
  | none => rfl
  | some e => simp only [Option.some.injEq, Bool.true_and]; rw [Bool.eq_iff_iff]; simp <;> omega
theorem body_walk {ps : List Stmt} (h : bodyF ps = true) : ps.length ≤ 30 ∧ walkT (stN ps) ps.length 1 0 = some ps.length := by
  unfold bodyF treeB at h
  simp only [Bool.and_eq_true, decide_eq_true_eq] at h
  exact h
def RetPB (b : Bool) (w : World) (e : Ending) (w' : World) : Prop := ∃ q : Option Addr, e = .returned (.tuple #[.pointer q, .bool b]) ∧ Below w.heap.size w w'
theorem c_treeOf {S : Nat → Prop} {a : Option Addr} {p : Nat} {ps : List Stmt} {w : World} (h : SlRd cStmt S w a p ps) :
    Calls Try.prog 100 #[.slice a ps.length p] w (RetPB (bodyF ps) w) := by
  have hl := h.len_le
  by_cases h60 : ps.length ≤ 30
  · have HC := hid (c_treeAt h60 ps.length 0 w (by omega) h)
    have e1 : decide ((30 : Int) < (ps.length : Int)) = false := decide_eq_false (by omega)
    have e1n : decide (30 < ps.length) = false := decide_eq_false (by omega)
    have HF := hid (body_beh h60)
    obtain ⟨⟨e, d, ok⟩, hr⟩ : ∃ r, behR (stN ps) ps.length 0 = r := ⟨_, rfl⟩
    have HR := hid hr
    have HF2 : Hid (bodyF ps = (ok && ((e : Int) == (ps.length : Int)))) := by unfold Hid; rw [HF.out, hr]
    clear h hr HF
    cases ok
    all_goals
      go_enter Try.func100, Try.ntmps100
      go_wp2_with (go_at_call 104; refine HC.out.mono ?_; rw [HR.out]; rintro e w1 ⟨q, rfl, hb1⟩; have HB1 := hid hb1; clear hb1)
      go_ret2
      exact ⟨q, by rw [HF2.out]; rfl, HB1.out⟩
  · have e1 : decide ((30 : Int) < (ps.length : Int)) = true := decide_eq_true (by omega)
    have e1n : decide (30 < ps.length) = true := decide_eq_true (by omega)
    have HF : Hid (bodyF ps = false) := by unfold Hid bodyF; simp [h60]
    clear h
    go_enter Try.func100, Try.ntmps100
    go_wp2
    go_ret2
    exact ⟨none, by rw [HF.out]; rfl, Below.refl _ _⟩
theorem c_IsBody {S : Nat → Prop} {a : Option Addr} {p : Nat} {ps : List Stmt} {w : World} (h : SlRd cStmt S w a p ps) :
    Calls Try.prog 40 #[.slice a ps.length p] w fun e w' => e = .returned (.bool (bodyF ps)) ∧ Below w.heap.size w w' := by
  have H := hid h
  clear h
  go_enter Try.func40, Try.ntmps40
  go_wp2_with (go_at_call 100; refine (c_treeOf H.out).mono ?_; rintro e w1 ⟨q, rfl, hb1⟩; have HB1 := hid hb1; clear hb1)
  go_ret
  exact ⟨rfl, HB1.out⟩
theorem c_EndOf {S : Nat → Prop} {a : Option Addr} {p : Nat} {ps : List Stmt} {k : Int} {w : World} (h : SlRd cStmt S w a p ps) :
    Calls Try.prog 43 #[.slice a ps.length p, .int .i64 k] w fun e w' => e = .returned (.tuple #[.int .i64 (endOfF ps k).1, .bool (endOfF ps k).2]) ∧ Below w.heap.size w w' := by
  have H := hid h
  clear h
  obtain ⟨r, hr⟩ : ∃ r, bodyF ps = r := ⟨_, rfl⟩
  obtain ⟨q, hq⟩ : ∃ q, inB k 0 ((ps.length : Int) - 1) = q := ⟨_, rfl⟩
  have HR := hid hr
  have HQ := hid hq
  have HF0 : Hid (endOfF ps k = if r && q then (((endAt ps k.toNat : Nat) : Int), true) else (0, false)) := by unfold Hid endOfF; rw [hr, hq]
  cases r
  · clear hr hq
    go_enter Try.func43, Try.ntmps43
    go_wp2_with (go_at_call 40; refine (c_IsBody H.out).mono ?_; rintro e w1 ⟨rfl, hb1⟩; rw [HR.out]; have HB1 := hid hb1; clear hb1)
    go_ret2
    exact ⟨by rw [HF0.out]; rfl, HB1.out⟩
  · obtain ⟨h30, hw⟩ := body_walk hr
    have hn6 : ps.length ≤ 1000000 := by omega
    cases q
    · clear hr hq hw
      go_enter Try.func43, Try.ntmps43
      go_wp2_with (first | (go_at_call 40; refine (c_IsBody H.out).mono ?_; rintro e w1 ⟨rfl, hb1⟩; rw [HR.out]; have HB1 := hid hb1; clear hb1) | (go_at_call 95; refine (c_isIndex _ _ _ hn6).mono ?_; rintro e w2 ⟨rfl, rfl⟩; rw [HQ.out]))
      go_ret2
      exact ⟨by rw [HF0.out]; rfl, HB1.out⟩
    · obtain ⟨h0, h1⟩ := inB_iff.1 hq
      obtain ⟨K, rfl⟩ := Int.eq_ofNat_of_zero_le h0
      obtain ⟨e0, he, _⟩ := walkT_in _ 1 0 _ (Nat.le_refl _) hw K (Nat.zero_le _) (by omega)
      have HG : Hid (behR (stN ps) ps.length K = (e0, deepT (stN ps) ps.length 1 K, true)) := behR_some he
      have HE : Hid (endAt ps K = e0) := endE_of he
      clear hr hq hw he h0 h1
      go_enter Try.func43, Try.ntmps43
      go_wp2_with (first | (go_at_call 40; refine (c_IsBody H.out).mono ?_; rintro e w1 ⟨rfl, hb1⟩; rw [HR.out]; have HB1 := hid hb1; have H1 := hid (H.out.below (Nat.le_refl _) hb1); clear hb1) | (go_at_call 95; refine (c_isIndex _ _ _ hn6).mono ?_; rintro e w2 ⟨rfl, rfl⟩; rw [HQ.out]) | (go_at_call 104; refine (c_treeAt h30 ps.length K _ (by omega) H1.out).mono ?_; rw [HG.out]; rintro e w2 ⟨q, rfl, hb2⟩; simp only; have HB2 := hid (bel_next HB1.out HB1.out.size hb2); clear hb2))
      go_ret2
      exact ⟨by rw [HF0.out, Int.toNat_natCast, HE.out]; rfl, HB2.out⟩
set_option maxRecDepth 100000 in
theorem c_ValidProgram {S : Nat → Prop} {a0 : Option Addr} {p0 : Nat} {d0 : List Term} {a1 : Option Addr} {p1 : Nat} {d1 : List Stmt} {a2 : Option Addr} {p2 : Nat} {d2 : List Term} {w : World} (h0 : SlRd cTerm S w a0 p0 d0) (h1 : SlRd cStmt S w a1 p1 d1) (h2 : SlRd cTerm S w a2 p2 d2) :
    Calls Try.prog 56 #[.agg #[.slice a0 d0.length p0, .slice a1 d1.length p1, .slice a2 d2.length p2]] w fun e w' => e = .returned (.bool (progF (d0, d1, d2))) ∧ Below w.heap.size w w' := by
  have H0 := hid (h0.alloc (.cells #[.slice a0 d0.length p0, .slice a1 d1.length p1, .slice a2 d2.length p2] 91))
  have H1 := hid (h1.alloc (.cells #[.slice a0 d0.length p0, .slice a1 d1.length p1, .slice a2 d2.length p2] 91))
  have H2 := hid (h2.alloc (.cells #[.slice a0 d0.length p0, .slice a1 d1.length p1, .slice a2 d2.length p2] 91))
  have HB : Hid (Below w.heap.size w (w.alloc (.cells #[.slice a0 d0.length p0, .slice a1 d1.length p1, .slice a2 d2.length p2] 91))) := (Below.refl _ _).alloc (Nat.le_refl _) _
  have t0 : (w.alloc (.cells #[.slice a0 d0.length p0, .slice a1 d1.length p1, .slice a2 d2.length p2] 91)).cell? ⟨w.heap.size, 0, none⟩ = some (.slice a0 d0.length p0) := by rw [World.cell?_alloc_at _ _ _ _ rfl]; rfl
  have t1 : (w.alloc (.cells #[.slice a0 d0.length p0, .slice a1 d1.length p1, .slice a2 d2.length p2] 91)).cell? ⟨w.heap.size, 1, none⟩ = some (.slice a1 d1.length p1) := by rw [World.cell?_alloc_at _ _ _ _ rfl]; rfl
  have t2 : (w.alloc (.cells #[.slice a0 d0.length p0, .slice a1 d1.length p1, .slice a2 d2.length p2] 91)).cell? ⟨w.heap.size, 2, none⟩ = some (.slice a2 d2.length p2) := by rw [World.cell?_alloc_at _ _ _ _ rfl]; rfl
  have z0 : w.heap.size < (w.alloc (.cells #[.slice a0 d0.length p0, .slice a1 d1.length p1, .slice a2 d2.length p2] 91)).heap.size := by simp
  clear h0 h1 h2
  obtain ⟨r, hr⟩ : ∃ r, bodyF d1 = r := ⟨_, rfl⟩
  obtain ⟨q, hq⟩ : ∃ q, areOverF d0 6 = q := ⟨_, rfl⟩
  obtain ⟨u, hu⟩ : ∃ u, areOverF d2 6 = u := ⟨_, rfl⟩
  have HF : Hid (progF (d0, d1, d2) = ((r && q) && u)) := by unfold Hid progF; rw [hr, hq, hu]
  have HR := hid hr
  have HQ := hid hq
  have HU := hid hu
  clear hr hq hu
  cases r
  all_goals
    go_enter Try.func56, Try.ntmps56
    go_wp2_with fail
    generalize w.alloc (.cells #[.slice a0 d0.length p0, .slice a1 d1.length p1, .slice a2 d2.length p2] 91) = W0 at *
    refine (c_IsBody H1.out).mono ?_
    rintro e w1 ⟨rfl, hb1⟩
    rw [HR.out]
    have s0 := cell_below hb1 z0 t0
    have s2 := cell_below hb1 z0 t2
    have z1 := Nat.lt_of_lt_of_le z0 hb1.size
    have HB1 := hid (bel_next HB.out HB.out.size hb1)
    have H01 := hid (H0.out.below (Nat.le_refl _) hb1)
    have H21 := hid (H2.out.below (Nat.le_refl _) hb1)
    clear hb1
  · go_wp2
    go_ret
    exact ⟨ret_bool (by rw [HF.out]; rfl), HB1.out⟩
  · cases q
    all_goals
      go_wp2_with fail
      refine (c_areOver _ _ _ _ _ H01.out).mono ?_
      rintro e w2 ⟨rfl, hb2⟩
      rw [HQ.out]
      have s02 := cell_below hb2 z1 s2
      have HB2 := hid (bel_next HB1.out HB1.out.size hb2)
      have H22 := hid (H21.out.below (Nat.le_refl _) hb2)
      clear hb2
    · go_wp2
      go_ret
      exact ⟨ret_bool (by rw [HF.out]; rfl), HB2.out⟩
    · go_wp2_with fail
      refine (c_areOver _ _ _ _ _ H22.out).mono ?_
      rintro e w3 ⟨rfl, hb3⟩
      rw [HU.out]
      have HB3 := hid (bel_next HB2.out HB2.out.size hb3)
      clear hb3
      go_wp2
      go_ret
      exact ⟨ret_bool (by rw [HF.out]; rfl), HB3.out⟩
end Go.Proofs.Ytlipoonopajgdaa
