/- Contracts: statements as they should be, the program's side. -/
import Derived.Test.YtedmhdinfedhhaaHStmt
import Derived.Test.YtedmhdinfedhhaaTree
import Derived.Test.YtedmhdinfedhhaaL03o
import Derived.Test.YtedmhdinfedhhaaL05
import Derived.Test.YtedmhdinfedhhaaL07
import Derived.Deep.RegionHeld3
namespace Go.Proofs.Ytedmhdinfedhhaa
open Go.RowKit
theorem cell_lt {w : World} {b o : Nat} {v : Value} (h : w.cell? ⟨b, o, none⟩ = some v) : b < w.heap.size := World.block_lt_of_cell? w _ h

def stm0 (d : Stmt) : Bool := (((((d.2.1 == 0) && (d.2.2.1 == 0)) && zeroT d.2.2.2.1) && zeroT d.2.2.2.2.1) && ((d.2.2.2.2.2.length : Int) == 0))
def stm1 (d : Stmt) : Bool := (((((d.2.1 == 0) && (d.2.2.1 == 0)) && zeroT d.2.2.2.1) && zeroT d.2.2.2.2.1) && ((d.2.2.2.2.2.length : Int) == 0))
def stm2 (d : Stmt) : Bool := ((((inB d.2.1 0 3 && (d.2.2.1 == 0)) && overT d.2.2.2.1) && zeroT d.2.2.2.2.1) && ((d.2.2.2.2.2.length : Int) == 0))
def stm3 (d : Stmt) : Bool := ((((inB d.2.1 0 3 && (d.2.2.1 == 0)) && zeroT d.2.2.2.1) && overT d.2.2.2.2.1) && ((d.2.2.2.2.2.length : Int) == 0))
def stm4 (d : Stmt) : Bool := (((((d.2.1 == 0) && (d.2.2.1 == 0)) && overT d.2.2.2.1) && overT d.2.2.2.2.1) && ((d.2.2.2.2.2.length : Int) == 0))
def stm5 (d : Stmt) : Bool := (((((d.2.1 == 0) && inB d.2.2.1 0 3) && zeroT d.2.2.2.1) && zeroT d.2.2.2.2.1) && ((d.2.2.2.2.2.length : Int) == 0))
def stm6 (d : Stmt) : Bool := (((((d.2.1 == 0) && (d.2.2.1 == 0)) && overT d.2.2.2.1) && zeroT d.2.2.2.2.1) && ((d.2.2.2.2.2.length : Int) == 0))
def stm7 (d : Stmt) : Bool := (((((d.2.1 == 0) && (d.2.2.1 == 0)) && overT d.2.2.2.1) && zeroT d.2.2.2.2.1) && ((d.2.2.2.2.2.length : Int) == 0))
def stm8 (d : Stmt) : Bool := (((((d.2.1 == 0) && (d.2.2.1 == 0)) && overT d.2.2.2.1) && zeroT d.2.2.2.2.1) && areOverF d.2.2.2.2.2 6)
def stmtOk (d : Stmt) : Bool := if d.1 = 0 then stm0 d else if d.1 = 1 then stm1 d else if d.1 = 2 then stm2 d else if d.1 = 3 then stm3 d else if d.1 = 4 then stm4 d else if d.1 = 5 then stm5 d else if d.1 = 6 then stm6 d else if d.1 = 7 then stm7 d else if d.1 = 8 then stm8 d else false
def stmtBe (d : Stmt) : Nat := if d.1 = 1 then 2 else if d.1 = 7 then 2 else if d.1 = 8 then 1 else 0
def stmtAr (d : Stmt) : Option Nat := if stmtOk d then some (stmtBe d) else none
set_option maxHeartbeats 1000000 in
set_option maxRecDepth 100000 in
theorem c_kids0 {S : Nat → Prop} {d1 d2 d3 : Int} {a4 : Option Addr} {p4 : Nat} {d4 : List Int} {d5 : Int} {a6 : Option Addr} {p6 : Nat} {d6 : List Int} {a7 : Option Addr} {p7 : Nat} {d7 : List Term} {w : World} (h4 : SlRd cInt S w a4 p4 d4) (h6 : SlRd cInt S w a6 p6 d6) (h7 : SlRd cTerm S w a7 p7 d7) :
    Calls Try.prog 188 #[.agg #[.int .i64 (0 : Int), .int .i64 d1, .int .i64 d2, .int .i64 d3, .slice a4 d4.length p4, .int .i64 d5, .slice a6 d6.length p6, .slice a7 d7.length p7]] w fun e w' => e = .returned (.int .i64 (arI (stmtAr (0, d1, d2, (d3, d4), (d5, d6), d7)))) ∧ Below w.heap.size w w' := by
  have H4 := hid (h4.alloc (.cells #[.int .i64 (0 : Int), .int .i64 d1, .int .i64 d2, .int .i64 d3, .slice a4 d4.length p4, .int .i64 d5, .slice a6 d6.length p6, .slice a7 d7.length p7] 144))
  have H6 := hid (h6.alloc (.cells #[.int .i64 (0 : Int), .int .i64 d1, .int .i64 d2, .int .i64 d3, .slice a4 d4.length p4, .int .i64 d5, .slice a6 d6.length p6, .slice a7 d7.length p7] 144))
  have H7 := hid (h7.alloc (.cells #[.int .i64 (0 : Int), .int .i64 d1, .int .i64 d2, .int .i64 d3, .slice a4 d4.length p4, .int .i64 d5, .slice a6 d6.length p6, .slice a7 d7.length p7] 144))
  have HB : Hid (Below w.heap.size w (w.alloc (.cells #[.int .i64 (0 : Int), .int .i64 d1, .int .i64 d2, .int .i64 d3, .slice a4 d4.length p4, .int .i64 d5, .slice a6 d6.length p6, .slice a7 d7.length p7] 144))) := (Below.refl _ _).alloc (Nat.le_refl _) _
  have t0 : (w.alloc (.cells #[.int .i64 (0 : Int), .int .i64 d1, .int .i64 d2, .int .i64 d3, .slice a4 d4.length p4, .int .i64 d5, .slice a6 d6.length p6, .slice a7 d7.length p7] 144)).cell? ⟨w.heap.size, 0, none⟩ = some (.int .i64 (0 : Int)) := by rw [World.cell?_alloc_at _ _ _ _ rfl]; rfl
  have t1 : (w.alloc (.cells #[.int .i64 (0 : Int), .int .i64 d1, .int .i64 d2, .int .i64 d3, .slice a4 d4.length p4, .int .i64 d5, .slice a6 d6.length p6, .slice a7 d7.length p7] 144)).cell? ⟨w.heap.size, 1, none⟩ = some (.int .i64 d1) := by rw [World.cell?_alloc_at _ _ _ _ rfl]; rfl
  have t2 : (w.alloc (.cells #[.int .i64 (0 : Int), .int .i64 d1, .int .i64 d2, .int .i64 d3, .slice a4 d4.length p4, .int .i64 d5, .slice a6 d6.length p6, .slice a7 d7.length p7] 144)).cell? ⟨w.heap.size, 2, none⟩ = some (.int .i64 d2) := by rw [World.cell?_alloc_at _ _ _ _ rfl]; rfl
  have t3 : (w.alloc (.cells #[.int .i64 (0 : Int), .int .i64 d1, .int .i64 d2, .int .i64 d3, .slice a4 d4.length p4, .int .i64 d5, .slice a6 d6.length p6, .slice a7 d7.length p7] 144)).cell? ⟨w.heap.size, 3, none⟩ = some (.int .i64 d3) := by rw [World.cell?_alloc_at _ _ _ _ rfl]; rfl
  have t4 : (w.alloc (.cells #[.int .i64 (0 : Int), .int .i64 d1, .int .i64 d2, .int .i64 d3, .slice a4 d4.length p4, .int .i64 d5, .slice a6 d6.length p6, .slice a7 d7.length p7] 144)).cell? ⟨w.heap.size, 4, none⟩ = some (.slice a4 d4.length p4) := by rw [World.cell?_alloc_at _ _ _ _ rfl]; rfl
  have t5 : (w.alloc (.cells #[.int .i64 (0 : Int), .int .i64 d1, .int .i64 d2, .int .i64 d3, .slice a4 d4.length p4, .int .i64 d5, .slice a6 d6.length p6, .slice a7 d7.length p7] 144)).cell? ⟨w.heap.size, 5, none⟩ = some (.int .i64 d5) := by rw [World.cell?_alloc_at _ _ _ _ rfl]; rfl
  have t6 : (w.alloc (.cells #[.int .i64 (0 : Int), .int .i64 d1, .int .i64 d2, .int .i64 d3, .slice a4 d4.length p4, .int .i64 d5, .slice a6 d6.length p6, .slice a7 d7.length p7] 144)).cell? ⟨w.heap.size, 6, none⟩ = some (.slice a6 d6.length p6) := by rw [World.cell?_alloc_at _ _ _ _ rfl]; rfl
  have t7 : (w.alloc (.cells #[.int .i64 (0 : Int), .int .i64 d1, .int .i64 d2, .int .i64 d3, .slice a4 d4.length p4, .int .i64 d5, .slice a6 d6.length p6, .slice a7 d7.length p7] 144)).cell? ⟨w.heap.size, 7, none⟩ = some (.slice a7 d7.length p7) := by rw [World.cell?_alloc_at _ _ _ _ rfl]; rfl
  have z0 : w.heap.size < (w.alloc (.cells #[.int .i64 (0 : Int), .int .i64 d1, .int .i64 d2, .int .i64 d3, .slice a4 d4.length p4, .int .i64 d5, .slice a6 d6.length p6, .slice a7 d7.length p7] 144)).heap.size := by simp
  have hl7 := h7.len_le
  clear h4 h6 h7
  have HF0 : Hid (stmtAr (0, d1, d2, (d3, d4), (d5, d6), d7) = if (((((d1 == 0) && (d2 == 0)) && (d3 == 0 && ((d4.length : Int) == 0))) && (d5 == 0 && ((d6.length : Int) == 0))) && ((d7.length : Int) == 0)) then some 0 else none) := rfl
  go_enter Try.func188, Try.ntmps188
  go_wp2_with fail
  generalize (w.alloc (.cells #[.int .i64 (0 : Int), .int .i64 d1, .int .i64 d2, .int .i64 d3, .slice a4 d4.length p4, .int .i64 d5, .slice a6 d6.length p6, .slice a7 d7.length p7] 144)) = W0 at *
  go_region_held3 (fun w' => w'.cell? ⟨w.heap.size, 0, none⟩ = some (.int .i64 (0 : Int)) ∧ w'.cell? ⟨w.heap.size, 1, none⟩ = some (.int .i64 d1) ∧ w'.cell? ⟨w.heap.size, 2, none⟩ = some (.int .i64 d2) ∧ w'.cell? ⟨w.heap.size, 3, none⟩ = some (.int .i64 d3) ∧ w'.cell? ⟨w.heap.size, 4, none⟩ = some (.slice a4 d4.length p4) ∧ w'.cell? ⟨w.heap.size, 5, none⟩ = some (.int .i64 d5) ∧ w'.cell? ⟨w.heap.size, 6, none⟩ = some (.slice a6 d6.length p6) ∧ w'.cell? ⟨w.heap.size, 7, none⟩ = some (.slice a7 d7.length p7)) (first | exact ⟨t0, t1, t2, t3, t4, t5, t6, t7⟩ | exact kk1 | exact kk2) (first | (have hkk := kk1; clear hkk; go_at_call 190; refine (c_isZero _ _ _ _ _).mono ?_; rintro e w2 ⟨rfl, hb2⟩; have kk2 := And.intro (cell_below hb2 z1 (kk1.1)) (And.intro (cell_below hb2 z1 (kk1.2.1)) (And.intro (cell_below hb2 z1 (kk1.2.2.1)) (And.intro (cell_below hb2 z1 (kk1.2.2.2.1)) (And.intro (cell_below hb2 z1 (kk1.2.2.2.2.1)) (And.intro (cell_below hb2 z1 (kk1.2.2.2.2.2.1)) (And.intro (cell_below hb2 z1 (kk1.2.2.2.2.2.2.1)) (cell_below hb2 z1 (kk1.2.2.2.2.2.2.2)))))))); have H42 := hid (H41.out.below (Nat.le_refl _) hb2); have H62 := hid (H61.out.below (Nat.le_refl _) hb2); have H72 := hid (H71.out.below (Nat.le_refl _) hb2); have HB2 := hid (bel_next HB1.out HB1.out.size hb2); clear hb2) | (go_at_call 190; refine (c_isZero _ _ _ _ _).mono ?_; rintro e w1 ⟨rfl, hb1⟩; have kk1 := And.intro (cell_below hb1 z0 t0) (And.intro (cell_below hb1 z0 t1) (And.intro (cell_below hb1 z0 t2) (And.intro (cell_below hb1 z0 t3) (And.intro (cell_below hb1 z0 t4) (And.intro (cell_below hb1 z0 t5) (And.intro (cell_below hb1 z0 t6) (cell_below hb1 z0 t7))))))); have z1 := Nat.lt_of_lt_of_le z0 hb1.size; have H41 := hid (H4.out.drew.below (Nat.le_refl _) hb1); have H61 := hid (H6.out.drew.below (Nat.le_refl _) hb1); have H71 := hid (H7.out.drew.below (Nat.le_refl _) hb1); have HB1 := hid (bel_next HB.out.drew HB.out.drew.size hb1); clear hb1))
  generalize hqV : (d1 == 0) = V at HF0 ⊢
  generalize hqE : (d2 == 0) = E at HF0 ⊢
  generalize hqZ : (d3 == 0 && ((d4.length : Int) == 0)) = Z at HF0 ⊢
  generalize hqX : (d5 == 0 && ((d6.length : Int) == 0)) = X at HF0 ⊢
  generalize hqF : ((d7.length : Int) == 0) = F at HF0 ⊢
  clear hqV hqE hqZ hqX hqF
  clear t0 t1 t2 t3 t4 t5 t6 t7 z0 z1 H4 H6 H7 HB kk1 H41 H61 H71 HB1
  obtain ⟨k0, k1, k2, k3, k4, k5, k6, k7⟩ := kk2
  go_wp2_with (fail)
  all_goals
    go_ret
    first
      | exact ⟨ret_int (by rw [HF0.out]; simp [*, arI]), HB4.out⟩
      | exact ⟨ret_int (by rw [HF0.out]; simp [*, arI]), HB3.out⟩
      | exact ⟨ret_int (by rw [HF0.out]; simp [*, arI]), HB2.out⟩
set_option maxHeartbeats 1000000 in
set_option maxRecDepth 100000 in
theorem c_kids1 {S : Nat → Prop} {d1 d2 d3 : Int} {a4 : Option Addr} {p4 : Nat} {d4 : List Int} {d5 : Int} {a6 : Option Addr} {p6 : Nat} {d6 : List Int} {a7 : Option Addr} {p7 : Nat} {d7 : List Term} {w : World} (h4 : SlRd cInt S w a4 p4 d4) (h6 : SlRd cInt S w a6 p6 d6) (h7 : SlRd cTerm S w a7 p7 d7) :
    Calls Try.prog 188 #[.agg #[.int .i64 (1 : Int), .int .i64 d1, .int .i64 d2, .int .i64 d3, .slice a4 d4.length p4, .int .i64 d5, .slice a6 d6.length p6, .slice a7 d7.length p7]] w fun e w' => e = .returned (.int .i64 (arI (stmtAr (1, d1, d2, (d3, d4), (d5, d6), d7)))) ∧ Below w.heap.size w w' := by
  have H4 := hid (h4.alloc (.cells #[.int .i64 (1 : Int), .int .i64 d1, .int .i64 d2, .int .i64 d3, .slice a4 d4.length p4, .int .i64 d5, .slice a6 d6.length p6, .slice a7 d7.length p7] 144))
  have H6 := hid (h6.alloc (.cells #[.int .i64 (1 : Int), .int .i64 d1, .int .i64 d2, .int .i64 d3, .slice a4 d4.length p4, .int .i64 d5, .slice a6 d6.length p6, .slice a7 d7.length p7] 144))
  have H7 := hid (h7.alloc (.cells #[.int .i64 (1 : Int), .int .i64 d1, .int .i64 d2, .int .i64 d3, .slice a4 d4.length p4, .int .i64 d5, .slice a6 d6.length p6, .slice a7 d7.length p7] 144))
  have HB : Hid (Below w.heap.size w (w.alloc (.cells #[.int .i64 (1 : Int), .int .i64 d1, .int .i64 d2, .int .i64 d3, .slice a4 d4.length p4, .int .i64 d5, .slice a6 d6.length p6, .slice a7 d7.length p7] 144))) := (Below.refl _ _).alloc (Nat.le_refl _) _
  have t0 : (w.alloc (.cells #[.int .i64 (1 : Int), .int .i64 d1, .int .i64 d2, .int .i64 d3, .slice a4 d4.length p4, .int .i64 d5, .slice a6 d6.length p6, .slice a7 d7.length p7] 144)).cell? ⟨w.heap.size, 0, none⟩ = some (.int .i64 (1 : Int)) := by rw [World.cell?_alloc_at _ _ _ _ rfl]; rfl
  have t1 : (w.alloc (.cells #[.int .i64 (1 : Int), .int .i64 d1, .int .i64 d2, .int .i64 d3, .slice a4 d4.length p4, .int .i64 d5, .slice a6 d6.length p6, .slice a7 d7.length p7] 144)).cell? ⟨w.heap.size, 1, none⟩ = some (.int .i64 d1) := by rw [World.cell?_alloc_at _ _ _ _ rfl]; rfl
  have t2 : (w.alloc (.cells #[.int .i64 (1 : Int), .int .i64 d1, .int .i64 d2, .int .i64 d3, .slice a4 d4.length p4, .int .i64 d5, .slice a6 d6.length p6, .slice a7 d7.length p7] 144)).cell? ⟨w.heap.size, 2, none⟩ = some (.int .i64 d2) := by rw [World.cell?_alloc_at _ _ _ _ rfl]; rfl
  have t3 : (w.alloc (.cells #[.int .i64 (1 : Int), .int .i64 d1, .int .i64 d2, .int .i64 d3, .slice a4 d4.length p4, .int .i64 d5, .slice a6 d6.length p6, .slice a7 d7.length p7] 144)).cell? ⟨w.heap.size, 3, none⟩ = some (.int .i64 d3) := by rw [World.cell?_alloc_at _ _ _ _ rfl]; rfl
  have t4 : (w.alloc (.cells #[.int .i64 (1 : Int), .int .i64 d1, .int .i64 d2, .int .i64 d3, .slice a4 d4.length p4, .int .i64 d5, .slice a6 d6.length p6, .slice a7 d7.length p7] 144)).cell? ⟨w.heap.size, 4, none⟩ = some (.slice a4 d4.length p4) := by rw [World.cell?_alloc_at _ _ _ _ rfl]; rfl
  have t5 : (w.alloc (.cells #[.int .i64 (1 : Int), .int .i64 d1, .int .i64 d2, .int .i64 d3, .slice a4 d4.length p4, .int .i64 d5, .slice a6 d6.length p6, .slice a7 d7.length p7] 144)).cell? ⟨w.heap.size, 5, none⟩ = some (.int .i64 d5) := by rw [World.cell?_alloc_at _ _ _ _ rfl]; rfl
  have t6 : (w.alloc (.cells #[.int .i64 (1 : Int), .int .i64 d1, .int .i64 d2, .int .i64 d3, .slice a4 d4.length p4, .int .i64 d5, .slice a6 d6.length p6, .slice a7 d7.length p7] 144)).cell? ⟨w.heap.size, 6, none⟩ = some (.slice a6 d6.length p6) := by rw [World.cell?_alloc_at _ _ _ _ rfl]; rfl
  have t7 : (w.alloc (.cells #[.int .i64 (1 : Int), .int .i64 d1, .int .i64 d2, .int .i64 d3, .slice a4 d4.length p4, .int .i64 d5, .slice a6 d6.length p6, .slice a7 d7.length p7] 144)).cell? ⟨w.heap.size, 7, none⟩ = some (.slice a7 d7.length p7) := by rw [World.cell?_alloc_at _ _ _ _ rfl]; rfl
  have z0 : w.heap.size < (w.alloc (.cells #[.int .i64 (1 : Int), .int .i64 d1, .int .i64 d2, .int .i64 d3, .slice a4 d4.length p4, .int .i64 d5, .slice a6 d6.length p6, .slice a7 d7.length p7] 144)).heap.size := by simp
  have hl7 := h7.len_le
  clear h4 h6 h7
  have HF0 : Hid (stmtAr (1, d1, d2, (d3, d4), (d5, d6), d7) = if (((((d1 == 0) && (d2 == 0)) && (d3 == 0 && ((d4.length : Int) == 0))) && (d5 == 0 && ((d6.length : Int) == 0))) && ((d7.length : Int) == 0)) then some 2 else none) := rfl
  go_enter Try.func188, Try.ntmps188
  go_wp2_with fail
  generalize (w.alloc (.cells #[.int .i64 (1 : Int), .int .i64 d1, .int .i64 d2, .int .i64 d3, .slice a4 d4.length p4, .int .i64 d5, .slice a6 d6.length p6, .slice a7 d7.length p7] 144)) = W0 at *
  go_region_held3 (fun w' => w'.cell? ⟨w.heap.size, 0, none⟩ = some (.int .i64 (1 : Int)) ∧ w'.cell? ⟨w.heap.size, 1, none⟩ = some (.int .i64 d1) ∧ w'.cell? ⟨w.heap.size, 2, none⟩ = some (.int .i64 d2) ∧ w'.cell? ⟨w.heap.size, 3, none⟩ = some (.int .i64 d3) ∧ w'.cell? ⟨w.heap.size, 4, none⟩ = some (.slice a4 d4.length p4) ∧ w'.cell? ⟨w.heap.size, 5, none⟩ = some (.int .i64 d5) ∧ w'.cell? ⟨w.heap.size, 6, none⟩ = some (.slice a6 d6.length p6) ∧ w'.cell? ⟨w.heap.size, 7, none⟩ = some (.slice a7 d7.length p7)) (first | exact ⟨t0, t1, t2, t3, t4, t5, t6, t7⟩ | exact kk1 | exact kk2) (first | (have hkk := kk1; clear hkk; go_at_call 190; refine (c_isZero _ _ _ _ _).mono ?_; rintro e w2 ⟨rfl, hb2⟩; have kk2 := And.intro (cell_below hb2 z1 (kk1.1)) (And.intro (cell_below hb2 z1 (kk1.2.1)) (And.intro (cell_below hb2 z1 (kk1.2.2.1)) (And.intro (cell_below hb2 z1 (kk1.2.2.2.1)) (And.intro (cell_below hb2 z1 (kk1.2.2.2.2.1)) (And.intro (cell_below hb2 z1 (kk1.2.2.2.2.2.1)) (And.intro (cell_below hb2 z1 (kk1.2.2.2.2.2.2.1)) (cell_below hb2 z1 (kk1.2.2.2.2.2.2.2)))))))); have H42 := hid (H41.out.below (Nat.le_refl _) hb2); have H62 := hid (H61.out.below (Nat.le_refl _) hb2); have H72 := hid (H71.out.below (Nat.le_refl _) hb2); have HB2 := hid (bel_next HB1.out HB1.out.size hb2); clear hb2) | (go_at_call 190; refine (c_isZero _ _ _ _ _).mono ?_; rintro e w1 ⟨rfl, hb1⟩; have kk1 := And.intro (cell_below hb1 z0 t0) (And.intro (cell_below hb1 z0 t1) (And.intro (cell_below hb1 z0 t2) (And.intro (cell_below hb1 z0 t3) (And.intro (cell_below hb1 z0 t4) (And.intro (cell_below hb1 z0 t5) (And.intro (cell_below hb1 z0 t6) (cell_below hb1 z0 t7))))))); have z1 := Nat.lt_of_lt_of_le z0 hb1.size; have H41 := hid (H4.out.drew.below (Nat.le_refl _) hb1); have H61 := hid (H6.out.drew.below (Nat.le_refl _) hb1); have H71 := hid (H7.out.drew.below (Nat.le_refl _) hb1); have HB1 := hid (bel_next HB.out.drew HB.out.drew.size hb1); clear hb1))
  generalize hqV : (d1 == 0) = V at HF0 ⊢
  generalize hqE : (d2 == 0) = E at HF0 ⊢
  generalize hqZ : (d3 == 0 && ((d4.length : Int) == 0)) = Z at HF0 ⊢
  generalize hqX : (d5 == 0 && ((d6.length : Int) == 0)) = X at HF0 ⊢
  generalize hqF : ((d7.length : Int) == 0) = F at HF0 ⊢
  clear hqV hqE hqZ hqX hqF
  clear t0 t1 t2 t3 t4 t5 t6 t7 z0 z1 H4 H6 H7 HB kk1 H41 H61 H71 HB1
  obtain ⟨k0, k1, k2, k3, k4, k5, k6, k7⟩ := kk2
  go_wp2_with (fail)
  all_goals
    go_ret
    first
      | exact ⟨ret_int (by rw [HF0.out]; simp [*, arI]), HB4.out⟩
      | exact ⟨ret_int (by rw [HF0.out]; simp [*, arI]), HB3.out⟩
      | exact ⟨ret_int (by rw [HF0.out]; simp [*, arI]), HB2.out⟩
set_option maxHeartbeats 1000000 in
set_option maxRecDepth 100000 in
theorem c_kids2 {S : Nat → Prop} {d1 d2 d3 : Int} {a4 : Option Addr} {p4 : Nat} {d4 : List Int} {d5 : Int} {a6 : Option Addr} {p6 : Nat} {d6 : List Int} {a7 : Option Addr} {p7 : Nat} {d7 : List Term} {w : World} (h4 : SlRd cInt S w a4 p4 d4) (h6 : SlRd cInt S w a6 p6 d6) (h7 : SlRd cTerm S w a7 p7 d7) :
    Calls Try.prog 188 #[.agg #[.int .i64 (2 : Int), .int .i64 d1, .int .i64 d2, .int .i64 d3, .slice a4 d4.length p4, .int .i64 d5, .slice a6 d6.length p6, .slice a7 d7.length p7]] w fun e w' => e = .returned (.int .i64 (arI (stmtAr (2, d1, d2, (d3, d4), (d5, d6), d7)))) ∧ Below w.heap.size w w' := by
  have H4 := hid (h4.alloc (.cells #[.int .i64 (2 : Int), .int .i64 d1, .int .i64 d2, .int .i64 d3, .slice a4 d4.length p4, .int .i64 d5, .slice a6 d6.length p6, .slice a7 d7.length p7] 144))
  have H6 := hid (h6.alloc (.cells #[.int .i64 (2 : Int), .int .i64 d1, .int .i64 d2, .int .i64 d3, .slice a4 d4.length p4, .int .i64 d5, .slice a6 d6.length p6, .slice a7 d7.length p7] 144))
  have H7 := hid (h7.alloc (.cells #[.int .i64 (2 : Int), .int .i64 d1, .int .i64 d2, .int .i64 d3, .slice a4 d4.length p4, .int .i64 d5, .slice a6 d6.length p6, .slice a7 d7.length p7] 144))
  have HB : Hid (Below w.heap.size w (w.alloc (.cells #[.int .i64 (2 : Int), .int .i64 d1, .int .i64 d2, .int .i64 d3, .slice a4 d4.length p4, .int .i64 d5, .slice a6 d6.length p6, .slice a7 d7.length p7] 144))) := (Below.refl _ _).alloc (Nat.le_refl _) _
  have t0 : (w.alloc (.cells #[.int .i64 (2 : Int), .int .i64 d1, .int .i64 d2, .int .i64 d3, .slice a4 d4.length p4, .int .i64 d5, .slice a6 d6.length p6, .slice a7 d7.length p7] 144)).cell? ⟨w.heap.size, 0, none⟩ = some (.int .i64 (2 : Int)) := by rw [World.cell?_alloc_at _ _ _ _ rfl]; rfl
  have t1 : (w.alloc (.cells #[.int .i64 (2 : Int), .int .i64 d1, .int .i64 d2, .int .i64 d3, .slice a4 d4.length p4, .int .i64 d5, .slice a6 d6.length p6, .slice a7 d7.length p7] 144)).cell? ⟨w.heap.size, 1, none⟩ = some (.int .i64 d1) := by rw [World.cell?_alloc_at _ _ _ _ rfl]; rfl
  have t2 : (w.alloc (.cells #[.int .i64 (2 : Int), .int .i64 d1, .int .i64 d2, .int .i64 d3, .slice a4 d4.length p4, .int .i64 d5, .slice a6 d6.length p6, .slice a7 d7.length p7] 144)).cell? ⟨w.heap.size, 2, none⟩ = some (.int .i64 d2) := by rw [World.cell?_alloc_at _ _ _ _ rfl]; rfl
  have t3 : (w.alloc (.cells #[.int .i64 (2 : Int), .int .i64 d1, .int .i64 d2, .int .i64 d3, .slice a4 d4.length p4, .int .i64 d5, .slice a6 d6.length p6, .slice a7 d7.length p7] 144)).cell? ⟨w.heap.size, 3, none⟩ = some (.int .i64 d3) := by rw [World.cell?_alloc_at _ _ _ _ rfl]; rfl
  have t4 : (w.alloc (.cells #[.int .i64 (2 : Int), .int .i64 d1, .int .i64 d2, .int .i64 d3, .slice a4 d4.length p4, .int .i64 d5, .slice a6 d6.length p6, .slice a7 d7.length p7] 144)).cell? ⟨w.heap.size, 4, none⟩ = some (.slice a4 d4.length p4) := by rw [World.cell?_alloc_at _ _ _ _ rfl]; rfl
  have t5 : (w.alloc (.cells #[.int .i64 (2 : Int), .int .i64 d1, .int .i64 d2, .int .i64 d3, .slice a4 d4.length p4, .int .i64 d5, .slice a6 d6.length p6, .slice a7 d7.length p7] 144)).cell? ⟨w.heap.size, 5, none⟩ = some (.int .i64 d5) := by rw [World.cell?_alloc_at _ _ _ _ rfl]; rfl
  have t6 : (w.alloc (.cells #[.int .i64 (2 : Int), .int .i64 d1, .int .i64 d2, .int .i64 d3, .slice a4 d4.length p4, .int .i64 d5, .slice a6 d6.length p6, .slice a7 d7.length p7] 144)).cell? ⟨w.heap.size, 6, none⟩ = some (.slice a6 d6.length p6) := by rw [World.cell?_alloc_at _ _ _ _ rfl]; rfl
  have t7 : (w.alloc (.cells #[.int .i64 (2 : Int), .int .i64 d1, .int .i64 d2, .int .i64 d3, .slice a4 d4.length p4, .int .i64 d5, .slice a6 d6.length p6, .slice a7 d7.length p7] 144)).cell? ⟨w.heap.size, 7, none⟩ = some (.slice a7 d7.length p7) := by rw [World.cell?_alloc_at _ _ _ _ rfl]; rfl
  have z0 : w.heap.size < (w.alloc (.cells #[.int .i64 (2 : Int), .int .i64 d1, .int .i64 d2, .int .i64 d3, .slice a4 d4.length p4, .int .i64 d5, .slice a6 d6.length p6, .slice a7 d7.length p7] 144)).heap.size := by simp
  have hl7 := h7.len_le
  clear h4 h6 h7
  have HF0 : Hid (stmtAr (2, d1, d2, (d3, d4), (d5, d6), d7) = if ((((inB d1 0 3 && (d2 == 0)) && overT (d3, d4)) && (d5 == 0 && ((d6.length : Int) == 0))) && ((d7.length : Int) == 0)) then some 0 else none) := rfl
  go_enter Try.func188, Try.ntmps188
  go_wp2_with fail
  generalize (w.alloc (.cells #[.int .i64 (2 : Int), .int .i64 d1, .int .i64 d2, .int .i64 d3, .slice a4 d4.length p4, .int .i64 d5, .slice a6 d6.length p6, .slice a7 d7.length p7] 144)) = W0 at *
  go_region_held3 (fun w' => w'.cell? ⟨w.heap.size, 0, none⟩ = some (.int .i64 (2 : Int)) ∧ w'.cell? ⟨w.heap.size, 1, none⟩ = some (.int .i64 d1) ∧ w'.cell? ⟨w.heap.size, 2, none⟩ = some (.int .i64 d2) ∧ w'.cell? ⟨w.heap.size, 3, none⟩ = some (.int .i64 d3) ∧ w'.cell? ⟨w.heap.size, 4, none⟩ = some (.slice a4 d4.length p4) ∧ w'.cell? ⟨w.heap.size, 5, none⟩ = some (.int .i64 d5) ∧ w'.cell? ⟨w.heap.size, 6, none⟩ = some (.slice a6 d6.length p6) ∧ w'.cell? ⟨w.heap.size, 7, none⟩ = some (.slice a7 d7.length p7)) (first | exact ⟨t0, t1, t2, t3, t4, t5, t6, t7⟩ | exact kk1 | exact kk2) (first | (have hkk := kk1; clear hkk; go_at_call 190; refine (c_isZero _ _ _ _ _).mono ?_; rintro e w2 ⟨rfl, hb2⟩; have kk2 := And.intro (cell_below hb2 z1 (kk1.1)) (And.intro (cell_below hb2 z1 (kk1.2.1)) (And.intro (cell_below hb2 z1 (kk1.2.2.1)) (And.intro (cell_below hb2 z1 (kk1.2.2.2.1)) (And.intro (cell_below hb2 z1 (kk1.2.2.2.2.1)) (And.intro (cell_below hb2 z1 (kk1.2.2.2.2.2.1)) (And.intro (cell_below hb2 z1 (kk1.2.2.2.2.2.2.1)) (cell_below hb2 z1 (kk1.2.2.2.2.2.2.2)))))))); have H42 := hid (H41.out.below (Nat.le_refl _) hb2); have H62 := hid (H61.out.below (Nat.le_refl _) hb2); have H72 := hid (H71.out.below (Nat.le_refl _) hb2); have HB2 := hid (bel_next HB1.out HB1.out.size hb2); clear hb2) | (go_at_call 190; refine (c_isZero _ _ _ _ _).mono ?_; rintro e w1 ⟨rfl, hb1⟩; have kk1 := And.intro (cell_below hb1 z0 t0) (And.intro (cell_below hb1 z0 t1) (And.intro (cell_below hb1 z0 t2) (And.intro (cell_below hb1 z0 t3) (And.intro (cell_below hb1 z0 t4) (And.intro (cell_below hb1 z0 t5) (And.intro (cell_below hb1 z0 t6) (cell_below hb1 z0 t7))))))); have z1 := Nat.lt_of_lt_of_le z0 hb1.size; have H41 := hid (H4.out.drew.below (Nat.le_refl _) hb1); have H61 := hid (H6.out.drew.below (Nat.le_refl _) hb1); have H71 := hid (H7.out.drew.below (Nat.le_refl _) hb1); have HB1 := hid (bel_next HB.out.drew HB.out.drew.size hb1); clear hb1))
  generalize hqV : (d1 == 0) = V at HF0 ⊢
  generalize hqE : (d2 == 0) = E at HF0 ⊢
  generalize hqZ : (d3 == 0 && ((d4.length : Int) == 0)) = Z at HF0 ⊢
  generalize hqX : (d5 == 0 && ((d6.length : Int) == 0)) = X at HF0 ⊢
  generalize hqF : ((d7.length : Int) == 0) = F at HF0 ⊢
  clear hqV hqE hqZ hqX hqF
  clear t0 t1 t2 t3 t4 t5 t6 t7 z0 z1 H4 H6 H7 HB kk1 H41 H61 H71 HB1
  obtain ⟨k0, k1, k2, k3, k4, k5, k6, k7⟩ := kk2
  obtain ⟨v, hv⟩ : ∃ v, inB d1 0 3 = v := ⟨_, rfl⟩
  have Hv := hid hv
  rw [hv] at HF0
  clear hv
  obtain ⟨s, hs⟩ : ∃ s, overT (d3, d4) = s := ⟨_, rfl⟩
  have Hs := hid hs
  rw [hs] at HF0
  clear hs
  go_wp2_with (first | (go_at_call 175; refine (c_isVar _ _).mono ?_; rintro e' w' ⟨rfl, rfl⟩; rw [Hv.out]) | (go_at_call 152; refine (c_isOver _ _ _ _ _ H42.out).mono ?_; rintro e' w3 ⟨rfl, hb3⟩; rw [Hs.out]; have H63 := hid (H62.out.below (Nat.le_refl _) hb3); have H73 := hid (H72.out.below (Nat.le_refl _) hb3); have HB3 := hid (bel_next HB2.out HB2.out.size hb3); clear hb3))
  all_goals
    go_ret
    first
      | exact ⟨ret_int (by rw [HF0.out]; simp [*, arI]), HB4.out⟩
      | exact ⟨ret_int (by rw [HF0.out]; simp [*, arI]), HB3.out⟩
      | exact ⟨ret_int (by rw [HF0.out]; simp [*, arI]), HB2.out⟩
set_option maxHeartbeats 1000000 in
set_option maxRecDepth 100000 in
theorem c_kids3 {S : Nat → Prop} {d1 d2 d3 : Int} {a4 : Option Addr} {p4 : Nat} {d4 : List Int} {d5 : Int} {a6 : Option Addr} {p6 : Nat} {d6 : List Int} {a7 : Option Addr} {p7 : Nat} {d7 : List Term} {w : World} (h4 : SlRd cInt S w a4 p4 d4) (h6 : SlRd cInt S w a6 p6 d6) (h7 : SlRd cTerm S w a7 p7 d7) :
    Calls Try.prog 188 #[.agg #[.int .i64 (3 : Int), .int .i64 d1, .int .i64 d2, .int .i64 d3, .slice a4 d4.length p4, .int .i64 d5, .slice a6 d6.length p6, .slice a7 d7.length p7]] w fun e w' => e = .returned (.int .i64 (arI (stmtAr (3, d1, d2, (d3, d4), (d5, d6), d7)))) ∧ Below w.heap.size w w' := by
  have H4 := hid (h4.alloc (.cells #[.int .i64 (3 : Int), .int .i64 d1, .int .i64 d2, .int .i64 d3, .slice a4 d4.length p4, .int .i64 d5, .slice a6 d6.length p6, .slice a7 d7.length p7] 144))
  have H6 := hid (h6.alloc (.cells #[.int .i64 (3 : Int), .int .i64 d1, .int .i64 d2, .int .i64 d3, .slice a4 d4.length p4, .int .i64 d5, .slice a6 d6.length p6, .slice a7 d7.length p7] 144))
  have H7 := hid (h7.alloc (.cells #[.int .i64 (3 : Int), .int .i64 d1, .int .i64 d2, .int .i64 d3, .slice a4 d4.length p4, .int .i64 d5, .slice a6 d6.length p6, .slice a7 d7.length p7] 144))
  have HB : Hid (Below w.heap.size w (w.alloc (.cells #[.int .i64 (3 : Int), .int .i64 d1, .int .i64 d2, .int .i64 d3, .slice a4 d4.length p4, .int .i64 d5, .slice a6 d6.length p6, .slice a7 d7.length p7] 144))) := (Below.refl _ _).alloc (Nat.le_refl _) _
  have t0 : (w.alloc (.cells #[.int .i64 (3 : Int), .int .i64 d1, .int .i64 d2, .int .i64 d3, .slice a4 d4.length p4, .int .i64 d5, .slice a6 d6.length p6, .slice a7 d7.length p7] 144)).cell? ⟨w.heap.size, 0, none⟩ = some (.int .i64 (3 : Int)) := by rw [World.cell?_alloc_at _ _ _ _ rfl]; rfl
  have t1 : (w.alloc (.cells #[.int .i64 (3 : Int), .int .i64 d1, .int .i64 d2, .int .i64 d3, .slice a4 d4.length p4, .int .i64 d5, .slice a6 d6.length p6, .slice a7 d7.length p7] 144)).cell? ⟨w.heap.size, 1, none⟩ = some (.int .i64 d1) := by rw [World.cell?_alloc_at _ _ _ _ rfl]; rfl
  have t2 : (w.alloc (.cells #[.int .i64 (3 : Int), .int .i64 d1, .int .i64 d2, .int .i64 d3, .slice a4 d4.length p4, .int .i64 d5, .slice a6 d6.length p6, .slice a7 d7.length p7] 144)).cell? ⟨w.heap.size, 2, none⟩ = some (.int .i64 d2) := by rw [World.cell?_alloc_at _ _ _ _ rfl]; rfl
  have t3 : (w.alloc (.cells #[.int .i64 (3 : Int), .int .i64 d1, .int .i64 d2, .int .i64 d3, .slice a4 d4.length p4, .int .i64 d5, .slice a6 d6.length p6, .slice a7 d7.length p7] 144)).cell? ⟨w.heap.size, 3, none⟩ = some (.int .i64 d3) := by rw [World.cell?_alloc_at _ _ _ _ rfl]; rfl
  have t4 : (w.alloc (.cells #[.int .i64 (3 : Int), .int .i64 d1, .int .i64 d2, .int .i64 d3, .slice a4 d4.length p4, .int .i64 d5, .slice a6 d6.length p6, .slice a7 d7.length p7] 144)).cell? ⟨w.heap.size, 4, none⟩ = some (.slice a4 d4.length p4) := by rw [World.cell?_alloc_at _ _ _ _ rfl]; rfl
  have t5 : (w.alloc (.cells #[.int .i64 (3 : Int), .int .i64 d1, .int .i64 d2, .int .i64 d3, .slice a4 d4.length p4, .int .i64 d5, .slice a6 d6.length p6, .slice a7 d7.length p7] 144)).cell? ⟨w.heap.size, 5, none⟩ = some (.int .i64 d5) := by rw [World.cell?_alloc_at _ _ _ _ rfl]; rfl
  have t6 : (w.alloc (.cells #[.int .i64 (3 : Int), .int .i64 d1, .int .i64 d2, .int .i64 d3, .slice a4 d4.length p4, .int .i64 d5, .slice a6 d6.length p6, .slice a7 d7.length p7] 144)).cell? ⟨w.heap.size, 6, none⟩ = some (.slice a6 d6.length p6) := by rw [World.cell?_alloc_at _ _ _ _ rfl]; rfl
  have t7 : (w.alloc (.cells #[.int .i64 (3 : Int), .int .i64 d1, .int .i64 d2, .int .i64 d3, .slice a4 d4.length p4, .int .i64 d5, .slice a6 d6.length p6, .slice a7 d7.length p7] 144)).cell? ⟨w.heap.size, 7, none⟩ = some (.slice a7 d7.length p7) := by rw [World.cell?_alloc_at _ _ _ _ rfl]; rfl
  have z0 : w.heap.size < (w.alloc (.cells #[.int .i64 (3 : Int), .int .i64 d1, .int .i64 d2, .int .i64 d3, .slice a4 d4.length p4, .int .i64 d5, .slice a6 d6.length p6, .slice a7 d7.length p7] 144)).heap.size := by simp
  have hl7 := h7.len_le
  clear h4 h6 h7
  have HF0 : Hid (stmtAr (3, d1, d2, (d3, d4), (d5, d6), d7) = if ((((inB d1 0 3 && (d2 == 0)) && (d3 == 0 && ((d4.length : Int) == 0))) && overT (d5, d6)) && ((d7.length : Int) == 0)) then some 0 else none) := rfl
  go_enter Try.func188, Try.ntmps188
  go_wp2_with fail
  generalize (w.alloc (.cells #[.int .i64 (3 : Int), .int .i64 d1, .int .i64 d2, .int .i64 d3, .slice a4 d4.length p4, .int .i64 d5, .slice a6 d6.length p6, .slice a7 d7.length p7] 144)) = W0 at *
  go_region_held3 (fun w' => w'.cell? ⟨w.heap.size, 0, none⟩ = some (.int .i64 (3 : Int)) ∧ w'.cell? ⟨w.heap.size, 1, none⟩ = some (.int .i64 d1) ∧ w'.cell? ⟨w.heap.size, 2, none⟩ = some (.int .i64 d2) ∧ w'.cell? ⟨w.heap.size, 3, none⟩ = some (.int .i64 d3) ∧ w'.cell? ⟨w.heap.size, 4, none⟩ = some (.slice a4 d4.length p4) ∧ w'.cell? ⟨w.heap.size, 5, none⟩ = some (.int .i64 d5) ∧ w'.cell? ⟨w.heap.size, 6, none⟩ = some (.slice a6 d6.length p6) ∧ w'.cell? ⟨w.heap.size, 7, none⟩ = some (.slice a7 d7.length p7)) (first | exact ⟨t0, t1, t2, t3, t4, t5, t6, t7⟩ | exact kk1 | exact kk2) (first | (have hkk := kk1; clear hkk; go_at_call 190; refine (c_isZero _ _ _ _ _).mono ?_; rintro e w2 ⟨rfl, hb2⟩; have kk2 := And.intro (cell_below hb2 z1 (kk1.1)) (And.intro (cell_below hb2 z1 (kk1.2.1)) (And.intro (cell_below hb2 z1 (kk1.2.2.1)) (And.intro (cell_below hb2 z1 (kk1.2.2.2.1)) (And.intro (cell_below hb2 z1 (kk1.2.2.2.2.1)) (And.intro (cell_below hb2 z1 (kk1.2.2.2.2.2.1)) (And.intro (cell_below hb2 z1 (kk1.2.2.2.2.2.2.1)) (cell_below hb2 z1 (kk1.2.2.2.2.2.2.2)))))))); have H42 := hid (H41.out.below (Nat.le_refl _) hb2); have H62 := hid (H61.out.below (Nat.le_refl _) hb2); have H72 := hid (H71.out.below (Nat.le_refl _) hb2); have HB2 := hid (bel_next HB1.out HB1.out.size hb2); clear hb2) | (go_at_call 190; refine (c_isZero _ _ _ _ _).mono ?_; rintro e w1 ⟨rfl, hb1⟩; have kk1 := And.intro (cell_below hb1 z0 t0) (And.intro (cell_below hb1 z0 t1) (And.intro (cell_below hb1 z0 t2) (And.intro (cell_below hb1 z0 t3) (And.intro (cell_below hb1 z0 t4) (And.intro (cell_below hb1 z0 t5) (And.intro (cell_below hb1 z0 t6) (cell_below hb1 z0 t7))))))); have z1 := Nat.lt_of_lt_of_le z0 hb1.size; have H41 := hid (H4.out.drew.below (Nat.le_refl _) hb1); have H61 := hid (H6.out.drew.below (Nat.le_refl _) hb1); have H71 := hid (H7.out.drew.below (Nat.le_refl _) hb1); have HB1 := hid (bel_next HB.out.drew HB.out.drew.size hb1); clear hb1))
  generalize hqV : (d1 == 0) = V at HF0 ⊢
  generalize hqE : (d2 == 0) = E at HF0 ⊢
  generalize hqZ : (d3 == 0 && ((d4.length : Int) == 0)) = Z at HF0 ⊢
  generalize hqX : (d5 == 0 && ((d6.length : Int) == 0)) = X at HF0 ⊢
  generalize hqF : ((d7.length : Int) == 0) = F at HF0 ⊢
  clear hqV hqE hqZ hqX hqF
  clear t0 t1 t2 t3 t4 t5 t6 t7 z0 z1 H4 H6 H7 HB kk1 H41 H61 H71 HB1
  obtain ⟨k0, k1, k2, k3, k4, k5, k6, k7⟩ := kk2
  obtain ⟨v, hv⟩ : ∃ v, inB d1 0 3 = v := ⟨_, rfl⟩
  have Hv := hid hv
  rw [hv] at HF0
  clear hv
  obtain ⟨x, hx⟩ : ∃ x, overT (d5, d6) = x := ⟨_, rfl⟩
  have Hx := hid hx
  rw [hx] at HF0
  clear hx
  go_wp2_with (first | (go_at_call 175; refine (c_isVar _ _).mono ?_; rintro e' w' ⟨rfl, rfl⟩; rw [Hv.out]) | (go_at_call 152; refine (c_isOver _ _ _ _ _ H62.out).mono ?_; rintro e' w3 ⟨rfl, hb3⟩; rw [Hx.out]; have HB3 := hid (bel_next HB2.out HB2.out.size hb3); clear hb3))
  all_goals
    go_ret
    first
      | exact ⟨ret_int (by rw [HF0.out]; simp [*, arI]), HB4.out⟩
      | exact ⟨ret_int (by rw [HF0.out]; simp [*, arI]), HB3.out⟩
      | exact ⟨ret_int (by rw [HF0.out]; simp [*, arI]), HB2.out⟩
set_option maxHeartbeats 1000000 in
set_option maxRecDepth 100000 in
theorem c_kids4 {S : Nat → Prop} {d1 d2 d3 : Int} {a4 : Option Addr} {p4 : Nat} {d4 : List Int} {d5 : Int} {a6 : Option Addr} {p6 : Nat} {d6 : List Int} {a7 : Option Addr} {p7 : Nat} {d7 : List Term} {w : World} (h4 : SlRd cInt S w a4 p4 d4) (h6 : SlRd cInt S w a6 p6 d6) (h7 : SlRd cTerm S w a7 p7 d7) :
    Calls Try.prog 188 #[.agg #[.int .i64 (4 : Int), .int .i64 d1, .int .i64 d2, .int .i64 d3, .slice a4 d4.length p4, .int .i64 d5, .slice a6 d6.length p6, .slice a7 d7.length p7]] w fun e w' => e = .returned (.int .i64 (arI (stmtAr (4, d1, d2, (d3, d4), (d5, d6), d7)))) ∧ Below w.heap.size w w' := by
  have H4 := hid (h4.alloc (.cells #[.int .i64 (4 : Int), .int .i64 d1, .int .i64 d2, .int .i64 d3, .slice a4 d4.length p4, .int .i64 d5, .slice a6 d6.length p6, .slice a7 d7.length p7] 144))
  have H6 := hid (h6.alloc (.cells #[.int .i64 (4 : Int), .int .i64 d1, .int .i64 d2, .int .i64 d3, .slice a4 d4.length p4, .int .i64 d5, .slice a6 d6.length p6, .slice a7 d7.length p7] 144))
  have H7 := hid (h7.alloc (.cells #[.int .i64 (4 : Int), .int .i64 d1, .int .i64 d2, .int .i64 d3, .slice a4 d4.length p4, .int .i64 d5, .slice a6 d6.length p6, .slice a7 d7.length p7] 144))
  have HB : Hid (Below w.heap.size w (w.alloc (.cells #[.int .i64 (4 : Int), .int .i64 d1, .int .i64 d2, .int .i64 d3, .slice a4 d4.length p4, .int .i64 d5, .slice a6 d6.length p6, .slice a7 d7.length p7] 144))) := (Below.refl _ _).alloc (Nat.le_refl _) _
  have t0 : (w.alloc (.cells #[.int .i64 (4 : Int), .int .i64 d1, .int .i64 d2, .int .i64 d3, .slice a4 d4.length p4, .int .i64 d5, .slice a6 d6.length p6, .slice a7 d7.length p7] 144)).cell? ⟨w.heap.size, 0, none⟩ = some (.int .i64 (4 : Int)) := by rw [World.cell?_alloc_at _ _ _ _ rfl]; rfl
  have t1 : (w.alloc (.cells #[.int .i64 (4 : Int), .int .i64 d1, .int .i64 d2, .int .i64 d3, .slice a4 d4.length p4, .int .i64 d5, .slice a6 d6.length p6, .slice a7 d7.length p7] 144)).cell? ⟨w.heap.size, 1, none⟩ = some (.int .i64 d1) := by rw [World.cell?_alloc_at _ _ _ _ rfl]; rfl
  have t2 : (w.alloc (.cells #[.int .i64 (4 : Int), .int .i64 d1, .int .i64 d2, .int .i64 d3, .slice a4 d4.length p4, .int .i64 d5, .slice a6 d6.length p6, .slice a7 d7.length p7] 144)).cell? ⟨w.heap.size, 2, none⟩ = some (.int .i64 d2) := by rw [World.cell?_alloc_at _ _ _ _ rfl]; rfl
  have t3 : (w.alloc (.cells #[.int .i64 (4 : Int), .int .i64 d1, .int .i64 d2, .int .i64 d3, .slice a4 d4.length p4, .int .i64 d5, .slice a6 d6.length p6, .slice a7 d7.length p7] 144)).cell? ⟨w.heap.size, 3, none⟩ = some (.int .i64 d3) := by rw [World.cell?_alloc_at _ _ _ _ rfl]; rfl
  have t4 : (w.alloc (.cells #[.int .i64 (4 : Int), .int .i64 d1, .int .i64 d2, .int .i64 d3, .slice a4 d4.length p4, .int .i64 d5, .slice a6 d6.length p6, .slice a7 d7.length p7] 144)).cell? ⟨w.heap.size, 4, none⟩ = some (.slice a4 d4.length p4) := by rw [World.cell?_alloc_at _ _ _ _ rfl]; rfl
  have t5 : (w.alloc (.cells #[.int .i64 (4 : Int), .int .i64 d1, .int .i64 d2, .int .i64 d3, .slice a4 d4.length p4, .int .i64 d5, .slice a6 d6.length p6, .slice a7 d7.length p7] 144)).cell? ⟨w.heap.size, 5, none⟩ = some (.int .i64 d5) := by rw [World.cell?_alloc_at _ _ _ _ rfl]; rfl
  have t6 : (w.alloc (.cells #[.int .i64 (4 : Int), .int .i64 d1, .int .i64 d2, .int .i64 d3, .slice a4 d4.length p4, .int .i64 d5, .slice a6 d6.length p6, .slice a7 d7.length p7] 144)).cell? ⟨w.heap.size, 6, none⟩ = some (.slice a6 d6.length p6) := by rw [World.cell?_alloc_at _ _ _ _ rfl]; rfl
  have t7 : (w.alloc (.cells #[.int .i64 (4 : Int), .int .i64 d1, .int .i64 d2, .int .i64 d3, .slice a4 d4.length p4, .int .i64 d5, .slice a6 d6.length p6, .slice a7 d7.length p7] 144)).cell? ⟨w.heap.size, 7, none⟩ = some (.slice a7 d7.length p7) := by rw [World.cell?_alloc_at _ _ _ _ rfl]; rfl
  have z0 : w.heap.size < (w.alloc (.cells #[.int .i64 (4 : Int), .int .i64 d1, .int .i64 d2, .int .i64 d3, .slice a4 d4.length p4, .int .i64 d5, .slice a6 d6.length p6, .slice a7 d7.length p7] 144)).heap.size := by simp
  have hl7 := h7.len_le
  clear h4 h6 h7
  have HF0 : Hid (stmtAr (4, d1, d2, (d3, d4), (d5, d6), d7) = if (((((d1 == 0) && (d2 == 0)) && overT (d3, d4)) && overT (d5, d6)) && ((d7.length : Int) == 0)) then some 0 else none) := rfl
  go_enter Try.func188, Try.ntmps188
  go_wp2_with fail
  generalize (w.alloc (.cells #[.int .i64 (4 : Int), .int .i64 d1, .int .i64 d2, .int .i64 d3, .slice a4 d4.length p4, .int .i64 d5, .slice a6 d6.length p6, .slice a7 d7.length p7] 144)) = W0 at *
  go_region_held3 (fun w' => w'.cell? ⟨w.heap.size, 0, none⟩ = some (.int .i64 (4 : Int)) ∧ w'.cell? ⟨w.heap.size, 1, none⟩ = some (.int .i64 d1) ∧ w'.cell? ⟨w.heap.size, 2, none⟩ = some (.int .i64 d2) ∧ w'.cell? ⟨w.heap.size, 3, none⟩ = some (.int .i64 d3) ∧ w'.cell? ⟨w.heap.size, 4, none⟩ = some (.slice a4 d4.length p4) ∧ w'.cell? ⟨w.heap.size, 5, none⟩ = some (.int .i64 d5) ∧ w'.cell? ⟨w.heap.size, 6, none⟩ = some (.slice a6 d6.length p6) ∧ w'.cell? ⟨w.heap.size, 7, none⟩ = some (.slice a7 d7.length p7)) (first | exact ⟨t0, t1, t2, t3, t4, t5, t6, t7⟩ | exact kk1 | exact kk2) (first | (have hkk := kk1; clear hkk; go_at_call 190; refine (c_isZero _ _ _ _ _).mono ?_; rintro e w2 ⟨rfl, hb2⟩; have kk2 := And.intro (cell_below hb2 z1 (kk1.1)) (And.intro (cell_below hb2 z1 (kk1.2.1)) (And.intro (cell_below hb2 z1 (kk1.2.2.1)) (And.intro (cell_below hb2 z1 (kk1.2.2.2.1)) (And.intro (cell_below hb2 z1 (kk1.2.2.2.2.1)) (And.intro (cell_below hb2 z1 (kk1.2.2.2.2.2.1)) (And.intro (cell_below hb2 z1 (kk1.2.2.2.2.2.2.1)) (cell_below hb2 z1 (kk1.2.2.2.2.2.2.2)))))))); have H42 := hid (H41.out.below (Nat.le_refl _) hb2); have H62 := hid (H61.out.below (Nat.le_refl _) hb2); have H72 := hid (H71.out.below (Nat.le_refl _) hb2); have HB2 := hid (bel_next HB1.out HB1.out.size hb2); clear hb2) | (go_at_call 190; refine (c_isZero _ _ _ _ _).mono ?_; rintro e w1 ⟨rfl, hb1⟩; have kk1 := And.intro (cell_below hb1 z0 t0) (And.intro (cell_below hb1 z0 t1) (And.intro (cell_below hb1 z0 t2) (And.intro (cell_below hb1 z0 t3) (And.intro (cell_below hb1 z0 t4) (And.intro (cell_below hb1 z0 t5) (And.intro (cell_below hb1 z0 t6) (cell_below hb1 z0 t7))))))); have z1 := Nat.lt_of_lt_of_le z0 hb1.size; have H41 := hid (H4.out.drew.below (Nat.le_refl _) hb1); have H61 := hid (H6.out.drew.below (Nat.le_refl _) hb1); have H71 := hid (H7.out.drew.below (Nat.le_refl _) hb1); have HB1 := hid (bel_next HB.out.drew HB.out.drew.size hb1); clear hb1))
  generalize hqV : (d1 == 0) = V at HF0 ⊢
  generalize hqE : (d2 == 0) = E at HF0 ⊢
  generalize hqZ : (d3 == 0 && ((d4.length : Int) == 0)) = Z at HF0 ⊢
  generalize hqX : (d5 == 0 && ((d6.length : Int) == 0)) = X at HF0 ⊢
  generalize hqF : ((d7.length : Int) == 0) = F at HF0 ⊢
  clear hqV hqE hqZ hqX hqF
  clear t0 t1 t2 t3 t4 t5 t6 t7 z0 z1 H4 H6 H7 HB kk1 H41 H61 H71 HB1
  obtain ⟨k0, k1, k2, k3, k4, k5, k6, k7⟩ := kk2
  obtain ⟨s, hs⟩ : ∃ s, overT (d3, d4) = s := ⟨_, rfl⟩
  have Hs := hid hs
  rw [hs] at HF0
  clear hs
  obtain ⟨x, hx⟩ : ∃ x, overT (d5, d6) = x := ⟨_, rfl⟩
  have Hx := hid hx
  rw [hx] at HF0
  clear hx
  go_wp2_with (first | (have hkk := HB3; clear hkk; go_at_call 152; refine (c_isOver _ _ _ _ _ H63.out).mono ?_; rintro e' w4 ⟨rfl, hb4⟩; rw [Hx.out]; have HB4 := hid (bel_next HB3.out HB3.out.size hb4); clear hb4) | (go_at_call 152; refine (c_isOver _ _ _ _ _ H42.out).mono ?_; rintro e' w3 ⟨rfl, hb3⟩; rw [Hs.out]; have H63 := hid (H62.out.below (Nat.le_refl _) hb3); have H73 := hid (H72.out.below (Nat.le_refl _) hb3); have k53 := cell_below hb3 (cell_lt k5) k5; have k63 := cell_below hb3 (cell_lt k6) k6; have HB3 := hid (bel_next HB2.out HB2.out.size hb3); clear hb3))
  all_goals
    go_ret
    first
      | exact ⟨ret_int (by rw [HF0.out]; simp [*, arI]), HB4.out⟩
      | exact ⟨ret_int (by rw [HF0.out]; simp [*, arI]), HB3.out⟩
      | exact ⟨ret_int (by rw [HF0.out]; simp [*, arI]), HB2.out⟩
set_option maxHeartbeats 1000000 in
set_option maxRecDepth 100000 in
theorem c_kids5 {S : Nat → Prop} {d1 d2 d3 : Int} {a4 : Option Addr} {p4 : Nat} {d4 : List Int} {d5 : Int} {a6 : Option Addr} {p6 : Nat} {d6 : List Int} {a7 : Option Addr} {p7 : Nat} {d7 : List Term} {w : World} (h4 : SlRd cInt S w a4 p4 d4) (h6 : SlRd cInt S w a6 p6 d6) (h7 : SlRd cTerm S w a7 p7 d7) :
    Calls Try.prog 188 #[.agg #[.int .i64 (5 : Int), .int .i64 d1, .int .i64 d2, .int .i64 d3, .slice a4 d4.length p4, .int .i64 d5, .slice a6 d6.length p6, .slice a7 d7.length p7]] w fun e w' => e = .returned (.int .i64 (arI (stmtAr (5, d1, d2, (d3, d4), (d5, d6), d7)))) ∧ Below w.heap.size w w' := by
  have H4 := hid (h4.alloc (.cells #[.int .i64 (5 : Int), .int .i64 d1, .int .i64 d2, .int .i64 d3, .slice a4 d4.length p4, .int .i64 d5, .slice a6 d6.length p6, .slice a7 d7.length p7] 144))
  have H6 := hid (h6.alloc (.cells #[.int .i64 (5 : Int), .int .i64 d1, .int .i64 d2, .int .i64 d3, .slice a4 d4.length p4, .int .i64 d5, .slice a6 d6.length p6, .slice a7 d7.length p7] 144))
  have H7 := hid (h7.alloc (.cells #[.int .i64 (5 : Int), .int .i64 d1, .int .i64 d2, .int .i64 d3, .slice a4 d4.length p4, .int .i64 d5, .slice a6 d6.length p6, .slice a7 d7.length p7] 144))
  have HB : Hid (Below w.heap.size w (w.alloc (.cells #[.int .i64 (5 : Int), .int .i64 d1, .int .i64 d2, .int .i64 d3, .slice a4 d4.length p4, .int .i64 d5, .slice a6 d6.length p6, .slice a7 d7.length p7] 144))) := (Below.refl _ _).alloc (Nat.le_refl _) _
  have t0 : (w.alloc (.cells #[.int .i64 (5 : Int), .int .i64 d1, .int .i64 d2, .int .i64 d3, .slice a4 d4.length p4, .int .i64 d5, .slice a6 d6.length p6, .slice a7 d7.length p7] 144)).cell? ⟨w.heap.size, 0, none⟩ = some (.int .i64 (5 : Int)) := by rw [World.cell?_alloc_at _ _ _ _ rfl]; rfl
  have t1 : (w.alloc (.cells #[.int .i64 (5 : Int), .int .i64 d1, .int .i64 d2, .int .i64 d3, .slice a4 d4.length p4, .int .i64 d5, .slice a6 d6.length p6, .slice a7 d7.length p7] 144)).cell? ⟨w.heap.size, 1, none⟩ = some (.int .i64 d1) := by rw [World.cell?_alloc_at _ _ _ _ rfl]; rfl
  have t2 : (w.alloc (.cells #[.int .i64 (5 : Int), .int .i64 d1, .int .i64 d2, .int .i64 d3, .slice a4 d4.length p4, .int .i64 d5, .slice a6 d6.length p6, .slice a7 d7.length p7] 144)).cell? ⟨w.heap.size, 2, none⟩ = some (.int .i64 d2) := by rw [World.cell?_alloc_at _ _ _ _ rfl]; rfl
  have t3 : (w.alloc (.cells #[.int .i64 (5 : Int), .int .i64 d1, .int .i64 d2, .int .i64 d3, .slice a4 d4.length p4, .int .i64 d5, .slice a6 d6.length p6, .slice a7 d7.length p7] 144)).cell? ⟨w.heap.size, 3, none⟩ = some (.int .i64 d3) := by rw [World.cell?_alloc_at _ _ _ _ rfl]; rfl
  have t4 : (w.alloc (.cells #[.int .i64 (5 : Int), .int .i64 d1, .int .i64 d2, .int .i64 d3, .slice a4 d4.length p4, .int .i64 d5, .slice a6 d6.length p6, .slice a7 d7.length p7] 144)).cell? ⟨w.heap.size, 4, none⟩ = some (.slice a4 d4.length p4) := by rw [World.cell?_alloc_at _ _ _ _ rfl]; rfl
  have t5 : (w.alloc (.cells #[.int .i64 (5 : Int), .int .i64 d1, .int .i64 d2, .int .i64 d3, .slice a4 d4.length p4, .int .i64 d5, .slice a6 d6.length p6, .slice a7 d7.length p7] 144)).cell? ⟨w.heap.size, 5, none⟩ = some (.int .i64 d5) := by rw [World.cell?_alloc_at _ _ _ _ rfl]; rfl
  have t6 : (w.alloc (.cells #[.int .i64 (5 : Int), .int .i64 d1, .int .i64 d2, .int .i64 d3, .slice a4 d4.length p4, .int .i64 d5, .slice a6 d6.length p6, .slice a7 d7.length p7] 144)).cell? ⟨w.heap.size, 6, none⟩ = some (.slice a6 d6.length p6) := by rw [World.cell?_alloc_at _ _ _ _ rfl]; rfl
  have t7 : (w.alloc (.cells #[.int .i64 (5 : Int), .int .i64 d1, .int .i64 d2, .int .i64 d3, .slice a4 d4.length p4, .int .i64 d5, .slice a6 d6.length p6, .slice a7 d7.length p7] 144)).cell? ⟨w.heap.size, 7, none⟩ = some (.slice a7 d7.length p7) := by rw [World.cell?_alloc_at _ _ _ _ rfl]; rfl
  have z0 : w.heap.size < (w.alloc (.cells #[.int .i64 (5 : Int), .int .i64 d1, .int .i64 d2, .int .i64 d3, .slice a4 d4.length p4, .int .i64 d5, .slice a6 d6.length p6, .slice a7 d7.length p7] 144)).heap.size := by simp
  have hl7 := h7.len_le
  clear h4 h6 h7
  have HF0 : Hid (stmtAr (5, d1, d2, (d3, d4), (d5, d6), d7) = if (((((d1 == 0) && inB d2 0 3) && (d3 == 0 && ((d4.length : Int) == 0))) && (d5 == 0 && ((d6.length : Int) == 0))) && ((d7.length : Int) == 0)) then some 0 else none) := rfl
  go_enter Try.func188, Try.ntmps188
  go_wp2_with fail
  generalize (w.alloc (.cells #[.int .i64 (5 : Int), .int .i64 d1, .int .i64 d2, .int .i64 d3, .slice a4 d4.length p4, .int .i64 d5, .slice a6 d6.length p6, .slice a7 d7.length p7] 144)) = W0 at *
  go_region_held3 (fun w' => w'.cell? ⟨w.heap.size, 0, none⟩ = some (.int .i64 (5 : Int)) ∧ w'.cell? ⟨w.heap.size, 1, none⟩ = some (.int .i64 d1) ∧ w'.cell? ⟨w.heap.size, 2, none⟩ = some (.int .i64 d2) ∧ w'.cell? ⟨w.heap.size, 3, none⟩ = some (.int .i64 d3) ∧ w'.cell? ⟨w.heap.size, 4, none⟩ = some (.slice a4 d4.length p4) ∧ w'.cell? ⟨w.heap.size, 5, none⟩ = some (.int .i64 d5) ∧ w'.cell? ⟨w.heap.size, 6, none⟩ = some (.slice a6 d6.length p6) ∧ w'.cell? ⟨w.heap.size, 7, none⟩ = some (.slice a7 d7.length p7)) (first | exact ⟨t0, t1, t2, t3, t4, t5, t6, t7⟩ | exact kk1 | exact kk2) (first | (have hkk := kk1; clear hkk; go_at_call 190; refine (c_isZero _ _ _ _ _).mono ?_; rintro e w2 ⟨rfl, hb2⟩; have kk2 := And.intro (cell_below hb2 z1 (kk1.1)) (And.intro (cell_below hb2 z1 (kk1.2.1)) (And.intro (cell_below hb2 z1 (kk1.2.2.1)) (And.intro (cell_below hb2 z1 (kk1.2.2.2.1)) (And.intro (cell_below hb2 z1 (kk1.2.2.2.2.1)) (And.intro (cell_below hb2 z1 (kk1.2.2.2.2.2.1)) (And.intro (cell_below hb2 z1 (kk1.2.2.2.2.2.2.1)) (cell_below hb2 z1 (kk1.2.2.2.2.2.2.2)))))))); have H42 := hid (H41.out.below (Nat.le_refl _) hb2); have H62 := hid (H61.out.below (Nat.le_refl _) hb2); have H72 := hid (H71.out.below (Nat.le_refl _) hb2); have HB2 := hid (bel_next HB1.out HB1.out.size hb2); clear hb2) | (go_at_call 190; refine (c_isZero _ _ _ _ _).mono ?_; rintro e w1 ⟨rfl, hb1⟩; have kk1 := And.intro (cell_below hb1 z0 t0) (And.intro (cell_below hb1 z0 t1) (And.intro (cell_below hb1 z0 t2) (And.intro (cell_below hb1 z0 t3) (And.intro (cell_below hb1 z0 t4) (And.intro (cell_below hb1 z0 t5) (And.intro (cell_below hb1 z0 t6) (cell_below hb1 z0 t7))))))); have z1 := Nat.lt_of_lt_of_le z0 hb1.size; have H41 := hid (H4.out.drew.below (Nat.le_refl _) hb1); have H61 := hid (H6.out.drew.below (Nat.le_refl _) hb1); have H71 := hid (H7.out.drew.below (Nat.le_refl _) hb1); have HB1 := hid (bel_next HB.out.drew HB.out.drew.size hb1); clear hb1))
  generalize hqV : (d1 == 0) = V at HF0 ⊢
  generalize hqE : (d2 == 0) = E at HF0 ⊢
  generalize hqZ : (d3 == 0 && ((d4.length : Int) == 0)) = Z at HF0 ⊢
  generalize hqX : (d5 == 0 && ((d6.length : Int) == 0)) = X at HF0 ⊢
  generalize hqF : ((d7.length : Int) == 0) = F at HF0 ⊢
  clear hqV hqE hqZ hqX hqF
  clear t0 t1 t2 t3 t4 t5 t6 t7 z0 z1 H4 H6 H7 HB kk1 H41 H61 H71 HB1
  obtain ⟨k0, k1, k2, k3, k4, k5, k6, k7⟩ := kk2
  obtain ⟨e, he⟩ : ∃ e, inB d2 0 3 = e := ⟨_, rfl⟩
  have He := hid he
  rw [he] at HF0
  clear he
  go_wp2_with (first | (go_at_call 177; refine (c_isEvent _ _).mono ?_; rintro e' w' ⟨rfl, rfl⟩; rw [He.out]))
  all_goals
    go_ret
    first
      | exact ⟨ret_int (by rw [HF0.out]; simp [*, arI]), HB4.out⟩
      | exact ⟨ret_int (by rw [HF0.out]; simp [*, arI]), HB3.out⟩
      | exact ⟨ret_int (by rw [HF0.out]; simp [*, arI]), HB2.out⟩
set_option maxHeartbeats 1000000 in
set_option maxRecDepth 100000 in
theorem c_kids6 {S : Nat → Prop} {d1 d2 d3 : Int} {a4 : Option Addr} {p4 : Nat} {d4 : List Int} {d5 : Int} {a6 : Option Addr} {p6 : Nat} {d6 : List Int} {a7 : Option Addr} {p7 : Nat} {d7 : List Term} {w : World} (h4 : SlRd cInt S w a4 p4 d4) (h6 : SlRd cInt S w a6 p6 d6) (h7 : SlRd cTerm S w a7 p7 d7) :
    Calls Try.prog 188 #[.agg #[.int .i64 (6 : Int), .int .i64 d1, .int .i64 d2, .int .i64 d3, .slice a4 d4.length p4, .int .i64 d5, .slice a6 d6.length p6, .slice a7 d7.length p7]] w fun e w' => e = .returned (.int .i64 (arI (stmtAr (6, d1, d2, (d3, d4), (d5, d6), d7)))) ∧ Below w.heap.size w w' := by
  have H4 := hid (h4.alloc (.cells #[.int .i64 (6 : Int), .int .i64 d1, .int .i64 d2, .int .i64 d3, .slice a4 d4.length p4, .int .i64 d5, .slice a6 d6.length p6, .slice a7 d7.length p7] 144))
  have H6 := hid (h6.alloc (.cells #[.int .i64 (6 : Int), .int .i64 d1, .int .i64 d2, .int .i64 d3, .slice a4 d4.length p4, .int .i64 d5, .slice a6 d6.length p6, .slice a7 d7.length p7] 144))
  have H7 := hid (h7.alloc (.cells #[.int .i64 (6 : Int), .int .i64 d1, .int .i64 d2, .int .i64 d3, .slice a4 d4.length p4, .int .i64 d5, .slice a6 d6.length p6, .slice a7 d7.length p7] 144))
  have HB : Hid (Below w.heap.size w (w.alloc (.cells #[.int .i64 (6 : Int), .int .i64 d1, .int .i64 d2, .int .i64 d3, .slice a4 d4.length p4, .int .i64 d5, .slice a6 d6.length p6, .slice a7 d7.length p7] 144))) := (Below.refl _ _).alloc (Nat.le_refl _) _
  have t0 : (w.alloc (.cells #[.int .i64 (6 : Int), .int .i64 d1, .int .i64 d2, .int .i64 d3, .slice a4 d4.length p4, .int .i64 d5, .slice a6 d6.length p6, .slice a7 d7.length p7] 144)).cell? ⟨w.heap.size, 0, none⟩ = some (.int .i64 (6 : Int)) := by rw [World.cell?_alloc_at _ _ _ _ rfl]; rfl
  have t1 : (w.alloc (.cells #[.int .i64 (6 : Int), .int .i64 d1, .int .i64 d2, .int .i64 d3, .slice a4 d4.length p4, .int .i64 d5, .slice a6 d6.length p6, .slice a7 d7.length p7] 144)).cell? ⟨w.heap.size, 1, none⟩ = some (.int .i64 d1) := by rw [World.cell?_alloc_at _ _ _ _ rfl]; rfl
  have t2 : (w.alloc (.cells #[.int .i64 (6 : Int), .int .i64 d1, .int .i64 d2, .int .i64 d3, .slice a4 d4.length p4, .int .i64 d5, .slice a6 d6.length p6, .slice a7 d7.length p7] 144)).cell? ⟨w.heap.size, 2, none⟩ = some (.int .i64 d2) := by rw [World.cell?_alloc_at _ _ _ _ rfl]; rfl
  have t3 : (w.alloc (.cells #[.int .i64 (6 : Int), .int .i64 d1, .int .i64 d2, .int .i64 d3, .slice a4 d4.length p4, .int .i64 d5, .slice a6 d6.length p6, .slice a7 d7.length p7] 144)).cell? ⟨w.heap.size, 3, none⟩ = some (.int .i64 d3) := by rw [World.cell?_alloc_at _ _ _ _ rfl]; rfl
  have t4 : (w.alloc (.cells #[.int .i64 (6 : Int), .int .i64 d1, .int .i64 d2, .int .i64 d3, .slice a4 d4.length p4, .int .i64 d5, .slice a6 d6.length p6, .slice a7 d7.length p7] 144)).cell? ⟨w.heap.size, 4, none⟩ = some (.slice a4 d4.length p4) := by rw [World.cell?_alloc_at _ _ _ _ rfl]; rfl
  have t5 : (w.alloc (.cells #[.int .i64 (6 : Int), .int .i64 d1, .int .i64 d2, .int .i64 d3, .slice a4 d4.length p4, .int .i64 d5, .slice a6 d6.length p6, .slice a7 d7.length p7] 144)).cell? ⟨w.heap.size, 5, none⟩ = some (.int .i64 d5) := by rw [World.cell?_alloc_at _ _ _ _ rfl]; rfl
  have t6 : (w.alloc (.cells #[.int .i64 (6 : Int), .int .i64 d1, .int .i64 d2, .int .i64 d3, .slice a4 d4.length p4, .int .i64 d5, .slice a6 d6.length p6, .slice a7 d7.length p7] 144)).cell? ⟨w.heap.size, 6, none⟩ = some (.slice a6 d6.length p6) := by rw [World.cell?_alloc_at _ _ _ _ rfl]; rfl
  have t7 : (w.alloc (.cells #[.int .i64 (6 : Int), .int .i64 d1, .int .i64 d2, .int .i64 d3, .slice a4 d4.length p4, .int .i64 d5, .slice a6 d6.length p6, .slice a7 d7.length p7] 144)).cell? ⟨w.heap.size, 7, none⟩ = some (.slice a7 d7.length p7) := by rw [World.cell?_alloc_at _ _ _ _ rfl]; rfl
  have z0 : w.heap.size < (w.alloc (.cells #[.int .i64 (6 : Int), .int .i64 d1, .int .i64 d2, .int .i64 d3, .slice a4 d4.length p4, .int .i64 d5, .slice a6 d6.length p6, .slice a7 d7.length p7] 144)).heap.size := by simp
  have hl7 := h7.len_le
  clear h4 h6 h7
  have HF0 : Hid (stmtAr (6, d1, d2, (d3, d4), (d5, d6), d7) = if (((((d1 == 0) && (d2 == 0)) && overT (d3, d4)) && (d5 == 0 && ((d6.length : Int) == 0))) && ((d7.length : Int) == 0)) then some 0 else none) := rfl
  go_enter Try.func188, Try.ntmps188
  go_wp2_with fail
  generalize (w.alloc (.cells #[.int .i64 (6 : Int), .int .i64 d1, .int .i64 d2, .int .i64 d3, .slice a4 d4.length p4, .int .i64 d5, .slice a6 d6.length p6, .slice a7 d7.length p7] 144)) = W0 at *
  go_region_held3 (fun w' => w'.cell? ⟨w.heap.size, 0, none⟩ = some (.int .i64 (6 : Int)) ∧ w'.cell? ⟨w.heap.size, 1, none⟩ = some (.int .i64 d1) ∧ w'.cell? ⟨w.heap.size, 2, none⟩ = some (.int .i64 d2) ∧ w'.cell? ⟨w.heap.size, 3, none⟩ = some (.int .i64 d3) ∧ w'.cell? ⟨w.heap.size, 4, none⟩ = some (.slice a4 d4.length p4) ∧ w'.cell? ⟨w.heap.size, 5, none⟩ = some (.int .i64 d5) ∧ w'.cell? ⟨w.heap.size, 6, none⟩ = some (.slice a6 d6.length p6) ∧ w'.cell? ⟨w.heap.size, 7, none⟩ = some (.slice a7 d7.length p7)) (first | exact ⟨t0, t1, t2, t3, t4, t5, t6, t7⟩ | exact kk1 | exact kk2) (first | (have hkk := kk1; clear hkk; go_at_call 190; refine (c_isZero _ _ _ _ _).mono ?_; rintro e w2 ⟨rfl, hb2⟩; have kk2 := And.intro (cell_below hb2 z1 (kk1.1)) (And.intro (cell_below hb2 z1 (kk1.2.1)) (And.intro (cell_below hb2 z1 (kk1.2.2.1)) (And.intro (cell_below hb2 z1 (kk1.2.2.2.1)) (And.intro (cell_below hb2 z1 (kk1.2.2.2.2.1)) (And.intro (cell_below hb2 z1 (kk1.2.2.2.2.2.1)) (And.intro (cell_below hb2 z1 (kk1.2.2.2.2.2.2.1)) (cell_below hb2 z1 (kk1.2.2.2.2.2.2.2)))))))); have H42 := hid (H41.out.below (Nat.le_refl _) hb2); have H62 := hid (H61.out.below (Nat.le_refl _) hb2); have H72 := hid (H71.out.below (Nat.le_refl _) hb2); have HB2 := hid (bel_next HB1.out HB1.out.size hb2); clear hb2) | (go_at_call 190; refine (c_isZero _ _ _ _ _).mono ?_; rintro e w1 ⟨rfl, hb1⟩; have kk1 := And.intro (cell_below hb1 z0 t0) (And.intro (cell_below hb1 z0 t1) (And.intro (cell_below hb1 z0 t2) (And.intro (cell_below hb1 z0 t3) (And.intro (cell_below hb1 z0 t4) (And.intro (cell_below hb1 z0 t5) (And.intro (cell_below hb1 z0 t6) (cell_below hb1 z0 t7))))))); have z1 := Nat.lt_of_lt_of_le z0 hb1.size; have H41 := hid (H4.out.drew.below (Nat.le_refl _) hb1); have H61 := hid (H6.out.drew.below (Nat.le_refl _) hb1); have H71 := hid (H7.out.drew.below (Nat.le_refl _) hb1); have HB1 := hid (bel_next HB.out.drew HB.out.drew.size hb1); clear hb1))
  generalize hqV : (d1 == 0) = V at HF0 ⊢
  generalize hqE : (d2 == 0) = E at HF0 ⊢
  generalize hqZ : (d3 == 0 && ((d4.length : Int) == 0)) = Z at HF0 ⊢
  generalize hqX : (d5 == 0 && ((d6.length : Int) == 0)) = X at HF0 ⊢
  generalize hqF : ((d7.length : Int) == 0) = F at HF0 ⊢
  clear hqV hqE hqZ hqX hqF
  clear t0 t1 t2 t3 t4 t5 t6 t7 z0 z1 H4 H6 H7 HB kk1 H41 H61 H71 HB1
  obtain ⟨k0, k1, k2, k3, k4, k5, k6, k7⟩ := kk2
  obtain ⟨s, hs⟩ : ∃ s, overT (d3, d4) = s := ⟨_, rfl⟩
  have Hs := hid hs
  rw [hs] at HF0
  clear hs
  go_wp2_with (first | (go_at_call 152; refine (c_isOver _ _ _ _ _ H42.out).mono ?_; rintro e' w3 ⟨rfl, hb3⟩; rw [Hs.out]; have H63 := hid (H62.out.below (Nat.le_refl _) hb3); have H73 := hid (H72.out.below (Nat.le_refl _) hb3); have HB3 := hid (bel_next HB2.out HB2.out.size hb3); clear hb3))
  all_goals
    go_ret
    first
      | exact ⟨ret_int (by rw [HF0.out]; simp [*, arI]), HB4.out⟩
      | exact ⟨ret_int (by rw [HF0.out]; simp [*, arI]), HB3.out⟩
      | exact ⟨ret_int (by rw [HF0.out]; simp [*, arI]), HB2.out⟩
set_option maxHeartbeats 1000000 in
set_option maxRecDepth 100000 in
theorem c_kids7 {S : Nat → Prop} {d1 d2 d3 : Int} {a4 : Option Addr} {p4 : Nat} {d4 : List Int} {d5 : Int} {a6 : Option Addr} {p6 : Nat} {d6 : List Int} {a7 : Option Addr} {p7 : Nat} {d7 : List Term} {w : World} (h4 : SlRd cInt S w a4 p4 d4) (h6 : SlRd cInt S w a6 p6 d6) (h7 : SlRd cTerm S w a7 p7 d7) :
    Calls Try.prog 188 #[.agg #[.int .i64 (7 : Int), .int .i64 d1, .int .i64 d2, .int .i64 d3, .slice a4 d4.length p4, .int .i64 d5, .slice a6 d6.length p6, .slice a7 d7.length p7]] w fun e w' => e = .returned (.int .i64 (arI (stmtAr (7, d1, d2, (d3, d4), (d5, d6), d7)))) ∧ Below w.heap.size w w' := by
  have H4 := hid (h4.alloc (.cells #[.int .i64 (7 : Int), .int .i64 d1, .int .i64 d2, .int .i64 d3, .slice a4 d4.length p4, .int .i64 d5, .slice a6 d6.length p6, .slice a7 d7.length p7] 144))
  have H6 := hid (h6.alloc (.cells #[.int .i64 (7 : Int), .int .i64 d1, .int .i64 d2, .int .i64 d3, .slice a4 d4.length p4, .int .i64 d5, .slice a6 d6.length p6, .slice a7 d7.length p7] 144))
  have H7 := hid (h7.alloc (.cells #[.int .i64 (7 : Int), .int .i64 d1, .int .i64 d2, .int .i64 d3, .slice a4 d4.length p4, .int .i64 d5, .slice a6 d6.length p6, .slice a7 d7.length p7] 144))
  have HB : Hid (Below w.heap.size w (w.alloc (.cells #[.int .i64 (7 : Int), .int .i64 d1, .int .i64 d2, .int .i64 d3, .slice a4 d4.length p4, .int .i64 d5, .slice a6 d6.length p6, .slice a7 d7.length p7] 144))) := (Below.refl _ _).alloc (Nat.le_refl _) _
  have t0 : (w.alloc (.cells #[.int .i64 (7 : Int), .int .i64 d1, .int .i64 d2, .int .i64 d3, .slice a4 d4.length p4, .int .i64 d5, .slice a6 d6.length p6, .slice a7 d7.length p7] 144)).cell? ⟨w.heap.size, 0, none⟩ = some (.int .i64 (7 : Int)) := by rw [World.cell?_alloc_at _ _ _ _ rfl]; rfl
  have t1 : (w.alloc (.cells #[.int .i64 (7 : Int), .int .i64 d1, .int .i64 d2, .int .i64 d3, .slice a4 d4.length p4, .int .i64 d5, .slice a6 d6.length p6, .slice a7 d7.length p7] 144)).cell? ⟨w.heap.size, 1, none⟩ = some (.int .i64 d1) := by rw [World.cell?_alloc_at _ _ _ _ rfl]; rfl
  have t2 : (w.alloc (.cells #[.int .i64 (7 : Int), .int .i64 d1, .int .i64 d2, .int .i64 d3, .slice a4 d4.length p4, .int .i64 d5, .slice a6 d6.length p6, .slice a7 d7.length p7] 144)).cell? ⟨w.heap.size, 2, none⟩ = some (.int .i64 d2) := by rw [World.cell?_alloc_at _ _ _ _ rfl]; rfl
  have t3 : (w.alloc (.cells #[.int .i64 (7 : Int), .int .i64 d1, .int .i64 d2, .int .i64 d3, .slice a4 d4.length p4, .int .i64 d5, .slice a6 d6.length p6, .slice a7 d7.length p7] 144)).cell? ⟨w.heap.size, 3, none⟩ = some (.int .i64 d3) := by rw [World.cell?_alloc_at _ _ _ _ rfl]; rfl
  have t4 : (w.alloc (.cells #[.int .i64 (7 : Int), .int .i64 d1, .int .i64 d2, .int .i64 d3, .slice a4 d4.length p4, .int .i64 d5, .slice a6 d6.length p6, .slice a7 d7.length p7] 144)).cell? ⟨w.heap.size, 4, none⟩ = some (.slice a4 d4.length p4) := by rw [World.cell?_alloc_at _ _ _ _ rfl]; rfl
  have t5 : (w.alloc (.cells #[.int .i64 (7 : Int), .int .i64 d1, .int .i64 d2, .int .i64 d3, .slice a4 d4.length p4, .int .i64 d5, .slice a6 d6.length p6, .slice a7 d7.length p7] 144)).cell? ⟨w.heap.size, 5, none⟩ = some (.int .i64 d5) := by rw [World.cell?_alloc_at _ _ _ _ rfl]; rfl
  have t6 : (w.alloc (.cells #[.int .i64 (7 : Int), .int .i64 d1, .int .i64 d2, .int .i64 d3, .slice a4 d4.length p4, .int .i64 d5, .slice a6 d6.length p6, .slice a7 d7.length p7] 144)).cell? ⟨w.heap.size, 6, none⟩ = some (.slice a6 d6.length p6) := by rw [World.cell?_alloc_at _ _ _ _ rfl]; rfl
  have t7 : (w.alloc (.cells #[.int .i64 (7 : Int), .int .i64 d1, .int .i64 d2, .int .i64 d3, .slice a4 d4.length p4, .int .i64 d5, .slice a6 d6.length p6, .slice a7 d7.length p7] 144)).cell? ⟨w.heap.size, 7, none⟩ = some (.slice a7 d7.length p7) := by rw [World.cell?_alloc_at _ _ _ _ rfl]; rfl
  have z0 : w.heap.size < (w.alloc (.cells #[.int .i64 (7 : Int), .int .i64 d1, .int .i64 d2, .int .i64 d3, .slice a4 d4.length p4, .int .i64 d5, .slice a6 d6.length p6, .slice a7 d7.length p7] 144)).heap.size := by simp
  have hl7 := h7.len_le
  clear h4 h6 h7
  have HF0 : Hid (stmtAr (7, d1, d2, (d3, d4), (d5, d6), d7) = if (((((d1 == 0) && (d2 == 0)) && overT (d3, d4)) && (d5 == 0 && ((d6.length : Int) == 0))) && ((d7.length : Int) == 0)) then some 2 else none) := rfl
  go_enter Try.func188, Try.ntmps188
  go_wp2_with fail
  generalize (w.alloc (.cells #[.int .i64 (7 : Int), .int .i64 d1, .int .i64 d2, .int .i64 d3, .slice a4 d4.length p4, .int .i64 d5, .slice a6 d6.length p6, .slice a7 d7.length p7] 144)) = W0 at *
  go_region_held3 (fun w' => w'.cell? ⟨w.heap.size, 0, none⟩ = some (.int .i64 (7 : Int)) ∧ w'.cell? ⟨w.heap.size, 1, none⟩ = some (.int .i64 d1) ∧ w'.cell? ⟨w.heap.size, 2, none⟩ = some (.int .i64 d2) ∧ w'.cell? ⟨w.heap.size, 3, none⟩ = some (.int .i64 d3) ∧ w'.cell? ⟨w.heap.size, 4, none⟩ = some (.slice a4 d4.length p4) ∧ w'.cell? ⟨w.heap.size, 5, none⟩ = some (.int .i64 d5) ∧ w'.cell? ⟨w.heap.size, 6, none⟩ = some (.slice a6 d6.length p6) ∧ w'.cell? ⟨w.heap.size, 7, none⟩ = some (.slice a7 d7.length p7)) (first | exact ⟨t0, t1, t2, t3, t4, t5, t6, t7⟩ | exact kk1 | exact kk2) (first | (have hkk := kk1; clear hkk; go_at_call 190; refine (c_isZero _ _ _ _ _).mono ?_; rintro e w2 ⟨rfl, hb2⟩; have kk2 := And.intro (cell_below hb2 z1 (kk1.1)) (And.intro (cell_below hb2 z1 (kk1.2.1)) (And.intro (cell_below hb2 z1 (kk1.2.2.1)) (And.intro (cell_below hb2 z1 (kk1.2.2.2.1)) (And.intro (cell_below hb2 z1 (kk1.2.2.2.2.1)) (And.intro (cell_below hb2 z1 (kk1.2.2.2.2.2.1)) (And.intro (cell_below hb2 z1 (kk1.2.2.2.2.2.2.1)) (cell_below hb2 z1 (kk1.2.2.2.2.2.2.2)))))))); have H42 := hid (H41.out.below (Nat.le_refl _) hb2); have H62 := hid (H61.out.below (Nat.le_refl _) hb2); have H72 := hid (H71.out.below (Nat.le_refl _) hb2); have HB2 := hid (bel_next HB1.out HB1.out.size hb2); clear hb2) | (go_at_call 190; refine (c_isZero _ _ _ _ _).mono ?_; rintro e w1 ⟨rfl, hb1⟩; have kk1 := And.intro (cell_below hb1 z0 t0) (And.intro (cell_below hb1 z0 t1) (And.intro (cell_below hb1 z0 t2) (And.intro (cell_below hb1 z0 t3) (And.intro (cell_below hb1 z0 t4) (And.intro (cell_below hb1 z0 t5) (And.intro (cell_below hb1 z0 t6) (cell_below hb1 z0 t7))))))); have z1 := Nat.lt_of_lt_of_le z0 hb1.size; have H41 := hid (H4.out.drew.below (Nat.le_refl _) hb1); have H61 := hid (H6.out.drew.below (Nat.le_refl _) hb1); have H71 := hid (H7.out.drew.below (Nat.le_refl _) hb1); have HB1 := hid (bel_next HB.out.drew HB.out.drew.size hb1); clear hb1))
  generalize hqV : (d1 == 0) = V at HF0 ⊢
  generalize hqE : (d2 == 0) = E at HF0 ⊢
  generalize hqZ : (d3 == 0 && ((d4.length : Int) == 0)) = Z at HF0 ⊢
  generalize hqX : (d5 == 0 && ((d6.length : Int) == 0)) = X at HF0 ⊢
  generalize hqF : ((d7.length : Int) == 0) = F at HF0 ⊢
  clear hqV hqE hqZ hqX hqF
  clear t0 t1 t2 t3 t4 t5 t6 t7 z0 z1 H4 H6 H7 HB kk1 H41 H61 H71 HB1
  obtain ⟨k0, k1, k2, k3, k4, k5, k6, k7⟩ := kk2
  obtain ⟨s, hs⟩ : ∃ s, overT (d3, d4) = s := ⟨_, rfl⟩
  have Hs := hid hs
  rw [hs] at HF0
  clear hs
  go_wp2_with (first | (go_at_call 152; refine (c_isOver _ _ _ _ _ H42.out).mono ?_; rintro e' w3 ⟨rfl, hb3⟩; rw [Hs.out]; have H63 := hid (H62.out.below (Nat.le_refl _) hb3); have H73 := hid (H72.out.below (Nat.le_refl _) hb3); have HB3 := hid (bel_next HB2.out HB2.out.size hb3); clear hb3))
  all_goals
    go_ret
    first
      | exact ⟨ret_int (by rw [HF0.out]; simp [*, arI]), HB4.out⟩
      | exact ⟨ret_int (by rw [HF0.out]; simp [*, arI]), HB3.out⟩
      | exact ⟨ret_int (by rw [HF0.out]; simp [*, arI]), HB2.out⟩
set_option maxHeartbeats 1000000 in
set_option maxRecDepth 100000 in
theorem c_kids8 {S : Nat → Prop} {d1 d2 d3 : Int} {a4 : Option Addr} {p4 : Nat} {d4 : List Int} {d5 : Int} {a6 : Option Addr} {p6 : Nat} {d6 : List Int} {a7 : Option Addr} {p7 : Nat} {d7 : List Term} {w : World} (h4 : SlRd cInt S w a4 p4 d4) (h6 : SlRd cInt S w a6 p6 d6) (h7 : SlRd cTerm S w a7 p7 d7) :
    Calls Try.prog 188 #[.agg #[.int .i64 (8 : Int), .int .i64 d1, .int .i64 d2, .int .i64 d3, .slice a4 d4.length p4, .int .i64 d5, .slice a6 d6.length p6, .slice a7 d7.length p7]] w fun e w' => e = .returned (.int .i64 (arI (stmtAr (8, d1, d2, (d3, d4), (d5, d6), d7)))) ∧ Below w.heap.size w w' := by
  have H4 := hid (h4.alloc (.cells #[.int .i64 (8 : Int), .int .i64 d1, .int .i64 d2, .int .i64 d3, .slice a4 d4.length p4, .int .i64 d5, .slice a6 d6.length p6, .slice a7 d7.length p7] 144))
  have H6 := hid (h6.alloc (.cells #[.int .i64 (8 : Int), .int .i64 d1, .int .i64 d2, .int .i64 d3, .slice a4 d4.length p4, .int .i64 d5, .slice a6 d6.length p6, .slice a7 d7.length p7] 144))
  have H7 := hid (h7.alloc (.cells #[.int .i64 (8 : Int), .int .i64 d1, .int .i64 d2, .int .i64 d3, .slice a4 d4.length p4, .int .i64 d5, .slice a6 d6.length p6, .slice a7 d7.length p7] 144))
  have HB : Hid (Below w.heap.size w (w.alloc (.cells #[.int .i64 (8 : Int), .int .i64 d1, .int .i64 d2, .int .i64 d3, .slice a4 d4.length p4, .int .i64 d5, .slice a6 d6.length p6, .slice a7 d7.length p7] 144))) := (Below.refl _ _).alloc (Nat.le_refl _) _
  have t0 : (w.alloc (.cells #[.int .i64 (8 : Int), .int .i64 d1, .int .i64 d2, .int .i64 d3, .slice a4 d4.length p4, .int .i64 d5, .slice a6 d6.length p6, .slice a7 d7.length p7] 144)).cell? ⟨w.heap.size, 0, none⟩ = some (.int .i64 (8 : Int)) := by rw [World.cell?_alloc_at _ _ _ _ rfl]; rfl
  have t1 : (w.alloc (.cells #[.int .i64 (8 : Int), .int .i64 d1, .int .i64 d2, .int .i64 d3, .slice a4 d4.length p4, .int .i64 d5, .slice a6 d6.length p6, .slice a7 d7.length p7] 144)).cell? ⟨w.heap.size, 1, none⟩ = some (.int .i64 d1) := by rw [World.cell?_alloc_at _ _ _ _ rfl]; rfl
  have t2 : (w.alloc (.cells #[.int .i64 (8 : Int), .int .i64 d1, .int .i64 d2, .int .i64 d3, .slice a4 d4.length p4, .int .i64 d5, .slice a6 d6.length p6, .slice a7 d7.length p7] 144)).cell? ⟨w.heap.size, 2, none⟩ = some (.int .i64 d2) := by rw [World.cell?_alloc_at _ _ _ _ rfl]; rfl
  have t3 : (w.alloc (.cells #[.int .i64 (8 : Int), .int .i64 d1, .int .i64 d2, .int .i64 d3, .slice a4 d4.length p4, .int .i64 d5, .slice a6 d6.length p6, .slice a7 d7.length p7] 144)).cell? ⟨w.heap.size, 3, none⟩ = some (.int .i64 d3) := by rw [World.cell?_alloc_at _ _ _ _ rfl]; rfl
  have t4 : (w.alloc (.cells #[.int .i64 (8 : Int), .int .i64 d1, .int .i64 d2, .int .i64 d3, .slice a4 d4.length p4, .int .i64 d5, .slice a6 d6.length p6, .slice a7 d7.length p7] 144)).cell? ⟨w.heap.size, 4, none⟩ = some (.slice a4 d4.length p4) := by rw [World.cell?_alloc_at _ _ _ _ rfl]; rfl
  have t5 : (w.alloc (.cells #[.int .i64 (8 : Int), .int .i64 d1, .int .i64 d2, .int .i64 d3, .slice a4 d4.length p4, .int .i64 d5, .slice a6 d6.length p6, .slice a7 d7.length p7] 144)).cell? ⟨w.heap.size, 5, none⟩ = some (.int .i64 d5) := by rw [World.cell?_alloc_at _ _ _ _ rfl]; rfl
  have t6 : (w.alloc (.cells #[.int .i64 (8 : Int), .int .i64 d1, .int .i64 d2, .int .i64 d3, .slice a4 d4.length p4, .int .i64 d5, .slice a6 d6.length p6, .slice a7 d7.length p7] 144)).cell? ⟨w.heap.size, 6, none⟩ = some (.slice a6 d6.length p6) := by rw [World.cell?_alloc_at _ _ _ _ rfl]; rfl
  have t7 : (w.alloc (.cells #[.int .i64 (8 : Int), .int .i64 d1, .int .i64 d2, .int .i64 d3, .slice a4 d4.length p4, .int .i64 d5, .slice a6 d6.length p6, .slice a7 d7.length p7] 144)).cell? ⟨w.heap.size, 7, none⟩ = some (.slice a7 d7.length p7) := by rw [World.cell?_alloc_at _ _ _ _ rfl]; rfl
  have z0 : w.heap.size < (w.alloc (.cells #[.int .i64 (8 : Int), .int .i64 d1, .int .i64 d2, .int .i64 d3, .slice a4 d4.length p4, .int .i64 d5, .slice a6 d6.length p6, .slice a7 d7.length p7] 144)).heap.size := by simp
  have hl7 := h7.len_le
  clear h4 h6 h7
  have HF0 : Hid (stmtAr (8, d1, d2, (d3, d4), (d5, d6), d7) = if (((((d1 == 0) && (d2 == 0)) && overT (d3, d4)) && (d5 == 0 && ((d6.length : Int) == 0))) && areOverF d7 6) then some 1 else none) := rfl
  go_enter Try.func188, Try.ntmps188
  go_wp2_with fail
  generalize (w.alloc (.cells #[.int .i64 (8 : Int), .int .i64 d1, .int .i64 d2, .int .i64 d3, .slice a4 d4.length p4, .int .i64 d5, .slice a6 d6.length p6, .slice a7 d7.length p7] 144)) = W0 at *
  go_region_held3 (fun w' => w'.cell? ⟨w.heap.size, 0, none⟩ = some (.int .i64 (8 : Int)) ∧ w'.cell? ⟨w.heap.size, 1, none⟩ = some (.int .i64 d1) ∧ w'.cell? ⟨w.heap.size, 2, none⟩ = some (.int .i64 d2) ∧ w'.cell? ⟨w.heap.size, 3, none⟩ = some (.int .i64 d3) ∧ w'.cell? ⟨w.heap.size, 4, none⟩ = some (.slice a4 d4.length p4) ∧ w'.cell? ⟨w.heap.size, 5, none⟩ = some (.int .i64 d5) ∧ w'.cell? ⟨w.heap.size, 6, none⟩ = some (.slice a6 d6.length p6) ∧ w'.cell? ⟨w.heap.size, 7, none⟩ = some (.slice a7 d7.length p7)) (first | exact ⟨t0, t1, t2, t3, t4, t5, t6, t7⟩ | exact kk1 | exact kk2) (first | (have hkk := kk1; clear hkk; go_at_call 190; refine (c_isZero _ _ _ _ _).mono ?_; rintro e w2 ⟨rfl, hb2⟩; have kk2 := And.intro (cell_below hb2 z1 (kk1.1)) (And.intro (cell_below hb2 z1 (kk1.2.1)) (And.intro (cell_below hb2 z1 (kk1.2.2.1)) (And.intro (cell_below hb2 z1 (kk1.2.2.2.1)) (And.intro (cell_below hb2 z1 (kk1.2.2.2.2.1)) (And.intro (cell_below hb2 z1 (kk1.2.2.2.2.2.1)) (And.intro (cell_below hb2 z1 (kk1.2.2.2.2.2.2.1)) (cell_below hb2 z1 (kk1.2.2.2.2.2.2.2)))))))); have H42 := hid (H41.out.below (Nat.le_refl _) hb2); have H62 := hid (H61.out.below (Nat.le_refl _) hb2); have H72 := hid (H71.out.below (Nat.le_refl _) hb2); have HB2 := hid (bel_next HB1.out HB1.out.size hb2); clear hb2) | (go_at_call 190; refine (c_isZero _ _ _ _ _).mono ?_; rintro e w1 ⟨rfl, hb1⟩; have kk1 := And.intro (cell_below hb1 z0 t0) (And.intro (cell_below hb1 z0 t1) (And.intro (cell_below hb1 z0 t2) (And.intro (cell_below hb1 z0 t3) (And.intro (cell_below hb1 z0 t4) (And.intro (cell_below hb1 z0 t5) (And.intro (cell_below hb1 z0 t6) (cell_below hb1 z0 t7))))))); have z1 := Nat.lt_of_lt_of_le z0 hb1.size; have H41 := hid (H4.out.drew.below (Nat.le_refl _) hb1); have H61 := hid (H6.out.drew.below (Nat.le_refl _) hb1); have H71 := hid (H7.out.drew.below (Nat.le_refl _) hb1); have HB1 := hid (bel_next HB.out.drew HB.out.drew.size hb1); clear hb1))
  generalize hqV : (d1 == 0) = V at HF0 ⊢
  generalize hqE : (d2 == 0) = E at HF0 ⊢
  generalize hqZ : (d3 == 0 && ((d4.length : Int) == 0)) = Z at HF0 ⊢
  generalize hqX : (d5 == 0 && ((d6.length : Int) == 0)) = X at HF0 ⊢
  generalize hqF : ((d7.length : Int) == 0) = F at HF0 ⊢
  clear hqV hqE hqZ hqX hqF
  clear t0 t1 t2 t3 t4 t5 t6 t7 z0 z1 H4 H6 H7 HB kk1 H41 H61 H71 HB1
  obtain ⟨k0, k1, k2, k3, k4, k5, k6, k7⟩ := kk2
  obtain ⟨s, hs⟩ : ∃ s, overT (d3, d4) = s := ⟨_, rfl⟩
  have Hs := hid hs
  rw [hs] at HF0
  clear hs
  obtain ⟨f, hf⟩ : ∃ f, areOverF d7 6 = f := ⟨_, rfl⟩
  have Hf := hid hf
  rw [hf] at HF0
  clear hf
  go_wp2_with (first | (go_at_call 152; refine (c_isOver _ _ _ _ _ H42.out).mono ?_; rintro e' w3 ⟨rfl, hb3⟩; rw [Hs.out]; have H63 := hid (H62.out.below (Nat.le_refl _) hb3); have H73 := hid (H72.out.below (Nat.le_refl _) hb3); have k73 := cell_below hb3 (cell_lt k7) k7; have HB3 := hid (bel_next HB2.out HB2.out.size hb3); clear hb3) | (go_at_call 116; refine (c_areOver _ _ _ _ _ H73.out).mono ?_; rintro e' w4 ⟨rfl, hb4⟩; rw [Hf.out]; have HB4 := hid (bel_next HB3.out HB3.out.size hb4); clear hb4))
  all_goals
    go_ret
    first
      | exact ⟨ret_int (by rw [HF0.out]; simp [*, arI]), HB4.out⟩
      | exact ⟨ret_int (by rw [HF0.out]; simp [*, arI]), HB3.out⟩
      | exact ⟨ret_int (by rw [HF0.out]; simp [*, arI]), HB2.out⟩
set_option maxHeartbeats 1000000 in
set_option maxRecDepth 100000 in
theorem c_kidso {S : Nat → Prop} {d0 d1 d2 d3 : Int} {a4 : Option Addr} {p4 : Nat} {d4 : List Int} {d5 : Int} {a6 : Option Addr} {p6 : Nat} {d6 : List Int} {a7 : Option Addr} {p7 : Nat} {d7 : List Term} {w : World} (hk : d0 < 0 ∨ 8 < d0) (h4 : SlRd cInt S w a4 p4 d4) (h6 : SlRd cInt S w a6 p6 d6) (h7 : SlRd cTerm S w a7 p7 d7) :
    Calls Try.prog 188 #[.agg #[.int .i64 d0, .int .i64 d1, .int .i64 d2, .int .i64 d3, .slice a4 d4.length p4, .int .i64 d5, .slice a6 d6.length p6, .slice a7 d7.length p7]] w fun e w' => e = .returned (.int .i64 (arI (stmtAr (d0, d1, d2, (d3, d4), (d5, d6), d7)))) ∧ Below w.heap.size w w' := by
  have H4 := hid (h4.alloc (.cells #[.int .i64 d0, .int .i64 d1, .int .i64 d2, .int .i64 d3, .slice a4 d4.length p4, .int .i64 d5, .slice a6 d6.length p6, .slice a7 d7.length p7] 144))
  have H6 := hid (h6.alloc (.cells #[.int .i64 d0, .int .i64 d1, .int .i64 d2, .int .i64 d3, .slice a4 d4.length p4, .int .i64 d5, .slice a6 d6.length p6, .slice a7 d7.length p7] 144))
  have H7 := hid (h7.alloc (.cells #[.int .i64 d0, .int .i64 d1, .int .i64 d2, .int .i64 d3, .slice a4 d4.length p4, .int .i64 d5, .slice a6 d6.length p6, .slice a7 d7.length p7] 144))
  have HB : Hid (Below w.heap.size w (w.alloc (.cells #[.int .i64 d0, .int .i64 d1, .int .i64 d2, .int .i64 d3, .slice a4 d4.length p4, .int .i64 d5, .slice a6 d6.length p6, .slice a7 d7.length p7] 144))) := (Below.refl _ _).alloc (Nat.le_refl _) _
  have t0 : (w.alloc (.cells #[.int .i64 d0, .int .i64 d1, .int .i64 d2, .int .i64 d3, .slice a4 d4.length p4, .int .i64 d5, .slice a6 d6.length p6, .slice a7 d7.length p7] 144)).cell? ⟨w.heap.size, 0, none⟩ = some (.int .i64 d0) := by rw [World.cell?_alloc_at _ _ _ _ rfl]; rfl
  have t1 : (w.alloc (.cells #[.int .i64 d0, .int .i64 d1, .int .i64 d2, .int .i64 d3, .slice a4 d4.length p4, .int .i64 d5, .slice a6 d6.length p6, .slice a7 d7.length p7] 144)).cell? ⟨w.heap.size, 1, none⟩ = some (.int .i64 d1) := by rw [World.cell?_alloc_at _ _ _ _ rfl]; rfl
  have t2 : (w.alloc (.cells #[.int .i64 d0, .int .i64 d1, .int .i64 d2, .int .i64 d3, .slice a4 d4.length p4, .int .i64 d5, .slice a6 d6.length p6, .slice a7 d7.length p7] 144)).cell? ⟨w.heap.size, 2, none⟩ = some (.int .i64 d2) := by rw [World.cell?_alloc_at _ _ _ _ rfl]; rfl
  have t3 : (w.alloc (.cells #[.int .i64 d0, .int .i64 d1, .int .i64 d2, .int .i64 d3, .slice a4 d4.length p4, .int .i64 d5, .slice a6 d6.length p6, .slice a7 d7.length p7] 144)).cell? ⟨w.heap.size, 3, none⟩ = some (.int .i64 d3) := by rw [World.cell?_alloc_at _ _ _ _ rfl]; rfl
  have t4 : (w.alloc (.cells #[.int .i64 d0, .int .i64 d1, .int .i64 d2, .int .i64 d3, .slice a4 d4.length p4, .int .i64 d5, .slice a6 d6.length p6, .slice a7 d7.length p7] 144)).cell? ⟨w.heap.size, 4, none⟩ = some (.slice a4 d4.length p4) := by rw [World.cell?_alloc_at _ _ _ _ rfl]; rfl
  have t5 : (w.alloc (.cells #[.int .i64 d0, .int .i64 d1, .int .i64 d2, .int .i64 d3, .slice a4 d4.length p4, .int .i64 d5, .slice a6 d6.length p6, .slice a7 d7.length p7] 144)).cell? ⟨w.heap.size, 5, none⟩ = some (.int .i64 d5) := by rw [World.cell?_alloc_at _ _ _ _ rfl]; rfl
  have t6 : (w.alloc (.cells #[.int .i64 d0, .int .i64 d1, .int .i64 d2, .int .i64 d3, .slice a4 d4.length p4, .int .i64 d5, .slice a6 d6.length p6, .slice a7 d7.length p7] 144)).cell? ⟨w.heap.size, 6, none⟩ = some (.slice a6 d6.length p6) := by rw [World.cell?_alloc_at _ _ _ _ rfl]; rfl
  have t7 : (w.alloc (.cells #[.int .i64 d0, .int .i64 d1, .int .i64 d2, .int .i64 d3, .slice a4 d4.length p4, .int .i64 d5, .slice a6 d6.length p6, .slice a7 d7.length p7] 144)).cell? ⟨w.heap.size, 7, none⟩ = some (.slice a7 d7.length p7) := by rw [World.cell?_alloc_at _ _ _ _ rfl]; rfl
  have z0 : w.heap.size < (w.alloc (.cells #[.int .i64 d0, .int .i64 d1, .int .i64 d2, .int .i64 d3, .slice a4 d4.length p4, .int .i64 d5, .slice a6 d6.length p6, .slice a7 d7.length p7] 144)).heap.size := by simp
  have hl7 := h7.len_le
  clear h4 h6 h7
  have HF : Hid (stmtAr (d0, d1, d2, (d3, d4), (d5, d6), d7) = none) := by unfold Hid stmtAr stmtOk; rw [if_neg]; simp only; rw [if_neg (show ¬ d0 = 0 by omega)]; rw [if_neg (show ¬ d0 = 1 by omega)]; rw [if_neg (show ¬ d0 = 2 by omega)]; rw [if_neg (show ¬ d0 = 3 by omega)]; rw [if_neg (show ¬ d0 = 4 by omega)]; rw [if_neg (show ¬ d0 = 5 by omega)]; rw [if_neg (show ¬ d0 = 6 by omega)]; rw [if_neg (show ¬ d0 = 7 by omega)]; rw [if_neg (show ¬ d0 = 8 by omega)]; simp
  have e0 : (d0 == 0) = false := by rw [beq_eq_false_iff_ne]; omega
  have e1 : (d0 == 1) = false := by rw [beq_eq_false_iff_ne]; omega
  have e2 : (d0 == 2) = false := by rw [beq_eq_false_iff_ne]; omega
  have e3 : (d0 == 3) = false := by rw [beq_eq_false_iff_ne]; omega
  have e4 : (d0 == 4) = false := by rw [beq_eq_false_iff_ne]; omega
  have e5 : (d0 == 5) = false := by rw [beq_eq_false_iff_ne]; omega
  have e6 : (d0 == 6) = false := by rw [beq_eq_false_iff_ne]; omega
  have e7 : (d0 == 7) = false := by rw [beq_eq_false_iff_ne]; omega
  have e8 : (d0 == 8) = false := by rw [beq_eq_false_iff_ne]; omega
  clear hk
  go_enter Try.func188, Try.ntmps188
  go_wp2_with fail
  generalize (w.alloc (.cells #[.int .i64 d0, .int .i64 d1, .int .i64 d2, .int .i64 d3, .slice a4 d4.length p4, .int .i64 d5, .slice a6 d6.length p6, .slice a7 d7.length p7] 144)) = W0 at *
  go_region_held3 (fun w' => w'.cell? ⟨w.heap.size, 0, none⟩ = some (.int .i64 d0) ∧ w'.cell? ⟨w.heap.size, 1, none⟩ = some (.int .i64 d1) ∧ w'.cell? ⟨w.heap.size, 2, none⟩ = some (.int .i64 d2) ∧ w'.cell? ⟨w.heap.size, 3, none⟩ = some (.int .i64 d3) ∧ w'.cell? ⟨w.heap.size, 4, none⟩ = some (.slice a4 d4.length p4) ∧ w'.cell? ⟨w.heap.size, 5, none⟩ = some (.int .i64 d5) ∧ w'.cell? ⟨w.heap.size, 6, none⟩ = some (.slice a6 d6.length p6) ∧ w'.cell? ⟨w.heap.size, 7, none⟩ = some (.slice a7 d7.length p7)) (first | exact ⟨t0, t1, t2, t3, t4, t5, t6, t7⟩ | exact kk1 | exact kk2) (first | (have hkk := kk1; clear hkk; go_at_call 190; refine (c_isZero _ _ _ _ _).mono ?_; rintro e w2 ⟨rfl, hb2⟩; have kk2 := And.intro (cell_below hb2 z1 (kk1.1)) (And.intro (cell_below hb2 z1 (kk1.2.1)) (And.intro (cell_below hb2 z1 (kk1.2.2.1)) (And.intro (cell_below hb2 z1 (kk1.2.2.2.1)) (And.intro (cell_below hb2 z1 (kk1.2.2.2.2.1)) (And.intro (cell_below hb2 z1 (kk1.2.2.2.2.2.1)) (And.intro (cell_below hb2 z1 (kk1.2.2.2.2.2.2.1)) (cell_below hb2 z1 (kk1.2.2.2.2.2.2.2)))))))); have H42 := hid (H41.out.below (Nat.le_refl _) hb2); have H62 := hid (H61.out.below (Nat.le_refl _) hb2); have H72 := hid (H71.out.below (Nat.le_refl _) hb2); have HB2 := hid (bel_next HB1.out HB1.out.size hb2); clear hb2) | (go_at_call 190; refine (c_isZero _ _ _ _ _).mono ?_; rintro e w1 ⟨rfl, hb1⟩; have kk1 := And.intro (cell_below hb1 z0 t0) (And.intro (cell_below hb1 z0 t1) (And.intro (cell_below hb1 z0 t2) (And.intro (cell_below hb1 z0 t3) (And.intro (cell_below hb1 z0 t4) (And.intro (cell_below hb1 z0 t5) (And.intro (cell_below hb1 z0 t6) (cell_below hb1 z0 t7))))))); have z1 := Nat.lt_of_lt_of_le z0 hb1.size; have H41 := hid (H4.out.drew.below (Nat.le_refl _) hb1); have H61 := hid (H6.out.drew.below (Nat.le_refl _) hb1); have H71 := hid (H7.out.drew.below (Nat.le_refl _) hb1); have HB1 := hid (bel_next HB.out.drew HB.out.drew.size hb1); clear hb1))
  clear t0 t1 t2 t3 t4 t5 t6 t7 z0 z1 H4 H6 H7 HB kk1 H41 H61 H71 HB1
  obtain ⟨k0, k1, k2, k3, k4, k5, k6, k7⟩ := kk2
  go_wp2_with (fail)
  all_goals
    go_ret
    first
      | exact ⟨ret_int (by rw [HF.out]; rfl), HB4.out⟩
      | exact ⟨ret_int (by rw [HF.out]; rfl), HB3.out⟩
      | exact ⟨ret_int (by rw [HF.out]; rfl), HB2.out⟩
theorem c_kidsOf {S : Nat → Prop} {d0 d1 d2 d3 : Int} {a4 : Option Addr} {p4 : Nat} {d4 : List Int} {d5 : Int} {a6 : Option Addr} {p6 : Nat} {d6 : List Int} {a7 : Option Addr} {p7 : Nat} {d7 : List Term} {w : World} (h4 : SlRd cInt S w a4 p4 d4) (h6 : SlRd cInt S w a6 p6 d6) (h7 : SlRd cTerm S w a7 p7 d7) :
    Calls Try.prog 188 #[.agg #[.int .i64 d0, .int .i64 d1, .int .i64 d2, .int .i64 d3, .slice a4 d4.length p4, .int .i64 d5, .slice a6 d6.length p6, .slice a7 d7.length p7]] w fun e w' => e = .returned (.int .i64 (arI (stmtAr (d0, d1, d2, (d3, d4), (d5, d6), d7)))) ∧ Below w.heap.size w w' := by
  by_cases g0 : d0 = 0
  · subst g0; exact c_kids0 h4 h6 h7
  by_cases g1 : d0 = 1
  · subst g1; exact c_kids1 h4 h6 h7
  by_cases g2 : d0 = 2
  · subst g2; exact c_kids2 h4 h6 h7
  by_cases g3 : d0 = 3
  · subst g3; exact c_kids3 h4 h6 h7
  by_cases g4 : d0 = 4
  · subst g4; exact c_kids4 h4 h6 h7
  by_cases g5 : d0 = 5
  · subst g5; exact c_kids5 h4 h6 h7
  by_cases g6 : d0 = 6
  · subst g6; exact c_kids6 h4 h6 h7
  by_cases g7 : d0 = 7
  · subst g7; exact c_kids7 h4 h6 h7
  by_cases g8 : d0 = 8
  · subst g8; exact c_kids8 h4 h6 h7
  exact c_kidso (by omega) h4 h6 h7
end Go.Proofs.Ytedmhdinfedhhaa
