/- Contracts and laws of data, 4 texts joined (they are printed one by one from wip/src). -/
import Derived.Test.YtcmopmapdomneaaDoorM3
import Derived.Deep.RegionHeld3

section
namespace Go.Proofs.YtcmopmapdomneaaDoor
open Go.RowKit
theorem cell_lt {w : World} {b o : Nat} {v : Value} (h : w.cell? ⟨b, o, none⟩ = some v) : b < w.heap.size := World.block_lt_of_cell? w _ h

def stm0 (d : Stmt) : Bool := (((((d.2.1 == 0) && (d.2.2.1 == 0)) && zeroT d.2.2.2.1) && zeroT d.2.2.2.2.1) && ((d.2.2.2.2.2.length : Int) == 0))
def stm1 (d : Stmt) : Bool := (((((d.2.1 == 0) && (d.2.2.1 == 0)) && zeroT d.2.2.2.1) && zeroT d.2.2.2.2.1) && ((d.2.2.2.2.2.length : Int) == 0))
def stm2 (d : Stmt) : Bool := ((((inB d.2.1 0 3 && (d.2.2.1 == 0)) && overT d.2.2.2.1) && zeroT d.2.2.2.2.1) && ((d.2.2.2.2.2.length : Int) == 0))
def stm3 (d : Stmt) : Bool := ((((inB d.2.1 0 3 && (d.2.2.1 == 0)) && zeroT d.2.2.2.1) && overT d.2.2.2.2.1) && ((d.2.2.2.2.2.length : Int) == 0))
def stm4 (d : Stmt) : Bool := (((((d.2.1 == 0) && (d.2.2.1 == 0)) && overT d.2.2.2.1) && overT d.2.2.2.2.1) && ((d.2.2.2.2.2.length : Int) == 0))
def stm5 (d : Stmt) : Bool := (((((d.2.1 == 0) && inB d.2.2.1 0 3) && zeroT d.2.2.2.1) && zeroT d.2.2.2.2.1) && ((d.2.2.2.2.2.length : Int) == 0))
def stm6 (d : Stmt) : Bool := (((((d.2.1 == 0) && (d.2.2.1 == 0)) && overT d.2.2.2.1) && zeroT d.2.2.2.2.1) && ((d.2.2.2.2.2.length : Int) == 0))
def stm7 (d : Stmt) : Bool := (((((d.2.1 == 0) && (d.2.2.1 == 0)) && overT d.2.2.2.1) && zeroT d.2.2.2.2.1) && ((d.2.2.2.2.2.length : Int) == 0))
def stm8 (d : Stmt) : Bool := (((((d.2.1 == 0) && (d.2.2.1 == 0)) && overT d.2.2.2.1) && zeroT d.2.2.2.2.1) && areOverF d.2.2.2.2.2 6)
def stmtOk (d : Stmt) : Bool := if d.1 = 0 then stm0 d else if d.1 = 1 then stm1 d else if d.1 = 2 then stm2 d else if d.1 = 3 then stm3 d else if d.1 = 4 then stm4 d else if d.1 = 5 then stm5 d else if d.1 = 6 then stm6 d else if d.1 = 7 then stm7 d else if d.1 = 8 then stm8 d else false
def stmtBe (d : Stmt) : Nat := if d.1 = 1 then 2 else if d.1 = 7 then 2 else if d.1 = 8 then 1 else 0
def stmtAr (d : Stmt) : Option Nat := if stmtOk d then some (stmtBe d) else none
set_option maxHeartbeats 1000000 in
set_option maxRecDepth 100000 in
theorem c_kids0 {S : Nat → Prop} {d1 d2 d3 : Int} {a4 : Option Addr} {p4 : Nat} {d4 : List Int} {d5 : Int} {a6 : Option Addr} {p6 : Nat} {d6 : List Int} {a7 : Option Addr} {p7 : Nat} {d7 : List Term} {w : World} (h4 : SlRd cInt S w a4 p4 d4) (h6 : SlRd cInt S w a6 p6 d6) (h7 : SlRd cTerm S w a7 p7 d7) :
    Calls Tryd.prog 112 #[.agg #[.int .i64 (0 : Int), .int .i64 d1, .int .i64 d2, .int .i64 d3, .slice a4 d4.length p4, .int .i64 d5, .slice a6 d6.length p6, .slice a7 d7.length p7]] w fun e w' => e = .returned (.int .i64 (arI (stmtAr (0, d1, d2, (d3, d4), (d5, d6), d7)))) ∧ Below w.heap.size w w' := by
  have H4 := hid (h4.alloc (.cells #[.int .i64 (0 : Int), .int .i64 d1, .int .i64 d2, .int .i64 d3, .slice a4 d4.length p4, .int .i64 d5, .slice a6 d6.length p6, .slice a7 d7.length p7] 110))
  have H6 := hid (h6.alloc (.cells #[.int .i64 (0 : Int), .int .i64 d1, .int .i64 d2, .int .i64 d3, .slice a4 d4.length p4, .int .i64 d5, .slice a6 d6.length p6, .slice a7 d7.length p7] 110))
  have H7 := hid (h7.alloc (.cells #[.int .i64 (0 : Int), .int .i64 d1, .int .i64 d2, .int .i64 d3, .slice a4 d4.length p4, .int .i64 d5, .slice a6 d6.length p6, .slice a7 d7.length p7] 110))
  have HB : Hid (Below w.heap.size w (w.alloc (.cells #[.int .i64 (0 : Int), .int .i64 d1, .int .i64 d2, .int .i64 d3, .slice a4 d4.length p4, .int .i64 d5, .slice a6 d6.length p6, .slice a7 d7.length p7] 110))) := (Below.refl _ _).alloc (Nat.le_refl _) _
  have t0 : (w.alloc (.cells #[.int .i64 (0 : Int), .int .i64 d1, .int .i64 d2, .int .i64 d3, .slice a4 d4.length p4, .int .i64 d5, .slice a6 d6.length p6, .slice a7 d7.length p7] 110)).cell? ⟨w.heap.size, 0, none⟩ = some (.int .i64 (0 : Int)) := by rw [World.cell?_alloc_at _ _ _ _ rfl]; rfl
  have t1 : (w.alloc (.cells #[.int .i64 (0 : Int), .int .i64 d1, .int .i64 d2, .int .i64 d3, .slice a4 d4.length p4, .int .i64 d5, .slice a6 d6.length p6, .slice a7 d7.length p7] 110)).cell? ⟨w.heap.size, 1, none⟩ = some (.int .i64 d1) := by rw [World.cell?_alloc_at _ _ _ _ rfl]; rfl
  have t2 : (w.alloc (.cells #[.int .i64 (0 : Int), .int .i64 d1, .int .i64 d2, .int .i64 d3, .slice a4 d4.length p4, .int .i64 d5, .slice a6 d6.length p6, .slice a7 d7.length p7] 110)).cell? ⟨w.heap.size, 2, none⟩ = some (.int .i64 d2) := by rw [World.cell?_alloc_at _ _ _ _ rfl]; rfl
  have t3 : (w.alloc (.cells #[.int .i64 (0 : Int), .int .i64 d1, .int .i64 d2, .int .i64 d3, .slice a4 d4.length p4, .int .i64 d5, .slice a6 d6.length p6, .slice a7 d7.length p7] 110)).cell? ⟨w.heap.size, 3, none⟩ = some (.int .i64 d3) := by rw [World.cell?_alloc_at _ _ _ _ rfl]; rfl
  have t4 : (w.alloc (.cells #[.int .i64 (0 : Int), .int .i64 d1, .int .i64 d2, .int .i64 d3, .slice a4 d4.length p4, .int .i64 d5, .slice a6 d6.length p6, .slice a7 d7.length p7] 110)).cell? ⟨w.heap.size, 4, none⟩ = some (.slice a4 d4.length p4) := by rw [World.cell?_alloc_at _ _ _ _ rfl]; rfl
  have t5 : (w.alloc (.cells #[.int .i64 (0 : Int), .int .i64 d1, .int .i64 d2, .int .i64 d3, .slice a4 d4.length p4, .int .i64 d5, .slice a6 d6.length p6, .slice a7 d7.length p7] 110)).cell? ⟨w.heap.size, 5, none⟩ = some (.int .i64 d5) := by rw [World.cell?_alloc_at _ _ _ _ rfl]; rfl
  have t6 : (w.alloc (.cells #[.int .i64 (0 : Int), .int .i64 d1, .int .i64 d2, .int .i64 d3, .slice a4 d4.length p4, .int .i64 d5, .slice a6 d6.length p6, .slice a7 d7.length p7] 110)).cell? ⟨w.heap.size, 6, none⟩ = some (.slice a6 d6.length p6) := by rw [World.cell?_alloc_at _ _ _ _ rfl]; rfl
  have t7 : (w.alloc (.cells #[.int .i64 (0 : Int), .int .i64 d1, .int .i64 d2, .int .i64 d3, .slice a4 d4.length p4, .int .i64 d5, .slice a6 d6.length p6, .slice a7 d7.length p7] 110)).cell? ⟨w.heap.size, 7, none⟩ = some (.slice a7 d7.length p7) := by rw [World.cell?_alloc_at _ _ _ _ rfl]; rfl
  have z0 : w.heap.size < (w.alloc (.cells #[.int .i64 (0 : Int), .int .i64 d1, .int .i64 d2, .int .i64 d3, .slice a4 d4.length p4, .int .i64 d5, .slice a6 d6.length p6, .slice a7 d7.length p7] 110)).heap.size := by simp
  have hl7 := h7.len_le
  clear h4 h6 h7
  have HF0 : Hid (stmtAr (0, d1, d2, (d3, d4), (d5, d6), d7) = if (((((d1 == 0) && (d2 == 0)) && (d3 == 0 && ((d4.length : Int) == 0))) && (d5 == 0 && ((d6.length : Int) == 0))) && ((d7.length : Int) == 0)) then some 0 else none) := rfl
  go_enter Tryd.func112, Tryd.ntmps112
  go_wp2_with fail
  generalize (w.alloc (.cells #[.int .i64 (0 : Int), .int .i64 d1, .int .i64 d2, .int .i64 d3, .slice a4 d4.length p4, .int .i64 d5, .slice a6 d6.length p6, .slice a7 d7.length p7] 110)) = W0 at *
  go_region_held3 (fun w' => w'.cell? ⟨w.heap.size, 0, none⟩ = some (.int .i64 (0 : Int)) ∧ w'.cell? ⟨w.heap.size, 1, none⟩ = some (.int .i64 d1) ∧ w'.cell? ⟨w.heap.size, 2, none⟩ = some (.int .i64 d2) ∧ w'.cell? ⟨w.heap.size, 3, none⟩ = some (.int .i64 d3) ∧ w'.cell? ⟨w.heap.size, 4, none⟩ = some (.slice a4 d4.length p4) ∧ w'.cell? ⟨w.heap.size, 5, none⟩ = some (.int .i64 d5) ∧ w'.cell? ⟨w.heap.size, 6, none⟩ = some (.slice a6 d6.length p6) ∧ w'.cell? ⟨w.heap.size, 7, none⟩ = some (.slice a7 d7.length p7)) (first | exact ⟨t0, t1, t2, t3, t4, t5, t6, t7⟩ | exact kk1 | exact kk2) (first | (have hkk := kk1; clear hkk; go_at_call 117; refine (c_isZero _ _ _ _ _).mono ?_; rintro e w2 ⟨rfl, hb2⟩; have kk2 := And.intro (cell_below hb2 z1 (kk1.1)) (And.intro (cell_below hb2 z1 (kk1.2.1)) (And.intro (cell_below hb2 z1 (kk1.2.2.1)) (And.intro (cell_below hb2 z1 (kk1.2.2.2.1)) (And.intro (cell_below hb2 z1 (kk1.2.2.2.2.1)) (And.intro (cell_below hb2 z1 (kk1.2.2.2.2.2.1)) (And.intro (cell_below hb2 z1 (kk1.2.2.2.2.2.2.1)) (cell_below hb2 z1 (kk1.2.2.2.2.2.2.2)))))))); have H42 := hid (H41.out.below (Nat.le_refl _) hb2); have H62 := hid (H61.out.below (Nat.le_refl _) hb2); have H72 := hid (H71.out.below (Nat.le_refl _) hb2); have HB2 := hid (bel_next HB1.out HB1.out.size hb2); clear hb2) | (go_at_call 117; refine (c_isZero _ _ _ _ _).mono ?_; rintro e w1 ⟨rfl, hb1⟩; have kk1 := And.intro (cell_below hb1 z0 t0) (And.intro (cell_below hb1 z0 t1) (And.intro (cell_below hb1 z0 t2) (And.intro (cell_below hb1 z0 t3) (And.intro (cell_below hb1 z0 t4) (And.intro (cell_below hb1 z0 t5) (And.intro (cell_below hb1 z0 t6) (cell_below hb1 z0 t7))))))); have z1 := Nat.lt_of_lt_of_le z0 hb1.size; have H41 := hid (H4.out.drew.below (Nat.le_refl _) hb1); have H61 := hid (H6.out.drew.below (Nat.le_refl _) hb1); have H71 := hid (H7.out.drew.below (Nat.le_refl _) hb1); have HB1 := hid (bel_next HB.out.drew HB.out.drew.size hb1); clear hb1))
  generalize hqV : (d1 == 0) = V at HF0 ⊢
  generalize hqE : (d2 == 0) = E at HF0 ⊢
  generalize hqZ : (d3 == 0 && ((d4.length : Int) == 0)) = Z at HF0 ⊢
  generalize hqX : (d5 == 0 && ((d6.length : Int) == 0)) = X at HF0 ⊢
  generalize hqF : ((d7.length : Int) == 0) = F at HF0 ⊢
  clear hqV hqE hqZ hqX hqF
  clear t0 t1 t2 t3 t4 t5 t6 t7 z0 z1 H4 H6 H7 HB kk1 H41 H61 H71 HB1
  obtain ⟨k0, k1, k2, k3, k4, k5, k6, k7⟩ := kk2
  go_wp2_with (fail)
  all_goals
    go_ret
    first
      | exact ⟨ret_int (by rw [HF0.out]; simp [*, arI]), HB4.out⟩
      | exact ⟨ret_int (by rw [HF0.out]; simp [*, arI]), HB3.out⟩
      | exact ⟨ret_int (by rw [HF0.out]; simp [*, arI]), HB2.out⟩
set_option maxHeartbeats 1000000 in
set_option maxRecDepth 100000 in
theorem c_kids1 {S : Nat → Prop} {d1 d2 d3 : Int} {a4 : Option Addr} {p4 : Nat} {d4 : List Int} {d5 : Int} {a6 : Option Addr} {p6 : Nat} {d6 : List Int} {a7 : Option Addr} {p7 : Nat} {d7 : List Term} {w : World} (h4 : SlRd cInt S w a4 p4 d4) (h6 : SlRd cInt S w a6 p6 d6) (h7 : SlRd cTerm S w a7 p7 d7) :
    Calls Tryd.prog 112 #[.agg #[.int .i64 (1 : Int), .int .i64 d1, .int .i64 d2, .int .i64 d3, .slice a4 d4.length p4, .int .i64 d5, .slice a6 d6.length p6, .slice a7 d7.length p7]] w fun e w' => e = .returned (.int .i64 (arI (stmtAr (1, d1, d2, (d3, d4), (d5, d6), d7)))) ∧ Below w.heap.size w w' := by
  have H4 := hid (h4.alloc (.cells #[.int .i64 (1 : Int), .int .i64 d1, .int .i64 d2, .int .i64 d3, .slice a4 d4.length p4, .int .i64 d5, .slice a6 d6.length p6, .slice a7 d7.length p7] 110))
  have H6 := hid (h6.alloc (.cells #[.int .i64 (1 : Int), .int .i64 d1, .int .i64 d2, .int .i64 d3, .slice a4 d4.length p4, .int .i64 d5, .slice a6 d6.length p6, .slice a7 d7.length p7] 110))
  have H7 := hid (h7.alloc (.cells #[.int .i64 (1 : Int), .int .i64 d1, .int .i64 d2, .int .i64 d3, .slice a4 d4.length p4, .int .i64 d5, .slice a6 d6.length p6, .slice a7 d7.length p7] 110))
  have HB : Hid (Below w.heap.size w (w.alloc (.cells #[.int .i64 (1 : Int), .int .i64 d1, .int .i64 d2, .int .i64 d3, .slice a4 d4.length p4, .int .i64 d5, .slice a6 d6.length p6, .slice a7 d7.length p7] 110))) := (Below.refl _ _).alloc (Nat.le_refl _) _
  have t0 : (w.alloc (.cells #[.int .i64 (1 : Int), .int .i64 d1, .int .i64 d2, .int .i64 d3, .slice a4 d4.length p4, .int .i64 d5, .slice a6 d6.length p6, .slice a7 d7.length p7] 110)).cell? ⟨w.heap.size, 0, none⟩ = some (.int .i64 (1 : Int)) := by rw [World.cell?_alloc_at _ _ _ _ rfl]; rfl
  have t1 : (w.alloc (.cells #[.int .i64 (1 : Int), .int .i64 d1, .int .i64 d2, .int .i64 d3, .slice a4 d4.length p4, .int .i64 d5, .slice a6 d6.length p6, .slice a7 d7.length p7] 110)).cell? ⟨w.heap.size, 1, none⟩ = some (.int .i64 d1) := by rw [World.cell?_alloc_at _ _ _ _ rfl]; rfl
  have t2 : (w.alloc (.cells #[.int .i64 (1 : Int), .int .i64 d1, .int .i64 d2, .int .i64 d3, .slice a4 d4.length p4, .int .i64 d5, .slice a6 d6.length p6, .slice a7 d7.length p7] 110)).cell? ⟨w.heap.size, 2, none⟩ = some (.int .i64 d2) := by rw [World.cell?_alloc_at _ _ _ _ rfl]; rfl
  have t3 : (w.alloc (.cells #[.int .i64 (1 : Int), .int .i64 d1, .int .i64 d2, .int .i64 d3, .slice a4 d4.length p4, .int .i64 d5, .slice a6 d6.length p6, .slice a7 d7.length p7] 110)).cell? ⟨w.heap.size, 3, none⟩ = some (.int .i64 d3) := by rw [World.cell?_alloc_at _ _ _ _ rfl]; rfl
  have t4 : (w.alloc (.cells #[.int .i64 (1 : Int), .int .i64 d1, .int .i64 d2, .int .i64 d3, .slice a4 d4.length p4, .int .i64 d5, .slice a6 d6.length p6, .slice a7 d7.length p7] 110)).cell? ⟨w.heap.size, 4, none⟩ = some (.slice a4 d4.length p4) := by rw [World.cell?_alloc_at _ _ _ _ rfl]; rfl
  have t5 : (w.alloc (.cells #[.int .i64 (1 : Int), .int .i64 d1, .int .i64 d2, .int .i64 d3, .slice a4 d4.length p4, .int .i64 d5, .slice a6 d6.length p6, .slice a7 d7.length p7] 110)).cell? ⟨w.heap.size, 5, none⟩ = some (.int .i64 d5) := by rw [World.cell?_alloc_at _ _ _ _ rfl]; rfl
  have t6 : (w.alloc (.cells #[.int .i64 (1 : Int), .int .i64 d1, .int .i64 d2, .int .i64 d3, .slice a4 d4.length p4, .int .i64 d5, .slice a6 d6.length p6, .slice a7 d7.length p7] 110)).cell? ⟨w.heap.size, 6, none⟩ = some (.slice a6 d6.length p6) := by rw [World.cell?_alloc_at _ _ _ _ rfl]; rfl
  have t7 : (w.alloc (.cells #[.int .i64 (1 : Int), .int .i64 d1, .int .i64 d2, .int .i64 d3, .slice a4 d4.length p4, .int .i64 d5, .slice a6 d6.length p6, .slice a7 d7.length p7] 110)).cell? ⟨w.heap.size, 7, none⟩ = some (.slice a7 d7.length p7) := by rw [World.cell?_alloc_at _ _ _ _ rfl]; rfl
  have z0 : w.heap.size < (w.alloc (.cells #[.int .i64 (1 : Int), .int .i64 d1, .int .i64 d2, .int .i64 d3, .slice a4 d4.length p4, .int .i64 d5, .slice a6 d6.length p6, .slice a7 d7.length p7] 110)).heap.size := by simp
  have hl7 := h7.len_le
  clear h4 h6 h7
  have HF0 : Hid (stmtAr (1, d1, d2, (d3, d4), (d5, d6), d7) = if (((((d1 == 0) && (d2 == 0)) && (d3 == 0 && ((d4.length : Int) == 0))) && (d5 == 0 && ((d6.length : Int) == 0))) && ((d7.length : Int) == 0)) then some 2 else none) := rfl
  go_enter Tryd.func112, Tryd.ntmps112
  go_wp2_with fail
  generalize (w.alloc (.cells #[.int .i64 (1 : Int), .int .i64 d1, .int .i64 d2, .int .i64 d3, .slice a4 d4.length p4, .int .i64 d5, .slice a6 d6.length p6, .slice a7 d7.length p7] 110)) = W0 at *
  go_region_held3 (fun w' => w'.cell? ⟨w.heap.size, 0, none⟩ = some (.int .i64 (1 : Int)) ∧ w'.cell? ⟨w.heap.size, 1, none⟩ = some (.int .i64 d1) ∧ w'.cell? ⟨w.heap.size, 2, none⟩ = some (.int .i64 d2) ∧ w'.cell? ⟨w.heap.size, 3, none⟩ = some (.int .i64 d3) ∧ w'.cell? ⟨w.heap.size, 4, none⟩ = some (.slice a4 d4.length p4) ∧ w'.cell? ⟨w.heap.size, 5, none⟩ = some (.int .i64 d5) ∧ w'.cell? ⟨w.heap.size, 6, none⟩ = some (.slice a6 d6.length p6) ∧ w'.cell? ⟨w.heap.size, 7, none⟩ = some (.slice a7 d7.length p7)) (first | exact ⟨t0, t1, t2, t3, t4, t5, t6, t7⟩ | exact kk1 | exact kk2) (first | (have hkk := kk1; clear hkk; go_at_call 117; refine (c_isZero _ _ _ _ _).mono ?_; rintro e w2 ⟨rfl, hb2⟩; have kk2 := And.intro (cell_below hb2 z1 (kk1.1)) (And.intro (cell_below hb2 z1 (kk1.2.1)) (And.intro (cell_below hb2 z1 (kk1.2.2.1)) (And.intro (cell_below hb2 z1 (kk1.2.2.2.1)) (And.intro (cell_below hb2 z1 (kk1.2.2.2.2.1)) (And.intro (cell_below hb2 z1 (kk1.2.2.2.2.2.1)) (And.intro (cell_below hb2 z1 (kk1.2.2.2.2.2.2.1)) (cell_below hb2 z1 (kk1.2.2.2.2.2.2.2)))))))); have H42 := hid (H41.out.below (Nat.le_refl _) hb2); have H62 := hid (H61.out.below (Nat.le_refl _) hb2); have H72 := hid (H71.out.below (Nat.le_refl _) hb2); have HB2 := hid (bel_next HB1.out HB1.out.size hb2); clear hb2) | (go_at_call 117; refine (c_isZero _ _ _ _ _).mono ?_; rintro e w1 ⟨rfl, hb1⟩; have kk1 := And.intro (cell_below hb1 z0 t0) (And.intro (cell_below hb1 z0 t1) (And.intro (cell_below hb1 z0 t2) (And.intro (cell_below hb1 z0 t3) (And.intro (cell_below hb1 z0 t4) (And.intro (cell_below hb1 z0 t5) (And.intro (cell_below hb1 z0 t6) (cell_below hb1 z0 t7))))))); have z1 := Nat.lt_of_lt_of_le z0 hb1.size; have H41 := hid (H4.out.drew.below (Nat.le_refl _) hb1); have H61 := hid (H6.out.drew.below (Nat.le_refl _) hb1); have H71 := hid (H7.out.drew.below (Nat.le_refl _) hb1); have HB1 := hid (bel_next HB.out.drew HB.out.drew.size hb1); clear hb1))
  generalize hqV : (d1 == 0) = V at HF0 ⊢
  generalize hqE : (d2 == 0) = E at HF0 ⊢
  generalize hqZ : (d3 == 0 && ((d4.length : Int) == 0)) = Z at HF0 ⊢
  generalize hqX : (d5 == 0 && ((d6.length : Int) == 0)) = X at HF0 ⊢
  generalize hqF : ((d7.length : Int) == 0) = F at HF0 ⊢
  clear hqV hqE hqZ hqX hqF
  clear t0 t1 t2 t3 t4 t5 t6 t7 z0 z1 H4 H6 H7 HB kk1 H41 H61 H71 HB1
  obtain ⟨k0, k1, k2, k3, k4, k5, k6, k7⟩ := kk2
  go_wp2_with (fail)
  all_goals
    go_ret
    first
      | exact ⟨ret_int (by rw [HF0.out]; simp [*, arI]), HB4.out⟩
      | exact ⟨ret_int (by rw [HF0.out]; simp [*, arI]), HB3.out⟩
      | exact ⟨ret_int (by rw [HF0.out]; simp [*, arI]), HB2.out⟩
set_option maxHeartbeats 1000000 in
set_option maxRecDepth 100000 in
theorem c_kids2 {S : Nat → Prop} {d1 d2 d3 : Int} {a4 : Option Addr} {p4 : Nat} {d4 : List Int} {d5 : Int} {a6 : Option Addr} {p6 : Nat} {d6 : List Int} {a7 : Option Addr} {p7 : Nat} {d7 : List Term} {w : World} (h4 : SlRd cInt S w a4 p4 d4) (h6 : SlRd cInt S w a6 p6 d6) (h7 : SlRd cTerm S w a7 p7 d7) :
    Calls Tryd.prog 112 #[.agg #[.int .i64 (2 : Int), .int .i64 d1, .int .i64 d2, .int .i64 d3, .slice a4 d4.length p4, .int .i64 d5, .slice a6 d6.length p6, .slice a7 d7.length p7]] w fun e w' => e = .returned (.int .i64 (arI (stmtAr (2, d1, d2, (d3, d4), (d5, d6), d7)))) ∧ Below w.heap.size w w' := by
  have H4 := hid (h4.alloc (.cells #[.int .i64 (2 : Int), .int .i64 d1, .int .i64 d2, .int .i64 d3, .slice a4 d4.length p4, .int .i64 d5, .slice a6 d6.length p6, .slice a7 d7.length p7] 110))
  have H6 := hid (h6.alloc (.cells #[.int .i64 (2 : Int), .int .i64 d1, .int .i64 d2, .int .i64 d3, .slice a4 d4.length p4, .int .i64 d5, .slice a6 d6.length p6, .slice a7 d7.length p7] 110))
  have H7 := hid (h7.alloc (.cells #[.int .i64 (2 : Int), .int .i64 d1, .int .i64 d2, .int .i64 d3, .slice a4 d4.length p4, .int .i64 d5, .slice a6 d6.length p6, .slice a7 d7.length p7] 110))
  have HB : Hid (Below w.heap.size w (w.alloc (.cells #[.int .i64 (2 : Int), .int .i64 d1, .int .i64 d2, .int .i64 d3, .slice a4 d4.length p4, .int .i64 d5, .slice a6 d6.length p6, .slice a7 d7.length p7] 110))) := (Below.refl _ _).alloc (Nat.le_refl _) _
  have t0 : (w.alloc (.cells #[.int .i64 (2 : Int), .int .i64 d1, .int .i64 d2, .int .i64 d3, .slice a4 d4.length p4, .int .i64 d5, .slice a6 d6.length p6, .slice a7 d7.length p7] 110)).cell? ⟨w.heap.size, 0, none⟩ = some (.int .i64 (2 : Int)) := by rw [World.cell?_alloc_at _ _ _ _ rfl]; rfl
  have t1 : (w.alloc (.cells #[.int .i64 (2 : Int), .int .i64 d1, .int .i64 d2, .int .i64 d3, .slice a4 d4.length p4, .int .i64 d5, .slice a6 d6.length p6, .slice a7 d7.length p7] 110)).cell? ⟨w.heap.size, 1, none⟩ = some (.int .i64 d1) := by rw [World.cell?_alloc_at _ _ _ _ rfl]; rfl
  have t2 : (w.alloc (.cells #[.int .i64 (2 : Int), .int .i64 d1, .int .i64 d2, .int .i64 d3, .slice a4 d4.length p4, .int .i64 d5, .slice a6 d6.length p6, .slice a7 d7.length p7] 110)).cell? ⟨w.heap.size, 2, none⟩ = some (.int .i64 d2) := by rw [World.cell?_alloc_at _ _ _ _ rfl]; rfl
  have t3 : (w.alloc (.cells #[.int .i64 (2 : Int), .int .i64 d1, .int .i64 d2, .int .i64 d3, .slice a4 d4.length p4, .int .i64 d5, .slice a6 d6.length p6, .slice a7 d7.length p7] 110)).cell? ⟨w.heap.size, 3, none⟩ = some (.int .i64 d3) := by rw [World.cell?_alloc_at _ _ _ _ rfl]; rfl
  have t4 : (w.alloc (.cells #[.int .i64 (2 : Int), .int .i64 d1, .int .i64 d2, .int .i64 d3, .slice a4 d4.length p4, .int .i64 d5, .slice a6 d6.length p6, .slice a7 d7.length p7] 110)).cell? ⟨w.heap.size, 4, none⟩ = some (.slice a4 d4.length p4) := by rw [World.cell?_alloc_at _ _ _ _ rfl]; rfl
  have t5 : (w.alloc (.cells #[.int .i64 (2 : Int), .int .i64 d1, .int .i64 d2, .int .i64 d3, .slice a4 d4.length p4, .int .i64 d5, .slice a6 d6.length p6, .slice a7 d7.length p7] 110)).cell? ⟨w.heap.size, 5, none⟩ = some (.int .i64 d5) := by rw [World.cell?_alloc_at _ _ _ _ rfl]; rfl
  have t6 : (w.alloc (.cells #[.int .i64 (2 : Int), .int .i64 d1, .int .i64 d2, .int .i64 d3, .slice a4 d4.length p4, .int .i64 d5, .slice a6 d6.length p6, .slice a7 d7.length p7] 110)).cell? ⟨w.heap.size, 6, none⟩ = some (.slice a6 d6.length p6) := by rw [World.cell?_alloc_at _ _ _ _ rfl]; rfl
  have t7 : (w.alloc (.cells #[.int .i64 (2 : Int), .int .i64 d1, .int .i64 d2, .int .i64 d3, .slice a4 d4.length p4, .int .i64 d5, .slice a6 d6.length p6, .slice a7 d7.length p7] 110)).cell? ⟨w.heap.size, 7, none⟩ = some (.slice a7 d7.length p7) := by rw [World.cell?_alloc_at _ _ _ _ rfl]; rfl
  have z0 : w.heap.size < (w.alloc (.cells #[.int .i64 (2 : Int), .int .i64 d1, .int .i64 d2, .int .i64 d3, .slice a4 d4.length p4, .int .i64 d5, .slice a6 d6.length p6, .slice a7 d7.length p7] 110)).heap.size := by simp
  have hl7 := h7.len_le
  clear h4 h6 h7
  have HF0 : Hid (stmtAr (2, d1, d2, (d3, d4), (d5, d6), d7) = if ((((inB d1 0 3 && (d2 == 0)) && overT (d3, d4)) && (d5 == 0 && ((d6.length : Int) == 0))) && ((d7.length : Int) == 0)) then some 0 else none) := rfl
  go_enter Tryd.func112, Tryd.ntmps112
  go_wp2_with fail
  generalize (w.alloc (.cells #[.int .i64 (2 : Int), .int .i64 d1, .int .i64 d2, .int .i64 d3, .slice a4 d4.length p4, .int .i64 d5, .slice a6 d6.length p6, .slice a7 d7.length p7] 110)) = W0 at *
  go_region_held3 (fun w' => w'.cell? ⟨w.heap.size, 0, none⟩ = some (.int .i64 (2 : Int)) ∧ w'.cell? ⟨w.heap.size, 1, none⟩ = some (.int .i64 d1) ∧ w'.cell? ⟨w.heap.size, 2, none⟩ = some (.int .i64 d2) ∧ w'.cell? ⟨w.heap.size, 3, none⟩ = some (.int .i64 d3) ∧ w'.cell? ⟨w.heap.size, 4, none⟩ = some (.slice a4 d4.length p4) ∧ w'.cell? ⟨w.heap.size, 5, none⟩ = some (.int .i64 d5) ∧ w'.cell? ⟨w.heap.size, 6, none⟩ = some (.slice a6 d6.length p6) ∧ w'.cell? ⟨w.heap.size, 7, none⟩ = some (.slice a7 d7.length p7)) (first | exact ⟨t0, t1, t2, t3, t4, t5, t6, t7⟩ | exact kk1 | exact kk2) (first | (have hkk := kk1; clear hkk; go_at_call 117; refine (c_isZero _ _ _ _ _).mono ?_; rintro e w2 ⟨rfl, hb2⟩; have kk2 := And.intro (cell_below hb2 z1 (kk1.1)) (And.intro (cell_below hb2 z1 (kk1.2.1)) (And.intro (cell_below hb2 z1 (kk1.2.2.1)) (And.intro (cell_below hb2 z1 (kk1.2.2.2.1)) (And.intro (cell_below hb2 z1 (kk1.2.2.2.2.1)) (And.intro (cell_below hb2 z1 (kk1.2.2.2.2.2.1)) (And.intro (cell_below hb2 z1 (kk1.2.2.2.2.2.2.1)) (cell_below hb2 z1 (kk1.2.2.2.2.2.2.2)))))))); have H42 := hid (H41.out.below (Nat.le_refl _) hb2); have H62 := hid (H61.out.below (Nat.le_refl _) hb2); have H72 := hid (H71.out.below (Nat.le_refl _) hb2); have HB2 := hid (bel_next HB1.out HB1.out.size hb2); clear hb2) | (go_at_call 117; refine (c_isZero _ _ _ _ _).mono ?_; rintro e w1 ⟨rfl, hb1⟩; have kk1 := And.intro (cell_below hb1 z0 t0) (And.intro (cell_below hb1 z0 t1) (And.intro (cell_below hb1 z0 t2) (And.intro (cell_below hb1 z0 t3) (And.intro (cell_below hb1 z0 t4) (And.intro (cell_below hb1 z0 t5) (And.intro (cell_below hb1 z0 t6) (cell_below hb1 z0 t7))))))); have z1 := Nat.lt_of_lt_of_le z0 hb1.size; have H41 := hid (H4.out.drew.below (Nat.le_refl _) hb1); have H61 := hid (H6.out.drew.below (Nat.le_refl _) hb1); have H71 := hid (H7.out.drew.below (Nat.le_refl _) hb1); have HB1 := hid (bel_next HB.out.drew HB.out.drew.size hb1); clear hb1))
  generalize hqV : (d1 == 0) = V at HF0 ⊢
  generalize hqE : (d2 == 0) = E at HF0 ⊢
  generalize hqZ : (d3 == 0 && ((d4.length : Int) == 0)) = Z at HF0 ⊢
  generalize hqX : (d5 == 0 && ((d6.length : Int) == 0)) = X at HF0 ⊢
  generalize hqF : ((d7.length : Int) == 0) = F at HF0 ⊢
  clear hqV hqE hqZ hqX hqF
  clear t0 t1 t2 t3 t4 t5 t6 t7 z0 z1 H4 H6 H7 HB kk1 H41 H61 H71 HB1
  obtain ⟨k0, k1, k2, k3, k4, k5, k6, k7⟩ := kk2
  obtain ⟨v, hv⟩ : ∃ v, inB d1 0 3 = v := ⟨_, rfl⟩
  have Hv := hid hv
  rw [hv] at HF0
  clear hv
  obtain ⟨s, hs⟩ : ∃ s, overT (d3, d4) = s := ⟨_, rfl⟩
  have Hs := hid hs
  rw [hs] at HF0
  clear hs
  go_wp2_with (first | (go_at_call 103; refine (c_isVar _ _).mono ?_; rintro e' w' ⟨rfl, rfl⟩; rw [Hv.out]) | (go_at_call 82; refine (c_isOver _ _ _ _ _ H42.out).mono ?_; rintro e' w3 ⟨rfl, hb3⟩; rw [Hs.out]; have H63 := hid (H62.out.below (Nat.le_refl _) hb3); have H73 := hid (H72.out.below (Nat.le_refl _) hb3); have HB3 := hid (bel_next HB2.out HB2.out.size hb3); clear hb3))
  all_goals
    go_ret
    first
      | exact ⟨ret_int (by rw [HF0.out]; simp [*, arI]), HB4.out⟩
      | exact ⟨ret_int (by rw [HF0.out]; simp [*, arI]), HB3.out⟩
      | exact ⟨ret_int (by rw [HF0.out]; simp [*, arI]), HB2.out⟩
set_option maxHeartbeats 1000000 in
set_option maxRecDepth 100000 in
theorem c_kids3 {S : Nat → Prop} {d1 d2 d3 : Int} {a4 : Option Addr} {p4 : Nat} {d4 : List Int} {d5 : Int} {a6 : Option Addr} {p6 : Nat} {d6 : List Int} {a7 : Option Addr} {p7 : Nat} {d7 : List Term} {w : World} (h4 : SlRd cInt S w a4 p4 d4) (h6 : SlRd cInt S w a6 p6 d6) (h7 : SlRd cTerm S w a7 p7 d7) :
    Calls Tryd.prog 112 #[.agg #[.int .i64 (3 : Int), .int .i64 d1, .int .i64 d2, .int .i64 d3, .slice a4 d4.length p4, .int .i64 d5, .slice a6 d6.length p6, .slice a7 d7.length p7]] w fun e w' => e = .returned (.int .i64 (arI (stmtAr (3, d1, d2, (d3, d4), (d5, d6), d7)))) ∧ Below w.heap.size w w' := by
  have H4 := hid (h4.alloc (.cells #[.int .i64 (3 : Int), .int .i64 d1, .int .i64 d2, .int .i64 d3, .slice a4 d4.length p4, .int .i64 d5, .slice a6 d6.length p6, .slice a7 d7.length p7] 110))
  have H6 := hid (h6.alloc (.cells #[.int .i64 (3 : Int), .int .i64 d1, .int .i64 d2, .int .i64 d3, .slice a4 d4.length p4, .int .i64 d5, .slice a6 d6.length p6, .slice a7 d7.length p7] 110))
  have H7 := hid (h7.alloc (.cells #[.int .i64 (3 : Int), .int .i64 d1, .int .i64 d2, .int .i64 d3, .slice a4 d4.length p4, .int .i64 d5, .slice a6 d6.length p6, .slice a7 d7.length p7] 110))
  have HB : Hid (Below w.heap.size w (w.alloc (.cells #[.int .i64 (3 : Int), .int .i64 d1, .int .i64 d2, .int .i64 d3, .slice a4 d4.length p4, .int .i64 d5, .slice a6 d6.length p6, .slice a7 d7.length p7] 110))) := (Below.refl _ _).alloc (Nat.le_refl _) _
  have t0 : (w.alloc (.cells #[.int .i64 (3 : Int), .int .i64 d1, .int .i64 d2, .int .i64 d3, .slice a4 d4.length p4, .int .i64 d5, .slice a6 d6.length p6, .slice a7 d7.length p7] 110)).cell? ⟨w.heap.size, 0, none⟩ = some (.int .i64 (3 : Int)) := by rw [World.cell?_alloc_at _ _ _ _ rfl]; rfl
  have t1 : (w.alloc (.cells #[.int .i64 (3 : Int), .int .i64 d1, .int .i64 d2, .int .i64 d3, .slice a4 d4.length p4, .int .i64 d5, .slice a6 d6.length p6, .slice a7 d7.length p7] 110)).cell? ⟨w.heap.size, 1, none⟩ = some (.int .i64 d1) := by rw [World.cell?_alloc_at _ _ _ _ rfl]; rfl
  have t2 : (w.alloc (.cells #[.int .i64 (3 : Int), .int .i64 d1, .int .i64 d2, .int .i64 d3, .slice a4 d4.length p4, .int .i64 d5, .slice a6 d6.length p6, .slice a7 d7.length p7] 110)).cell? ⟨w.heap.size, 2, none⟩ = some (.int .i64 d2) := by rw [World.cell?_alloc_at _ _ _ _ rfl]; rfl
  have t3 : (w.alloc (.cells #[.int .i64 (3 : Int), .int .i64 d1, .int .i64 d2, .int .i64 d3, .slice a4 d4.length p4, .int .i64 d5, .slice a6 d6.length p6, .slice a7 d7.length p7] 110)).cell? ⟨w.heap.size, 3, none⟩ = some (.int .i64 d3) := by rw [World.cell?_alloc_at _ _ _ _ rfl]; rfl
  have t4 : (w.alloc (.cells #[.int .i64 (3 : Int), .int .i64 d1, .int .i64 d2, .int .i64 d3, .slice a4 d4.length p4, .int .i64 d5, .slice a6 d6.length p6, .slice a7 d7.length p7] 110)).cell? ⟨w.heap.size, 4, none⟩ = some (.slice a4 d4.length p4) := by rw [World.cell?_alloc_at _ _ _ _ rfl]; rfl
  have t5 : (w.alloc (.cells #[.int .i64 (3 : Int), .int .i64 d1, .int .i64 d2, .int .i64 d3, .slice a4 d4.length p4, .int .i64 d5, .slice a6 d6.length p6, .slice a7 d7.length p7] 110)).cell? ⟨w.heap.size, 5, none⟩ = some (.int .i64 d5) := by rw [World.cell?_alloc_at _ _ _ _ rfl]; rfl
  have t6 : (w.alloc (.cells #[.int .i64 (3 : Int), .int .i64 d1, .int .i64 d2, .int .i64 d3, .slice a4 d4.length p4, .int .i64 d5, .slice a6 d6.length p6, .slice a7 d7.length p7] 110)).cell? ⟨w.heap.size, 6, none⟩ = some (.slice a6 d6.length p6) := by rw [World.cell?_alloc_at _ _ _ _ rfl]; rfl
  have t7 : (w.alloc (.cells #[.int .i64 (3 : Int), .int .i64 d1, .int .i64 d2, .int .i64 d3, .slice a4 d4.length p4, .int .i64 d5, .slice a6 d6.length p6, .slice a7 d7.length p7] 110)).cell? ⟨w.heap.size, 7, none⟩ = some (.slice a7 d7.length p7) := by rw [World.cell?_alloc_at _ _ _ _ rfl]; rfl
  have z0 : w.heap.size < (w.alloc (.cells #[.int .i64 (3 : Int), .int .i64 d1, .int .i64 d2, .int .i64 d3, .slice a4 d4.length p4, .int .i64 d5, .slice a6 d6.length p6, .slice a7 d7.length p7] 110)).heap.size := by simp
  have hl7 := h7.len_le
  clear h4 h6 h7
  have HF0 : Hid (stmtAr (3, d1, d2, (d3, d4), (d5, d6), d7) = if ((((inB d1 0 3 && (d2 == 0)) && (d3 == 0 && ((d4.length : Int) == 0))) && overT (d5, d6)) && ((d7.length : Int) == 0)) then some 0 else none) := rfl
  go_enter Tryd.func112, Tryd.ntmps112
  go_wp2_with fail
  generalize (w.alloc (.cells #[.int .i64 (3 : Int), .int .i64 d1, .int .i64 d2, .int .i64 d3, .slice a4 d4.length p4, .int .i64 d5, .slice a6 d6.length p6, .slice a7 d7.length p7] 110)) = W0 at *
  go_region_held3 (fun w' => w'.cell? ⟨w.heap.size, 0, none⟩ = some (.int .i64 (3 : Int)) ∧ w'.cell? ⟨w.heap.size, 1, none⟩ = some (.int .i64 d1) ∧ w'.cell? ⟨w.heap.size, 2, none⟩ = some (.int .i64 d2) ∧ w'.cell? ⟨w.heap.size, 3, none⟩ = some (.int .i64 d3) ∧ w'.cell? ⟨w.heap.size, 4, none⟩ = some (.slice a4 d4.length p4) ∧ w'.cell? ⟨w.heap.size, 5, none⟩ = some (.int .i64 d5) ∧ w'.cell? ⟨w.heap.size, 6, none⟩ = some (.slice a6 d6.length p6) ∧ w'.cell? ⟨w.heap.size, 7, none⟩ = some (.slice a7 d7.length p7)) (first | exact ⟨t0, t1, t2, t3, t4, t5, t6, t7⟩ | exact kk1 | exact kk2) (first | (have hkk := kk1; clear hkk; go_at_call 117; refine (c_isZero _ _ _ _ _).mono ?_; rintro e w2 ⟨rfl, hb2⟩; have kk2 := And.intro (cell_below hb2 z1 (kk1.1)) (And.intro (cell_below hb2 z1 (kk1.2.1)) (And.intro (cell_below hb2 z1 (kk1.2.2.1)) (And.intro (cell_below hb2 z1 (kk1.2.2.2.1)) (And.intro (cell_below hb2 z1 (kk1.2.2.2.2.1)) (And.intro (cell_below hb2 z1 (kk1.2.2.2.2.2.1)) (And.intro (cell_below hb2 z1 (kk1.2.2.2.2.2.2.1)) (cell_below hb2 z1 (kk1.2.2.2.2.2.2.2)))))))); have H42 := hid (H41.out.below (Nat.le_refl _) hb2); have H62 := hid (H61.out.below (Nat.le_refl _) hb2); have H72 := hid (H71.out.below (Nat.le_refl _) hb2); have HB2 := hid (bel_next HB1.out HB1.out.size hb2); clear hb2) | (go_at_call 117; refine (c_isZero _ _ _ _ _).mono ?_; rintro e w1 ⟨rfl, hb1⟩; have kk1 := And.intro (cell_below hb1 z0 t0) (And.intro (cell_below hb1 z0 t1) (And.intro (cell_below hb1 z0 t2) (And.intro (cell_below hb1 z0 t3) (And.intro (cell_below hb1 z0 t4) (And.intro (cell_below hb1 z0 t5) (And.intro (cell_below hb1 z0 t6) (cell_below hb1 z0 t7))))))); have z1 := Nat.lt_of_lt_of_le z0 hb1.size; have H41 := hid (H4.out.drew.below (Nat.le_refl _) hb1); have H61 := hid (H6.out.drew.below (Nat.le_refl _) hb1); have H71 := hid (H7.out.drew.below (Nat.le_refl _) hb1); have HB1 := hid (bel_next HB.out.drew HB.out.drew.size hb1); clear hb1))
  generalize hqV : (d1 == 0) = V at HF0 ⊢
  generalize hqE : (d2 == 0) = E at HF0 ⊢
  generalize hqZ : (d3 == 0 && ((d4.length : Int) == 0)) = Z at HF0 ⊢
  generalize hqX : (d5 == 0 && ((d6.length : Int) == 0)) = X at HF0 ⊢
  generalize hqF : ((d7.length : Int) == 0) = F at HF0 ⊢
  clear hqV hqE hqZ hqX hqF
  clear t0 t1 t2 t3 t4 t5 t6 t7 z0 z1 H4 H6 H7 HB kk1 H41 H61 H71 HB1
  obtain ⟨k0, k1, k2, k3, k4, k5, k6, k7⟩ := kk2
  obtain ⟨v, hv⟩ : ∃ v, inB d1 0 3 = v := ⟨_, rfl⟩
  have Hv := hid hv
  rw [hv] at HF0
  clear hv
  obtain ⟨x, hx⟩ : ∃ x, overT (d5, d6) = x := ⟨_, rfl⟩
  have Hx := hid hx
  rw [hx] at HF0
  clear hx
  go_wp2_with (first | (go_at_call 103; refine (c_isVar _ _).mono ?_; rintro e' w' ⟨rfl, rfl⟩; rw [Hv.out]) | (go_at_call 82; refine (c_isOver _ _ _ _ _ H62.out).mono ?_; rintro e' w3 ⟨rfl, hb3⟩; rw [Hx.out]; have HB3 := hid (bel_next HB2.out HB2.out.size hb3); clear hb3))
  all_goals
    go_ret
    first
      | exact ⟨ret_int (by rw [HF0.out]; simp [*, arI]), HB4.out⟩
      | exact ⟨ret_int (by rw [HF0.out]; simp [*, arI]), HB3.out⟩
      | exact ⟨ret_int (by rw [HF0.out]; simp [*, arI]), HB2.out⟩
set_option maxHeartbeats 1000000 in
set_option maxRecDepth 100000 in
theorem c_kids4 {S : Nat → Prop} {d1 d2 d3 : Int} {a4 : Option Addr} {p4 : Nat} {d4 : List Int} {d5 : Int} {a6 : Option Addr} {p6 : Nat} {d6 : List Int} {a7 : Option Addr} {p7 : Nat} {d7 : List Term} {w : World} (h4 : SlRd cInt S w a4 p4 d4) (h6 : SlRd cInt S w a6 p6 d6) (h7 : SlRd cTerm S w a7 p7 d7) :
    Calls Tryd.prog 112 #[.agg #[.int .i64 (4 : Int), .int .i64 d1, .int .i64 d2, .int .i64 d3, .slice a4 d4.length p4, .int .i64 d5, .slice a6 d6.length p6, .slice a7 d7.length p7]] w fun e w' => e = .returned (.int .i64 (arI (stmtAr (4, d1, d2, (d3, d4), (d5, d6), d7)))) ∧ Below w.heap.size w w' := by
  have H4 := hid (h4.alloc (.cells #[.int .i64 (4 : Int), .int .i64 d1, .int .i64 d2, .int .i64 d3, .slice a4 d4.length p4, .int .i64 d5, .slice a6 d6.length p6, .slice a7 d7.length p7] 110))
  have H6 := hid (h6.alloc (.cells #[.int .i64 (4 : Int), .int .i64 d1, .int .i64 d2, .int .i64 d3, .slice a4 d4.length p4, .int .i64 d5, .slice a6 d6.length p6, .slice a7 d7.length p7] 110))
  have H7 := hid (h7.alloc (.cells #[.int .i64 (4 : Int), .int .i64 d1, .int .i64 d2, .int .i64 d3, .slice a4 d4.length p4, .int .i64 d5, .slice a6 d6.length p6, .slice a7 d7.length p7] 110))
  have HB : Hid (Below w.heap.size w (w.alloc (.cells #[.int .i64 (4 : Int), .int .i64 d1, .int .i64 d2, .int .i64 d3, .slice a4 d4.length p4, .int .i64 d5, .slice a6 d6.length p6, .slice a7 d7.length p7] 110))) := (Below.refl _ _).alloc (Nat.le_refl _) _
  have t0 : (w.alloc (.cells #[.int .i64 (4 : Int), .int .i64 d1, .int .i64 d2, .int .i64 d3, .slice a4 d4.length p4, .int .i64 d5, .slice a6 d6.length p6, .slice a7 d7.length p7] 110)).cell? ⟨w.heap.size, 0, none⟩ = some (.int .i64 (4 : Int)) := by rw [World.cell?_alloc_at _ _ _ _ rfl]; rfl
  have t1 : (w.alloc (.cells #[.int .i64 (4 : Int), .int .i64 d1, .int .i64 d2, .int .i64 d3, .slice a4 d4.length p4, .int .i64 d5, .slice a6 d6.length p6, .slice a7 d7.length p7] 110)).cell? ⟨w.heap.size, 1, none⟩ = some (.int .i64 d1) := by rw [World.cell?_alloc_at _ _ _ _ rfl]; rfl
  have t2 : (w.alloc (.cells #[.int .i64 (4 : Int), .int .i64 d1, .int .i64 d2, .int .i64 d3, .slice a4 d4.length p4, .int .i64 d5, .slice a6 d6.length p6, .slice a7 d7.length p7] 110)).cell? ⟨w.heap.size, 2, none⟩ = some (.int .i64 d2) := by rw [World.cell?_alloc_at _ _ _ _ rfl]; rfl
  have t3 : (w.alloc (.cells #[.int .i64 (4 : Int), .int .i64 d1, .int .i64 d2, .int .i64 d3, .slice a4 d4.length p4, .int .i64 d5, .slice a6 d6.length p6, .slice a7 d7.length p7] 110)).cell? ⟨w.heap.size, 3, none⟩ = some (.int .i64 d3) := by rw [World.cell?_alloc_at _ _ _ _ rfl]; rfl
  have t4 : (w.alloc (.cells #[.int .i64 (4 : Int), .int .i64 d1, .int .i64 d2, .int .i64 d3, .slice a4 d4.length p4, .int .i64 d5, .slice a6 d6.length p6, .slice a7 d7.length p7] 110)).cell? ⟨w.heap.size, 4, none⟩ = some (.slice a4 d4.length p4) := by rw [World.cell?_alloc_at _ _ _ _ rfl]; rfl
  have t5 : (w.alloc (.cells #[.int .i64 (4 : Int), .int .i64 d1, .int .i64 d2, .int .i64 d3, .slice a4 d4.length p4, .int .i64 d5, .slice a6 d6.length p6, .slice a7 d7.length p7] 110)).cell? ⟨w.heap.size, 5, none⟩ = some (.int .i64 d5) := by rw [World.cell?_alloc_at _ _ _ _ rfl]; rfl
  have t6 : (w.alloc (.cells #[.int .i64 (4 : Int), .int .i64 d1, .int .i64 d2, .int .i64 d3, .slice a4 d4.length p4, .int .i64 d5, .slice a6 d6.length p6, .slice a7 d7.length p7] 110)).cell? ⟨w.heap.size, 6, none⟩ = some (.slice a6 d6.length p6) := by rw [World.cell?_alloc_at _ _ _ _ rfl]; rfl
  have t7 : (w.alloc (.cells #[.int .i64 (4 : Int), .int .i64 d1, .int .i64 d2, .int .i64 d3, .slice a4 d4.length p4, .int .i64 d5, .slice a6 d6.length p6, .slice a7 d7.length p7] 110)).cell? ⟨w.heap.size, 7, none⟩ = some (.slice a7 d7.length p7) := by rw [World.cell?_alloc_at _ _ _ _ rfl]; rfl
  have z0 : w.heap.size < (w.alloc (.cells #[.int .i64 (4 : Int), .int .i64 d1, .int .i64 d2, .int .i64 d3, .slice a4 d4.length p4, .int .i64 d5, .slice a6 d6.length p6, .slice a7 d7.length p7] 110)).heap.size := by simp
  have hl7 := h7.len_le
  clear h4 h6 h7
  have HF0 : Hid (stmtAr (4, d1, d2, (d3, d4), (d5, d6), d7) = if (((((d1 == 0) && (d2 == 0)) && overT (d3, d4)) && overT (d5, d6)) && ((d7.length : Int) == 0)) then some 0 else none) := rfl
  go_enter Tryd.func112, Tryd.ntmps112
  go_wp2_with fail
  generalize (w.alloc (.cells #[.int .i64 (4 : Int), .int .i64 d1, .int .i64 d2, .int .i64 d3, .slice a4 d4.length p4, .int .i64 d5, .slice a6 d6.length p6, .slice a7 d7.length p7] 110)) = W0 at *
  go_region_held3 (fun w' => w'.cell? ⟨w.heap.size, 0, none⟩ = some (.int .i64 (4 : Int)) ∧ w'.cell? ⟨w.heap.size, 1, none⟩ = some (.int .i64 d1) ∧ w'.cell? ⟨w.heap.size, 2, none⟩ = some (.int .i64 d2) ∧ w'.cell? ⟨w.heap.size, 3, none⟩ = some (.int .i64 d3) ∧ w'.cell? ⟨w.heap.size, 4, none⟩ = some (.slice a4 d4.length p4) ∧ w'.cell? ⟨w.heap.size, 5, none⟩ = some (.int .i64 d5) ∧ w'.cell? ⟨w.heap.size, 6, none⟩ = some (.slice a6 d6.length p6) ∧ w'.cell? ⟨w.heap.size, 7, none⟩ = some (.slice a7 d7.length p7)) (first | exact ⟨t0, t1, t2, t3, t4, t5, t6, t7⟩ | exact kk1 | exact kk2) (first | (have hkk := kk1; clear hkk; go_at_call 117; refine (c_isZero _ _ _ _ _).mono ?_; rintro e w2 ⟨rfl, hb2⟩; have kk2 := And.intro (cell_below hb2 z1 (kk1.1)) (And.intro (cell_below hb2 z1 (kk1.2.1)) (And.intro (cell_below hb2 z1 (kk1.2.2.1)) (And.intro (cell_below hb2 z1 (kk1.2.2.2.1)) (And.intro (cell_below hb2 z1 (kk1.2.2.2.2.1)) (And.intro (cell_below hb2 z1 (kk1.2.2.2.2.2.1)) (And.intro (cell_below hb2 z1 (kk1.2.2.2.2.2.2.1)) (cell_below hb2 z1 (kk1.2.2.2.2.2.2.2)))))))); have H42 := hid (H41.out.below (Nat.le_refl _) hb2); have H62 := hid (H61.out.below (Nat.le_refl _) hb2); have H72 := hid (H71.out.below (Nat.le_refl _) hb2); have HB2 := hid (bel_next HB1.out HB1.out.size hb2); clear hb2) | (go_at_call 117; refine (c_isZero _ _ _ _ _).mono ?_; rintro e w1 ⟨rfl, hb1⟩; have kk1 := And.intro (cell_below hb1 z0 t0) (And.intro (cell_below hb1 z0 t1) (And.intro (cell_below hb1 z0 t2) (And.intro (cell_below hb1 z0 t3) (And.intro (cell_below hb1 z0 t4) (And.intro (cell_below hb1 z0 t5) (And.intro (cell_below hb1 z0 t6) (cell_below hb1 z0 t7))))))); have z1 := Nat.lt_of_lt_of_le z0 hb1.size; have H41 := hid (H4.out.drew.below (Nat.le_refl _) hb1); have H61 := hid (H6.out.drew.below (Nat.le_refl _) hb1); have H71 := hid (H7.out.drew.below (Nat.le_refl _) hb1); have HB1 := hid (bel_next HB.out.drew HB.out.drew.size hb1); clear hb1))
  generalize hqV : (d1 == 0) = V at HF0 ⊢
  generalize hqE : (d2 == 0) = E at HF0 ⊢
  generalize hqZ : (d3 == 0 && ((d4.length : Int) == 0)) = Z at HF0 ⊢
  generalize hqX : (d5 == 0 && ((d6.length : Int) == 0)) = X at HF0 ⊢
  generalize hqF : ((d7.length : Int) == 0) = F at HF0 ⊢
  clear hqV hqE hqZ hqX hqF
  clear t0 t1 t2 t3 t4 t5 t6 t7 z0 z1 H4 H6 H7 HB kk1 H41 H61 H71 HB1
  obtain ⟨k0, k1, k2, k3, k4, k5, k6, k7⟩ := kk2
  obtain ⟨s, hs⟩ : ∃ s, overT (d3, d4) = s := ⟨_, rfl⟩
  have Hs := hid hs
  rw [hs] at HF0
  clear hs
  obtain ⟨x, hx⟩ : ∃ x, overT (d5, d6) = x := ⟨_, rfl⟩
  have Hx := hid hx
  rw [hx] at HF0
  clear hx
  go_wp2_with (first | (have hkk := HB3; clear hkk; go_at_call 82; refine (c_isOver _ _ _ _ _ H63.out).mono ?_; rintro e' w4 ⟨rfl, hb4⟩; rw [Hx.out]; have HB4 := hid (bel_next HB3.out HB3.out.size hb4); clear hb4) | (go_at_call 82; refine (c_isOver _ _ _ _ _ H42.out).mono ?_; rintro e' w3 ⟨rfl, hb3⟩; rw [Hs.out]; have H63 := hid (H62.out.below (Nat.le_refl _) hb3); have H73 := hid (H72.out.below (Nat.le_refl _) hb3); have k53 := cell_below hb3 (cell_lt k5) k5; have k63 := cell_below hb3 (cell_lt k6) k6; have HB3 := hid (bel_next HB2.out HB2.out.size hb3); clear hb3))
  all_goals
    go_ret
    first
      | exact ⟨ret_int (by rw [HF0.out]; simp [*, arI]), HB4.out⟩
      | exact ⟨ret_int (by rw [HF0.out]; simp [*, arI]), HB3.out⟩
      | exact ⟨ret_int (by rw [HF0.out]; simp [*, arI]), HB2.out⟩
set_option maxHeartbeats 1000000 in
set_option maxRecDepth 100000 in
theorem c_kids5 {S : Nat → Prop} {d1 d2 d3 : Int} {a4 : Option Addr} {p4 : Nat} {d4 : List Int} {d5 : Int} {a6 : Option Addr} {p6 : Nat} {d6 : List Int} {a7 : Option Addr} {p7 : Nat} {d7 : List Term} {w : World} (h4 : SlRd cInt S w a4 p4 d4) (h6 : SlRd cInt S w a6 p6 d6) (h7 : SlRd cTerm S w a7 p7 d7) :
    Calls Tryd.prog 112 #[.agg #[.int .i64 (5 : Int), .int .i64 d1, .int .i64 d2, .int .i64 d3, .slice a4 d4.length p4, .int .i64 d5, .slice a6 d6.length p6, .slice a7 d7.length p7]] w fun e w' => e = .returned (.int .i64 (arI (stmtAr (5, d1, d2, (d3, d4), (d5, d6), d7)))) ∧ Below w.heap.size w w' := by
  have H4 := hid (h4.alloc (.cells #[.int .i64 (5 : Int), .int .i64 d1, .int .i64 d2, .int .i64 d3, .slice a4 d4.length p4, .int .i64 d5, .slice a6 d6.length p6, .slice a7 d7.length p7] 110))
  have H6 := hid (h6.alloc (.cells #[.int .i64 (5 : Int), .int .i64 d1, .int .i64 d2, .int .i64 d3, .slice a4 d4.length p4, .int .i64 d5, .slice a6 d6.length p6, .slice a7 d7.length p7] 110))
  have H7 := hid (h7.alloc (.cells #[.int .i64 (5 : Int), .int .i64 d1, .int .i64 d2, .int .i64 d3, .slice a4 d4.length p4, .int .i64 d5, .slice a6 d6.length p6, .slice a7 d7.length p7] 110))
  have HB : Hid (Below w.heap.size w (w.alloc (.cells #[.int .i64 (5 : Int), .int .i64 d1, .int .i64 d2, .int .i64 d3, .slice a4 d4.length p4, .int .i64 d5, .slice a6 d6.length p6, .slice a7 d7.length p7] 110))) := (Below.refl _ _).alloc (Nat.le_refl _) _
  have t0 : (w.alloc (.cells #[.int .i64 (5 : Int), .int .i64 d1, .int .i64 d2, .int .i64 d3, .slice a4 d4.length p4, .int .i64 d5, .slice a6 d6.length p6, .slice a7 d7.length p7] 110)).cell? ⟨w.heap.size, 0, none⟩ = some (.int .i64 (5 : Int)) := by rw [World.cell?_alloc_at _ _ _ _ rfl]; rfl
  have t1 : (w.alloc (.cells #[.int .i64 (5 : Int), .int .i64 d1, .int .i64 d2, .int .i64 d3, .slice a4 d4.length p4, .int .i64 d5, .slice a6 d6.length p6, .slice a7 d7.length p7] 110)).cell? ⟨w.heap.size, 1, none⟩ = some (.int .i64 d1) := by rw [World.cell?_alloc_at _ _ _ _ rfl]; rfl
  have t2 : (w.alloc (.cells #[.int .i64 (5 : Int), .int .i64 d1, .int .i64 d2, .int .i64 d3, .slice a4 d4.length p4, .int .i64 d5, .slice a6 d6.length p6, .slice a7 d7.length p7] 110)).cell? ⟨w.heap.size, 2, none⟩ = some (.int .i64 d2) := by rw [World.cell?_alloc_at _ _ _ _ rfl]; rfl
  have t3 : (w.alloc (.cells #[.int .i64 (5 : Int), .int .i64 d1, .int .i64 d2, .int .i64 d3, .slice a4 d4.length p4, .int .i64 d5, .slice a6 d6.length p6, .slice a7 d7.length p7] 110)).cell? ⟨w.heap.size, 3, none⟩ = some (.int .i64 d3) := by rw [World.cell?_alloc_at _ _ _ _ rfl]; rfl
  have t4 : (w.alloc (.cells #[.int .i64 (5 : Int), .int .i64 d1, .int .i64 d2, .int .i64 d3, .slice a4 d4.length p4, .int .i64 d5, .slice a6 d6.length p6, .slice a7 d7.length p7] 110)).cell? ⟨w.heap.size, 4, none⟩ = some (.slice a4 d4.length p4) := by rw [World.cell?_alloc_at _ _ _ _ rfl]; rfl
  have t5 : (w.alloc (.cells #[.int .i64 (5 : Int), .int .i64 d1, .int .i64 d2, .int .i64 d3, .slice a4 d4.length p4, .int .i64 d5, .slice a6 d6.length p6, .slice a7 d7.length p7] 110)).cell? ⟨w.heap.size, 5, none⟩ = some (.int .i64 d5) := by rw [World.cell?_alloc_at _ _ _ _ rfl]; rfl
  have t6 : (w.alloc (.cells #[.int .i64 (5 : Int), .int .i64 d1, .int .i64 d2, .int .i64 d3, .slice a4 d4.length p4, .int .i64 d5, .slice a6 d6.length p6, .slice a7 d7.length p7] 110)).cell? ⟨w.heap.size, 6, none⟩ = some (.slice a6 d6.length p6) := by rw [World.cell?_alloc_at _ _ _ _ rfl]; rfl
  have t7 : (w.alloc (.cells #[.int .i64 (5 : Int), .int .i64 d1, .int .i64 d2, .int .i64 d3, .slice a4 d4.length p4, .int .i64 d5, .slice a6 d6.length p6, .slice a7 d7.length p7] 110)).cell? ⟨w.heap.size, 7, none⟩ = some (.slice a7 d7.length p7) := by rw [World.cell?_alloc_at _ _ _ _ rfl]; rfl
  have z0 : w.heap.size < (w.alloc (.cells #[.int .i64 (5 : Int), .int .i64 d1, .int .i64 d2, .int .i64 d3, .slice a4 d4.length p4, .int .i64 d5, .slice a6 d6.length p6, .slice a7 d7.length p7] 110)).heap.size := by simp
  have hl7 := h7.len_le
  clear h4 h6 h7
  have HF0 : Hid (stmtAr (5, d1, d2, (d3, d4), (d5, d6), d7) = if (((((d1 == 0) && inB d2 0 3) && (d3 == 0 && ((d4.length : Int) == 0))) && (d5 == 0 && ((d6.length : Int) == 0))) && ((d7.length : Int) == 0)) then some 0 else none) := rfl
  go_enter Tryd.func112, Tryd.ntmps112
  go_wp2_with fail
  generalize (w.alloc (.cells #[.int .i64 (5 : Int), .int .i64 d1, .int .i64 d2, .int .i64 d3, .slice a4 d4.length p4, .int .i64 d5, .slice a6 d6.length p6, .slice a7 d7.length p7] 110)) = W0 at *
  go_region_held3 (fun w' => w'.cell? ⟨w.heap.size, 0, none⟩ = some (.int .i64 (5 : Int)) ∧ w'.cell? ⟨w.heap.size, 1, none⟩ = some (.int .i64 d1) ∧ w'.cell? ⟨w.heap.size, 2, none⟩ = some (.int .i64 d2) ∧ w'.cell? ⟨w.heap.size, 3, none⟩ = some (.int .i64 d3) ∧ w'.cell? ⟨w.heap.size, 4, none⟩ = some (.slice a4 d4.length p4) ∧ w'.cell? ⟨w.heap.size, 5, none⟩ = some (.int .i64 d5) ∧ w'.cell? ⟨w.heap.size, 6, none⟩ = some (.slice a6 d6.length p6) ∧ w'.cell? ⟨w.heap.size, 7, none⟩ = some (.slice a7 d7.length p7)) (first | exact ⟨t0, t1, t2, t3, t4, t5, t6, t7⟩ | exact kk1 | exact kk2) (first | (have hkk := kk1; clear hkk; go_at_call 117; refine (c_isZero _ _ _ _ _).mono ?_; rintro e w2 ⟨rfl, hb2⟩; have kk2 := And.intro (cell_below hb2 z1 (kk1.1)) (And.intro (cell_below hb2 z1 (kk1.2.1)) (And.intro (cell_below hb2 z1 (kk1.2.2.1)) (And.intro (cell_below hb2 z1 (kk1.2.2.2.1)) (And.intro (cell_below hb2 z1 (kk1.2.2.2.2.1)) (And.intro (cell_below hb2 z1 (kk1.2.2.2.2.2.1)) (And.intro (cell_below hb2 z1 (kk1.2.2.2.2.2.2.1)) (cell_below hb2 z1 (kk1.2.2.2.2.2.2.2)))))))); have H42 := hid (H41.out.below (Nat.le_refl _) hb2); have H62 := hid (H61.out.below (Nat.le_refl _) hb2); have H72 := hid (H71.out.below (Nat.le_refl _) hb2); have HB2 := hid (bel_next HB1.out HB1.out.size hb2); clear hb2) | (go_at_call 117; refine (c_isZero _ _ _ _ _).mono ?_; rintro e w1 ⟨rfl, hb1⟩; have kk1 := And.intro (cell_below hb1 z0 t0) (And.intro (cell_below hb1 z0 t1) (And.intro (cell_below hb1 z0 t2) (And.intro (cell_below hb1 z0 t3) (And.intro (cell_below hb1 z0 t4) (And.intro (cell_below hb1 z0 t5) (And.intro (cell_below hb1 z0 t6) (cell_below hb1 z0 t7))))))); have z1 := Nat.lt_of_lt_of_le z0 hb1.size; have H41 := hid (H4.out.drew.below (Nat.le_refl _) hb1); have H61 := hid (H6.out.drew.below (Nat.le_refl _) hb1); have H71 := hid (H7.out.drew.below (Nat.le_refl _) hb1); have HB1 := hid (bel_next HB.out.drew HB.out.drew.size hb1); clear hb1))
  generalize hqV : (d1 == 0) = V at HF0 ⊢
  generalize hqE : (d2 == 0) = E at HF0 ⊢
  generalize hqZ : (d3 == 0 && ((d4.length : Int) == 0)) = Z at HF0 ⊢
  generalize hqX : (d5 == 0 && ((d6.length : Int) == 0)) = X at HF0 ⊢
  generalize hqF : ((d7.length : Int) == 0) = F at HF0 ⊢
  clear hqV hqE hqZ hqX hqF
  clear t0 t1 t2 t3 t4 t5 t6 t7 z0 z1 H4 H6 H7 HB kk1 H41 H61 H71 HB1
  obtain ⟨k0, k1, k2, k3, k4, k5, k6, k7⟩ := kk2
  obtain ⟨e, he⟩ : ∃ e, inB d2 0 3 = e := ⟨_, rfl⟩
  have He := hid he
  rw [he] at HF0
  clear he
  go_wp2_with (first | (go_at_call 105; refine (c_isEvent _ _).mono ?_; rintro e' w' ⟨rfl, rfl⟩; rw [He.out]))
  all_goals
    go_ret
    first
      | exact ⟨ret_int (by rw [HF0.out]; simp [*, arI]), HB4.out⟩
      | exact ⟨ret_int (by rw [HF0.out]; simp [*, arI]), HB3.out⟩
      | exact ⟨ret_int (by rw [HF0.out]; simp [*, arI]), HB2.out⟩
set_option maxHeartbeats 1000000 in
set_option maxRecDepth 100000 in
theorem c_kids6 {S : Nat → Prop} {d1 d2 d3 : Int} {a4 : Option Addr} {p4 : Nat} {d4 : List Int} {d5 : Int} {a6 : Option Addr} {p6 : Nat} {d6 : List Int} {a7 : Option Addr} {p7 : Nat} {d7 : List Term} {w : World} (h4 : SlRd cInt S w a4 p4 d4) (h6 : SlRd cInt S w a6 p6 d6) (h7 : SlRd cTerm S w a7 p7 d7) :
    Calls Tryd.prog 112 #[.agg #[.int .i64 (6 : Int), .int .i64 d1, .int .i64 d2, .int .i64 d3, .slice a4 d4.length p4, .int .i64 d5, .slice a6 d6.length p6, .slice a7 d7.length p7]] w fun e w' => e = .returned (.int .i64 (arI (stmtAr (6, d1, d2, (d3, d4), (d5, d6), d7)))) ∧ Below w.heap.size w w' := by
  have H4 := hid (h4.alloc (.cells #[.int .i64 (6 : Int), .int .i64 d1, .int .i64 d2, .int .i64 d3, .slice a4 d4.length p4, .int .i64 d5, .slice a6 d6.length p6, .slice a7 d7.length p7] 110))
  have H6 := hid (h6.alloc (.cells #[.int .i64 (6 : Int), .int .i64 d1, .int .i64 d2, .int .i64 d3, .slice a4 d4.length p4, .int .i64 d5, .slice a6 d6.length p6, .slice a7 d7.length p7] 110))
  have H7 := hid (h7.alloc (.cells #[.int .i64 (6 : Int), .int .i64 d1, .int .i64 d2, .int .i64 d3, .slice a4 d4.length p4, .int .i64 d5, .slice a6 d6.length p6, .slice a7 d7.length p7] 110))
  have HB : Hid (Below w.heap.size w (w.alloc (.cells #[.int .i64 (6 : Int), .int .i64 d1, .int .i64 d2, .int .i64 d3, .slice a4 d4.length p4, .int .i64 d5, .slice a6 d6.length p6, .slice a7 d7.length p7] 110))) := (Below.refl _ _).alloc (Nat.le_refl _) _
  have t0 : (w.alloc (.cells #[.int .i64 (6 : Int), .int .i64 d1, .int .i64 d2, .int .i64 d3, .slice a4 d4.length p4, .int .i64 d5, .slice a6 d6.length p6, .slice a7 d7.length p7] 110)).cell? ⟨w.heap.size, 0, none⟩ = some (.int .i64 (6 : Int)) := by rw [World.cell?_alloc_at _ _ _ _ rfl]; rfl
  have t1 : (w.alloc (.cells #[.int .i64 (6 : Int), .int .i64 d1, .int .i64 d2, .int .i64 d3, .slice a4 d4.length p4, .int .i64 d5, .slice a6 d6.length p6, .slice a7 d7.length p7] 110)).cell? ⟨w.heap.size, 1, none⟩ = some (.int .i64 d1) := by rw [World.cell?_alloc_at _ _ _ _ rfl]; rfl
  have t2 : (w.alloc (.cells #[.int .i64 (6 : Int), .int .i64 d1, .int .i64 d2, .int .i64 d3, .slice a4 d4.length p4, .int .i64 d5, .slice a6 d6.length p6, .slice a7 d7.length p7] 110)).cell? ⟨w.heap.size, 2, none⟩ = some (.int .i64 d2) := by rw [World.cell?_alloc_at _ _ _ _ rfl]; rfl
  have t3 : (w.alloc (.cells #[.int .i64 (6 : Int), .int .i64 d1, .int .i64 d2, .int .i64 d3, .slice a4 d4.length p4, .int .i64 d5, .slice a6 d6.length p6, .slice a7 d7.length p7] 110)).cell? ⟨w.heap.size, 3, none⟩ = some (.int .i64 d3) := by rw [World.cell?_alloc_at _ _ _ _ rfl]; rfl
  have t4 : (w.alloc (.cells #[.int .i64 (6 : Int), .int .i64 d1, .int .i64 d2, .int .i64 d3, .slice a4 d4.length p4, .int .i64 d5, .slice a6 d6.length p6, .slice a7 d7.length p7] 110)).cell? ⟨w.heap.size, 4, none⟩ = some (.slice a4 d4.length p4) := by rw [World.cell?_alloc_at _ _ _ _ rfl]; rfl
  have t5 : (w.alloc (.cells #[.int .i64 (6 : Int), .int .i64 d1, .int .i64 d2, .int .i64 d3, .slice a4 d4.length p4, .int .i64 d5, .slice a6 d6.length p6, .slice a7 d7.length p7] 110)).cell? ⟨w.heap.size, 5, none⟩ = some (.int .i64 d5) := by rw [World.cell?_alloc_at _ _ _ _ rfl]; rfl
  have t6 : (w.alloc (.cells #[.int .i64 (6 : Int), .int .i64 d1, .int .i64 d2, .int .i64 d3, .slice a4 d4.length p4, .int .i64 d5, .slice a6 d6.length p6, .slice a7 d7.length p7] 110)).cell? ⟨w.heap.size, 6, none⟩ = some (.slice a6 d6.length p6) := by rw [World.cell?_alloc_at _ _ _ _ rfl]; rfl
  have t7 : (w.alloc (.cells #[.int .i64 (6 : Int), .int .i64 d1, .int .i64 d2, .int .i64 d3, .slice a4 d4.length p4, .int .i64 d5, .slice a6 d6.length p6, .slice a7 d7.length p7] 110)).cell? ⟨w.heap.size, 7, none⟩ = some (.slice a7 d7.length p7) := by rw [World.cell?_alloc_at _ _ _ _ rfl]; rfl
  have z0 : w.heap.size < (w.alloc (.cells #[.int .i64 (6 : Int), .int .i64 d1, .int .i64 d2, .int .i64 d3, .slice a4 d4.length p4, .int .i64 d5, .slice a6 d6.length p6, .slice a7 d7.length p7] 110)).heap.size := by simp
  have hl7 := h7.len_le
  clear h4 h6 h7
  have HF0 : Hid (stmtAr (6, d1, d2, (d3, d4), (d5, d6), d7) = if (((((d1 == 0) && (d2 == 0)) && overT (d3, d4)) && (d5 == 0 && ((d6.length : Int) == 0))) && ((d7.length : Int) == 0)) then some 0 else none) := rfl
  go_enter Tryd.func112, Tryd.ntmps112
  go_wp2_with fail
  generalize (w.alloc (.cells #[.int .i64 (6 : Int), .int .i64 d1, .int .i64 d2, .int .i64 d3, .slice a4 d4.length p4, .int .i64 d5, .slice a6 d6.length p6, .slice a7 d7.length p7] 110)) = W0 at *
  go_region_held3 (fun w' => w'.cell? ⟨w.heap.size, 0, none⟩ = some (.int .i64 (6 : Int)) ∧ w'.cell? ⟨w.heap.size, 1, none⟩ = some (.int .i64 d1) ∧ w'.cell? ⟨w.heap.size, 2, none⟩ = some (.int .i64 d2) ∧ w'.cell? ⟨w.heap.size, 3, none⟩ = some (.int .i64 d3) ∧ w'.cell? ⟨w.heap.size, 4, none⟩ = some (.slice a4 d4.length p4) ∧ w'.cell? ⟨w.heap.size, 5, none⟩ = some (.int .i64 d5) ∧ w'.cell? ⟨w.heap.size, 6, none⟩ = some (.slice a6 d6.length p6) ∧ w'.cell? ⟨w.heap.size, 7, none⟩ = some (.slice a7 d7.length p7)) (first | exact ⟨t0, t1, t2, t3, t4, t5, t6, t7⟩ | exact kk1 | exact kk2) (first | (have hkk := kk1; clear hkk; go_at_call 117; refine (c_isZero _ _ _ _ _).mono ?_; rintro e w2 ⟨rfl, hb2⟩; have kk2 := And.intro (cell_below hb2 z1 (kk1.1)) (And.intro (cell_below hb2 z1 (kk1.2.1)) (And.intro (cell_below hb2 z1 (kk1.2.2.1)) (And.intro (cell_below hb2 z1 (kk1.2.2.2.1)) (And.intro (cell_below hb2 z1 (kk1.2.2.2.2.1)) (And.intro (cell_below hb2 z1 (kk1.2.2.2.2.2.1)) (And.intro (cell_below hb2 z1 (kk1.2.2.2.2.2.2.1)) (cell_below hb2 z1 (kk1.2.2.2.2.2.2.2)))))))); have H42 := hid (H41.out.below (Nat.le_refl _) hb2); have H62 := hid (H61.out.below (Nat.le_refl _) hb2); have H72 := hid (H71.out.below (Nat.le_refl _) hb2); have HB2 := hid (bel_next HB1.out HB1.out.size hb2); clear hb2) | (go_at_call 117; refine (c_isZero _ _ _ _ _).mono ?_; rintro e w1 ⟨rfl, hb1⟩; have kk1 := And.intro (cell_below hb1 z0 t0) (And.intro (cell_below hb1 z0 t1) (And.intro (cell_below hb1 z0 t2) (And.intro (cell_below hb1 z0 t3) (And.intro (cell_below hb1 z0 t4) (And.intro (cell_below hb1 z0 t5) (And.intro (cell_below hb1 z0 t6) (cell_below hb1 z0 t7))))))); have z1 := Nat.lt_of_lt_of_le z0 hb1.size; have H41 := hid (H4.out.drew.below (Nat.le_refl _) hb1); have H61 := hid (H6.out.drew.below (Nat.le_refl _) hb1); have H71 := hid (H7.out.drew.below (Nat.le_refl _) hb1); have HB1 := hid (bel_next HB.out.drew HB.out.drew.size hb1); clear hb1))
  generalize hqV : (d1 == 0) = V at HF0 ⊢
  generalize hqE : (d2 == 0) = E at HF0 ⊢
  generalize hqZ : (d3 == 0 && ((d4.length : Int) == 0)) = Z at HF0 ⊢
  generalize hqX : (d5 == 0 && ((d6.length : Int) == 0)) = X at HF0 ⊢
  generalize hqF : ((d7.length : Int) == 0) = F at HF0 ⊢
  clear hqV hqE hqZ hqX hqF
  clear t0 t1 t2 t3 t4 t5 t6 t7 z0 z1 H4 H6 H7 HB kk1 H41 H61 H71 HB1
  obtain ⟨k0, k1, k2, k3, k4, k5, k6, k7⟩ := kk2
  obtain ⟨s, hs⟩ : ∃ s, overT (d3, d4) = s := ⟨_, rfl⟩
  have Hs := hid hs
  rw [hs] at HF0
  clear hs
  go_wp2_with (first | (go_at_call 82; refine (c_isOver _ _ _ _ _ H42.out).mono ?_; rintro e' w3 ⟨rfl, hb3⟩; rw [Hs.out]; have H63 := hid (H62.out.below (Nat.le_refl _) hb3); have H73 := hid (H72.out.below (Nat.le_refl _) hb3); have HB3 := hid (bel_next HB2.out HB2.out.size hb3); clear hb3))
  all_goals
    go_ret
    first
      | exact ⟨ret_int (by rw [HF0.out]; simp [*, arI]), HB4.out⟩
      | exact ⟨ret_int (by rw [HF0.out]; simp [*, arI]), HB3.out⟩
      | exact ⟨ret_int (by rw [HF0.out]; simp [*, arI]), HB2.out⟩
set_option maxHeartbeats 1000000 in
set_option maxRecDepth 100000 in
theorem c_kids7 {S : Nat → Prop} {d1 d2 d3 : Int} {a4 : Option Addr} {p4 : Nat} {d4 : List Int} {d5 : Int} {a6 : Option Addr} {p6 : Nat} {d6 : List Int} {a7 : Option Addr} {p7 : Nat} {d7 : List Term} {w : World} (h4 : SlRd cInt S w a4 p4 d4) (h6 : SlRd cInt S w a6 p6 d6) (h7 : SlRd cTerm S w a7 p7 d7) :
    Calls Tryd.prog 112 #[.agg #[.int .i64 (7 : Int), .int .i64 d1, .int .i64 d2, .int .i64 d3, .slice a4 d4.length p4, .int .i64 d5, .slice a6 d6.length p6, .slice a7 d7.length p7]] w fun e w' => e = .returned (.int .i64 (arI (stmtAr (7, d1, d2, (d3, d4), (d5, d6), d7)))) ∧ Below w.heap.size w w' := by
  have H4 := hid (h4.alloc (.cells #[.int .i64 (7 : Int), .int .i64 d1, .int .i64 d2, .int .i64 d3, .slice a4 d4.length p4, .int .i64 d5, .slice a6 d6.length p6, .slice a7 d7.length p7] 110))
  have H6 := hid (h6.alloc (.cells #[.int .i64 (7 : Int), .int .i64 d1, .int .i64 d2, .int .i64 d3, .slice a4 d4.length p4, .int .i64 d5, .slice a6 d6.length p6, .slice a7 d7.length p7] 110))
  have H7 := hid (h7.alloc (.cells #[.int .i64 (7 : Int), .int .i64 d1, .int .i64 d2, .int .i64 d3, .slice a4 d4.length p4, .int .i64 d5, .slice a6 d6.length p6, .slice a7 d7.length p7] 110))
  have HB : Hid (Below w.heap.size w (w.alloc (.cells #[.int .i64 (7 : Int), .int .i64 d1, .int .i64 d2, .int .i64 d3, .slice a4 d4.length p4, .int .i64 d5, .slice a6 d6.length p6, .slice a7 d7.length p7] 110))) := (Below.refl _ _).alloc (Nat.le_refl _) _
  have t0 : (w.alloc (.cells #[.int .i64 (7 : Int), .int .i64 d1, .int .i64 d2, .int .i64 d3, .slice a4 d4.length p4, .int .i64 d5, .slice a6 d6.length p6, .slice a7 d7.length p7] 110)).cell? ⟨w.heap.size, 0, none⟩ = some (.int .i64 (7 : Int)) := by rw [World.cell?_alloc_at _ _ _ _ rfl]; rfl
  have t1 : (w.alloc (.cells #[.int .i64 (7 : Int), .int .i64 d1, .int .i64 d2, .int .i64 d3, .slice a4 d4.length p4, .int .i64 d5, .slice a6 d6.length p6, .slice a7 d7.length p7] 110)).cell? ⟨w.heap.size, 1, none⟩ = some (.int .i64 d1) := by rw [World.cell?_alloc_at _ _ _ _ rfl]; rfl
  have t2 : (w.alloc (.cells #[.int .i64 (7 : Int), .int .i64 d1, .int .i64 d2, .int .i64 d3, .slice a4 d4.length p4, .int .i64 d5, .slice a6 d6.length p6, .slice a7 d7.length p7] 110)).cell? ⟨w.heap.size, 2, none⟩ = some (.int .i64 d2) := by rw [World.cell?_alloc_at _ _ _ _ rfl]; rfl
  have t3 : (w.alloc (.cells #[.int .i64 (7 : Int), .int .i64 d1, .int .i64 d2, .int .i64 d3, .slice a4 d4.length p4, .int .i64 d5, .slice a6 d6.length p6, .slice a7 d7.length p7] 110)).cell? ⟨w.heap.size, 3, none⟩ = some (.int .i64 d3) := by rw [World.cell?_alloc_at _ _ _ _ rfl]; rfl
  have t4 : (w.alloc (.cells #[.int .i64 (7 : Int), .int .i64 d1, .int .i64 d2, .int .i64 d3, .slice a4 d4.length p4, .int .i64 d5, .slice a6 d6.length p6, .slice a7 d7.length p7] 110)).cell? ⟨w.heap.size, 4, none⟩ = some (.slice a4 d4.length p4) := by rw [World.cell?_alloc_at _ _ _ _ rfl]; rfl
  have t5 : (w.alloc (.cells #[.int .i64 (7 : Int), .int .i64 d1, .int .i64 d2, .int .i64 d3, .slice a4 d4.length p4, .int .i64 d5, .slice a6 d6.length p6, .slice a7 d7.length p7] 110)).cell? ⟨w.heap.size, 5, none⟩ = some (.int .i64 d5) := by rw [World.cell?_alloc_at _ _ _ _ rfl]; rfl
  have t6 : (w.alloc (.cells #[.int .i64 (7 : Int), .int .i64 d1, .int .i64 d2, .int .i64 d3, .slice a4 d4.length p4, .int .i64 d5, .slice a6 d6.length p6, .slice a7 d7.length p7] 110)).cell? ⟨w.heap.size, 6, none⟩ = some (.slice a6 d6.length p6) := by rw [World.cell?_alloc_at _ _ _ _ rfl]; rfl
  have t7 : (w.alloc (.cells #[.int .i64 (7 : Int), .int .i64 d1, .int .i64 d2, .int .i64 d3, .slice a4 d4.length p4, .int .i64 d5, .slice a6 d6.length p6, .slice a7 d7.length p7] 110)).cell? ⟨w.heap.size, 7, none⟩ = some (.slice a7 d7.length p7) := by rw [World.cell?_alloc_at _ _ _ _ rfl]; rfl
  have z0 : w.heap.size < (w.alloc (.cells #[.int .i64 (7 : Int), .int .i64 d1, .int .i64 d2, .int .i64 d3, .slice a4 d4.length p4, .int .i64 d5, .slice a6 d6.length p6, .slice a7 d7.length p7] 110)).heap.size := by simp
  have hl7 := h7.len_le
  clear h4 h6 h7
  have HF0 : Hid (stmtAr (7, d1, d2, (d3, d4), (d5, d6), d7) = if (((((d1 == 0) && (d2 == 0)) && overT (d3, d4)) && (d5 == 0 && ((d6.length : Int) == 0))) && ((d7.length : Int) == 0)) then some 2 else none) := rfl
  go_enter Tryd.func112, Tryd.ntmps112
  go_wp2_with fail
  generalize (w.alloc (.cells #[.int .i64 (7 : Int), .int .i64 d1, .int .i64 d2, .int .i64 d3, .slice a4 d4.length p4, .int .i64 d5, .slice a6 d6.length p6, .slice a7 d7.length p7] 110)) = W0 at *
  go_region_held3 (fun w' => w'.cell? ⟨w.heap.size, 0, none⟩ = some (.int .i64 (7 : Int)) ∧ w'.cell? ⟨w.heap.size, 1, none⟩ = some (.int .i64 d1) ∧ w'.cell? ⟨w.heap.size, 2, none⟩ = some (.int .i64 d2) ∧ w'.cell? ⟨w.heap.size, 3, none⟩ = some (.int .i64 d3) ∧ w'.cell? ⟨w.heap.size, 4, none⟩ = some (.slice a4 d4.length p4) ∧ w'.cell? ⟨w.heap.size, 5, none⟩ = some (.int .i64 d5) ∧ w'.cell? ⟨w.heap.size, 6, none⟩ = some (.slice a6 d6.length p6) ∧ w'.cell? ⟨w.heap.size, 7, none⟩ = some (.slice a7 d7.length p7)) (first | exact ⟨t0, t1, t2, t3, t4, t5, t6, t7⟩ | exact kk1 | exact kk2) (first | (have hkk := kk1; clear hkk; go_at_call 117; refine (c_isZero _ _ _ _ _).mono ?_; rintro e w2 ⟨rfl, hb2⟩; have kk2 := And.intro (cell_below hb2 z1 (kk1.1)) (And.intro (cell_below hb2 z1 (kk1.2.1)) (And.intro (cell_below hb2 z1 (kk1.2.2.1)) (And.intro (cell_below hb2 z1 (kk1.2.2.2.1)) (And.intro (cell_below hb2 z1 (kk1.2.2.2.2.1)) (And.intro (cell_below hb2 z1 (kk1.2.2.2.2.2.1)) (And.intro (cell_below hb2 z1 (kk1.2.2.2.2.2.2.1)) (cell_below hb2 z1 (kk1.2.2.2.2.2.2.2)))))))); have H42 := hid (H41.out.below (Nat.le_refl _) hb2); have H62 := hid (H61.out.below (Nat.le_refl _) hb2); have H72 := hid (H71.out.below (Nat.le_refl _) hb2); have HB2 := hid (bel_next HB1.out HB1.out.size hb2); clear hb2) | (go_at_call 117; refine (c_isZero _ _ _ _ _).mono ?_; rintro e w1 ⟨rfl, hb1⟩; have kk1 := And.intro (cell_below hb1 z0 t0) (And.intro (cell_below hb1 z0 t1) (And.intro (cell_below hb1 z0 t2) (And.intro (cell_below hb1 z0 t3) (And.intro (cell_below hb1 z0 t4) (And.intro (cell_below hb1 z0 t5) (And.intro (cell_below hb1 z0 t6) (cell_below hb1 z0 t7))))))); have z1 := Nat.lt_of_lt_of_le z0 hb1.size; have H41 := hid (H4.out.drew.below (Nat.le_refl _) hb1); have H61 := hid (H6.out.drew.below (Nat.le_refl _) hb1); have H71 := hid (H7.out.drew.below (Nat.le_refl _) hb1); have HB1 := hid (bel_next HB.out.drew HB.out.drew.size hb1); clear hb1))
  generalize hqV : (d1 == 0) = V at HF0 ⊢
  generalize hqE : (d2 == 0) = E at HF0 ⊢
  generalize hqZ : (d3 == 0 && ((d4.length : Int) == 0)) = Z at HF0 ⊢
  generalize hqX : (d5 == 0 && ((d6.length : Int) == 0)) = X at HF0 ⊢
  generalize hqF : ((d7.length : Int) == 0) = F at HF0 ⊢
  clear hqV hqE hqZ hqX hqF
  clear t0 t1 t2 t3 t4 t5 t6 t7 z0 z1 H4 H6 H7 HB kk1 H41 H61 H71 HB1
  obtain ⟨k0, k1, k2, k3, k4, k5, k6, k7⟩ := kk2
  obtain ⟨s, hs⟩ : ∃ s, overT (d3, d4) = s := ⟨_, rfl⟩
  have Hs := hid hs
  rw [hs] at HF0
  clear hs
  go_wp2_with (first | (go_at_call 82; refine (c_isOver _ _ _ _ _ H42.out).mono ?_; rintro e' w3 ⟨rfl, hb3⟩; rw [Hs.out]; have H63 := hid (H62.out.below (Nat.le_refl _) hb3); have H73 := hid (H72.out.below (Nat.le_refl _) hb3); have HB3 := hid (bel_next HB2.out HB2.out.size hb3); clear hb3))
  all_goals
    go_ret
    first
      | exact ⟨ret_int (by rw [HF0.out]; simp [*, arI]), HB4.out⟩
      | exact ⟨ret_int (by rw [HF0.out]; simp [*, arI]), HB3.out⟩
      | exact ⟨ret_int (by rw [HF0.out]; simp [*, arI]), HB2.out⟩
set_option maxHeartbeats 1000000 in
set_option maxRecDepth 100000 in
theorem c_kids8 {S : Nat → Prop} {d1 d2 d3 : Int} {a4 : Option Addr} {p4 : Nat} {d4 : List Int} {d5 : Int} {a6 : Option Addr} {p6 : Nat} {d6 : List Int} {a7 : Option Addr} {p7 : Nat} {d7 : List Term} {w : World} (h4 : SlRd cInt S w a4 p4 d4) (h6 : SlRd cInt S w a6 p6 d6) (h7 : SlRd cTerm S w a7 p7 d7) :
    Calls Tryd.prog 112 #[.agg #[.int .i64 (8 : Int), .int .i64 d1, .int .i64 d2, .int .i64 d3, .slice a4 d4.length p4, .int .i64 d5, .slice a6 d6.length p6, .slice a7 d7.length p7]] w fun e w' => e = .returned (.int .i64 (arI (stmtAr (8, d1, d2, (d3, d4), (d5, d6), d7)))) ∧ Below w.heap.size w w' := by
  have H4 := hid (h4.alloc (.cells #[.int .i64 (8 : Int), .int .i64 d1, .int .i64 d2, .int .i64 d3, .slice a4 d4.length p4, .int .i64 d5, .slice a6 d6.length p6, .slice a7 d7.length p7] 110))
  have H6 := hid (h6.alloc (.cells #[.int .i64 (8 : Int), .int .i64 d1, .int .i64 d2, .int .i64 d3, .slice a4 d4.length p4, .int .i64 d5, .slice a6 d6.length p6, .slice a7 d7.length p7] 110))
  have H7 := hid (h7.alloc (.cells #[.int .i64 (8 : Int), .int .i64 d1, .int .i64 d2, .int .i64 d3, .slice a4 d4.length p4, .int .i64 d5, .slice a6 d6.length p6, .slice a7 d7.length p7] 110))
  have HB : Hid (Below w.heap.size w (w.alloc (.cells #[.int .i64 (8 : Int), .int .i64 d1, .int .i64 d2, .int .i64 d3, .slice a4 d4.length p4, .int .i64 d5, .slice a6 d6.length p6, .slice a7 d7.length p7] 110))) := (Below.refl _ _).alloc (Nat.le_refl _) _
  have t0 : (w.alloc (.cells #[.int .i64 (8 : Int), .int .i64 d1, .int .i64 d2, .int .i64 d3, .slice a4 d4.length p4, .int .i64 d5, .slice a6 d6.length p6, .slice a7 d7.length p7] 110)).cell? ⟨w.heap.size, 0, none⟩ = some (.int .i64 (8 : Int)) := by rw [World.cell?_alloc_at _ _ _ _ rfl]; rfl
  have t1 : (w.alloc (.cells #[.int .i64 (8 : Int), .int .i64 d1, .int .i64 d2, .int .i64 d3, .slice a4 d4.length p4, .int .i64 d5, .slice a6 d6.length p6, .slice a7 d7.length p7] 110)).cell? ⟨w.heap.size, 1, none⟩ = some (.int .i64 d1) := by rw [World.cell?_alloc_at _ _ _ _ rfl]; rfl
  have t2 : (w.alloc (.cells #[.int .i64 (8 : Int), .int .i64 d1, .int .i64 d2, .int .i64 d3, .slice a4 d4.length p4, .int .i64 d5, .slice a6 d6.length p6, .slice a7 d7.length p7] 110)).cell? ⟨w.heap.size, 2, none⟩ = some (.int .i64 d2) := by rw [World.cell?_alloc_at _ _ _ _ rfl]; rfl
  have t3 : (w.alloc (.cells #[.int .i64 (8 : Int), .int .i64 d1, .int .i64 d2, .int .i64 d3, .slice a4 d4.length p4, .int .i64 d5, .slice a6 d6.length p6, .slice a7 d7.length p7] 110)).cell? ⟨w.heap.size, 3, none⟩ = some (.int .i64 d3) := by rw [World.cell?_alloc_at _ _ _ _ rfl]; rfl
  have t4 : (w.alloc (.cells #[.int .i64 (8 : Int), .int .i64 d1, .int .i64 d2, .int .i64 d3, .slice a4 d4.length p4, .int .i64 d5, .slice a6 d6.length p6, .slice a7 d7.length p7] 110)).cell? ⟨w.heap.size, 4, none⟩ = some (.slice a4 d4.length p4) := by rw [World.cell?_alloc_at _ _ _ _ rfl]; rfl
  have t5 : (w.alloc (.cells #[.int .i64 (8 : Int), .int .i64 d1, .int .i64 d2, .int .i64 d3, .slice a4 d4.length p4, .int .i64 d5, .slice a6 d6.length p6, .slice a7 d7.length p7] 110)).cell? ⟨w.heap.size, 5, none⟩ = some (.int .i64 d5) := by rw [World.cell?_alloc_at _ _ _ _ rfl]; rfl
  have t6 : (w.alloc (.cells #[.int .i64 (8 : Int), .int .i64 d1, .int .i64 d2, .int .i64 d3, .slice a4 d4.length p4, .int .i64 d5, .slice a6 d6.length p6, .slice a7 d7.length p7] 110)).cell? ⟨w.heap.size, 6, none⟩ = some (.slice a6 d6.length p6) := by rw [World.cell?_alloc_at _ _ _ _ rfl]; rfl
  have t7 : (w.alloc (.cells #[.int .i64 (8 : Int), .int .i64 d1, .int .i64 d2, .int .i64 d3, .slice a4 d4.length p4, .int .i64 d5, .slice a6 d6.length p6, .slice a7 d7.length p7] 110)).cell? ⟨w.heap.size, 7, none⟩ = some (.slice a7 d7.length p7) := by rw [World.cell?_alloc_at _ _ _ _ rfl]; rfl
  have z0 : w.heap.size < (w.alloc (.cells #[.int .i64 (8 : Int), .int .i64 d1, .int .i64 d2, .int .i64 d3, .slice a4 d4.length p4, .int .i64 d5, .slice a6 d6.length p6, .slice a7 d7.length p7] 110)).heap.size := by simp
  have hl7 := h7.len_le
  clear h4 h6 h7
  have HF0 : Hid (stmtAr (8, d1, d2, (d3, d4), (d5, d6), d7) = if (((((d1 == 0) && (d2 == 0)) && overT (d3, d4)) && (d5 == 0 && ((d6.length : Int) == 0))) && areOverF d7 6) then some 1 else none) := rfl
  go_enter Tryd.func112, Tryd.ntmps112
  go_wp2_with fail
  generalize (w.alloc (.cells #[.int .i64 (8 : Int), .int .i64 d1, .int .i64 d2, .int .i64 d3, .slice a4 d4.length p4, .int .i64 d5, .slice a6 d6.length p6, .slice a7 d7.length p7] 110)) = W0 at *
  go_region_held3 (fun w' => w'.cell? ⟨w.heap.size, 0, none⟩ = some (.int .i64 (8 : Int)) ∧ w'.cell? ⟨w.heap.size, 1, none⟩ = some (.int .i64 d1) ∧ w'.cell? ⟨w.heap.size, 2, none⟩ = some (.int .i64 d2) ∧ w'.cell? ⟨w.heap.size, 3, none⟩ = some (.int .i64 d3) ∧ w'.cell? ⟨w.heap.size, 4, none⟩ = some (.slice a4 d4.length p4) ∧ w'.cell? ⟨w.heap.size, 5, none⟩ = some (.int .i64 d5) ∧ w'.cell? ⟨w.heap.size, 6, none⟩ = some (.slice a6 d6.length p6) ∧ w'.cell? ⟨w.heap.size, 7, none⟩ = some (.slice a7 d7.length p7)) (first | exact ⟨t0, t1, t2, t3, t4, t5, t6, t7⟩ | exact kk1 | exact kk2) (first | (have hkk := kk1; clear hkk; go_at_call 117; refine (c_isZero _ _ _ _ _).mono ?_; rintro e w2 ⟨rfl, hb2⟩; have kk2 := And.intro (cell_below hb2 z1 (kk1.1)) (And.intro (cell_below hb2 z1 (kk1.2.1)) (And.intro (cell_below hb2 z1 (kk1.2.2.1)) (And.intro (cell_below hb2 z1 (kk1.2.2.2.1)) (And.intro (cell_below hb2 z1 (kk1.2.2.2.2.1)) (And.intro (cell_below hb2 z1 (kk1.2.2.2.2.2.1)) (And.intro (cell_below hb2 z1 (kk1.2.2.2.2.2.2.1)) (cell_below hb2 z1 (kk1.2.2.2.2.2.2.2)))))))); have H42 := hid (H41.out.below (Nat.le_refl _) hb2); have H62 := hid (H61.out.below (Nat.le_refl _) hb2); have H72 := hid (H71.out.below (Nat.le_refl _) hb2); have HB2 := hid (bel_next HB1.out HB1.out.size hb2); clear hb2) | (go_at_call 117; refine (c_isZero _ _ _ _ _).mono ?_; rintro e w1 ⟨rfl, hb1⟩; have kk1 := And.intro (cell_below hb1 z0 t0) (And.intro (cell_below hb1 z0 t1) (And.intro (cell_below hb1 z0 t2) (And.intro (cell_below hb1 z0 t3) (And.intro (cell_below hb1 z0 t4) (And.intro (cell_below hb1 z0 t5) (And.intro (cell_below hb1 z0 t6) (cell_below hb1 z0 t7))))))); have z1 := Nat.lt_of_lt_of_le z0 hb1.size; have H41 := hid (H4.out.drew.below (Nat.le_refl _) hb1); have H61 := hid (H6.out.drew.below (Nat.le_refl _) hb1); have H71 := hid (H7.out.drew.below (Nat.le_refl _) hb1); have HB1 := hid (bel_next HB.out.drew HB.out.drew.size hb1); clear hb1))
  generalize hqV : (d1 == 0) = V at HF0 ⊢
  generalize hqE : (d2 == 0) = E at HF0 ⊢
  generalize hqZ : (d3 == 0 && ((d4.length : Int) == 0)) = Z at HF0 ⊢
  generalize hqX : (d5 == 0 && ((d6.length : Int) == 0)) = X at HF0 ⊢
  generalize hqF : ((d7.length : Int) == 0) = F at HF0 ⊢
  clear hqV hqE hqZ hqX hqF
  clear t0 t1 t2 t3 t4 t5 t6 t7 z0 z1 H4 H6 H7 HB kk1 H41 H61 H71 HB1
  obtain ⟨k0, k1, k2, k3, k4, k5, k6, k7⟩ := kk2
  obtain ⟨s, hs⟩ : ∃ s, overT (d3, d4) = s := ⟨_, rfl⟩
  have Hs := hid hs
  rw [hs] at HF0
  clear hs
  obtain ⟨f, hf⟩ : ∃ f, areOverF d7 6 = f := ⟨_, rfl⟩
  have Hf := hid hf
  rw [hf] at HF0
  clear hf
  go_wp2_with (first | (go_at_call 82; refine (c_isOver _ _ _ _ _ H42.out).mono ?_; rintro e' w3 ⟨rfl, hb3⟩; rw [Hs.out]; have H63 := hid (H62.out.below (Nat.le_refl _) hb3); have H73 := hid (H72.out.below (Nat.le_refl _) hb3); have k73 := cell_below hb3 (cell_lt k7) k7; have HB3 := hid (bel_next HB2.out HB2.out.size hb3); clear hb3) | (go_at_call 47; refine (c_areOver _ _ _ _ _ H73.out).mono ?_; rintro e' w4 ⟨rfl, hb4⟩; rw [Hf.out]; have HB4 := hid (bel_next HB3.out HB3.out.size hb4); clear hb4))
  all_goals
    go_ret
    first
      | exact ⟨ret_int (by rw [HF0.out]; simp [*, arI]), HB4.out⟩
      | exact ⟨ret_int (by rw [HF0.out]; simp [*, arI]), HB3.out⟩
      | exact ⟨ret_int (by rw [HF0.out]; simp [*, arI]), HB2.out⟩
set_option maxHeartbeats 1000000 in
set_option maxRecDepth 100000 in
theorem c_kidso {S : Nat → Prop} {d0 d1 d2 d3 : Int} {a4 : Option Addr} {p4 : Nat} {d4 : List Int} {d5 : Int} {a6 : Option Addr} {p6 : Nat} {d6 : List Int} {a7 : Option Addr} {p7 : Nat} {d7 : List Term} {w : World} (hk : d0 < 0 ∨ 8 < d0) (h4 : SlRd cInt S w a4 p4 d4) (h6 : SlRd cInt S w a6 p6 d6) (h7 : SlRd cTerm S w a7 p7 d7) :
    Calls Tryd.prog 112 #[.agg #[.int .i64 d0, .int .i64 d1, .int .i64 d2, .int .i64 d3, .slice a4 d4.length p4, .int .i64 d5, .slice a6 d6.length p6, .slice a7 d7.length p7]] w fun e w' => e = .returned (.int .i64 (arI (stmtAr (d0, d1, d2, (d3, d4), (d5, d6), d7)))) ∧ Below w.heap.size w w' := by
  have H4 := hid (h4.alloc (.cells #[.int .i64 d0, .int .i64 d1, .int .i64 d2, .int .i64 d3, .slice a4 d4.length p4, .int .i64 d5, .slice a6 d6.length p6, .slice a7 d7.length p7] 110))
  have H6 := hid (h6.alloc (.cells #[.int .i64 d0, .int .i64 d1, .int .i64 d2, .int .i64 d3, .slice a4 d4.length p4, .int .i64 d5, .slice a6 d6.length p6, .slice a7 d7.length p7] 110))
  have H7 := hid (h7.alloc (.cells #[.int .i64 d0, .int .i64 d1, .int .i64 d2, .int .i64 d3, .slice a4 d4.length p4, .int .i64 d5, .slice a6 d6.length p6, .slice a7 d7.length p7] 110))
  have HB : Hid (Below w.heap.size w (w.alloc (.cells #[.int .i64 d0, .int .i64 d1, .int .i64 d2, .int .i64 d3, .slice a4 d4.length p4, .int .i64 d5, .slice a6 d6.length p6, .slice a7 d7.length p7] 110))) := (Below.refl _ _).alloc (Nat.le_refl _) _
  have t0 : (w.alloc (.cells #[.int .i64 d0, .int .i64 d1, .int .i64 d2, .int .i64 d3, .slice a4 d4.length p4, .int .i64 d5, .slice a6 d6.length p6, .slice a7 d7.length p7] 110)).cell? ⟨w.heap.size, 0, none⟩ = some (.int .i64 d0) := by rw [World.cell?_alloc_at _ _ _ _ rfl]; rfl
  have t1 : (w.alloc (.cells #[.int .i64 d0, .int .i64 d1, .int .i64 d2, .int .i64 d3, .slice a4 d4.length p4, .int .i64 d5, .slice a6 d6.length p6, .slice a7 d7.length p7] 110)).cell? ⟨w.heap.size, 1, none⟩ = some (.int .i64 d1) := by rw [World.cell?_alloc_at _ _ _ _ rfl]; rfl
  have t2 : (w.alloc (.cells #[.int .i64 d0, .int .i64 d1, .int .i64 d2, .int .i64 d3, .slice a4 d4.length p4, .int .i64 d5, .slice a6 d6.length p6, .slice a7 d7.length p7] 110)).cell? ⟨w.heap.size, 2, none⟩ = some (.int .i64 d2) := by rw [World.cell?_alloc_at _ _ _ _ rfl]; rfl
  have t3 : (w.alloc (.cells #[.int .i64 d0, .int .i64 d1, .int .i64 d2, .int .i64 d3, .slice a4 d4.length p4, .int .i64 d5, .slice a6 d6.length p6, .slice a7 d7.length p7] 110)).cell? ⟨w.heap.size, 3, none⟩ = some (.int .i64 d3) := by rw [World.cell?_alloc_at _ _ _ _ rfl]; rfl
  have t4 : (w.alloc (.cells #[.int .i64 d0, .int .i64 d1, .int .i64 d2, .int .i64 d3, .slice a4 d4.length p4, .int .i64 d5, .slice a6 d6.length p6, .slice a7 d7.length p7] 110)).cell? ⟨w.heap.size, 4, none⟩ = some (.slice a4 d4.length p4) := by rw [World.cell?_alloc_at _ _ _ _ rfl]; rfl
  have t5 : (w.alloc (.cells #[.int .i64 d0, .int .i64 d1, .int .i64 d2, .int .i64 d3, .slice a4 d4.length p4, .int .i64 d5, .slice a6 d6.length p6, .slice a7 d7.length p7] 110)).cell? ⟨w.heap.size, 5, none⟩ = some (.int .i64 d5) := by rw [World.cell?_alloc_at _ _ _ _ rfl]; rfl
  have t6 : (w.alloc (.cells #[.int .i64 d0, .int .i64 d1, .int .i64 d2, .int .i64 d3, .slice a4 d4.length p4, .int .i64 d5, .slice a6 d6.length p6, .slice a7 d7.length p7] 110)).cell? ⟨w.heap.size, 6, none⟩ = some (.slice a6 d6.length p6) := by rw [World.cell?_alloc_at _ _ _ _ rfl]; rfl
  have t7 : (w.alloc (.cells #[.int .i64 d0, .int .i64 d1, .int .i64 d2, .int .i64 d3, .slice a4 d4.length p4, .int .i64 d5, .slice a6 d6.length p6, .slice a7 d7.length p7] 110)).cell? ⟨w.heap.size, 7, none⟩ = some (.slice a7 d7.length p7) := by rw [World.cell?_alloc_at _ _ _ _ rfl]; rfl
  have z0 : w.heap.size < (w.alloc (.cells #[.int .i64 d0, .int .i64 d1, .int .i64 d2, .int .i64 d3, .slice a4 d4.length p4, .int .i64 d5, .slice a6 d6.length p6, .slice a7 d7.length p7] 110)).heap.size := by simp
  have hl7 := h7.len_le
  clear h4 h6 h7
  have HF : Hid (stmtAr (d0, d1, d2, (d3, d4), (d5, d6), d7) = none) := by unfold Hid stmtAr stmtOk; rw [if_neg]; simp only; rw [if_neg (show ¬ d0 = 0 by omega)]; rw [if_neg (show ¬ d0 = 1 by omega)]; rw [if_neg (show ¬ d0 = 2 by omega)]; rw [if_neg (show ¬ d0 = 3 by omega)]; rw [if_neg (show ¬ d0 = 4 by omega)]; rw [if_neg (show ¬ d0 = 5 by omega)]; rw [if_neg (show ¬ d0 = 6 by omega)]; rw [if_neg (show ¬ d0 = 7 by omega)]; rw [if_neg (show ¬ d0 = 8 by omega)]; simp
  have e0 : (d0 == 0) = false := by rw [beq_eq_false_iff_ne]; omega
  have e1 : (d0 == 1) = false := by rw [beq_eq_false_iff_ne]; omega
  have e2 : (d0 == 2) = false := by rw [beq_eq_false_iff_ne]; omega
  have e3 : (d0 == 3) = false := by rw [beq_eq_false_iff_ne]; omega
  have e4 : (d0 == 4) = false := by rw [beq_eq_false_iff_ne]; omega
  have e5 : (d0 == 5) = false := by rw [beq_eq_false_iff_ne]; omega
  have e6 : (d0 == 6) = false := by rw [beq_eq_false_iff_ne]; omega
  have e7 : (d0 == 7) = false := by rw [beq_eq_false_iff_ne]; omega
  have e8 : (d0 == 8) = false := by rw [beq_eq_false_iff_ne]; omega
  clear hk
  go_enter Tryd.func112, Tryd.ntmps112
  go_wp2_with fail
  generalize (w.alloc (.cells #[.int .i64 d0, .int .i64 d1, .int .i64 d2, .int .i64 d3, .slice a4 d4.length p4, .int .i64 d5, .slice a6 d6.length p6, .slice a7 d7.length p7] 110)) = W0 at *
  go_region_held3 (fun w' => w'.cell? ⟨w.heap.size, 0, none⟩ = some (.int .i64 d0) ∧ w'.cell? ⟨w.heap.size, 1, none⟩ = some (.int .i64 d1) ∧ w'.cell? ⟨w.heap.size, 2, none⟩ = some (.int .i64 d2) ∧ w'.cell? ⟨w.heap.size, 3, none⟩ = some (.int .i64 d3) ∧ w'.cell? ⟨w.heap.size, 4, none⟩ = some (.slice a4 d4.length p4) ∧ w'.cell? ⟨w.heap.size, 5, none⟩ = some (.int .i64 d5) ∧ w'.cell? ⟨w.heap.size, 6, none⟩ = some (.slice a6 d6.length p6) ∧ w'.cell? ⟨w.heap.size, 7, none⟩ = some (.slice a7 d7.length p7)) (first | exact ⟨t0, t1, t2, t3, t4, t5, t6, t7⟩ | exact kk1 | exact kk2) (first | (have hkk := kk1; clear hkk; go_at_call 117; refine (c_isZero _ _ _ _ _).mono ?_; rintro e w2 ⟨rfl, hb2⟩; have kk2 := And.intro (cell_below hb2 z1 (kk1.1)) (And.intro (cell_below hb2 z1 (kk1.2.1)) (And.intro (cell_below hb2 z1 (kk1.2.2.1)) (And.intro (cell_below hb2 z1 (kk1.2.2.2.1)) (And.intro (cell_below hb2 z1 (kk1.2.2.2.2.1)) (And.intro (cell_below hb2 z1 (kk1.2.2.2.2.2.1)) (And.intro (cell_below hb2 z1 (kk1.2.2.2.2.2.2.1)) (cell_below hb2 z1 (kk1.2.2.2.2.2.2.2)))))))); have H42 := hid (H41.out.below (Nat.le_refl _) hb2); have H62 := hid (H61.out.below (Nat.le_refl _) hb2); have H72 := hid (H71.out.below (Nat.le_refl _) hb2); have HB2 := hid (bel_next HB1.out HB1.out.size hb2); clear hb2) | (go_at_call 117; refine (c_isZero _ _ _ _ _).mono ?_; rintro e w1 ⟨rfl, hb1⟩; have kk1 := And.intro (cell_below hb1 z0 t0) (And.intro (cell_below hb1 z0 t1) (And.intro (cell_below hb1 z0 t2) (And.intro (cell_below hb1 z0 t3) (And.intro (cell_below hb1 z0 t4) (And.intro (cell_below hb1 z0 t5) (And.intro (cell_below hb1 z0 t6) (cell_below hb1 z0 t7))))))); have z1 := Nat.lt_of_lt_of_le z0 hb1.size; have H41 := hid (H4.out.drew.below (Nat.le_refl _) hb1); have H61 := hid (H6.out.drew.below (Nat.le_refl _) hb1); have H71 := hid (H7.out.drew.below (Nat.le_refl _) hb1); have HB1 := hid (bel_next HB.out.drew HB.out.drew.size hb1); clear hb1))
  clear t0 t1 t2 t3 t4 t5 t6 t7 z0 z1 H4 H6 H7 HB kk1 H41 H61 H71 HB1
  obtain ⟨k0, k1, k2, k3, k4, k5, k6, k7⟩ := kk2
  go_wp2_with (fail)
  all_goals
    go_ret
    first
      | exact ⟨ret_int (by rw [HF.out]; rfl), HB4.out⟩
      | exact ⟨ret_int (by rw [HF.out]; rfl), HB3.out⟩
      | exact ⟨ret_int (by rw [HF.out]; rfl), HB2.out⟩
theorem c_kidsOf {S : Nat → Prop} {d0 d1 d2 d3 : Int} {a4 : Option Addr} {p4 : Nat} {d4 : List Int} {d5 : Int} {a6 : Option Addr} {p6 : Nat} {d6 : List Int} {a7 : Option Addr} {p7 : Nat} {d7 : List Term} {w : World} (h4 : SlRd cInt S w a4 p4 d4) (h6 : SlRd cInt S w a6 p6 d6) (h7 : SlRd cTerm S w a7 p7 d7) :
    Calls Tryd.prog 112 #[.agg #[.int .i64 d0, .int .i64 d1, .int .i64 d2, .int .i64 d3, .slice a4 d4.length p4, .int .i64 d5, .slice a6 d6.length p6, .slice a7 d7.length p7]] w fun e w' => e = .returned (.int .i64 (arI (stmtAr (d0, d1, d2, (d3, d4), (d5, d6), d7)))) ∧ Below w.heap.size w w' := by
  by_cases g0 : d0 = 0
  · subst g0; exact c_kids0 h4 h6 h7
  by_cases g1 : d0 = 1
  · subst g1; exact c_kids1 h4 h6 h7
  by_cases g2 : d0 = 2
  · subst g2; exact c_kids2 h4 h6 h7
  by_cases g3 : d0 = 3
  · subst g3; exact c_kids3 h4 h6 h7
  by_cases g4 : d0 = 4
  · subst g4; exact c_kids4 h4 h6 h7
  by_cases g5 : d0 = 5
  · subst g5; exact c_kids5 h4 h6 h7
  by_cases g6 : d0 = 6
  · subst g6; exact c_kids6 h4 h6 h7
  by_cases g7 : d0 = 7
  · subst g7; exact c_kids7 h4 h6 h7
  by_cases g8 : d0 = 8
  · subst g8; exact c_kids8 h4 h6 h7
  exact c_kidso (by omega) h4 h6 h7
end Go.Proofs.YtcmopmapdomneaaDoor
end

section
namespace Go.Proofs.YtcmopmapdomneaaDoor
open Go.RowKit

/-- A pointer, whatever it points at. -/
def cPtr : Codec (Option Addr) where
  n := 1
  rd := fun _ _ cs a => cs = [.pointer a]
  len := by rintro _ _ _ _ rfl; rfl
  one := by rintro _ _ _ _ rfl u hu; simp at hu; subst hu; rfl
  keep := fun _ h => h
def stN (ps : List Stmt) (i : Nat) : Option Nat := match ps[i]? with
  | some d => stmtAr d
  | none => none
theorem stN_at {ps : List Stmt} {k : Nat} {d : Stmt} (h : ps[k]? = some d) : stN ps k = stmtAr d := by unfold stN; rw [h]
theorem stmtAr_le {d : Stmt} {a : Nat} (h : stmtAr d = some a) : a ≤ 2 := by
  unfold stmtAr stmtBe at h
  split at h
  · cases h; split
    · omega
    · split
      · omega
      · split <;> omega
  · cases h
/-- A tree or none, the index behind it, a yes or no. -/
def RetTree (r : Nat × Nat × Bool) (w : World) (e : Ending) (w' : World) : Prop := ∃ q : Option Addr, e = .returned (.tuple #[.pointer q, .int .i64 r.1, .bool r.2.2]) ∧ Below w.heap.size w w'
theorem slTree : SlT Tryd.prog 148 112 (.pointer none) 1 8 := ⟨Tryd.underlying148, by kernel_rfl, rfl, by decide, by decide⟩
theorem c_tree_out {a : Option Addr} {p : Nat} {ps : List Stmt} {k : Nat} {w : World} (hk : ps.length ≤ k) :
    Calls Tryd.prog 98 #[.slice a ps.length p, .int .i64 k] w (RetTree (behR (stN ps) ps.length k) w) := by
  have HF : Hid (behR (stN ps) ps.length k = (0, 0, false)) := behR_none (walkT_out (c := 0) hk)
  have e1 : decide ((ps.length : Int) ≤ (k : Int)) = true := decide_eq_true (by omega)
  go_enter Tryd.func98, Tryd.ntmps98
  go_wp2
  go_ret3
  exact ⟨none, by rw [HF.out]; rfl, Below.refl _ _⟩
set_option maxHeartbeats 2000000 in
set_option maxRecDepth 100000 in
theorem c_treeAt {S : Nat → Prop} {a : Option Addr} {p : Nat} {ps : List Stmt} (hn : ps.length ≤ 30) : ∀ (m k : Nat) (w : World), ps.length - k ≤ m → SlRd cStmt S w a p ps →
    Calls Tryd.prog 98 #[.slice a ps.length p, .int .i64 k] w (RetTree (behR (stN ps) ps.length k) w) := by
  intro m
  induction m with
  | zero => intro k w hm h; exact c_tree_out (by omega)
  | succ m ih =>
    intro k w hm h
    by_cases hlt : k < ps.length
    · have IH := hid ih
      have H := hid h
      obtain ⟨b, off, rfl⟩ := h.some_of hlt
      obtain ⟨d0, d1, d2, d3, a4, p4, d4, d5, a6, p6, d6, a7, p7, d7, hz, hi0, hi1, hi2, hi3, hi5, hs4, hs6, hs7, hc0, hc1, hc2, hc3, hc4, hc5, hc6, hc7, hb⟩ := h.stmt_at k hlt
      have HA := hid (stN_at hz)
      have HC := hid (c_kidsOf (d0 := d0) (d1 := d1) (d2 := d2) (d3 := d3) (d5 := d5) hs4 hs6 hs7)
      have e1 : decide ((ps.length : Int) ≤ (k : Int)) = false := decide_eq_false (by omega)
      have i0 : (0 : Int) ≤ (k : Int) := by omega
      have i1 : (k : Int) < (ps.length : Int) := by omega
      have hw1 : IntKind.i64.wrap ((k : Int) + 1) = (k : Int) + 1 := wrap_in _ (by omega) (by omega)
      clear ih h hz hs4 hs6 hs7 hi0 hi1 hi2 hi3 hi5
      obtain ⟨r, hr⟩ : ∃ r, stmtAr (d0, d1, d2, (d3, d4), (d5, d6), d7) = r := ⟨_, rfl⟩
      have HR := hid hr
      have HAR : Hid (stN ps k = r) := HA.out.trans hr
      have hr2 : ∀ c, r = some c → c ≤ 2 := fun c hc => stmtAr_le (hr.trans hc)
      clear hr HA
      cases r with
      | none =>
        have HF : Hid (behR (stN ps) ps.length k = (0, 0, false)) := behR_none (walkT_bad (c := 0) HAR.out)
        clear hr2
        go_enter Tryd.func98, Tryd.ntmps98
        go_wp2_with (go_at_call 112; refine HC.out.mono ?_; rintro e w1 ⟨rfl, hb1⟩; rw [HR.out]; simp only [arI]; have HB1 := hid hb1; clear hb1)
        go_ret3
        exact ⟨none, by rw [HF.out]; rfl, HB1.out⟩
      | some c =>
        have hcb := hr2 c rfl
        have HW : Hid (walkT (stN ps) ps.length 1 k = walkT (stN ps) ps.length c (k + 1)) := walkT_one hlt HAR.out
        clear hr2
        go_enter Tryd.func98, Tryd.ntmps98
        go_wp2_with fail
        refine HC.out.mono ?_
        rintro e w1 ⟨rfl, hb1⟩
        rw [HR.out]
        simp only [arI]
        have HB1 := hid hb1
        have H1 := hid (H.out.below (Nat.le_refl _) hb1)
        have x0 := cell_below hb1 hb hc0
        have x1 := cell_below hb1 hb hc1
        have x2 := cell_below hb1 hb hc2
        have x3 := cell_below hb1 hb hc3
        have x4 := cell_below hb1 hb hc4
        have x5 := cell_below hb1 hb hc5
        have x6 := cell_below hb1 hb hc6
        have x7 := cell_below hb1 hb hc7
        have hg1 : w.heap.size ≤ w1.heap.size := hb1.size
        clear hb1 hc0 hc1 hc2 hc3 hc4 hc5 hc6 hc7 hb
        go_wp2
        have y0 : (w1.alloc (.cells #[.int .i64 d0, .int .i64 d1, .int .i64 d2, .int .i64 d3, .slice a4 d4.length p4, .int .i64 d5, .slice a6 d6.length p6, .slice a7 d7.length p7, .int .i64 k, .slice none 0 0] 150)).cell? ⟨w1.heap.size, 9, none⟩ = some (.slice none 0 0) := by rw [World.cell?_alloc_at _ _ _ _ rfl]; rfl
        have y1 : (w1.alloc (.cells #[.int .i64 d0, .int .i64 d1, .int .i64 d2, .int .i64 d3, .slice a4 d4.length p4, .int .i64 d5, .slice a6 d6.length p6, .slice a7 d7.length p7, .int .i64 k, .slice none 0 0] 150)).frozen? ⟨w1.heap.size, 9, none⟩ = false := frozen_of_row _ _ _ _ _ (heap_new _ _)
        have HB2 : Hid (Below w.heap.size w (w1.alloc (.cells #[.int .i64 d0, .int .i64 d1, .int .i64 d2, .int .i64 d3, .slice a4 d4.length p4, .int .i64 d5, .slice a6 d6.length p6, .slice a7 d7.length p7, .int .i64 k, .slice none 0 0] 150))) := HB1.out.alloc hg1 _
        have y2 : w1.heap.size < (w1.alloc (.cells #[.int .i64 d0, .int .i64 d1, .int .i64 d2, .int .i64 d3, .slice a4 d4.length p4, .int .i64 d5, .slice a6 d6.length p6, .slice a7 d7.length p7, .int .i64 k, .slice none 0 0] 150)).heap.size := by simp
        generalize w1.alloc (.cells #[.int .i64 d0, .int .i64 d1, .int .i64 d2, .int .i64 d3, .slice a4 d4.length p4, .int .i64 d5, .slice a6 d6.length p6, .slice a7 d7.length p7, .int .i64 k, .slice none 0 0] 150) = W2 at *
        obtain ⟨g, hg⟩ : ∃ g, g = w1.heap.size := ⟨_, rfl⟩
        rw [← hg] at y0 y1 y2 hg1 ⊢
        clear hg x0 x1 x2 x3 x4 x5 x6 x7
        rw [show decide (ps.length ≤ k) = false from decide_eq_false (by omega)]
        go_loopw [1, 7] (fun kv cv wr => ∃ (k' c' d' : Nat) (v : Value) (ks : List (Option Addr)), kv = .int .i64 k' ∧ cv = .int .i64 c' ∧ k < k' ∧ c' + ks.length ≤ 2 ∧ Hid (walkT (stN ps) ps.length c (k + 1) = walkT (stN ps) ps.length c' k') ∧ Hid (∀ e, walkT (stN ps) ps.length c' k' = some e → max d' (deepT (stN ps) ps.length c' k') = deepT (stN ps) ps.length c (k + 1)) ∧ Hid (Below w.heap.size w wr) ∧ g < wr.heap.size ∧ wr.cell? ⟨g, 9, none⟩ = some v ∧ wr.frozen? ⟨g, 9, none⟩ = false ∧ Hid (OwnSl cPtr (fun _ => False) wr (g + 1) 112 v ks)) (fun _ cv _ => (intOf cv).toNat)
        case atStart => exact ⟨k + 1, c, 0, _, [], by go_num, rfl, by omega, by simp; omega, rfl, fun _ _ => by omega, HB2, y2, y0, y1, own_nil _ _ _ _ _⟩
        case round =>
          obtain ⟨k', c', d', v, ks, rfl, rfl, hkk, hcc, HWK, HDK, HB, hgr, cu0, cu1, HO⟩ := hrel
          by_cases hc0' : 0 < c'
          · obtain ⟨c'', rfl⟩ : ∃ c'', c' = c'' + 1 := ⟨c' - 1, by omega⟩
            have HI := hid (IH.out k' wr (by omega) (H.out.below (Nat.le_refl _) HB.out))
            have e2 : decide ((0 : Int) < (c'' : Int) + 1) = true := decide_eq_true (by omega)
            cases he : walkT (stN ps) ps.length 1 k' with
            | none =>
              have HF : Hid (behR (stN ps) ps.length k = (0, 0, false)) := behR_none (by rw [HW.out, HWK.out, walkT_step, he]; rfl)
              have HG : Hid (behR (stN ps) ps.length k' = (0, 0, false)) := behR_none he
              clear he HDK HWK
              go_wp2_with (go_at_call 98; refine HI.out.mono ?_; rw [HG.out]; rintro e w2 ⟨q, rfl, hb2⟩; have HB2 := hid (bel_next HB.out HB.out.size hb2); clear hb2)
              go_ret3
              exact ⟨none, by rw [HF.out]; rfl, HB2.out⟩
            | some e1 =>
              have hge := walkT_ge ps.length 1 k' e1 (by omega) he
              have HG : Hid (behR (stN ps) ps.length k' = (e1, deepT (stN ps) ps.length 1 k', true)) := behR_some he
              have HWN : Hid (walkT (stN ps) ps.length c (k + 1) = walkT (stN ps) ps.length c'' e1) := by unfold Hid; rw [HWK.out, walkT_step, he]; rfl
              obtain ⟨D, hD⟩ : ∃ D, deepT (stN ps) ps.length 1 k' = D := ⟨_, rfl⟩
              have HDN : Hid (∀ e, walkT (stN ps) ps.length c'' e1 = some e → max (max d' D) (deepT (stN ps) ps.length c'' e1) = deepT (stN ps) ps.length c (k + 1)) := by
                intro e h9
                have := HDK.out e (by rw [walkT_step, he]; exact h9)
                rw [deepT_step he, hD] at this
                rw [← this]; omega
              clear he HDK HWK hD
              go_wp2_with (first | (go_at_call 98; refine HI.out.mono ?_; rw [HG.out]; rintro e w3 ⟨q, rfl, hb3⟩; simp only; have cu3 := cell_below hb3 hgr cu0; have f3 := frz_below hb3 hgr cu1; have hg3 := Nat.lt_of_lt_of_le hgr hb3.size; have HB3 := hid (bel_next HB.out HB.out.size hb3); have HO3 := hid (own_below HO.out (Nat.le_refl _) hb3); clear hb3) | (at_builtin; refine app_own (C := cPtr) rfl (.tmp 49) (.tmp 51) _ rfl slTree rfl rfl HO3.out no_blk q rfl (by omega) (by omega) ?_; intro v4 w4 hO4 hb4; obtain ⟨av, pv, hv⟩ := own_len hO4; generalize (ks ++ [q]).length = nl at hv; subst hv; have cu4 := cell_below hb4 (Nat.lt_succ_self g) cu3; have f4 := frz_below hb4 (Nat.lt_succ_self g) f3; have hg4 := Nat.lt_of_lt_of_le hg3 hb4.size; have HO4 := hid hO4; have HB4 := hid (HB3.out.trans (hb4.mono (by omega))); clear hO4 hb4))
              go_roundw
              case rel => exact ⟨e1, c'', max d' D, _, ks ++ [q], rfl, rfl, by omega, by simp; omega, HWN, HDN, HB4.out.setCell (by omega) _, by rw [size_set]; exact hg4, World.cell?_setCell_same _ _ _ cu4, by rw [World.frozen?_setCell]; exact f4, own_keep HO4.out (fun _ h _ => h) fun b hl hs => heap_setCell_ne _ _ _ (by rcases hs with hs | hs; exact hs.elim; have := own_lt HO4.out b hs.symm; show b ≠ g; omega)⟩
              case measure => simp [intOf]
          · obtain rfl : c' = 0 := by omega
            have e2 : decide ((0 : Int) < ((0 : Nat) : Int)) = false := rfl
            have hF0 : behR (stN ps) ps.length k = (k', d' + 1, true) := by
              have h1 := HWK.out
              rw [walkT_zero] at h1
              have h2 := HDK.out k' walkT_zero
              rw [deepT_zero] at h2
              rw [behR_some (HW.out.trans h1), deepT_one hlt HAR.out h1, ← h2]
              simp
            have HF := hid hF0
            clear HWK HDK hF0
            go_wp2
            go_ret3
            exact ⟨_, by rw [HF.out]; rfl, HB.out⟩
    · exact c_tree_out (by omega)
end Go.Proofs.YtcmopmapdomneaaDoor
end

section
namespace Go.Proofs.YtcmopmapdomneaaDoor

theorem walkT_in {ar : Nat → Option Nat} {n : Nat} : ∀ (m c k e : Nat), n - k ≤ m → walkT ar n c k = some e → ∀ i, k ≤ i → i < e → ∃ e', walkT ar n 1 i = some e' ∧ e' ≤ e := by
  intro m
  induction m with
  | zero =>
    intro c k e h h1 i hi hie
    rcases c with _ | c
    · rw [walkT_zero] at h1; cases h1; omega
    · rw [walkT_out (by omega)] at h1; cases h1
  | succ m ih =>
    intro c k e h h1 i hi hie
    rcases c with _ | c
    · rw [walkT_zero] at h1; cases h1; omega
    · by_cases hk : k < n
      · cases ha : ar k with
        | none => rw [walkT_bad ha] at h1; cases h1
        | some a =>
          rcases Nat.lt_or_ge k i with h2 | h2
          · rw [walkT_go hk ha] at h1
            exact ih _ _ _ (by omega) h1 i (by omega) hie
          · have : i = k := by omega
            subst this
            rw [walkT_step] at h1
            cases h3 : walkT ar n 1 i with
            | none => rw [h3] at h1; cases h1
            | some e1 =>
              rw [h3] at h1
              have h1 : walkT ar n c e1 = some e := h1
              exact ⟨e1, rfl, by have := walkT_ge _ c e1 e (Nat.le_refl _) h1; omega⟩
      · rw [walkT_out (by omega)] at h1; cases h1
/-- How many trees that begin at i0 or behind it are open at j. -/
def lev (E : Nat → Nat) (j i0 : Nat) : Nat := (List.range' i0 (j + 1 - i0)).countP (fun i => decide (j < E i))
theorem lev_out {E : Nat → Nat} {j i0 : Nat} (h : j < i0) : lev E j i0 = 0 := by
  unfold lev; rw [show j + 1 - i0 = 0 by omega]; rfl
theorem lev_cons {E : Nat → Nat} {j i0 : Nat} (h : i0 ≤ j) : lev E j i0 = (if j < E i0 then 1 else 0) + lev E j (i0 + 1) := by
  unfold lev
  rw [show j + 1 - i0 = (j + 1 - (i0 + 1)) + 1 by omega, List.range'_succ, List.countP_cons]
  simp only [decide_eq_true_eq]
  omega
theorem lev_skip {E : Nat → Nat} {j : Nat} : ∀ (m i0 i1 : Nat), i1 - i0 ≤ m → i0 ≤ i1 → i1 ≤ j + 1 → (∀ i, i0 ≤ i → i < i1 → E i ≤ j) → lev E j i0 = lev E j i1 := by
  intro m
  induction m with
  | zero => intro i0 i1 h h1 h2 h3; rw [show i0 = i1 by omega]
  | succ m ih =>
    intro i0 i1 h h1 h2 h3
    rcases Nat.lt_or_ge i0 i1 with h4 | h4
    · rw [lev_cons (by omega), if_neg (by have := h3 i0 (Nat.le_refl _) h4; omega), Nat.zero_add]
      exact ih _ _ (by omega) (by omega) h2 fun i hi hi' => h3 i (by omega) hi'
    · rw [show i0 = i1 by omega]
theorem lev_same {E : Nat → Nat} {j p : Nat} : ∀ (m i0 : Nat), p + 1 - i0 ≤ m → p ≤ j → (∀ i, i0 ≤ i → i ≤ p → (j < E i ↔ p < E i)) → (∀ i, p < i → i ≤ j → E i ≤ j) → lev E j i0 = if i0 ≤ p then lev E p i0 else lev E j i0 := by
  intro m
  induction m with
  | zero => intro i0 h _ _ _; rw [if_neg (by omega)]
  | succ m ih =>
    intro i0 h hp h1 h2
    rcases Nat.lt_or_ge p i0 with h4 | h4
    · rw [if_neg (by omega)]
    · rw [if_pos h4, lev_cons (by omega), lev_cons h4]
      have h5 := ih (i0 + 1) (by omega) hp (fun i hi hi' => h1 i (by omega) hi') h2
      have h6 : lev E j (i0 + 1) = lev E p (i0 + 1) := by
        rcases Nat.lt_or_ge p (i0 + 1) with h7 | h7
        · rw [lev_out h7]
          rw [lev_skip _ (i0 + 1) (j + 1) (Nat.le_refl _) (by omega) (Nat.le_refl _) fun i hi hi' => h2 i (by omega) (by omega)]
          exact lev_out (by omega)
        · rw [h5, if_pos h7]
      rw [h6]
      have h7 := h1 i0 (Nat.le_refl _) h4
      by_cases h8 : p < E i0
      · rw [if_pos h8, if_pos (h7.2 h8)]
      · rw [if_neg h8, if_neg (fun h9 => h8 (h7.1 h9))]
def endE (ar : Nat → Option Nat) (n : Nat) (i : Nat) : Nat := (walkT ar n 1 i).getD 0
theorem endE_of {ar : Nat → Option Nat} {n i e : Nat} (h : walkT ar n 1 i = some e) : endE ar n i = e := by unfold endE; rw [h]; rfl
/-- D is the greatest number of trees that are open at an element from k to e. -/
def IsMax (E : Nat → Nat) (k e D : Nat) : Prop := (∀ j, k ≤ j → j < e → lev E j k ≤ D) ∧ ((k = e ∧ D = 0) ∨ ∃ j, k ≤ j ∧ j < e ∧ lev E j k = D)
theorem deep_max {ar : Nat → Option Nat} {n : Nat} : ∀ (m c k e : Nat), n - k ≤ m → walkT ar n c k = some e → IsMax (endE ar n) k e (deepT ar n c k) := by
  intro m
  induction m with
  | zero =>
    intro c k e h h1
    rcases c with _ | c
    · rw [walkT_zero] at h1; cases h1; rw [deepT_zero]; exact ⟨fun j h2 h3 => by omega, .inl ⟨rfl, rfl⟩⟩
    · rw [walkT_out (by omega)] at h1; cases h1
  | succ m ih =>
    intro c k e h h1
    rcases c with _ | c
    · rw [walkT_zero] at h1; cases h1; rw [deepT_zero]; exact ⟨fun j h2 h3 => by omega, .inl ⟨rfl, rfl⟩⟩
    · by_cases hk : k < n
      · cases ha : ar k with
        | none => rw [walkT_bad ha] at h1; cases h1
        | some a =>
          rw [walkT_step] at h1
          cases h3 : walkT ar n 1 k with
          | none => rw [h3] at h1; cases h1
          | some e1 =>
            rw [h3] at h1
            have h1 : walkT ar n c e1 = some e := h1
            have h4 : walkT ar n a (k + 1) = some e1 := (walkT_one hk ha).symm.trans h3
            have g1 := walkT_ge _ 1 k e1 (Nat.le_refl _) h3
            have g2 := walkT_ge _ c e1 e (Nat.le_refl _) h1
            rw [deepT_go hk ha h4]
            obtain ⟨a1, a2⟩ := ih a (k + 1) e1 (by omega) h4
            obtain ⟨b1, b2⟩ := ih c e1 e (by omega) h1
            have hE := endE_of h3
            have l1 : ∀ j, k ≤ j → j < e1 → lev (endE ar n) j k = lev (endE ar n) j (k + 1) + 1 := fun j hj hj' => by
              rw [lev_cons hj, if_pos (by omega)]; omega
            have l2 : ∀ j, e1 ≤ j → lev (endE ar n) j k = lev (endE ar n) j e1 := fun j hj =>
              lev_skip _ k e1 (Nat.le_refl _) (by omega) (by omega) fun i hi hi' => by
                obtain ⟨e', he', hle⟩ := walkT_in _ 1 k e1 (Nat.le_refl _) h3 i hi hi'
                rw [endE_of he']; omega
            refine ⟨fun j hj hj' => ?_, .inr ?_⟩
            · rcases Nat.lt_or_ge j e1 with h5 | h5
              · rw [l1 j hj h5]
                rcases Nat.lt_or_ge k j with h6 | h6
                · have := a1 j (by omega) h5; omega
                · rw [lev_out (show j < k + 1 by omega)]; omega
              · rw [l2 j h5]; have := b1 j h5 hj'; omega
            · rcases Nat.le_total (deepT ar n c e1) (deepT ar n a (k + 1) + 1) with h5 | h5
              · rw [Nat.max_eq_left h5]
                rcases a2 with ⟨h6, h7⟩ | ⟨j, h6, h7, h8⟩
                · exact ⟨k, Nat.le_refl _, by omega, by rw [l1 k (Nat.le_refl _) (by omega), lev_out (Nat.lt_succ_self k), h7]⟩
                · exact ⟨j, by omega, by omega, by rw [l1 j (by omega) h7, h8]⟩
              · rw [Nat.max_eq_right h5]
                rcases b2 with ⟨h6, h7⟩ | ⟨j, h6, h7, h8⟩
                · omega
                · exact ⟨j, by omega, h7, by rw [l2 j h6, h8]⟩
      · rw [walkT_out (by omega)] at h1; cases h1
/-- The tree around k: p. -/
theorem lev_parent {ar : Nat → Option Nat} {n k p : Nat} (h0 : walkT ar n 1 0 = some n) (hk : k < n) (hp : p < k) (h1 : k < endE ar n p) (h2 : ∀ i, p < i → i < k → endE ar n i ≤ k) : lev (endE ar n) k 0 = lev (endE ar n) p 0 + 1 := by
  have hE : ∀ i, i < n → ∃ e, walkT ar n 1 i = some e ∧ i < e := fun i hi => by
    obtain ⟨e, he, _⟩ := walkT_in _ 1 0 n (Nat.le_refl _) h0 i (Nat.zero_le _) hi
    exact ⟨e, he, by have := walkT_ge _ 1 i e (Nat.le_refl _) he; omega⟩
  have hnest : ∀ i, i ≤ p → p < endE ar n i → k < endE ar n i := fun i hi hpi => by
    obtain ⟨e, he, _⟩ := hE i (by omega)
    rw [endE_of he] at hpi ⊢
    obtain ⟨e', he', hle⟩ := walkT_in _ 1 i e (Nat.le_refl _) he p hi hpi
    rw [endE_of he'] at h1
    omega
  obtain ⟨ek, hek, hlt⟩ := hE k hk
  have e1 : ∀ j i0, j = k → lev (endE ar n) j i0 = lev (endE ar n) k i0 := fun j i0 h => by rw [h]
  -- the count up to k, the last one apart
  have hlast : lev (endE ar n) k 0 = (List.range k).countP (fun i => decide (k < endE ar n i)) + 1 := by
    unfold lev
    rw [Nat.sub_zero, ← List.range_eq_range', List.range_succ, List.countP_append]
    simp [endE_of hek, hlt]
  have hcut : (List.range k).countP (fun i => decide (k < endE ar n i)) = (List.range (p + 1)).countP (fun i => decide (p < endE ar n i)) := by
    have h3 : List.range k = List.range (p + 1) ++ List.range' (p + 1) (k - (p + 1)) := by
      rw [List.range_eq_range', List.range_eq_range', show k = (p + 1) + (k - (p + 1)) by omega, ← List.range'_append_1]
      simp
    rw [h3, List.countP_append]
    have h4 : (List.range' (p + 1) (k - (p + 1))).countP (fun i => decide (k < endE ar n i)) = 0 := by
      rw [List.countP_eq_zero]
      intro i hi
      rw [List.mem_range'_1] at hi
      have := h2 i (by omega) (by omega)
      simp; omega
    rw [h4, Nat.add_zero]
    refine List.countP_congr fun i hi => ?_
    have hi := List.mem_range.1 hi
    simp only [decide_eq_true_eq]
    exact ⟨fun h => by omega, fun h => hnest i (by omega) h⟩
  rw [hlast, hcut]
  unfold lev
  rw [Nat.sub_zero, ← List.range_eq_range']
theorem lev_root {ar : Nat → Option Nat} {n k : Nat} (h0 : walkT ar n 1 0 = some n) (hk : k < n) (h2 : ∀ i, i < k → endE ar n i ≤ k) : lev (endE ar n) k 0 = 1 := by
  obtain ⟨e, he, _⟩ := walkT_in _ 1 0 n (Nat.le_refl _) h0 k (Nat.zero_le _) hk
  have hlt := walkT_ge _ 1 k e (Nat.le_refl _) he
  unfold lev
  rw [Nat.sub_zero, ← List.range_eq_range', List.range_succ, List.countP_append]
  have h4 : (List.range k).countP (fun i => decide (k < endE ar n i)) = 0 := by
    rw [List.countP_eq_zero]
    intro i hi
    have := h2 i (List.mem_range.1 hi)
    simp; omega
  rw [h4]
  simp [endE_of he]; omega
theorem lev_le {E : Nat → Nat} {j i0 : Nat} : lev E j i0 ≤ j + 1 := by
  unfold lev
  refine Nat.le_trans List.countP_le_length ?_
  rw [List.length_range']; omega
theorem max_unique {E : Nat → Nat} {n D : Nat} (hn : 1 ≤ n) (h : IsMax E 0 n D) {M : Nat} (h1 : ∀ j, j < n → lev E j 0 ≤ M) (h2 : M = 0 ∨ ∃ j, j < n ∧ lev E j 0 = M) : M = D := by
  obtain ⟨a, b⟩ := h
  rcases b with ⟨b1, b2⟩ | ⟨j, _, hj, hD⟩
  · omega
  · have c1 := h1 j hj
    rcases h2 with h2 | ⟨i, hi, hM⟩
    · omega
    · have := a i (Nat.zero_le _) hi; omega
end Go.Proofs.YtcmopmapdomneaaDoor
end

section
namespace Go.Proofs.YtcmopmapdomneaaDoor
open Go.RowKit
abbrev Pt := Int × List Term
abbrev cPoint : Codec Pt := cPair cInt cTerms
abbrev nPoint : Norm cPoint := nPair nInt nTerms
instance dec_Pt : DecidableEq Pt := inferInstance
theorem Pt_list {S : Nat → Prop} {w : World} {cs : List Value} {d : Pt} (h : cPoint.rd S w cs d) : ∃ a1 p1, cs = [.int .i64 d.1, .slice a1 d.2.length p1] ∧ SlRd cTerm S w a1 p1 d.2 ∧ I64 d.1 := by
  obtain ⟨_, _, rfl, ⟨rfl, r0⟩, ⟨a1, p1, rfl, r1⟩⟩ := h
  exact ⟨a1, p1, rfl, r1, r0⟩
theorem Pt_arr {S : Nat → Prop} {w : World} {cs : Array Value} {d : Pt} (h : cPoint.rd S w cs.toList d) : ∃ a1 p1, cs = #[.int .i64 d.1, .slice a1 d.2.length p1] ∧ SlRd cTerm S w a1 p1 d.2 ∧ I64 d.1 := by
  obtain ⟨a1, p1, he, hr⟩ := Pt_list h
  exact ⟨a1, p1, by rw [← Array.toList_inj, he], hr⟩
theorem op_Pt : Opens Tryd.prog 77 cPoint := opens_struct Tryd.underlying77 (by kernel_rfl) (opensFs_cons rfl op_i64 (opensFs_last rfl op_Terms))
theorem op_Pts : Opens Tryd.prog 24 (cSl cPoint) := opens_sl Tryd.underlying24 (by kernel_rfl) op_Pt (by decide)
set_option maxRecDepth 100000 in
theorem u_szPoint {S : Nat → Prop} {d0 : Int} {a1 : Option Addr} {p1 : Nat} {d1 : List Term} {left : Int} {w : World} (h1 : SlRd cTerm S w a1 p1 d1) (hl0 : 0 ≤ left) (hl1 : left ≤ 1048576) :
    Calls Tryd.prog 36 #[.agg #[.int .i64 d0, .slice a1 d1.length p1], .int .i64 left] w fun e w' => e = .returned (.int .i64 (szR left (szTs d1 : Nat))) ∧ Below w.heap.size w w' := by
  have R1_0 := hid (h1.alloc (.cells #[.int .i64 d0, .slice a1 d1.length p1] 77))
  have HB_0 : Hid (Below w.heap.size w (w.alloc (.cells #[.int .i64 d0, .slice a1 d1.length p1] 77))) := (Below.refl _ _).alloc (Nat.le_refl _) _
  have z_0 : w.heap.size < (w.alloc (.cells #[.int .i64 d0, .slice a1 d1.length p1] 77)).heap.size := by simp
  have t0_0 : (w.alloc (.cells #[.int .i64 d0, .slice a1 d1.length p1] 77)).cell? ⟨w.heap.size, 0, none⟩ = some (.int .i64 d0) := by rw [World.cell?_alloc_at _ _ _ _ rfl]; rfl
  have t1_0 : (w.alloc (.cells #[.int .i64 d0, .slice a1 d1.length p1] 77)).cell? ⟨w.heap.size, 1, none⟩ = some (.slice a1 d1.length p1) := by rw [World.cell?_alloc_at _ _ _ _ rfl]; rfl
  clear h1
  obtain ⟨r0, hr⟩ : ∃ r, szR left (szTs d1 : Nat) = r := ⟨_, rfl⟩
  have l0 : r0 ≤ left := by rw [← hr]; unfold szR; split <;> omega
  have m0 : r0 < 0 → r0 = -1 := by rw [← hr]; unfold szR; split <;> omega
  have HS0 : Hid (szR left ((szTs d1 : Nat) : Int) = r0) := by exact hr
  have HR0 := hid hr
  clear hr
  by_cases g0 : r0 < 0
  · skip
    have h8 : szR left ((szTs d1 : Nat) : Int) < 0 := by rw [HS0.out]; exact g0
    have HF := hid (HS0.out.trans (m0 g0))
    clear h8 m0
    go_enter Tryd.func36, Tryd.ntmps36
    go_wp2_with fail
    refine (u_szTermS R1_0.out (by omega) (by omega)).mono ?_
    rintro e w_1 ⟨rfl, hb⟩
    rw [HR0.out]
    have R1_1 := hid (R1_0.out.below (Nat.le_refl _) hb)
    have HB_1 := hid (bel_next HB_0.out HB_0.out.size hb)
    have t0_1 := cell_below hb z_0 t0_0
    have t1_1 := cell_below hb z_0 t1_0
    have z_1 := Nat.lt_of_lt_of_le z_0 hb.size
    clear hb R1_0 HB_0 t0_0 t1_0 z_0
    go_wp2
    go_ret
    exact ⟨ret_int HF.out.symm, HB_1.out⟩
  clear m0
  go_enter Tryd.func36, Tryd.ntmps36
  go_wp2_with fail
  refine (u_szTermS R1_0.out (by omega) (by omega)).mono ?_
  rintro e w_1 ⟨rfl, hb⟩
  rw [HR0.out]
  have R1_1 := hid (R1_0.out.below (Nat.le_refl _) hb)
  have HB_1 := hid (bel_next HB_0.out HB_0.out.size hb)
  have t0_1 := cell_below hb z_0 t0_0
  have t1_1 := cell_below hb z_0 t1_0
  have z_1 := Nat.lt_of_lt_of_le z_0 hb.size
  clear hb R1_0 HB_0 t0_0 t1_0 z_0
  go_wp2
  go_ret
  exact ⟨ret_int HS0.out.symm, HB_1.out⟩
set_option maxRecDepth 100000 in
theorem u_eqPoint {S T : Nat → Prop} {d0 : Int} {a1 : Option Addr} {p1 : Nat} {d1 : List Term} {yd0 : Int} {ya1 : Option Addr} {yp1 : Nat} {yd1 : List Term} {w : World} (h1 : SlRd cTerm S w a1 p1 d1) (yh1 : SlRd cTerm T w ya1 yp1 yd1) :
    Calls Tryd.prog 56 #[.agg #[.int .i64 d0, .slice a1 d1.length p1], .agg #[.int .i64 yd0, .slice ya1 yd1.length yp1]] w fun e w' => e = .returned (.bool (decide (((d0, d1) : Pt) = (yd0, yd1)))) ∧ Below w.heap.size w w' := by
  have R1_0 := hid ((h1.alloc (.cells #[.int .i64 d0, .slice a1 d1.length p1] 82)).alloc (.cells #[.int .i64 yd0, .slice ya1 yd1.length yp1] 82))
  have yR1_0 := hid ((yh1.alloc (.cells #[.int .i64 d0, .slice a1 d1.length p1] 82)).alloc (.cells #[.int .i64 yd0, .slice ya1 yd1.length yp1] 82))
  have HB_0 : Hid (Below w.heap.size w ((w.alloc (.cells #[.int .i64 d0, .slice a1 d1.length p1] 82)).alloc (.cells #[.int .i64 yd0, .slice ya1 yd1.length yp1] 82))) := ((Below.refl _ _).alloc (Nat.le_refl _) _).alloc (by simp) _
  have z_0 : w.heap.size + 1 < ((w.alloc (.cells #[.int .i64 d0, .slice a1 d1.length p1] 82)).alloc (.cells #[.int .i64 yd0, .slice ya1 yd1.length yp1] 82)).heap.size := by simp
  have t0_0 : ((w.alloc (.cells #[.int .i64 d0, .slice a1 d1.length p1] 82)).alloc (.cells #[.int .i64 yd0, .slice ya1 yd1.length yp1] 82)).cell? ⟨w.heap.size, 0, none⟩ = some (.int .i64 d0) := by simp [go_sem]
  have yt0_0 : ((w.alloc (.cells #[.int .i64 d0, .slice a1 d1.length p1] 82)).alloc (.cells #[.int .i64 yd0, .slice ya1 yd1.length yp1] 82)).cell? ⟨w.heap.size + 1, 0, none⟩ = some (.int .i64 yd0) := by simp [go_sem]
  have t1_0 : ((w.alloc (.cells #[.int .i64 d0, .slice a1 d1.length p1] 82)).alloc (.cells #[.int .i64 yd0, .slice ya1 yd1.length yp1] 82)).cell? ⟨w.heap.size, 1, none⟩ = some (.slice a1 d1.length p1) := by simp [go_sem]
  have yt1_0 : ((w.alloc (.cells #[.int .i64 d0, .slice a1 d1.length p1] 82)).alloc (.cells #[.int .i64 yd0, .slice ya1 yd1.length yp1] 82)).cell? ⟨w.heap.size + 1, 1, none⟩ = some (.slice ya1 yd1.length yp1) := by simp [go_sem]
  clear h1 yh1
  obtain ⟨b0, hb0⟩ : ∃ b, decide (d0 = yd0) = b := ⟨_, rfl⟩
  obtain ⟨b1, hb1⟩ : ∃ b, decide ((d1 : List Term) = yd1) = b := ⟨_, rfl⟩
  have HF : Hid (decide (((d0, d1) : Pt) = (yd0, yd1)) = (b0 && b1)) := by unfold Hid; rw [← hb0, ← hb1, Bool.eq_iff_iff]; simp [Prod.ext_iff]
  have e0 : (d0 != yd0) = !b0 := by rw [← hb0, Bool.eq_iff_iff]; simp
  have HR0 := hid hb0
  clear hb0
  have HR1 := hid hb1
  clear hb1
  cases b0
  · skip
    simp only [Bool.not_false] at e0
    go_enter Tryd.func56, Tryd.ntmps56
    go_wp2
    go_ret
    exact ⟨ret_bool (by rw [HF.out]; simp), HB_0.out⟩
  simp only [Bool.not_true] at e0
  cases b1
  · skip
    go_enter Tryd.func56, Tryd.ntmps56
    go_wp2_with fail
    refine (u_eqTermS R1_0.out yR1_0.out).mono ?_
    rintro e w_1 ⟨rfl, hb⟩
    rw [HR1.out]
    have R1_1 := hid (R1_0.out.below (Nat.le_refl _) hb)
    have yR1_1 := hid (yR1_0.out.below (Nat.le_refl _) hb)
    have HB_1 := hid (bel_next HB_0.out HB_0.out.size hb)
    have t0_1 := cell_below hb (Nat.lt_of_succ_lt z_0) t0_0
    have yt0_1 := cell_below hb z_0 yt0_0
    have t1_1 := cell_below hb (Nat.lt_of_succ_lt z_0) t1_0
    have yt1_1 := cell_below hb z_0 yt1_0
    have z_1 := Nat.lt_of_lt_of_le z_0 hb.size
    clear hb R1_0 yR1_0 HB_0 t0_0 yt0_0 t1_0 yt1_0 z_0
    go_wp2
    go_ret
    exact ⟨ret_bool (by rw [HF.out]; simp), HB_1.out⟩
  go_enter Tryd.func56, Tryd.ntmps56
  go_wp2_with fail
  refine (u_eqTermS R1_0.out yR1_0.out).mono ?_
  rintro e w_1 ⟨rfl, hb⟩
  rw [HR1.out]
  have R1_1 := hid (R1_0.out.below (Nat.le_refl _) hb)
  have yR1_1 := hid (yR1_0.out.below (Nat.le_refl _) hb)
  have HB_1 := hid (bel_next HB_0.out HB_0.out.size hb)
  have t0_1 := cell_below hb (Nat.lt_of_succ_lt z_0) t0_0
  have yt0_1 := cell_below hb z_0 yt0_0
  have t1_1 := cell_below hb (Nat.lt_of_succ_lt z_0) t1_0
  have yt1_1 := cell_below hb z_0 yt1_0
  have z_1 := Nat.lt_of_lt_of_le z_0 hb.size
  clear hb R1_0 yR1_0 HB_0 t0_0 yt0_0 t1_0 yt1_0 z_0
  go_wp2
  go_ret
  exact ⟨ret_bool (by rw [HF.out]; simp), HB_1.out⟩
def RetPoint (x : Pt) (w : World) (e : Ending) (w' : World) : Prop :=
  ∃ a1 p1, e = .returned (.agg #[.int .i64 x.1, .slice a1 x.2.length p1]) ∧ SlRd cTerm (Fresh w.heap.size w') w' a1 p1 x.2 ∧ Below w.heap.size w w'
set_option maxRecDepth 100000 in
set_option maxHeartbeats 1000000 in
theorem u_toPoint {S : Nat → Prop} {d0 : Int} {a1 : Option Addr} {p1 : Nat} {d1 : List Term} {w : World} (h1 : SlRd cTerm S w a1 p1 d1) (hz : szTs d1 ≤ 1048576) :
    Calls Tryd.prog 45 #[.agg #[.int .i64 d0, .slice a1 d1.length p1]] w (RetPoint (d0, d1) w) := by
  have h1 := h1.keep (S' := fun b => S b ∧ b < w.heap.size) (w' := w) (fun b hb hlt => ⟨⟨hb, hlt⟩, rfl⟩)
  have R1_0 := hid (((h1.alloc (.cells #[.int .i64 d0, .slice a1 d1.length p1] 77)).alloc (.cells #[.int .i64 0, .slice none 0 0] 82)).alloc (.cells #[.int .i64 d0, .slice none 0 0] 82))
  have HB_0 : Hid (Below w.heap.size w (((w.alloc (.cells #[.int .i64 d0, .slice a1 d1.length p1] 77)).alloc (.cells #[.int .i64 0, .slice none 0 0] 82)).alloc (.cells #[.int .i64 d0, .slice none 0 0] 82))) := (((Below.refl _ _).alloc (Nat.le_refl _) _).alloc (by simp) _).alloc (by simp; omega) _
  have z_0 : w.heap.size + 1 + 1 < (((w.alloc (.cells #[.int .i64 d0, .slice a1 d1.length p1] 77)).alloc (.cells #[.int .i64 0, .slice none 0 0] 82)).alloc (.cells #[.int .i64 d0, .slice none 0 0] 82)).heap.size := by simp
  have KB_0 : Hid ((((w.alloc (.cells #[.int .i64 d0, .slice a1 d1.length p1] 77)).alloc (.cells #[.int .i64 0, .slice none 0 0] 82)).alloc (.cells #[.int .i64 d0, .slice none 0 0] 82)).heap[w.heap.size]? = some (.cells #[.int .i64 d0, .slice a1 d1.length p1] 77 (0, 0))) := by unfold Hid; rw [Below.heap_alloc _ _ _ (by simp; omega), Below.heap_alloc _ _ _ (by simp)]; exact new_at rfl
  have KR_0 : Hid ((((w.alloc (.cells #[.int .i64 d0, .slice a1 d1.length p1] 77)).alloc (.cells #[.int .i64 0, .slice none 0 0] 82)).alloc (.cells #[.int .i64 d0, .slice none 0 0] 82)).heap[w.heap.size + 1]? = some (.cells #[.int .i64 0, .slice none 0 0] 82 (0, 0))) := by unfold Hid; rw [Below.heap_alloc _ _ _ (by simp)]; exact new_at (by simp)
  have KL_0 : Hid ((((w.alloc (.cells #[.int .i64 d0, .slice a1 d1.length p1] 77)).alloc (.cells #[.int .i64 0, .slice none 0 0] 82)).alloc (.cells #[.int .i64 d0, .slice none 0 0] 82)).heap[w.heap.size + 1 + 1]? = some (.cells #[.int .i64 d0, .slice none 0 0] 82 (0, 0))) := new_at (by simp)
  clear h1
  go_enter Tryd.func45, Tryd.ntmps45
  go_wp2_with fail
  generalize (((w.alloc (.cells #[.int .i64 d0, .slice a1 d1.length p1] 77)).alloc (.cells #[.int .i64 0, .slice none 0 0] 82)).alloc (.cells #[.int .i64 d0, .slice none 0 0] 82)) = wc_0 at *
  refine (u_toTermS R1_0.out (by omega)).mono ?_
  rintro e w_1 ⟨na1, np1, rfl, hs1, hb⟩
  have R1_1 := hid (R1_0.out.below (Nat.le_refl _) hb)
  have N1_1 := hid (hs1.lower (B' := w.heap.size + 1 + 1 + 1) z_0)
  have HB_1 := hid (bel_next HB_0.out HB_0.out.size hb)
  have KB_1 := hid ((hb.block (w.heap.size) (by omega)).trans KB_0.out)
  have KR_1 := hid ((hb.block (w.heap.size + 1) (by omega)).trans KR_0.out)
  have KL_1 := hid ((hb.block (w.heap.size + 1 + 1) (by omega)).trans KL_0.out)
  have z_1 := Nat.lt_of_lt_of_le z_0 hb.size
  clear hb hs1 R1_0  HB_0 KB_0 KR_0 KL_0 z_0
  have tb0 := cell_of KB_1.out (j := 0) rfl
  have tl0 := cell_of KL_1.out (j := 0) rfl
  have fl0 := frz_of KL_1.out 0
  have tr0 := cell_of KR_1.out (j := 0) rfl
  have fr0 := frz_of KR_1.out 0
  have tb1 := cell_of KB_1.out (j := 1) rfl
  have tl1 := cell_of KL_1.out (j := 1) rfl
  have fl1 := frz_of KL_1.out 1
  have tr1 := cell_of KR_1.out (j := 1) rfl
  have fr1 := frz_of KR_1.out 1
  go_wp2
  refine bodyPost_ret (v := .agg #[.int .i64 d0, .slice na1 d1.length np1]) (by simp [results, Tryd.results45, go_sem, tr0, tr1]) rfl ⟨na1, np1, rfl, ?_, ?_⟩
  · exact (((N1_1.out.setC (by simp) _).setC (by simp) _).setC (by simp) _).lower (by omega)
  · exact (((HB_1.out.setCell (by simp <;> omega) _).setCell (by simp <;> omega) _).setCell (by simp <;> omega) _)
abbrev cPoints : Codec (List Pt) := cSl cPoint
abbrev nPoints : Norm cPoints := nSl nPoint
def szPt (x : Pt) : Nat := szTs x.2
def szPts (xs : List Pt) : Nat := xs.length + (xs.map szPt).sum
theorem szPts_le {x : Pt} {xs : List Pt} (h : x ∈ xs) : szPt x ≤ szPts xs := by have := sumf_mem (f := szPt) h; unfold szPts; omega
theorem SlRd.pt_at {S : Nat → Prop} {w : World} {b off cap : Nat} {xs : List Pt} (h : SlRd cPoint S w (some ⟨b, off, none⟩) cap xs) (k : Nat) (hk : k < xs.length) :
    ∃ (d0 : Int) (a1 : Option Addr) (p1 : Nat) (d1 : List Term), xs[k]? = some (d0, d1) ∧ I64 d0 ∧ SlRd cTerm S w a1 p1 d1 ∧ w.cell? ⟨b, off + k * 2, none⟩ = some (.int .i64 d0) ∧ w.cell? ⟨b, off + k * 2 + 1, none⟩ = some (.slice a1 d1.length p1) ∧ b < w.heap.size := by
  obtain ⟨x, cs, h1, hr, h7, _, hc⟩ := h.at k hk
  obtain ⟨a1, p1, rfl, r1, r0⟩ := Pt_list hr
  exact ⟨x.1, a1, p1, x.2, h1, r0, r1, hc 0 _ rfl, hc 1 _ rfl, h7⟩
theorem own_at_Pt {S : Nat → Prop} {w : World} {base : Nat} {e : TypeId} {zl : List Pt} {g cap n : Nat} (h : OwnSl cPoint S w base e (.slice (some ⟨g, 0, none⟩) n cap) zl) (hn : zl.length = n) (k : Nat) (hk : k < n) :
    ∃ (d0 : Int) (a1 : Option Addr) (p1 : Nat) (d1 : List Term), w.cell? ⟨g, k * 2, none⟩ = some (.int .i64 d0) ∧ w.cell? ⟨g, k * 2 + 1, none⟩ = some (.slice a1 d1.length p1) ∧ w.frozen? ⟨g, k * 2, none⟩ = false ∧ w.frozen? ⟨g, k * 2 + 1, none⟩ = false ∧ g < w.heap.size := by
  obtain ⟨x, cs, h1, hr, h2, h3, h4, h5⟩ := own_at h hn k hk
  obtain ⟨a1, p1, rfl, r1, r0⟩ := Pt_list hr
  exact ⟨x.1, a1, p1, x.2, h4 0 _ rfl, h4 1 _ rfl, h5 _, h5 _, h2⟩
set_option maxRecDepth 100000 in
theorem own_set_Pt {B B' base : Nat} {w : World} {e : TypeId} {zl : List Pt} {g cap n : Nat} (h : OwnSl cPoint (Fresh B w) w base e (.slice (some ⟨g, 0, none⟩) n cap) zl) (hn : zl.length = n) (k : Nat) (hk : k < n)
    {d0 : Int} {a1 : Option Addr} {p1 : Nat} {d1 : List Term} (i0 : I64 d0) (h1 : SlRd cTerm (Fresh B' w) w a1 p1 d1) (hB : B ≤ B') (hg : g < B') :
    OwnSl cPoint (Fresh B ((w.setCell ⟨g, k * 2, none⟩ (.int .i64 d0)).setCell ⟨g, k * 2 + 1, none⟩ (.slice a1 d1.length p1))) ((w.setCell ⟨g, k * 2, none⟩ (.int .i64 d0)).setCell ⟨g, k * 2 + 1, none⟩ (.slice a1 d1.length p1)) base e (.slice (some ⟨g, 0, none⟩) n cap) (zl.set k (d0, d1)) ∧ w.grownBy ((w.setCell ⟨g, k * 2, none⟩ (.int .i64 d0)).setCell ⟨g, k * 2 + 1, none⟩ (.slice a1 d1.length p1)) (some g) := by
  have k1 : SlRd cTerm (fun b => Fresh B w b ∧ b ≠ g) w a1 p1 d1 := h1.keep fun b hb hl => ⟨⟨⟨Nat.le_trans hB hb.1, hb.2⟩, by have := hb.1; omega⟩, rfl⟩
  have h9 := own_set h hn k hk [.int .i64 d0, .slice a1 d1.length p1] (d0, d1) (rd_pair (rd_i i0) (rd_sl k1))
  exact ⟨own_refresh h9.1 fun b hb => thawed_setCell (thawed_setCell (hb) _ _) _ _, h9.2⟩
theorem slPt : SlT Tryd.prog 32 82 (.agg #[.int .i64 0, .slice none 0 0]) 2 32 := ⟨Tryd.underlying32, by kernel_rfl, rfl, by decide, by decide⟩
set_option maxRecDepth 100000 in
theorem u_szPointS {S : Nat → Prop} {a : Option Addr} {p : Nat} {xs : List Pt} {left : Int} {w : World} (h : SlRd cPoint S w a p xs) (h0 : 0 ≤ left) (h1 : left ≤ 1048576) :
    Calls Tryd.prog 17 #[.slice a xs.length p, .int .i64 left] w fun e w' => e = .returned (.int .i64 (szR left (szPts xs : Nat))) ∧ Below w.heap.size w w' := by
  have H := hid h
  have hl := h.len_le
  clear h
  by_cases hs : left < xs.length
  · have HF : Hid (szR left (szPts xs : Nat) = -1) := szR_neg (n := xs.length) (by unfold szR; rw [if_pos hs]; omega)
    have h' : left - (xs.length : Int) < 0 := by omega
    go_enter Tryd.func17, Tryd.ntmps17
    go_wp2
    go_ret
    exact ⟨ret_int HF.out.symm, Below.refl _ _⟩
  · have h' : 0 ≤ left - (xs.length : Int) := by omega
    go_enter Tryd.func17, Tryd.ntmps17
    go_wp2
    go_loopw [1, 5] (fun u i wr => ∃ (k : Nat) (r : Int), k ≤ xs.length ∧ i = .int .i64 k ∧ u = .int .i64 r ∧ 0 ≤ r ∧ r ≤ left ∧ Hid (r = szR left (xs.length + ((xs.take k).map szPt).sum : Nat)) ∧ Below w.heap.size w wr) (fun _ i _ => xs.length - (intOf i).toNat)
    case atStart => exact ⟨0, _, Nat.zero_le _, rfl, rfl, h', by omega, by (unfold Hid szR; simp; omega), Below.refl _ _⟩
    case round =>
      obtain ⟨k, r, hk, rfl, rfl, hr0, hr1, HR, hbe⟩ := hrel
      have hsz := hbe.size
      by_cases hlt : k < xs.length
      · obtain ⟨b, off, rfl⟩ := H.out.some_of hlt
        obtain ⟨d0, a1, p1, d1, hz, hi0, hs1, hc0, hc1, hb⟩ := (H.out.below (Nat.le_refl _) hbe).pt_at k hlt
        have HZ := hid hz
        clear hz
        have HC := hid (fun (hr1 : r ≤ 1048576) => u_szPoint (w := wr) (d0 := d0) hs1 hr0 hr1)
        clear hs1
        obtain ⟨q, hq⟩ : ∃ q, szR r (szPt (d0, d1) : Nat) = q := ⟨_, rfl⟩
        have hqs : q = szR left (xs.length + ((xs.take (k + 1)).map szPt).sum : Nat) := by
          rw [← hq, sumf_take HZ.out]
          have hr := HR.out
          rw [hr] at hr0
          rw [hr, szR_add hr0, Nat.add_assoc]
        have hq1 : q ≤ r := by rw [← hq]; unfold szR; split <;> omega
        have HQ : Hid (szR r (szTs d1 : Nat) = q) := hq
        have HS := hid hqs
        clear hq hqs
        by_cases hneg : q < 0
        · have HF : Hid (szR left (szPts xs : Nat) = -1) := by
            have h2 := HS.out
            rw [h2] at hneg
            have h3 : szPts xs = (xs.length + ((xs.take (k + 1)).map szPt).sum) + ((xs.map szPt).sum - ((xs.take (k + 1)).map szPt).sum) := by
              have := sumf_take_le szPt xs (k + 1)
              unfold szPts; omega
            unfold Hid; rw [h3]; exact szR_neg hneg
          go_wp2_with (go_at_call 36; refine (HC.out (by omega)).mono ?_; rintro e w1 ⟨rfl, hb1⟩; rw [HQ.out])
          go_ret
          exact ⟨ret_int HF.out.symm, bel_next hbe hsz hb1⟩
        · go_wp2_with (go_at_call 36; refine (HC.out (by omega)).mono ?_; rintro e w1 ⟨rfl, hb1⟩; rw [HQ.out])
          go_roundw
          case rel => exact ⟨k + 1, q, by omega, by go_num, rfl, by omega, by omega, HS, bel_next hbe hsz hb1⟩
          case measure => simp [intOf]; omega
      · go_wp2
        go_ret
        exact ⟨ret_int (by rw [HR.out, List.take_of_length_le (by omega)]; rfl), hbe⟩
set_option maxRecDepth 100000 in
set_option maxHeartbeats 1000000 in
theorem u_toPointS {S : Nat → Prop} {a : Option Addr} {p : Nat} {xs : List Pt} {w : World} (h : SlRd cPoint S w a p xs) (hz : szPts xs ≤ 1048576) :
    Calls Tryd.prog 22 #[.slice a xs.length p] w (RetSl cPoint xs w) := by
  have H := hid h
  have hn : xs.length ≤ 1048576 := by unfold szPts at hz; omega
  have HN : Hid (∀ x ∈ xs, szPt x ≤ 1048576) := fun x hx => Nat.le_trans (szPts_le hx) hz
  clear h hz
  go_enter Tryd.func22, Tryd.ntmps22
  go_wp2_with (at_make; go_loud (refine wpList_mk rfl (.tmp 6) (.tmp 6) _ rfl rfl rfl (own_mk slPt (C := cPoint) (base := w.heap.size) (fun _ => False) xs.length (by omega) (Nat.le_refl _) (0, []) (fun _ _ => rd_pair rd_int0 rd_nil) _ _) ?_); rintro w1 ⟨hown, hg⟩)
  have hlt0 : w.heap.size < w1.heap.size := (own_lt hown _ rfl).2
  have HO := hid hown
  have HG := hid hg
  clear hown hg
  go_loopw [4] (fun i wr => ∃ k : Nat, k ≤ xs.length ∧ i = .int .i64 k ∧ Hid (OwnSl cPoint (Fresh w.heap.size wr) wr w.heap.size 82 (.slice (some ⟨w.heap.size, 0, none⟩) xs.length xs.length) (xs.take k ++ List.replicate (xs.length - k) (0, []))) ∧ Below w.heap.size w wr ∧ w.heap.size < wr.heap.size) (fun i _ => xs.length - (intOf i).toNat)
  case atStart => exact ⟨0, Nat.zero_le _, rfl, by simpa [Hid] using own_keep (S' := Fresh w.heap.size w1) HO.out (fun _ h => h.elim) (fun _ _ _ => rfl), (Below.refl _ _).grown HG.out (Nat.le_refl _) (by simp), hlt0⟩
  case round =>
    obtain ⟨k, hk, rfl, HW, hbe, hgl⟩ := hrel
    have hsz := hbe.size
    by_cases hlt : k < xs.length
    · obtain ⟨b, off, rfl⟩ := H.out.some_of hlt
      obtain ⟨d0, a1, p1, d1, hz, hi0, hs1, hc0, hc1, hb⟩ := (H.out.below (Nat.le_refl _) hbe).pt_at k hlt
      have hzl := HN.out _ (List.mem_of_getElem? hz)
      have HC := hid (u_toPoint (w := wr) (d0 := d0) hs1 hzl)
      have HZ := hid hz
      clear hz hzl hs1
      go_wp2_with (go_at_call 45; refine HC.out.mono ?_; rintro e w2 ⟨na1, np1, rfl, nh1, hb2⟩; simp only at nh1 ⊢; have hw2 := own_fresh HW.out (Nat.le_refl _) (Nat.le_refl _) hb2; obtain ⟨_, _, _, _, g0, g1, f0, f1, _⟩ := own_at_Pt hw2 (fill_len rfl hk) k hlt; have HW2 := hid hw2; have NH1 := hid nh1; have hz2 := hb2.size; have HB2 := hid hb2; clear hw2 hb2 nh1)
      go_roundw
      case rel =>
        obtain ⟨h1, h2⟩ := own_set_Pt HW2.out (fill_len rfl hk) k hlt hi0 NH1.out hsz hgl
        rw [fill_set rfl hlt HZ.out] at h1
        exact ⟨k + 1, by omega, by go_num, h1, (((hbe.trans (HB2.out.mono hsz)).setCell (Nat.le_refl _) _).setCell (Nat.le_refl _) _), by simp [World.setCell]; omega⟩
      case measure => simp [intOf]; omega
    · go_wp2
      go_ret
      have hown := HW.out
      rw [fill_end rfl (by omega)] at hown
      exact retSl_own hown (fun _ h _ => h) hbe
set_option maxRecDepth 100000 in
set_option maxHeartbeats 1000000 in
theorem u_eqPointS {S T : Nat → Prop} {a b : Option Addr} {ca cb : Nat} {xs ys : List Pt} {w : World} (hx : SlRd cPoint S w a ca xs) (hy : SlRd cPoint T w b cb ys) :
    Calls Tryd.prog 27 #[.slice a xs.length ca, .slice b ys.length cb] w fun e w' => e = .returned (.bool (decide (xs = ys))) ∧ Below w.heap.size w w' := by
  have HX := hid hx
  have HY := hid hy
  have hlx := hx.len_le
  have hly := hy.len_le
  clear hx hy
  by_cases hl : xs.length = ys.length
  · have h1 : ((xs.length : Int) != ys.length) = false := by simp [hl]
    have hl1 : xs.length ≤ ys.length := by omega
    have hl2 : ys.length ≤ xs.length := by omega
    clear hl
    go_enter Tryd.func27, Tryd.ntmps27
    go_wp2
    go_loopw [5] (fun i wr => ∃ k : Nat, k ≤ xs.length ∧ i = .int .i64 k ∧ Hid (xs.take k = ys.take k) ∧ Below w.heap.size w wr) (fun i _ => xs.length - (intOf i).toNat)
    case atStart => exact ⟨0, Nat.zero_le _, rfl, rfl, Below.refl _ _⟩
    case round =>
      obtain ⟨k, hk, rfl, HA, hbe⟩ := hrel
      have hsz := hbe.size
      by_cases hlt : k < xs.length
      · obtain ⟨b1, off1, rfl⟩ := HX.out.some_of hlt
        obtain ⟨b2, off2, rfl⟩ := HY.out.some_of (k := k) (by omega)
        obtain ⟨d0, a1, p1, d1, hxk, hi0, hs1, hc0, hc1, hb⟩ := (HX.out.below (Nat.le_refl _) hbe).pt_at k hlt
        obtain ⟨yd0, ya1, yp1, yd1, hyk, yi0, ys1, yc0, yc1, hby⟩ := (HY.out.below (Nat.le_refl _) hbe).pt_at k (by omega)
        have HXK := hid hxk
        have HYK := hid hyk
        have HC := hid (u_eqPoint (w := wr.drew) (d0 := d0) (yd0 := yd0) hs1.drew ys1.drew)
        clear hxk hyk hs1 ys1
        have i1 : (0 : Int) ≤ (k : Int) := by omega
        have i2 : (k : Int) < (xs.length : Int) := by omega
        have i3 : (k : Int) < (ys.length : Int) := by omega
        obtain ⟨r, hr⟩ : ∃ r, decide (((d0, d1) : Pt) = (yd0, yd1)) = r := ⟨_, rfl⟩
        have HR := hid hr
        clear hr
        cases r
        · go_wp2
          go_still_tail 8, (by kernel_rfl)
          change wpList _ _ _ _ _ wr.drew
          go_wp2_with (go_at_call 56; refine HC.out.mono ?_; rintro e w1 ⟨rfl, hb1⟩; rw [HR.out])
          go_ret
          exact ⟨ret_bool (by simp [ne_at HXK.out HYK.out (of_decide_eq_false HR.out)]), hbe.drew.trans (hb1.mono hsz)⟩
        · go_wp2
          go_still_tail 8, (by kernel_rfl)
          change wpList _ _ _ _ _ wr.drew
          go_wp2_with (go_at_call 56; refine HC.out.mono ?_; rintro e w1 ⟨rfl, hb1⟩; rw [HR.out])
          go_roundw
          case rel => exact ⟨k + 1, by omega, by go_num, take_eq_snoc HA.out HXK.out HYK.out (of_decide_eq_true HR.out), hbe.drew.trans (hb1.mono hsz)⟩
          case measure => simp [intOf]; omega
      · go_wp2
        go_ret
        exact ⟨ret_bool (by simp [take_all_eq HA.out (by omega) (by omega)]), hbe⟩
  · have h1 : ((xs.length : Int) != ys.length) = true := by simp; omega
    have HF : Hid (decide (xs = ys) = false) := by unfold Hid; simp; rintro rfl; exact hl rfl
    clear hl
    go_enter Tryd.func27, Tryd.ntmps27
    go_wp2
    go_ret
    exact ⟨ret_bool HF.out.symm, Below.refl _ _⟩
end Go.Proofs.YtcmopmapdomneaaDoor
end
