/- Contracts: two numbers sorted, and one of two that are equal left out. -/
import Derived.Test.YtedmhdinfedhhaaUni
import Derived.Test.YtedmhdinfedhhaaShelf
import Derived.BigRegion
import Derived.Lib.SliceRun
import Derived.Deep.QuietTactic
import Derived.BigQuiet
namespace Go.Proofs.Ytedmhdinfedhhaa
open Go.RowKit

/-- The two numbers of block g stand in order. -/
def Srt2 (g : Nat) (x y : Int) (e : TypeId) (w w' : World) : Prop := w'.heap[g]? = some (.cells #[.int .i64 (min x y), .int .i64 (max x y)] e (0, 0)) ∧ w.grownBy w' (some g)
theorem grown_drewN (w : World) (n : Nat) (r : Option Nat) : w.grownBy (w.drewN n) r := ⟨rfl, rfl, rfl, Nat.le_refl _, fun _ _ _ => rfl⟩
theorem srt2_drewN {g : Nat} {x y : Int} {e : TypeId} {w w' : World} (h : Srt2 g x y e w w') (n : Nat) : Srt2 g x y e w (w'.drewN n) :=
  ⟨h.1, ⟨h.2.os, h.2.tape, h.2.output, h.2.size, fun i hi hn => h.2.block i hi hn⟩⟩
theorem grown_tr {a b c : World} {row : Option Nat} (h : a.grownBy b row) (k : b.grownBy c row) : a.grownBy c row :=
  ⟨k.os.trans h.os, k.tape.trans h.tape, k.output.trans h.output, Nat.le_trans h.size k.size, fun i hi hn => (k.block i (Nat.lt_of_lt_of_le hi h.size) hn).trans (h.block i hi hn)⟩
theorem srt2_swap {g : Nat} {x y : Int} {e : TypeId} {w : World} (hyx : y < x) (hw : w.heap[g]? = some (.cells #[.int .i64 x, .int .i64 y] e (0, 0))) (n : Nat) :
    Srt2 g x y e w (((w.drewN n).setCell ⟨g, 1, none⟩ (.int .i64 x)).setCell ⟨g, 0, none⟩ (.int .i64 y)) := by
  have h := blk_set (w := (w.drewN n).setCell ⟨g, 1, none⟩ (.int .i64 x)) (blk_set (w := w.drewN n) hw 1 (.int .i64 x)) 0 (.int .i64 y)
  refine ⟨?_, rfl, rfl, rfl, ?_, fun i hi hn => ?_⟩
  · rw [Int.min_eq_right (by omega), Int.max_eq_left (by omega)]; exact h
  · rw [size_set, size_set]; exact Nat.le_refl _
  · have h1 : i ≠ g := fun e => hn (by rw [e])
    rw [Below.heap_setCell _ _ _ _ h1, Below.heap_setCell _ _ _ _ h1]; rfl
theorem srt2_same {g : Nat} {x y : Int} {e : TypeId} {w : World} (hyx : ¬ y < x) (hw : w.heap[g]? = some (.cells #[.int .i64 x, .int .i64 y] e (0, 0))) : Srt2 g x y e w w :=
  ⟨by rw [Int.min_eq_left (by omega), Int.max_eq_right (by omega)]; exact hw, rfl, rfl, rfl, Nat.le_refl _, fun _ _ _ => rfl⟩
theorem c_isNaN (x : Int) (w : World) : Calls Try.prog 187 #[.int .i64 x] w fun e w' => e = .returned (.bool false) ∧ w = w' := by
  go_enter Try.func187, Try.ntmps187
  go_wp2
  go_ret
  exact ⟨ret_bool (by simp), rfl⟩
theorem c_Less (x y : Int) (w : World) : Calls Try.prog 169 #[.int .i64 x, .int .i64 y] w fun e w' => e = .returned (.bool (decide (x < y))) ∧ w = w' := by
  go_enter Try.func169, Try.ntmps169
  go_wp2_with (go_at_call 187; refine (c_isNaN _ _).mono ?_; rintro e w1 ⟨rfl, rfl⟩)
  go_ret
  exact ⟨rfl, rfl⟩
set_option maxRecDepth 100000 in
theorem c_ins2 (g cap : Nat) (x y : Int) (e : TypeId) (w : World) (hw : w.heap[g]? = some (.cells #[.int .i64 x, .int .i64 y] e (0, 0))) :
    Calls Try.prog 163 #[.slice (some ⟨g, 0, none⟩) 2 cap, .int .i64 0, .int .i64 2] w fun r w' => r = .returned (.tuple #[]) ∧ Srt2 g x y e w w' := by
  have c0 : w.cell? ⟨g, 0, none⟩ = some (.int .i64 x) := cell_of hw rfl
  have c1 : w.cell? ⟨g, 1, none⟩ = some (.int .i64 y) := cell_of hw rfl
  have f0 := frz_of hw 0
  have f1 := frz_of hw 1
  have H := hid hw
  clear hw
  by_cases hyx : y < x
  · have hs : decide (y < x) = true := decide_eq_true hyx
    go_enter Try.func163, Try.ntmps163
    go_wp2
    go_loopw [6] (fun iv wr => (iv = .int .i64 1 ∧ wr = w) ∨ (iv = .int .i64 2 ∧ Hid (Srt2 g x y e w wr))) (fun iv _ => (2 - intOf iv).toNat)
    case atStart => exact .inl ⟨rfl, rfl⟩
    case round =>
      rcases hrel with ⟨rfl, rfl⟩ | ⟨rfl, HS⟩
      · go_wp2
        obtain ⟨wo, rfl⟩ : ∃ wo : World, wo = wr := ⟨_, rfl⟩
        go_loopw [7] (fun jv wq => (jv = .int .i64 1 ∧ wq = wo) ∨ (jv = .int .i64 0 ∧ Hid (Srt2 g x y e wo wq))) (fun jv _ => (intOf jv).toNat)
        case atStart => exact .inl ⟨rfl, rfl⟩
        case round =>
          rcases hrel with ⟨rfl, rfl⟩ | ⟨rfl, HS⟩
          · go_wp2
            go_quiet ((go_at_call 169; exact quiet_same (fun w => c_Less _ _ w)))
            go_wp2
            go_region
            go_wp2
            go_roundw
            case rel => exact .inr ⟨rfl, srt2_swap hyx H.out (nq + 1)⟩
            case measure => simp [intOf]
          · go_wp2
            go_quiet ((go_at_call 169; exact quiet_same (fun w => c_Less _ _ w)))
            go_wp2
            go_roundw
            case rel => exact .inr ⟨rfl, srt2_drewN HS.out nq⟩
            case measure => simp [intOf]
      · go_wp2
        go_end0
        exact ⟨rfl, HS.out⟩
  · have hs : decide (y < x) = false := decide_eq_false hyx
    have HS0 : Hid (Srt2 g x y e w w) := srt2_same hyx H.out
    go_enter Try.func163, Try.ntmps163
    go_wp2
    go_loopw [6] (fun iv wr => (iv = .int .i64 1 ∧ wr = w) ∨ (iv = .int .i64 2 ∧ Hid (Srt2 g x y e w wr))) (fun iv _ => (2 - intOf iv).toNat)
    case atStart => exact .inl ⟨rfl, rfl⟩
    case round =>
      rcases hrel with ⟨rfl, rfl⟩ | ⟨rfl, HS⟩
      · go_wp2
        obtain ⟨wo, rfl⟩ : ∃ wo : World, wo = wr := ⟨_, rfl⟩
        go_loopw [7] (fun jv wq => jv = .int .i64 1 ∧ wq = wo) (fun jv _ => (intOf jv).toNat)
        case atStart => exact ⟨rfl, rfl⟩
        case round =>
          obtain ⟨rfl, rfl⟩ := hrel
          go_wp2
          go_quiet ((go_at_call 169; exact quiet_same (fun w => c_Less _ _ w)))
          go_wp2
          go_roundw
          case rel => exact .inr ⟨rfl, srt2_drewN HS0.out nq⟩
          case measure => simp [intOf]
      · go_wp2
        go_end0
        exact ⟨rfl, HS.out⟩
set_option maxRecDepth 100000 in
theorem c_pdq2 (g cap : Nat) (x y l : Int) (e : TypeId) (w : World) (hw : w.heap[g]? = some (.cells #[.int .i64 x, .int .i64 y] e (0, 0))) :
    Calls Try.prog 143 #[.slice (some ⟨g, 0, none⟩) 2 cap, .int .i64 0, .int .i64 2, .int .i64 l] w fun r w' => r = .returned (.tuple #[]) ∧ Srt2 g x y e w w' := by
  have HC := hid (c_ins2 g cap x y e w hw)
  clear hw
  go_enter Try.func143, Try.ntmps143
  go_wp2
  go_loopw [1, 2] (fun a b wr => a = .int .i64 0 ∧ b = .int .i64 2 ∧ wr = w) (fun _ _ _ => 0)
  case atStart => exact ⟨rfl, rfl, rfl⟩
  case round =>
    obtain ⟨rfl, rfl, rfl⟩ := hrel
    go_wp2_with (go_at_call 163; refine HC.out.mono ?_; rintro r w1 ⟨rfl, hs⟩; have HS := hid hs; clear hs)
    refine bodyPost_ret (results_none rfl _ _ _) rfl ?_
    exact ⟨rfl, HS.out⟩
theorem c_sort2 (g cap : Nat) (x y : Int) (e : TypeId) (w : World) (hw : w.heap[g]? = some (.cells #[.int .i64 x, .int .i64 y] e (0, 0))) :
    Calls Try.prog 105 #[.slice (some ⟨g, 0, none⟩) 2 cap] w fun r w' => r = .returned (.tuple #[]) ∧ Srt2 g x y e w w' := by
  have H := hid hw
  clear hw
  go_enter Try.func105, Try.ntmps105
  go_wp2_with (first | (go_at_call 144; refine (Try.bits_Len 2 _ (by decide) (by decide)).mono ?_; rintro r w1 ⟨rfl, rfl⟩) | (go_at_call 143; refine (c_pdq2 _ _ _ _ _ _ _ H.out).mono ?_; rintro r w1 ⟨rfl, hs⟩; have HS := hid hs; clear hs))
  go_end0
  exact ⟨rfl, HS.out⟩
/-- What is left of two numbers in order: one, if they are equal. -/
def RetComp2 (g : Nat) (x y : Int) (e : TypeId) (cap : Nat) (w : World) (r : Ending) (w' : World) : Prop :=
  ∃ (n : Nat) (cs : Array Value), r = .returned (.slice (some ⟨g, 0, none⟩) n cap) ∧ n = (if x = y then 1 else 2) ∧ w'.heap[g]? = some (.cells cs e (0, 0)) ∧ cs[0]? = some (.int .i64 x) ∧ (x ≠ y → cs[1]? = some (.int .i64 y)) ∧ cs.size = 2 ∧ w.grownBy w' (some g)
set_option maxRecDepth 100000 in
theorem c_comp2 (g cap : Nat) (x y : Int) (e : TypeId) (w : World) (hxy : x ≤ y) (hc : 2 ≤ cap) (hw : w.heap[g]? = some (.cells #[.int .i64 x, .int .i64 y] e (0, 0))) :
    Calls Try.prog 106 #[.slice (some ⟨g, 0, none⟩) 2 cap] w (RetComp2 g x y e cap w) := by
  have c0 : w.cell? ⟨g, 0, none⟩ = some (.int .i64 x) := cell_of hw rfl
  have c1 : w.cell? ⟨g, 1, none⟩ = some (.int .i64 y) := cell_of hw rfl
  have f0 := frz_of hw 0
  have f1 := frz_of hw 1
  have H := hid hw
  clear hw
  by_cases hyx : y = x
  · have hs : (y == x) = true := by rw [beq_iff_eq]; exact hyx
    go_enter Try.func106, Try.ntmps106
    go_wp2
    go_loopw [3] (fun iv wr => iv = .int .i64 1 ∧ wr = w) (fun _ _ => 0)
    case atStart => exact ⟨rfl, rfl⟩
    case round =>
      obtain ⟨rfl, rfl⟩ := hrel
      go_wp2
      go_quiet (fail)
      go_wp2
      obtain ⟨wo, hwo⟩ : ∃ wo : World, wo = wr.drewN nq := ⟨_, rfl⟩
      have d0 : wo.cell? ⟨g, 0, none⟩ = some (.int .i64 x) := by rw [hwo]; exact c0
      have d1 : wo.cell? ⟨g, 1, none⟩ = some (.int .i64 y) := by rw [hwo]; exact c1
      have e0 : wo.frozen? ⟨g, 0, none⟩ = false := by rw [hwo]; exact f0
      have e1 : wo.frozen? ⟨g, 1, none⟩ = false := by rw [hwo]; exact f1
      have HO : Hid (wo.heap[g]? = some (.cells #[.int .i64 x, .int .i64 y] e (0, 0)) ∧ wr.grownBy wo (some g)) := by rw [hwo]; exact ⟨H.out, grown_drewN _ _ _⟩
      rw [← hwo]
      clear hwo c0 c1 f0 f1
      go_loopw [3, 5] (fun a b wq => a = .int .i64 1 ∧ b = .int .i64 1 ∧ wq = wo) (fun _ _ _ => 0)
      case atStart => exact ⟨rfl, rfl, rfl⟩
      case round =>
        obtain ⟨rfl, rfl, rfl⟩ := hrel
        have hcl : ∀ ty, (Builtin.clear_ #[28] ty #[.slice (some ⟨g, 1, none⟩) 1 (cap - 1)]).run Try.prog wr = .ok (.tuple #[]) (wr.setCells g 1 (List.replicate 1 (.int .i64 0))) :=
          fun ty => Lib.run_clear_slice wr _ _ ty (.int .i64 0) Try.underlying28 (fun w => by simp [go_sem]) rfl rfl g 1 1 (cap - 1) (by omega) (fun j hj => by have h0 : j = 0 := (by omega); subst h0; show (wr.cell? ⟨g, 1, none⟩).isSome = true; rw [d1]; rfl) (fun j hj => by have h0 : j = 0 := (by omega); subst h0; exact e1)
        go_wp2
        go_ret
        exact ⟨1, #[Value.int .i64 x, Value.int .i64 0], rfl, (if_pos hyx.symm).symm, blk_set HO.out.1 1 _, rfl, fun h => absurd hyx.symm h, rfl, grown_tr HO.out.2 ⟨rfl, rfl, rfl, by show wr.heap.size ≤ (wr.setCell ⟨g, 1, none⟩ (.int .i64 0)).heap.size; rw [size_set]; exact Nat.le_refl _, fun i hi hn => heap_setCell_ne _ _ _ (fun e => hn (by rw [e]))⟩⟩
  · have hs : (y == x) = false := by rw [beq_eq_false_iff_ne]; exact hyx
    go_enter Try.func106, Try.ntmps106
    go_wp2
    go_loopw [3] (fun iv wr => (iv = .int .i64 1 ∧ wr = w) ∨ (iv = .int .i64 2 ∧ ∃ n, wr = w.drewN n)) (fun iv _ => (2 - intOf iv).toNat)
    case atStart => exact .inl ⟨rfl, rfl⟩
    case round =>
      rcases hrel with ⟨rfl, rfl⟩ | ⟨rfl, n, rfl⟩
      · go_wp2
        go_quiet (fail)
        go_wp2
        go_roundw
        case rel => exact .inr ⟨rfl, nq, rfl⟩
        case measure => simp [intOf]
      · go_wp2
        go_ret
        exact ⟨2, #[Value.int .i64 x, Value.int .i64 y], rfl, (if_neg (fun h : x = y => hyx h.symm)).symm, H.out, rfl, fun _ => rfl, rfl, grown_drewN _ _ _⟩
end Go.Proofs.Ytedmhdinfedhhaa
