/- Contracts: the text of an instruction. -/
import Derived.Test.YtcbaohcgeoaccaaDoorD03
import Derived.Test.YtcbaohcgeoaccaaDoorL01
import Derived.Deep.RegionHeld3
namespace Go.Proofs.YtcbaohcgeoaccaaDoor
open Go.RowKit

def opW : List (List UInt8) := [[112, 117, 115, 104], [108, 111, 97, 100], [115, 116, 111, 114, 101], [97, 100, 100], [115, 99, 97, 108, 101], [106, 117, 109, 112], [116, 101, 115, 116], [103, 101, 116], [112, 117, 116], [101, 109, 105, 116], [99, 104, 101, 99, 107], [104, 97, 108, 116]]
def wordF (op : Int) : List UInt8 := opW[op.toNat]?.getD []
def argB (op : Int) : Bool := decide (op = 0) || (decide (op = 1) || (decide (op = 2) || (decide (op = 4) || (decide (op = 5) || (decide (op = 6) || decide (op = 9))))))
def lineF (x : Instr) : List UInt8 := if argB x.1 then wordF x.1 ++ 32 :: Lib.itoa x.2 else wordF x.1
def idxF {α : Type} [BEq α] (zs : List α) (v : α) (k : Nat) : Int := match zs with
  | [] => -1
  | z :: r => if z == v then (k : Int) else idxF r v (k + 1)
theorem idxF_at {α : Type} [BEq α] [LawfulBEq α] {zs : List α} {v : α} : ∀ {k : Nat} {n : Nat}, (∀ j, j < n → zs[j]? ≠ some v) → zs[n]? = some v → idxF zs v k = ((k + n : Nat) : Int) := by
  induction zs with
  | nil => intro k n _ h; simp at h
  | cons z r ih =>
    intro k n h1 h2
    unfold idxF
    cases n with
    | zero => simp at h2; simp [h2]
    | succ n =>
      have h0 := h1 0 (by omega)
      simp at h0
      rw [if_neg (by simpa using h0), ih (k := k + 1) (n := n) (fun j hj => by have := h1 (j + 1) (by omega); simpa using this) (by simpa using h2)]
      congr 1; omega
theorem idxF_no {α : Type} [BEq α] [LawfulBEq α] {zs : List α} {v : α} : ∀ {k : Nat}, (∀ j, j < zs.length → zs[j]? ≠ some v) → idxF zs v k = -1 := by
  induction zs with
  | nil => intro k _; rfl
  | cons z r ih =>
    intro k h
    unfold idxF
    have h0 := h 0 (by simp)
    simp at h0
    rw [if_neg (by simpa using h0), ih (k := k + 1) fun j hj => by have := h (j + 1) (by simp; omega); simpa using this]
theorem idxF_has {α : Type} [BEq α] [LawfulBEq α] (zs : List α) (v : α) (k : Nat) : decide (0 ≤ idxF zs v k) = zs.contains v := by
  induction zs generalizing k with
  | nil => simp [idxF]
  | cons z r ih =>
    unfold idxF
    by_cases h : z == v
    · rw [if_pos h]
      have e := eq_of_beq h
      subst e; simp
    · rw [if_neg h, ih]
      have hne : ¬ z = v := by simpa using h
      simp [Ne.symm hne]
set_option maxRecDepth 100000 in
theorem c_index64 {S : Nat → Prop} {a : Option Addr} {p : Nat} {zs : List Int} {v : Int} {w : World} (h : SlRd cInt S w a p zs) :
    Calls Tryd.prog 160 #[.slice a zs.length p, .int .i64 v] w fun e w' => e = .returned (.int .i64 (idxF zs v 0)) ∧ w = w' := by
  have H := hid h
  have hl := h.len_le
  clear h
  go_enter Tryd.func160, Tryd.ntmps160
  go_wp2
  go_loop [8] (fun i => ∃ k : Nat, k ≤ zs.length ∧ i = .int .i64 k ∧ Hid (∀ j, j < k → zs[j]? ≠ some v)) (fun i => zs.length - (intOf i).toNat)
  case atStart => exact ⟨0, Nat.zero_le _, rfl, by unfold Hid; intro j hj; omega⟩
  case round =>
    obtain ⟨k, hk, rfl, HA⟩ := hrel
    by_cases hlt : k < zs.length
    · obtain ⟨b, off, rfl⟩ := H.out.some_of hlt
      obtain ⟨z, hz, hz2, hc, hb⟩ := H.out.int_at k hlt
      have i0 : (0 : Int) ≤ (k : Int) := by omega
      have i1 : (k : Int) < (zs.length : Int) := by omega
      by_cases he : v = z
      · subst he
        have HF : Hid (idxF zs v 0 = (k : Int)) := by unfold Hid; rw [idxF_at HA.out hz]; simp
        clear hz
        go_wp2
        go_ret
        rw [HF.out]; exact ⟨rfl, rfl⟩
      · have hne : (v == z) = false := by simpa using he
        have HN : Hid (∀ j, j < k + 1 → zs[j]? ≠ some v) := by
          intro j hj
          by_cases hjk : j = k
          · subst hjk; rw [hz]; intro e; exact he (Option.some.inj e).symm
          · exact HA.out j (by omega)
        clear hz he
        go_wp2
        go_round
        case rel => exact ⟨k + 1, by omega, by go_num, HN⟩
        case measure => simp [intOf]; omega
    · have HF : Hid (idxF zs v 0 = -1) := idxF_no fun j hj => HA.out j (by omega)
      go_wp2
      go_ret
      rw [HF.out]; exact ⟨rfl, rfl⟩
theorem c_contains64 {S : Nat → Prop} {a : Option Addr} {p : Nat} {zs : List Int} {v : Int} {w : World} (h : SlRd cInt S w a p zs) :
    Calls Tryd.prog 135 #[.slice a zs.length p, .int .i64 v] w fun e w' => e = .returned (.bool (zs.contains v)) ∧ w = w' := by
  have H := hid h
  have HC := hid (idxF_has zs v 0)
  clear h
  obtain ⟨q, hq⟩ : ∃ q, idxF zs v 0 = q := ⟨_, rfl⟩
  rw [hq] at HC
  have HQ := hid hq
  clear hq
  go_enter Tryd.func135, Tryd.ntmps135
  go_wp2_with (go_at_call 160; refine (c_index64 H.out).mono ?_; rw [HQ.out]; rintro e w' ⟨rfl, rfl⟩)
  go_ret
  rw [← HC.out]
  exact ⟨rfl, rfl⟩
set_option maxRecDepth 100000 in
theorem c_indexS {S : Nat → Prop} {a : Option Addr} {p : Nat} {zs : List (List UInt8)} {v : List UInt8} {w : World} (h : SlRd cStr S w a p zs) :
    Calls Tryd.prog 100 #[.slice a zs.length p, .string ⟨v.toArray⟩] w fun e w' => e = .returned (.int .i64 (idxF zs v 0)) ∧ w = w' := by
  have H := hid h
  have hl := h.len_le
  clear h
  go_enter Tryd.func100, Tryd.ntmps100
  go_wp2
  go_loop [8] (fun i => ∃ k : Nat, k ≤ zs.length ∧ i = .int .i64 k ∧ Hid (∀ j, j < k → zs[j]? ≠ some v)) (fun i => zs.length - (intOf i).toNat)
  case atStart => exact ⟨0, Nat.zero_le _, rfl, by unfold Hid; intro j hj; omega⟩
  case round =>
    obtain ⟨k, hk, rfl, HA⟩ := hrel
    by_cases hlt : k < zs.length
    · obtain ⟨b, off, rfl⟩ := H.out.some_of hlt
      obtain ⟨z, hz, hz2, hc, hb, _⟩ := H.out.str_at k hlt
      have i0 : (0 : Int) ≤ (k : Int) := by omega
      have i1 : (k : Int) < (zs.length : Int) := by omega
      by_cases he : v = z
      · subst he
        have HF : Hid (idxF zs v 0 = (k : Int)) := by unfold Hid; rw [idxF_at HA.out hz]; simp
        clear hz
        go_wp2
        go_ret
        rw [HF.out]; exact ⟨rfl, rfl⟩
      · have hne : (v == z) = false := by simpa using he
        have HN : Hid (∀ j, j < k + 1 → zs[j]? ≠ some v) := by
          intro j hj
          by_cases hjk : j = k
          · subst hjk; rw [hz]; intro e; exact he (Option.some.inj e).symm
          · exact HA.out j (by omega)
        clear hz he
        go_wp2
        go_round
        case rel => exact ⟨k + 1, by omega, by go_num, HN⟩
        case measure => simp [intOf]; omega
    · have HF : Hid (idxF zs v 0 = -1) := idxF_no fun j hj => HA.out j (by omega)
      go_wp2
      go_ret
      rw [HF.out]; exact ⟨rfl, rfl⟩
theorem rd_list {S : Nat → Prop} {w : World} {b : Nat} {zs : List Int} {cs : Array Value} {e : TypeId} {fr : Nat × Nat} (hb : w.heap[b]? = some (.cells cs e fr)) (hS : S b) (hc : cs.toList = zs.map (.int .i64 ·)) (hz : ∀ z ∈ zs, I64 z) (hl : zs.length ≤ 9223372036854775807) : SlRd cInt S w (some ⟨b, 0, none⟩) zs.length zs := by
  refine ⟨Nat.le_refl _, hl, by simp, ?_⟩
  rintro x ⟨⟩ i d hi
  refine ⟨⟨rfl, hS, (Array.getElem?_eq_some_iff.1 hb).1⟩, [.int .i64 d], ⟨rfl, hz d (List.mem_of_getElem? hi)⟩, fun j u hj => ?_⟩
  match j, hj with
  | 0, hj =>
    simp at hj; subst hj
    rw [cell_of_row w b _ cs e fr hb, ← Array.getElem?_toList, hc]
    simp [cInt, hi]
theorem c_hasArg (op : Int) (w : World) : Calls Tryd.prog 102 #[.int .i64 op] w fun e w' => e = .returned (.bool (argB op)) ∧ Below w.heap.size w w' := by
  go_enter Tryd.func102, Tryd.ntmps102
  go_wp2_with fail
  have HL : Hid (SlRd cInt (fun _ => True) (w.alloc (.cells #[.int .i64 0, .int .i64 1, .int .i64 2, .int .i64 4, .int .i64 5, .int .i64 6, .int .i64 9] 2)) (some ⟨w.heap.size, 0, none⟩) [0, 1, 2, 4, 5, 6, 9].length [0, 1, 2, 4, 5, 6, 9]) := rd_list (S := fun _ => True) (zs := [0, 1, 2, 4, 5, 6, 9]) (heap_new w _) trivial rfl (by simp [I64]) (by simp)
  have HB : Hid (Below w.heap.size w (w.alloc (.cells #[.int .i64 0, .int .i64 1, .int .i64 2, .int .i64 4, .int .i64 5, .int .i64 6, .int .i64 9] 2))) := (Below.refl _ _).alloc (Nat.le_refl _) _
  generalize w.alloc (.cells #[.int .i64 0, .int .i64 1, .int .i64 2, .int .i64 4, .int .i64 5, .int .i64 6, .int .i64 9] 2) = w1 at *
  refine (c_contains64 HL.out).mono ?_
  rintro e w' ⟨rfl, rfl⟩
  go_wp2
  go_ret
  exact ⟨rfl, HB.out⟩
theorem c_l07Args (op : Int) (w : World) : Calls Tryd.prog 111 #[.int .i64 op] w fun e w' => e = .returned (.bool (argB op)) ∧ w = w' := by
  go_enter Tryd.func111, Tryd.ntmps111
  go_wp2
  all_goals
    go_ret
    refine ⟨ret_bool ?_, rfl⟩
    unfold argB
    simp_all [show ∀ a b : Int, (a == b) = decide (a = b) from fun _ _ => rfl]
theorem opW_len (op : Int) : (wordF op).length ≤ 5 := by
  unfold wordF
  cases h : opW[op.toNat]? with
  | none => simp
  | some l =>
    have hm := List.mem_of_getElem? h
    have hall : ∀ l ∈ opW, l.length ≤ 5 := by decide
    simpa using hall l hm
def opCells : Array Value := #[.string ⟨#[112, 117, 115, 104]⟩, .string ⟨#[108, 111, 97, 100]⟩, .string ⟨#[115, 116, 111, 114, 101]⟩, .string ⟨#[97, 100, 100]⟩, .string ⟨#[115, 99, 97, 108, 101]⟩, .string ⟨#[106, 117, 109, 112]⟩, .string ⟨#[116, 101, 115, 116]⟩, .string ⟨#[103, 101, 116]⟩, .string ⟨#[112, 117, 116]⟩, .string ⟨#[101, 109, 105, 116]⟩, .string ⟨#[99, 104, 101, 99, 107]⟩, .string ⟨#[104, 97, 108, 116]⟩]
theorem opCells_eq : opCells.toList = opW.map strOf := rfl
theorem opCells_at (k : Nat) (h : k < 12) : opCells[k]? = some (.string ⟨(wordF k).toArray⟩) := by
  rw [← Array.getElem?_toList, opCells_eq, List.getElem?_map]
  unfold wordF
  rw [Int.toNat_natCast]
  cases e : opW[k]? with
  | none => rw [List.getElem?_eq_none_iff] at e; have : opW.length = 12 := rfl; omega
  | some l => rfl
theorem c_opWords (w : World) : Calls Tryd.prog 101 #[] w fun e w' => e = .returned (.slice (some ⟨w.heap.size, 0, none⟩) 12 12) ∧ w' = w.alloc (.cells opCells 9) := by
  go_enter Tryd.func101, Tryd.ntmps101
  go_wp2
  go_ret
  exact ⟨rfl, rfl⟩
theorem c_l07Word (op : Int) (w : World) (h0 : 0 ≤ op) (h1 : op ≤ 11) : Calls Tryd.prog 112 #[.int .i64 op] w fun e w' => e = .returned (strOf (wordF op)) ∧ Below w.heap.size w w' := by
  obtain ⟨k, rfl⟩ := Int.eq_ofNat_of_zero_le h0
  have HC : Hid ((w.alloc (.cells opCells 9)).cell? ⟨w.heap.size, k, none⟩ = some (.string ⟨(wordF k).toArray⟩)) := by
    unfold Hid; rw [World.cell?_alloc_at _ _ _ _ rfl]; exact opCells_at k (by omega)
  have HB : Hid (Below w.heap.size w (w.alloc (.cells opCells 9))) := (Below.refl _ _).alloc (Nat.le_refl _) _
  have i2 : (k : Int) < 12 := by omega
  unfold opCells at HC HB
  have hc := HC.out
  go_enter Tryd.func112, Tryd.ntmps112
  go_wp2
  go_ret
  exact ⟨rfl, HB.out⟩
end Go.Proofs.YtcbaohcgeoaccaaDoor
