/- Contracts of chapter 7's functions: code, and the laws' helpers over code. -/
import Derived.Test.YtcbaohcgeoaccaaDoorL07
import Derived.Deep.QuietTactic
import Derived.BigQuiet
import Derived.StillTailTactics
namespace Go.Proofs.YtcbaohcgeoaccaaDoor
open Go.RowKit

def validCode (xs : List Instr) : Bool := inB xs.length 1 80 && xs.all validI
theorem SlRd.instr_at {S : Nat → Prop} {w : World} {b off cap : Nat} {xs : List Instr} (h : SlRd cInstr S w (some ⟨b, off, none⟩) cap xs) (k : Nat) (hk : k < xs.length) :
    ∃ op arg, xs[k]? = some (op, arg) ∧ I64 op ∧ I64 arg ∧ w.cell? ⟨b, off + k * 2, none⟩ = some (.int .i64 op) ∧ w.cell? ⟨b, off + k * 2 + 1, none⟩ = some (.int .i64 arg) ∧ b < w.heap.size := by
  obtain ⟨⟨op, arg⟩, cs, h1, ⟨c', d, rfl, ⟨rfl, hc1⟩, ⟨rfl, hc2⟩⟩, h7, _, hc⟩ := h.at k hk
  exact ⟨op, arg, h1, hc1, hc2, hc 0 _ rfl, hc 1 _ rfl, h7⟩
theorem slInstr : SlT Tryd.prog 50 35 (.agg #[.int .i64 0, .int .i64 0]) 2 16 := ⟨Tryd.underlying50, by kernel_rfl, rfl, by decide, by decide⟩
theorem c_l07Is {S : Nat → Prop} (a : Option Addr) (cap : Nat) (xs : List Instr) (w : World) (h : SlRd cInstr S w a cap xs) :
    Calls Tryd.prog 78 #[.slice a xs.length cap] w fun e w' => e = .returned (.bool (validCode xs)) ∧ Below w.heap.size w w' := by
  have hl := h.len_le
  have H := hid h
  clear h
  go_enter Tryd.func78, Tryd.ntmps78
  go_wp2
  go_loopw [3] (fun i wr => ∃ k : Nat, k ≤ xs.length ∧ i = .int .i64 k ∧ Hid ((xs.take k).all validI = true) ∧ Below w.heap.size w wr) (fun i _ => xs.length - (intOf i).toNat)
  case atStart => exact ⟨0, Nat.zero_le _, rfl, rfl, Below.refl _ _⟩
  case round =>
    obtain ⟨k, hk, rfl, HA, hbe⟩ := hrel
    have hsz := hbe.size
    by_cases hlt : k < xs.length
    · obtain ⟨b, off, rfl⟩ := H.out.some_of hlt
      obtain ⟨op, arg, hz, _, _, hc, hc', hb⟩ := (H.out.below (Nat.le_refl _) hbe).instr_at k hlt
      have HZ := hid hz
      clear hz
      obtain ⟨r, hr⟩ : ∃ r, validI (op, arg) = r := ⟨_, rfl⟩
      have HR := hid hr
      clear hr
      cases r
      · go_wp2_with (go_at_call 67; refine (c_l07Instr _ _ _).mono ?_; rintro e w1 ⟨rfl, hb1⟩; rw [HR.out])
        go_ret
        exact ⟨ret_bool (by simp [validCode, all_false HZ.out HR.out]), bel_next hbe hsz hb1⟩
      · go_wp2_with (go_at_call 67; refine (c_l07Instr _ _ _).mono ?_; rintro e w1 ⟨rfl, hb1⟩; rw [HR.out])
        go_roundw
        case rel => exact ⟨k + 1, by omega, by go_num, (all_take HA.out HZ.out).trans HR.out, bel_next hbe hsz hb1⟩
        case measure => simp [intOf]; omega
    · have HE := hid (all_end HA.out (Nat.le_of_not_lt hlt))
      go_wp2_with (go_at_call 110; refine (c_l00In _ _ _ _).mono ?_; rintro e w' ⟨rfl, rfl⟩)
      go_ret
      exact ⟨ret_bool (by simp [validCode, HE.out]), hbe⟩
theorem c_szInstrS (a : Option Addr) (n cap : Nat) (left : Int) (w : World) (hn : n ≤ 9223372036854775807) (h0 : 0 ≤ left) (h1 : left ≤ 1048576) :
    Calls Tryd.prog 32 #[.slice a n cap, .int .i64 left] w fun e w' => e = .returned (.int .i64 (szR left n)) ∧ Below w.heap.size w w' := by
  by_cases h : left < n
  · have HF : Hid (szR left n = -1) := by unfold Hid; simp [szR, h]
    have h' : left - (n : Int) < 0 := by omega
    go_enter Tryd.func32, Tryd.ntmps32
    go_wp2
    go_ret
    exact ⟨ret_int HF.out.symm, Below.refl _ _⟩
  · have HF : Hid (szR left n = left - n) := by unfold Hid; simp [szR, h]
    go_enter Tryd.func32, Tryd.ntmps32
    go_wp2
    go_ret
    exact ⟨ret_int HF.out.symm, Below.refl _ _⟩
theorem c_toInstrS {S : Nat → Prop} (a : Option Addr) (cap : Nat) (xs : List Instr) (w : World) (h : SlRd cInstr S w a cap xs) (hn : xs.length ≤ 1048576) :
    Calls Tryd.prog 34 #[.slice a xs.length cap] w (RetSl cInstr xs w) := by
  have H := hid h
  clear h
  go_enter Tryd.func34, Tryd.ntmps34
  go_wp2_with (at_make; go_loud (refine wpList_mk rfl (.tmp 6) (.tmp 6) _ rfl rfl rfl (own_mk slInstr (C := cInstr) (base := w.heap.size) (fun _ => False) xs.length (by omega) (Nat.le_refl _) (0, 0) (fun _ _ => ⟨[_], [_], rfl, ⟨rfl, i64_0⟩, ⟨rfl, i64_0⟩⟩) _ _) ?_); rintro w1 ⟨hown, hg⟩)
  have hlt0 : w.heap.size < w1.heap.size := (own_lt hown _ rfl).2
  have HO := hid hown
  have HG := hid hg
  clear hown hg
  go_loopw [4] (fun i wr => ∃ k : Nat, k ≤ xs.length ∧ i = .int .i64 k ∧ OwnSl cInstr (fun _ => False) wr w.heap.size 35 (.slice (some ⟨w.heap.size, 0, none⟩) xs.length xs.length) (xs.take k ++ List.replicate (xs.length - k) (0, 0)) ∧ Below w.heap.size w wr ∧ w.heap.size < wr.heap.size) (fun i _ => xs.length - (intOf i).toNat)
  case atStart => exact ⟨0, Nat.zero_le _, rfl, by simpa using HO.out, (Below.refl _ _).grown HG.out (Nat.le_refl _) (by simp), hlt0⟩
  case round =>
    obtain ⟨k, hk, rfl, hown, hbe, hgl⟩ := hrel
    have hsz := hbe.size
    by_cases hlt : k < xs.length
    · obtain ⟨b, off, rfl⟩ := H.out.some_of hlt
      obtain ⟨op, arg, hz, hi1, hi2, hc, hc', hb⟩ := (H.out.below (Nat.le_refl _) hbe).instr_at k hlt
      have HZ := hid hz
      have HW := hid hown
      clear hz hown
      go_wp2_with (go_at_call 25; refine (c_toInstr _ _ _).mono ?_; rintro e w2 ⟨rfl, hb2⟩; have hw2 := own_below HW.out (Nat.le_refl _) hb2; obtain ⟨_, _, _, _, _, g1, g2, g3, g4, g5, _⟩ := own_at_instr hw2 (fill_len rfl hk) k hlt; have HW2 := hid hw2; have hz2 := hb2.size; have HB2 := hid hb2; clear hw2 hb2)
      go_roundw
      case rel =>
        obtain ⟨h1, h2⟩ := own_set_instr HW2.out (fill_len rfl hk) k hlt op arg hi1 hi2
        rw [fill_set rfl hlt HZ.out] at h1
        exact ⟨k + 1, by omega, by go_num, h1, ((hbe.trans (HB2.out.mono hsz)).setCell (Nat.le_refl _) _).setCell (Nat.le_refl _) _, by simp [World.setCell]; omega⟩
      case measure => simp [intOf]; omega
    · go_wp2
      go_ret
      rw [fill_end rfl (by omega)] at hown
      exact retSl_own hown (fun _ h => h.elim) hbe
theorem c_eqInstr (a b c d : Int) (w : World) :
    Calls Tryd.prog 51 #[.agg #[.int .i64 a, .int .i64 b], .agg #[.int .i64 c, .int .i64 d]] w fun e w' => e = .returned (.bool (decide (((a, b) : Instr) = (c, d)))) ∧ Below w.heap.size w w' := by
  have hb0 : ∀ o1 o2, Below w.heap.size w ((w.alloc o1).alloc o2) := fun o1 o2 => ((Below.refl _ _).alloc (Nat.le_refl _) o1).alloc (by simp) o2
  have HB := hid hb0
  clear hb0
  by_cases h1 : a = c
  · have e1 : (a != c) = false := by simp [h1]
    by_cases h2 : b = d
    · have e2 : (b != d) = false := by simp [h2]
      have HF : Hid (decide (((a, b) : Instr) = (c, d)) = true) := by unfold Hid; simp [h1, h2]
      clear h1 h2
      go_enter Tryd.func51, Tryd.ntmps51
      go_wp2
      go_ret
      exact ⟨ret_bool HF.out.symm, HB.out _ _⟩
    · have e2 : (b != d) = true := by simp [h2]
      have HF : Hid (decide (((a, b) : Instr) = (c, d)) = false) := by unfold Hid; simp [h2]
      clear h1 h2
      go_enter Tryd.func51, Tryd.ntmps51
      go_wp2
      go_ret
      exact ⟨ret_bool HF.out.symm, HB.out _ _⟩
  · have e1 : (a != c) = true := by simp [h1]
    have HF : Hid (decide (((a, b) : Instr) = (c, d)) = false) := by unfold Hid; simp [h1]
    clear h1
    go_enter Tryd.func51, Tryd.ntmps51
    go_wp2
    go_ret
    exact ⟨ret_bool HF.out.symm, HB.out _ _⟩
set_option maxRecDepth 100000 in
theorem c_eqInstrS {S T : Nat → Prop} (a b : Option Addr) (ca cb : Nat) (xs ys : List Instr) (w : World) (hx : SlRd cInstr S w a ca xs) (hy : SlRd cInstr T w b cb ys) :
    Calls Tryd.prog 36 #[.slice a xs.length ca, .slice b ys.length cb] w fun e w' => e = .returned (.bool (decide (xs = ys))) ∧ Below w.heap.size w w' := by
  have HX := hid hx
  have HY := hid hy
  have hlx := hx.len_le
  have hly := hy.len_le
  clear hx hy
  by_cases hl : xs.length = ys.length
  · have h1 : ((xs.length : Int) != ys.length) = false := by simp [hl]
    have hl1 : xs.length ≤ ys.length := by omega
    have hl2 : ys.length ≤ xs.length := by omega
    clear hl
    go_enter Tryd.func36, Tryd.ntmps36
    go_wp2
    go_loopw [5] (fun i wr => ∃ k : Nat, k ≤ xs.length ∧ i = .int .i64 k ∧ Hid (xs.take k = ys.take k) ∧ Below w.heap.size w wr) (fun i _ => xs.length - (intOf i).toNat)
    case atStart => exact ⟨0, Nat.zero_le _, rfl, rfl, Below.refl _ _⟩
    case round =>
      obtain ⟨k, hk, rfl, HA, hbe⟩ := hrel
      have hsz := hbe.size
      by_cases hlt : k < xs.length
      · obtain ⟨b1, off1, rfl⟩ := HX.out.some_of hlt
        obtain ⟨b2, off2, rfl⟩ := HY.out.some_of (k := k) (by omega)
        obtain ⟨x, x', hxk, _, _, hcx, hcx', hbx⟩ := (HX.out.below (Nat.le_refl _) hbe).instr_at k hlt
        obtain ⟨y, y', hyk, _, _, hcy, hcy', hby⟩ := (HY.out.below (Nat.le_refl _) hbe).instr_at k (by omega)
        have HXK := hid hxk
        have HYK := hid hyk
        clear hxk hyk
        have i1 : (0 : Int) ≤ (k : Int) := by omega
        have i2 : (k : Int) < (xs.length : Int) := by omega
        have i3 : (k : Int) < (ys.length : Int) := by omega
        obtain ⟨r, hr⟩ : ∃ r, decide (((x, x') : Instr) = (y, y')) = r := ⟨_, rfl⟩
        have HR := hid hr
        clear hr
        cases r
        · go_wp2
          go_still_tail 8, (by kernel_rfl)
          change wpList _ _ _ _ _ wr.drew
          go_wp2_with (go_at_call 51; refine (c_eqInstr _ _ _ _ _).mono ?_; rintro e w1 ⟨rfl, hb1⟩; rw [HR.out])
          go_ret
          exact ⟨ret_bool (by simp [ne_at HXK.out HYK.out (of_decide_eq_false HR.out)]), hbe.drew.trans (hb1.mono hsz)⟩
        · go_wp2
          go_still_tail 8, (by kernel_rfl)
          change wpList _ _ _ _ _ wr.drew
          go_wp2_with (go_at_call 51; refine (c_eqInstr _ _ _ _ _).mono ?_; rintro e w1 ⟨rfl, hb1⟩; rw [HR.out])
          go_roundw
          case rel => exact ⟨k + 1, by omega, by go_num, take_eq_snoc HA.out HXK.out HYK.out (of_decide_eq_true HR.out), hbe.drew.trans (hb1.mono hsz)⟩
          case measure => simp [intOf]; omega
      · go_wp2
        go_ret
        exact ⟨ret_bool (by simp [take_all_eq HA.out (by omega) (by omega)]), hbe⟩
  · have h1 : ((xs.length : Int) != ys.length) = true := by simp; omega
    have HF : Hid (decide (xs = ys) = false) := by unfold Hid; simp; rintro rfl; exact hl rfl
    clear hl
    go_enter Tryd.func36, Tryd.ntmps36
    go_wp2
    go_ret
    exact ⟨ret_bool HF.out.symm, Below.refl _ _⟩
end Go.Proofs.YtcbaohcgeoaccaaDoor
