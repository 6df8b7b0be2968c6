/- Contracts and laws of data, 22 texts joined (they are printed one by one from wip/src). -/
import Derived.Test.YtcmopmapdomneaaDoorM1
import Derived.Deep.QuietTactic
import Derived.BigQuiet
import Derived.StillTailTactics
import Derived.Deep.RegionHeld3
import Derived.OrdersHeld
import Derived.Shelf.Strings.Builder2
import Derived.Deep.RegionLaw
import Derived.Deep.RegionWith

section
namespace Go.Proofs.YtcmopmapdomneaaDoor
open Go.RowKit

def validCode (xs : List Instr) : Bool := inB xs.length 1 80 && xs.all validI
theorem SlRd.instr_at {S : Nat → Prop} {w : World} {b off cap : Nat} {xs : List Instr} (h : SlRd cInstr S w (some ⟨b, off, none⟩) cap xs) (k : Nat) (hk : k < xs.length) :
    ∃ op arg, xs[k]? = some (op, arg) ∧ I64 op ∧ I64 arg ∧ w.cell? ⟨b, off + k * 2, none⟩ = some (.int .i64 op) ∧ w.cell? ⟨b, off + k * 2 + 1, none⟩ = some (.int .i64 arg) ∧ b < w.heap.size := by
  obtain ⟨⟨op, arg⟩, cs, h1, ⟨c', d, rfl, ⟨rfl, hc1⟩, ⟨rfl, hc2⟩⟩, h7, _, hc⟩ := h.at k hk
  exact ⟨op, arg, h1, hc1, hc2, hc 0 _ rfl, hc 1 _ rfl, h7⟩
theorem slInstr : SlT Tryd.prog 31 88 (.agg #[.int .i64 0, .int .i64 0]) 2 16 := ⟨Tryd.underlying31, by kernel_rfl, rfl, by decide, by decide⟩
theorem c_l07Is {S : Nat → Prop} (a : Option Addr) (cap : Nat) (xs : List Instr) (w : World) (h : SlRd cInstr S w a cap xs) :
    Calls Tryd.prog 37 #[.slice a xs.length cap] w fun e w' => e = .returned (.bool (validCode xs)) ∧ Below w.heap.size w w' := by
  have hl := h.len_le
  have H := hid h
  clear h
  go_enter Tryd.func37, Tryd.ntmps37
  go_wp2
  go_loopw [3] (fun i wr => ∃ k : Nat, k ≤ xs.length ∧ i = .int .i64 k ∧ Hid ((xs.take k).all validI = true) ∧ Below w.heap.size w wr) (fun i _ => xs.length - (intOf i).toNat)
  case atStart => exact ⟨0, Nat.zero_le _, rfl, rfl, Below.refl _ _⟩
  case round =>
    obtain ⟨k, hk, rfl, HA, hbe⟩ := hrel
    have hsz := hbe.size
    by_cases hlt : k < xs.length
    · obtain ⟨b, off, rfl⟩ := H.out.some_of hlt
      obtain ⟨op, arg, hz, _, _, hc, hc', hb⟩ := (H.out.below (Nat.le_refl _) hbe).instr_at k hlt
      have HZ := hid hz
      clear hz
      obtain ⟨r, hr⟩ : ∃ r, validI (op, arg) = r := ⟨_, rfl⟩
      have HR := hid hr
      clear hr
      cases r
      · go_wp2_with (go_at_call 68; refine (c_l07Instr _ _ _).mono ?_; rintro e w1 ⟨rfl, hb1⟩; rw [HR.out])
        go_ret
        exact ⟨ret_bool (by simp [validCode, all_false HZ.out HR.out]), bel_next hbe hsz hb1⟩
      · go_wp2_with (go_at_call 68; refine (c_l07Instr _ _ _).mono ?_; rintro e w1 ⟨rfl, hb1⟩; rw [HR.out])
        go_roundw
        case rel => exact ⟨k + 1, by omega, by go_num, (all_take HA.out HZ.out).trans HR.out, bel_next hbe hsz hb1⟩
        case measure => simp [intOf]; omega
    · have HE := hid (all_end HA.out (Nat.le_of_not_lt hlt))
      go_wp2_with (go_at_call 39; refine (c_l00In _ _ _ _).mono ?_; rintro e w' ⟨rfl, rfl⟩)
      go_ret
      exact ⟨ret_bool (by simp [validCode, HE.out]), hbe⟩
theorem c_szInstrS (a : Option Addr) (n cap : Nat) (left : Int) (w : World) (hn : n ≤ 9223372036854775807) (h0 : 0 ≤ left) (h1 : left ≤ 1048576) :
    Calls Tryd.prog 16 #[.slice a n cap, .int .i64 left] w fun e w' => e = .returned (.int .i64 (szR left n)) ∧ Below w.heap.size w w' := by
  by_cases h : left < n
  · have HF : Hid (szR left n = -1) := by unfold Hid; simp [szR, h]
    have h' : left - (n : Int) < 0 := by omega
    go_enter Tryd.func16, Tryd.ntmps16
    go_wp2
    go_ret
    exact ⟨ret_int HF.out.symm, Below.refl _ _⟩
  · have HF : Hid (szR left n = left - n) := by unfold Hid; simp [szR, h]
    go_enter Tryd.func16, Tryd.ntmps16
    go_wp2
    go_ret
    exact ⟨ret_int HF.out.symm, Below.refl _ _⟩
theorem c_toInstrS {S : Nat → Prop} (a : Option Addr) (cap : Nat) (xs : List Instr) (w : World) (h : SlRd cInstr S w a cap xs) (hn : xs.length ≤ 1048576) :
    Calls Tryd.prog 21 #[.slice a xs.length cap] w (RetSl cInstr xs w) := by
  have H := hid h
  clear h
  go_enter Tryd.func21, Tryd.ntmps21
  go_wp2_with (at_make; go_loud (refine wpList_mk rfl (.tmp 6) (.tmp 6) _ rfl rfl rfl (own_mk slInstr (C := cInstr) (base := w.heap.size) (fun _ => False) xs.length (by omega) (Nat.le_refl _) (0, 0) (fun _ _ => ⟨[_], [_], rfl, ⟨rfl, i64_0⟩, ⟨rfl, i64_0⟩⟩) _ _) ?_); rintro w1 ⟨hown, hg⟩)
  have hlt0 : w.heap.size < w1.heap.size := (own_lt hown _ rfl).2
  have HO := hid hown
  have HG := hid hg
  clear hown hg
  go_loopw [4] (fun i wr => ∃ k : Nat, k ≤ xs.length ∧ i = .int .i64 k ∧ OwnSl cInstr (fun _ => False) wr w.heap.size 88 (.slice (some ⟨w.heap.size, 0, none⟩) xs.length xs.length) (xs.take k ++ List.replicate (xs.length - k) (0, 0)) ∧ Below w.heap.size w wr ∧ w.heap.size < wr.heap.size) (fun i _ => xs.length - (intOf i).toNat)
  case atStart => exact ⟨0, Nat.zero_le _, rfl, by simpa using HO.out, (Below.refl _ _).grown HG.out (Nat.le_refl _) (by simp), hlt0⟩
  case round =>
    obtain ⟨k, hk, rfl, hown, hbe, hgl⟩ := hrel
    have hsz := hbe.size
    by_cases hlt : k < xs.length
    · obtain ⟨b, off, rfl⟩ := H.out.some_of hlt
      obtain ⟨op, arg, hz, hi1, hi2, hc, hc', hb⟩ := (H.out.below (Nat.le_refl _) hbe).instr_at k hlt
      have HZ := hid hz
      have HW := hid hown
      clear hz hown
      go_wp2_with (go_at_call 44; refine (c_toInstr _ _ _).mono ?_; rintro e w2 ⟨rfl, hb2⟩; have hw2 := own_below HW.out (Nat.le_refl _) hb2; obtain ⟨_, _, _, _, _, g1, g2, g3, g4, g5, _⟩ := own_at_instr hw2 (fill_len rfl hk) k hlt; have HW2 := hid hw2; have hz2 := hb2.size; have HB2 := hid hb2; clear hw2 hb2)
      go_roundw
      case rel =>
        obtain ⟨h1, h2⟩ := own_set_instr HW2.out (fill_len rfl hk) k hlt op arg hi1 hi2
        rw [fill_set rfl hlt HZ.out] at h1
        exact ⟨k + 1, by omega, by go_num, h1, ((hbe.trans (HB2.out.mono hsz)).setCell (Nat.le_refl _) _).setCell (Nat.le_refl _) _, by simp [World.setCell]; omega⟩
      case measure => simp [intOf]; omega
    · go_wp2
      go_ret
      rw [fill_end rfl (by omega)] at hown
      exact retSl_own hown (fun _ h => h.elim) hbe
theorem c_eqInstr (a b c d : Int) (w : World) :
    Calls Tryd.prog 55 #[.agg #[.int .i64 a, .int .i64 b], .agg #[.int .i64 c, .int .i64 d]] w fun e w' => e = .returned (.bool (decide (((a, b) : Instr) = (c, d)))) ∧ Below w.heap.size w w' := by
  have hb0 : ∀ o1 o2, Below w.heap.size w ((w.alloc o1).alloc o2) := fun o1 o2 => ((Below.refl _ _).alloc (Nat.le_refl _) o1).alloc (by simp) o2
  have HB := hid hb0
  clear hb0
  by_cases h1 : a = c
  · have e1 : (a != c) = false := by simp [h1]
    by_cases h2 : b = d
    · have e2 : (b != d) = false := by simp [h2]
      have HF : Hid (decide (((a, b) : Instr) = (c, d)) = true) := by unfold Hid; simp [h1, h2]
      clear h1 h2
      go_enter Tryd.func55, Tryd.ntmps55
      go_wp2
      go_ret
      exact ⟨ret_bool HF.out.symm, HB.out _ _⟩
    · have e2 : (b != d) = true := by simp [h2]
      have HF : Hid (decide (((a, b) : Instr) = (c, d)) = false) := by unfold Hid; simp [h2]
      clear h1 h2
      go_enter Tryd.func55, Tryd.ntmps55
      go_wp2
      go_ret
      exact ⟨ret_bool HF.out.symm, HB.out _ _⟩
  · have e1 : (a != c) = true := by simp [h1]
    have HF : Hid (decide (((a, b) : Instr) = (c, d)) = false) := by unfold Hid; simp [h1]
    clear h1
    go_enter Tryd.func55, Tryd.ntmps55
    go_wp2
    go_ret
    exact ⟨ret_bool HF.out.symm, HB.out _ _⟩
set_option maxRecDepth 100000 in
theorem c_eqInstrS {S T : Nat → Prop} (a b : Option Addr) (ca cb : Nat) (xs ys : List Instr) (w : World) (hx : SlRd cInstr S w a ca xs) (hy : SlRd cInstr T w b cb ys) :
    Calls Tryd.prog 26 #[.slice a xs.length ca, .slice b ys.length cb] w fun e w' => e = .returned (.bool (decide (xs = ys))) ∧ Below w.heap.size w w' := by
  have HX := hid hx
  have HY := hid hy
  have hlx := hx.len_le
  have hly := hy.len_le
  clear hx hy
  by_cases hl : xs.length = ys.length
  · have h1 : ((xs.length : Int) != ys.length) = false := by simp [hl]
    have hl1 : xs.length ≤ ys.length := by omega
    have hl2 : ys.length ≤ xs.length := by omega
    clear hl
    go_enter Tryd.func26, Tryd.ntmps26
    go_wp2
    go_loopw [5] (fun i wr => ∃ k : Nat, k ≤ xs.length ∧ i = .int .i64 k ∧ Hid (xs.take k = ys.take k) ∧ Below w.heap.size w wr) (fun i _ => xs.length - (intOf i).toNat)
    case atStart => exact ⟨0, Nat.zero_le _, rfl, rfl, Below.refl _ _⟩
    case round =>
      obtain ⟨k, hk, rfl, HA, hbe⟩ := hrel
      have hsz := hbe.size
      by_cases hlt : k < xs.length
      · obtain ⟨b1, off1, rfl⟩ := HX.out.some_of hlt
        obtain ⟨b2, off2, rfl⟩ := HY.out.some_of (k := k) (by omega)
        obtain ⟨x, x', hxk, _, _, hcx, hcx', hbx⟩ := (HX.out.below (Nat.le_refl _) hbe).instr_at k hlt
        obtain ⟨y, y', hyk, _, _, hcy, hcy', hby⟩ := (HY.out.below (Nat.le_refl _) hbe).instr_at k (by omega)
        have HXK := hid hxk
        have HYK := hid hyk
        clear hxk hyk
        have i1 : (0 : Int) ≤ (k : Int) := by omega
        have i2 : (k : Int) < (xs.length : Int) := by omega
        have i3 : (k : Int) < (ys.length : Int) := by omega
        obtain ⟨r, hr⟩ : ∃ r, decide (((x, x') : Instr) = (y, y')) = r := ⟨_, rfl⟩
        have HR := hid hr
        clear hr
        cases r
        · go_wp2
          go_still_tail 8, (by kernel_rfl)
          change wpList _ _ _ _ _ wr.drew
          go_wp2_with (go_at_call 55; refine (c_eqInstr _ _ _ _ _).mono ?_; rintro e w1 ⟨rfl, hb1⟩; rw [HR.out])
          go_ret
          exact ⟨ret_bool (by simp [ne_at HXK.out HYK.out (of_decide_eq_false HR.out)]), hbe.drew.trans (hb1.mono hsz)⟩
        · go_wp2
          go_still_tail 8, (by kernel_rfl)
          change wpList _ _ _ _ _ wr.drew
          go_wp2_with (go_at_call 55; refine (c_eqInstr _ _ _ _ _).mono ?_; rintro e w1 ⟨rfl, hb1⟩; rw [HR.out])
          go_roundw
          case rel => exact ⟨k + 1, by omega, by go_num, take_eq_snoc HA.out HXK.out HYK.out (of_decide_eq_true HR.out), hbe.drew.trans (hb1.mono hsz)⟩
          case measure => simp [intOf]; omega
      · go_wp2
        go_ret
        exact ⟨ret_bool (by simp [take_all_eq HA.out (by omega) (by omega)]), hbe⟩
  · have h1 : ((xs.length : Int) != ys.length) = true := by simp; omega
    have HF : Hid (decide (xs = ys) = false) := by unfold Hid; simp; rintro rfl; exact hl rfl
    clear hl
    go_enter Tryd.func26, Tryd.ntmps26
    go_wp2
    go_ret
    exact ⟨ret_bool HF.out.symm, Below.refl _ _⟩
end Go.Proofs.YtcmopmapdomneaaDoor
end

section
namespace Go.Proofs.YtcmopmapdomneaaDoor
open Go.RowKit

theorem rd_pair {α β : Type} {C : Codec α} {D : Codec β} {S : Nat → Prop} {w : World} {c d : List Value} {a : α} {b : β} (h1 : C.rd S w c a) (h2 : D.rd S w d b) : (cPair C D).rd S w (c ++ d) (a, b) := ⟨c, d, rfl, h1, h2⟩
theorem rd_int0 {S : Nat → Prop} {w : World} : cInt.rd S w [.int .i64 0] 0 := ⟨rfl, i64_0⟩
theorem rd_nil {α : Type} {C : Codec α} {S : Nat → Prop} {w : World} : (cSl C).rd S w [.slice none 0 0] [] := ⟨none, 0, rfl, nil_rd _ _ _⟩
theorem rd_i {S : Nat → Prop} {w : World} {z : Int} (h : I64 z) : cInt.rd S w [.int .i64 z] z := ⟨rfl, h⟩
theorem rd_sl {α : Type} {C : Codec α} {S : Nat → Prop} {w : World} {a : Option Addr} {p : Nat} {xs : List α} (h : SlRd C S w a p xs) : (cSl C).rd S w [.slice a xs.length p] xs := ⟨a, p, rfl, h⟩
abbrev nInstr : Norm cInstr := nPair nInt nInt
abbrev nCode : Norm cCode := nSl nInstr
abbrev nState : Norm cState := nPair nInts nInts
theorem cell_of {w : World} {b : Nat} {cs : Array Value} {e : TypeId} {fr : Nat × Nat} (h : w.heap[b]? = some (.cells cs e fr)) {j : Nat} {u : Value} (hj : cs[j]? = some u) : w.cell? ⟨b, j, none⟩ = some u := by
  rw [cell_of_row w b j cs e fr h]; exact hj
theorem new_at {w : World} {o : Obj} {n : Nat} (h : w.heap.size = n) : (w.alloc o).heap[n]? = some o := by subst h; exact heap_new w o
theorem frz_of {w : World} {b : Nat} {cs : Array Value} {e : TypeId} (h : w.heap[b]? = some (.cells cs e (0, 0))) (j : Nat) : w.frozen? ⟨b, j, none⟩ = false := frozen_of_row w b j cs e h
theorem blk_ne {w : World} {b : Nat} {o : Obj} {p : Addr} (hne : b ≠ p.block) (h : w.heap[b]? = some o) (u : Value) : (w.setCell p u).heap[b]? = some o := by rw [Below.heap_setCell w p u b hne]; exact h
theorem blk_set {w : World} {b : Nat} {cs : Array Value} {e : TypeId} {fr : Nat × Nat} (h : w.heap[b]? = some (.cells cs e fr)) (j : Nat) (u : Value) : (w.setCell ⟨b, j, none⟩ u).heap[b]? = some (.cells (cs.setIfInBounds j u) e fr) := by
  have hlt := (Array.getElem?_eq_some_iff.1 h).1
  have hv := (Array.getElem?_eq_some_iff.1 h).2
  simp only [World.setCell]
  rw [Array.getElem?_eq_getElem (by simpa using hlt), Array.getElem_modify]
  simp [hv]
/-! ### Sums over the elements of a list -/
theorem sumf_take {α : Type} {f : α → Nat} {xs : List α} {k : Nat} {x : α} (h : xs[k]? = some x) : ((xs.take (k + 1)).map f).sum = ((xs.take k).map f).sum + f x := by
  rw [List.take_add_one, h]; simp
theorem sumf_take_le {α : Type} (f : α → Nat) (xs : List α) (k : Nat) : ((xs.take k).map f).sum ≤ (xs.map f).sum := by
  have : (xs.map f).sum = ((xs.take k).map f).sum + ((xs.drop k).map f).sum := by rw [← List.sum_append, ← List.map_append, List.take_append_drop]
  omega
theorem sumf_mem {α : Type} {f : α → Nat} : ∀ {xs : List α} {x : α}, x ∈ xs → f x ≤ (xs.map f).sum
  | y :: ys, x, h => by
    rcases List.mem_cons.1 h with rfl | h
    · simp
    · have := sumf_mem (f := f) h; simp; omega
theorem u_szInt64S {S : Nat → Prop} {a : Option Addr} {p : Nat} {zs : List Int} {left : Int} {w : World} (h : SlRd cInt S w a p zs) (h0 : 0 ≤ left) (h1 : left ≤ 1048576) :
    Calls Tryd.prog 67 #[.slice a zs.length p, .int .i64 left] w fun e w' => e = .returned (.int .i64 (szR left (zs.length : Nat))) ∧ Below w.heap.size w w' :=
  (c_szInt64S _ _ _ _ _ h.len_le h0 h1).mono fun _ _ ⟨he, hw⟩ => ⟨he, by rw [← hw]; exact Below.refl _ _⟩
theorem u_szTerm {S : Nat → Prop} {c : Int} {a : Option Addr} {p : Nat} {zs : List Int} {left : Int} {w : World} (h : SlRd cInt S w a p zs) (h0 : 0 ≤ left) (h1 : left ≤ 1048576) :
    Calls Tryd.prog 35 #[.agg #[.int .i64 c, .slice a zs.length p], .int .i64 left] w fun e w' => e = .returned (.int .i64 (szR left (zs.length : Nat))) ∧ Below w.heap.size w w' := c_szTerm _ _ _ _ _ _ h.len_le h0 h1
theorem u_szTermS {S : Nat → Prop} {a : Option Addr} {p : Nat} {ts : List Term} {left : Int} {w : World} (h : SlRd cTerm S w a p ts) (h0 : 0 ≤ left) (h1 : left ≤ 1048576) :
    Calls Tryd.prog 15 #[.slice a ts.length p, .int .i64 left] w fun e w' => e = .returned (.int .i64 (szR left (szTs ts : Nat))) ∧ Below w.heap.size w w' := c_szTermS _ _ _ _ _ h h0 h1
theorem u_szInstrS {S : Nat → Prop} {a : Option Addr} {p : Nat} {xs : List Instr} {left : Int} {w : World} (h : SlRd cInstr S w a p xs) (h0 : 0 ≤ left) (h1 : left ≤ 1048576) :
    Calls Tryd.prog 16 #[.slice a xs.length p, .int .i64 left] w fun e w' => e = .returned (.int .i64 (szR left (xs.length : Nat))) ∧ Below w.heap.size w w' := c_szInstrS _ _ _ _ _ h.len_le h0 h1
theorem u_toInt64S {S : Nat → Prop} {a : Option Addr} {p : Nat} {zs : List Int} {w : World} (h : SlRd cInt S w a p zs) (hz : zs.length ≤ 1048576) : Calls Tryd.prog 74 #[.slice a zs.length p] w (RetSl cInt zs w) := c_toInt64S _ _ _ _ h hz
theorem u_toTerm {S : Nat → Prop} {c : Int} {a : Option Addr} {p : Nat} {zs : List Int} {w : World} (h : SlRd cInt S w a p zs) (hz : zs.length ≤ 1048576) : Calls Tryd.prog 43 #[.agg #[.int .i64 c, .slice a zs.length p]] w (RetTerm (c, zs) w) := c_toTerm _ _ _ _ _ h hz
theorem u_toTermS {S : Nat → Prop} {a : Option Addr} {p : Nat} {ts : List Term} {w : World} (h : SlRd cTerm S w a p ts) (hz : szTs ts ≤ 1048576) : Calls Tryd.prog 20 #[.slice a ts.length p] w (RetSl cTerm ts w) :=
  c_toTermS _ _ _ _ h (by unfold szTs at hz; omega) fun t ht => by have := szTs_le ht; omega
theorem u_toInstrS {S : Nat → Prop} {a : Option Addr} {p : Nat} {xs : List Instr} {w : World} (h : SlRd cInstr S w a p xs) (hz : xs.length ≤ 1048576) : Calls Tryd.prog 21 #[.slice a xs.length p] w (RetSl cInstr xs w) := c_toInstrS _ _ _ _ h hz
theorem u_eqInt64S {S T : Nat → Prop} {a b : Option Addr} {p q : Nat} {xs ys : List Int} {w : World} (h : SlRd cInt S w a p xs) (h' : SlRd cInt T w b q ys) :
    Calls Tryd.prog 92 #[.slice a xs.length p, .slice b ys.length q] w fun e w' => e = .returned (.bool (decide (xs = ys))) ∧ Below w.heap.size w w' := c_eqInt64S _ _ _ _ _ _ _ h h'
theorem u_eqTerm {S T : Nat → Prop} {c d : Int} {a b : Option Addr} {p q : Nat} {xs ys : List Int} {w : World} (h : SlRd cInt S w a p xs) (h' : SlRd cInt T w b q ys) :
    Calls Tryd.prog 54 #[.agg #[.int .i64 c, .slice a xs.length p], .agg #[.int .i64 d, .slice b ys.length q]] w fun e w' => e = .returned (.bool (decide (((c, xs) : Term) = (d, ys)))) ∧ Below w.heap.size w w' := c_eqTerm _ _ _ _ _ _ _ _ _ h h'
theorem u_eqTermS {S T : Nat → Prop} {a b : Option Addr} {p q : Nat} {xs ys : List Term} {w : World} (h : SlRd cTerm S w a p xs) (h' : SlRd cTerm T w b q ys) :
    Calls Tryd.prog 25 #[.slice a xs.length p, .slice b ys.length q] w fun e w' => e = .returned (.bool (decide (xs = ys))) ∧ Below w.heap.size w w' := c_eqTermS _ _ _ _ _ _ _ h h'
theorem u_eqInstrS {S T : Nat → Prop} {a b : Option Addr} {p q : Nat} {xs ys : List Instr} {w : World} (h : SlRd cInstr S w a p xs) (h' : SlRd cInstr T w b q ys) :
    Calls Tryd.prog 26 #[.slice a xs.length p, .slice b ys.length q] w fun e w' => e = .returned (.bool (decide (xs = ys))) ∧ Below w.heap.size w w' := c_eqInstrS _ _ _ _ _ _ _ h h'
end Go.Proofs.YtcmopmapdomneaaDoor
end

section
namespace Go.Proofs.YtcmopmapdomneaaDoor
open Go.RowKit

theorem SlRd.store_int {S : Nat → Prop} {w : World} {b off cap : Nat} {zs : List Int} (h : SlRd cInt S w (some ⟨b, off, none⟩) cap zs) (k : Nat) (hk : k < zs.length) (z : Int) (hz : I64 z) :
    SlRd cInt S (w.setCell ⟨b, off + k, none⟩ (.int .i64 z)) (some ⟨b, off, none⟩) cap (zs.set k z) := by
  refine ⟨by simpa using h.1, h.2.1, h.2.2.1, ?_⟩
  rintro x ⟨⟩ i d hi
  have hil : i < zs.length := by
    have := (List.getElem?_eq_some_iff.1 hi).1; simpa using this
  obtain ⟨⟨h5, h6, h7⟩, cs, ⟨rfl, hd⟩, hc⟩ := h.2.2.2 _ rfl i zs[i] (by simp [hil])
  have hc0 := hc 0 _ rfl
  simp only [cInt, Nat.mul_one, Nat.add_zero] at hc0 h7 h6
  refine ⟨⟨rfl, h6, by show b < (w.setCell _ _).heap.size; simpa [World.setCell] using h7⟩, [.int .i64 d], ?_, ?_⟩
  · refine ⟨rfl, ?_⟩
    rw [List.getElem?_set] at hi
    split at hi
    · cases hi; exact hz
    · rw [List.getElem?_eq_getElem hil] at hi; cases hi; exact hd
  · intro j u hj
    cases j with
    | succ j => simp at hj
    | zero =>
      simp at hj; subst hj
      simp only [cInt, Nat.mul_one, Nat.add_zero]
      rw [List.getElem?_set] at hi
      by_cases hki : k = i
      · subst hki
        rw [if_pos rfl, if_pos hk] at hi
        cases hi
        simp [go_sem, hc0]
      · rw [if_neg hki, List.getElem?_eq_getElem hil] at hi
        cases hi
        have hne : off + i ≠ off + k := by omega
        simp [go_sem, hc0]
        try omega
/-- m, m + 1, .. -/
def upFrom (m : Int) (ys : List Int) : Prop := ∀ j : Nat, j < ys.length → ys[j]? = some (m + j)
def RetMarked (n : Nat) (m : Int) (S : Nat → Prop) (a : Option Addr) (cap : Nat) (w : World) (e : Ending) (w' : World) : Prop :=
  e = .returned (.int .i64 (m + n)) ∧ (∃ ys : List Int, ys.length = n ∧ upFrom m ys ∧ SlRd cInt S w' a cap ys) ∧ Turned S w w'
end Go.Proofs.YtcmopmapdomneaaDoor
end

section
namespace Go.Proofs.YtcmopmapdomneaaDoor
open Go.RowKit
variable {α : Type} {C : Codec α}
theorem SlRd.mk {lo hi B : Nat} {w : World} {a : Option Addr} {p : Nat} {xs : List α} (h : SlRd C (Fresh B w) w a p xs) (hlo : lo ≤ B) (hhi : w.heap.size ≤ hi) : SlRd C (fun b => Btw lo hi b ∧ Thawed w b) w a p xs :=
  h.keep fun _ hb hl => ⟨⟨⟨Nat.le_trans hlo hb.1, Nat.lt_of_lt_of_le hl hhi⟩, hb.2⟩, rfl⟩
theorem thaw_below {S : Nat → Prop} {w w' : World} (h : ∀ b, S b → Thawed w b) (hb : Below w.heap.size w w') : ∀ b, S b → Thawed w' b := fun b hs => by
  have ht := h b hs
  obtain ⟨cs, e, he⟩ := ht
  exact Thawed.keep ⟨cs, e, he⟩ (hb.block b (Array.getElem?_eq_some_iff.1 he).1)
theorem thaw_drew {S : Nat → Prop} {w : World} (h : ∀ b, S b → Thawed w b) : ∀ b, S b → Thawed w.drew b := h
theorem SlRd.sep {lo hi lo' hi' : Nat} {P P' : Nat → Prop} {w w' : World} {a : Option Addr} {p : Nat} {xs : List α} (h : SlRd C (fun b => Btw lo hi b ∧ P b) w a p xs) (t : Turned (fun b => Btw lo' hi' b ∧ P' b) w w') (hd : hi ≤ lo' ∨ hi' ≤ lo) : SlRd C (fun b => Btw lo hi b ∧ P b) w' a p xs :=
  h.keep fun b hb hl => ⟨hb, t.block b hl fun hs => by have h1 := hb.1.1; have h2 := hb.1.2; have h3 := hs.1.1; have h4 := hs.1.2; omega⟩
theorem cell_sep {S : Nat → Prop} {w w' : World} {b o : Nat} {v : Value} (t : Turned S w w') (hl : b < w.heap.size) (hn : ¬ S b) (h : w.cell? ⟨b, o, none⟩ = some v) : w'.cell? ⟨b, o, none⟩ = some v :=
  (World.cell?_of_block (w := w) (a := ⟨b, o, none⟩) (t.block b hl hn)).trans h
end Go.Proofs.YtcmopmapdomneaaDoor
end

section
namespace Go.Proofs.YtcmopmapdomneaaDoor
open Go.RowKit

theorem SlRd.str_at {S : Nat → Prop} {w : World} {b off cap : Nat} {zs : List (List UInt8)} (h : SlRd cStr S w (some ⟨b, off, none⟩) cap zs) (k : Nat) (hk : k < zs.length) :
    ∃ z, zs[k]? = some z ∧ z.length ≤ 9223372036854775807 ∧ w.cell? ⟨b, off + k, none⟩ = some (.string ⟨z.toArray⟩) ∧ b < w.heap.size ∧ S b := by
  obtain ⟨d, cs, h1, ⟨rfl, hz⟩, h7, h8, hc⟩ := h.at k hk
  have := hc 0 _ rfl
  simp only [cStr, Nat.mul_one, Nat.add_zero] at this
  exact ⟨_, h1, hz, this, h7, h8⟩
end Go.Proofs.YtcmopmapdomneaaDoor
end

section
namespace Go.Proofs.YtcmopmapdomneaaDoor
open Go.RowKit

def opW : List (List UInt8) := [[112, 117, 115, 104], [108, 111, 97, 100], [115, 116, 111, 114, 101], [97, 100, 100], [115, 99, 97, 108, 101], [106, 117, 109, 112], [116, 101, 115, 116], [103, 101, 116], [112, 117, 116], [101, 109, 105, 116], [99, 104, 101, 99, 107], [104, 97, 108, 116]]
def wordF (op : Int) : List UInt8 := opW[op.toNat]?.getD []
def argB (op : Int) : Bool := decide (op = 0) || (decide (op = 1) || (decide (op = 2) || (decide (op = 4) || (decide (op = 5) || (decide (op = 6) || decide (op = 9))))))
def lineF (x : Instr) : List UInt8 := if argB x.1 then wordF x.1 ++ 32 :: Lib.itoa x.2 else wordF x.1
def idxF {α : Type} [BEq α] (zs : List α) (v : α) (k : Nat) : Int := match zs with
  | [] => -1
  | z :: r => if z == v then (k : Int) else idxF r v (k + 1)
theorem idxF_at {α : Type} [BEq α] [LawfulBEq α] {zs : List α} {v : α} : ∀ {k : Nat} {n : Nat}, (∀ j, j < n → zs[j]? ≠ some v) → zs[n]? = some v → idxF zs v k = ((k + n : Nat) : Int) := by
  induction zs with
  | nil => intro k n _ h; simp at h
  | cons z r ih =>
    intro k n h1 h2
    unfold idxF
    cases n with
    | zero => simp at h2; simp [h2]
    | succ n =>
      have h0 := h1 0 (by omega)
      simp at h0
      rw [if_neg (by simpa using h0), ih (k := k + 1) (n := n) (fun j hj => by have := h1 (j + 1) (by omega); simpa using this) (by simpa using h2)]
      congr 1; omega
theorem idxF_no {α : Type} [BEq α] [LawfulBEq α] {zs : List α} {v : α} : ∀ {k : Nat}, (∀ j, j < zs.length → zs[j]? ≠ some v) → idxF zs v k = -1 := by
  induction zs with
  | nil => intro k _; rfl
  | cons z r ih =>
    intro k h
    unfold idxF
    have h0 := h 0 (by simp)
    simp at h0
    rw [if_neg (by simpa using h0), ih (k := k + 1) fun j hj => by have := h (j + 1) (by simp; omega); simpa using this]
theorem idxF_has {α : Type} [BEq α] [LawfulBEq α] (zs : List α) (v : α) (k : Nat) : decide (0 ≤ idxF zs v k) = zs.contains v := by
  induction zs generalizing k with
  | nil => simp [idxF]
  | cons z r ih =>
    unfold idxF
    by_cases h : z == v
    · rw [if_pos h]
      have e := eq_of_beq h
      subst e; simp
    · rw [if_neg h, ih]
      have hne : ¬ z = v := by simpa using h
      simp [Ne.symm hne]
set_option maxRecDepth 100000 in
theorem c_index64 {S : Nat → Prop} {a : Option Addr} {p : Nat} {zs : List Int} {v : Int} {w : World} (h : SlRd cInt S w a p zs) :
    Calls Tryd.prog 115 #[.slice a zs.length p, .int .i64 v] w fun e w' => e = .returned (.int .i64 (idxF zs v 0)) ∧ w = w' := by
  have H := hid h
  have hl := h.len_le
  clear h
  go_enter Tryd.func115, Tryd.ntmps115
  go_wp2
  go_loop [8] (fun i => ∃ k : Nat, k ≤ zs.length ∧ i = .int .i64 k ∧ Hid (∀ j, j < k → zs[j]? ≠ some v)) (fun i => zs.length - (intOf i).toNat)
  case atStart => exact ⟨0, Nat.zero_le _, rfl, by unfold Hid; intro j hj; omega⟩
  case round =>
    obtain ⟨k, hk, rfl, HA⟩ := hrel
    by_cases hlt : k < zs.length
    · obtain ⟨b, off, rfl⟩ := H.out.some_of hlt
      obtain ⟨z, hz, hz2, hc, hb⟩ := H.out.int_at k hlt
      have i0 : (0 : Int) ≤ (k : Int) := by omega
      have i1 : (k : Int) < (zs.length : Int) := by omega
      by_cases he : v = z
      · subst he
        have HF : Hid (idxF zs v 0 = (k : Int)) := by unfold Hid; rw [idxF_at HA.out hz]; simp
        clear hz
        go_wp2
        go_ret
        rw [HF.out]; exact ⟨rfl, rfl⟩
      · have hne : (v == z) = false := by simpa using he
        have HN : Hid (∀ j, j < k + 1 → zs[j]? ≠ some v) := by
          intro j hj
          by_cases hjk : j = k
          · subst hjk; rw [hz]; intro e; exact he (Option.some.inj e).symm
          · exact HA.out j (by omega)
        clear hz he
        go_wp2
        go_round
        case rel => exact ⟨k + 1, by omega, by go_num, HN⟩
        case measure => simp [intOf]; omega
    · have HF : Hid (idxF zs v 0 = -1) := idxF_no fun j hj => HA.out j (by omega)
      go_wp2
      go_ret
      rw [HF.out]; exact ⟨rfl, rfl⟩
theorem c_contains64 {S : Nat → Prop} {a : Option Addr} {p : Nat} {zs : List Int} {v : Int} {w : World} (h : SlRd cInt S w a p zs) :
    Calls Tryd.prog 109 #[.slice a zs.length p, .int .i64 v] w fun e w' => e = .returned (.bool (zs.contains v)) ∧ w = w' := by
  have H := hid h
  have HC := hid (idxF_has zs v 0)
  clear h
  obtain ⟨q, hq⟩ : ∃ q, idxF zs v 0 = q := ⟨_, rfl⟩
  rw [hq] at HC
  have HQ := hid hq
  clear hq
  go_enter Tryd.func109, Tryd.ntmps109
  go_wp2_with (go_at_call 115; refine (c_index64 H.out).mono ?_; rw [HQ.out]; rintro e w' ⟨rfl, rfl⟩)
  go_ret
  rw [← HC.out]
  exact ⟨rfl, rfl⟩
theorem rd_list {S : Nat → Prop} {w : World} {b : Nat} {zs : List Int} {cs : Array Value} {e : TypeId} {fr : Nat × Nat} (hb : w.heap[b]? = some (.cells cs e fr)) (hS : S b) (hc : cs.toList = zs.map (.int .i64 ·)) (hz : ∀ z ∈ zs, I64 z) (hl : zs.length ≤ 9223372036854775807) : SlRd cInt S w (some ⟨b, 0, none⟩) zs.length zs := by
  refine ⟨Nat.le_refl _, hl, by simp, ?_⟩
  rintro x ⟨⟩ i d hi
  refine ⟨⟨rfl, hS, (Array.getElem?_eq_some_iff.1 hb).1⟩, [.int .i64 d], ⟨rfl, hz d (List.mem_of_getElem? hi)⟩, fun j u hj => ?_⟩
  match j, hj with
  | 0, hj =>
    simp at hj; subst hj
    rw [cell_of_row w b _ cs e fr hb, ← Array.getElem?_toList, hc]
    simp [cInt, hi]
theorem c_hasArg (op : Int) (w : World) : Calls Tryd.prog 88 #[.int .i64 op] w fun e w' => e = .returned (.bool (argB op)) ∧ Below w.heap.size w w' := by
  go_enter Tryd.func88, Tryd.ntmps88
  go_wp2_with fail
  have HL : Hid (SlRd cInt (fun _ => True) (w.alloc (.cells #[.int .i64 0, .int .i64 1, .int .i64 2, .int .i64 4, .int .i64 5, .int .i64 6, .int .i64 9] 2)) (some ⟨w.heap.size, 0, none⟩) [0, 1, 2, 4, 5, 6, 9].length [0, 1, 2, 4, 5, 6, 9]) := rd_list (S := fun _ => True) (zs := [0, 1, 2, 4, 5, 6, 9]) (heap_new w _) trivial rfl (by simp [I64]) (by simp)
  have HB : Hid (Below w.heap.size w (w.alloc (.cells #[.int .i64 0, .int .i64 1, .int .i64 2, .int .i64 4, .int .i64 5, .int .i64 6, .int .i64 9] 2))) := (Below.refl _ _).alloc (Nat.le_refl _) _
  generalize w.alloc (.cells #[.int .i64 0, .int .i64 1, .int .i64 2, .int .i64 4, .int .i64 5, .int .i64 6, .int .i64 9] 2) = w1 at *
  refine (c_contains64 HL.out).mono ?_
  rintro e w' ⟨rfl, rfl⟩
  go_wp2
  go_ret
  exact ⟨rfl, HB.out⟩
theorem c_l07Args (op : Int) (w : World) : Calls Tryd.prog 71 #[.int .i64 op] w fun e w' => e = .returned (.bool (argB op)) ∧ w = w' := by
  go_enter Tryd.func71, Tryd.ntmps71
  go_wp2
  all_goals
    go_ret
    refine ⟨ret_bool ?_, rfl⟩
    unfold argB
    simp_all [show ∀ a b : Int, (a == b) = decide (a = b) from fun _ _ => rfl]
theorem opW_len (op : Int) : (wordF op).length ≤ 5 := by
  unfold wordF
  cases h : opW[op.toNat]? with
  | none => simp
  | some l =>
    have hm := List.mem_of_getElem? h
    have hall : ∀ l ∈ opW, l.length ≤ 5 := by decide
    simpa using hall l hm
def opCells : Array Value := #[.string ⟨#[112, 117, 115, 104]⟩, .string ⟨#[108, 111, 97, 100]⟩, .string ⟨#[115, 116, 111, 114, 101]⟩, .string ⟨#[97, 100, 100]⟩, .string ⟨#[115, 99, 97, 108, 101]⟩, .string ⟨#[106, 117, 109, 112]⟩, .string ⟨#[116, 101, 115, 116]⟩, .string ⟨#[103, 101, 116]⟩, .string ⟨#[112, 117, 116]⟩, .string ⟨#[101, 109, 105, 116]⟩, .string ⟨#[99, 104, 101, 99, 107]⟩, .string ⟨#[104, 97, 108, 116]⟩]
theorem opCells_eq : opCells.toList = opW.map strOf := rfl
theorem opCells_at (k : Nat) (h : k < 12) : opCells[k]? = some (.string ⟨(wordF k).toArray⟩) := by
  rw [← Array.getElem?_toList, opCells_eq, List.getElem?_map]
  unfold wordF
  rw [Int.toNat_natCast]
  cases e : opW[k]? with
  | none => rw [List.getElem?_eq_none_iff] at e; have : opW.length = 12 := rfl; omega
  | some l => rfl
theorem c_opWords (w : World) : Calls Tryd.prog 89 #[] w fun e w' => e = .returned (.slice (some ⟨w.heap.size, 0, none⟩) 12 12) ∧ w' = w.alloc (.cells opCells 9) := by
  go_enter Tryd.func89, Tryd.ntmps89
  go_wp2
  go_ret
  exact ⟨rfl, rfl⟩
theorem c_l07Word (op : Int) (w : World) (h0 : 0 ≤ op) (h1 : op ≤ 11) : Calls Tryd.prog 72 #[.int .i64 op] w fun e w' => e = .returned (strOf (wordF op)) ∧ Below w.heap.size w w' := by
  obtain ⟨k, rfl⟩ := Int.eq_ofNat_of_zero_le h0
  have HC : Hid ((w.alloc (.cells opCells 9)).cell? ⟨w.heap.size, k, none⟩ = some (.string ⟨(wordF k).toArray⟩)) := by
    unfold Hid; rw [World.cell?_alloc_at _ _ _ _ rfl]; exact opCells_at k (by omega)
  have HB : Hid (Below w.heap.size w (w.alloc (.cells opCells 9))) := (Below.refl _ _).alloc (Nat.le_refl _) _
  have i2 : (k : Int) < 12 := by omega
  unfold opCells at HC HB
  have hc := HC.out
  go_enter Tryd.func72, Tryd.ntmps72
  go_wp2
  go_ret
  exact ⟨rfl, HB.out⟩
end Go.Proofs.YtcmopmapdomneaaDoor
end

section
namespace Go.Proofs.YtcmopmapdomneaaDoor

section
variable {P : Program} {ops : Array Oper} {Q : Exit → Act → World → Prop} {md : Region.Mode} {S : World → Prop}
theorem rgH {i : Nat} {oi : Oper} {fuel : Nat} {listed : Array Bool} {a : Act} {w : World} (hi : ops[i]? = some oi)
    (h : Region.noSelect ops = true ∧ Region.free md ops listed i = true ∧ (Region.ready md ops listed).contains i = true ∧ S w ∧
      ∃ v, (∀ c a w, Q (.panic c) (a.put oi.dst v) w → Q (.panic c) a w) ∧ YieldsIf P ops S oi v a ∧ wpAnyH P md ops Q S fuel (listed.setIfInBounds i true) (a.put oi.dst v) w) :
    wpAnyH P md ops Q S (fuel + 1) listed a w := by
  obtain ⟨h1, h2, h3, h4, v, h5, h6, h7⟩ := h
  exact wpAnyH_take hi h1 h2 h3 h5 h6 h4 h7
theorem rgHcall {i : Nat} {o : Oper} {fuel : Nat} {listed : Array Bool} {a : Act} {w : World} (ho : ops[i]? = some o)
    (h : ∀ K' : Act → World → Prop, Shut (∀ a w, S w → (S w → wpAnyH P md ops Q S fuel (listed.setIfInBounds i true) a w) → K' a w) → if Region.wanted o (yielded ops a.tmps) = true then Oper.wp P o a w K' Q else K' (a.put o.dst undef) w) :
    AllReadyH P md ops Q S fuel listed a w [i] := AllReadyH.cons ho h AllReadyH.nil
end
section
variable {P : Program} {ops : Array Oper} {Q : Exit → Act → World → Prop} {md : Region.Mode} {S S' : World → Prop}
/-- From here on more is held. -/
theorem wpAnyH_strong (hs : ∀ w, S' w → S w) : ∀ (fuel : Nat) (listed : Array Bool) (a : Act) (w : World), wpAnyH P md ops Q S' fuel listed a w → wpAnyH P md ops Q S fuel listed a w
  | 0, _, _, _, h => h
  | fuel + 1, _, _, _, h => ⟨h.1, fun i hi => wpOp_mono (fun _ _ h' => ⟨hs _ h'.1, wpAnyH_strong hs fuel _ _ _ h'.2⟩) (h.2 i hi)⟩
end
end Go.Proofs.YtcmopmapdomneaaDoor
end

section
namespace Go.Proofs.YtcmopmapdomneaaDoor
open Go.RowKit

theorem line_yes {x y : Int} (h : argB x = true) : lineF (x, y) = wordF x ++ 32 :: Lib.itoa y := by unfold lineF; rw [if_pos h]
theorem line_no {x y : Int} (h : argB x = false) : lineF (x, y) = wordF x := by unfold lineF; rw [if_neg (by simp [h])]
theorem opw_cell (w : World) (e : TypeId) (k : Nat) (h : k < 12) : (w.drew.alloc (.cells opCells e)).cell? ⟨w.heap.size, k, none⟩ = some (.string ⟨(wordF k).toArray⟩) := by
  rw [show (w.drew.alloc (.cells opCells e)).cell? ⟨w.heap.size, k, none⟩ = (w.drew.alloc (.cells opCells e)).cell? ⟨w.drew.heap.size, k, none⟩ from rfl, World.cell?_alloc_at _ _ _ _ rfl]
  exact opCells_at k h
theorem strOf_add3 (a : List UInt8) (c : UInt8) (b : List UInt8) : Value.string ((⟨a.toArray⟩ ++ ⟨#[c]⟩) ++ ⟨b.toArray⟩ : ByteArray) = strOf (a ++ c :: b) := by
  unfold strOf
  congr 1
  apply ByteArray.ext
  simp
set_option maxRecDepth 100000 in
theorem c_instrText {B : Nat} (x y : Int) (w : World) (h0 : 0 ≤ x) (h1 : x ≤ 11) (hy : I64 y) (ht : TabE B w) :
    Calls Tryd.prog 52 #[.agg #[.int .i64 x, .int .i64 y]] w fun e w' => e = .returned (strOf (lineF (x, y))) ∧ Below w.heap.size w w' := by
  obtain ⟨k, rfl⟩ := Int.eq_ofNat_of_zero_le h0
  obtain ⟨hy1, hy2⟩ := hy
  have HB0 : Hid (Below w.heap.size w (w.alloc (.cells #[.int .i64 k, .int .i64 y] 88))) := (Below.refl _ _).alloc (Nat.le_refl _) _
  have c0 : (w.alloc (.cells #[.int .i64 k, .int .i64 y] 88)).cell? ⟨w.heap.size, 0, none⟩ = some (.int .i64 k) := by rw [World.cell?_alloc_at _ _ _ _ rfl]; rfl
  have c1 : (w.alloc (.cells #[.int .i64 k, .int .i64 y] 88)).cell? ⟨w.heap.size, 1, none⟩ = some (.int .i64 y) := by rw [World.cell?_alloc_at _ _ _ _ rfl]; rfl
  have z0 : w.heap.size < (w.alloc (.cells #[.int .i64 k, .int .i64 y] 88)).heap.size := by simp
  have HT0 := hid (ht.belows (HB0.out.mono ht.2))
  clear ht
  obtain ⟨r, hr⟩ : ∃ r, argB k = r := ⟨_, rfl⟩
  have HR := hid hr
  go_enter Tryd.func52, Tryd.ntmps52
  go_wp2_with fail
  generalize w.alloc (.cells #[.int .i64 k, .int .i64 y] 88) = W0 at *
  refine (c_hasArg _ _).mono ?_
  rintro e w1 ⟨rfl, hb1⟩
  rw [HR.out]
  have HB1 := hid (bel_next HB0.out HB0.out.size hb1)
  have d0 := cell_below hb1 z0 c0
  have d1 := cell_below hb1 z0 c1
  have z1 := Nat.lt_of_lt_of_le z0 hb1.size
  have HT1 := hid (HT0.out.on hb1)
  clear hb1 HB0 HT0 c0 c1 z0
  have i1 : (0 : Int) ≤ (k : Int) := by omega
  have i2 : (k : Int) < 12 := by omega
  cases r
  · have HF := hid (line_no (y := y) hr)
    clear hr
    go_wp2
    refine wp_region_held_drew (S := fun w' => w'.cell? ⟨w.heap.size, 0, none⟩ = some (.int .i64 k)) (by kernel_rfl) d0 (fun hHeld => ?_)
    refine rgH (i := 1) (oi := ?qo1) ?qh1 ?qr1
    case qh1 => (simp only [List.getElem?_toArray, List.getElem?_cons_succ, List.getElem?_cons_zero]; rfl)
    (refine ⟨by kernel_rfl, by kernel_rfl, by kernel_rfl, by assumption, ?qv1, fun _ _ _ h => h, Or.inl ⟨by kernel_rfl, ?qy1⟩, ?qn1⟩; case qy1 => (intro w hSw; (try dsimp only at hSw); go_simp; try with_reducible rfl))
    (try simp only [Act.put, List.setIfInBounds_toArray, List.set_cons_zero, List.set_cons_succ])
    refine rgH (i := 2) (oi := ?qo2) ?qh2 ?qr2
    case qh2 => (simp only [List.getElem?_toArray, List.getElem?_cons_succ, List.getElem?_cons_zero]; rfl)
    (refine ⟨by kernel_rfl, by kernel_rfl, by kernel_rfl, by assumption, ?qv2, fun _ _ _ h => h, Or.inl ⟨by kernel_rfl, ?qy2⟩, ?qn2⟩; case qy2 => (intro w hSw; (try dsimp only at hSw); go_simp; try with_reducible rfl))
    (try simp only [Act.put, List.setIfInBounds_toArray, List.set_cons_zero, List.set_cons_succ])
    refine wpAnyH_ready (rs := [0]) (by kernel_rfl) (by simp) ?_
    refine rgHcall (i := 0) (o := ?qo3) ?qh3 ?qk3
    case qh3 => (simp only [List.getElem?_toArray, List.getElem?_cons_zero]; rfl)
    intro K hK
    go_simp
    (go_at_call 89; refine (c_opWords _).mono ?_; rintro e w2 ⟨rfl, rfl⟩; have hbx : Below w1.heap.size w1 (w1.drew.alloc (.cells opCells 9)) := ((Below.refl _ _).drew).alloc (Nat.le_refl _) _; have kk1 := cell_below hbx z1 d0; have e1 := opw_cell w1 9 k (by omega); have HB2 := hid (bel_next HB1.out HB1.out.size hbx); clear hbx)
    refine hK.out _ _ kk1 (fun hHeld => ?_)
    clear hK K
    generalize w1.drew.alloc (.cells opCells 9) = w2 at *
    refine wpAnyH_strong (S' := fun w' => w'.cell? ⟨w.heap.size, 0, none⟩ = some (.int .i64 k) ∧ w'.cell? ⟨w1.heap.size, k, none⟩ = some (.string ⟨(wordF k).toArray⟩)) (fun _ h => h.1) _ _ _ _ ?_
    have hHeld2 := And.intro kk1 e1
    clear hHeld
    refine rgH (i := 3) (oi := ?qo4) ?qh4 ?qr4
    case qh4 => (simp only [List.getElem?_toArray, List.getElem?_cons_succ, List.getElem?_cons_zero]; rfl)
    (refine ⟨by kernel_rfl, by kernel_rfl, by kernel_rfl, by assumption, ?qv4, fun _ _ _ h => h, Or.inl ⟨by kernel_rfl, ?qy4⟩, ?qn4⟩; case qy4 => (intro w hSw; (try dsimp only at hSw); go_simp; try with_reducible rfl))
    (try simp only [Act.put, List.setIfInBounds_toArray, List.set_cons_zero, List.set_cons_succ])
    refine rgH (i := 4) (oi := ?qo5) ?qh5 ?qr5
    case qh5 => (simp only [List.getElem?_toArray, List.getElem?_cons_succ, List.getElem?_cons_zero]; rfl)
    (refine ⟨by kernel_rfl, by kernel_rfl, by kernel_rfl, by assumption, ?qv5, fun _ _ _ h => h, Or.inl ⟨by kernel_rfl, ?qy5⟩, ?qn5⟩; case qy5 => (intro w hSw; (try dsimp only at hSw); go_simp; try with_reducible rfl))
    (try simp only [Act.put, List.setIfInBounds_toArray, List.set_cons_zero, List.set_cons_succ])
    refine rgH (i := 5) (oi := ?qo6) ?qh6 ?qr6
    case qh6 => (simp only [List.getElem?_toArray, List.getElem?_cons_succ, List.getElem?_cons_zero]; rfl)
    (refine ⟨by kernel_rfl, by kernel_rfl, by kernel_rfl, by assumption, ?qv6, fun _ _ _ h => h, Or.inl ⟨by kernel_rfl, ?qy6⟩, ?qn6⟩; case qy6 => (intro w hSw; (try dsimp only at hSw); go_simp; try with_reducible rfl))
    (try simp only [Act.put, List.setIfInBounds_toArray, List.set_cons_zero, List.set_cons_succ])
    refine wpAnyH_done (by kernel_rfl) ?_ _
    go_wp2
    go_ret
    rw [HF.out]
    exact ⟨rfl, HB2.out⟩
  · have HF := hid (line_yes (y := y) hr)
    clear hr
    have hw5 := opW_len k
    have hi21 := Lib.itoa_length_le y hy1 hy2
    go_wp2
    refine wp_region_held_drew (S := fun w' => w'.cell? ⟨w.heap.size, 0, none⟩ = some (.int .i64 k) ∧ w'.cell? ⟨w.heap.size, 1, none⟩ = some (.int .i64 y)) (by kernel_rfl) ⟨d0, d1⟩ (fun hHeld => ?_)
    refine rgH (i := 1) (oi := ?qo7) ?qh7 ?qr7
    case qh7 => (simp only [List.getElem?_toArray, List.getElem?_cons_succ, List.getElem?_cons_zero]; rfl)
    (refine ⟨by kernel_rfl, by kernel_rfl, by kernel_rfl, by assumption, ?qv7, fun _ _ _ h => h, Or.inl ⟨by kernel_rfl, ?qy7⟩, ?qn7⟩; case qy7 => (intro w hSw; (try dsimp only at hSw); go_simp; try with_reducible rfl))
    (try simp only [Act.put, List.setIfInBounds_toArray, List.set_cons_zero, List.set_cons_succ])
    refine rgH (i := 2) (oi := ?qo8) ?qh8 ?qr8
    case qh8 => (simp only [List.getElem?_toArray, List.getElem?_cons_succ, List.getElem?_cons_zero]; rfl)
    (refine ⟨by kernel_rfl, by kernel_rfl, by kernel_rfl, by assumption, ?qv8, fun _ _ _ h => h, Or.inl ⟨by kernel_rfl, ?qy8⟩, ?qn8⟩; case qy8 => (intro w hSw; (try dsimp only at hSw); go_simp; try with_reducible rfl))
    (try simp only [Act.put, List.setIfInBounds_toArray, List.set_cons_zero, List.set_cons_succ])
    refine rgH (i := 6) (oi := ?qo9) ?qh9 ?qr9
    case qh9 => (simp only [List.getElem?_toArray, List.getElem?_cons_succ, List.getElem?_cons_zero]; rfl)
    (refine ⟨by kernel_rfl, by kernel_rfl, by kernel_rfl, by assumption, ?qv9, fun _ _ _ h => h, Or.inl ⟨by kernel_rfl, ?qy9⟩, ?qn9⟩; case qy9 => (intro w hSw; (try dsimp only at hSw); go_simp; try with_reducible rfl))
    (try simp only [Act.put, List.setIfInBounds_toArray, List.set_cons_zero, List.set_cons_succ])
    refine rgH (i := 7) (oi := ?qo10) ?qh10 ?qr10
    case qh10 => (simp only [List.getElem?_toArray, List.getElem?_cons_succ, List.getElem?_cons_zero]; rfl)
    (refine ⟨by kernel_rfl, by kernel_rfl, by kernel_rfl, by assumption, ?qv10, fun _ _ _ h => h, Or.inl ⟨by kernel_rfl, ?qy10⟩, ?qn10⟩; case qy10 => (intro w hSw; (try dsimp only at hSw); go_simp; try with_reducible rfl))
    (try simp only [Act.put, List.setIfInBounds_toArray, List.set_cons_zero, List.set_cons_succ])
    refine wpAnyH_ready (rs := [0]) (by kernel_rfl) (by simp) ?_
    refine rgHcall (i := 0) (o := ?qo11) ?qh11 ?qk11
    case qh11 => (simp only [List.getElem?_toArray, List.getElem?_cons_zero]; rfl)
    intro K hK
    go_simp
    (go_at_call 89; refine (c_opWords _).mono ?_; rintro e w2 ⟨rfl, rfl⟩; have hbx : Below w1.heap.size w1 (w1.drew.alloc (.cells opCells 9)) := ((Below.refl _ _).drew).alloc (Nat.le_refl _) _; have kk1 := And.intro (cell_below hbx z1 d0) (cell_below hbx z1 d1); have z2 := Nat.lt_of_lt_of_le z1 hbx.size; have e1 := opw_cell w1 9 k (by omega); have q2 : w1.heap.size < (w1.drew.alloc (.cells opCells 9)).heap.size := (by simp); have HB2 := hid (bel_next HB1.out HB1.out.size hbx); have HT2 := hid (HT1.out.on hbx); clear hbx)
    refine hK.out _ _ kk1 (fun hHeld => ?_)
    clear hK K
    generalize w1.drew.alloc (.cells opCells 9) = w2 at *
    refine wpAnyH_strong (S' := fun w' => (w'.cell? ⟨w.heap.size, 0, none⟩ = some (.int .i64 k) ∧ w'.cell? ⟨w.heap.size, 1, none⟩ = some (.int .i64 y)) ∧ w'.cell? ⟨w1.heap.size, k, none⟩ = some (.string ⟨(wordF k).toArray⟩)) (fun _ h => h.1) _ _ _ _ ?_
    have hHeld2 := And.intro kk1 e1
    clear hHeld
    have n1 : ¬ 9223372036854775807 < (wordF k).length + 1 := by omega
    have n2 : ¬ 9223372036854775807 < (wordF k).length + 1 + (Lib.itoa y).length := by omega
    refine rgH (i := 3) (oi := ?qo12) ?qh12 ?qr12
    case qh12 => (simp only [List.getElem?_toArray, List.getElem?_cons_succ, List.getElem?_cons_zero]; rfl)
    (refine ⟨by kernel_rfl, by kernel_rfl, by kernel_rfl, by assumption, ?qv12, fun _ _ _ h => h, Or.inl ⟨by kernel_rfl, ?qy12⟩, ?qn12⟩; case qy12 => (intro w hSw; (try dsimp only at hSw); go_simp; try with_reducible rfl))
    (try simp only [Act.put, List.setIfInBounds_toArray, List.set_cons_zero, List.set_cons_succ])
    refine rgH (i := 4) (oi := ?qo13) ?qh13 ?qr13
    case qh13 => (simp only [List.getElem?_toArray, List.getElem?_cons_succ, List.getElem?_cons_zero]; rfl)
    (refine ⟨by kernel_rfl, by kernel_rfl, by kernel_rfl, by assumption, ?qv13, fun _ _ _ h => h, Or.inl ⟨by kernel_rfl, ?qy13⟩, ?qn13⟩; case qy13 => (intro w hSw; (try dsimp only at hSw); go_simp; try with_reducible rfl))
    (try simp only [Act.put, List.setIfInBounds_toArray, List.set_cons_zero, List.set_cons_succ])
    refine rgH (i := 5) (oi := ?qo14) ?qh14 ?qr14
    case qh14 => (simp only [List.getElem?_toArray, List.getElem?_cons_succ, List.getElem?_cons_zero]; rfl)
    (refine ⟨by kernel_rfl, by kernel_rfl, by kernel_rfl, by assumption, ?qv14, fun _ _ _ h => h, Or.inl ⟨by kernel_rfl, ?qy14⟩, ?qn14⟩; case qy14 => (intro w hSw; (try dsimp only at hSw); go_simp; try with_reducible rfl))
    (try simp only [Act.put, List.setIfInBounds_toArray, List.set_cons_zero, List.set_cons_succ])
    refine wpAnyH_ready (rs := [8]) (by kernel_rfl) (by simp) ?_
    refine rgHcall (i := 8) (o := ?qo15) ?qh15 ?qk15
    case qh15 => (simp only [List.getElem?_toArray, List.getElem?_cons_succ, List.getElem?_cons_zero]; rfl)
    intro K hK
    go_simp
    (go_at_call 85; refine (c_Decimal _ _ hy1 hy2 HT2.out).mono ?_; rintro e w3 ⟨rfl, hb3⟩; unfold strOf; have kk2 := And.intro (And.intro (cell_below hb3 z2 kk1.1) (cell_below hb3 z2 kk1.2)) (cell_below hb3 q2 e1); have HB3 := hid (bel_next HB2.out HB2.out.size hb3); clear hb3)
    refine hK.out _ _ kk2 (fun hHeld => ?_)
    clear hK K
    refine rgH (i := 9) (oi := ?qo16) ?qh16 ?qr16
    case qh16 => (simp only [List.getElem?_toArray, List.getElem?_cons_succ, List.getElem?_cons_zero]; rfl)
    (refine ⟨by kernel_rfl, by kernel_rfl, by kernel_rfl, by assumption, ?qv16, fun _ _ _ h => h, Or.inl ⟨by kernel_rfl, ?qy16⟩, ?qn16⟩; case qy16 => (intro w hSw; (try dsimp only at hSw); go_simp; try with_reducible rfl))
    (try simp only [Act.put, List.setIfInBounds_toArray, List.set_cons_zero, List.set_cons_succ])
    refine rgH (i := 10) (oi := ?qo17) ?qh17 ?qr17
    case qh17 => (simp only [List.getElem?_toArray, List.getElem?_cons_succ, List.getElem?_cons_zero]; rfl)
    (refine ⟨by kernel_rfl, by kernel_rfl, by kernel_rfl, by assumption, ?qv17, fun _ _ _ h => h, Or.inl ⟨by kernel_rfl, ?qy17⟩, ?qn17⟩; case qy17 => (intro w hSw; (try dsimp only at hSw); go_simp; try with_reducible rfl))
    (try simp only [Act.put, List.setIfInBounds_toArray, List.set_cons_zero, List.set_cons_succ])
    refine wpAnyH_done (by kernel_rfl) ?_ _
    go_wp2
    go_ret
    rw [HF.out]
    exact ⟨congrArg Ending.returned (strOf_add3 _ _ _), HB3.out⟩
set_option maxRecDepth 100000 in
theorem c_l07Line (x y : Int) (w : World) (h0 : 0 ≤ x) (h1 : x ≤ 11) (hy : I64 y) :
    Calls Tryd.prog 42 #[.agg #[.int .i64 x, .int .i64 y]] w fun e w' => e = .returned (strOf (lineF (x, y))) ∧ Below w.heap.size w w' := by
  obtain ⟨k, rfl⟩ := Int.eq_ofNat_of_zero_le h0
  obtain ⟨hy1, hy2⟩ := hy
  have HB0 : Hid (Below w.heap.size w (w.alloc (.cells #[.int .i64 k, .int .i64 y] 88))) := (Below.refl _ _).alloc (Nat.le_refl _) _
  have c0 : (w.alloc (.cells #[.int .i64 k, .int .i64 y] 88)).cell? ⟨w.heap.size, 0, none⟩ = some (.int .i64 k) := by rw [World.cell?_alloc_at _ _ _ _ rfl]; rfl
  have c1 : (w.alloc (.cells #[.int .i64 k, .int .i64 y] 88)).cell? ⟨w.heap.size, 1, none⟩ = some (.int .i64 y) := by rw [World.cell?_alloc_at _ _ _ _ rfl]; rfl
  have z0 : w.heap.size < (w.alloc (.cells #[.int .i64 k, .int .i64 y] 88)).heap.size := by simp
  obtain ⟨r, hr⟩ : ∃ r, argB k = r := ⟨_, rfl⟩
  have HR := hid hr
  go_enter Tryd.func42, Tryd.ntmps42
  go_wp2_with fail
  generalize w.alloc (.cells #[.int .i64 k, .int .i64 y] 88) = w1 at *
  refine (c_l07Args _ _).mono ?_
  rintro e w' ⟨rfl, rfl⟩
  rw [HR.out]
  have i1 : (0 : Int) ≤ (k : Int) := by omega
  have i2 : (k : Int) < 12 := by omega
  cases r
  · have HF := hid (line_no (y := y) hr)
    clear hr
    go_wp2_with (go_at_call 72; refine (c_l07Word _ _ h0 h1).mono ?_; rintro e w2 ⟨rfl, hb⟩; have HB2 := hid (bel_next HB0.out HB0.out.size hb); clear hb)
    go_ret
    rw [HF.out]
    exact ⟨rfl, HB2.out⟩
  · have HF := hid (line_yes (y := y) hr)
    clear hr
    have hw5 := opW_len k
    have hi21 := Lib.itoa_length_le y hy1 hy2
    have n1 : ¬ 9223372036854775807 < (wordF k).length + 1 := by omega
    have n2 : ¬ 9223372036854775807 < (wordF k).length + 1 + (Lib.itoa y).length := by omega
    go_wp2
    go_region_held3 (fun w' => w'.cell? ⟨w.heap.size, 0, none⟩ = some (.int .i64 k) ∧ w'.cell? ⟨w.heap.size, 1, none⟩ = some (.int .i64 y)) (first | exact ⟨c0, c1⟩ | exact kk1 | exact kk2) (first | (go_at_call 72; refine (c_l07Word _ _ h0 h1).mono ?_; rintro e w2 ⟨rfl, hb1⟩; unfold strOf; have kk1 := And.intro (cell_below hb1 z0 c0) (cell_below hb1 z0 c1); have z2 := Nat.lt_of_lt_of_le z0 hb1.size; have HB2 := hid (bel_next HB0.out.drew HB0.out.drew.size hb1); clear hb1) | (go_at_call 73; refine (c_l01Dec _ _ hy1 hy2).mono ?_; rintro e w3 ⟨rfl, hb3⟩; unfold strOf; have kk2 := And.intro (cell_below hb3 z2 kk1.1) (cell_below hb3 z2 kk1.2); have HB3 := hid (bel_next HB2.out HB2.out.size hb3); clear hb3))
    all_goals
      go_wp2
      go_ret
      rw [HF.out]
      exact ⟨congrArg Ending.returned (strOf_add3 _ _ _), HB3.out⟩
def instrTextF (x : Instr) : List UInt8 × Bool := if validI x then (lineF x, true) else ([], false)
theorem validI_op {x : Instr} (h : validI x = true) : 0 ≤ x.1 ∧ x.1 ≤ 11 := by
  obtain ⟨op, arg⟩ := x
  unfold validI at h
  simp only at h ⊢
  split at h
  · omega
  · split at h
    · omega
    · split at h
      · omega
      · split at h
        · omega
        · split at h
          · omega
          · cases h
end Go.Proofs.YtcmopmapdomneaaDoor
end

section
namespace Go.Proofs.YtcmopmapdomneaaDoor
open Go.RowKit
def sbRen : Go.Shelf.Ren := ⟨fun | 166 => 90 | 240 => 110 | 276 => 116 | n => n, fun | 9 => 9 | 3 => 3 | 4 => 4 | 0 => 0 | 20 => 20 | 72 => 135 | 70 => 132 | 37 => 133 | 75 => 137 | 164 => 159 | 5 => 5 | 80 => 140 | n => n, fun | n => n⟩
theorem sbLays : Go.Proofs.Lays.n166 Tryd.prog sbRen := {
  mixed := by kernel_rfl
  f166 := Tryd.func90.trans (congrArg some (by kernel_rfl))
  f240 := Tryd.func110.trans (congrArg some (by kernel_rfl))
  f276 := Tryd.func116.trans (congrArg some (by kernel_rfl))
  t0 := Tryd.underlying0
  a0 := Tryd.isAgg0
  z0 := Tryd.sizeOf0
  v0 := Tryd.zeroValue0
  t3 := Tryd.underlying3
  a3 := Tryd.isAgg3
  z3 := Tryd.sizeOf3
  v3 := Tryd.zeroValue3
  t4 := Tryd.underlying4
  a4 := Tryd.isAgg4
  z4 := Tryd.sizeOf4
  v4 := Tryd.zeroValue4
  t9 := Tryd.underlying9
  a9 := Tryd.isAgg9
  z9 := Tryd.sizeOf9
  v9 := Tryd.zeroValue9
  t20 := Tryd.underlying20
  a20 := Tryd.isAgg20
  z20 := Tryd.sizeOf20
  v20 := Tryd.zeroValue20
  t37 := Tryd.underlying133
  a37 := Tryd.isAgg133
  z37 := Tryd.sizeOf133
  v37 := Tryd.zeroValue133
  t70 := Tryd.underlying132
  a70 := Tryd.isAgg132
  z70 := Tryd.sizeOf132
  v70 := Tryd.zeroValue132
  t72 := Tryd.underlying135
  a72 := Tryd.isAgg135
  z72 := Tryd.sizeOf135
  v72 := Tryd.zeroValue135
  t75 := Tryd.underlying137
  a75 := Tryd.isAgg137
  z75 := Tryd.sizeOf137
  v75 := Tryd.zeroValue137
  t164 := Tryd.underlying159
  a164 := Tryd.isAgg159
  z164 := Tryd.sizeOf159
  v164 := Tryd.zeroValue159 }
theorem sbExtra : Builder.Extra Tryd.prog sbRen := {
  sizeBuilder := by kernel_rfl
  liesBuilder := by kernel_rfl
  t5 := Tryd.underlying5
  a5 := Tryd.isAgg5
  z5 := Tryd.sizeOf5
  v5 := Tryd.zeroValue5
  infoByte := by kernel_rfl
  cellsByte := by kernel_rfl
  sizeByte := by kernel_rfl
  neB5 := by decide }
end Go.Proofs.YtcmopmapdomneaaDoor
end

section
namespace Go.Proofs.YtcmopmapdomneaaDoor
open Go.RowKit

/-- What a search hands back: the first place that passes the test, or -1. -/
def IdxOk {α : Type} (p : α → Bool) (xs : List α) (r : Int) : Prop := (r = -1 ∧ xs.all (fun x => !p x) = true) ∨ ∃ (k : Nat) (x : α), r = k ∧ xs[k]? = some x ∧ p x = true ∧ (xs.take k).all (fun x => !p x) = true
def RetIdx {α : Type} (p : α → Bool) (xs : List α) (w : World) (e : Ending) (w' : World) : Prop := ∃ r, e = .returned (.int .i64 r) ∧ IdxOk p xs r ∧ Below w.heap.size w w'
theorem IdxOk.all {α : Type} {p : α → Bool} {xs : List α} {r : Int} (h : IdxOk p xs r) : decide (0 ≤ r) = !(xs.all fun x => !p x) := by
  rcases h with ⟨rfl, h⟩ | ⟨k, x, rfl, h1, h2, _⟩
  · rw [h]; rfl
  · have : xs.all (fun x => !p x) = false := all_false h1 (by simp [h2])
    rw [this]; simp
theorem c_ValidCode1 (op arg : Int) (w : World) :
    Calls Tryd.prog 78 #[.agg #[.int .i64 op, .int .i64 arg]] w fun e w' => e = .returned (.bool (!validI (op, arg))) ∧ Below w.heap.size w w' := by
  obtain ⟨r, hr⟩ : ∃ r, validI (op, arg) = r := ⟨_, rfl⟩
  have HR := hid hr
  clear hr
  go_enter Tryd.func78, Tryd.ntmps78
  go_wp2_with (go_at_call 79; refine (c_ValidInstr _ _ _).mono ?_; rintro e w1 ⟨rfl, hb1⟩; rw [HR.out])
  go_ret
  exact ⟨ret_bool (by rw [HR.out]), bel_box (Below.refl _ _) (Nat.le_refl _) hb1⟩
theorem c_idxInvalid {S : Nat → Prop} (a : Option Addr) (cap : Nat) (xs : List Instr) (w : World) (h : SlRd cInstr S w a cap xs) :
    Calls Tryd.prog 101 #[.slice a xs.length cap, .func (.func 78) #[] #[]] w (RetIdx (fun x => !validI x) xs w) := by
  have hl := h.len_le
  have H := hid h
  clear h
  go_enter Tryd.func101, Tryd.ntmps101
  go_wp2
  go_loopw [8] (fun i wr => ∃ k : Nat, k ≤ xs.length ∧ i = .int .i64 k ∧ Hid ((xs.take k).all (fun x => !!validI x) = true) ∧ Below w.heap.size w wr) (fun i _ => xs.length - (intOf i).toNat)
  case atStart => exact ⟨0, Nat.zero_le _, rfl, rfl, Below.refl _ _⟩
  case round =>
    obtain ⟨k, hk, rfl, HA, hbe⟩ := hrel
    have hsz := hbe.size
    by_cases hlt : k < xs.length
    · obtain ⟨b, off, rfl⟩ := H.out.some_of hlt
      obtain ⟨op, arg, hz, _, _, hc, hc', hb⟩ := (H.out.below (Nat.le_refl _) hbe).instr_at k hlt
      have HZ := hid hz
      clear hz
      obtain ⟨r, hr⟩ : ∃ r, validI (op, arg) = r := ⟨_, rfl⟩
      have HR := hid hr
      clear hr
      cases r
      · go_wp2_with (go_at_call 78; refine (c_ValidCode1 _ _ _).mono ?_; rintro e w1 ⟨rfl, hb1⟩; rw [HR.out])
        go_ret
        exact ⟨k, rfl, .inr ⟨k, _, rfl, HZ.out, by simp [HR.out], HA.out⟩, bel_next hbe hsz hb1⟩
      · go_wp2_with (go_at_call 78; refine (c_ValidCode1 _ _ _).mono ?_; rintro e w1 ⟨rfl, hb1⟩; rw [HR.out])
        go_roundw
        case rel => exact ⟨k + 1, by omega, by go_num, (all_take HA.out HZ.out).trans (by simp [HR.out]), bel_next hbe hsz hb1⟩
        case measure => simp [intOf]; omega
    · have HE := hid (all_end HA.out (Nat.le_of_not_lt hlt))
      go_wp2
      go_ret
      exact ⟨-1, rfl, .inl ⟨rfl, HE.out⟩, hbe⟩
theorem c_ValidCode {S : Nat → Prop} (a : Option Addr) (cap : Nat) (xs : List Instr) (w : World) (h : SlRd cInstr S w a cap xs) :
    Calls Tryd.prog 46 #[.slice a xs.length cap] w fun e w' => e = .returned (.bool (validCode xs)) ∧ Below w.heap.size w w' := by
  have H := hid h
  clear h
  by_cases h1 : inB xs.length 1 80 = true
  · have HF : Hid (validCode xs = xs.all validI) := by unfold Hid; simp [validCode, h1]
    go_enter Tryd.func46, Tryd.ntmps46
    go_wp2_with (first | (go_at_call 76; refine (c_size _ _).mono ?_; rintro e w' ⟨rfl, rfl⟩) | (go_at_call 75; refine (c_within _ _ _ _).mono ?_; rintro e w' ⟨rfl, rfl⟩) | (go_at_call 101; refine (c_idxInvalid _ _ _ _ H.out).mono ?_; rintro e w1 ⟨r, rfl, hok, hb1⟩; have hd := hok.all; have HD := hid hd; clear hd hok) | go_in)
    go_ret
    exact ⟨ret_bool (by rw [HF.out, HD.out]; simp), hb1⟩
  · have h1' : inB xs.length 1 80 = false := by simpa using h1
    have HF : Hid (validCode xs = false) := by unfold Hid; simp [validCode, h1']
    clear h1
    go_enter Tryd.func46, Tryd.ntmps46
    go_wp2_with (first | (go_at_call 76; refine (c_size _ _).mono ?_; rintro e w' ⟨rfl, rfl⟩) | (go_at_call 75; refine (c_within _ _ _ _).mono ?_; rintro e w' ⟨rfl, rfl⟩))
    go_ret
    exact ⟨ret_bool HF.out.symm, Below.refl _ _⟩
end Go.Proofs.YtcmopmapdomneaaDoor
end

section
namespace Go.Proofs.YtcmopmapdomneaaDoor
theorem validCode_iff {xs : List Instr} (h : validCode xs = true) : 1 ≤ xs.length ∧ xs.length ≤ 80 ∧ ∀ x ∈ xs, validI x = true := by
  simp only [validCode, Bool.and_eq_true, List.all_eq_true] at h
  have := inB_iff.1 h.1
  exact ⟨by omega, by omega, h.2⟩
end Go.Proofs.YtcmopmapdomneaaDoor
end

section
namespace Go.Proofs.YtcmopmapdomneaaDoor
open Go.RowKit

def nlF (zs : List (List UInt8)) : List UInt8 := (zs.map fun l => l ++ [10]).flatten
theorem nlF_snoc (zs : List (List UInt8)) (z : List UInt8) : nlF (zs ++ [z]) = nlF zs ++ (z ++ [10]) := by simp [nlF]
theorem nlF_take {zs : List (List UInt8)} {k : Nat} {z : List UInt8} (h : zs[k]? = some z) : nlF (zs.take (k + 1)) = nlF (zs.take k) ++ (z ++ [10]) := by
  have hk := (List.getElem?_eq_some_iff.1 h).1
  rw [List.take_succ_eq_append_getElem hk, nlF_snoc]
  rw [List.getElem?_eq_getElem hk] at h
  rw [Option.some.inj h]
theorem nlF_append (a b : List (List UInt8)) : nlF (a ++ b) = nlF a ++ nlF b := by simp [nlF]
theorem nlF_le (zs : List (List UInt8)) (k : Nat) : (nlF (zs.take k)).length ≤ (nlF zs).length := by
  have h : nlF zs = nlF (zs.take k) ++ nlF (zs.drop k) := by rw [← nlF_append, List.take_append_drop]
  rw [h, List.length_append]; omega
theorem c_WriteString (B b : Nat) (l l' : List UInt8) (w : World) (h : Lib.IsBuilder 135 5 B b (Lib.byteCells l) w) (hlen : l.length + l'.length ≤ 140737488355328) (hBw : B ≤ w.heap.size) :
    Calls Tryd.prog 90 #[.pointer (some ⟨b, 0, none⟩), .string ⟨l'.toArray⟩] w fun e w' => e = .returned (.tuple #[.int .i64 l'.length, .nilIface]) ∧ Lib.IsBuilder 135 5 B b (Lib.byteCells (l ++ l')) w' ∧ Below B w w' := by
  refine (Any.Builder_WriteString sbLays sbExtra B b (Lib.byteCells l) ⟨l'.toArray⟩ w h (by rw [Lib.byteCells_length]; simpa [ByteArray.size] using hlen) hBw).mono ?_
  rintro e w' ⟨rfl, h1, h2⟩
  refine ⟨by simp [ByteArray.size], ?_, h2⟩
  rw [Lib.byteCells_append]
  exact .inr h1
theorem c_BString (B b : Nat) (l : List UInt8) (w : World) (h : Lib.IsBuilder 135 5 B b (Lib.byteCells l) w) (hBw : B ≤ w.heap.size) :
    Calls Tryd.prog 91 #[.pointer (some ⟨b, 0, none⟩)] w fun e w' => e = .returned (strOf l) ∧ Below B w w' :=
  Tryd.Builder_String_any B b l w h hBw
set_option maxRecDepth 100000 in
theorem c_withNewlines {S : Nat → Prop} {a : Option Addr} {p : Nat} {zs : List (List UInt8)} {w : World} (h : SlRd cStr S w a p zs) (hn : (nlF zs).length ≤ 140737488355328) :
    Calls Tryd.prog 53 #[.slice a zs.length p] w fun e w' => e = .returned (strOf (nlF zs)) ∧ Below w.heap.size w w' := by
  have H := hid h
  have hl := h.len_le
  have HI := hid (Lib.fresh_isBuilder 135 5 w)
  have HB0 : Hid (Below w.heap.size w (w.alloc (.cells #[.pointer none, .slice none 0 0] 135))) := (Below.refl _ _).alloc (Nat.le_refl _) _
  clear h
  go_enter Tryd.func53, Tryd.ntmps53
  go_wp2
  generalize w.alloc (.cells #[.pointer none, .slice none 0 0] 135) = w0 at *
  go_loopw [8] (fun i wr => ∃ k : Nat, k ≤ zs.length ∧ i = .int .i64 k ∧ Hid (Lib.IsBuilder 135 5 w.heap.size w.heap.size (Lib.byteCells (nlF (zs.take k))) wr) ∧ Below w.heap.size w wr) (fun i _ => zs.length - (intOf i).toNat)
  case atStart => exact ⟨0, Nat.zero_le _, rfl, HI, HB0.out⟩
  case round =>
    obtain ⟨k, hk, rfl, HIB, hbe⟩ := hrel
    have hsz := hbe.size
    by_cases hlt : k < zs.length
    · obtain ⟨b, off, rfl⟩ := H.out.some_of hlt
      obtain ⟨z, hz, hz2, hc, hb, _⟩ := (H.out.below (Nat.le_refl _) hbe).str_at k hlt
      have i0 : (0 : Int) ≤ (k : Int) := by omega
      have i1 : (k : Int) < (zs.length : Int) := by omega
      have HT := hid (nlF_take hz)
      have hle := nlF_le zs (k + 1)
      rw [HT.out, List.length_append, List.length_append, List.length_singleton] at hle
      have HW := hid (c_WriteString w.heap.size w.heap.size (nlF (zs.take k)) (z ++ [10]) wr HIB.out (by simp; omega) hsz)
      have e1 : (⟨z.toArray⟩ ++ ⟨#[10]⟩ : ByteArray) = ⟨(z ++ [10]).toArray⟩ := Value.string.inj (strOf_add z [10])
      have n1 : ¬ 9223372036854775807 < z.length + 1 := by omega
      clear hz hle
      go_wp2_with (go_at_call 90; refine HW.out.mono ?_; rintro e w2 ⟨rfl, hi2, hb2⟩; have HI2 := hid hi2; have HB2 := hid (hbe.trans hb2); clear hi2 hb2 e1)
      go_roundw
      case rel => exact ⟨k + 1, by omega, by go_num, by rw [HT.out]; exact HI2, HB2.out⟩
      case measure => simp [intOf]; omega
    · have HK : Hid (zs.take k = zs) := List.take_of_length_le (by omega)
      rw [HK.out] at HIB
      go_wp2_with (go_at_call 91; refine (c_BString w.heap.size w.heap.size _ _ HIB.out hsz).mono ?_; rintro e w2 ⟨rfl, hb2⟩; have HB2 := hid (hbe.trans hb2); clear hb2; unfold strOf)
      go_ret
      exact ⟨rfl, HB2.out⟩
def codeTextF (xs : List Instr) : List UInt8 × Bool := if validCode xs then (nlF (xs.map lineF), true) else ([], false)
theorem lineF_len (x : Instr) (h : I64 x.2) : (lineF x).length ≤ 27 := by
  have h1 := opW_len x.1
  have h2 := Lib.itoa_length_le x.2 h.1 h.2
  unfold lineF
  split
  · rw [List.length_append, List.length_cons]; omega
  · omega
theorem nlF_len {zs : List (List UInt8)} {m : Nat} (h : ∀ z ∈ zs, z.length ≤ m) : (nlF zs).length ≤ zs.length * (m + 1) := by
  induction zs with
  | nil => simp [nlF]
  | cons z zs ih =>
    have h1 := h z (by simp)
    have h2 := ih fun y hy => h y (by simp [hy])
    have e : nlF (z :: zs) = (z ++ [10]) ++ nlF zs := by simp [nlF]
    rw [e, List.length_append, List.length_append, List.length_cons (a := z), Nat.add_mul, List.length_singleton]; omega
theorem validI_i64 {x : Instr} (h : validI x = true) : I64 x.1 ∧ I64 x.2 := by
  have h1 := validI_op h
  obtain ⟨op, arg⟩ := x
  refine ⟨⟨by omega, by omega⟩, ?_⟩
  unfold validI at h
  simp only at h ⊢
  split at h
  · have := inB_iff.1 h; exact ⟨by omega, by omega⟩
  · split at h
    · have := inB_iff.1 h; exact ⟨by omega, by omega⟩
    · split at h
      · have := inB_iff.1 h; exact ⟨by omega, by omega⟩
      · split at h
        · have := inB_iff.1 h; exact ⟨by omega, by omega⟩
        · split at h
          · simp at h; subst h; exact i64_0
          · cases h
end Go.Proofs.YtcmopmapdomneaaDoor
end

section
namespace Go.Proofs.YtcmopmapdomneaaDoor
open Go.RowKit

theorem c_l02Number (n : Int) (w : World) :
    Calls Tryd.prog 100 #[.int .i64 n] w fun e w' => e = .returned (.bool (inB n (-1000000) 1000000)) ∧ w = w' := by
  go_enter Tryd.func100, Tryd.ntmps100
  go_wp2_with (go_at_call 39; refine (c_l00In _ _ _ _).mono ?_; rintro e w' ⟨rfl, rfl⟩)
  go_ret
  exact ⟨rfl, rfl⟩
theorem c_l02Is {S : Nat → Prop} (b off : Nat) (c : Int) (a : Option Addr) (cap : Nat) (zs : List Int) (w : World) (hc : w.cell? ⟨b, off, none⟩ = some (.int .i64 c)) (hc' : w.cell? ⟨b, off + 1, none⟩ = some (.slice a zs.length cap)) (h : SlRd cInt S w a cap zs) :
    Calls Tryd.prog 69 #[.pointer (some ⟨b, off, none⟩)] w fun e w' => e = .returned (.bool (validTerm (c, zs))) ∧ w = w' := by
  have hl := h.len_le
  have H := hid h
  clear h
  by_cases h2 : inB c (-1000000) 1000000 = true
  · by_cases h1 : zs.length ≤ 10
    · by_cases h4 : zs.length = 0
      · have HF : Hid (validTerm (c, zs) = true) := by unfold Hid; obtain rfl := List.eq_nil_of_length_eq_zero h4; simp [validTerm, h2, allIn, lastOk]
        have h5 : (zs.length : Int) ≤ 0 := by omega
        clear h4
        go_enter Tryd.func69, Tryd.ntmps69
        go_wp2_with (go_at_call 100; refine (c_l02Number _ _).mono ?_; rintro e w' ⟨rfl, rfl⟩)
        go_loop [4] (fun i => i = .int .i64 0) (fun i => 0)
        case atStart => rfl
        case round =>
          obtain rfl := hrel
          go_wp2
          go_ret
          exact ⟨ret_bool HF.out.symm, rfl⟩
      · obtain ⟨b1, off1, rfl⟩ := H.out.some_of (k := 0) (by omega)
        obtain ⟨z, hz, hz2, hcz, hb⟩ := H.out.int_at (zs.length - 1) (by omega)
        have hg : zs.getLast? = some z := by rw [List.getLast?_eq_getElem?, hz]
        have h5 : 1 ≤ zs.length := by omega
        clear h4 hz
        by_cases hz0 : z = 0
        · have hz1 : (z == 0) = true := by simp [hz0]
          have HF : Hid (validTerm (c, zs) = false) := by unfold Hid; simp [validTerm, lastOk, hg, hz0]
          clear hg hz0
          go_enter Tryd.func69, Tryd.ntmps69
          go_wp2_with (go_at_call 100; refine (c_l02Number _ _).mono ?_; rintro e w' ⟨rfl, rfl⟩)
          go_ret
          exact ⟨ret_bool HF.out.symm, rfl⟩
        · have hz1 : (z == 0) = false := by simp [hz0]
          have HF : Hid (validTerm (c, zs) = allIn zs (-1000000) 1000000) := by unfold Hid; simp [validTerm, h1, h2, lastOk, hg, hz0]
          clear hg hz0
          go_enter Tryd.func69, Tryd.ntmps69
          go_wp2_with (go_at_call 100; refine (c_l02Number _ _).mono ?_; rintro e w' ⟨rfl, rfl⟩)
          go_loop [4] (fun i => ∃ k : Nat, k ≤ zs.length ∧ i = .int .i64 k ∧ Hid ((zs.take k).all (fun z => inB z (-1000000) 1000000) = true)) (fun i => zs.length - (intOf i).toNat)
          case atStart => exact ⟨0, Nat.zero_le _, rfl, rfl⟩
          case round =>
            obtain ⟨k, hk, rfl, HA⟩ := hrel
            by_cases hlt : k < zs.length
            · obtain ⟨z', hz', _, hcz', _⟩ := H.out.int_at k hlt
              have HZ := hid hz'
              clear hz'
              by_cases hin : inB z' (-1000000) 1000000 = true
              · go_wp2_with (go_at_call 100; refine (c_l02Number _ _).mono ?_; rintro e w' ⟨rfl, rfl⟩)
                go_round
                case rel => exact ⟨k + 1, by omega, by go_num, (all_take HA.out HZ.out).trans hin⟩
                case measure => simp [intOf]; omega
              · have hin' : inB z' (-1000000) 1000000 = false := by simpa using hin
                go_wp2_with (go_at_call 100; refine (c_l02Number _ _).mono ?_; rintro e w' ⟨rfl, rfl⟩)
                go_ret
                exact ⟨ret_bool (HF.out.trans (all_false HZ.out hin')).symm, rfl⟩
            · go_wp2
              go_ret
              exact ⟨ret_bool (HF.out.trans (all_end HA.out (by omega))).symm, rfl⟩
    · have HF : Hid (validTerm (c, zs) = false) := by unfold Hid; simp [validTerm, h1]
      go_enter Tryd.func69, Tryd.ntmps69
      go_wp2_with (go_at_call 100; refine (c_l02Number _ _).mono ?_; rintro e w' ⟨rfl, rfl⟩)
      go_ret
      exact ⟨ret_bool HF.out.symm, rfl⟩
  · have h2' : inB c (-1000000) 1000000 = false := by simpa using h2
    have HF : Hid (validTerm (c, zs) = false) := by unfold Hid; simp [validTerm, h2']
    clear h2
    go_enter Tryd.func69, Tryd.ntmps69
    go_wp2_with (go_at_call 100; refine (c_l02Number _ _).mono ?_; rintro e w' ⟨rfl, rfl⟩)
    go_ret
    exact ⟨ret_bool HF.out.symm, rfl⟩
end Go.Proofs.YtcmopmapdomneaaDoor
end

section
namespace Go.Proofs.YtcmopmapdomneaaDoor
open Go.RowKit

def signF (n : Int) (l : List UInt8) : List UInt8 := if n < 0 then l ++ [45] else if l = [] then l else l ++ [43]
def pieceF (l : List UInt8) (n : Int) (nm : List UInt8) : List UInt8 := if n = 0 then l else (signF n l ++ (if n.natAbs = 1 ∧ nm ≠ [] then [] else Lib.itoa n.natAbs)) ++ nm
def partT (t : Term) : Nat → List UInt8
  | 0 => []
  | k + 1 => if k < t.2.length then pieceF (partT t k) (t.2[k]?.getD 0) [UInt8.ofNat (97 + k)] else pieceF (partT t k) t.1 []
def textF (t : Term) : List UInt8 := if partT t (t.2.length + 1) = [] then [48] else partT t (t.2.length + 1)
def termTextF (t : Term) : List UInt8 × Bool := if validTerm t then (textF t, true) else ([], false)
def small (n : Int) : Prop := -1000000 ≤ n ∧ n ≤ 1000000
theorem pieceF_len (l : List UInt8) (n : Int) (nm : List UInt8) (h : small n) : (pieceF l n nm).length ≤ l.length + 22 + nm.length := by
  unfold small at h
  have h1 := Lib.itoa_length_le n.natAbs (by omega) (by omega)
  have h2 : (signF n l).length ≤ l.length + 1 := by unfold signF; split; · simp
                                                    · split <;> simp
  unfold pieceF
  split
  · omega
  · rw [List.length_append, List.length_append]
    split
    · simp; omega
    · omega
theorem validTerm_small {t : Term} (h : validTerm t = true) : t.2.length ≤ 10 ∧ small t.1 ∧ ∀ z ∈ t.2, small z := by
  unfold validTerm at h
  simp only [Bool.and_eq_true, decide_eq_true_eq] at h
  obtain ⟨⟨⟨h1, h2⟩, h3⟩, _⟩ := h
  exact ⟨h1, inB_iff.1 h2, fun z hz => inB_iff.1 (List.all_eq_true.1 h3 z hz)⟩
theorem partT_len {t : Term} (h1 : small t.1) (h2 : ∀ z ∈ t.2, small z) (k : Nat) : (partT t k).length ≤ 23 * k := by
  induction k with
  | zero => simp [partT]
  | succ k ih =>
    unfold partT
    split
    · rename_i hk
      have hz : small (t.2[k]?.getD 0) := by rw [List.getElem?_eq_getElem hk]; exact h2 _ (List.getElem_mem hk)
      have := pieceF_len (partT t k) _ [UInt8.ofNat (97 + k)] hz
      simp at this ⊢; omega
    · have := pieceF_len (partT t k) _ [] h1
      simp at this; omega
theorem partT_lt {t : Term} {k : Nat} {z : Int} (h : t.2[k]? = some z) : partT t (k + 1) = pieceF (partT t k) z [UInt8.ofNat (97 + k)] := by
  show (if k < t.2.length then _ else _) = _
  rw [if_pos (List.getElem?_eq_some_iff.1 h).1, h]; rfl
theorem partT_end (t : Term) : partT t (t.2.length + 1) = pieceF (partT t t.2.length) t.1 [] := by
  show (if t.2.length < t.2.length then _ else _) = _
  rw [if_neg (by omega)]
theorem piece_zero (l nm : List UInt8) : pieceF l 0 nm = l := by simp [pieceF]
theorem piece_neg {l nm : List UInt8} {m : Nat} (h : 0 < m) : pieceF l (-(m : Int)) nm = (l ++ [45]) ++ ((if m = 1 ∧ nm ≠ [] then [] else Lib.itoa m) ++ nm) := by
  unfold pieceF signF
  rw [if_neg (by omega), if_pos (by omega)]
  simp
theorem piece_pos {l nm : List UInt8} {m : Nat} (h : 0 < m) (hl : l ≠ []) : pieceF l (m : Int) nm = (l ++ [43]) ++ ((if m = 1 ∧ nm ≠ [] then [] else Lib.itoa m) ++ nm) := by
  unfold pieceF signF
  rw [if_neg (by omega), if_neg (by omega), if_neg hl]
  simp
theorem piece_first {nm : List UInt8} {m : Nat} (h : 0 < m) : pieceF [] (m : Int) nm = (if m = 1 ∧ nm ≠ [] then [] else Lib.itoa m) ++ nm := by
  unfold pieceF signF
  rw [if_neg (by omega), if_neg (by omega), if_pos rfl]
  simp
set_option maxHeartbeats 4000000 in
set_option maxRecDepth 100000 in
theorem c_l02Text {S : Nat → Prop} {b0 o0 : Nat} {c : Int} {a : Option Addr} {p : Nat} {zs : List Int} {w : World} (h0 : w.cell? ⟨b0, o0, none⟩ = some (.int .i64 c)) (h1 : w.cell? ⟨b0, o0 + 1, none⟩ = some (.slice a zs.length p)) (hb0 : b0 < w.heap.size) (h : SlRd cInt S w a p zs) (hv : validTerm (c, zs) = true) :
    Calls Tryd.prog 70 #[.pointer (some ⟨b0, o0, none⟩)] w fun e w' => e = .returned (strOf (textF (c, zs))) ∧ Below w.heap.size w w' := by
  obtain ⟨hl10, hc6, hz6⟩ := validTerm_small hv
  simp only at hl10 hc6 hz6
  have HP := hid (partT_len (t := (c, zs)) hc6 hz6)
  have HZ := hid hz6
  have H := hid h
  clear h hv hz6
  go_enter Tryd.func70, Tryd.ntmps70
  go_wp2
  go_loopw [3, 4] (fun o i wr => ∃ (k : Nat) (l : List UInt8), k ≤ zs.length + 1 ∧ i = .int .i64 k ∧ o = .string ⟨l.toArray⟩ ∧ Hid (l = partT (c, zs) k) ∧ Below w.heap.size w wr) (fun _ i _ => zs.length + 1 - (intOf i).toNat)
  case atStart => exact ⟨0, [], Nat.zero_le _, rfl, rfl, rfl, Below.refl _ _⟩
  case round =>
    obtain ⟨k, l, hk, rfl, rfl, HL, hbe⟩ := hrel
    have hsz := hbe.size
    have hll : l.length ≤ 23 * k := by rw [HL.out]; exact HP.out k
    have d0 := cell_below hbe hb0 h0
    have d1 := cell_below hbe hb0 h1
    by_cases hlt : k < zs.length
    · obtain ⟨b, off, rfl⟩ := H.out.some_of hlt
      obtain ⟨z, hz, hz2, hc, hb⟩ := (H.out.below (Nat.le_refl _) hbe).int_at k hlt
      have hz6 := HZ.out z (List.mem_of_getElem? hz)
      have HN := hid (partT_lt (t := (c, zs)) hz)
      have i0 : (0 : Int) ≤ (k : Int) := by omega
      have i1 : (k : Int) < (zs.length : Int) := by omega
      have i2 : ¬ (zs.length : Int) < (k : Int) := by omega
      clear hz
      have HC := conv_lit Tryd.underlying133 Tryd.underlying5 Tryd.underlying9 wr (UInt8.ofNat (97 + k))
      have e8 : u8v (UInt8.ofNat (97 + k)) = .int .u8 (97 + (k : Int)) := by
        unfold u8v; rw [UInt8.toNat_ofNat_of_lt' (by simp [UInt8.size]; omega)]; simp
      rw [e8] at HC
      unfold strOf at HC
      generalize UInt8.ofNat (97 + k) = nm at *
      have HBX : Hid (Below w.heap.size w (wr.alloc (.cells #[.int .u8 (97 + (k : Int))] 5))) := hbe.alloc hsz _
      have hszx : w.heap.size ≤ (wr.alloc (.cells #[.int .u8 (97 + (k : Int))] 5)).heap.size := by simp; omega
      clear e8
      unfold small at hz6
      by_cases hz0 : z = 0
      · subst hz0
        have HE : Hid (partT (c, zs) (k + 1) = l) := by unfold Hid; rw [HN.out, piece_zero, ← HL.out]
        go_wp2
        go_roundw
        case rel => exact ⟨k + 1, l, by omega, by go_num, rfl, HE.out.symm, HBX.out⟩
        case measure => simp [intOf]; omega
      · obtain ⟨m, hm⟩ : ∃ m, z.natAbs = m := ⟨_, rfl⟩
        have hm0 : 0 < m := by omega
        have hm6 : m ≤ 1000000 := by omega
        have hit := Lib.itoa_length_le (m : Int) (by omega) (by omega)
        have HCALL := hid fun w => c_l01Dec (m : Int) w (by omega) (by omega)
        have hsplit : ∃ l' : List UInt8, l'.length ≤ l.length + 1 ∧ Hid (partT (c, zs) (k + 1) = l' ++ ((if m = 1 ∧ [nm] ≠ [] then [] else Lib.itoa m) ++ [nm])) ∧ ((z = -(m : Int) ∧ l' = l ++ [45]) ∨ (z = (m : Int) ∧ l ≠ [] ∧ l' = l ++ [43]) ∨ (z = (m : Int) ∧ l = [] ∧ l' = l)) := by
          rcases (show z = -(m : Int) ∨ z = (m : Int) by omega) with e | e
          · exact ⟨l ++ [45], by simp, by unfold Hid; rw [HN.out, e, piece_neg hm0, ← HL.out], .inl ⟨e, rfl⟩⟩
          · by_cases hl : l = []
            · exact ⟨l, by omega, by unfold Hid; rw [HN.out, e, ← HL.out, hl, piece_first hm0]; rfl, .inr (.inr ⟨e, hl, rfl⟩)⟩
            · exact ⟨l ++ [43], by simp, by unfold Hid; rw [HN.out, e, ← HL.out, piece_pos hm0 hl], .inr (.inl ⟨e, hl, rfl⟩)⟩
        obtain ⟨l', hl', HE, hcase⟩ := hsplit
        clear HN hz0 hm
        rcases hcase with ⟨rfl, hq⟩ | ⟨rfl, hne, hq⟩ | ⟨rfl, hnil, hq⟩
        any_goals
          have e1 := badd l [45]
          rw [← hq] at e1
        any_goals
          have hle : (l == []) = false := beq_eq_false_iff_ne.2 hne
          have e1 := badd l [43]
          rw [← hq] at e1
          clear hne
        any_goals
          subst hq
          have hle : (l' == []) = true := beq_iff_eq.2 hnil
          clear hnil
        all_goals
          try clear hq
          by_cases hm1 : m = 1
          · subst hm1
            have HE2 := hid HE.out
            rw [if_pos ⟨rfl, by simp⟩, List.nil_append] at HE2
            have e2 := badd l' [nm]
            go_wp2
            go_roundw
            case rel => exact ⟨k + 1, l' ++ [nm], by omega, by go_num, rfl, HE2.out.symm, HBX.out⟩
            case measure => simp [intOf]; omega
          · have HE2 := hid HE.out
            rw [if_neg (by simp [hm1])] at HE2
            have hm2 : ((m : Int) != 1) = true := by simp; omega
            have e2 := badd l' (Lib.itoa m)
            have e3 := badd (l' ++ Lib.itoa m) [nm]
            clear hm1
            go_wp2_with (go_at_call 73; refine (HCALL.out _).mono ?_; rintro e w2 ⟨rfl, hb2⟩; have HB2 := hid (bel_next HBX.out hszx hb2); clear hb2; unfold strOf)
            go_roundw
            case rel => exact ⟨k + 1, _, by omega, by go_num, rfl, HE2.out.symm, HB2.out⟩
            case measure => simp [intOf]; omega
    · by_cases hke : k = zs.length
      · subst hke
        have HN := hid (partT_end (c, zs))
        have hc7 := hc6
        have hlz := H.out.len_le
        unfold small at hc7
        by_cases hz0 : c = 0
        · subst hz0
          have HE : Hid (partT (0, zs) (zs.length + 1) = l) := by unfold Hid; rw [HN.out, piece_zero, ← HL.out]
          go_wp2
          go_roundw
          case rel => exact ⟨zs.length + 1, l, by omega, by go_num, rfl, HE.out.symm, hbe⟩
          case measure => simp [intOf] <;> omega
        · obtain ⟨m, hm⟩ : ∃ m, c.natAbs = m := ⟨_, rfl⟩
          have hm0 : 0 < m := by omega
          have hm6 : m ≤ 1000000 := by omega
          have hit := Lib.itoa_length_le (m : Int) (by omega) (by omega)
          have HCALL := hid fun w => c_l01Dec (m : Int) w (by omega) (by omega)
          have hsplit : ∃ l' : List UInt8, l'.length ≤ l.length + 1 ∧ Hid (partT (c, zs) (zs.length + 1) = l' ++ Lib.itoa m) ∧ ((c = -(m : Int) ∧ l' = l ++ [45]) ∨ (c = (m : Int) ∧ l ≠ [] ∧ l' = l ++ [43]) ∨ (c = (m : Int) ∧ l = [] ∧ l' = l)) := by
            rcases (show c = -(m : Int) ∨ c = (m : Int) by omega) with e | e
            · exact ⟨l ++ [45], by simp, by unfold Hid; rw [HN.out]; simp only; rw [← HL.out, e, piece_neg hm0]; simp, .inl ⟨e, rfl⟩⟩
            · by_cases hl : l = []
              · exact ⟨l, by omega, by unfold Hid; rw [HN.out]; simp only; rw [← HL.out, e, hl, piece_first hm0]; simp, .inr (.inr ⟨e, hl, rfl⟩)⟩
              · exact ⟨l ++ [43], by simp, by unfold Hid; rw [HN.out]; simp only; rw [← HL.out, e, piece_pos hm0 hl]; simp, .inr (.inl ⟨e, hl, rfl⟩)⟩
          obtain ⟨l', hl', HE, hcase⟩ := hsplit
          clear HN hz0 hm hc6
          rcases hcase with ⟨rfl, hq⟩ | ⟨rfl, hne, hq⟩ | ⟨rfl, hnil, hq⟩
          any_goals
            have e1 := badd l [45]
            rw [← hq] at e1
          any_goals
            have hle : (l == []) = false := beq_eq_false_iff_ne.2 hne
            have e1 := badd l [43]
            rw [← hq] at e1
            clear hne
          any_goals
            subst hq
            have hle : (l' == []) = true := beq_iff_eq.2 hnil
            clear hnil
          all_goals
            try clear hq
            by_cases hm1 : m = 1
            · subst hm1
              have HE1 : Hid (partT _ (zs.length + 1) = l' ++ Lib.itoa 1) := HE
              have HC1 : Hid (∀ w, Calls Tryd.prog 73 #[.int .i64 1] w fun e w' => e = .returned (strOf (Lib.itoa 1)) ∧ Below w.heap.size w w') := HCALL
              have hit1 : (Lib.itoa 1).length ≤ 21 := hit
              have e2 := badd l' (Lib.itoa 1)
              have e3 := badd (l' ++ Lib.itoa 1) []
              clear HCALL HE hit
              go_wp2_with (go_at_call 73; refine (HC1.out _).mono ?_; rintro e w2 ⟨rfl, hb2⟩; have HB2 := hid (bel_next hbe hsz hb2); clear hb2; unfold strOf)
              go_roundw
              case rel => exact ⟨zs.length + 1, l' ++ Lib.itoa 1, by omega, by go_num, by simp, HE1.out.symm, HB2.out⟩
              case measure => simp [intOf] <;> omega
            · have hm2 : ((m : Int) != 1) = true := by simp; omega
              have e2 := badd l' (Lib.itoa m)
              have e3 := badd (l' ++ Lib.itoa m) []
              clear hm1
              go_wp2_with (go_at_call 73; refine (HCALL.out _).mono ?_; rintro e w2 ⟨rfl, hb2⟩; have HB2 := hid (bel_next hbe hsz hb2); clear hb2; unfold strOf)
              go_roundw
              case rel => exact ⟨zs.length + 1, l' ++ Lib.itoa m, by omega, by go_num, by simp, HE.out.symm, HB2.out⟩
              case measure => simp [intOf] <;> omega
      · have hke2 : k = zs.length + 1 := by omega
        subst hke2
        have hlz := H.out.len_le
        by_cases hl : l = []
        · have HF : Hid (textF (c, zs) = [48]) := by unfold Hid textF; simp only; rw [← HL.out, if_pos hl]
          have hle : (l == []) = true := beq_iff_eq.2 hl
          clear hl HL
          go_wp2
          go_ret
          rw [HF.out]
          exact ⟨rfl, hbe⟩
        · have HF : Hid (textF (c, zs) = l) := by unfold Hid textF; simp only; rw [← HL.out, if_neg hl]
          have hle : (l == []) = false := beq_eq_false_iff_ne.2 hl
          clear hl HL
          go_wp2
          go_ret
          rw [HF.out]
          exact ⟨rfl, hbe⟩
end Go.Proofs.YtcmopmapdomneaaDoor
end

section
namespace Go.Proofs.YtcmopmapdomneaaDoor
open Go.RowKit

def gcdL (zs : List Int) : Nat := zs.foldl (fun g z => Nat.gcd g z.natAbs) 0
def Small (z : Int) : Prop := -1000000000000000 ≤ z ∧ z ≤ 1000000000000000
theorem gcd_le {a b M : Nat} (ha : a ≤ M) (hb : b ≤ M) : Nat.gcd a b ≤ M := by
  rcases Nat.eq_zero_or_pos b with rfl | h
  · simpa using ha
  · exact Nat.le_trans (Nat.le_of_dvd h (Nat.gcd_dvd_right a b)) hb
theorem gcdL_le : ∀ (zs : List Int) (g : Nat), g ≤ 1000000000000000 → (∀ z ∈ zs, Small z) → zs.foldl (fun g z => Nat.gcd g z.natAbs) g ≤ 1000000000000000 := by
  intro zs
  induction zs with
  | nil => intro g h _; exact h
  | cons z zs ih =>
    intro g h hz
    have := hz z (by simp)
    exact ih _ (gcd_le h (by unfold Small at this; omega)) fun x hx => hz x (by simp [hx])
theorem gcdL_take {zs : List Int} {k : Nat} {z : Int} (h : zs[k]? = some z) : gcdL (zs.take (k + 1)) = Nat.gcd (gcdL (zs.take k)) z.natAbs := by
  unfold gcdL; rw [List.take_add_one, h]; simp
theorem small_of {zs : List Int} (h : allIn zs (-1000000000000000) 1000000000000000 = true) : ∀ z ∈ zs, Small z := by
  intro z hz
  exact inB_iff.1 (List.all_eq_true.1 h z hz)
theorem imodc (p q : Nat) : ((p : Int) % (q : Int)) = ((p % q : Nat) : Int) := by omega
theorem gcd_step (p q : Nat) : Nat.gcd q (p % q) = Nat.gcd p q := by rw [Nat.gcd_comm p q, Nat.gcd_rec q p, Nat.gcd_comm]

theorem c_absolute (n : Int) (w : World) (h1 : -9223372036854775807 ≤ n) (h2 : n ≤ 9223372036854775807) :
    Calls Tryd.prog 84 #[.int .i64 n] w fun e w' => e = .returned (.int .i64 (n.natAbs : Int)) ∧ w = w' := by
  by_cases h : n < 0
  · go_enter Tryd.func84, Tryd.ntmps84
    go_wp2
    go_ret
    exact ⟨ret_int (by omega), rfl⟩
  · go_enter Tryd.func84, Tryd.ntmps84
    go_wp2
    go_ret
    exact ⟨ret_int (by omega), rfl⟩
def codedL (zs : List Int) : Bool := decide (zs.length ≤ 100) && allIn zs (-1000000000000000) 1000000000000000
def gcdF (zs : List Int) : Int × Bool := if codedL zs then ((gcdL zs : Int), true) else (0, false)
end Go.Proofs.YtcmopmapdomneaaDoor
end

section
namespace Go.Proofs.YtcmopmapdomneaaDoor
open Go.RowKit

/-- A block with one text. -/
def TxtAt (w : World) (g : Nat) (l : List UInt8) : Prop := w.heap[g]? = some (.cells #[.string ⟨l.toArray⟩] 9 (0, 0))
theorem TxtAt.cell {w : World} {g : Nat} {l : List UInt8} (h : TxtAt w g l) : w.cell? ⟨g, 0, none⟩ = some (.string ⟨l.toArray⟩) := cell_of h rfl
theorem TxtAt.frz {w : World} {g : Nat} {l : List UInt8} (h : TxtAt w g l) : w.frozen? ⟨g, 0, none⟩ = false := frz_of h 0
theorem TxtAt.set {w : World} {g : Nat} {l : List UInt8} (h : TxtAt w g l) (l' : List UInt8) : TxtAt (w.setCell ⟨g, 0, none⟩ (.string ⟨l'.toArray⟩)) g l' := blk_set h 0 _
theorem TxtAt.below {w w' : World} {g : Nat} {l : List UInt8} (h : TxtAt w g l) (hb : Below w.heap.size w w') : TxtAt w' g l := by
  unfold TxtAt; rw [hb.block g (Array.getElem?_eq_some_iff.1 h).1]; exact h
theorem set_grown (w : World) (g : Nat) (v : Value) : w.grownBy (w.setCell ⟨g, 0, none⟩ v) (some g) := ⟨rfl, rfl, rfl, Nat.le_of_eq (size_set _ _ _).symm, fun k _ hk => heap_setCell_ne _ _ _ (by intro e; subst e; exact hk rfl)⟩
theorem grown_refl (w : World) (g : Option Nat) : w.grownBy w g := ⟨rfl, rfl, rfl, Nat.le_refl _, fun _ _ _ => rfl⟩
theorem bel_grown {B g : Nat} {w w' : World} (h : w.grownBy w' (some g)) (hB : B ≤ g) (hs : B ≤ w.heap.size) : Below B w w' :=
  ⟨h.os, h.tape, h.output, h.size, fun k hk => h.block k (by omega) (by intro e; cases e; omega)⟩
theorem c_sign (n : Int) (g : Nat) (l : List UInt8) (w : World) (h : TxtAt w g l) (hl : l.length ≤ 1000) :
    Calls Tryd.prog 83 #[.int .i64 n, .pointer (some ⟨g, 0, none⟩)] w fun e w' => e = .returned (.tuple #[]) ∧ TxtAt w' g (signF n l) ∧ w.grownBy w' (some g) := by
  have HT := hid h
  have hc := h.cell
  have hf := h.frz
  clear h
  by_cases hn : n < 0
  · have HF : Hid (signF n l = l ++ [45]) := by unfold Hid signF; rw [if_pos hn]
    have e1 := badd l [45]
    go_enter Tryd.func83, Tryd.ntmps83
    go_wp2
    go_end0
    rw [HF.out]
    exact ⟨rfl, HT.out.set _, set_grown _ _ _⟩
  · by_cases hl0 : l = []
    · have HF : Hid (signF n l = l) := by unfold Hid signF; rw [if_neg hn, if_pos hl0]
      have hle : (l == []) = true := beq_iff_eq.2 hl0
      clear hl0
      go_enter Tryd.func83, Tryd.ntmps83
      go_wp2
      go_end0
      rw [HF.out]
      exact ⟨rfl, HT.out, grown_refl _ _⟩
    · have HF : Hid (signF n l = l ++ [43]) := by unfold Hid signF; rw [if_neg hn, if_neg hl0]
      have hle : (l == []) = false := beq_eq_false_iff_ne.2 hl0
      have e1 := badd l [43]
      clear hl0
      go_enter Tryd.func83, Tryd.ntmps83
      go_wp2
      go_end0
      rw [HF.out]
      exact ⟨rfl, HT.out.set _, set_grown _ _ _⟩
theorem encode_name (k : Nat) (h : k ≤ 10) : Utf8.encode (97 + (k : Int)) = ⟨[UInt8.ofNat (97 + k)].toArray⟩ := by
  have hall : ∀ q : Fin 11, Utf8.encode (97 + ((q.val : Nat) : Int)) = ⟨[UInt8.ofNat (97 + q.val)].toArray⟩ := by decide +kernel
  exact hall ⟨k, by omega⟩
theorem wpList_conv {P : Program} {w : World} {ops : Array Oper} {rest : List Oper} {o : Oper} {a : Act} {Q : Exit → Act → World → Prop} (hgd : o.guard = none) (src dst : TypeId) (x : Operand)
    (ho : o.op = .convert src dst x) {u v : Value} (hx : a.eval x = u) (hrun : (convert src dst u).run P w = .ok v w) (h : wpList P ops Q rest (a.put o.dst v) w) : wpList P ops Q (o :: rest) a w :=
  wpList_plain hgd fun _ hK => by
    unfold Oper.wp
    simp [execOp, ho, hx, hrun, Result.andThen]
    exact hK _ _ h
theorem conv_name (w : World) (k : Nat) (h : k ≤ 10) : (convert 21 9 (.int .i32 (97 + (k : Int)))).run Tryd.prog w = .ok (.string ⟨#[UInt8.ofNat (97 + k)]⟩) w := by
  rw [run_convert_int_string w _ _ .i32 _ (by rw [Tryd.underlying21]; rfl) Tryd.underlying9, encode_name k h]
def TrmIn (w : World) (b : Nat) (c : Int) (v : Value) : Prop := w.heap[b]? = some (.cells #[.int .i64 c, v] 89 (0, 0))
theorem TrmIn.c0 {w : World} {b : Nat} {c : Int} {v : Value} (h : TrmIn w b c v) : w.cell? ⟨b, 0, none⟩ = some (.int .i64 c) := cell_of h rfl
theorem TrmIn.c1 {w : World} {b : Nat} {c : Int} {v : Value} (h : TrmIn w b c v) : w.cell? ⟨b, 1, none⟩ = some v := cell_of h rfl
theorem TrmIn.below {w w' : World} {b : Nat} {c : Int} {v : Value} (h : TrmIn w b c v) (hb : Below w.heap.size w w') : TrmIn w' b c v := by
  unfold TrmIn; rw [hb.block b (Array.getElem?_eq_some_iff.1 h).1]; exact h
theorem TrmIn.grown {w w' : World} {b g : Nat} {c : Int} {v : Value} (h : TrmIn w b c v) (hg : w.grownBy w' (some g)) (hne : b ≠ g) : TrmIn w' b c v := by
  unfold TrmIn; rw [hg.block b (Array.getElem?_eq_some_iff.1 h).1 (by simpa using hne)]; exact h
theorem TxtAt.lt {w : World} {g : Nat} {l : List UInt8} (h : TxtAt w g l) : g < w.heap.size := (Array.getElem?_eq_some_iff.1 h).1
set_option maxHeartbeats 4000000 in
set_option maxRecDepth 100000 in
theorem c_termText {S : Nat → Prop} {B : Nat} {c : Int} {a : Option Addr} {p : Nat} {zs : List Int} {w : World} (h : SlRd cInt S w a p zs) (hv : validTerm (c, zs) = true) (ht : TabE B w) :
    Calls Tryd.prog 50 #[.agg #[.int .i64 c, .slice a zs.length p]] w fun e w' => e = .returned (strOf (textF (c, zs))) ∧ Below w.heap.size w w' := by
  obtain ⟨hl10, hc6, hz6⟩ := validTerm_small hv
  simp only at hl10 hc6 hz6
  have HP := hid (partT_len (t := (c, zs)) hc6 hz6)
  have HZ := hid hz6
  have hlz := h.len_le
  have HT := hid ht
  obtain ⟨g, hg⟩ : ∃ g, w.heap.size = g := ⟨_, rfl⟩
  have H2 := hid ((h.alloc (.cells #[.int .i64 c, .slice a zs.length p] 89)).alloc (.cells #[.string ⟨#[]⟩] 9))
  have HB2 : Hid (Below w.heap.size w ((w.alloc (.cells #[.int .i64 c, .slice a zs.length p] 89)).alloc (.cells #[.string ⟨#[]⟩] 9))) := (((Below.refl _ _).alloc (Nat.le_refl _) _)).alloc (by simp) _
  have HM2 : Hid (TrmIn ((w.alloc (.cells #[.int .i64 c, .slice a zs.length p] 89)).alloc (.cells #[.string ⟨#[]⟩] 9)) w.heap.size c (.slice a zs.length p)) := by
    unfold Hid TrmIn; rw [Below.heap_alloc _ _ _ (by simp)]; exact heap_new w _
  have HX2 : Hid (TxtAt ((w.alloc (.cells #[.int .i64 c, .slice a zs.length p] 89)).alloc (.cells #[.string ⟨#[]⟩] 9)) (w.heap.size + 1) []) := new_at (by simp)
  have HM1 : Hid (TrmIn (w.alloc (.cells #[.int .i64 c, .slice a zs.length p] 89)) w.heap.size c (.slice a zs.length p)) := heap_new w _
  have H0 := hid h
  clear h hv hz6 ht hg
  go_enter Tryd.func50, Tryd.ntmps50
  go_wp2
  generalize (w.alloc (.cells #[.int .i64 c, .slice a zs.length p] 89)).alloc (.cells #[.string ⟨#[]⟩] 9) = w2 at *
  have H := hid (H2.out)
  go_loopw [11] (fun i wr => ∃ k : Nat, k ≤ zs.length ∧ i = .int .i64 k ∧ Hid (TxtAt wr (w.heap.size + 1) (partT (c, zs) k)) ∧ Hid (TrmIn wr w.heap.size c (.slice a zs.length p)) ∧ Below w.heap.size w wr) (fun i _ => zs.length - (intOf i).toNat)
  case atStart => exact ⟨0, Nat.zero_le _, rfl, HX2, HM2, HB2.out⟩
  case round =>
    obtain ⟨k, hk, rfl, HX, HM, hbe⟩ := hrel
    have hsz := hbe.size
    have hgl := HX.out.lt
    obtain ⟨l, hL⟩ : ∃ l, partT (c, zs) k = l := ⟨_, rfl⟩
    have hll : l.length ≤ 23 * k := by rw [← hL]; exact HP.out k
    rw [hL] at HX
    by_cases hlt : k < zs.length
    · obtain ⟨b, off, rfl⟩ := H0.out.some_of hlt
      obtain ⟨z, hz, hz2, hc, hb⟩ := (H0.out.below (Nat.le_refl _) hbe).int_at k hlt
      have hz6 := HZ.out z (List.mem_of_getElem? hz)
      have HN := hid (partT_lt (t := (c, zs)) hz)
      rw [hL] at HN
      have i0 : (0 : Int) ≤ (k : Int) := by omega
      have i1 : (k : Int) < (zs.length : Int) := by omega
      unfold small at hz6
      clear hz hL
      by_cases hz0 : z = 0
      · subst hz0
        have HE : Hid (partT (c, zs) (k + 1) = l) := by unfold Hid; rw [HN.out, piece_zero]
        go_wp2
        go_roundw
        case rel => exact ⟨k + 1, by omega, by go_num, by rw [HE.out]; exact HX, HM, hbe⟩
        case measure => simp [intOf]; omega
      · obtain ⟨m, hm⟩ : ∃ m, z.natAbs = m := ⟨_, rfl⟩
        have hm0 : 0 < m := by omega
        have hm6 : m ≤ 1000000 := by omega
        have hit := Lib.itoa_length_le (m : Int) (by omega) (by omega)
        have hzf : (z == 0) = false := by simpa using hz0
        have HSL : Hid (pieceF l z [UInt8.ofNat (97 + k)] = signF z l ++ ((if m = 1 then [] else Lib.itoa m) ++ [UInt8.ofNat (97 + k)])) := by
          unfold Hid pieceF; rw [if_neg hz0, hm]; simp
        have hsl : (signF z l).length ≤ l.length + 1 := by unfold signF; split; · simp
                                                           · split <;> simp
        rw [← HN.out] at HSL
        obtain ⟨l1, hl1⟩ : ∃ l1, signF z l = l1 := ⟨_, rfl⟩
        rw [hl1] at hsl HSL
        have HCS := hid (c_sign z (w.heap.size + 1) l wr HX.out (by omega))
        rw [hl1] at HCS
        have HAB := hid fun w => c_absolute z w (by omega) (by omega)
        rw [hm] at HAB
        have hbw : Below (w.heap.size + 1) wr wr := Below.refl _ _
        clear hl1 hz0 hm hbw HN
        have HCV := hid fun w => conv_name w k (by omega)
        obtain ⟨nm, hnm⟩ : ∃ nm, UInt8.ofNat (97 + k) = nm := ⟨_, rfl⟩
        rw [hnm] at HSL HCV
        clear hnm
        go_wp2_with fail
        refine HCS.out.mono ?_
        rintro e w3 ⟨rfl, hx3, hg3⟩
        have HX3 := hid hx3
        have HM3 := hid (HM.out.grown hg3 (by omega))
        have HB3 := hid (hbe.trans (bel_grown hg3 (Nat.le_succ _) hsz))
        have HT3 := hid (HT.out.belows (HB3.out.mono HT.out.2))
        have hc3 := hx3.cell
        have hf3 := hx3.frz
        have hl3 := hx3.lt
        clear hx3 hg3 HX HM hc hb
        have e2 := badd l1 (Lib.itoa m)
        go_wp2_with fail
        refine (HAB.out _).mono ?_
        rintro e w' ⟨rfl, rfl⟩
        by_cases hm1 : m = 1
        · subst hm1
          have e3 := badd l1 [nm]
          go_wp2_with (refine wpList_conv rfl 21 9 (.tmp 32) rfl rfl (HCV.out _) ?_)
          go_roundw
          case rel =>
            have hg6 := set_grown w3 (w.heap.size + 1) (.string ⟨(l1 ++ [nm]).toArray⟩)
            have HS6 : partT (c, zs) (k + 1) = l1 ++ [nm] := by simpa using HSL.out
            exact ⟨k + 1, by omega, by go_num, by rw [HS6]; exact HX3.out.set _, HM3.out.grown hg6 (by omega), HB3.out.trans (bel_grown hg6 (Nat.le_succ _) HB3.out.size)⟩
          case measure => simp [intOf]; omega
        · have hmne : ((m : Int) != 1) = true := by simp; omega
          go_wp2_with fail
          have hc3d : w3.drew.cell? ⟨w.heap.size + 1, 0, none⟩ = some (.string ⟨l1.toArray⟩) := hc3
          have hbd : Below B w3 w3.drew := ⟨rfl, rfl, rfl, Nat.le_refl _, fun _ _ => rfl⟩
          have HD := hid (c_Decimal (B := B) (m : Int) w3.drew (by omega) (by omega) (HT3.out.belows hbd))
          clear hbd
          go_region_with (first | (go_at_call 84; refine (HAB.out _).mono ?_; rintro e w' ⟨rfl, rfl⟩) | (go_at_call 85; refine HD.out.mono ?_; rintro e w4 ⟨rfl, hb4⟩; unfold strOf; have hc4 := cell_below hb4 hl3 hc3d; have hf4 := frz_below hb4 hl3 hf3; have HB4 := hid hb4; clear hb4))
          all_goals
            have HB4 : Hid (Below w3.heap.size w3 w4) := (show Below w3.heap.size w3 w3.drew from ⟨rfl, rfl, rfl, Nat.le_refl _, fun _ _ => rfl⟩).trans HB4.out
            have HX5 := hid ((HX3.out.below HB4.out).set (l1 ++ Lib.itoa m))
            have hg5 := set_grown w4 (w.heap.size + 1) (.string ⟨(l1 ++ Lib.itoa m).toArray⟩)
            have HM5 := hid ((HM3.out.below HB4.out).grown hg5 (by omega))
            have HB5 := hid ((bel_next HB3.out HB3.out.size HB4.out).trans (bel_grown hg5 (Nat.le_succ _) (Nat.le_trans HB3.out.size HB4.out.size)))
            clear hg5 hc4 hf4 HB4 hc3 hf3 hl3 HX3 HM3 HB3 hc3d HD HT3
            generalize w4.setCell ⟨w.heap.size + 1, 0, none⟩ (.string ⟨(l1 ++ Lib.itoa m).toArray⟩) = w5 at *
            have hc5 := HX5.out.cell
            have hf5 := HX5.out.frz
            have e3 := badd (l1 ++ Lib.itoa m) [nm]
            go_wp2_with (refine wpList_conv rfl 21 9 (.tmp 32) rfl rfl (HCV.out _) ?_)
            go_roundw
            case rel =>
              have hg6 := set_grown w5 (w.heap.size + 1) (.string ⟨(l1 ++ (Lib.itoa m ++ [nm])).toArray⟩)
              have HS6 := HSL.out
              rw [if_neg hm1] at HS6
              exact ⟨k + 1, by omega, by go_num, by rw [HS6]; exact HX5.out.set _, HM5.out.grown hg6 (by omega), HB5.out.trans (bel_grown hg6 (Nat.le_succ _) HB5.out.size)⟩
            case measure => simp [intOf]; omega
    · obtain rfl : k = zs.length := by omega
      have HN := hid (partT_end (c, zs))
      simp only at HN
      rw [hL] at HN
      have hc7 := hc6
      unfold small at hc7
      have m0 := HM.out.c0
      have x0 := HX.out.cell
      clear hL
      by_cases hz0 : c = 0
      · subst hz0
        have HE : Hid (partT (0, zs) (zs.length + 1) = l) := by unfold Hid; rw [HN.out, piece_zero]
        by_cases hl : l = []
        · have HF : Hid (textF (0, zs) = [48]) := by unfold Hid textF; simp only; rw [HE.out, if_pos hl]
          have hle : (l == []) = true := beq_iff_eq.2 hl
          clear hl
          go_wp2
          go_ret
          rw [HF.out]
          exact ⟨rfl, hbe⟩
        · have HF : Hid (textF (0, zs) = l) := by unfold Hid textF; simp only; rw [HE.out, if_neg hl]
          have hle : (l == []) = false := beq_eq_false_iff_ne.2 hl
          clear hl
          go_wp2
          go_ret
          rw [HF.out]
          exact ⟨rfl, hbe⟩
      · obtain ⟨m, hm⟩ : ∃ m, c.natAbs = m := ⟨_, rfl⟩
        have hm0 : 0 < m := by omega
        have hm6 : m ≤ 1000000 := by omega
        have hit := Lib.itoa_length_le (m : Int) (by omega) (by omega)
        have hzf : (c == 0) = false := by simpa using hz0
        have HSL : Hid (pieceF l c [] = signF c l ++ Lib.itoa m) := by
          unfold Hid pieceF; rw [if_neg hz0, hm]; simp
        have hsl : (signF c l).length ≤ l.length + 1 := by unfold signF; split; · simp
                                                           · split <;> simp
        rw [← HN.out] at HSL
        obtain ⟨l1, hl1⟩ : ∃ l1, signF c l = l1 := ⟨_, rfl⟩
        rw [hl1] at hsl HSL
        have hne : Lib.itoa m ≠ [] := by
          rw [itoa_pos (by omega), digs_pos (by omega)]; simp
        have HF : Hid (textF (c, zs) = l1 ++ Lib.itoa m) := by
          unfold Hid textF; simp only; rw [HSL.out, if_neg (by simp [hne])]
        have hle : ((l1 ++ Lib.itoa m) == []) = false := beq_eq_false_iff_ne.2 (by simp [hne])
        have HCS := hid (c_sign c (w.heap.size + 1) l wr HX.out (by omega))
        rw [hl1] at HCS
        have HAB := hid fun w => c_absolute c w (by omega) (by omega)
        rw [hm] at HAB
        clear hl1 hz0 hm HN hne x0
        go_wp2_with fail
        refine HCS.out.mono ?_
        rintro e w3 ⟨rfl, hx3, hg3⟩
        have HX3 := hid hx3
        have HM3 := hid (HM.out.grown hg3 (by omega))
        have HB3 := hid (hbe.trans (bel_grown hg3 (Nat.le_succ _) hsz))
        have HT3 := hid (HT.out.belows (HB3.out.mono HT.out.2))
        have hc3 := hx3.cell
        have hf3 := hx3.frz
        have hl3 := hx3.lt
        have m3 := HM3.out.c0
        clear hx3 hg3 HX HM m0
        have e2 := badd l1 (Lib.itoa m)
        go_wp2_with fail
        have hc3d : w3.drew.cell? ⟨w.heap.size + 1, 0, none⟩ = some (.string ⟨l1.toArray⟩) := hc3
        have m3d : w3.drew.cell? ⟨w.heap.size, 0, none⟩ = some (.int .i64 c) := m3
        have hbd : Below B w3 w3.drew := ⟨rfl, rfl, rfl, Nat.le_refl _, fun _ _ => rfl⟩
        have HD := hid (c_Decimal (B := B) (m : Int) w3.drew (by omega) (by omega) (HT3.out.belows hbd))
        clear hbd
        go_region_with (first | (go_at_call 84; refine (HAB.out _).mono ?_; rintro e w' ⟨rfl, rfl⟩) | (go_at_call 85; refine HD.out.mono ?_; rintro e w4 ⟨rfl, hb4⟩; unfold strOf; have hc4 := cell_below hb4 hl3 hc3d; have hf4 := frz_below hb4 hl3 hf3; have HB4 := hid hb4; clear hb4))
        all_goals
          have HB4 : Hid (Below w3.heap.size w3 w4) := (show Below w3.heap.size w3 w3.drew from ⟨rfl, rfl, rfl, Nat.le_refl _, fun _ _ => rfl⟩).trans HB4.out
          have HX5 := hid ((HX3.out.below HB4.out).set (l1 ++ Lib.itoa m))
          have hg5 := set_grown w4 (w.heap.size + 1) (.string ⟨(l1 ++ Lib.itoa m).toArray⟩)
          have HB5 := hid ((bel_next HB3.out HB3.out.size HB4.out).trans (bel_grown hg5 (Nat.le_succ _) (Nat.le_trans HB3.out.size HB4.out.size)))
          clear hg5 hc4 hf4 HB4 hc3 hf3 hl3 HX3 HM3 HB3 hc3d HD HT3
          generalize w4.setCell ⟨w.heap.size + 1, 0, none⟩ (.string ⟨(l1 ++ Lib.itoa m).toArray⟩) = w5 at *
          have hc5 := HX5.out.cell
          go_wp2
          go_ret
          rw [HF.out]
          exact ⟨rfl, HB5.out⟩
end Go.Proofs.YtcmopmapdomneaaDoor
end

section
namespace Go.Proofs.YtcmopmapdomneaaDoor
open Go.RowKit
abbrev Sq := List Term × Term
abbrev cSequent : Codec Sq := cPair cTerms cTerm
abbrev nSequent : Norm cSequent := nPair nTerms nTerm
instance dec_Sq : DecidableEq Sq := inferInstance
theorem Sq_list {S : Nat → Prop} {w : World} {cs : List Value} {d : Sq} (h : cSequent.rd S w cs d) : ∃ a0 p0 a2 p2, cs = [.slice a0 d.1.length p0, .int .i64 d.2.1, .slice a2 d.2.2.length p2] ∧ SlRd cTerm S w a0 p0 d.1 ∧ SlRd cInt S w a2 p2 d.2.2 ∧ I64 d.2.1 := by
  obtain ⟨_, _, rfl, ⟨a0, p0, rfl, r0⟩, ⟨_, _, rfl, ⟨rfl, r1⟩, ⟨a2, p2, rfl, r2⟩⟩⟩ := h
  exact ⟨a0, p0, a2, p2, rfl, r0, r2, r1⟩
theorem Sq_arr {S : Nat → Prop} {w : World} {cs : Array Value} {d : Sq} (h : cSequent.rd S w cs.toList d) : ∃ a0 p0 a2 p2, cs = #[.slice a0 d.1.length p0, .int .i64 d.2.1, .slice a2 d.2.2.length p2] ∧ SlRd cTerm S w a0 p0 d.1 ∧ SlRd cInt S w a2 p2 d.2.2 ∧ I64 d.2.1 := by
  obtain ⟨a0, p0, a2, p2, he, hr⟩ := Sq_list h
  exact ⟨a0, p0, a2, p2, by rw [← Array.toList_inj, he], hr⟩
def RetSequent (x : Sq) (w : World) (e : Ending) (w' : World) : Prop :=
  ∃ a0 p0 a2 p2, e = .returned (.agg #[.slice a0 x.1.length p0, .int .i64 x.2.1, .slice a2 x.2.2.length p2]) ∧ SlRd cTerm (Fresh w.heap.size w') w' a0 p0 x.1 ∧ SlRd cInt (Fresh w.heap.size w') w' a2 p2 x.2.2 ∧ Below w.heap.size w w'
end Go.Proofs.YtcmopmapdomneaaDoor
end

section
namespace Go.Proofs.YtcmopmapdomneaaDoor
open Go.RowKit

def dotK (zs vs : List Int) : Nat → Int
  | 0 => 0
  | k + 1 => dotK zs vs k + zs.getD k 0 * vs.getD k 0
def evalT (t : Term) (vs : List Int) : Int := t.1 + dotK t.2 vs t.2.length
def Mid (z : Int) : Prop := -1000000 ≤ z ∧ z ≤ 1000000
def Big (z : Int) : Prop := -1000000000 ≤ z ∧ z ≤ 1000000000
theorem mul_bd {z v : Int} (hz : Mid z) (hv : Big v) : -1000000000000000 ≤ z * v ∧ z * v ≤ 1000000000000000 := by
  obtain ⟨a, b⟩ := hz
  obtain ⟨c, d⟩ := hv
  have h : (z * v).natAbs ≤ 1000000 * 1000000000 := by rw [Int.natAbs_mul]; exact Nat.mul_le_mul (by omega) (by omega)
  omega
theorem dotK_bd {zs vs : List Int} (hz : ∀ z ∈ zs, Mid z) (hv : ∀ v ∈ vs, Big v) : ∀ k : Nat, -(1000000000000000 * (k : Int)) ≤ dotK zs vs k ∧ dotK zs vs k ≤ 1000000000000000 * (k : Int) := by
  intro k
  induction k with
  | zero => simp [dotK]
  | succ k ih =>
    have h1 : Mid (zs.getD k 0) := by
      rw [List.getD_eq_getElem?_getD]
      cases h : zs[k]? with
      | none => simp [Mid]
      | some z => exact hz z (List.mem_of_getElem? h)
    have h2 : Big (vs.getD k 0) := by
      rw [List.getD_eq_getElem?_getD]
      cases h : vs[k]? with
      | none => simp [Big]
      | some z => exact hv z (List.mem_of_getElem? h)
    have := mul_bd h1 h2
    simp only [dotK]
    omega
theorem dotK_succ {zs vs : List Int} {k : Nat} {z v : Int} (h1 : zs[k]? = some z) (h2 : vs[k]? = some v) : dotK zs vs (k + 1) = dotK zs vs k + z * v := by
  simp only [dotK, List.getD_eq_getElem?_getD, h1, h2, Option.getD_some]
theorem mid_of {zs : List Int} (h : allIn zs (-1000000) 1000000 = true) : ∀ z ∈ zs, Mid z := fun z hz => inB_iff.1 (List.all_eq_true.1 h z hz)
theorem big_of {zs : List Int} (h : allIn zs (-1000000000) 1000000000 = true) : ∀ z ∈ zs, Big z := fun z hz => inB_iff.1 (List.all_eq_true.1 h z hz)
theorem validTerm_iff {t : Term} (h : validTerm t = true) : t.2.length ≤ 10 ∧ Mid t.1 ∧ (∀ z ∈ t.2, Mid z) ∧ lastOk t.2 = true := by
  simp only [validTerm, Bool.and_eq_true, decide_eq_true_eq] at h
  exact ⟨h.1.1.1, inB_iff.1 h.1.1.2, mid_of h.1.2, h.2⟩
def valuesOk (vs : List Int) : Bool := decide (vs.length = 10) && allIn vs (-1000000000) 1000000000
def evalF (t : Term) (vs : List Int) : Int × Bool := if validTerm t && valuesOk vs then (evalT t vs, true) else (0, false)

end Go.Proofs.YtcmopmapdomneaaDoor
end

section
namespace Go.Proofs.YtcmopmapdomneaaDoor
open Go.RowKit

def overT (t : Term) : Bool := validTerm t && decide (t.2.length ≤ 4)
def areOverF (ts : List Term) (most : Int) : Bool := decide ((ts.length : Int) ≤ most) && ts.all overT
def holdsF (ts : List Term) (vs : List Int) : Bool := ts.all fun t => decide (0 ≤ evalT t vs)
def holdsInF (ts : List Term) (s : St) : Bool × Bool := if areOverF ts 14 && validState s then (holdsF ts s.1, true) else (false, false)
theorem areOverF_iff {ts : List Term} {most : Int} (h : areOverF ts most = true) : ∀ t ∈ ts, validTerm t = true ∧ t.2.length ≤ 4 := by
  simp only [areOverF, Bool.and_eq_true, List.all_eq_true] at h
  intro t ht
  have := h.2 t ht
  simpa [overT] using this
theorem validState_iff {s : St} (h : validState s = true) : s.1.length = 4 ∧ s.2.length = 8 ∧ (∀ v ∈ s.1, Big v) ∧ (∀ v ∈ s.2, Big v) := by
  simp only [validState, numsOk, Bool.and_eq_true, decide_eq_true_eq] at h
  exact ⟨h.1.1, h.2.1, big_of h.1.2, big_of h.2.2⟩
theorem c_isOver {S : Nat → Prop} (c : Int) (a : Option Addr) (cap : Nat) (zs : List Int) (w : World) (h : SlRd cInt S w a cap zs) :
    Calls Tryd.prog 82 #[.agg #[.int .i64 c, .slice a zs.length cap]] w fun e w' => e = .returned (.bool (overT (c, zs))) ∧ Below w.heap.size w w' := by
  have H := hid (h.alloc (.cells #[.int .i64 c, .slice a zs.length cap] 89))
  have hl := h.len_le
  clear h
  obtain ⟨r, hr⟩ : ∃ r, validTerm (c, zs) = r := ⟨_, rfl⟩
  have HR := hid hr
  clear hr
  cases r
  all_goals
    go_enter Tryd.func82, Tryd.ntmps82
    go_wp2_with (go_at_call 107; refine (c_ValidTerm _ _ _ _ _ H.out).mono ?_; rintro e w1 ⟨rfl, hb1⟩; rw [HR.out]; have t1 := cell_below hb1 (b := w.heap.size) (o := 1) (v := .slice a zs.length cap) (by simp) (by simp [go_sem]))
    go_ret
    exact ⟨ret_bool (by unfold overT; rw [HR.out, Bool.eq_iff_iff]; simp <;> omega), bel_box (Below.refl _ _) (Nat.le_refl _) hb1⟩
theorem c_areOver1 {S : Nat → Prop} (c : Int) (a : Option Addr) (cap : Nat) (zs : List Int) (w : World) (h : SlRd cInt S w a cap zs) :
    Calls Tryd.prog 81 #[.agg #[.int .i64 c, .slice a zs.length cap]] w fun e w' => e = .returned (.bool (!overT (c, zs))) ∧ Below w.heap.size w w' := by
  have H := hid (h.alloc (.cells #[.int .i64 c, .slice a zs.length cap] 89))
  clear h
  obtain ⟨r, hr⟩ : ∃ r, overT (c, zs) = r := ⟨_, rfl⟩
  have HR := hid hr
  clear hr
  go_enter Tryd.func81, Tryd.ntmps81
  go_wp2_with (go_at_call 82; refine (c_isOver _ _ _ _ _ H.out).mono ?_; rintro e w1 ⟨rfl, hb1⟩; rw [HR.out])
  go_ret
  exact ⟨ret_bool (by rw [HR.out]), bel_box (Below.refl _ _) (Nat.le_refl _) hb1⟩
theorem c_idxNotOver {S : Nat → Prop} (a : Option Addr) (cap : Nat) (xs : List Term) (w : World) (h : SlRd cTerm S w a cap xs) :
    Calls Tryd.prog 106 #[.slice a xs.length cap, .func (.func 81) #[] #[]] w (RetIdx (fun x => !overT x) xs w) := by
  have hl := h.len_le
  have H := hid h
  clear h
  go_enter Tryd.func106, Tryd.ntmps106
  go_wp2
  go_loopw [8] (fun i wr => ∃ k : Nat, k ≤ xs.length ∧ i = .int .i64 k ∧ Hid ((xs.take k).all (fun x => !!overT x) = true) ∧ Below w.heap.size w wr) (fun i _ => xs.length - (intOf i).toNat)
  case atStart => exact ⟨0, Nat.zero_le _, rfl, rfl, Below.refl _ _⟩
  case round =>
    obtain ⟨k, hk, rfl, HA, hbe⟩ := hrel
    have hsz := hbe.size
    by_cases hlt : k < xs.length
    · obtain ⟨b, off, rfl⟩ := H.out.some_of hlt
      obtain ⟨c, zs, a', cap', hz, hc1, hsl, hc, hc', hb⟩ := (H.out.below (Nat.le_refl _) hbe).term_at k hlt
      have HZ := hid hz
      have HS := hid hsl
      clear hz hsl
      obtain ⟨r, hr⟩ : ∃ r, overT (c, zs) = r := ⟨_, rfl⟩
      have HR := hid hr
      clear hr
      cases r
      · go_wp2_with (go_at_call 81; refine (c_areOver1 _ _ _ _ _ HS.out).mono ?_; rintro e w1 ⟨rfl, hb1⟩; rw [HR.out])
        go_ret
        exact ⟨k, rfl, .inr ⟨k, _, rfl, HZ.out, by simp [HR.out], HA.out⟩, bel_next hbe hsz hb1⟩
      · go_wp2_with (go_at_call 81; refine (c_areOver1 _ _ _ _ _ HS.out).mono ?_; rintro e w1 ⟨rfl, hb1⟩; rw [HR.out])
        go_roundw
        case rel => exact ⟨k + 1, by omega, by go_num, (all_take HA.out HZ.out).trans (by simp [HR.out]), bel_next hbe hsz hb1⟩
        case measure => simp [intOf]; omega
    · have HE := hid (all_end HA.out (Nat.le_of_not_lt hlt))
      go_wp2
      go_ret
      exact ⟨-1, rfl, .inl ⟨rfl, HE.out⟩, hbe⟩
theorem c_areOver {S : Nat → Prop} (a : Option Addr) (cap : Nat) (ts : List Term) (most : Int) (w : World) (h : SlRd cTerm S w a cap ts) :
    Calls Tryd.prog 47 #[.slice a ts.length cap, .int .i64 most] w fun e w' => e = .returned (.bool (areOverF ts most)) ∧ Below w.heap.size w w' := by
  have H := hid h
  have hl := h.len_le
  clear h
  by_cases h1 : (ts.length : Int) ≤ most
  · have HF : Hid (areOverF ts most = ts.all overT) := by unfold Hid; simp [areOverF, h1]
    go_enter Tryd.func47, Tryd.ntmps47
    go_wp2_with (first | (go_at_call 106; refine (c_idxNotOver _ _ _ _ H.out).mono ?_; rintro e w1 ⟨r, rfl, hok, hb1⟩; have hd := hok.all; have HD := hid hd; clear hd hok) | go_in)
    go_ret
    exact ⟨ret_bool (by rw [HF.out, HD.out]; simp), hb1⟩
  · have HF : Hid (areOverF ts most = false) := by unfold Hid; simp [areOverF]; omega
    go_enter Tryd.func47, Tryd.ntmps47
    go_wp2
    go_ret
    exact ⟨ret_bool HF.out.symm, Below.refl _ _⟩
theorem c_l03Term {S : Nat → Prop} (b off : Nat) (c : Int) (a : Option Addr) (cap : Nat) (zs : List Int) (w : World) (hc : w.cell? ⟨b, off, none⟩ = some (.int .i64 c)) (hc' : w.cell? ⟨b, off + 1, none⟩ = some (.slice a zs.length cap)) (h : SlRd cInt S w a cap zs) :
    Calls Tryd.prog 93 #[.pointer (some ⟨b, off, none⟩)] w fun e w' => e = .returned (.bool (overT (c, zs))) ∧ w = w' := by
  have hl := h.len_le
  have HC := hid (c_l02Is _ _ _ _ _ _ _ hc hc' h)
  clear h
  obtain ⟨r, hr⟩ : ∃ r, validTerm (c, zs) = r := ⟨_, rfl⟩
  have HR := hid hr
  clear hr
  cases r
  all_goals
    go_enter Tryd.func93, Tryd.ntmps93
    go_wp2_with (go_at_call 69; refine HC.out.mono ?_; rintro e w' ⟨rfl, rfl⟩; rw [HR.out])
    go_ret
    exact ⟨ret_bool (by unfold overT; rw [HR.out, Bool.eq_iff_iff]; simp <;> omega), rfl⟩
theorem c_l03Terms {S : Nat → Prop} (a : Option Addr) (cap : Nat) (ts : List Term) (most : Int) (w : World) (h : SlRd cTerm S w a cap ts) :
    Calls Tryd.prog 58 #[.slice a ts.length cap, .int .i64 most] w fun e w' => e = .returned (.bool (areOverF ts most)) ∧ w = w' := by
  have hl := h.len_le
  have H := hid h
  clear h
  go_enter Tryd.func58, Tryd.ntmps58
  go_wp2
  go_loop [5] (fun i => ∃ k : Nat, k ≤ ts.length ∧ i = .int .i64 k ∧ Hid ((ts.take k).all overT = true)) (fun i => ts.length - (intOf i).toNat)
  case atStart => exact ⟨0, Nat.zero_le _, rfl, rfl⟩
  case round =>
    obtain ⟨k, hk, rfl, HA⟩ := hrel
    by_cases hlt : k < ts.length
    · obtain ⟨b, off, rfl⟩ := H.out.some_of hlt
      obtain ⟨c, zs, a', cap', hz, hc1, hsl, hc, hc', hb⟩ := H.out.term_at k hlt
      have HZ := hid hz
      clear hz
      by_cases hin : overT (c, zs) = true
      · go_wp2_with (go_at_call 93; refine (c_l03Term _ _ _ _ _ _ _ hc hc' hsl).mono ?_; rintro e w' ⟨rfl, rfl⟩)
        go_round
        case rel => exact ⟨k + 1, by omega, by go_num, (all_take HA.out HZ.out).trans hin⟩
        case measure => simp [intOf]; omega
      · have hin' : overT (c, zs) = false := by simpa using hin
        go_wp2_with (go_at_call 93; refine (c_l03Term _ _ _ _ _ _ _ hc hc' hsl).mono ?_; rintro e w' ⟨rfl, rfl⟩)
        go_ret
        exact ⟨ret_bool (by simp [areOverF, all_false HZ.out hin']), rfl⟩
    · go_wp2
      go_ret
      exact ⟨ret_bool (by simp [areOverF, all_end HA.out (by omega)]), rfl⟩
end Go.Proofs.YtcmopmapdomneaaDoor
end

section
namespace Go.Proofs.YtcmopmapdomneaaDoor
open Go.RowKit

def validSq (s : Sq) : Bool := areTerms s.1 13 && validTerm s.2
def counterB (s : Sq) (vs : List Int) : Bool := holdsF s.1 vs && decide (evalT s.2 vs < 0)
def counterF (s : Sq) (vs : List Int) : Bool := (validSq s && valuesOk vs) && counterB s vs
theorem validSq_iff {s : Sq} (h : validSq s = true) : s.1.length ≤ 13 ∧ (∀ t ∈ s.1, validTerm t = true ∧ t.2.length ≤ 10) ∧ validTerm s.2 = true ∧ s.2.2.length ≤ 10 := by
  simp only [validSq, areTerms, Bool.and_eq_true, decide_eq_true_eq, List.all_eq_true] at h
  obtain ⟨⟨h1, h2⟩, h3⟩ := h
  exact ⟨by omega, fun t ht => ⟨h2 t ht, (validTerm_iff (h2 t ht)).1⟩, h3, (validTerm_iff h3).1⟩
theorem valuesOk_iff {vs : List Int} (h : valuesOk vs = true) : vs.length = 10 ∧ ∀ v ∈ vs, Big v := by
  simp only [valuesOk, Bool.and_eq_true, decide_eq_true_eq] at h
  exact ⟨h.1, big_of h.2⟩
end Go.Proofs.YtcmopmapdomneaaDoor
end

section
namespace Go.Proofs.YtcmopmapdomneaaDoor
open Go.RowKit

theorem textF_len {t : Term} (h : validTerm t = true) : (textF t).length ≤ 253 := by
  obtain ⟨h1, h2, h3⟩ := validTerm_small h
  have := partT_len h2 h3 (t.2.length + 1)
  unfold textF
  split
  · simp
  · omega
def semiF (ts : List Term) : List UInt8 := (ts.map fun t => textF t ++ [59]).flatten
def seqF (s : Sq) : List UInt8 := (semiF s.1 ++ [61, 62]) ++ textF s.2
def seqTextF (s : Sq) : List UInt8 × Bool := if validSq s then (seqF s, true) else ([], false)
theorem semiF_take {ts : List Term} {k : Nat} {t : Term} (h : ts[k]? = some t) : semiF (ts.take (k + 1)) = semiF (ts.take k) ++ (textF t ++ [59]) := by
  have hk := (List.getElem?_eq_some_iff.1 h).1
  rw [List.take_succ_eq_append_getElem hk]
  rw [List.getElem?_eq_getElem hk] at h
  rw [Option.some.inj h]; simp [semiF]
end Go.Proofs.YtcmopmapdomneaaDoor
end

section
namespace Go.Proofs.YtcmopmapdomneaaDoor
open Go.RowKit

theorem slTx : SlT Tryd.prog 96 9 (.string ByteArray.empty) 1 16 := ⟨Tryd.underlying96, by kernel_rfl, rfl, by decide, by decide⟩
def factT (wd : List UInt8) (ts : List Term) : List (List UInt8) := ts.map fun t => (wd ++ [32]) ++ textF t
theorem factT_take {wd : List UInt8} {ts : List Term} {k : Nat} {t : Term} (h : ts[k]? = some t) : factT wd (ts.take (k + 1)) = factT wd (ts.take k) ++ [(wd ++ [32]) ++ textF t] := by
  unfold factT; rw [List.take_add_one, h, List.map_append]; rfl
theorem over_len {ts : List Term} (h : areOverF ts 6 = true) : ts.length ≤ 6 := by
  simp only [areOverF, Bool.and_eq_true, decide_eq_true_eq] at h; omega
theorem factT_line {wd : List UInt8} {ts : List Term} (hw : wd.length ≤ 8) (h : areOverF ts 6 = true) : ∀ l ∈ factT wd ts, l.length ≤ 262 := by
  intro l hl
  obtain ⟨t, ht, rfl⟩ := List.mem_map.1 hl
  have := textF_len (areOverF_iff h t ht).1
  simp; omega
theorem nlF_le_len {zs : List (List UInt8)} {m n : Nat} (h : ∀ z ∈ zs, z.length ≤ m) (hn : zs.length ≤ n) : (nlF zs).length ≤ n * (m + 1) := by
  have h1 := nlF_len h
  have h2 : zs.length * (m + 1) ≤ n * (m + 1) := Nat.mul_le_mul_right _ hn
  omega
theorem factT_bounds2 {wd : List UInt8} {ts : List Term} (hw : wd.length ≤ 8) (h : areOverF ts 6 = true) : (nlF (factT wd ts)).length ≤ 1578 := by
  have h1 := over_len h
  have h2 := nlF_len (factT_line hw h)
  rw [show (factT wd ts).length = ts.length from List.length_map _] at h2
  have : ts.length * (262 + 1) ≤ 6 * (262 + 1) := Nat.mul_le_mul_right _ h1
  omega
theorem factT_nil (wd : List UInt8) : factT wd [] = [] := rfl
theorem factT_len (wd : List UInt8) (ts : List Term) : (factT wd ts).length = ts.length := List.length_map _
end Go.Proofs.YtcmopmapdomneaaDoor
end
