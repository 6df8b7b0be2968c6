/- Contracts: the code of a term. -/
import Derived.Test.YtmpanchappoejaaL03o
import Derived.Test.YtmpanchappoejaaApp2
namespace Go.Proofs.Ytmpanchappoejaa
open Go.RowKit

def compStep (zs : List Int) (k : Nat) : List Instr := match zs[k]? with
  | some z => if z = 0 then [] else if z = 1 then [(1, (k : Int)), (3, 0)] else [(1, (k : Int)), (4, z), (3, 0)]
  | none => []
def compK (t : Term) : Nat → List Instr
  | 0 => [(0, t.1)]
  | k + 1 => compK t k ++ compStep t.2 k
def compL (t : Term) : List Instr := compK t t.2.length
def compF (t : Term) : List Instr × Bool := if overT t then (compL t, true) else ([], false)
theorem compK_len (t : Term) (k : Nat) : (compK t k).length ≤ 1 + 3 * k := by
  induction k with
  | zero => simp [compK]
  | succ k ih =>
    simp only [compK, List.length_append]
    have : (compStep t.2 k).length ≤ 3 := by
      unfold compStep
      split
      · split
        · simp
        · split <;> simp
      · simp
    omega
theorem compF_len (t : Term) : (compF t).1.length ≤ 1048576 := by
  unfold compF
  split
  · rename_i h
    have h1 := compK_len t t.2.length
    simp only [overT, Bool.and_eq_true, decide_eq_true_eq] at h
    simp only [compL]; omega
  · simp
theorem i64_mid {c : Int} (h : Mid c) : I64 c := ⟨by have := h.1; omega, by have := h.2; omega⟩
theorem step_none {zs : List Int} {k : Nat} (h : zs[k]? = some 0) : compStep zs k = [] := by simp [compStep, h]
theorem step_one {zs : List Int} {k : Nat} (h : zs[k]? = some 1) : compStep zs k = [(1, (k : Int)), (3, 0)] := by simp [compStep, h]
theorem step_many {zs : List Int} {k : Nat} {z : Int} (h : zs[k]? = some z) (h0 : z ≠ 0) (h1 : z ≠ 1) : compStep zs k = [(1, (k : Int)), (4, z), (3, 0)] := by simp [compStep, h, h0, h1]
theorem compK_succ (t : Term) (k : Nat) : compK t (k + 1) = compK t k ++ compStep t.2 k := rfl
theorem I64.nat {k : Nat} (h : k ≤ 9223372036854775807) : I64 (k : Int) := ⟨by omega, by omega⟩
set_option maxRecDepth 100000 in
theorem c_compileTerm {S : Nat → Prop} (c : Int) (a : Option Addr) (p : Nat) (zs : List Int) (w : World) (h : SlRd cInt S w a p zs) (hc : I64 c) (hl : zs.length ≤ 10) :
    Calls Try.prog 87 #[.agg #[.int .i64 c, .slice a zs.length p]] w (RetSl cInstr (compL (c, zs)) w) := by
  have HB0 : Hid (Below w.heap.size w (w.alloc (.cells #[.int .i64 c, .slice a zs.length p] 43))) := (Below.refl _ _).alloc (Nat.le_refl _) _
  have HW := hid h
  have H := hid (h.alloc (.cells #[.int .i64 c, .slice a zs.length p] 43))
  clear h
  go_enter Try.func87, Try.ntmps87
  go_wp2
  go_loopw [3, 13] (fun v i wr => ∃ k : Nat, k ≤ zs.length ∧ i = .int .i64 k ∧ Hid (OwnSl cInstr (fun _ => False) wr w.heap.size 118 v (compK (c, zs) k)) ∧ Below w.heap.size w wr) (fun _ i _ => zs.length - (intOf i).toNat)
  case atStart => exact ⟨0, Nat.zero_le _, rfl, (by unfold Hid; simpa [compK] using own_lit1 cInstr (fun _ => False) (w.alloc (.cells #[.int .i64 c, .slice a zs.length p] 43)) w.heap.size 118 HB0.out.size (0, c) (rd_instr i64_0 hc)), HB0.out.alloc HB0.out.size _⟩
  case round =>
    obtain ⟨k, hk, rfl, HO, hbe⟩ := hrel
    have hlen := compK_len (c, zs) k
    have hsz := hbe.size
    by_cases hlt : k < zs.length
    · obtain ⟨b, off, rfl⟩ := H.out.some_of hlt
      obtain ⟨z, hz, hz2, hcz, hb⟩ := (HW.out.below (Nat.le_refl _) hbe).int_at k hlt
      by_cases h0 : z = 0
      · subst h0
        have HS : Hid (compK (c, zs) (k + 1) = compK (c, zs) k) := by unfold Hid; rw [compK_succ, step_none hz]; simp
        clear hz
        go_wp2
        go_roundw
        case rel => exact ⟨k + 1, by omega, by go_num, by rw [HS.out]; exact HO, hbe⟩
        case measure => simp [intOf]; omega
      · have h0' : (z == 0) = false := by simp [h0]
        by_cases h1 : z = 1
        · subst h1
          have HS : Hid (compK (c, zs) (k + 1) = compK (c, zs) k ++ [(1, (k : Int)), (3, 0)]) := by unfold Hid; rw [compK_succ, step_one hz]
          clear hz h0
          go_wp2_with (first | (at_builtin; refine app_own (C := cInstr) rfl (.tmp 20) (.tmp 23) _ rfl slInstr rfl rfl HO.out no_blk (1, (k : Int)) (rd_instr ⟨by omega, by omega⟩ ⟨by omega, by omega⟩) (by omega) hsz ?_; intro v3 w3 hO3 hb3; have HO3 := hid hO3; have HB3 := hid (hbe.trans hb3); clear hO3 hb3) | (at_builtin; refine app_own (C := cInstr) rfl (.tmp 32) (.tmp 34) _ rfl slInstr rfl rfl HO3.out no_blk (3, 0) (rd_instr ⟨by omega, by omega⟩ ⟨by omega, by omega⟩) (by simp; omega) HB3.out.size ?_; intro v4 w4 hO4 hb4; have HO4 := hid hO4; have HB4 := hid (HB3.out.trans hb4); clear hO4 hb4))
          go_roundw
          case rel => exact ⟨k + 1, by omega, by go_num, by rw [HS.out]; simpa [Hid] using HO4.out, HB4.out⟩
          case measure => simp [intOf]; omega
        · have h1' : (z != 1) = true := by simp [h1]
          have HS : Hid (compK (c, zs) (k + 1) = compK (c, zs) k ++ [(1, (k : Int)), (4, z), (3, 0)]) := by unfold Hid; rw [compK_succ, step_many hz h0 h1]
          clear hz h0 h1
          go_wp2_with (first | (at_builtin; refine app_own (C := cInstr) rfl (.tmp 20) (.tmp 23) _ rfl slInstr rfl rfl HO.out no_blk (1, (k : Int)) (rd_instr ⟨by omega, by omega⟩ ⟨by omega, by omega⟩) (by omega) hsz ?_; intro v3 w3 hO3 hb3; have HO3 := hid hO3; have HB3 := hid (hbe.trans hb3); clear hO3 hb3) | (at_builtin; refine app_own (C := cInstr) rfl (.tmp 27) (.tmp 30) _ rfl slInstr rfl rfl HO3.out no_blk (4, z) (rd_instr ⟨by omega, by omega⟩ hz2) (by simp; omega) HB3.out.size ?_; intro v4 w4 hO4 hb4; have HO4 := hid hO4; have HB4 := hid (HB3.out.trans hb4); clear hO4 hb4) | (at_builtin; refine app_own (C := cInstr) rfl (.tmp 32) (.tmp 34) _ rfl slInstr rfl rfl HO4.out no_blk (3, 0) (rd_instr ⟨by omega, by omega⟩ ⟨by omega, by omega⟩) (by simp; omega) HB4.out.size ?_; intro v5 w5 hO5 hb5; have HO5 := hid hO5; have HB5 := hid (HB4.out.trans hb5); clear hO5 hb5))
          go_roundw
          case rel => exact ⟨k + 1, by omega, by go_num, by rw [HS.out]; simpa [Hid] using HO5.out, HB5.out⟩
          case measure => simp [intOf]; omega
    · have hkz : k = zs.length := by omega
      subst hkz
      go_wp2
      go_ret
      exact retSl_own HO.out (fun _ h => h.elim) hbe
set_option maxRecDepth 100000 in
theorem c_l09Term {S : Nat → Prop} (b0 o0 : Nat) (c : Int) (a : Option Addr) (p : Nat) (zs : List Int) (w : World) (ht0 : w.cell? ⟨b0, o0, none⟩ = some (.int .i64 c)) (ht1 : w.cell? ⟨b0, o0 + 1, none⟩ = some (.slice a zs.length p)) (hb0 : b0 < w.heap.size) (h : SlRd cInt S w a p zs) (hc : I64 c) (hl : zs.length ≤ 10) :
    Calls Try.prog 85 #[.pointer (some ⟨b0, o0, none⟩)] w (RetSl cInstr (compL (c, zs)) w) := by
  have HW := hid h
  have H := hid h
  clear h
  go_enter Try.func85, Try.ntmps85
  go_wp2
  go_loopw [3, 4] (fun v i wr => ∃ k : Nat, k ≤ zs.length ∧ i = .int .i64 k ∧ Hid (OwnSl cInstr (fun _ => False) wr w.heap.size 118 v (compK (c, zs) k)) ∧ Below w.heap.size w wr) (fun _ i _ => zs.length - (intOf i).toNat)
  case atStart => exact ⟨0, Nat.zero_le _, rfl, own_lit1 cInstr _ _ _ _ (Nat.le_refl _) (0, c) (rd_instr i64_0 hc), (Below.refl _ _).alloc (Nat.le_refl _) _⟩
  case round =>
    obtain ⟨k, hk, rfl, HO, hbe⟩ := hrel
    have hlen := compK_len (c, zs) k
    have ht1 := cell_below hbe hb0 ht1
    have hsz := hbe.size
    by_cases hlt : k < zs.length
    · obtain ⟨b, off, rfl⟩ := H.out.some_of hlt
      obtain ⟨z, hz, hz2, hcz, hb⟩ := (HW.out.below (Nat.le_refl _) hbe).int_at k hlt
      by_cases h0 : z = 0
      · subst h0
        have HS : Hid (compK (c, zs) (k + 1) = compK (c, zs) k) := by unfold Hid; rw [compK_succ, step_none hz]; simp
        clear hz
        go_wp2
        go_roundw
        case rel => exact ⟨k + 1, by omega, by go_num, by rw [HS.out]; exact HO, hbe⟩
        case measure => simp [intOf]; omega
      · have h0' : (z == 0) = false := by simp [h0]
        by_cases h1 : z = 1
        · subst h1
          have HS : Hid (compK (c, zs) (k + 1) = compK (c, zs) k ++ [(1, (k : Int)), (3, 0)]) := by unfold Hid; rw [compK_succ, step_one hz]
          clear hz h0
          go_wp2_with (first | (at_builtin; refine app_own (C := cInstr) rfl (.tmp 30) (.tmp 33) _ rfl slInstr rfl rfl HO.out no_blk (1, (k : Int)) (rd_instr ⟨by omega, by omega⟩ ⟨by omega, by omega⟩) (by omega) hsz ?_; intro v3 w3 hO3 hb3; have HO3 := hid hO3; have HB3 := hid (hbe.trans hb3); clear hO3 hb3) | (at_builtin; refine app_own (C := cInstr) rfl (.tmp 42) (.tmp 44) _ rfl slInstr rfl rfl HO3.out no_blk (3, 0) (rd_instr ⟨by omega, by omega⟩ ⟨by omega, by omega⟩) (by simp; omega) HB3.out.size ?_; intro v4 w4 hO4 hb4; have HO4 := hid hO4; have HB4 := hid (HB3.out.trans hb4); clear hO4 hb4))
          go_roundw
          case rel => exact ⟨k + 1, by omega, by go_num, by rw [HS.out]; simpa [Hid] using HO4.out, HB4.out⟩
          case measure => simp [intOf]; omega
        · have h1' : (z != 1) = true := by simp [h1]
          have HS : Hid (compK (c, zs) (k + 1) = compK (c, zs) k ++ [(1, (k : Int)), (4, z), (3, 0)]) := by unfold Hid; rw [compK_succ, step_many hz h0 h1]
          clear hz h0 h1
          go_wp2_with (first | (at_builtin; refine app_own (C := cInstr) rfl (.tmp 30) (.tmp 33) _ rfl slInstr rfl rfl HO.out no_blk (1, (k : Int)) (rd_instr ⟨by omega, by omega⟩ ⟨by omega, by omega⟩) (by omega) hsz ?_; intro v3 w3 hO3 hb3; have HO3 := hid hO3; have HB3 := hid (hbe.trans hb3); clear hO3 hb3) | (at_builtin; refine app_own (C := cInstr) rfl (.tmp 37) (.tmp 40) _ rfl slInstr rfl rfl HO3.out no_blk (4, z) (rd_instr ⟨by omega, by omega⟩ hz2) (by simp; omega) HB3.out.size ?_; intro v4 w4 hO4 hb4; have HO4 := hid hO4; have HB4 := hid (HB3.out.trans hb4); clear hO4 hb4) | (at_builtin; refine app_own (C := cInstr) rfl (.tmp 42) (.tmp 44) _ rfl slInstr rfl rfl HO4.out no_blk (3, 0) (rd_instr ⟨by omega, by omega⟩ ⟨by omega, by omega⟩) (by simp; omega) HB4.out.size ?_; intro v5 w5 hO5 hb5; have HO5 := hid hO5; have HB5 := hid (HB4.out.trans hb5); clear hO5 hb5))
          go_roundw
          case rel => exact ⟨k + 1, by omega, by go_num, by rw [HS.out]; simpa [Hid] using HO5.out, HB5.out⟩
          case measure => simp [intOf]; omega
    · have hkz : k = zs.length := by omega
      subst hkz
      go_wp2
      go_ret
      exact retSl_own HO.out (fun _ h => h.elim) hbe
theorem c_CompileTerm {S : Nat → Prop} {c : Int} {a : Option Addr} {p : Nat} {zs : List Int} {w : World} (h : SlRd cInt S w a p zs) :
    Calls Try.prog 39 #[.agg #[.int .i64 c, .slice a zs.length p]] w (RetSlB cInstr (compF (c, zs)).1 (compF (c, zs)).2 w) := by
  have HB0 : Hid (Below w.heap.size w (w.alloc (.cells #[.int .i64 c, .slice a zs.length p] 43))) := (Below.refl _ _).alloc (Nat.le_refl _) _
  have H := hid (h.alloc (.cells #[.int .i64 c, .slice a zs.length p] 43))
  clear h
  obtain ⟨r, hr⟩ : ∃ r, overT (c, zs) = r := ⟨_, rfl⟩
  have HR := hid hr
  cases r
  · have HF : Hid (compF (c, zs) = ([], false)) := by unfold Hid compF; rw [hr]; rfl
    clear hr
    go_enter Try.func39, Try.ntmps39
    go_wp2_with (go_at_call 86; refine (c_isOver _ _ _ _ _ H.out).mono ?_; rintro e w1 ⟨rfl, hb1⟩; rw [HR.out])
    go_ret2
    rw [HF.out]
    exact ⟨none, 0, rfl, nil_rd _ _ _, bel_next HB0.out HB0.out.size hb1⟩
  · have HF : Hid (compF (c, zs) = (compL (c, zs), true)) := by unfold Hid compF; rw [hr]; rfl
    simp only [overT, Bool.and_eq_true, decide_eq_true_eq] at hr
    obtain ⟨_, hcm, _, _⟩ := validTerm_iff hr.1
    have hci := i64_mid hcm
    have hl : zs.length ≤ 10 := by have := hr.2; omega
    clear hr hcm
    go_enter Try.func39, Try.ntmps39
    go_wp2_with fail
    refine (c_isOver _ _ _ _ _ H.out).mono ?_
    rintro e w1 ⟨rfl, hb1⟩
    rw [HR.out]
    have t0 := cell_below hb1 (b := w.heap.size) (o := 0) (v := .int .i64 c) (by simp) (by simp [go_sem])
    have t1 := cell_below hb1 (b := w.heap.size) (o := 1) (v := .slice a zs.length p) (by simp) (by simp [go_sem])
    have HB1 := hid (bel_next HB0.out HB0.out.size hb1)
    have H1 := hid (H.out.below (Nat.le_refl _) hb1)
    clear hb1
    go_wp2_with (go_at_call 87; refine (c_compileTerm _ _ _ _ _ H1.out hci hl).mono ?_; rintro e w2 ⟨a1, p1, rfl, hs1, hb2⟩; have HS := hid hs1; clear hs1)
    go_ret2
    rw [HF.out]
    exact ⟨a1, p1, rfl, HS.out.lower HB1.out.size, bel_next HB1.out HB1.out.size hb2⟩
theorem c_sCompileTerm {S : Nat → Prop} {c : Int} {a : Option Addr} {p : Nat} {zs : List Int} {w : World} (h : SlRd cInt S w a p zs) :
    Calls Try.prog 37 #[.agg #[.int .i64 c, .slice a zs.length p]] w (RetSlB cInstr (compF (c, zs)).1 (compF (c, zs)).2 w) := by
  have HB0 : Hid (Below w.heap.size w (w.alloc (.cells #[.int .i64 c, .slice a zs.length p] 43))) := (Below.refl _ _).alloc (Nat.le_refl _) _
  have t0 : (w.alloc (.cells #[.int .i64 c, .slice a zs.length p] 43)).cell? ⟨w.heap.size, 0, none⟩ = some (.int .i64 c) := by simp [go_sem]
  have t1 : (w.alloc (.cells #[.int .i64 c, .slice a zs.length p] 43)).cell? ⟨w.heap.size, 0 + 1, none⟩ = some (.slice a zs.length p) := by simp [go_sem]
  have H := h.alloc (.cells #[.int .i64 c, .slice a zs.length p] 43)
  have HT := hid (c_l03Term _ _ _ _ _ _ _ t0 t1 H)
  obtain ⟨r, hr⟩ : ∃ r, overT (c, zs) = r := ⟨_, rfl⟩
  have HR := hid hr
  cases r
  · have HF : Hid (compF (c, zs) = ([], false)) := by unfold Hid compF; rw [hr]; rfl
    clear hr t0 t1 H h
    go_enter Try.func37, Try.ntmps37
    go_wp2_with (go_at_call 84; refine HT.out.mono ?_; rintro e w1 ⟨rfl, rfl⟩; rw [HR.out])
    go_ret2
    rw [HF.out]
    exact ⟨none, 0, rfl, nil_rd _ _ _, HB0.out⟩
  · have HF : Hid (compF (c, zs) = (compL (c, zs), true)) := by unfold Hid compF; rw [hr]; rfl
    simp only [overT, Bool.and_eq_true, decide_eq_true_eq] at hr
    obtain ⟨_, hcm, _, _⟩ := validTerm_iff hr.1
    have HC := hid (c_l09Term _ _ _ _ _ _ _ t0 t1 (by simp) H (i64_mid hcm) (by have := hr.2; omega))
    clear hr hcm t0 t1 H h
    go_enter Try.func37, Try.ntmps37
    go_wp2_with (first | (go_at_call 84; refine HT.out.mono ?_; rintro e w1 ⟨rfl, rfl⟩; rw [HR.out]) | (go_at_call 85; refine HC.out.mono ?_; rintro e w2 ⟨a1, p1, rfl, hs1, hb2⟩; have HS := hid hs1; clear hs1))
    go_ret2
    rw [HF.out]
    exact ⟨a1, p1, rfl, HS.out.lower HB0.out.size, bel_next HB0.out HB0.out.size hb2⟩
end Go.Proofs.Ytmpanchappoejaa
