/- Contracts: bodies as trees, the program's side. -/
import Derived.Test.YtedmhdinfedhhaaL03k
import Derived.Test.YtedmhdinfedhhaaApp
namespace Go.Proofs.Ytedmhdinfedhhaa
open Go.RowKit

/-- A pointer, whatever it points at. -/
def cPtr : Codec (Option Addr) where
  n := 1
  rd := fun _ _ cs a => cs = [.pointer a]
  len := by rintro _ _ _ _ rfl; rfl
  one := by rintro _ _ _ _ rfl u hu; simp at hu; subst hu; rfl
  keep := fun _ h => h
def stN (ps : List Stmt) (i : Nat) : Option Nat := match ps[i]? with
  | some d => stmtAr d
  | none => none
theorem stN_at {ps : List Stmt} {k : Nat} {d : Stmt} (h : ps[k]? = some d) : stN ps k = stmtAr d := by unfold stN; rw [h]
theorem stmtAr_le {d : Stmt} {a : Nat} (h : stmtAr d = some a) : a ≤ 2 := by
  unfold stmtAr stmtBe at h
  split at h
  · cases h; split
    · omega
    · split
      · omega
      · split <;> omega
  · cases h
/-- A tree or none, the index behind it, a yes or no. -/
def RetTree (r : Nat × Nat × Bool) (w : World) (e : Ending) (w' : World) : Prop := ∃ q : Option Addr, e = .returned (.tuple #[.pointer q, .int .i64 r.1, .bool r.2.2]) ∧ Below w.heap.size w w'
theorem slTree : SlT Try.prog 231 204 (.pointer none) 1 8 := ⟨Try.underlying231, by kernel_rfl, rfl, by decide, by decide⟩
theorem c_tree_out {a : Option Addr} {p : Nat} {ps : List Stmt} {k : Nat} {w : World} (hk : ps.length ≤ k) :
    Calls Try.prog 181 #[.slice a ps.length p, .int .i64 k] w (RetTree (behR (stN ps) ps.length k) w) := by
  have HF : Hid (behR (stN ps) ps.length k = (0, 0, false)) := behR_none (walkT_out (c := 0) hk)
  have e1 : decide ((ps.length : Int) ≤ (k : Int)) = true := decide_eq_true (by omega)
  go_enter Try.func181, Try.ntmps181
  go_wp2
  go_ret3
  exact ⟨none, by rw [HF.out]; rfl, Below.refl _ _⟩
set_option maxHeartbeats 2000000 in
set_option maxRecDepth 100000 in
theorem c_treeAt {S : Nat → Prop} {a : Option Addr} {p : Nat} {ps : List Stmt} (hn : ps.length ≤ 30) : ∀ (m k : Nat) (w : World), ps.length - k ≤ m → SlRd cStmt S w a p ps →
    Calls Try.prog 181 #[.slice a ps.length p, .int .i64 k] w (RetTree (behR (stN ps) ps.length k) w) := by
  intro m
  induction m with
  | zero => intro k w hm h; exact c_tree_out (by omega)
  | succ m ih =>
    intro k w hm h
    by_cases hlt : k < ps.length
    · have IH := hid ih
      have H := hid h
      obtain ⟨b, off, rfl⟩ := h.some_of hlt
      obtain ⟨d0, d1, d2, d3, a4, p4, d4, d5, a6, p6, d6, a7, p7, d7, hz, hi0, hi1, hi2, hi3, hi5, hs4, hs6, hs7, hc0, hc1, hc2, hc3, hc4, hc5, hc6, hc7, hb⟩ := h.stmt_at k hlt
      have HA := hid (stN_at hz)
      have HC := hid (c_kidsOf (d0 := d0) (d1 := d1) (d2 := d2) (d3 := d3) (d5 := d5) hs4 hs6 hs7)
      have e1 : decide ((ps.length : Int) ≤ (k : Int)) = false := decide_eq_false (by omega)
      have i0 : (0 : Int) ≤ (k : Int) := by omega
      have i1 : (k : Int) < (ps.length : Int) := by omega
      have hw1 : IntKind.i64.wrap ((k : Int) + 1) = (k : Int) + 1 := wrap_in _ (by omega) (by omega)
      clear ih h hz hs4 hs6 hs7 hi0 hi1 hi2 hi3 hi5
      obtain ⟨r, hr⟩ : ∃ r, stmtAr (d0, d1, d2, (d3, d4), (d5, d6), d7) = r := ⟨_, rfl⟩
      have HR := hid hr
      have HAR : Hid (stN ps k = r) := HA.out.trans hr
      have hr2 : ∀ c, r = some c → c ≤ 2 := fun c hc => stmtAr_le (hr.trans hc)
      clear hr HA
      cases r with
      | none =>
        have HF : Hid (behR (stN ps) ps.length k = (0, 0, false)) := behR_none (walkT_bad (c := 0) HAR.out)
        clear hr2
        go_enter Try.func181, Try.ntmps181
        go_wp2_with (go_at_call 188; refine HC.out.mono ?_; rintro e w1 ⟨rfl, hb1⟩; rw [HR.out]; simp only [arI]; have HB1 := hid hb1; clear hb1)
        go_ret3
        exact ⟨none, by rw [HF.out]; rfl, HB1.out⟩
      | some c =>
        have hcb := hr2 c rfl
        have HW : Hid (walkT (stN ps) ps.length 1 k = walkT (stN ps) ps.length c (k + 1)) := walkT_one hlt HAR.out
        clear hr2
        go_enter Try.func181, Try.ntmps181
        go_wp2_with fail
        refine HC.out.mono ?_
        rintro e w1 ⟨rfl, hb1⟩
        rw [HR.out]
        simp only [arI]
        have HB1 := hid hb1
        have H1 := hid (H.out.below (Nat.le_refl _) hb1)
        have x0 := cell_below hb1 hb hc0
        have x1 := cell_below hb1 hb hc1
        have x2 := cell_below hb1 hb hc2
        have x3 := cell_below hb1 hb hc3
        have x4 := cell_below hb1 hb hc4
        have x5 := cell_below hb1 hb hc5
        have x6 := cell_below hb1 hb hc6
        have x7 := cell_below hb1 hb hc7
        have hg1 : w.heap.size ≤ w1.heap.size := hb1.size
        clear hb1 hc0 hc1 hc2 hc3 hc4 hc5 hc6 hc7 hb
        go_wp2
        have y0 : (w1.alloc (.cells #[.int .i64 d0, .int .i64 d1, .int .i64 d2, .int .i64 d3, .slice a4 d4.length p4, .int .i64 d5, .slice a6 d6.length p6, .slice a7 d7.length p7, .int .i64 k, .slice none 0 0] 233)).cell? ⟨w1.heap.size, 9, none⟩ = some (.slice none 0 0) := by rw [World.cell?_alloc_at _ _ _ _ rfl]; rfl
        have y1 : (w1.alloc (.cells #[.int .i64 d0, .int .i64 d1, .int .i64 d2, .int .i64 d3, .slice a4 d4.length p4, .int .i64 d5, .slice a6 d6.length p6, .slice a7 d7.length p7, .int .i64 k, .slice none 0 0] 233)).frozen? ⟨w1.heap.size, 9, none⟩ = false := frozen_of_row _ _ _ _ _ (heap_new _ _)
        have HB2 : Hid (Below w.heap.size w (w1.alloc (.cells #[.int .i64 d0, .int .i64 d1, .int .i64 d2, .int .i64 d3, .slice a4 d4.length p4, .int .i64 d5, .slice a6 d6.length p6, .slice a7 d7.length p7, .int .i64 k, .slice none 0 0] 233))) := HB1.out.alloc hg1 _
        have y2 : w1.heap.size < (w1.alloc (.cells #[.int .i64 d0, .int .i64 d1, .int .i64 d2, .int .i64 d3, .slice a4 d4.length p4, .int .i64 d5, .slice a6 d6.length p6, .slice a7 d7.length p7, .int .i64 k, .slice none 0 0] 233)).heap.size := by simp
        generalize w1.alloc (.cells #[.int .i64 d0, .int .i64 d1, .int .i64 d2, .int .i64 d3, .slice a4 d4.length p4, .int .i64 d5, .slice a6 d6.length p6, .slice a7 d7.length p7, .int .i64 k, .slice none 0 0] 233) = W2 at *
        obtain ⟨g, hg⟩ : ∃ g, g = w1.heap.size := ⟨_, rfl⟩
        rw [← hg] at y0 y1 y2 hg1 ⊢
        clear hg x0 x1 x2 x3 x4 x5 x6 x7
        rw [show decide (ps.length ≤ k) = false from decide_eq_false (by omega)]
        go_loopw [1, 7] (fun kv cv wr => ∃ (k' c' d' : Nat) (v : Value) (ks : List (Option Addr)), kv = .int .i64 k' ∧ cv = .int .i64 c' ∧ k < k' ∧ c' + ks.length ≤ 2 ∧ Hid (walkT (stN ps) ps.length c (k + 1) = walkT (stN ps) ps.length c' k') ∧ Hid (∀ e, walkT (stN ps) ps.length c' k' = some e → max d' (deepT (stN ps) ps.length c' k') = deepT (stN ps) ps.length c (k + 1)) ∧ Hid (Below w.heap.size w wr) ∧ g < wr.heap.size ∧ wr.cell? ⟨g, 9, none⟩ = some v ∧ wr.frozen? ⟨g, 9, none⟩ = false ∧ Hid (OwnSl cPtr (fun _ => False) wr (g + 1) 204 v ks)) (fun _ cv _ => (intOf cv).toNat)
        case atStart => exact ⟨k + 1, c, 0, _, [], by go_num, rfl, by omega, by simp; omega, rfl, fun _ _ => by omega, HB2, y2, y0, y1, own_nil _ _ _ _ _⟩
        case round =>
          obtain ⟨k', c', d', v, ks, rfl, rfl, hkk, hcc, HWK, HDK, HB, hgr, cu0, cu1, HO⟩ := hrel
          by_cases hc0' : 0 < c'
          · obtain ⟨c'', rfl⟩ : ∃ c'', c' = c'' + 1 := ⟨c' - 1, by omega⟩
            have HI := hid (IH.out k' wr (by omega) (H.out.below (Nat.le_refl _) HB.out))
            have e2 : decide ((0 : Int) < (c'' : Int) + 1) = true := decide_eq_true (by omega)
            cases he : walkT (stN ps) ps.length 1 k' with
            | none =>
              have HF : Hid (behR (stN ps) ps.length k = (0, 0, false)) := behR_none (by rw [HW.out, HWK.out, walkT_step, he]; rfl)
              have HG : Hid (behR (stN ps) ps.length k' = (0, 0, false)) := behR_none he
              clear he HDK HWK
              go_wp2_with (go_at_call 181; refine HI.out.mono ?_; rw [HG.out]; rintro e w2 ⟨q, rfl, hb2⟩; have HB2 := hid (bel_next HB.out HB.out.size hb2); clear hb2)
              go_ret3
              exact ⟨none, by rw [HF.out]; rfl, HB2.out⟩
            | some e1 =>
              have hge := walkT_ge ps.length 1 k' e1 (by omega) he
              have HG : Hid (behR (stN ps) ps.length k' = (e1, deepT (stN ps) ps.length 1 k', true)) := behR_some he
              have HWN : Hid (walkT (stN ps) ps.length c (k + 1) = walkT (stN ps) ps.length c'' e1) := by unfold Hid; rw [HWK.out, walkT_step, he]; rfl
              obtain ⟨D, hD⟩ : ∃ D, deepT (stN ps) ps.length 1 k' = D := ⟨_, rfl⟩
              have HDN : Hid (∀ e, walkT (stN ps) ps.length c'' e1 = some e → max (max d' D) (deepT (stN ps) ps.length c'' e1) = deepT (stN ps) ps.length c (k + 1)) := by
                intro e h9
                have := HDK.out e (by rw [walkT_step, he]; exact h9)
                rw [deepT_step he, hD] at this
                rw [← this]; omega
              clear he HDK HWK hD
              go_wp2_with (first | (go_at_call 181; refine HI.out.mono ?_; rw [HG.out]; rintro e w3 ⟨q, rfl, hb3⟩; simp only; have cu3 := cell_below hb3 hgr cu0; have f3 := frz_below hb3 hgr cu1; have hg3 := Nat.lt_of_lt_of_le hgr hb3.size; have HB3 := hid (bel_next HB.out HB.out.size hb3); have HO3 := hid (own_below HO.out (Nat.le_refl _) hb3); clear hb3) | (at_builtin; refine app_own (C := cPtr) rfl (.tmp 49) (.tmp 51) _ rfl slTree rfl rfl HO3.out no_blk q rfl (by omega) (by omega) ?_; intro v4 w4 hO4 hb4; obtain ⟨av, pv, hv⟩ := own_len hO4; generalize (ks ++ [q]).length = nl at hv; subst hv; have cu4 := cell_below hb4 (Nat.lt_succ_self g) cu3; have f4 := frz_below hb4 (Nat.lt_succ_self g) f3; have hg4 := Nat.lt_of_lt_of_le hg3 hb4.size; have HO4 := hid hO4; have HB4 := hid (HB3.out.trans (hb4.mono (by omega))); clear hO4 hb4))
              go_roundw
              case rel => exact ⟨e1, c'', max d' D, _, ks ++ [q], rfl, rfl, by omega, by simp; omega, HWN, HDN, HB4.out.setCell (by omega) _, by rw [size_set]; exact hg4, World.cell?_setCell_same _ _ _ cu4, by rw [World.frozen?_setCell]; exact f4, own_keep HO4.out (fun _ h _ => h) fun b hl hs => heap_setCell_ne _ _ _ (by rcases hs with hs | hs; exact hs.elim; have := own_lt HO4.out b hs.symm; show b ≠ g; omega)⟩
              case measure => simp [intOf]
          · obtain rfl : c' = 0 := by omega
            have e2 : decide ((0 : Int) < ((0 : Nat) : Int)) = false := rfl
            have hF0 : behR (stN ps) ps.length k = (k', d' + 1, true) := by
              have h1 := HWK.out
              rw [walkT_zero] at h1
              have h2 := HDK.out k' walkT_zero
              rw [deepT_zero] at h2
              rw [behR_some (HW.out.trans h1), deepT_one hlt HAR.out h1, ← h2]
              simp
            have HF := hid hF0
            clear HWK HDK hF0
            go_wp2
            go_ret3
            exact ⟨_, by rw [HF.out]; rfl, HB.out⟩
    · exact c_tree_out (by omega)
end Go.Proofs.Ytedmhdinfedhhaa
