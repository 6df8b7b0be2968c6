/- Contracts of the laws' helpers over points. -/
import Derived.Test.YtedmhdinfedhhaaUni
import Derived.Test.YtedmhdinfedhhaaOpn
namespace Go.Proofs.Ytedmhdinfedhhaa
open Go.RowKit
abbrev Pt := Int × List Term
abbrev cPoint : Codec Pt := cPair cInt cTerms
abbrev nPoint : Norm cPoint := nPair nInt nTerms
instance dec_Pt : DecidableEq Pt := inferInstance
theorem Pt_list {S : Nat → Prop} {w : World} {cs : List Value} {d : Pt} (h : cPoint.rd S w cs d) : ∃ a1 p1, cs = [.int .i64 d.1, .slice a1 d.2.length p1] ∧ SlRd cTerm S w a1 p1 d.2 ∧ I64 d.1 := by
  obtain ⟨_, _, rfl, ⟨rfl, r0⟩, ⟨a1, p1, rfl, r1⟩⟩ := h
  exact ⟨a1, p1, rfl, r1, r0⟩
theorem Pt_arr {S : Nat → Prop} {w : World} {cs : Array Value} {d : Pt} (h : cPoint.rd S w cs.toList d) : ∃ a1 p1, cs = #[.int .i64 d.1, .slice a1 d.2.length p1] ∧ SlRd cTerm S w a1 p1 d.2 ∧ I64 d.1 := by
  obtain ⟨a1, p1, he, hr⟩ := Pt_list h
  exact ⟨a1, p1, by rw [← Array.toList_inj, he], hr⟩
theorem op_Pt : Opens Try.prog 153 cPoint := opens_struct Try.underlying153 (by kernel_rfl) (opensFs_cons rfl op_i64 (opensFs_last rfl op_Terms))
theorem op_Pts : Opens Try.prog 24 (cSl cPoint) := opens_sl Try.underlying24 (by kernel_rfl) op_Pt (by decide)
set_option maxRecDepth 100000 in
theorem u_szPoint {S : Nat → Prop} {d0 : Int} {a1 : Option Addr} {p1 : Nat} {d1 : List Term} {left : Int} {w : World} (h1 : SlRd cTerm S w a1 p1 d1) (hl0 : 0 ≤ left) (hl1 : left ≤ 1048576) :
    Calls Try.prog 109 #[.agg #[.int .i64 d0, .slice a1 d1.length p1], .int .i64 left] w fun e w' => e = .returned (.int .i64 (szR left (szTs d1 : Nat))) ∧ Below w.heap.size w w' := by
  have R1_0 := hid (h1.alloc (.cells #[.int .i64 d0, .slice a1 d1.length p1] 153))
  have HB_0 : Hid (Below w.heap.size w (w.alloc (.cells #[.int .i64 d0, .slice a1 d1.length p1] 153))) := (Below.refl _ _).alloc (Nat.le_refl _) _
  have z_0 : w.heap.size < (w.alloc (.cells #[.int .i64 d0, .slice a1 d1.length p1] 153)).heap.size := by simp
  have t0_0 : (w.alloc (.cells #[.int .i64 d0, .slice a1 d1.length p1] 153)).cell? ⟨w.heap.size, 0, none⟩ = some (.int .i64 d0) := by rw [World.cell?_alloc_at _ _ _ _ rfl]; rfl
  have t1_0 : (w.alloc (.cells #[.int .i64 d0, .slice a1 d1.length p1] 153)).cell? ⟨w.heap.size, 1, none⟩ = some (.slice a1 d1.length p1) := by rw [World.cell?_alloc_at _ _ _ _ rfl]; rfl
  clear h1
  obtain ⟨r0, hr⟩ : ∃ r, szR left (szTs d1 : Nat) = r := ⟨_, rfl⟩
  have l0 : r0 ≤ left := by rw [← hr]; unfold szR; split <;> omega
  have m0 : r0 < 0 → r0 = -1 := by rw [← hr]; unfold szR; split <;> omega
  have HS0 : Hid (szR left ((szTs d1 : Nat) : Int) = r0) := by exact hr
  have HR0 := hid hr
  clear hr
  by_cases g0 : r0 < 0
  · skip
    have h8 : szR left ((szTs d1 : Nat) : Int) < 0 := by rw [HS0.out]; exact g0
    have HF := hid (HS0.out.trans (m0 g0))
    clear h8 m0
    go_enter Try.func109, Try.ntmps109
    go_wp2_with fail
    refine (u_szTermS R1_0.out (by omega) (by omega)).mono ?_
    rintro e w_1 ⟨rfl, hb⟩
    rw [HR0.out]
    have R1_1 := hid (R1_0.out.below (Nat.le_refl _) hb)
    have HB_1 := hid (bel_next HB_0.out HB_0.out.size hb)
    have t0_1 := cell_below hb z_0 t0_0
    have t1_1 := cell_below hb z_0 t1_0
    have z_1 := Nat.lt_of_lt_of_le z_0 hb.size
    clear hb R1_0 HB_0 t0_0 t1_0 z_0
    go_wp2
    go_ret
    exact ⟨ret_int HF.out.symm, HB_1.out⟩
  clear m0
  go_enter Try.func109, Try.ntmps109
  go_wp2_with fail
  refine (u_szTermS R1_0.out (by omega) (by omega)).mono ?_
  rintro e w_1 ⟨rfl, hb⟩
  rw [HR0.out]
  have R1_1 := hid (R1_0.out.below (Nat.le_refl _) hb)
  have HB_1 := hid (bel_next HB_0.out HB_0.out.size hb)
  have t0_1 := cell_below hb z_0 t0_0
  have t1_1 := cell_below hb z_0 t1_0
  have z_1 := Nat.lt_of_lt_of_le z_0 hb.size
  clear hb R1_0 HB_0 t0_0 t1_0 z_0
  go_wp2
  go_ret
  exact ⟨ret_int HS0.out.symm, HB_1.out⟩
set_option maxRecDepth 100000 in
theorem u_eqPoint {S T : Nat → Prop} {d0 : Int} {a1 : Option Addr} {p1 : Nat} {d1 : List Term} {yd0 : Int} {ya1 : Option Addr} {yp1 : Nat} {yd1 : List Term} {w : World} (h1 : SlRd cTerm S w a1 p1 d1) (yh1 : SlRd cTerm T w ya1 yp1 yd1) :
    Calls Try.prog 121 #[.agg #[.int .i64 d0, .slice a1 d1.length p1], .agg #[.int .i64 yd0, .slice ya1 yd1.length yp1]] w fun e w' => e = .returned (.bool (decide (((d0, d1) : Pt) = (yd0, yd1)))) ∧ Below w.heap.size w w' := by
  have R1_0 := hid ((h1.alloc (.cells #[.int .i64 d0, .slice a1 d1.length p1] 90)).alloc (.cells #[.int .i64 yd0, .slice ya1 yd1.length yp1] 90))
  have yR1_0 := hid ((yh1.alloc (.cells #[.int .i64 d0, .slice a1 d1.length p1] 90)).alloc (.cells #[.int .i64 yd0, .slice ya1 yd1.length yp1] 90))
  have HB_0 : Hid (Below w.heap.size w ((w.alloc (.cells #[.int .i64 d0, .slice a1 d1.length p1] 90)).alloc (.cells #[.int .i64 yd0, .slice ya1 yd1.length yp1] 90))) := ((Below.refl _ _).alloc (Nat.le_refl _) _).alloc (by simp) _
  have z_0 : w.heap.size + 1 < ((w.alloc (.cells #[.int .i64 d0, .slice a1 d1.length p1] 90)).alloc (.cells #[.int .i64 yd0, .slice ya1 yd1.length yp1] 90)).heap.size := by simp
  have t0_0 : ((w.alloc (.cells #[.int .i64 d0, .slice a1 d1.length p1] 90)).alloc (.cells #[.int .i64 yd0, .slice ya1 yd1.length yp1] 90)).cell? ⟨w.heap.size, 0, none⟩ = some (.int .i64 d0) := by simp [go_sem]
  have yt0_0 : ((w.alloc (.cells #[.int .i64 d0, .slice a1 d1.length p1] 90)).alloc (.cells #[.int .i64 yd0, .slice ya1 yd1.length yp1] 90)).cell? ⟨w.heap.size + 1, 0, none⟩ = some (.int .i64 yd0) := by simp [go_sem]
  have t1_0 : ((w.alloc (.cells #[.int .i64 d0, .slice a1 d1.length p1] 90)).alloc (.cells #[.int .i64 yd0, .slice ya1 yd1.length yp1] 90)).cell? ⟨w.heap.size, 1, none⟩ = some (.slice a1 d1.length p1) := by simp [go_sem]
  have yt1_0 : ((w.alloc (.cells #[.int .i64 d0, .slice a1 d1.length p1] 90)).alloc (.cells #[.int .i64 yd0, .slice ya1 yd1.length yp1] 90)).cell? ⟨w.heap.size + 1, 1, none⟩ = some (.slice ya1 yd1.length yp1) := by simp [go_sem]
  clear h1 yh1
  obtain ⟨b0, hb0⟩ : ∃ b, decide (d0 = yd0) = b := ⟨_, rfl⟩
  obtain ⟨b1, hb1⟩ : ∃ b, decide ((d1 : List Term) = yd1) = b := ⟨_, rfl⟩
  have HF : Hid (decide (((d0, d1) : Pt) = (yd0, yd1)) = (b0 && b1)) := by unfold Hid; rw [← hb0, ← hb1, Bool.eq_iff_iff]; simp [Prod.ext_iff]
  have e0 : (d0 != yd0) = !b0 := by rw [← hb0, Bool.eq_iff_iff]; simp
  have HR0 := hid hb0
  clear hb0
  have HR1 := hid hb1
  clear hb1
  cases b0
  · skip
    simp only [Bool.not_false] at e0
    go_enter Try.func121, Try.ntmps121
    go_wp2
    go_ret
    exact ⟨ret_bool (by rw [HF.out]; simp), HB_0.out⟩
  simp only [Bool.not_true] at e0
  cases b1
  · skip
    go_enter Try.func121, Try.ntmps121
    go_wp2_with fail
    refine (u_eqTermS R1_0.out yR1_0.out).mono ?_
    rintro e w_1 ⟨rfl, hb⟩
    rw [HR1.out]
    have R1_1 := hid (R1_0.out.below (Nat.le_refl _) hb)
    have yR1_1 := hid (yR1_0.out.below (Nat.le_refl _) hb)
    have HB_1 := hid (bel_next HB_0.out HB_0.out.size hb)
    have t0_1 := cell_below hb (Nat.lt_of_succ_lt z_0) t0_0
    have yt0_1 := cell_below hb z_0 yt0_0
    have t1_1 := cell_below hb (Nat.lt_of_succ_lt z_0) t1_0
    have yt1_1 := cell_below hb z_0 yt1_0
    have z_1 := Nat.lt_of_lt_of_le z_0 hb.size
    clear hb R1_0 yR1_0 HB_0 t0_0 yt0_0 t1_0 yt1_0 z_0
    go_wp2
    go_ret
    exact ⟨ret_bool (by rw [HF.out]; simp), HB_1.out⟩
  go_enter Try.func121, Try.ntmps121
  go_wp2_with fail
  refine (u_eqTermS R1_0.out yR1_0.out).mono ?_
  rintro e w_1 ⟨rfl, hb⟩
  rw [HR1.out]
  have R1_1 := hid (R1_0.out.below (Nat.le_refl _) hb)
  have yR1_1 := hid (yR1_0.out.below (Nat.le_refl _) hb)
  have HB_1 := hid (bel_next HB_0.out HB_0.out.size hb)
  have t0_1 := cell_below hb (Nat.lt_of_succ_lt z_0) t0_0
  have yt0_1 := cell_below hb z_0 yt0_0
  have t1_1 := cell_below hb (Nat.lt_of_succ_lt z_0) t1_0
  have yt1_1 := cell_below hb z_0 yt1_0
  have z_1 := Nat.lt_of_lt_of_le z_0 hb.size
  clear hb R1_0 yR1_0 HB_0 t0_0 yt0_0 t1_0 yt1_0 z_0
  go_wp2
  go_ret
  exact ⟨ret_bool (by rw [HF.out]; simp), HB_1.out⟩
def RetPoint (x : Pt) (w : World) (e : Ending) (w' : World) : Prop :=
  ∃ a1 p1, e = .returned (.agg #[.int .i64 x.1, .slice a1 x.2.length p1]) ∧ SlRd cTerm (Fresh w.heap.size w') w' a1 p1 x.2 ∧ Below w.heap.size w w'
set_option maxRecDepth 100000 in
set_option maxHeartbeats 1000000 in
theorem u_toPoint {S : Nat → Prop} {d0 : Int} {a1 : Option Addr} {p1 : Nat} {d1 : List Term} {w : World} (h1 : SlRd cTerm S w a1 p1 d1) (hz : szTs d1 ≤ 1048576) :
    Calls Try.prog 114 #[.agg #[.int .i64 d0, .slice a1 d1.length p1]] w (RetPoint (d0, d1) w) := by
  have h1 := h1.keep (S' := fun b => S b ∧ b < w.heap.size) (w' := w) (fun b hb hlt => ⟨⟨hb, hlt⟩, rfl⟩)
  have R1_0 := hid (((h1.alloc (.cells #[.int .i64 d0, .slice a1 d1.length p1] 153)).alloc (.cells #[.int .i64 0, .slice none 0 0] 90)).alloc (.cells #[.int .i64 d0, .slice none 0 0] 90))
  have HB_0 : Hid (Below w.heap.size w (((w.alloc (.cells #[.int .i64 d0, .slice a1 d1.length p1] 153)).alloc (.cells #[.int .i64 0, .slice none 0 0] 90)).alloc (.cells #[.int .i64 d0, .slice none 0 0] 90))) := (((Below.refl _ _).alloc (Nat.le_refl _) _).alloc (by simp) _).alloc (by simp; omega) _
  have z_0 : w.heap.size + 1 + 1 < (((w.alloc (.cells #[.int .i64 d0, .slice a1 d1.length p1] 153)).alloc (.cells #[.int .i64 0, .slice none 0 0] 90)).alloc (.cells #[.int .i64 d0, .slice none 0 0] 90)).heap.size := by simp
  have KB_0 : Hid ((((w.alloc (.cells #[.int .i64 d0, .slice a1 d1.length p1] 153)).alloc (.cells #[.int .i64 0, .slice none 0 0] 90)).alloc (.cells #[.int .i64 d0, .slice none 0 0] 90)).heap[w.heap.size]? = some (.cells #[.int .i64 d0, .slice a1 d1.length p1] 153 (0, 0))) := by unfold Hid; rw [Below.heap_alloc _ _ _ (by simp; omega), Below.heap_alloc _ _ _ (by simp)]; exact new_at rfl
  have KR_0 : Hid ((((w.alloc (.cells #[.int .i64 d0, .slice a1 d1.length p1] 153)).alloc (.cells #[.int .i64 0, .slice none 0 0] 90)).alloc (.cells #[.int .i64 d0, .slice none 0 0] 90)).heap[w.heap.size + 1]? = some (.cells #[.int .i64 0, .slice none 0 0] 90 (0, 0))) := by unfold Hid; rw [Below.heap_alloc _ _ _ (by simp)]; exact new_at (by simp)
  have KL_0 : Hid ((((w.alloc (.cells #[.int .i64 d0, .slice a1 d1.length p1] 153)).alloc (.cells #[.int .i64 0, .slice none 0 0] 90)).alloc (.cells #[.int .i64 d0, .slice none 0 0] 90)).heap[w.heap.size + 1 + 1]? = some (.cells #[.int .i64 d0, .slice none 0 0] 90 (0, 0))) := new_at (by simp)
  clear h1
  go_enter Try.func114, Try.ntmps114
  go_wp2_with fail
  generalize (((w.alloc (.cells #[.int .i64 d0, .slice a1 d1.length p1] 153)).alloc (.cells #[.int .i64 0, .slice none 0 0] 90)).alloc (.cells #[.int .i64 d0, .slice none 0 0] 90)) = wc_0 at *
  refine (u_toTermS R1_0.out (by omega)).mono ?_
  rintro e w_1 ⟨na1, np1, rfl, hs1, hb⟩
  have R1_1 := hid (R1_0.out.below (Nat.le_refl _) hb)
  have N1_1 := hid (hs1.lower (B' := w.heap.size + 1 + 1 + 1) z_0)
  have HB_1 := hid (bel_next HB_0.out HB_0.out.size hb)
  have KB_1 := hid ((hb.block (w.heap.size) (by omega)).trans KB_0.out)
  have KR_1 := hid ((hb.block (w.heap.size + 1) (by omega)).trans KR_0.out)
  have KL_1 := hid ((hb.block (w.heap.size + 1 + 1) (by omega)).trans KL_0.out)
  have z_1 := Nat.lt_of_lt_of_le z_0 hb.size
  clear hb hs1 R1_0  HB_0 KB_0 KR_0 KL_0 z_0
  have tb0 := cell_of KB_1.out (j := 0) rfl
  have tl0 := cell_of KL_1.out (j := 0) rfl
  have fl0 := frz_of KL_1.out 0
  have tr0 := cell_of KR_1.out (j := 0) rfl
  have fr0 := frz_of KR_1.out 0
  have tb1 := cell_of KB_1.out (j := 1) rfl
  have tl1 := cell_of KL_1.out (j := 1) rfl
  have fl1 := frz_of KL_1.out 1
  have tr1 := cell_of KR_1.out (j := 1) rfl
  have fr1 := frz_of KR_1.out 1
  go_wp2
  refine bodyPost_ret (v := .agg #[.int .i64 d0, .slice na1 d1.length np1]) (by simp [results, Try.results114, go_sem, tr0, tr1]) rfl ⟨na1, np1, rfl, ?_, ?_⟩
  · exact (((N1_1.out.setC (by simp) _).setC (by simp) _).setC (by simp) _).lower (by omega)
  · exact (((HB_1.out.setCell (by simp <;> omega) _).setCell (by simp <;> omega) _).setCell (by simp <;> omega) _)
abbrev cPoints : Codec (List Pt) := cSl cPoint
abbrev nPoints : Norm cPoints := nSl nPoint
def szPt (x : Pt) : Nat := szTs x.2
def szPts (xs : List Pt) : Nat := xs.length + (xs.map szPt).sum
theorem szPts_le {x : Pt} {xs : List Pt} (h : x ∈ xs) : szPt x ≤ szPts xs := by have := sumf_mem (f := szPt) h; unfold szPts; omega
theorem SlRd.pt_at {S : Nat → Prop} {w : World} {b off cap : Nat} {xs : List Pt} (h : SlRd cPoint S w (some ⟨b, off, none⟩) cap xs) (k : Nat) (hk : k < xs.length) :
    ∃ (d0 : Int) (a1 : Option Addr) (p1 : Nat) (d1 : List Term), xs[k]? = some (d0, d1) ∧ I64 d0 ∧ SlRd cTerm S w a1 p1 d1 ∧ w.cell? ⟨b, off + k * 2, none⟩ = some (.int .i64 d0) ∧ w.cell? ⟨b, off + k * 2 + 1, none⟩ = some (.slice a1 d1.length p1) ∧ b < w.heap.size := by
  obtain ⟨x, cs, h1, hr, h7, _, hc⟩ := h.at k hk
  obtain ⟨a1, p1, rfl, r1, r0⟩ := Pt_list hr
  exact ⟨x.1, a1, p1, x.2, h1, r0, r1, hc 0 _ rfl, hc 1 _ rfl, h7⟩
theorem own_at_Pt {S : Nat → Prop} {w : World} {base : Nat} {e : TypeId} {zl : List Pt} {g cap n : Nat} (h : OwnSl cPoint S w base e (.slice (some ⟨g, 0, none⟩) n cap) zl) (hn : zl.length = n) (k : Nat) (hk : k < n) :
    ∃ (d0 : Int) (a1 : Option Addr) (p1 : Nat) (d1 : List Term), w.cell? ⟨g, k * 2, none⟩ = some (.int .i64 d0) ∧ w.cell? ⟨g, k * 2 + 1, none⟩ = some (.slice a1 d1.length p1) ∧ w.frozen? ⟨g, k * 2, none⟩ = false ∧ w.frozen? ⟨g, k * 2 + 1, none⟩ = false ∧ g < w.heap.size := by
  obtain ⟨x, cs, h1, hr, h2, h3, h4, h5⟩ := own_at h hn k hk
  obtain ⟨a1, p1, rfl, r1, r0⟩ := Pt_list hr
  exact ⟨x.1, a1, p1, x.2, h4 0 _ rfl, h4 1 _ rfl, h5 _, h5 _, h2⟩
set_option maxRecDepth 100000 in
theorem own_set_Pt {B B' base : Nat} {w : World} {e : TypeId} {zl : List Pt} {g cap n : Nat} (h : OwnSl cPoint (Fresh B w) w base e (.slice (some ⟨g, 0, none⟩) n cap) zl) (hn : zl.length = n) (k : Nat) (hk : k < n)
    {d0 : Int} {a1 : Option Addr} {p1 : Nat} {d1 : List Term} (i0 : I64 d0) (h1 : SlRd cTerm (Fresh B' w) w a1 p1 d1) (hB : B ≤ B') (hg : g < B') :
    OwnSl cPoint (Fresh B ((w.setCell ⟨g, k * 2, none⟩ (.int .i64 d0)).setCell ⟨g, k * 2 + 1, none⟩ (.slice a1 d1.length p1))) ((w.setCell ⟨g, k * 2, none⟩ (.int .i64 d0)).setCell ⟨g, k * 2 + 1, none⟩ (.slice a1 d1.length p1)) base e (.slice (some ⟨g, 0, none⟩) n cap) (zl.set k (d0, d1)) ∧ w.grownBy ((w.setCell ⟨g, k * 2, none⟩ (.int .i64 d0)).setCell ⟨g, k * 2 + 1, none⟩ (.slice a1 d1.length p1)) (some g) := by
  have k1 : SlRd cTerm (fun b => Fresh B w b ∧ b ≠ g) w a1 p1 d1 := h1.keep fun b hb hl => ⟨⟨⟨Nat.le_trans hB hb.1, hb.2⟩, by have := hb.1; omega⟩, rfl⟩
  have h9 := own_set h hn k hk [.int .i64 d0, .slice a1 d1.length p1] (d0, d1) (rd_pair (rd_i i0) (rd_sl k1))
  exact ⟨own_refresh h9.1 fun b hb => thawed_setCell (thawed_setCell (hb) _ _) _ _, h9.2⟩
theorem slPt : SlT Try.prog 33 90 (.agg #[.int .i64 0, .slice none 0 0]) 2 32 := ⟨Try.underlying33, by kernel_rfl, rfl, by decide, by decide⟩
set_option maxRecDepth 100000 in
theorem u_szPointS {S : Nat → Prop} {a : Option Addr} {p : Nat} {xs : List Pt} {left : Int} {w : World} (h : SlRd cPoint S w a p xs) (h0 : 0 ≤ left) (h1 : left ≤ 1048576) :
    Calls Try.prog 47 #[.slice a xs.length p, .int .i64 left] w fun e w' => e = .returned (.int .i64 (szR left (szPts xs : Nat))) ∧ Below w.heap.size w w' := by
  have H := hid h
  have hl := h.len_le
  clear h
  by_cases hs : left < xs.length
  · have HF : Hid (szR left (szPts xs : Nat) = -1) := szR_neg (n := xs.length) (by unfold szR; rw [if_pos hs]; omega)
    have h' : left - (xs.length : Int) < 0 := by omega
    go_enter Try.func47, Try.ntmps47
    go_wp2
    go_ret
    exact ⟨ret_int HF.out.symm, Below.refl _ _⟩
  · have h' : 0 ≤ left - (xs.length : Int) := by omega
    go_enter Try.func47, Try.ntmps47
    go_wp2
    go_loopw [1, 5] (fun u i wr => ∃ (k : Nat) (r : Int), k ≤ xs.length ∧ i = .int .i64 k ∧ u = .int .i64 r ∧ 0 ≤ r ∧ r ≤ left ∧ Hid (r = szR left (xs.length + ((xs.take k).map szPt).sum : Nat)) ∧ Below w.heap.size w wr) (fun _ i _ => xs.length - (intOf i).toNat)
    case atStart => exact ⟨0, _, Nat.zero_le _, rfl, rfl, h', by omega, by (unfold Hid szR; simp; omega), Below.refl _ _⟩
    case round =>
      obtain ⟨k, r, hk, rfl, rfl, hr0, hr1, HR, hbe⟩ := hrel
      have hsz := hbe.size
      by_cases hlt : k < xs.length
      · obtain ⟨b, off, rfl⟩ := H.out.some_of hlt
        obtain ⟨d0, a1, p1, d1, hz, hi0, hs1, hc0, hc1, hb⟩ := (H.out.below (Nat.le_refl _) hbe).pt_at k hlt
        have HZ := hid hz
        clear hz
        have HC := hid (fun (hr1 : r ≤ 1048576) => u_szPoint (w := wr) (d0 := d0) hs1 hr0 hr1)
        clear hs1
        obtain ⟨q, hq⟩ : ∃ q, szR r (szPt (d0, d1) : Nat) = q := ⟨_, rfl⟩
        have hqs : q = szR left (xs.length + ((xs.take (k + 1)).map szPt).sum : Nat) := by
          rw [← hq, sumf_take HZ.out]
          have hr := HR.out
          rw [hr] at hr0
          rw [hr, szR_add hr0, Nat.add_assoc]
        have hq1 : q ≤ r := by rw [← hq]; unfold szR; split <;> omega
        have HQ : Hid (szR r (szTs d1 : Nat) = q) := hq
        have HS := hid hqs
        clear hq hqs
        by_cases hneg : q < 0
        · have HF : Hid (szR left (szPts xs : Nat) = -1) := by
            have h2 := HS.out
            rw [h2] at hneg
            have h3 : szPts xs = (xs.length + ((xs.take (k + 1)).map szPt).sum) + ((xs.map szPt).sum - ((xs.take (k + 1)).map szPt).sum) := by
              have := sumf_take_le szPt xs (k + 1)
              unfold szPts; omega
            unfold Hid; rw [h3]; exact szR_neg hneg
          go_wp2_with (go_at_call 109; refine (HC.out (by omega)).mono ?_; rintro e w1 ⟨rfl, hb1⟩; rw [HQ.out])
          go_ret
          exact ⟨ret_int HF.out.symm, bel_next hbe hsz hb1⟩
        · go_wp2_with (go_at_call 109; refine (HC.out (by omega)).mono ?_; rintro e w1 ⟨rfl, hb1⟩; rw [HQ.out])
          go_roundw
          case rel => exact ⟨k + 1, q, by omega, by go_num, rfl, by omega, by omega, HS, bel_next hbe hsz hb1⟩
          case measure => simp [intOf]; omega
      · go_wp2
        go_ret
        exact ⟨ret_int (by rw [HR.out, List.take_of_length_le (by omega)]; rfl), hbe⟩
set_option maxRecDepth 100000 in
set_option maxHeartbeats 1000000 in
theorem u_toPointS {S : Nat → Prop} {a : Option Addr} {p : Nat} {xs : List Pt} {w : World} (h : SlRd cPoint S w a p xs) (hz : szPts xs ≤ 1048576) :
    Calls Try.prog 51 #[.slice a xs.length p] w (RetSl cPoint xs w) := by
  have H := hid h
  have hn : xs.length ≤ 1048576 := by unfold szPts at hz; omega
  have HN : Hid (∀ x ∈ xs, szPt x ≤ 1048576) := fun x hx => Nat.le_trans (szPts_le hx) hz
  clear h hz
  go_enter Try.func51, Try.ntmps51
  go_wp2_with (at_make; go_loud (refine wpList_mk rfl (.tmp 6) (.tmp 6) _ rfl rfl rfl (own_mk slPt (C := cPoint) (base := w.heap.size) (fun _ => False) xs.length (by omega) (Nat.le_refl _) (0, []) (fun _ _ => rd_pair rd_int0 rd_nil) _ _) ?_); rintro w1 ⟨hown, hg⟩)
  have hlt0 : w.heap.size < w1.heap.size := (own_lt hown _ rfl).2
  have HO := hid hown
  have HG := hid hg
  clear hown hg
  go_loopw [4] (fun i wr => ∃ k : Nat, k ≤ xs.length ∧ i = .int .i64 k ∧ Hid (OwnSl cPoint (Fresh w.heap.size wr) wr w.heap.size 90 (.slice (some ⟨w.heap.size, 0, none⟩) xs.length xs.length) (xs.take k ++ List.replicate (xs.length - k) (0, []))) ∧ Below w.heap.size w wr ∧ w.heap.size < wr.heap.size) (fun i _ => xs.length - (intOf i).toNat)
  case atStart => exact ⟨0, Nat.zero_le _, rfl, by simpa [Hid] using own_keep (S' := Fresh w.heap.size w1) HO.out (fun _ h => h.elim) (fun _ _ _ => rfl), (Below.refl _ _).grown HG.out (Nat.le_refl _) (by simp), hlt0⟩
  case round =>
    obtain ⟨k, hk, rfl, HW, hbe, hgl⟩ := hrel
    have hsz := hbe.size
    by_cases hlt : k < xs.length
    · obtain ⟨b, off, rfl⟩ := H.out.some_of hlt
      obtain ⟨d0, a1, p1, d1, hz, hi0, hs1, hc0, hc1, hb⟩ := (H.out.below (Nat.le_refl _) hbe).pt_at k hlt
      have hzl := HN.out _ (List.mem_of_getElem? hz)
      have HC := hid (u_toPoint (w := wr) (d0 := d0) hs1 hzl)
      have HZ := hid hz
      clear hz hzl hs1
      go_wp2_with (go_at_call 114; refine HC.out.mono ?_; rintro e w2 ⟨na1, np1, rfl, nh1, hb2⟩; simp only at nh1 ⊢; have hw2 := own_fresh HW.out (Nat.le_refl _) (Nat.le_refl _) hb2; obtain ⟨_, _, _, _, g0, g1, f0, f1, _⟩ := own_at_Pt hw2 (fill_len rfl hk) k hlt; have HW2 := hid hw2; have NH1 := hid nh1; have hz2 := hb2.size; have HB2 := hid hb2; clear hw2 hb2 nh1)
      go_roundw
      case rel =>
        obtain ⟨h1, h2⟩ := own_set_Pt HW2.out (fill_len rfl hk) k hlt hi0 NH1.out hsz hgl
        rw [fill_set rfl hlt HZ.out] at h1
        exact ⟨k + 1, by omega, by go_num, h1, (((hbe.trans (HB2.out.mono hsz)).setCell (Nat.le_refl _) _).setCell (Nat.le_refl _) _), by simp [World.setCell]; omega⟩
      case measure => simp [intOf]; omega
    · go_wp2
      go_ret
      have hown := HW.out
      rw [fill_end rfl (by omega)] at hown
      exact retSl_own hown (fun _ h _ => h) hbe
set_option maxRecDepth 100000 in
set_option maxHeartbeats 1000000 in
theorem u_eqPointS {S T : Nat → Prop} {a b : Option Addr} {ca cb : Nat} {xs ys : List Pt} {w : World} (hx : SlRd cPoint S w a ca xs) (hy : SlRd cPoint T w b cb ys) :
    Calls Try.prog 55 #[.slice a xs.length ca, .slice b ys.length cb] w fun e w' => e = .returned (.bool (decide (xs = ys))) ∧ Below w.heap.size w w' := by
  have HX := hid hx
  have HY := hid hy
  have hlx := hx.len_le
  have hly := hy.len_le
  clear hx hy
  by_cases hl : xs.length = ys.length
  · have h1 : ((xs.length : Int) != ys.length) = false := by simp [hl]
    have hl1 : xs.length ≤ ys.length := by omega
    have hl2 : ys.length ≤ xs.length := by omega
    clear hl
    go_enter Try.func55, Try.ntmps55
    go_wp2
    go_loopw [5] (fun i wr => ∃ k : Nat, k ≤ xs.length ∧ i = .int .i64 k ∧ Hid (xs.take k = ys.take k) ∧ Below w.heap.size w wr) (fun i _ => xs.length - (intOf i).toNat)
    case atStart => exact ⟨0, Nat.zero_le _, rfl, rfl, Below.refl _ _⟩
    case round =>
      obtain ⟨k, hk, rfl, HA, hbe⟩ := hrel
      have hsz := hbe.size
      by_cases hlt : k < xs.length
      · obtain ⟨b1, off1, rfl⟩ := HX.out.some_of hlt
        obtain ⟨b2, off2, rfl⟩ := HY.out.some_of (k := k) (by omega)
        obtain ⟨d0, a1, p1, d1, hxk, hi0, hs1, hc0, hc1, hb⟩ := (HX.out.below (Nat.le_refl _) hbe).pt_at k hlt
        obtain ⟨yd0, ya1, yp1, yd1, hyk, yi0, ys1, yc0, yc1, hby⟩ := (HY.out.below (Nat.le_refl _) hbe).pt_at k (by omega)
        have HXK := hid hxk
        have HYK := hid hyk
        have HC := hid (u_eqPoint (w := wr.drew) (d0 := d0) (yd0 := yd0) hs1.drew ys1.drew)
        clear hxk hyk hs1 ys1
        have i1 : (0 : Int) ≤ (k : Int) := by omega
        have i2 : (k : Int) < (xs.length : Int) := by omega
        have i3 : (k : Int) < (ys.length : Int) := by omega
        obtain ⟨r, hr⟩ : ∃ r, decide (((d0, d1) : Pt) = (yd0, yd1)) = r := ⟨_, rfl⟩
        have HR := hid hr
        clear hr
        cases r
        · go_wp2
          go_still_tail 8, (by kernel_rfl)
          change wpList _ _ _ _ _ wr.drew
          go_wp2_with (go_at_call 121; refine HC.out.mono ?_; rintro e w1 ⟨rfl, hb1⟩; rw [HR.out])
          go_ret
          exact ⟨ret_bool (by simp [ne_at HXK.out HYK.out (of_decide_eq_false HR.out)]), hbe.drew.trans (hb1.mono hsz)⟩
        · go_wp2
          go_still_tail 8, (by kernel_rfl)
          change wpList _ _ _ _ _ wr.drew
          go_wp2_with (go_at_call 121; refine HC.out.mono ?_; rintro e w1 ⟨rfl, hb1⟩; rw [HR.out])
          go_roundw
          case rel => exact ⟨k + 1, by omega, by go_num, take_eq_snoc HA.out HXK.out HYK.out (of_decide_eq_true HR.out), hbe.drew.trans (hb1.mono hsz)⟩
          case measure => simp [intOf]; omega
      · go_wp2
        go_ret
        exact ⟨ret_bool (by simp [take_all_eq HA.out (by omega) (by omega)]), hbe⟩
  · have h1 : ((xs.length : Int) != ys.length) = true := by simp; omega
    have HF : Hid (decide (xs = ys) = false) := by unfold Hid; simp; rintro rfl; exact hl rfl
    clear hl
    go_enter Try.func55, Try.ntmps55
    go_wp2
    go_ret
    exact ⟨ret_bool HF.out.symm, Below.refl _ _⟩
end Go.Proofs.Ytedmhdinfedhhaa
