/- Contracts: the point at an instruction, and the places behind it that have none. -/
import Derived.Test.YtedmhdinfedhhaaL08k
namespace Go.Proofs.Ytedmhdinfedhhaa
open Go.RowKit

def noPt (ps : List Pt) (t : Int) : Bool := decide (pointF ps t < 0)
def bareF (code : List Instr) (ps : List Pt) (k : Nat) : List Int := (targF code k).filter fun t => inB t 0 ((code.length : Int) - 1) && noPt ps t
theorem filter_take {p : Int → Bool} {T : List Int} {j : Nat} {t : Int} (h : T[j]? = some t) : (T.take (j + 1)).filter p = (T.take j).filter p ++ if p t then [t] else [] := by
  rw [List.take_add_one, h, List.filter_append]
  congr 1
  cases hp : p t <;> simp [hp]
/-- A block with annotated code. -/
structure AnB (w : World) (g : Nat) (a0 : Option Addr) (n0 p0 : Nat) (a1 : Option Addr) (n1 p1 : Nat) (a2 : Option Addr) (n2 p2 : Nat) (a3 : Option Addr) (n3 p3 : Nat) : Prop where
  lt : g < w.heap.size
  c0 : w.cell? ⟨g, 0, none⟩ = some (.slice a0 n0 p0)
  c1 : w.cell? ⟨g, 1, none⟩ = some (.slice a1 n1 p1)
  c2 : w.cell? ⟨g, 2, none⟩ = some (.slice a2 n2 p2)
  c3 : w.cell? ⟨g, 3, none⟩ = some (.slice a3 n3 p3)
theorem AnB.below {w w' : World} {g : Nat} {a0 : Option Addr} {n0 p0 : Nat} {a1 : Option Addr} {n1 p1 : Nat} {a2 : Option Addr} {n2 p2 : Nat} {a3 : Option Addr} {n3 p3 : Nat} (h : AnB w g a0 n0 p0 a1 n1 p1 a2 n2 p2 a3 n3 p3) (hb : Below w.heap.size w w') : AnB w' g a0 n0 p0 a1 n1 p1 a2 n2 p2 a3 n3 p3 :=
  ⟨Nat.lt_of_lt_of_le h.lt hb.size, cell_below hb h.lt h.c0, cell_below hb h.lt h.c1, cell_below hb h.lt h.c2, cell_below hb h.lt h.c3⟩
theorem AnB.on {N : Nat} {w w' : World} {g : Nat} {a0 : Option Addr} {n0 p0 : Nat} {a1 : Option Addr} {n1 p1 : Nat} {a2 : Option Addr} {n2 p2 : Nat} {a3 : Option Addr} {n3 p3 : Nat} (h : AnB w g a0 n0 p0 a1 n1 p1 a2 n2 p2 a3 n3 p3) (hN : g < N) (hb : Below N w w') : AnB w' g a0 n0 p0 a1 n1 p1 a2 n2 p2 a3 n3 p3 :=
  ⟨Nat.lt_of_lt_of_le h.lt hb.size, (hb.cell (p := ⟨g, 0, none⟩) hN).trans h.c0, (hb.cell (p := ⟨g, 1, none⟩) hN).trans h.c1, (hb.cell (p := ⟨g, 2, none⟩) hN).trans h.c2, (hb.cell (p := ⟨g, 3, none⟩) hN).trans h.c3⟩
theorem AnB.new (w : World) (a0 : Option Addr) (n0 p0 : Nat) (a1 : Option Addr) (n1 p1 : Nat) (a2 : Option Addr) (n2 p2 : Nat) (a3 : Option Addr) (n3 p3 : Nat) (T : TypeId) :
    AnB (w.alloc (.cells #[.slice a0 n0 p0, .slice a1 n1 p1, .slice a2 n2 p2, .slice a3 n3 p3] T)) w.heap.size a0 n0 p0 a1 n1 p1 a2 n2 p2 a3 n3 p3 :=
  ⟨by simp, by simp [go_sem], by simp [go_sem], by simp [go_sem], by simp [go_sem]⟩
theorem c_point1 {S : Nat → Prop} (x at_ : Int) (a : Option Addr) (p : Nat) (zs : List Term) (g : Nat) (w : World) (h : SlRd cTerm S w a p zs) (hg : w.cell? ⟨g, 0, none⟩ = some (.int .i64 at_)) (hgl : g < w.heap.size) :
    Calls Try.prog 154 #[.agg #[.int .i64 x, .slice a zs.length p], .pointer (some ⟨g, 0, none⟩)] w fun e w' => e = .returned (.bool (x == at_)) ∧ Below w.heap.size w w' := by
  have HB : Hid (Below w.heap.size w (w.alloc (.cells #[.int .i64 x, .slice a zs.length p] 90))) := (Below.refl _ _).alloc (Nat.le_refl _) _
  have hg2 := cell_below HB.out hgl hg
  clear h
  go_enter Try.func154, Try.ntmps154
  go_wp2
  go_ret
  exact ⟨rfl, HB.out⟩
theorem c_idxPt {S : Nat → Prop} (a : Option Addr) (cap : Nat) (xs : List Pt) (j : Int) (g : Nat) (w : World) (h : SlRd cPoint S w a cap xs) (hg : w.cell? ⟨g, 0, none⟩ = some (.int .i64 j)) (hgl : g < w.heap.size) :
    Calls Try.prog 153 #[.slice a xs.length cap, .func (.func 154) #[] #[.pointer (some ⟨g, 0, none⟩)]] w fun e w' => e = .returned (.int .i64 (pointF xs j)) ∧ Below w.heap.size w w' := by
  have hl := h.len_le
  have H := hid h
  have HG := hid hg
  clear h hg
  go_enter Try.func153, Try.ntmps153
  go_wp2
  go_loopw [8] (fun i wr => ∃ k : Nat, k ≤ xs.length ∧ i = .int .i64 k ∧ Hid (∀ q ∈ xs.take k, q.1 ≠ j) ∧ Below w.heap.size w wr) (fun i _ => xs.length - (intOf i).toNat)
  case atStart => exact ⟨0, Nat.zero_le _, rfl, by unfold Hid; simp, Below.refl _ _⟩
  case round =>
    obtain ⟨k, hk, rfl, HA, hbe⟩ := hrel
    have hsz := hbe.size
    by_cases hlt : k < xs.length
    · obtain ⟨b, off, rfl⟩ := H.out.some_of hlt
      obtain ⟨x, a', cap', zs, hz, hc1, hsl, hc, hc', hb⟩ := (H.out.below (Nat.le_refl _) hbe).pt_at k hlt
      have HC := hid (c_point1 x j a' cap' zs g wr hsl (cell_below hbe hgl HG.out) (by omega))
      have HP : Hid (x = j → pointF xs j = (k : Int)) := fun e => pointF_hit HA.out hz e
      have HN : Hid (x ≠ j → ∀ q ∈ xs.take (k + 1), q.1 ≠ j) := fun hxj q hq => by
        rw [List.take_add_one, hz] at hq
        rcases List.mem_append.1 hq with h1 | h1
        · exact HA.out q h1
        · simp at h1; rw [h1]; exact hxj
      clear hz hsl
      by_cases hxj : x = j
      · have HF := hid (HP.out hxj)
        have HR : Hid ((x == j) = true) := by unfold Hid; simp [hxj]
        clear hxj
        go_wp2_with (go_at_call 154; refine HC.out.mono ?_; rintro e w1 ⟨rfl, hb1⟩; rw [HR.out])
        go_ret
        exact ⟨by rw [HF.out]; rfl, bel_next hbe hsz hb1⟩
      · have HN2 := hid (HN.out hxj)
        have HR : Hid ((x == j) = false) := by unfold Hid; simp [hxj]
        clear hxj
        go_wp2_with (go_at_call 154; refine HC.out.mono ?_; rintro e w1 ⟨rfl, hb1⟩; rw [HR.out])
        go_roundw
        case rel => exact ⟨k + 1, by omega, by go_num, HN2, bel_next hbe hsz hb1⟩
        case measure => simp [intOf]; omega
    · have HF := hid (pointF_miss (ps := xs) (at_ := j) fun q hq => HA.out q (by rw [List.take_of_length_le (by omega)]; exact hq))
      go_wp2
      go_ret
      exact ⟨by rw [HF.out]; rfl, hbe⟩
set_option maxRecDepth 100000 in
theorem c_anPoint {S : Nat → Prop} {a0 : Option Addr} {n0 p0 : Nat} {a1 : Option Addr} {n1 p1 : Nat} {a2 : Option Addr} {n2 p2 : Nat} {a3 : Option Addr} {p3 : Nat} {d3 : List Pt} {w : World} (h3 : SlRd cPoint S w a3 p3 d3) (at_ : Int) :
    Calls Try.prog 122 #[.agg #[.slice a0 n0 p0, .slice a1 n1 p1, .slice a2 n2 p2, .slice a3 d3.length p3], .int .i64 at_] w fun e w' => e = .returned (.int .i64 (pointF d3 at_)) ∧ Below w.heap.size w w' := by
  have HB : Hid (Below w.heap.size w ((w.alloc (.cells #[.slice a0 n0 p0, .slice a1 n1 p1, .slice a2 n2 p2, .slice a3 d3.length p3] 35)).alloc (.cells #[.int .i64 at_] 2))) := ((Below.refl _ _).alloc (Nat.le_refl _) _).alloc (by simp) _
  have HC := hid (c_idxPt a3 p3 d3 at_ (w.heap.size + 1) ((w.alloc (.cells #[.slice a0 n0 p0, .slice a1 n1 p1, .slice a2 n2 p2, .slice a3 d3.length p3] 35)).alloc (.cells #[.int .i64 at_] 2)) ((h3.alloc _).alloc _) (cell_of (heap_new2 _ _ _) rfl) (by simp))
  clear h3
  go_enter Try.func122, Try.ntmps122
  go_wp2_with (go_at_call 153; refine HC.out.mono ?_; rintro e w1 ⟨rfl, hb1⟩)
  go_ret
  exact ⟨rfl, bel_next HB.out HB.out.size hb1⟩
set_option maxRecDepth 100000 in
theorem c_bare {S : Nat → Prop} {a0 : Option Addr} {n0 p0 : Nat} {a1 : Option Addr} {n1 p1 : Nat} {a2 : Option Addr} {p2 : Nat} {d2 : List Instr} {a3 : Option Addr} {p3 : Nat} {d3 : List Pt} {w : World} (h2 : SlRd cInstr S w a2 p2 d2) (h3 : SlRd cPoint S w a3 p3 d3) {k : Nat} (hk : k < d2.length) (hn : d2.length ≤ 80) :
    Calls Try.prog 66 #[.agg #[.slice a0 n0 p0, .slice a1 n1 p1, .slice a2 d2.length p2, .slice a3 d3.length p3], .int .i64 k] w fun e w' => ∃ v, e = .returned v ∧ OwnSl cInt (fun _ => False) w' w.heap.size 2 v (bareF d2 d3 k) ∧ Below w.heap.size w w' := by
  have hn6 : d2.length ≤ 1000000 := by omega
  have HB : Hid (Below w.heap.size w (w.alloc (.cells #[.slice a0 n0 p0, .slice a1 n1 p1, .slice a2 d2.length p2, .slice a3 d3.length p3] 35))) := (Below.refl _ _).alloc (Nat.le_refl _) _
  have HX : Hid (AnB (w.alloc (.cells #[.slice a0 n0 p0, .slice a1 n1 p1, .slice a2 d2.length p2, .slice a3 d3.length p3] 35)) w.heap.size a0 n0 p0 a1 n1 p1 a2 d2.length p2 a3 d3.length p3) := AnB.new _ _ _ _ _ _ _ _ _ _ _ _ _ _
  have H2 := hid (h2.alloc (.cells #[.slice a0 n0 p0, .slice a1 n1 p1, .slice a2 d2.length p2, .slice a3 d3.length p3] 35))
  have H3 := hid (h3.alloc (.cells #[.slice a0 n0 p0, .slice a1 n1 p1, .slice a2 d2.length p2, .slice a3 d3.length p3] 35))
  have HTL := hid (targF_len d2 k)
  have HBF : Hid (bareF d2 d3 k = (targF d2 k).filter fun t => inB t 0 ((d2.length : Int) - 1) && noPt d3 t) := rfl
  clear h2 h3
  go_enter Try.func66, Try.ntmps66
  go_wp2_with fail
  generalize w.alloc (.cells #[.slice a0 n0 p0, .slice a1 n1 p1, .slice a2 d2.length p2, .slice a3 d3.length p3] 35) = W at *
  refine (c_targets H2.out hk hn).mono ?_
  rintro e w4 ⟨a4, p4, rfl, hs4, hb4⟩
  have HT := hid hs4
  have HB4 := hid (bel_next HB.out HB.out.size hb4)
  have HX4 := hid (HX.out.below hb4)
  have H34 := hid (H3.out.below (Nat.le_refl _) hb4)
  obtain ⟨T, hT⟩ : ∃ T, targF d2 k = T := ⟨_, rfl⟩
  rw [hT] at HT HTL HBF ⊢
  have hTl := HTL.out
  clear hs4 hb4 hT H2 H3 HX HB HTL
  go_wp2
  go_loopw [5, 13] (fun v i wr => ∃ j : Nat, j ≤ T.length ∧ i = .int .i64 j ∧ Hid (OwnSl cInt (fun _ => False) wr w4.heap.size 2 v ((T.take j).filter fun t => inB t 0 ((d2.length : Int) - 1) && noPt d3 t)) ∧ Hid (Below w4.heap.size w4 wr)) (fun _ i _ => T.length - (intOf i).toNat)
  case atStart => exact ⟨0, Nat.zero_le _, rfl, own_nil _ _ _ _ _, Below.refl _ _⟩
  case round =>
    obtain ⟨j, hj, rfl, HO, HBE⟩ := hrel
    have hsz := HBE.out.size
    by_cases hlt : j < T.length
    · obtain ⟨b, off, rfl⟩ := HT.out.some_of hlt
      obtain ⟨t, ht, ht64, hct, hbt⟩ := (HT.out.below (Nat.le_refl _) HBE.out).int_at j hlt
      have HN := hid (filter_take (p := fun t => inB t 0 ((d2.length : Int) - 1) && noPt d3 t) ht)
      have hfl : ((T.take j).filter fun t => inB t 0 ((d2.length : Int) - 1) && noPt d3 t).length ≤ 2 := Nat.le_trans (List.length_filter_le _ _) (by simp; omega)
      have i0 : (0 : Int) ≤ (j : Int) := by omega
      have i1 : (j : Int) < (T.length : Int) := by omega
      have e1 : decide ((j : Int) < (T.length : Int)) = true := decide_eq_true i1
      have HXR := hid (HX4.out.below HBE.out)
      have x0 := HXR.out.c0
      have x1 := HXR.out.c1
      have x2 := HXR.out.c2
      have x3 := HXR.out.c3
      have H3R := hid (H34.out.below (Nat.le_refl _) HBE.out)
      clear ht
      obtain ⟨I, hI⟩ : ∃ I, inB t 0 ((d2.length : Int) - 1) = I := ⟨_, rfl⟩
      have HI := hid hI
      cases I
      · have HN2 : Hid ((T.take (j + 1)).filter (fun t => inB t 0 ((d2.length : Int) - 1) && noPt d3 t) = (T.take j).filter fun t => inB t 0 ((d2.length : Int) - 1) && noPt d3 t) := by
          unfold Hid; rw [HN.out, hI]; simp
        clear hI
        go_wp2_with (go_at_call 117; refine (c_isIndex _ _ _ hn6).mono ?_; rintro e w' ⟨rfl, rfl⟩; rw [HI.out])
        go_roundw
        case rel => exact ⟨j + 1, by omega, by go_num, by rw [HN2.out]; exact HO, HBE⟩
        case measure => simp [intOf]; omega
      · obtain ⟨P, hP⟩ : ∃ P, pointF d3 t = P := ⟨_, rfl⟩
        have HPC : Hid (Calls Try.prog 122 #[.agg #[.slice a0 n0 p0, .slice a1 n1 p1, .slice a2 d2.length p2, .slice a3 d3.length p3], .int .i64 t] wr fun e w' => e = .returned (.int .i64 P) ∧ Below wr.heap.size wr w') := by
          unfold Hid; rw [← hP]; exact c_anPoint H3R.out t
        by_cases hP0 : P < 0
        · have f1 : decide (P < 0) = true := decide_eq_true hP0
          have HN2 : Hid ((T.take (j + 1)).filter (fun t => inB t 0 ((d2.length : Int) - 1) && noPt d3 t) = ((T.take j).filter fun t => inB t 0 ((d2.length : Int) - 1) && noPt d3 t) ++ [t]) := by
            unfold Hid; rw [HN.out, hI]; simp [noPt, hP, hP0]
          clear hI hP hP0
          go_wp2_with (first | (go_at_call 117; refine (c_isIndex _ _ _ hn6).mono ?_; rintro e w' ⟨rfl, rfl⟩; rw [HI.out]) | (go_at_call 122; refine HPC.out.mono ?_; rintro e w5 ⟨rfl, hb5⟩; have HO5 := hid (own_below HO.out (Nat.le_refl _) hb5); have HB5 := hid (bel_next HBE.out HBE.out.size hb5); clear hb5) | (at_builtin; refine app_own (C := cInt) rfl (.tmp 28) (.tmp 30) _ rfl slI64 rfl rfl HO5.out no_blk t (rd_int ht64) (by omega) HB5.out.size ?_; intro v6 w6 hO6 hb6; have HO6 := hid hO6; have HB6 := hid (HB5.out.trans hb6); clear hO6 hb6))
          go_roundw
          case rel => exact ⟨j + 1, by omega, by go_num, by rw [HN2.out]; exact HO6, HB6⟩
          case measure => simp [intOf]; omega
        · have f1 : decide (P < 0) = false := decide_eq_false hP0
          have HN2 : Hid ((T.take (j + 1)).filter (fun t => inB t 0 ((d2.length : Int) - 1) && noPt d3 t) = (T.take j).filter fun t => inB t 0 ((d2.length : Int) - 1) && noPt d3 t) := by
            unfold Hid; rw [HN.out, hI]; simp [noPt, hP]; omega
          clear hI hP hP0
          go_wp2_with (first | (go_at_call 117; refine (c_isIndex _ _ _ hn6).mono ?_; rintro e w' ⟨rfl, rfl⟩; rw [HI.out]) | (go_at_call 122; refine HPC.out.mono ?_; rintro e w5 ⟨rfl, hb5⟩; have HO5 := hid (own_below HO.out (Nat.le_refl _) hb5); have HB5 := hid (bel_next HBE.out HBE.out.size hb5); clear hb5))
          go_roundw
          case rel => exact ⟨j + 1, by omega, by go_num, by rw [HN2.out]; exact HO5, HB5⟩
          case measure => simp [intOf]; omega
    · have e1 : decide ((j : Int) < (T.length : Int)) = false := by simp; omega
      have HK : Hid (T.take j = T) := List.take_of_length_le (by omega)
      rw [HK.out, ← HBF.out] at HO
      go_wp2
      go_ret
      exact ⟨_, rfl, own_base HO.out HB4.out.size, bel_next HB4.out HB4.out.size HBE.out⟩
end Go.Proofs.Ytedmhdinfedhhaa
