/- Contracts: proofs as trees. -/
import Derived.Test.YtcbaohcgeoaccaaDoorHNode
import Derived.Test.YtcbaohcgeoaccaaDoorTree
import Derived.Test.YtcbaohcgeoaccaaDoorL03o
import Derived.Deep.RegionHeld3
namespace Go.Proofs.YtcbaohcgeoaccaaDoor
open Go.RowKit

def zeroT (t : Term) : Bool := (t.1 == 0) && ((t.2.length : Int) == 0)
def arI : Option Nat → Int
  | some a => a
  | none => -1
def node1 (d : Nd) : Bool := (((d.2.1 == 0) && zeroT d.2.2.1) && decide ((d.2.2.2.length : Int) ≤ 20)) && allIn d.2.2.2 0 1000000
def node2 (d : Nd) : Bool := ((d.2.1 == 0) && ((d.2.2.2.length : Int) == 0)) && validTerm d.2.2.1
def node3 (d : Nd) : Bool := ((inB d.2.1 0 19) && zeroT d.2.2.1) && ((d.2.2.2.length : Int) == 0)
def nodeBe (d : Nd) : Nat := if d.1 = 1 then 0 else if d.1 = 2 then 2 else 1
def nodeOk (d : Nd) : Bool := if d.1 = 1 then node1 d else if d.1 = 2 then node2 d else if d.1 = 3 then node3 d else false
def nodeAr (d : Nd) : Option Nat := if nodeOk d then some (nodeBe d) else none
theorem c_isZero (c : Int) (a : Option Addr) (cap n : Nat) (w : World) :
    Calls Tryd.prog 177 #[.agg #[.int .i64 c, .slice a n cap]] w fun e w' => e = .returned (.bool ((c == 0) && ((n : Int) == 0))) ∧ Below w.heap.size w w' := by
  by_cases h : c = 0
  · have h' : (c == 0) = true := by simp [h]
    have HF : Hid (((c == 0) && ((n : Int) == 0)) = ((n : Int) == 0)) := by unfold Hid; rw [h']; rfl
    clear h
    go_enter Tryd.func177, Tryd.ntmps177
    go_wp2
    go_ret
    exact ⟨ret_bool HF.out.symm, (Below.refl _ _).alloc (Nat.le_refl _) _⟩
  · have h' : (c == 0) = false := by simp [h]
    have HF : Hid (((c == 0) && ((n : Int) == 0)) = false) := by unfold Hid; rw [h']; rfl
    clear h
    go_enter Tryd.func177, Tryd.ntmps177
    go_wp2
    go_ret
    exact ⟨ret_bool HF.out.symm, (Below.refl _ _).alloc (Nat.le_refl _) _⟩
set_option maxRecDepth 100000 in
theorem c_subproofs {S : Nat → Prop} {d0 d1 d2 : Int} {a3 : Option Addr} {p3 : Nat} {d3 : List Int} {a4 : Option Addr} {p4 : Nat} {d4 : List Int} {w : World} (h3 : SlRd cInt S w a3 p3 d3) (h4 : SlRd cInt S w a4 p4 d4) :
    Calls Tryd.prog 157 #[.agg #[.int .i64 d0, .int .i64 d1, .int .i64 d2, .slice a3 d3.length p3, .slice a4 d4.length p4]] w fun e w' => e = .returned (.int .i64 (arI (nodeAr (d0, d1, (d2, d3), d4)))) ∧ Below w.heap.size w w' := by
  have H3 := hid (h3.alloc (.cells #[.int .i64 d0, .int .i64 d1, .int .i64 d2, .slice a3 d3.length p3, .slice a4 d4.length p4] 120))
  have H4 := hid (h4.alloc (.cells #[.int .i64 d0, .int .i64 d1, .int .i64 d2, .slice a3 d3.length p3, .slice a4 d4.length p4] 120))
  have HB : Hid (Below w.heap.size w (w.alloc (.cells #[.int .i64 d0, .int .i64 d1, .int .i64 d2, .slice a3 d3.length p3, .slice a4 d4.length p4] 120))) := (Below.refl _ _).alloc (Nat.le_refl _) _
  have t0 : (w.alloc (.cells #[.int .i64 d0, .int .i64 d1, .int .i64 d2, .slice a3 d3.length p3, .slice a4 d4.length p4] 120)).cell? ⟨w.heap.size, 0, none⟩ = some (.int .i64 d0) := by rw [World.cell?_alloc_at _ _ _ _ rfl]; rfl
  have t1 : (w.alloc (.cells #[.int .i64 d0, .int .i64 d1, .int .i64 d2, .slice a3 d3.length p3, .slice a4 d4.length p4] 120)).cell? ⟨w.heap.size, 1, none⟩ = some (.int .i64 d1) := by rw [World.cell?_alloc_at _ _ _ _ rfl]; rfl
  have t2 : (w.alloc (.cells #[.int .i64 d0, .int .i64 d1, .int .i64 d2, .slice a3 d3.length p3, .slice a4 d4.length p4] 120)).cell? ⟨w.heap.size, 2, none⟩ = some (.int .i64 d2) := by rw [World.cell?_alloc_at _ _ _ _ rfl]; rfl
  have t3 : (w.alloc (.cells #[.int .i64 d0, .int .i64 d1, .int .i64 d2, .slice a3 d3.length p3, .slice a4 d4.length p4] 120)).cell? ⟨w.heap.size, 3, none⟩ = some (.slice a3 d3.length p3) := by rw [World.cell?_alloc_at _ _ _ _ rfl]; rfl
  have t4 : (w.alloc (.cells #[.int .i64 d0, .int .i64 d1, .int .i64 d2, .slice a3 d3.length p3, .slice a4 d4.length p4] 120)).cell? ⟨w.heap.size, 4, none⟩ = some (.slice a4 d4.length p4) := by rw [World.cell?_alloc_at _ _ _ _ rfl]; rfl
  have z0 : w.heap.size < (w.alloc (.cells #[.int .i64 d0, .int .i64 d1, .int .i64 d2, .slice a3 d3.length p3, .slice a4 d4.length p4] 120)).heap.size := by simp
  have hl4 := h4.len_le
  clear h3 h4
  go_enter Tryd.func157, Tryd.ntmps157
  go_wp2_with fail
  generalize w.alloc (.cells #[.int .i64 d0, .int .i64 d1, .int .i64 d2, .slice a3 d3.length p3, .slice a4 d4.length p4] 120) = W0 at *
  go_region_held3 (fun w' => w'.cell? ⟨w.heap.size, 0, none⟩ = some (.int .i64 d0) ∧ w'.cell? ⟨w.heap.size, 1, none⟩ = some (.int .i64 d1) ∧ w'.cell? ⟨w.heap.size, 2, none⟩ = some (.int .i64 d2) ∧ w'.cell? ⟨w.heap.size, 3, none⟩ = some (.slice a3 d3.length p3) ∧ w'.cell? ⟨w.heap.size, 4, none⟩ = some (.slice a4 d4.length p4)) (first | exact ⟨t0, t1, t2, t3, t4⟩ | exact kk1) (first | (go_at_call 177; refine (c_isZero _ _ _ _ _).mono ?_; rintro e w1 ⟨rfl, hb1⟩; have kk1 := And.intro (cell_below hb1 z0 t0) (And.intro (cell_below hb1 z0 t1) (And.intro (cell_below hb1 z0 t2) (And.intro (cell_below hb1 z0 t3) (cell_below hb1 z0 t4)))); have H31 := hid (H3.out.drew.below (Nat.le_refl _) hb1); have H41 := hid (H4.out.drew.below (Nat.le_refl _) hb1); have HB1 := hid (bel_next HB.out.drew HB.out.drew.size hb1); clear hb1))
  obtain ⟨k0, k1, k2, k3, k4⟩ := kk1
  clear t0 t1 t2 t3 t4 z0 H3 H4 HB
  have HND : Hid (nodeAr (d0, d1, (d2, d3), d4) = if (if d0 = 1 then (((d1 == 0) && (d2 == 0 && ((d3.length : Int) == 0))) && decide ((d4.length : Int) ≤ 20)) && allIn d4 0 1000000 else if d0 = 2 then ((d1 == 0) && ((d4.length : Int) == 0)) && validTerm (d2, d3) else if d0 = 3 then ((inB d1 0 19) && (d2 == 0 && ((d3.length : Int) == 0))) && ((d4.length : Int) == 0) else false) then some (if d0 = 1 then 0 else if d0 = 2 then 2 else 1) else none) := rfl
  generalize hf : (d1 == 0) = f at HND ⊢
  generalize hz : (d2 == 0 && ((d3.length : Int) == 0)) = z at HND ⊢
  generalize hm : ((d4.length : Int) == 0) = m at HND ⊢
  clear hf hz hm
  by_cases h1 : d0 = 1
  · subst h1
    obtain ⟨A, hA⟩ : ∃ A, allIn d4 0 1000000 = A := ⟨_, rfl⟩
    have HA := hid hA
    obtain ⟨L, hL⟩ : ∃ L, decide ((d4.length : Int) ≤ 20) = L := ⟨_, rfl⟩
    have HF : Hid (nodeAr (1, d1, (d2, d3), d4) = if ((f && z) && L) && A then some 0 else none) := by unfold Hid; rw [HND.out, hA, hL]; rfl
    clear hA
    cases f
    · go_wp2
      go_ret
      exact ⟨ret_int (by rw [HF.out]; rfl), HB1.out⟩
    · cases z
      · go_wp2
        go_ret
        exact ⟨ret_int (by rw [HF.out]; rfl), HB1.out⟩
      · cases L
        · go_wp2
          go_ret
          exact ⟨ret_int (by rw [HF.out]; rfl), HB1.out⟩
        · cases A
          all_goals
            go_wp2_with (go_at_call 117; refine (c_allWithin _ _ _ _ _ _ H41.out).mono ?_; rintro e w2 ⟨rfl, rfl⟩; rw [HA.out])
            go_ret
            exact ⟨ret_int (by rw [HF.out]; rfl), HB1.out⟩
  · by_cases h2 : d0 = 2
    · subst h2
      obtain ⟨V, hV⟩ : ∃ V, validTerm (d2, d3) = V := ⟨_, rfl⟩
      have HV := hid hV
      have HF : Hid (nodeAr (2, d1, (d2, d3), d4) = if ((f && m) && V) then some 2 else none) := by unfold Hid; rw [HND.out, hV]; rfl
      clear hV h1
      cases f
      · go_wp2
        go_ret
        exact ⟨ret_int (by rw [HF.out]; rfl), HB1.out⟩
      · cases m
        · go_wp2
          go_ret
          exact ⟨ret_int (by rw [HF.out]; rfl), HB1.out⟩
        · cases V
          all_goals
            go_wp2_with (go_at_call 75; refine (c_ValidTerm _ _ _ _ _ H31.out).mono ?_; rintro e w2 ⟨rfl, hb2⟩; rw [HV.out]; have HB2 := hid (bel_next HB1.out HB1.out.size hb2); clear hb2)
            go_ret
            exact ⟨ret_int (by rw [HF.out]; rfl), HB2.out⟩
    · have e1 : (d0 == 1) = false := by simpa using h1
      have e2 : (d0 == 2) = false := by simpa using h2
      by_cases h3 : d0 = 3
      · subst h3
        obtain ⟨I, hI⟩ : ∃ I, inB d1 0 19 = I := ⟨_, rfl⟩
        have HI := hid hI
        have HF : Hid (nodeAr (3, d1, (d2, d3), d4) = if ((I && z) && m) then some 1 else none) := by unfold Hid; rw [HND.out, hI]; rfl
        clear hI h1 h2
        cases I
        · go_wp2_with (go_at_call 90; refine (c_within _ _ _ _).mono ?_; rintro e w2 ⟨rfl, rfl⟩; rw [HI.out])
          go_ret
          exact ⟨ret_int (by rw [HF.out]; rfl), HB1.out⟩
        · cases z
          · go_wp2_with (go_at_call 90; refine (c_within _ _ _ _).mono ?_; rintro e w2 ⟨rfl, rfl⟩; rw [HI.out])
            go_ret
            exact ⟨ret_int (by rw [HF.out]; rfl), HB1.out⟩
          · cases m
            all_goals
              go_wp2_with (go_at_call 90; refine (c_within _ _ _ _).mono ?_; rintro e w2 ⟨rfl, rfl⟩; rw [HI.out])
              go_ret
              exact ⟨ret_int (by rw [HF.out]; rfl), HB1.out⟩
      · have e3 : (d0 == 3) = false := by simpa using h3
        have HF : Hid (nodeAr (d0, d1, (d2, d3), d4) = none) := by unfold Hid; rw [HND.out]; simp [h1, h2, h3]
        clear h1 h2 h3
        go_wp2
        go_ret
        exact ⟨ret_int (by rw [HF.out]; rfl), HB1.out⟩
def arN (ps : List Nd) (i : Nat) : Option Nat := match ps[i]? with
  | some d => nodeAr d
  | none => none
theorem arN_at {ps : List Nd} {k : Nat} {d : Nd} (h : ps[k]? = some d) : arN ps k = nodeAr d := by unfold arN; rw [h]
theorem nodeAr_le {d : Nd} {a : Nat} (h : nodeAr d = some a) : a ≤ 2 := by
  unfold nodeAr nodeBe at h
  split at h
  · cases h; split
    · omega
    · split <;> omega
  · cases h
def behV (r : Nat × Nat × Bool) : Value := .tuple #[.int .i64 r.1, .int .i64 r.2.1, .bool r.2.2]
theorem c_behind_out {a : Option Addr} {p : Nat} {ps : List Nd} {k : Nat} {w : World} (hk : ps.length ≤ k) :
    Calls Tryd.prog 131 #[.slice a ps.length p, .int .i64 k] w fun e w' => e = .returned (behV (behR (arN ps) ps.length k)) ∧ Below w.heap.size w w' := by
  have HF : Hid (behR (arN ps) ps.length k = (0, 0, false)) := behR_none (walkT_out (c := 0) hk)
  have e1 : decide ((ps.length : Int) ≤ (k : Int)) = true := by simp; omega
  go_enter Tryd.func131, Tryd.ntmps131
  go_wp2
  go_ret3
  exact ⟨by rw [HF.out]; rfl, Below.refl _ _⟩
set_option maxHeartbeats 1000000 in
set_option maxRecDepth 100000 in
theorem c_behindProof {S : Nat → Prop} {a : Option Addr} {p : Nat} {ps : List Nd} (hn : ps.length ≤ 60) : ∀ (m k : Nat) (w : World), ps.length - k ≤ m → SlRd cNode S w a p ps →
    Calls Tryd.prog 131 #[.slice a ps.length p, .int .i64 k] w fun e w' => e = .returned (behV (behR (arN ps) ps.length k)) ∧ Below w.heap.size w w' := by
  intro m
  induction m with
  | zero => intro k w hm h; exact c_behind_out (by omega)
  | succ m ih =>
    intro k w hm h
    by_cases hlt : k < ps.length
    · have IH := hid ih
      have H := hid h
      obtain ⟨b, off, rfl⟩ := h.some_of hlt
      obtain ⟨d0, d1, d2, a3, p3, d3, a4, p4, d4, hz, hi0, hi1, hi2, hs3, hs4, hc0, hc1, hc2, hc3, hc4, hb⟩ := h.nd_at k hlt
      have HA := hid (arN_at hz)
      have HC := hid (c_subproofs (d0 := d0) (d1 := d1) (d2 := d2) hs3 hs4)
      have e1 : decide ((ps.length : Int) ≤ (k : Int)) = false := by simp; omega
      have i0 : (0 : Int) ≤ (k : Int) := by omega
      have i1 : (k : Int) < (ps.length : Int) := by omega
      have hw1 : IntKind.i64.wrap ((k : Int) + 1) = (k : Int) + 1 := wrap_in _ (by omega) (by omega)
      clear ih h hz hs3 hs4 hi0 hi1 hi2
      obtain ⟨r, hr⟩ : ∃ r, nodeAr (d0, d1, (d2, d3), d4) = r := ⟨_, rfl⟩
      have HR := hid hr
      have HAR : Hid (arN ps k = r) := HA.out.trans hr
      have hr2 : ∀ c, r = some c → c ≤ 2 := fun c hc => nodeAr_le (hr.trans hc)
      clear hr HA
      cases r with
      | none =>
        have HF : Hid (behR (arN ps) ps.length k = (0, 0, false)) := behR_none (walkT_bad (c := 0) HAR.out)
        clear hr2
        go_enter Tryd.func131, Tryd.ntmps131
        go_wp2_with (go_at_call 157; refine HC.out.mono ?_; rintro e w1 ⟨rfl, hb1⟩; rw [HR.out]; simp only [arI]; have HB1 := hid hb1; clear hb1)
        go_ret3
        exact ⟨by rw [HF.out]; rfl, HB1.out⟩
      | some c =>
        have hc2 := hr2 c rfl
        have HW : Hid (walkT (arN ps) ps.length 1 k = walkT (arN ps) ps.length c (k + 1)) := walkT_one hlt HAR.out
        clear hr2
        go_enter Tryd.func131, Tryd.ntmps131
        go_wp2_with (go_at_call 157; refine HC.out.mono ?_; rintro e w1 ⟨rfl, hb1⟩; rw [HR.out]; simp only [arI]; have HB1 := hid hb1; clear hb1)
        go_loopw [1, 7, 8] (fun kv cv dv wr => ∃ k' c' d' : Nat, kv = .int .i64 k' ∧ cv = .int .i64 c' ∧ dv = .int .i64 d' ∧ k < k' ∧ c' ≤ 2 ∧ d' ≤ 60 ∧ Hid (walkT (arN ps) ps.length c (k + 1) = walkT (arN ps) ps.length c' k') ∧ Hid (∀ e, walkT (arN ps) ps.length c' k' = some e → max d' (deepT (arN ps) ps.length c' k') = deepT (arN ps) ps.length c (k + 1)) ∧ Hid (Below w.heap.size w wr)) (fun _ cv _ _ => (intOf cv).toNat)
        case atStart => exact ⟨k + 1, c, 0, by go_num, rfl, rfl, by omega, hc2, by omega, rfl, fun _ _ => by omega, HB1⟩
        case round =>
          obtain ⟨k', c', d', rfl, rfl, rfl, hkk, hcc, hdd, HWK, HDK, HB⟩ := hrel
          by_cases hc0' : 0 < c'
          · obtain ⟨c'', rfl⟩ : ∃ c'', c' = c'' + 1 := ⟨c' - 1, by omega⟩
            have HI := hid (IH.out k' wr (by omega) (H.out.below (Nat.le_refl _) HB.out))
            have e2 : decide ((0 : Int) < (c'' : Int) + 1) = true := decide_eq_true (by omega)
            cases he : walkT (arN ps) ps.length 1 k' with
            | none =>
              have HF : Hid (behR (arN ps) ps.length k = (0, 0, false)) := behR_none (by rw [HW.out, HWK.out, walkT_step, he]; rfl)
              have HG : Hid (behR (arN ps) ps.length k' = (0, 0, false)) := behR_none he
              clear he HDK HWK
              go_wp2_with (go_at_call 131; refine HI.out.mono ?_; rintro e w2 ⟨rfl, hb2⟩; rw [HG.out]; simp only [behV]; have HB2 := hid (bel_next HB.out HB.out.size hb2); clear hb2)
              go_ret3
              exact ⟨by rw [HF.out]; rfl, HB2.out⟩
            | some e1 =>
              have hge := walkT_ge ps.length 1 k' e1 (by omega) he
              have HG : Hid (behR (arN ps) ps.length k' = (e1, deepT (arN ps) ps.length 1 k', true)) := behR_some he
              have HWN : Hid (walkT (arN ps) ps.length c (k + 1) = walkT (arN ps) ps.length c'' e1) := by unfold Hid; rw [HWK.out, walkT_step, he]; rfl
              have hdl := deepT_le (ar := arN ps) (n := ps.length) _ 1 k' (Nat.le_refl _)
              obtain ⟨D, hD⟩ : ∃ D, deepT (arN ps) ps.length 1 k' = D := ⟨_, rfl⟩
              have HDN : Hid (∀ e, walkT (arN ps) ps.length c'' e1 = some e → max (max d' D) (deepT (arN ps) ps.length c'' e1) = deepT (arN ps) ps.length c (k + 1)) := by
                intro e h9
                have := HDK.out e (by rw [walkT_step, he]; exact h9)
                rw [deepT_step he, hD] at this
                rw [← this]; omega
              rw [hD] at HG hdl
              clear he HDK HWK hD
              go_wp2_with (go_at_call 131; refine HI.out.mono ?_; rintro e w2 ⟨rfl, hb2⟩; rw [HG.out]; simp only [behV]; have HB2 := hid (bel_next HB.out HB.out.size hb2); clear hb2)
              go_roundw
              case rel => exact ⟨e1, c'', max d' D, rfl, rfl, by split <;> (congr 2; omega), by omega, by omega, by omega, HWN, HDN, HB2⟩
              case measure => simp [intOf]
          · obtain rfl : c' = 0 := by omega
            have e2 : decide ((0 : Int) < ((0 : Nat) : Int)) = false := rfl
            have hF0 : behR (arN ps) ps.length k = (k', d' + 1, true) := by
              have h1 := HWK.out
              rw [walkT_zero] at h1
              have h2 := HDK.out k' walkT_zero
              rw [deepT_zero] at h2
              rw [behR_some (HW.out.trans h1), deepT_one hlt HAR.out h1, ← h2]
              simp
            have HF := hid hF0
            have hw2 : IntKind.i64.wrap ((d' : Int) + 1) = (d' : Int) + 1 := wrap_in _ (by omega) (by omega)
            clear HWK HDK hF0
            go_wp2
            go_ret3
            exact ⟨by rw [HF.out]; simp [behV], HB.out⟩
    · exact c_behind_out (by omega)
def isProofF (ps : List Nd) : Bool := decide (ps.length ≤ 60) && treeB (arN ps) ps.length
theorem isProof_beh {ps : List Nd} (h : ps.length ≤ 60) : isProofF ps = ((behR (arN ps) ps.length 0).2.2 && (((behR (arN ps) ps.length 0).1 : Int) == (ps.length : Int))) := by
  unfold isProofF treeB behR
  rw [decide_eq_true h, Bool.true_and]
  cases walkT (arN ps) ps.length 1 0 with
  | none => rfl
  | some e => simp only [Option.some.injEq, Bool.true_and]; rw [Bool.eq_iff_iff]; simp <;> omega
theorem c_IsProof {S : Nat → Prop} {a : Option Addr} {p : Nat} {ps : List Nd} {w : World} (h : SlRd cNode S w a p ps) :
    Calls Tryd.prog 95 #[.slice a ps.length p] w fun e w' => e = .returned (.bool (isProofF ps)) ∧ Below w.heap.size w w' := by
  have hl := h.len_le
  by_cases h60 : ps.length ≤ 60
  · have HC := hid (c_behindProof h60 ps.length 0 w (by omega) h)
    have e1 : decide ((60 : Int) < (ps.length : Int)) = false := decide_eq_false (by omega)
    have e1n : decide (60 < ps.length) = false := decide_eq_false (by omega)
    have HF := hid (isProof_beh h60)
    obtain ⟨⟨e, d, ok⟩, hr⟩ : ∃ r, behR (arN ps) ps.length 0 = r := ⟨_, rfl⟩
    have HR := hid hr
    have HF2 : Hid (isProofF ps = (ok && ((e : Int) == (ps.length : Int)))) := by unfold Hid; rw [HF.out, hr]
    clear h hr HF
    cases ok
    all_goals
      go_enter Tryd.func95, Tryd.ntmps95
      go_wp2_with (go_at_call 131; refine HC.out.mono ?_; rintro e w1 ⟨rfl, hb1⟩; rw [HR.out]; simp only [behV]; have HB1 := hid hb1; clear hb1)
      go_ret
      exact ⟨ret_bool (by rw [HF2.out]; rfl), HB1.out⟩
  · have e1 : decide ((60 : Int) < (ps.length : Int)) = true := decide_eq_true (by omega)
    have e1n : decide (60 < ps.length) = true := decide_eq_true (by omega)
    have HF : Hid (isProofF ps = false) := by unfold Hid isProofF; simp [h60]
    clear h
    go_enter Tryd.func95, Tryd.ntmps95
    go_wp2
    go_ret
    exact ⟨ret_bool HF.out.symm, Below.refl _ _⟩
end Go.Proofs.YtcbaohcgeoaccaaDoor
