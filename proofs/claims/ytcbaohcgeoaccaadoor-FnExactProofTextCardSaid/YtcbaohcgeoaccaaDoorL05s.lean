/- Contracts: proofs as trees, the reference's side. -/
import Derived.Test.YtcbaohcgeoaccaaDoorL05
import Derived.Test.YtcbaohcgeoaccaaDoorL02s
namespace Go.Proofs.YtcbaohcgeoaccaaDoor
open Go.RowKit

theorem c_l05Zero (b o : Nat) (c : Int) (a : Option Addr) (cap n : Nat) (w : World) (hc : w.cell? ⟨b, o, none⟩ = some (.int .i64 c)) (hc' : w.cell? ⟨b, o + 1, none⟩ = some (.slice a n cap)) :
    Calls Tryd.prog 155 #[.pointer (some ⟨b, o, none⟩)] w fun e w' => e = .returned (.bool ((c == 0) && ((n : Int) == 0))) ∧ w = w' := by
  by_cases h : c = 0
  · have h' : (c == 0) = true := by simp [h]
    have HF : Hid (((c == 0) && ((n : Int) == 0)) = ((n : Int) == 0)) := by unfold Hid; rw [h']; rfl
    clear h
    go_enter Tryd.func155, Tryd.ntmps155
    go_wp2
    go_ret
    exact ⟨ret_bool HF.out.symm, rfl⟩
  · have h' : (c == 0) = false := by simp [h]
    have HF : Hid (((c == 0) && ((n : Int) == 0)) = false) := by unfold Hid; rw [h']; rfl
    clear h
    go_enter Tryd.func155, Tryd.ntmps155
    go_wp2
    go_ret
    exact ⟨ret_bool HF.out.symm, rfl⟩
theorem c_l05Multipliers {S : Nat → Prop} (a : Option Addr) (cap : Nat) (zs : List Int) (w : World) (h : SlRd cInt S w a cap zs) :
    Calls Tryd.prog 156 #[.slice a zs.length cap] w fun e w' => e = .returned (.bool (decide ((zs.length : Int) ≤ 20) && allIn zs 0 1000000)) ∧ w = w' := by
  have hl := h.len_le
  have H := hid h
  clear h
  go_enter Tryd.func156, Tryd.ntmps156
  go_wp2
  go_loop [3] (fun i => ∃ k : Nat, k ≤ zs.length ∧ i = .int .i64 k ∧ Hid ((zs.take k).all (fun z => inB z 0 1000000) = true)) (fun i => zs.length - (intOf i).toNat)
  case atStart => exact ⟨0, Nat.zero_le _, rfl, rfl⟩
  case round =>
    obtain ⟨k, hk, rfl, HA⟩ := hrel
    by_cases hlt : k < zs.length
    · obtain ⟨b, off, rfl⟩ := H.out.some_of hlt
      obtain ⟨z, hz, hz2, hc, hb⟩ := H.out.int_at k hlt
      have HZ := hid hz
      clear hz
      by_cases hin : inB z 0 1000000 = true
      · go_wp2_with (go_at_call 110; refine (c_l00In _ _ _ _).mono ?_; rintro e w' ⟨rfl, rfl⟩)
        go_round
        case rel => exact ⟨k + 1, by omega, by go_num, (all_take HA.out HZ.out).trans hin⟩
        case measure => simp [intOf]; omega
      · have hin' : inB z 0 1000000 = false := by simpa using hin
        go_wp2_with (go_at_call 110; refine (c_l00In _ _ _ _).mono ?_; rintro e w' ⟨rfl, rfl⟩)
        go_ret
        exact ⟨ret_bool (by have := all_false (p := fun z => inB z 0 1000000) HZ.out hin'; simp only [allIn, this]; simp), rfl⟩
    · have HF : Hid (allIn zs 0 1000000 = true) := all_end HA.out (by omega)
      go_wp2
      go_ret
      exact ⟨ret_bool (by rw [HF.out]; simp), rfl⟩
set_option maxRecDepth 100000 in
theorem c_l05Node {S : Nat → Prop} {b o : Nat} {d0 d1 d2 : Int} {a3 : Option Addr} {p3 : Nat} {d3 : List Int} {a4 : Option Addr} {p4 : Nat} {d4 : List Int} {w : World} (h3 : SlRd cInt S w a3 p3 d3) (h4 : SlRd cInt S w a4 p4 d4)
    (t0 : w.cell? ⟨b, o, none⟩ = some (.int .i64 d0)) (t1 : w.cell? ⟨b, o + 1, none⟩ = some (.int .i64 d1)) (t2 : w.cell? ⟨b, o + 2, none⟩ = some (.int .i64 d2)) (t3 : w.cell? ⟨b, o + 3, none⟩ = some (.slice a3 d3.length p3)) (t4 : w.cell? ⟨b, o + 4, none⟩ = some (.slice a4 d4.length p4)) :
    Calls Tryd.prog 129 #[.pointer (some ⟨b, o, none⟩)] w fun e w' => e = .returned (.bool (nodeOk (d0, d1, (d2, d3), d4))) ∧ w = w' := by
  have hl4 := h4.len_le
  have HZ := hid (c_l05Zero b (o + 2) d2 a3 p3 d3.length w t2 t3)
  have HM := hid (c_l05Multipliers a4 p4 d4 w h4)
  have HI := hid (c_l02Is b (o + 2) d2 a3 p3 d3 w t2 t3 h3)
  clear h3 h4
  have HND : Hid (nodeOk (d0, d1, (d2, d3), d4) = if d0 = 1 then (((d1 == 0) && (d2 == 0 && ((d3.length : Int) == 0))) && decide ((d4.length : Int) ≤ 20)) && allIn d4 0 1000000 else if d0 = 2 then ((d1 == 0) && ((d4.length : Int) == 0)) && validTerm (d2, d3) else if d0 = 3 then ((inB d1 0 19) && (d2 == 0 && ((d3.length : Int) == 0))) && ((d4.length : Int) == 0) else false) := rfl
  obtain ⟨f, hf⟩ : ∃ f, (d1 == 0) = f := ⟨_, rfl⟩
  obtain ⟨z, hz⟩ : ∃ z, (d2 == 0 && ((d3.length : Int) == 0)) = z := ⟨_, rfl⟩
  obtain ⟨m, hm⟩ : ∃ m, ((d4.length : Int) == 0) = m := ⟨_, rfl⟩
  have HZ2 := hid hz
  rw [hf, hz, hm] at HND
  clear hz
  by_cases h1 : d0 = 1
  · subst h1
    obtain ⟨A, hA⟩ : ∃ A, (decide ((d4.length : Int) ≤ 20) && allIn d4 0 1000000) = A := ⟨_, rfl⟩
    have HA := hid hA
    have HF : Hid (nodeOk (1, d1, (d2, d3), d4) = ((f && z) && A)) := by unfold Hid; rw [HND.out, ← hA]; simp [Bool.and_assoc]
    clear hA hm
    cases f
    all_goals
      cases z
      all_goals
        cases A
        all_goals
          go_enter Tryd.func129, Tryd.ntmps129
          go_wp2_with (first | (go_at_call 155; refine HZ.out.mono ?_; rintro e w1 ⟨rfl, rfl⟩; rw [HZ2.out]) | (go_at_call 156; refine HM.out.mono ?_; rintro e w1 ⟨rfl, rfl⟩; rw [HA.out]))
          go_ret
          exact ⟨ret_bool (by rw [HF.out]; rfl), rfl⟩
  · by_cases h2 : d0 = 2
    · subst h2
      obtain ⟨V, hV⟩ : ∃ V, validTerm (d2, d3) = V := ⟨_, rfl⟩
      have HV := hid hV
      have HF : Hid (nodeOk (2, d1, (d2, d3), d4) = ((f && V) && m)) := by unfold Hid; rw [HND.out, hV]; cases f <;> cases m <;> cases V <;> rfl
      clear hV h1
      cases f
      all_goals
        cases V
        all_goals
          cases m
          all_goals
            go_enter Tryd.func129, Tryd.ntmps129
            go_wp2_with (go_at_call 72; refine HI.out.mono ?_; rintro e w1 ⟨rfl, rfl⟩; rw [HV.out])
            go_ret
            exact ⟨ret_bool (by rw [HF.out]; rfl), rfl⟩
    · have e1 : (d0 == 1) = false := by simpa using h1
      have e2 : (d0 == 2) = false := by simpa using h2
      by_cases h3 : d0 = 3
      · subst h3
        obtain ⟨I, hI⟩ : ∃ I, inB d1 0 19 = I := ⟨_, rfl⟩
        have HIn := hid hI
        have HF : Hid (nodeOk (3, d1, (d2, d3), d4) = ((I && z) && m)) := by unfold Hid; rw [HND.out, hI]; rfl
        clear hI h1 h2 hf
        cases I
        all_goals
          cases z
          all_goals
            cases m
            all_goals
              go_enter Tryd.func129, Tryd.ntmps129
              go_wp2_with (first | (go_at_call 110; refine (c_l00In _ _ _ _).mono ?_; rintro e w1 ⟨rfl, rfl⟩; rw [HIn.out]) | (go_at_call 155; refine HZ.out.mono ?_; rintro e w1 ⟨rfl, rfl⟩; rw [HZ2.out]))
              go_ret
              exact ⟨ret_bool (by rw [HF.out]; rfl), rfl⟩
      · have e3 : (d0 == 3) = false := by simpa using h3
        have HF : Hid (nodeOk (d0, d1, (d2, d3), d4) = false) := by unfold Hid; rw [HND.out]; simp [h1, h2, h3]
        clear h1 h2 h3
        go_enter Tryd.func129, Tryd.ntmps129
        go_wp2
        go_ret
        exact ⟨ret_bool HF.out.symm, rfl⟩
def beN (ps : List Nd) (i : Nat) : Nat := match ps[i]? with
  | some d => nodeBe d
  | none => 0
theorem beN_at {ps : List Nd} {k : Nat} {d : Nd} (h : ps[k]? = some d) : beN ps k = nodeBe d := by unfold beN; rw [h]
def endF (ps : List Nd) (k : Nat) : Option Nat := walkT (fun i => some (beN ps i)) ps.length 1 k
def endI : Option Nat → Int
  | some e => e
  | none => -1
theorem arN_be {ps : List Nd} (i a : Nat) (h : arN ps i = some a) : a = beN ps i := by
  unfold arN at h
  cases hd : ps[i]? with
  | none => rw [hd] at h; cases h
  | some d =>
    rw [hd] at h
    rw [beN_at hd]
    simp only [nodeAr] at h
    split at h
    · cases h; rfl
    · cases h
theorem all_arN (ps : List Nd) : (List.range ps.length).all (fun i => (arN ps i).isSome) = ps.all nodeOk := by
  have h1 : ∀ i (d : Nd), ps[i]? = some d → (arN ps i).isSome = nodeOk d := by
    intro i d h
    rw [arN_at h]; unfold nodeAr; split <;> simp_all
  rw [Bool.eq_iff_iff, List.all_eq_true, List.all_eq_true]
  constructor
  · intro h d hd
    obtain ⟨i, hi, hd⟩ := List.getElem_of_mem hd
    have := h i (List.mem_range.2 hi)
    rw [h1 i d (by rw [List.getElem?_eq_getElem hi, hd])] at this
    exact this
  · intro h i hi
    have hi := List.mem_range.1 hi
    rw [h1 i ps[i] (List.getElem?_eq_getElem hi)]
    exact h _ (List.getElem_mem hi)
theorem isProof_split (ps : List Nd) : isProofF ps = ((inB (ps.length : Int) 1 60 && ps.all nodeOk) && (endI (endF ps 0) == (ps.length : Int))) := by
  unfold isProofF
  rw [tree_split (arN ps) (beN ps) ps.length arN_be, all_arN]
  have h2 : treeB (fun i => some (beN ps i)) ps.length = (decide (1 ≤ ps.length) && (endI (endF ps 0) == (ps.length : Int))) := by
    rw [Bool.eq_iff_iff]
    constructor
    · intro h
      have h1 := treeB_pos h
      unfold treeB at h
      rw [decide_eq_true_eq] at h
      unfold endF
      rw [h]
      simp [endI]; exact h1
    · intro h
      simp only [Bool.and_eq_true, decide_eq_true_eq, beq_iff_eq] at h
      unfold treeB
      rw [decide_eq_true_eq]
      obtain ⟨h1, h2⟩ := h
      unfold endF endI at h2
      cases hw : walkT (fun i => some (beN ps i)) ps.length 1 0 with
      | none => rw [hw] at h2; exfalso; simp only at h2; omega
      | some e => rw [hw] at h2; simp only at h2; congr 1; omega
  rw [h2]
  have h3 : inB (ps.length : Int) 1 60 = (decide (1 ≤ ps.length) && decide (ps.length ≤ 60)) := by
    rw [Bool.eq_iff_iff, inB_iff]; simp; omega
  rw [h3]
  cases decide (ps.length ≤ 60) <;> cases decide (1 ≤ ps.length) <;> cases ps.all nodeOk <;> simp
set_option maxRecDepth 100000 in
theorem c_l05End {S : Nat → Prop} {a : Option Addr} {p : Nat} {ps : List Nd} {k : Nat} {w : World} (h : SlRd cNode S w a p ps) (hn : ps.length ≤ 60) (hk : k ≤ ps.length) :
    Calls Tryd.prog 130 #[.slice a ps.length p, .int .i64 k] w fun e w' => e = .returned (.int .i64 (endI (endF ps k))) ∧ w = w' := by
  have H := hid h
  clear h
  go_enter Tryd.func130, Tryd.ntmps130
  go_wp2
  go_loop [1, 5] (fun kv cv => ∃ k' c : Nat, kv = .int .i64 k' ∧ cv = .int .i64 c ∧ k' ≤ ps.length ∧ c ≤ k' + 1 ∧ Hid (endF ps k = walkT (fun i => some (beN ps i)) ps.length c k')) (fun kv _ => ps.length - (intOf kv).toNat)
  case atStart => exact ⟨k, 1, rfl, rfl, hk, by omega, rfl⟩
  case round =>
    obtain ⟨k', c, rfl, rfl, hk', hc, HW⟩ := hrel
    by_cases hc0 : c = 0
    · subst hc0
      have HF : Hid (endI (endF ps k) = (k' : Int)) := by unfold Hid; rw [HW.out, walkT_zero]; rfl
      clear HW
      go_wp2
      go_ret
      exact ⟨ret_int HF.out.symm, rfl⟩
    · obtain ⟨c', rfl⟩ : ∃ c', c = c' + 1 := ⟨c - 1, by omega⟩
      have e1 : decide ((0 : Int) < (c' : Int) + 1) = true := decide_eq_true (by omega)
      clear hc0
      by_cases hlt : k' < ps.length
      · obtain ⟨b, off, rfl⟩ := H.out.some_of hlt
        obtain ⟨d0, d1, d2, a3, p3, d3, a4, p4, d4, hz, hi0, hi1, hi2, hs3, hs4, hc0, hc1, hc2, hc3, hc4, hb⟩ := H.out.nd_at k' hlt
        have HB := hid (beN_at hz)
        have hne : ((k' : Int) == (ps.length : Int)) = false := by rw [beq_eq_false_iff_ne]; omega
        have i0 : (0 : Int) ≤ (k' : Int) := by omega
        have i1 : (k' : Int) < (ps.length : Int) := by omega
        have hw1 : IntKind.i64.wrap ((k' : Int) + 1) = (k' : Int) + 1 := wrap_in _ (by omega) (by omega)
        have HN : Hid (endF ps k = walkT (fun i => some (beN ps i)) ps.length (c' + beN ps k') (k' + 1)) := by exact HW.out.trans (walkT_go (a := beN ps k') hlt rfl)
        clear hz hs3 hs4 hi1 hi2 hc1 hc2 hc3 hc4 HW
        by_cases h1 : d0 = 1
        · subst h1
          have HN2 : Hid (endF ps k = walkT (fun i => some (beN ps i)) ps.length c' (k' + 1)) := by unfold Hid; rw [HN.out, HB.out]; rfl
          go_wp2
          go_round
          case rel => exact ⟨k' + 1, c', by go_num, by go_num, by omega, by omega, HN2⟩
          case measure => simp [intOf]; omega
        · have e3 : (d0 == 1) = false := by simpa using h1
          by_cases h2 : d0 = 2
          · subst h2
            have HN2 : Hid (endF ps k = walkT (fun i => some (beN ps i)) ps.length (c' + 1 + 1) (k' + 1)) := by unfold Hid; rw [HN.out, HB.out]; rfl
            have hw2 : IntKind.i64.wrap ((c' : Int) + 1 + 1) = (c' : Int) + 1 + 1 := wrap_in _ (by omega) (by omega)
            go_wp2
            go_round
            case rel => exact ⟨k' + 1, c' + 1 + 1, by go_num, by go_num, by omega, by omega, HN2⟩
            case measure => simp [intOf]; omega
          · have e4 : (d0 == 2) = false := by simpa using h2
            have HN2 : Hid (endF ps k = walkT (fun i => some (beN ps i)) ps.length (c' + 1) (k' + 1)) := by unfold Hid; rw [HN.out, HB.out]; simp [nodeBe, h1, h2]
            clear h1 h2
            go_wp2
            go_round
            case rel => exact ⟨k' + 1, c' + 1, by go_num, by go_num, by omega, by omega, HN2⟩
            case measure => simp [intOf]; omega
      · have hne : ((k' : Int) == (ps.length : Int)) = true := by rw [beq_iff_eq]; omega
        have HF : Hid (endI (endF ps k) = -1) := by unfold Hid; rw [HW.out, walkT_out (by omega)]; rfl
        clear HW
        go_wp2
        go_ret
        exact ⟨ret_int HF.out.symm, rfl⟩
set_option maxRecDepth 100000 in
theorem c_l05Is {S : Nat → Prop} {a : Option Addr} {p : Nat} {ps : List Nd} {w : World} (h : SlRd cNode S w a p ps) :
    Calls Tryd.prog 92 #[.slice a ps.length p] w fun e w' => e = .returned (.bool (isProofF ps)) ∧ w = w' := by
  have hl := h.len_le
  have H := hid h
  clear h
  have HS := hid (isProof_split ps)
  obtain ⟨I, hI⟩ : ∃ I, inB (ps.length : Int) 1 60 = I := ⟨_, rfl⟩
  have HI := hid hI
  have hlen : I = true → ps.length ≤ 60 := by rintro rfl; have := inB_iff.1 hI; omega
  have HF : Hid (isProofF ps = ((I && ps.all nodeOk) && (endI (endF ps 0) == (ps.length : Int)))) := by unfold Hid; rw [HS.out, hI]
  clear hI HS
  cases I
  · clear hlen
    go_enter Tryd.func92, Tryd.ntmps92
    go_wp2_with (go_at_call 110; refine (c_l00In _ _ _ _).mono ?_; rintro e w1 ⟨rfl, rfl⟩; rw [HI.out])
    go_ret
    exact ⟨ret_bool (by rw [HF.out]; rfl), rfl⟩
  · have hn := hlen rfl
    have HE := hid (c_l05End (k := 0) H.out hn (Nat.zero_le _))
    clear hlen
    go_enter Tryd.func92, Tryd.ntmps92
    go_wp2_with (go_at_call 110; refine (c_l00In _ _ _ _).mono ?_; rintro e w1 ⟨rfl, rfl⟩; rw [HI.out])
    go_loop [3] (fun i => ∃ k : Nat, k ≤ ps.length ∧ i = .int .i64 k ∧ Hid ((ps.take k).all nodeOk = true)) (fun i => ps.length - (intOf i).toNat)
    case atStart => exact ⟨0, Nat.zero_le _, rfl, rfl⟩
    case round =>
      obtain ⟨k, hk, rfl, HA⟩ := hrel
      by_cases hlt : k < ps.length
      · obtain ⟨b, off, rfl⟩ := H.out.some_of hlt
        obtain ⟨d0, d1, d2, a3, p3, d3, a4, p4, d4, hz, hi0, hi1, hi2, hs3, hs4, hc0, hc1, hc2, hc3, hc4, hb⟩ := H.out.nd_at k hlt
        have HZ := hid hz
        have HN := hid (c_l05Node hs3 hs4 hc0 hc1 hc2 hc3 hc4)
        obtain ⟨r, hr⟩ : ∃ r, nodeOk (d0, d1, (d2, d3), d4) = r := ⟨_, rfl⟩
        have HR := hid hr
        clear hz hs3 hs4 hi0 hi1 hi2 hc0 hc1 hc2 hc3 hc4 hr
        cases r
        · have HG : Hid (ps.all nodeOk = false) := all_false HZ.out HR.out
          go_wp2_with (go_at_call 129; refine HN.out.mono ?_; rintro e w1 ⟨rfl, rfl⟩; rw [HR.out])
          go_ret
          exact ⟨ret_bool (by rw [HF.out, HG.out]; rfl), rfl⟩
        · go_wp2_with (go_at_call 129; refine HN.out.mono ?_; rintro e w1 ⟨rfl, rfl⟩; rw [HR.out])
          go_round
          case rel => exact ⟨k + 1, by omega, by go_num, (all_take HA.out HZ.out).trans HR.out⟩
          case measure => simp [intOf]; omega
      · have HG : Hid (ps.all nodeOk = true) := all_end HA.out (by omega)
        go_wp2_with (go_at_call 130; refine HE.out.mono ?_; rintro e w1 ⟨rfl, rfl⟩)
        go_ret
        exact ⟨ret_bool (by rw [HF.out, HG.out]; rfl), rfl⟩
end Go.Proofs.YtcbaohcgeoaccaaDoor
