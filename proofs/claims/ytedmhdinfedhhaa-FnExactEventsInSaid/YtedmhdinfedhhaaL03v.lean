/- Contracts: bodies, their ends, programs: the reference's side. -/
import Derived.Test.YtedmhdinfedhhaaL03u
import Derived.Test.YtedmhdinfedhhaaL03sb
namespace Go.Proofs.Ytedmhdinfedhhaa
open Go.RowKit

def belowI (k : Int) : Int := if k = 1 then 2 else if k = 7 then 2 else if k = 8 then 1 else 0
theorem c_l03Below (k : Int) (w : World) : Calls Try.prog 180 #[.int .i64 k] w fun e w' => e = .returned (.int .i64 (belowI k)) ∧ w = w' := by
  by_cases h1 : k = 1
  · subst h1; go_enter Try.func180, Try.ntmps180; go_wp2; go_ret; exact ⟨rfl, rfl⟩
  · have e1 : (k == 1) = false := by rw [beq_eq_false_iff_ne]; exact h1
    by_cases h2 : k = 7
    · subst h2; go_enter Try.func180, Try.ntmps180; go_wp2; go_ret; exact ⟨rfl, rfl⟩
    · have e2 : (k == 7) = false := by rw [beq_eq_false_iff_ne]; exact h2
      by_cases h3 : k = 8
      · subst h3; go_enter Try.func180, Try.ntmps180; go_wp2; go_ret; exact ⟨rfl, rfl⟩
      · have e3 : (k == 8) = false := by rw [beq_eq_false_iff_ne]; exact h3
        have HF : Hid (belowI k = 0) := by unfold Hid belowI; rw [if_neg h1, if_neg h2, if_neg h3]
        clear h1 h2 h3
        go_enter Try.func180, Try.ntmps180
        go_wp2
        go_ret
        exact ⟨ret_int HF.out.symm, rfl⟩
def bN (ps : List Stmt) (i : Nat) : Nat := match ps[i]? with
  | some d => stmtBe d
  | none => 0
theorem bN_at {ps : List Stmt} {k : Nat} {d : Stmt} (h : ps[k]? = some d) : bN ps k = stmtBe d := by unfold bN; rw [h]
theorem stmtBe_int (d : Stmt) : ((stmtBe d : Nat) : Int) = if d.1 = 1 then 2 else if d.1 = 7 then 2 else if d.1 = 8 then 1 else 0 := by
  unfold stmtBe; split
  · rfl
  · split
    · rfl
    · split <;> rfl
theorem stmtBe_le (d : Stmt) : stmtBe d ≤ 2 := by
  unfold stmtBe; split
  · omega
  · split
    · omega
    · split <;> omega
def endB (ps : List Stmt) (k : Nat) : Option Nat := walkT (fun i => some (bN ps i)) ps.length 1 k
theorem stN_be {ps : List Stmt} (i a : Nat) (h : stN ps i = some a) : a = bN ps i := by
  unfold stN at h
  cases hd : ps[i]? with
  | none => rw [hd] at h; cases h
  | some d =>
    rw [hd] at h
    rw [bN_at hd]
    simp only [stmtAr] at h
    split at h
    · cases h; rfl
    · cases h
theorem all_stN (ps : List Stmt) : (List.range ps.length).all (fun i => (stN ps i).isSome) = ps.all stmtOk := by
  have h1 : ∀ i (d : Stmt), ps[i]? = some d → (stN ps i).isSome = stmtOk d := by
    intro i d h
    rw [stN_at h]; unfold stmtAr; split <;> simp_all
  rw [Bool.eq_iff_iff, List.all_eq_true, List.all_eq_true]
  constructor
  · intro h d hd
    obtain ⟨i, hi, hd⟩ := List.getElem_of_mem hd
    have := h i (List.mem_range.2 hi)
    rw [h1 i d (by rw [List.getElem?_eq_getElem hi, hd])] at this
    exact this
  · intro h i hi
    have hi := List.mem_range.1 hi
    rw [h1 i ps[i] (List.getElem?_eq_getElem hi)]
    exact h _ (List.getElem_mem hi)
theorem body_split (ps : List Stmt) : bodyF ps = ((inB (ps.length : Int) 1 30 && ps.all stmtOk) && (endI (endB ps 0) == (ps.length : Int))) := by
  unfold bodyF
  rw [tree_split (stN ps) (bN ps) ps.length stN_be, all_stN]
  have h2 : treeB (fun i => some (bN ps i)) ps.length = (decide (1 ≤ ps.length) && (endI (endB ps 0) == (ps.length : Int))) := by
    rw [Bool.eq_iff_iff]
    constructor
    · intro h
      have h1 := treeB_pos h
      unfold treeB at h
      rw [decide_eq_true_eq] at h
      unfold endB
      rw [h]
      simp [endI]; exact h1
    · intro h
      simp only [Bool.and_eq_true, decide_eq_true_eq, beq_iff_eq] at h
      unfold treeB
      rw [decide_eq_true_eq]
      obtain ⟨h1, h2⟩ := h
      unfold endB endI at h2
      cases hw : walkT (fun i => some (bN ps i)) ps.length 1 0 with
      | none => rw [hw] at h2; exfalso; simp only at h2; omega
      | some e => rw [hw] at h2; simp only at h2; congr 1; omega
  rw [h2]
  have h3 : inB (ps.length : Int) 1 30 = (decide (1 ≤ ps.length) && decide (ps.length ≤ 30)) := by
    rw [Bool.eq_iff_iff, inB_iff]; simp; omega
  rw [h3]
  cases decide (ps.length ≤ 30) <;> cases decide (1 ≤ ps.length) <;> cases ps.all stmtOk <;> simp
theorem endB_eq {ps : List Stmt} (h : bodyF ps = true) {k : Nat} (hk : k < ps.length) : endI (endB ps k) = (endAt ps k : Nat) := by
  obtain ⟨_, h1⟩ := body_walk h
  obtain ⟨e, he, _⟩ := walkT_in _ 1 0 _ (Nat.le_refl _) h1 k (Nat.zero_le _) hk
  have : endB ps k = walkT (stN ps) ps.length 1 k := walkT_congr _ 1 k (Nat.le_refl _) fun i hi _ => by
    obtain ⟨a, ha⟩ := walkT_seen _ 1 0 _ (Nat.le_refl _) h1 i (Nat.zero_le _) hi
    rw [ha, stN_be i a ha]
  rw [this, he]
  show (e : Int) = _
  rw [show endAt ps k = e from endE_of he]
set_option maxRecDepth 100000 in
theorem c_l03End {S : Nat → Prop} {a : Option Addr} {p : Nat} {ps : List Stmt} {k : Nat} {w : World} (h : SlRd cStmt S w a p ps) (hn : ps.length ≤ 30) (hk : k ≤ ps.length) :
    Calls Try.prog 161 #[.slice a ps.length p, .int .i64 k] w fun e w' => e = .returned (.int .i64 (endI (endB ps k))) ∧ w = w' := by
  have H := hid h
  clear h
  go_enter Try.func161, Try.ntmps161
  go_wp2
  go_loop [1, 5] (fun kv cv => ∃ k' c : Nat, kv = .int .i64 k' ∧ cv = .int .i64 c ∧ k' ≤ ps.length ∧ c ≤ k' + 1 ∧ Hid (endB ps k = walkT (fun i => some (bN ps i)) ps.length c k')) (fun kv _ => ps.length - (intOf kv).toNat)
  case atStart => exact ⟨k, 1, rfl, rfl, hk, by omega, rfl⟩
  case round =>
    obtain ⟨k', c, rfl, rfl, hk', hc, HW⟩ := hrel
    by_cases hc0 : c = 0
    · subst hc0
      have HF : Hid (endI (endB ps k) = (k' : Int)) := by unfold Hid; rw [HW.out, walkT_zero]; rfl
      clear HW
      go_wp2
      go_ret
      exact ⟨ret_int HF.out.symm, rfl⟩
    · obtain ⟨c', rfl⟩ : ∃ c', c = c' + 1 := ⟨c - 1, by omega⟩
      have e1 : decide ((0 : Int) < (c' : Int) + 1) = true := decide_eq_true (by omega)
      clear hc0
      by_cases hlt : k' < ps.length
      · obtain ⟨b, off, rfl⟩ := H.out.some_of hlt
        obtain ⟨d0, d1, d2, d3, a4, p4, d4, d5, a6, p6, d6, a7, p7, d7, hz, hi0, hi1, hi2, hi3, hi5, hs4, hs6, hs7, hc0, hc1, hc2, hc3, hc4, hc5, hc6, hc7, hb⟩ := H.out.stmt_at k' hlt
        have hne : ((k' : Int) == (ps.length : Int)) = false := by rw [beq_eq_false_iff_ne]; omega
        have i0 : (0 : Int) ≤ (k' : Int) := by omega
        have i1 : (k' : Int) < (ps.length : Int) := by omega
        have hw1 : IntKind.i64.wrap ((k' : Int) + 1) = (k' : Int) + 1 := wrap_in _ (by omega) (by omega)
        obtain ⟨B, hB⟩ : ∃ B, bN ps k' = B := ⟨_, rfl⟩
        have hBd : B = stmtBe (d0, d1, d2, (d3, d4), (d5, d6), d7) := by rw [← hB]; exact bN_at hz
        have hB2 : B ≤ 2 := by rw [hBd]; exact stmtBe_le _
        have HBI : Hid (belowI d0 = (B : Int)) := by unfold Hid belowI; rw [hBd, stmtBe_int]
        have HN : Hid (endB ps k = walkT (fun i => some (bN ps i)) ps.length (c' + B) (k' + 1)) := by rw [← hB]; exact HW.out.trans (walkT_go (a := bN ps k') hlt rfl)
        have hw2 : IntKind.i64.wrap ((B : Int) - 1) = (B : Int) - 1 := wrap_in _ (by omega) (by omega)
        have hw3 : IntKind.i64.wrap ((c' : Int) + 1 + ((B : Int) - 1)) = ((c' + B : Nat) : Int) := by rw [wrap_in _ (by omega) (by omega)]; omega
        clear hz hs4 hs6 hs7 hi1 hi2 hi3 hi5 hc1 hc2 hc3 hc4 hc5 hc6 hc7 HW hBd hB
        go_wp2_with (go_at_call 180; refine (c_l03Below _ _).mono ?_; rintro e w1 ⟨rfl, rfl⟩; rw [HBI.out])
        go_round
        case rel => exact ⟨k' + 1, c' + B, by go_num, rfl, by omega, by omega, HN⟩
        case measure => simp [intOf] <;> omega
      · have hne : ((k' : Int) == (ps.length : Int)) = true := by rw [beq_iff_eq]; omega
        have HF : Hid (endI (endB ps k) = -1) := by unfold Hid; rw [HW.out, walkT_out (by omega)]; rfl
        clear HW
        go_wp2
        go_ret
        exact ⟨ret_int HF.out.symm, rfl⟩
set_option maxRecDepth 100000 in
theorem c_l03Body {S : Nat → Prop} {a : Option Addr} {p : Nat} {ps : List Stmt} {w : World} (h : SlRd cStmt S w a p ps) :
    Calls Try.prog 140 #[.slice a ps.length p] w fun e w' => e = .returned (.bool (bodyF ps)) ∧ w = w' := by
  have hl := h.len_le
  have H := hid h
  clear h
  have HS := hid (body_split ps)
  obtain ⟨I, hI⟩ : ∃ I, inB (ps.length : Int) 1 30 = I := ⟨_, rfl⟩
  have HI := hid hI
  have hlen : I = true → ps.length ≤ 30 := by rintro rfl; have := inB_iff.1 hI; omega
  have HF : Hid (bodyF ps = ((I && ps.all stmtOk) && (endI (endB ps 0) == (ps.length : Int)))) := by unfold Hid; rw [HS.out, hI]
  clear hI HS
  cases I
  · clear hlen
    go_enter Try.func140, Try.ntmps140
    go_wp2_with (go_at_call 68; refine (c_l00In _ _ _ _).mono ?_; rintro e w1 ⟨rfl, rfl⟩; rw [HI.out])
    go_ret
    exact ⟨ret_bool (by rw [HF.out]; rfl), rfl⟩
  · have hn := hlen rfl
    have HE := hid (c_l03End (k := 0) H.out hn (Nat.zero_le _))
    clear hlen
    go_enter Try.func140, Try.ntmps140
    go_wp2_with (go_at_call 68; refine (c_l00In _ _ _ _).mono ?_; rintro e w1 ⟨rfl, rfl⟩; rw [HI.out])
    go_loop [3] (fun i => ∃ k : Nat, k ≤ ps.length ∧ i = .int .i64 k ∧ Hid ((ps.take k).all stmtOk = true)) (fun i => ps.length - (intOf i).toNat)
    case atStart => exact ⟨0, Nat.zero_le _, rfl, rfl⟩
    case round =>
      obtain ⟨k, hk, rfl, HA⟩ := hrel
      by_cases hlt : k < ps.length
      · obtain ⟨b, off, rfl⟩ := H.out.some_of hlt
        obtain ⟨d0, d1, d2, d3, a4, p4, d4, d5, a6, p6, d6, a7, p7, d7, hz, hi0, hi1, hi2, hi3, hi5, hs4, hs6, hs7, hc0, hc1, hc2, hc3, hc4, hc5, hc6, hc7, hb⟩ := H.out.stmt_at k hlt
        have HZ := hid hz
        have HN := hid (c_l03Stmt hs4 hs6 hs7 hc0 hc1 hc2 hc3 hc4 hc5 hc6 hc7)
        obtain ⟨r, hr⟩ : ∃ r, stmtOk (d0, d1, d2, (d3, d4), (d5, d6), d7) = r := ⟨_, rfl⟩
        have HR := hid hr
        clear hz hs4 hs6 hs7 hi0 hi1 hi2 hi3 hi5 hc0 hc1 hc2 hc3 hc4 hc5 hc6 hc7 hr
        cases r
        · have HG : Hid (ps.all stmtOk = false) := all_false HZ.out HR.out
          go_wp2_with (go_at_call 160; refine HN.out.mono ?_; rintro e w1 ⟨rfl, rfl⟩; rw [HR.out])
          go_ret
          exact ⟨ret_bool (by rw [HF.out, HG.out]; rfl), rfl⟩
        · go_wp2_with (go_at_call 160; refine HN.out.mono ?_; rintro e w1 ⟨rfl, rfl⟩; rw [HR.out])
          go_round
          case rel => exact ⟨k + 1, by omega, by go_num, (all_take HA.out HZ.out).trans HR.out⟩
          case measure => simp [intOf]; omega
      · have HG : Hid (ps.all stmtOk = true) := all_end HA.out (by omega)
        go_wp2_with (go_at_call 161; refine HE.out.mono ?_; rintro e w1 ⟨rfl, rfl⟩)
        go_ret
        exact ⟨ret_bool (by rw [HF.out, HG.out]; rfl), rfl⟩
set_option maxRecDepth 100000 in
theorem c_l03Is {S : Nat → Prop} {b : Nat} {a0 : Option Addr} {p0 : Nat} {d0 : List Term} {a1 : Option Addr} {p1 : Nat} {d1 : List Stmt} {a2 : Option Addr} {p2 : Nat} {d2 : List Term} {w : World} (h0 : SlRd cTerm S w a0 p0 d0) (h1 : SlRd cStmt S w a1 p1 d1) (h2 : SlRd cTerm S w a2 p2 d2)
    (t0 : w.cell? ⟨b, 0, none⟩ = some (.slice a0 d0.length p0)) (t1 : w.cell? ⟨b, 1, none⟩ = some (.slice a1 d1.length p1)) (t2 : w.cell? ⟨b, 2, none⟩ = some (.slice a2 d2.length p2)) :
    Calls Try.prog 101 #[.pointer (some ⟨b, 0, none⟩)] w fun e w' => e = .returned (.bool (progF (d0, d1, d2))) ∧ w = w' := by
  have C0 := hid (c_l03Terms a0 p0 d0 6 w h0)
  have C1 := hid (c_l03Body h1)
  have C2 := hid (c_l03Terms a2 p2 d2 6 w h2)
  clear h0 h1 h2
  obtain ⟨r, hr⟩ : ∃ r, bodyF d1 = r := ⟨_, rfl⟩
  obtain ⟨q, hq⟩ : ∃ q, areOverF d0 6 = q := ⟨_, rfl⟩
  obtain ⟨u, hu⟩ : ∃ u, areOverF d2 6 = u := ⟨_, rfl⟩
  have HF : Hid (progF (d0, d1, d2) = ((r && q) && u)) := by unfold Hid progF; rw [hr, hq, hu]
  have HR := hid hr
  have HQ := hid hq
  have HU := hid hu
  clear hr hq hu
  cases q
  all_goals
    cases r
    all_goals
      cases u
      all_goals
        go_enter Try.func101, Try.ntmps101
        go_wp2_with (first | (have hkk := mk1; clear hkk; go_at_call 139; refine C2.out.mono ?_; rintro e w1 ⟨rfl, rfl⟩; rw [HU.out]) | (go_at_call 139; refine C0.out.mono ?_; rintro e w1 ⟨rfl, rfl⟩; rw [HQ.out]; have mk1 := HF) | (go_at_call 140; refine C1.out.mono ?_; rintro e w1 ⟨rfl, rfl⟩; rw [HR.out]))
        go_ret
        exact ⟨ret_bool (by rw [HF.out]; rfl), rfl⟩
end Go.Proofs.Ytedmhdinfedhhaa
