/- Contracts: the depth of proofs. -/
import Derived.Test.YtlipoonopajgdaaL05s
import Derived.Test.YtlipoonopajgdaaTreeD
import Derived.Test.YtlipoonopajgdaaL01d
namespace Go.Proofs.Ytlipoonopajgdaa
open Go.RowKit

def depthF (ps : List Nd) : Int × Bool := if isProofF ps then ((deepT (arN ps) ps.length 1 0 : Nat), true) else (0, false)
abbrev eN (ps : List Nd) : Nat → Nat := endE (arN ps) ps.length
theorem isProof_walk {ps : List Nd} (h : isProofF ps = true) : ps.length ≤ 60 ∧ walkT (arN ps) ps.length 1 0 = some ps.length := by
  unfold isProofF treeB at h
  simp only [Bool.and_eq_true, decide_eq_true_eq] at h
  exact h
theorem endF_eq {ps : List Nd} (h : isProofF ps = true) (k : Nat) : endF ps k = walkT (arN ps) ps.length 1 k := by
  obtain ⟨_, h1⟩ := isProof_walk h
  refine walkT_congr _ 1 k (Nat.le_refl _) fun i hi _ => ?_
  obtain ⟨a, ha⟩ := walkT_seen _ 1 0 _ (Nat.le_refl _) h1 i (Nat.zero_le _) hi
  rw [ha, arN_be i a ha]
theorem endF_at {ps : List Nd} (h : isProofF ps = true) {k : Nat} (hk : k < ps.length) : endI (endF ps k) = (eN ps k : Nat) ∧ k < eN ps k ∧ eN ps k ≤ ps.length := by
  obtain ⟨_, h1⟩ := isProof_walk h
  obtain ⟨e, he, hle⟩ := walkT_in _ 1 0 _ (Nat.le_refl _) h1 k (Nat.zero_le _) hk
  have := walkT_ge _ 1 k e (Nat.le_refl _) he
  rw [endF_eq h, he]
  show (e : Int) = _ ∧ _
  rw [show eN ps k = e from endE_of he]
  omega
theorem close_end {ps : List Nd} (h : isProofF ps = true) {k : Nat} {d : Nd} (hz : ps[k]? = some d) (hd : d.1 = 1) : eN ps k = k + 1 := by
  obtain ⟨_, h1⟩ := isProof_walk h
  have hk : k < ps.length := (List.getElem?_eq_some_iff.1 hz).1
  obtain ⟨a, ha⟩ := walkT_seen _ 1 0 _ (Nat.le_refl _) h1 k (Nat.zero_le _) hk
  have hb := arN_be k a ha
  rw [beN_at hz] at hb
  have ha0 : a = 0 := by rw [hb]; unfold nodeBe; rw [if_pos hd]
  subst ha0
  exact endE_of (by rw [walkT_one hk ha, walkT_zero])
theorem c_DepthOf {S : Nat → Prop} {a : Option Addr} {p : Nat} {ps : List Nd} {w : World} (h : SlRd cNode S w a p ps) :
    Calls Try.prog 31 #[.slice a ps.length p] w fun e w' => e = .returned (.tuple #[.int .i64 (depthF ps).1, .bool (depthF ps).2]) ∧ Below w.heap.size w w' := by
  have H := hid h
  clear h
  obtain ⟨r, hr⟩ : ∃ r, isProofF ps = r := ⟨_, rfl⟩
  have HR := hid hr
  cases r
  · have HF : Hid (depthF ps = (0, false)) := by unfold Hid depthF; rw [hr]; rfl
    clear hr
    go_enter Try.func31, Try.ntmps31
    go_wp2_with (go_at_call 28; refine (c_IsProof H.out).mono ?_; rintro e w1 ⟨rfl, hb1⟩; rw [HR.out]; have HB1 := hid hb1; clear hb1)
    go_ret2
    exact ⟨by rw [HF.out]; rfl, HB1.out⟩
  · obtain ⟨h60, hw⟩ := isProof_walk hr
    have HF : Hid (depthF ps = (((deepT (arN ps) ps.length 1 0 : Nat) : Int), true)) := by unfold Hid depthF; rw [hr]; rfl
    have HG : Hid (behR (arN ps) ps.length 0 = (ps.length, deepT (arN ps) ps.length 1 0, true)) := behR_some hw
    clear hr hw
    go_enter Try.func31, Try.ntmps31
    go_wp2_with (first | (go_at_call 28; refine (c_IsProof H.out).mono ?_; rintro e w1 ⟨rfl, hb1⟩; rw [HR.out]; have HB1 := hid hb1; have H1 := hid (H.out.below (Nat.le_refl _) hb1); clear hb1) | (go_at_call 86; refine (c_behindProof h60 ps.length 0 w1 (by omega) H1.out).mono ?_; rintro e w2 ⟨rfl, hb2⟩; rw [HG.out]; simp only [behV]; have HB2 := hid (bel_next HB1.out HB1.out.size hb2); clear hb2))
    go_ret2
    exact ⟨by rw [HF.out]; rfl, HB2.out⟩
def RetPar (ps : List Nd) (k : Nat) (w : World) (e : Ending) (w' : World) : Prop :=
  ∃ (q : Int) (bb : Bool), e = .returned (.tuple #[.int .i64 q, .bool bb]) ∧ w = w' ∧ ((q = -1 ∧ lev (eN ps) k 0 = 1) ∨ ∃ p : Nat, q = p ∧ p < k ∧ lev (eN ps) k 0 = lev (eN ps) p 0 + 1)
set_option maxRecDepth 100000 in
theorem c_l05Parent {S : Nat → Prop} {a : Option Addr} {p : Nat} {ps : List Nd} {k : Nat} {w : World} (h : SlRd cNode S w a p ps) (hp : isProofF ps = true) (hk : k < ps.length) :
    Calls Try.prog 88 #[.slice a ps.length p, .int .i64 k] w (RetPar ps k w) := by
  obtain ⟨h60, hw⟩ := isProof_walk hp
  have H := hid h
  have HP := hid hp
  have HW := hid hw
  clear h hp hw
  go_enter Try.func88, Try.ntmps88
  go_wp2
  go_loop [6] (fun iv => ∃ i : Nat, iv = .int .i64 ((i : Int) - 1) ∧ i ≤ k ∧ Hid (∀ j, i ≤ j → j < k → eN ps j ≤ k)) (fun iv => (intOf iv + 1).toNat)
  case atStart => exact ⟨k, by go_num, Nat.le_refl _, fun j h1 h2 => by omega⟩
  case round =>
    obtain ⟨i, rfl, hik, HI⟩ := hrel
    by_cases hi0 : i = 0
    · subst hi0
      have HL : Hid (lev (eN ps) k 0 = 1) := lev_root HW.out hk fun j hj => HI.out j (Nat.zero_le _) hj
      have e1 : decide ((0 : Int) ≤ ((0 : Nat) : Int) - 1) = false := rfl
      clear HI
      go_wp2
      go_ret2
      exact ⟨-1, false, rfl, rfl, .inl ⟨rfl, HL.out⟩⟩
    · obtain ⟨j, rfl⟩ : ∃ j, i = j + 1 := ⟨i - 1, by omega⟩
      clear hi0
      have hjn : j < ps.length := by omega
      obtain ⟨b, off, rfl⟩ := H.out.some_of hjn
      obtain ⟨d0, d1, d2, a3, p3, d3, a4, p4, d4, hz, hi0, hi1, hi2, hs3, hs4, hc0, hc1, hc2, hc3, hc4, hb⟩ := H.out.nd_at j hjn
      have hcl : d0 = 1 → eN ps j = j + 1 := fun h1 => close_end HP.out hz h1
      obtain ⟨he1, he2, he3⟩ := endF_at HP.out hjn
      obtain ⟨E, hE⟩ : ∃ E, eN ps j = E := ⟨_, rfl⟩
      have HE := hid hE
      rw [hE] at he1 he2 he3 hcl
      have HE1 := hid he1
      have HC := hid (c_l05End (k := j) H.out h60 (by omega))
      have e1 : decide ((0 : Int) ≤ ((j + 1 : Nat) : Int) - 1) = true := decide_eq_true (by omega)
      have e2 : (((j + 1 : Nat) : Int) - 1).toNat = j := by omega
      have e3 : (0 : Int) ≤ ((j + 1 : Nat) : Int) - 1 := by omega
      have e4 : ((j + 1 : Nat) : Int) - 1 < (ps.length : Int) := by omega
      have e5 : ((j + 1 : Nat) : Int) - 1 = (j : Int) := by omega
      rw [e5]
      have i0 : (0 : Int) ≤ (j : Int) := by omega
      have i1 : (j : Int) < (ps.length : Int) := by omega
      have hnx : ((j : Int) - 1) = ((j : Nat) : Int) - 1 := rfl
      clear hz hs3 hs4 hi0 hi1 hi2 hc1 hc2 hc3 hc4 hE he1 e1 e2 e3 e4 e5
      by_cases h1 : d0 = 1
      · subst h1
        have hE1 := hcl rfl
        have HN : Hid (∀ j', j ≤ j' → j' < k → eN ps j' ≤ k) := fun j' h1 h2 => by
          rcases Nat.lt_or_ge j j' with h3 | h3
          · exact HI.out j' (by omega) h2
          · rw [show j' = j by omega, HE.out]; omega
        clear hcl hE1 HI
        go_wp2
        go_round
        case rel => exact ⟨j, by go_num, by omega, HN⟩
        case measure => simp [intOf]
      · have e6 : (d0 == 1) = false := by simpa using h1
        clear h1 hcl
        by_cases h2 : E ≤ k
        · have HN : Hid (∀ j', j ≤ j' → j' < k → eN ps j' ≤ k) := fun j' h1 h2 => by
            rcases Nat.lt_or_ge j j' with h3 | h3
            · exact HI.out j' (by omega) h2
            · rw [show j' = j by omega, HE.out]; omega
          clear HI
          go_wp2_with (go_at_call 141; refine HC.out.mono ?_; rintro e w1 ⟨rfl, rfl⟩; rw [HE1.out])
          go_round
          case rel => exact ⟨j, by go_num, by omega, HN⟩
          case measure => simp [intOf]
        · have HL : Hid (lev (eN ps) k 0 = lev (eN ps) j 0 + 1) := lev_parent HW.out hk (by omega) (by show k < eN ps j; rw [HE.out]; omega) fun i' h3 h4 => HI.out i' (by omega) h4
          clear HI
          go_wp2_with (go_at_call 141; refine HC.out.mono ?_; rintro e w1 ⟨rfl, rfl⟩; rw [HE1.out])
          go_ret2
          exact ⟨_, _, rfl, rfl, .inr ⟨j, rfl, by omega, HL.out⟩⟩
set_option maxRecDepth 100000 in
theorem c_sDepthOf {S : Nat → Prop} {a : Option Addr} {p : Nat} {ps : List Nd} {w : World} (h : SlRd cNode S w a p ps) :
    Calls Try.prog 30 #[.slice a ps.length p] w fun e w' => e = .returned (.tuple #[.int .i64 (depthF ps).1, .bool (depthF ps).2]) ∧ Below w.heap.size w w' := by
  have H := hid h
  clear h
  obtain ⟨r, hr⟩ : ∃ r, isProofF ps = r := ⟨_, rfl⟩
  have HR := hid hr
  cases r
  · have HF : Hid (depthF ps = (0, false)) := by unfold Hid depthF; rw [hr]; rfl
    clear hr
    go_enter Try.func30, Try.ntmps30
    go_wp2_with (go_at_call 84; refine (c_l05Is H.out).mono ?_; rintro e w1 ⟨rfl, rfl⟩; rw [HR.out])
    go_ret2
    exact ⟨by rw [HF.out]; rfl, Below.refl _ _⟩
  · obtain ⟨h60, hw⟩ := isProof_walk hr
    have HF : Hid (depthF ps = (((deepT (arN ps) ps.length 1 0 : Nat) : Int), true)) := by unfold Hid depthF; rw [hr]; rfl
    have HM := hid (deep_max _ 1 0 _ (Nat.le_refl _) hw)
    have hn1 : 1 ≤ ps.length := by have := walkT_ge _ 1 0 _ (Nat.le_refl _) hw; omega
    clear hr hw
    go_enter Try.func30, Try.ntmps30
    go_wp2_with (go_at_call 84; refine (c_l05Is H.out).mono ?_; rintro e w1 ⟨rfl, rfl⟩; rw [HR.out])
    go_loop [4, 5] (fun mv kv => ∃ M k : Nat, mv = .int .i64 M ∧ kv = .int .i64 k ∧ k ≤ ps.length ∧ M ≤ 60 ∧ Hid (∀ j, j < k → lev (eN ps) j 0 ≤ M) ∧ Hid (M = 0 ∨ ∃ j, j < k ∧ lev (eN ps) j 0 = M)) (fun _ kv => ps.length - (intOf kv).toNat)
    case atStart => exact ⟨0, 0, rfl, rfl, Nat.zero_le _, by omega, fun j hj => by omega, .inl rfl⟩
    case round =>
      obtain ⟨M, k, rfl, rfl, hk, hM, HA, HX⟩ := hrel
      by_cases hlt : k < ps.length
      · have e1 : decide ((k : Int) < (ps.length : Int)) = true := decide_eq_true (by omega)
        obtain ⟨L, hL⟩ : ∃ L, lev (eN ps) k 0 = L := ⟨_, rfl⟩
        have HL := hid hL
        have hL60 : L ≤ 60 := by rw [← hL]; exact Nat.le_trans lev_le (by omega)
        have HMx : Hid (∀ j, j < k + 1 → lev (eN ps) j 0 ≤ max M L) := fun j hj => by
          rcases Nat.lt_or_ge j k with h3 | h3
          · have := HA.out j h3; omega
          · rw [show j = k by omega, hL]; omega
        have HMy : Hid (max M L = 0 ∨ ∃ j, j < k + 1 ∧ lev (eN ps) j 0 = max M L) := by
          rcases Nat.le_total M L with h3 | h3
          · exact .inr ⟨k, by omega, by rw [hL]; omega⟩
          · rcases HX.out with h4 | ⟨j, h4, h5⟩
            · exact .inl (by omega)
            · exact .inr ⟨j, by omega, by rw [h5]; omega⟩
        clear hL HA HX
        go_wp2
        go_loop [6, 7] (fun dv av => ∃ (d : Nat) (q : Int), dv = .int .i64 d ∧ av = .int .i64 q ∧ d ≤ 60 ∧ ((q = -1 ∧ Hid (d = L)) ∨ ∃ p' : Nat, q = p' ∧ p' ≤ k ∧ Hid (d + lev (eN ps) p' 0 = L))) (fun _ av => (intOf av + 1).toNat)
        case atStart => exact ⟨0, k, rfl, rfl, by omega, .inr ⟨k, rfl, Nat.le_refl _, by unfold Hid; rw [HL.out]; omega⟩⟩
        case round =>
          obtain ⟨d, q, rfl, rfl, hd, hq⟩ := hrel
          rcases hq with ⟨rfl, HD⟩ | ⟨p', rfl, hp', HD⟩
          · have hD := HD.out
            subst hD
            go_wp2_with (go_at_call 89; refine (c_l00Max _ _ _).mono ?_; rintro e w1 ⟨rfl, rfl⟩)
            go_round
            case rel => exact ⟨max M d, k + 1, by congr 1; omega, by go_num, by omega, by omega, HMx, HMy⟩
            case measure => simp [intOf]; omega
          · have HC := hid (c_l05Parent H.out HR.out (show p' < ps.length by omega))
            have e2 : decide ((0 : Int) ≤ (p' : Int)) = true := decide_eq_true (by omega)
            go_wp2_with (go_at_call 88; refine HC.out.mono ?_; rintro e w1 ⟨q, bb, rfl, rfl, hq⟩; have HQ := hid hq; clear hq)
            go_round
            case rel =>
              have hdL := HD.out
              rcases HQ.out with ⟨h1, h2⟩ | ⟨p2, h1, h2, h3⟩
              · exact ⟨d + 1, q, by go_num, rfl, by omega, .inl ⟨h1, by unfold Hid; omega⟩⟩
              · exact ⟨d + 1, q, by go_num, rfl, by omega, .inr ⟨p2, h1, by omega, by unfold Hid; omega⟩⟩
            case measure =>
              rcases HQ.out with ⟨h1, h2⟩ | ⟨p2, h1, h2, h3⟩ <;> (simp [intOf]; omega)
      · have e1 : decide ((k : Int) < (ps.length : Int)) = false := decide_eq_false (by omega)
        have hke : k = ps.length := by omega
        have HFF : Hid (depthF ps = ((M : Int), true)) := by
          unfold Hid
          rw [HF.out, max_unique hn1 HM.out (M := M) (fun j hj => HA.out j (by omega)) (HX.out.elim .inl fun ⟨j, h4, h5⟩ => .inr ⟨j, by omega, h5⟩)]
        clear HA HX hke
        go_wp2
        go_ret2
        exact ⟨by rw [HFF.out]; rfl, Below.refl _ _⟩
end Go.Proofs.Ytlipoonopajgdaa
