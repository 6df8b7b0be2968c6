/- Contracts: the text of a proof. -/
import Derived.Test.YtcbaohcgeoaccaaDoorD10
import Derived.Test.YtcbaohcgeoaccaaDoorD03
import Derived.Test.YtcbaohcgeoaccaaDoorL05
import Derived.Test.YtcbaohcgeoaccaaDoorL05s
import Derived.Lib.Join
namespace Go.Proofs.YtcbaohcgeoaccaaDoor
open Go.RowKit

theorem jn_snoc (c : UInt8) (xs : List (List UInt8)) (x : List UInt8) (h : xs ≠ []) : Lib.join (xs ++ [x]) [c] = Lib.join xs [c] ++ c :: x := by
  cases xs with
  | nil => exact absurd rfl h
  | cons y ys =>
    rw [List.cons_append, Lib.join_cons, Lib.join_cons]
    simp [Lib.joinTail]
theorem jn_one (c : UInt8) (x : List UInt8) : Lib.join [x] [c] = x := Lib.join_one x [c]
theorem jn_len {c : UInt8} {xs : List (List UInt8)} {m : Nat} (h : ∀ x ∈ xs, x.length ≤ m) : (Lib.join xs [c]).length ≤ xs.length * (m + 1) := by
  cases xs with
  | nil => simp [Lib.join, List.intercalate]
  | cons y ys =>
    rw [Lib.join_cons, List.length_append]
    have h1 := h y (by simp)
    have key : ∀ zs : List (List UInt8), (∀ z ∈ zs, z.length ≤ m) → (Lib.joinTail [c] zs).length ≤ zs.length * (m + 1) := by
      intro zs
      induction zs with
      | nil => intro _; simp [Lib.joinTail]
      | cons z zs ih =>
        intro hz
        have h3 := ih fun w hw => hz w (by simp [hw])
        have h4 := hz z (by simp)
        have e : Lib.joinTail [c] (z :: zs) = ([c] ++ z) ++ Lib.joinTail [c] zs := by simp [Lib.joinTail]
        rw [e, List.length_append, List.length_append, List.length_cons (a := z), Nat.add_mul, List.length_singleton]; omega
    have h2 := key ys fun z hz => h z (by simp [hz])
    rw [List.length_cons, Nat.add_mul]; omega
def listedF (zs : List Int) : List UInt8 := Lib.join (zs.map Lib.itoa) [44]
def nodeT (d : Nd) : List UInt8 := if d.1 = 1 then 99 :: listedF d.2.2.2 else if d.1 = 2 then 115 :: textF d.2.2.1 else 116 :: Lib.itoa d.2.1
def proofT (ps : List Nd) : List UInt8 := Lib.join (ps.map nodeT) [47]
def proofTextF (ps : List Nd) : List UInt8 × Bool := if isProofF ps then (proofT ps, true) else ([], false)
theorem map_take {α β : Type} {f : α → β} {xs : List α} {k : Nat} {x : α} (h : xs[k]? = some x) : (xs.take (k + 1)).map f = (xs.take k).map f ++ [f x] := by
  rw [List.take_add_one, h, List.map_append]; rfl
theorem proof_nodes {ps : List Nd} (h : isProofF ps = true) : 1 ≤ ps.length ∧ ps.length ≤ 60 ∧ ∀ d ∈ ps, nodeOk d = true := by
  rw [isProof_split] at h
  simp only [Bool.and_eq_true, List.all_eq_true] at h
  have h1 := inB_iff.1 h.1.1
  exact ⟨by omega, by omega, h.1.2⟩
theorem nodeOk_one {d : Nd} (h : nodeOk d = true) (h1 : d.1 = 1) : d.2.2.2.length ≤ 20 := by
  unfold nodeOk at h
  rw [if_pos h1] at h
  unfold node1 at h
  simp only [Bool.and_eq_true, decide_eq_true_eq] at h
  omega
theorem nodeOk_two {d : Nd} (h : nodeOk d = true) (h1 : d.1 ≠ 1) (h2 : d.1 = 2) : validTerm d.2.2.1 = true := by
  unfold nodeOk at h
  rw [if_neg h1, if_pos h2] at h
  unfold node2 at h
  simp only [Bool.and_eq_true] at h
  exact h.2
theorem nodeOk_three {d : Nd} (h : nodeOk d = true) (h1 : d.1 ≠ 1) (h2 : d.1 ≠ 2) : d.1 = 3 := by
  unfold nodeOk at h
  rw [if_neg h1, if_neg h2] at h
  split at h
  · assumption
  · cases h
theorem listed_len {zs : List Int} (hz : ∀ z ∈ zs, I64 z) : (listedF zs).length ≤ zs.length * 22 := by
  have := jn_len (c := 44) (xs := zs.map Lib.itoa) (m := 21) fun x hx => by
    obtain ⟨z, h, rfl⟩ := List.mem_map.1 hx
    exact Lib.itoa_length_le z (hz z h).1 (hz z h).2
  rwa [List.length_map] at this
theorem nodeT_len {d : Nd} (h : nodeOk d = true) (h4 : ∀ z ∈ d.2.2.2, I64 z) (h2 : I64 d.2.1) : (nodeT d).length ≤ 441 := by
  unfold nodeT
  by_cases e1 : d.1 = 1
  · rw [if_pos e1]
    have g1 := listed_len h4
    have g2 := nodeOk_one h e1
    simp only [List.length_cons]; omega
  · rw [if_neg e1]
    by_cases e2 : d.1 = 2
    · rw [if_pos e2]
      have := textF_len (nodeOk_two h e1 e2)
      simp only [List.length_cons]; omega
    · rw [if_neg e2]
      have := Lib.itoa_length_le d.2.1 h2.1 h2.2
      simp only [List.length_cons]; omega
theorem ints_i64 {S : Nat → Prop} {w : World} {a : Option Addr} {p : Nat} {zs : List Int} (h : SlRd cInt S w a p zs) : ∀ z ∈ zs, I64 z := fun z hz => by
  obtain ⟨k, hk, rfl⟩ := List.mem_iff_getElem.1 hz
  obtain ⟨b, off, rfl⟩ := h.some_of hk
  obtain ⟨z, h1, h2, _⟩ := h.int_at k hk
  rw [List.getElem?_eq_getElem hk] at h1
  rw [Option.some.inj h1]; exact h2
theorem c_joinC {S : Nat → Prop} {a : Option Addr} {p : Nat} {zs : List (List UInt8)} {c : UInt8} {w : World} (h : SlRd cStr S w a p zs) (hn : zs.length ≤ 1000000) (hl : (Lib.join zs [c]).length ≤ 140737488355328) :
    Calls Tryd.prog 133 #[.slice a zs.length p, .string ⟨#[c]⟩] w fun e w' => e = .returned (strOf (Lib.join zs [c])) ∧ Below w.heap.size w w' := by
  by_cases h0 : zs = []
  · subst h0
    refine (Tryd.strings_Join_none a p ⟨#[c]⟩ w).mono ?_
    rintro e w' ⟨rfl, rfl⟩
    exact ⟨rfl, Below.refl _ _⟩
  · have hlt : 0 < zs.length := by cases zs; exact absurd rfl h0; simp
    obtain ⟨b, off, rfl⟩ := h.some_of hlt
    have hx : ((zs.map fun z => (⟨z.toArray⟩ : ByteArray)).map fun x => x.data.toList) = zs := by
      rw [List.map_map]
      conv => rhs; rw [← List.map_id zs]
      rfl
    have hlen : (zs.map fun z => (⟨z.toArray⟩ : ByteArray)).length = zs.length := List.length_map _
    have HJ := Tryd.strings_Join b off p (zs.map fun z => (⟨z.toArray⟩ : ByteArray)) ⟨#[c]⟩ w (fun j x hj => by
      rw [List.getElem?_map] at hj
      cases hz : zs[j]? with
      | none => rw [hz] at hj; cases hj
      | some z =>
        rw [hz] at hj
        cases hj
        have hjl := (List.getElem?_eq_some_iff.1 hz).1
        obtain ⟨z', h1, _, h3, _⟩ := h.str_at j hjl
        rw [hz] at h1
        rw [Option.some.inj h1]; exact h3) (h.str_at 0 hlt).choose_spec.2.2.2.1 (by rw [hlen]; omega) (by rw [hlen]; exact h.1) (by rw [hx]; exact hl)
    rw [hlen, hx] at HJ
    exact HJ
set_option maxHeartbeats 1000000 in
set_option maxRecDepth 100000 in
theorem c_listed {S : Nat → Prop} {B : Nat} {a : Option Addr} {p : Nat} {zs : List Int} {w : World} (h : SlRd cInt S w a p zs) (hn : zs.length ≤ 20) (ht : TabE B w) :
    Calls Tryd.prog 132 #[.slice a zs.length p] w fun e w' => e = .returned (strOf (listedF zs)) ∧ Below w.heap.size w w' := by
  have H := hid h
  have HT := hid ht
  have hll := listed_len (ints_i64 h)
  clear h ht
  go_enter Tryd.func132, Tryd.ntmps132
  go_wp2
  go_loopw [3, 8] (fun v i wr => ∃ k : Nat, k ≤ zs.length ∧ i = .int .i64 k ∧ Hid (OwnSl cStr (fun _ => False) wr w.heap.size 9 v ((zs.take k).map Lib.itoa)) ∧ Hid (Below w.heap.size w wr)) (fun _ i _ => zs.length - (intOf i).toNat)
  case atStart => exact ⟨0, Nat.zero_le _, rfl, own_nil _ _ _ _ _, Below.refl _ _⟩
  case round =>
    obtain ⟨k, hk, rfl, HO, HBR⟩ := hrel
    have hsz := HBR.out.size
    by_cases hlt : k < zs.length
    · obtain ⟨b, off, rfl⟩ := H.out.some_of hlt
      obtain ⟨z, hz, hz64, hcz, hbz⟩ := (H.out.below (Nat.le_refl _) HBR.out).int_at k hlt
      have HM : Hid ((zs.take (k + 1)).map Lib.itoa = (zs.take k).map Lib.itoa ++ [Lib.itoa z]) := map_take hz
      have hil := Lib.itoa_length_le z hz64.1 hz64.2
      have hkl : ((zs.take k).map Lib.itoa).length ≤ 20 := by simp; omega
      have HC := hid (c_Decimal z wr hz64.1 hz64.2 (HT.out.belows (HBR.out.mono HT.out.2)))
      obtain ⟨Z, hZ⟩ : ∃ Z, Lib.itoa z = Z := ⟨_, rfl⟩
      rw [hZ] at HM hil HC
      have i0 : (0 : Int) ≤ (k : Int) := by omega
      have i1 : (k : Int) < (zs.length : Int) := by omega
      clear hz hZ
      go_wp2_with (first | (go_at_call 16; refine HC.out.mono ?_; rintro e w2 ⟨rfl, hb2⟩; have HO2 := hid (own_below HO.out (Nat.le_refl _) hb2); have HB2 := hid (bel_next HBR.out hsz hb2); clear hb2; unfold strOf) | (at_builtin; refine app_own (C := cStr) rfl (.tmp 12) (.tmp 15) _ rfl slStr rfl rfl HO2.out no_blk Z (rd_str (by omega)) (by omega) HB2.out.size ?_; intro v3 w3 hO3 hb3; have HO3 := hid hO3; have HB3 := hid (HB2.out.trans hb3); clear hO3 hb3))
      go_roundw
      case rel => exact ⟨k + 1, by omega, by go_num, by rw [HM.out]; exact HO3, HB3⟩
      case measure => simp [intOf]; omega
    · have HK : Hid (zs.take k = zs) := List.take_of_length_le (by omega)
      rw [HK.out] at HO
      obtain ⟨a3, p3, rfl, hs3⟩ := own_rd (own_keep (S' := Fresh w.heap.size wr) HO.out (fun _ h => h.elim) fun _ _ _ => rfl) (Nat.le_refl _)
      have HJ := hid (c_joinC (c := 44) hs3 (by rw [List.length_map]; omega) (by unfold listedF at hll; omega))
      have e1 : decide ((k : Int) < (zs.length : Int)) = false := decide_eq_false (by omega)
      have hLM : (zs.map Lib.itoa).length = zs.length := List.length_map _
      obtain ⟨ys, hys⟩ : ∃ ys, zs.map Lib.itoa = ys := ⟨_, rfl⟩
      have HF : Hid (listedF zs = Lib.join ys [44]) := by unfold Hid listedF; rw [hys]
      rw [hys] at HJ ⊢
      clear hys hLM hs3 HO
      go_wp2_with (go_at_call 133; refine HJ.out.mono ?_; rintro e w2 ⟨rfl, hb2⟩; have HB2 := hid (bel_next HBR.out hsz hb2); clear hb2; unfold strOf)
      go_ret
      rw [HF.out]
      exact ⟨rfl, HB2.out⟩
set_option maxHeartbeats 1000000 in
set_option maxRecDepth 100000 in
theorem c_proofText {S : Nat → Prop} {B : Nat} {a : Option Addr} {p : Nat} {ps : List Nd} {w : World} (h : SlRd cNode S w a p ps) (hv : isProofF ps = true) (ht : TabE B w) :
    Calls Tryd.prog 96 #[.slice a ps.length p] w fun e w' => e = .returned (strOf (proofT ps)) ∧ Below w.heap.size w w' := by
  obtain ⟨hn1, hn60, hnd⟩ := proof_nodes hv
  have H := hid h
  have HT := hid ht
  have HND := hid hnd
  clear h ht hnd hv
  go_enter Tryd.func96, Tryd.ntmps96
  go_wp2
  go_loopw [3, 8] (fun v i wr => ∃ k : Nat, k ≤ ps.length ∧ i = .int .i64 k ∧ Hid (OwnSl cStr (fun _ => False) wr w.heap.size 9 v ((ps.take k).map nodeT)) ∧ Hid (∀ z ∈ (ps.take k).map nodeT, z.length ≤ 441) ∧ Hid (Below w.heap.size w wr)) (fun _ i _ => ps.length - (intOf i).toNat)
  case atStart => exact ⟨0, Nat.zero_le _, rfl, own_nil _ _ _ _ _, by unfold Hid; simp, Below.refl _ _⟩
  case round =>
    obtain ⟨k, hk, rfl, HO, HL, HBR⟩ := hrel
    have hsz := HBR.out.size
    by_cases hlt : k < ps.length
    · obtain ⟨b, off, rfl⟩ := H.out.some_of hlt
      obtain ⟨d0, d1, d2, a3, p3, d3, a4, p4, d4, hz, hi0, hi1, hi2, hs3, hs4, hc0, hc1, hc2, hc3, hc4, hb⟩ := (H.out.below (Nat.le_refl _) HBR.out).nd_at k hlt
      have hok := HND.out _ (List.mem_of_getElem? hz)
      have HM : Hid ((ps.take (k + 1)).map nodeT = (ps.take k).map nodeT ++ [nodeT (d0, d1, (d2, d3), d4)]) := map_take hz
      have hkl : ((ps.take k).map nodeT).length ≤ 60 := by simp; omega
      have hnl := nodeT_len hok (ints_i64 hs4) hi1
      obtain ⟨NT, hNT⟩ : ∃ NT, nodeT (d0, d1, (d2, d3), d4) = NT := ⟨_, rfl⟩
      rw [hNT] at HM hnl
      have HL2 : Hid (∀ z ∈ (ps.take (k + 1)).map nodeT, z.length ≤ 441) := by
        intro z hz
        rw [HM.out] at hz
        rcases List.mem_append.1 hz with g | g
        · exact HL.out z g
        · simp at g; rw [g]; exact hnl
      have i0 : (0 : Int) ≤ (k : Int) := by omega
      have i1 : (k : Int) < (ps.length : Int) := by omega
      have HBX : Hid (Below wr.heap.size wr (wr.alloc (.cells #[.int .i64 d0, .int .i64 d1, .int .i64 d2, .slice a3 d3.length p3, .slice a4 d4.length p4] 120))) := (Below.refl _ _).alloc (Nat.le_refl _) _
      have HBR2 := hid (bel_next HBR.out hsz HBX.out)
      have HTX := hid (HT.out.belows (HBR2.out.mono HT.out.2))
      have HOX := hid (own_below HO.out (Nat.le_refl _) HBX.out)
      by_cases h1 : d0 = 1
      · have e1 : (d0 == 1) = true := by simpa using h1
        have HC := hid (c_listed (hs4.below (Nat.le_refl _) HBX.out) (nodeOk_one hok h1) HTX.out)
        have hNT2 : NT = 99 :: listedF d4 := by rw [← hNT]; unfold nodeT; rw [if_pos h1]
        obtain ⟨Z, hZ⟩ : ∃ Z, listedF d4 = Z := ⟨_, rfl⟩
        rw [hZ] at HC hNT2
        subst hNT2
        have e2 := badd [99] Z
        simp only [List.length_cons] at hnl
        clear hz hs3 hs4 hNT hZ h1 hok
        go_wp2_with (first | (go_at_call 132; refine HC.out.mono ?_; rintro e w2 ⟨rfl, hb2⟩; have HO2 := hid (own_below HOX.out (Nat.le_refl _) hb2); have HB2 := hid (bel_next HBR2.out HBR2.out.size hb2); clear hb2; unfold strOf) | (at_builtin; refine app_own (C := cStr) rfl (.tmp 23) (.tmp 28) _ rfl slStr rfl rfl HO2.out no_blk (99 :: Z) (rd_str (by simp; omega)) (by omega) HB2.out.size ?_; intro v3 w3 hO3 hb3; have HO3 := hid hO3; have HB3 := hid (HB2.out.trans hb3); clear hO3 hb3))
        go_roundw
        case rel => exact ⟨k + 1, by omega, by go_num, by rw [HM.out]; exact HO3, HL2, HB3⟩
        case measure => simp [intOf]; omega
      · have e1 : (d0 == 1) = false := by simpa using h1
        by_cases h2 : d0 = 2
        · have e2 : (d0 == 2) = true := by simpa using h2
          have HC := hid (c_termText (hs3.below (Nat.le_refl _) HBX.out) (nodeOk_two hok h1 h2) HTX.out)
          have hNT2 : NT = 115 :: textF (d2, d3) := by rw [← hNT]; unfold nodeT; rw [if_neg h1, if_pos h2]
          obtain ⟨Z, hZ⟩ : ∃ Z, textF (d2, d3) = Z := ⟨_, rfl⟩
          rw [hZ] at HC hNT2
          subst hNT2
          have e3 := badd [115] Z
          simp only [List.length_cons] at hnl
          clear hz hs3 hs4 hNT hZ h1 h2 hok
          go_wp2_with (first | (go_at_call 76; refine HC.out.mono ?_; rintro e w2 ⟨rfl, hb2⟩; have HO2 := hid (own_below HOX.out (Nat.le_refl _) hb2); have HB2 := hid (bel_next HBR2.out HBR2.out.size hb2); clear hb2; unfold strOf) | (at_builtin; refine app_own (C := cStr) rfl (.tmp 32) (.tmp 37) _ rfl slStr rfl rfl HO2.out no_blk (115 :: Z) (rd_str (by simp; omega)) (by omega) HB2.out.size ?_; intro v3 w3 hO3 hb3; have HO3 := hid hO3; have HB3 := hid (HB2.out.trans hb3); clear hO3 hb3))
          go_roundw
          case rel => exact ⟨k + 1, by omega, by go_num, by rw [HM.out]; exact HO3, HL2, HB3⟩
          case measure => simp [intOf]; omega
        · have e2 : (d0 == 2) = false := by simpa using h2
          have HC := hid (c_Decimal d1 _ hi1.1 hi1.2 HTX.out)
          have hNT2 : NT = 116 :: Lib.itoa d1 := by rw [← hNT]; unfold nodeT; rw [if_neg h1, if_neg h2]
          obtain ⟨Z, hZ⟩ : ∃ Z, Lib.itoa d1 = Z := ⟨_, rfl⟩
          rw [hZ] at HC hNT2
          subst hNT2
          have e3 := badd [116] Z
          simp only [List.length_cons] at hnl
          clear hz hs3 hs4 hNT hZ h1 h2 hok
          go_wp2_with (first | (go_at_call 16; refine HC.out.mono ?_; rintro e w2 ⟨rfl, hb2⟩; have HO2 := hid (own_below HOX.out (Nat.le_refl _) hb2); have HB2 := hid (bel_next HBR2.out HBR2.out.size hb2); clear hb2; unfold strOf) | (at_builtin; refine app_own (C := cStr) rfl (.tmp 14) (.tmp 19) _ rfl slStr rfl rfl HO2.out no_blk (116 :: Z) (rd_str (by simp; omega)) (by omega) HB2.out.size ?_; intro v3 w3 hO3 hb3; have HO3 := hid hO3; have HB3 := hid (HB2.out.trans hb3); clear hO3 hb3))
          go_roundw
          case rel => exact ⟨k + 1, by omega, by go_num, by rw [HM.out]; exact HO3, HL2, HB3⟩
          case measure => simp [intOf]; omega
    · have HK : Hid (ps.take k = ps) := List.take_of_length_le (by omega)
      rw [HK.out] at HO HL
      obtain ⟨a3, p3, rfl, hs3⟩ := own_rd (own_keep (S' := Fresh w.heap.size wr) HO.out (fun _ h => h.elim) fun _ _ _ => rfl) (Nat.le_refl _)
      have hjl := jn_len (c := 47) HL.out
      rw [List.length_map] at hjl
      have HJ := hid (c_joinC (c := 47) hs3 (by rw [List.length_map]; omega) (by omega))
      have e1 : decide ((k : Int) < (ps.length : Int)) = false := decide_eq_false (by omega)
      have hLM : (ps.map nodeT).length = ps.length := List.length_map _
      obtain ⟨ys, hys⟩ : ∃ ys, ps.map nodeT = ys := ⟨_, rfl⟩
      have HF : Hid (proofT ps = Lib.join ys [47]) := by unfold Hid proofT; rw [hys]
      rw [hys] at HJ ⊢
      clear hys hLM hs3 HO HL hjl
      go_wp2_with (go_at_call 133; refine HJ.out.mono ?_; rintro e w2 ⟨rfl, hb2⟩; have HB2 := hid (bel_next HBR.out hsz hb2); clear hb2; unfold strOf)
      go_ret
      rw [HF.out]
      exact ⟨rfl, HB2.out⟩
theorem c_ProofText {S : Nat → Prop} {B : Nat} {a : Option Addr} {p : Nat} {ps : List Nd} {w : World} (h : SlRd cNode S w a p ps) (ht : TabE B w) :
    Calls Tryd.prog 47 #[.slice a ps.length p] w fun e w' => e = .returned (.tuple #[strOf (proofTextF ps).1, .bool (proofTextF ps).2]) ∧ Below w.heap.size w w' := by
  have H := hid h
  have HT := hid ht
  clear h ht
  obtain ⟨r, hr⟩ : ∃ r, isProofF ps = r := ⟨_, rfl⟩
  have HR := hid hr
  have HC := hid (c_IsProof H.out)
  rw [hr] at HC
  cases r
  · have HF : Hid (proofTextF ps = ([], false)) := by unfold Hid proofTextF; rw [if_neg (by simp [hr])]
    clear hr
    go_enter Tryd.func47, Tryd.ntmps47
    go_wp2_with (go_at_call 95; refine HC.out.mono ?_; rintro e w1 ⟨rfl, hb1⟩; have HB1 := hid hb1; clear hb1)
    go_ret2
    rw [HF.out]
    exact ⟨rfl, HB1.out⟩
  · have HF : Hid (proofTextF ps = (proofT ps, true)) := by unfold Hid proofTextF; rw [if_pos hr]
    clear hr
    go_enter Tryd.func47, Tryd.ntmps47
    go_wp2_with (first | (go_at_call 95; refine HC.out.mono ?_; rintro e w1 ⟨rfl, hb1⟩; have HB1 := hid hb1; have H1 := hid (H.out.below (Nat.le_refl _) hb1); have HT1 := hid (HT.out.on hb1); clear hb1) | (go_at_call 96; refine (c_proofText H1.out HR.out HT1.out).mono ?_; rintro e w2 ⟨rfl, hb2⟩; have HB2 := hid (bel_next HB1.out HB1.out.size hb2); clear hb2; unfold strOf))
    go_ret2
    rw [HF.out]
    exact ⟨rfl, HB2.out⟩
end Go.Proofs.YtcbaohcgeoaccaaDoor
