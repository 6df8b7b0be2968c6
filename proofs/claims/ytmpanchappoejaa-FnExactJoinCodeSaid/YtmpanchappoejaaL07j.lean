/- Contracts: code that does both. -/
import Derived.Test.YtmpanchappoejaaL07s
namespace Go.Proofs.Ytmpanchappoejaa
open Go.RowKit

def haltI (n : Int) (x : Instr) : Instr := if x.1 = 11 then (5, n) else x
def joinL (a b : List Instr) : List Instr := a.map (haltI a.length) ++ shiftL b a.length
def joinF (a b : List Instr) : List Instr × Bool := if validCode a && validCode b then codeB (joinL a b) else ([], false)
theorem joinF_len (a b : List Instr) : (joinF a b).1.length ≤ 1048576 := by
  unfold joinF
  split
  · have := codeB_len (xs := joinL a b); omega
  · simp
theorem own_some {α : Type} {C : Codec α} {S : Nat → Prop} {w : World} {base : Nat} {e : TypeId} {a1 : Option Addr} {n cap : Nat} {zl : List α} (h : OwnSl C S w base e (.slice a1 n cap) zl) (hn : zl.length = n) (hk : 0 < n) : ∃ g, a1 = some ⟨g, 0, none⟩ := by
  obtain ⟨ys, hr, _⟩ := h
  rcases hr.2 with ⟨e1, e2⟩ | ⟨g, cap, cur, e1, _⟩
  · omega
  · injection e1 with e1 e2 e3; exact ⟨g, e1⟩
set_option maxRecDepth 100000 in
set_option maxHeartbeats 1000000 in
theorem c_JoinCode {S T : Nat → Prop} {a a' : Option Addr} {p p' : Nat} {xs ys : List Instr} {w : World} (h : SlRd cInstr S w a p xs) (h' : SlRd cInstr T w a' p' ys) :
    Calls Try.prog 50 #[.slice a xs.length p, .slice a' ys.length p'] w (RetSlB cInstr (joinF xs ys).1 (joinF xs ys).2 w) := by
  obtain ⟨r, hr⟩ : ∃ r, validCode xs = r := ⟨_, rfl⟩
  obtain ⟨q, hq⟩ : ∃ q, validCode ys = q := ⟨_, rfl⟩
  have HF : Hid (joinF xs ys = if r && q then codeB (joinL xs ys) else ([], false)) := by unfold Hid joinF; rw [hr, hq]
  have HR := hid hr
  have HQ := hid hq
  have H := hid h
  have H' := hid h'
  clear h h'
  cases r
  · clear hr hq
    go_enter Try.func50, Try.ntmps50
    go_wp2_with (go_at_call 93; refine (c_ValidCode _ _ _ _ H.out).mono ?_; rintro e w1 ⟨rfl, hb1⟩; rw [HR.out])
    go_ret2
    rw [HF.out]
    exact ⟨none, 0, rfl, nil_rd _ _ _, hb1⟩
  · cases q
    · clear hr hq
      go_enter Try.func50, Try.ntmps50
      go_wp2_with fail
      refine (c_ValidCode _ _ _ _ H.out).mono ?_
      rintro e w1 ⟨rfl, hb1⟩
      rw [HR.out]
      have HB1 := hid hb1
      have H1 := hid (H'.out.below (Nat.le_refl _) hb1)
      clear hb1
      go_wp2_with (go_at_call 93; refine (c_ValidCode _ _ _ _ H1.out).mono ?_; rintro e w2 ⟨rfl, hb2⟩; rw [HQ.out])
      go_ret2
      rw [HF.out]
      exact ⟨none, 0, rfl, nil_rd _ _ _, bel_next HB1.out HB1.out.size hb2⟩
    · have HF2 : Hid (joinF xs ys = codeB (joinL xs ys)) := by unfold Hid; rw [HF.out]; rfl
      have HX := hid (small_args hq)
      have hxl := (validCode_iff hr).2.1
      have hx1 := (validCode_iff hr).1
      have hyl := (validCode_iff hq).2.1
      obtain ⟨u, hu⟩ : ∃ u, validCode (joinL xs ys) = u := ⟨_, rfl⟩
      have HU := hid hu
      clear hr hq hu
      go_enter Try.func50, Try.ntmps50
      go_wp2_with fail
      refine (c_ValidCode _ _ _ _ H.out).mono ?_
      rintro e w1 ⟨rfl, hb1⟩
      rw [HR.out]
      have HB1 := hid hb1
      have H1 := hid (H.out.below (Nat.le_refl _) hb1)
      have H1' := hid (H'.out.below (Nat.le_refl _) hb1)
      clear hb1
      go_wp2_with fail
      refine (c_ValidCode _ _ _ _ H1'.out).mono ?_
      rintro e w2 ⟨rfl, hb2⟩
      rw [HQ.out]
      have HB2 := hid (bel_next HB1.out HB1.out.size hb2)
      have H2 := hid (H1.out.below (Nat.le_refl _) hb2)
      have H2' := hid (H1'.out.below (Nat.le_refl _) hb2)
      clear hb2
      go_wp2_with fail
      refine (c_size _ _).mono ?_
      rintro e w3 ⟨rfl, rfl⟩
      go_wp2_with fail
      refine (c_cloneCode H2.out (by omega)).mono ?_
      rintro e w3 ⟨v3, rfl, hO3, hb3⟩
      obtain ⟨a3, p3, rfl⟩ := own_len hO3
      obtain ⟨g, rfl⟩ := own_some hO3 rfl (by omega)
      have HO3 := hid (own_base hO3 HB2.out.size)
      have HB3 := hid (bel_next HB2.out HB2.out.size hb3)
      clear hO3 hb3
      go_wp2
      go_loopw [25] (fun i wr => ∃ k : Nat, k ≤ xs.length ∧ i = .int .i64 k ∧ Hid (OwnSl cInstr (fun _ => False) wr w.heap.size 118 (.slice (some ⟨g, 0, none⟩) xs.length p3) ((xs.take k).map (haltI xs.length) ++ xs.drop k)) ∧ Below w.heap.size w wr) (fun i _ => xs.length - (intOf i).toNat)
      case atStart => exact ⟨0, Nat.zero_le _, rfl, by simpa using HO3, HB3.out⟩
      case round =>
        obtain ⟨k, hk, rfl, HO, hbe⟩ := hrel
        have hsz := hbe.size
        by_cases hlt : k < xs.length
        · obtain ⟨x, y, hz, hx1, hy1, hc, hc', hf, hf', hgl, hgb⟩ := own_at_instr HO.out (upto_len hk) k hlt
          rw [upto_at hlt] at hz
          by_cases h11 : x = 11
          · subst h11
            have HN : Hid (((xs.take k).map (haltI xs.length) ++ xs.drop k).set k (5, (xs.length : Int)) = (xs.take (k + 1)).map (haltI xs.length) ++ xs.drop (k + 1)) := by
              have := upto_set (f := haltI xs.length) hz
              unfold Hid; rw [← this]; rfl
            have HS := hid (own_set_instr HO.out (upto_len hk) k hlt 5 (xs.length : Int) ⟨by omega, by omega⟩ ⟨by omega, by omega⟩)
            clear hz
            go_wp2
            go_roundw
            case rel => exact ⟨k + 1, by omega, by go_num, by rw [← HN.out]; exact own_alloc HS.out.1 _, ((hbe.setCell hgb _).setCell hgb _).alloc (by rw [size_set, size_set]; exact hsz) _⟩
            case measure => simp [intOf]; omega
          · have h11' : (x == 11) = false := by simp [h11]
            have HN : Hid ((xs.take (k + 1)).map (haltI xs.length) ++ xs.drop (k + 1) = (xs.take k).map (haltI xs.length) ++ xs.drop k) := upto_same hz (by unfold haltI; rw [if_neg h11])
            clear hz h11
            go_wp2
            go_roundw
            case rel => exact ⟨k + 1, by omega, by go_num, by rw [HN.out]; exact own_alloc HO.out _, hbe.alloc hsz _⟩
            case measure => simp [intOf]; omega
        · have HE : Hid ((xs.take k).map (haltI xs.length) ++ xs.drop k = xs.map (haltI xs.length)) := upto_end (by omega)
          have HO4 : Hid (OwnSl cInstr (fun _ => False) wr w.heap.size 118 (.slice (some ⟨g, 0, none⟩) xs.length p3) (xs.map (haltI xs.length))) := by rw [← HE.out]; exact HO
          have H4 := hid (H'.out.below (Nat.le_refl _) hbe)
          have HBE := hid hbe
          clear hbe
          go_wp2_with fail
          refine (c_shifted H4.out (by omega) HX.out (by omega) (by omega)).mono ?_
          rintro e w5 ⟨v5, rfl, hO5, hb5⟩
          obtain ⟨a5, p5, rfl⟩ := own_len hO5
          have HRD := hid (own_rd (own_keep (S' := Fresh wr.heap.size w5) hO5 (fun _ h => h.elim) fun _ _ _ => rfl) (Nat.le_refl _))
          have HB5 := hid (bel_next HBE.out HBE.out.size hb5)
          have HO5 := hid (own_below HO4.out (Nat.le_refl _) hb5)
          clear hO5 hb5
          obtain ⟨a6, p6, he, hs⟩ := HRD.out
          cases he
          have HS := hid hs
          have hsl : (shiftL ys xs.length).length ≤ 80 := by unfold shiftL; simpa using hyl
          clear HRD hs
          cases u
          all_goals
            go_wp2_with (first | (at_builtin; refine app_all (C := cInstr) rfl (.tmp 39) (.tmp 42) _ rfl slInstr flat_instr rfl rfl HO5.out HS.out no_blk (by simp; omega) HB5.out.size ?_; intro v7 w7 hO7 hb7; have hO7 : OwnSl cInstr (fun _ => False) w7 w.heap.size 118 v7 (joinL xs ys) := hO7; obtain ⟨a7, p7, rfl⟩ := own_len hO7; have HRD := hid (own_rd (own_keep (S' := Fresh w.heap.size w7) hO7 (fun _ h => h.elim) fun _ _ _ => rfl) (Nat.le_refl _)); have HO7 := hid hO7; have HB7 := hid (HB5.out.trans hb7); clear hO7 hb7; obtain ⟨a8, p8, he, hs⟩ := HRD.out; cases he; have HS7 := hid hs; clear HRD hs) | (go_at_call 94; refine (c_checkedCode (xs := joinL xs ys) HS7.out).mono ?_; rintro e w9 ⟨rfl, hb9⟩; rw [HU.out]))
            go_ret2
            rw [HF2.out]
            have h9 := retCode HO7.out rfl HB7.out hb9
            rw [HU.out] at h9
            exact h9
set_option maxRecDepth 100000 in
set_option maxHeartbeats 1000000 in
theorem c_sJoinCode {S T : Nat → Prop} {a a' : Option Addr} {p p' : Nat} {xs ys : List Instr} {w : World} (h : SlRd cInstr S w a p xs) (h' : SlRd cInstr T w a' p' ys) :
    Calls Try.prog 49 #[.slice a xs.length p, .slice a' ys.length p'] w (RetSlB cInstr (joinF xs ys).1 (joinF xs ys).2 w) := by
  obtain ⟨r, hr⟩ : ∃ r, validCode xs = r := ⟨_, rfl⟩
  obtain ⟨q, hq⟩ : ∃ q, validCode ys = q := ⟨_, rfl⟩
  have HF : Hid (joinF xs ys = if r && q then codeB (joinL xs ys) else ([], false)) := by unfold Hid joinF; rw [hr, hq]
  have HR := hid hr
  have HQ := hid hq
  have H := hid h
  have H' := hid h'
  clear h h'
  cases r
  · clear hr hq
    go_enter Try.func49, Try.ntmps49
    go_wp2_with (go_at_call 89; refine (c_l07Is _ _ _ _ H.out).mono ?_; rintro e w1 ⟨rfl, hb1⟩; rw [HR.out])
    go_ret2
    rw [HF.out]
    exact ⟨none, 0, rfl, nil_rd _ _ _, hb1⟩
  · cases q
    · clear hr hq
      go_enter Try.func49, Try.ntmps49
      go_wp2_with fail
      refine (c_l07Is _ _ _ _ H.out).mono ?_
      rintro e w1 ⟨rfl, hb1⟩
      rw [HR.out]
      have HB1 := hid hb1
      have H1 := hid (H'.out.below (Nat.le_refl _) hb1)
      clear hb1
      go_wp2_with (go_at_call 89; refine (c_l07Is _ _ _ _ H1.out).mono ?_; rintro e w2 ⟨rfl, hb2⟩; rw [HQ.out])
      go_ret2
      rw [HF.out]
      exact ⟨none, 0, rfl, nil_rd _ _ _, bel_next HB1.out HB1.out.size hb2⟩
    · have HF2 : Hid (joinF xs ys = codeB (joinL xs ys)) := by unfold Hid; rw [HF.out]; rfl
      have HX := hid (small_args hq)
      have hxl := (validCode_iff hr).2.1
      have hx1 := (validCode_iff hr).1
      have hyl := (validCode_iff hq).2.1
      obtain ⟨u, hu⟩ : ∃ u, validCode (joinL xs ys) = u := ⟨_, rfl⟩
      have HU := hid hu
      clear hr hq hu
      go_enter Try.func49, Try.ntmps49
      go_wp2_with fail
      refine (c_l07Is _ _ _ _ H.out).mono ?_
      rintro e w1 ⟨rfl, hb1⟩
      rw [HR.out]
      have HB1 := hid hb1
      have H1 := hid (H.out.below (Nat.le_refl _) hb1)
      have H1' := hid (H'.out.below (Nat.le_refl _) hb1)
      clear hb1
      go_wp2_with fail
      refine (c_l07Is _ _ _ _ H1'.out).mono ?_
      rintro e w2 ⟨rfl, hb2⟩
      rw [HQ.out]
      have HB2 := hid (bel_next HB1.out HB1.out.size hb2)
      have H2 := hid ((H1.out.below (Nat.le_refl _) hb2).alloc (.cells #[] 118))
      have HO2 : Hid (OwnSl cInstr (fun _ => False) (w2.alloc (.cells #[] 118)) w.heap.size 118 (.slice (some ⟨w2.heap.size, 0, none⟩) 0 0) []) := own_made _ _ _ _ _ HB2.out.size
      have HB2' := hid (HB2.out.alloc HB2.out.size (.cells #[] 118))
      clear hb2
      go_wp2_with (at_builtin; refine app_all (C := cInstr) rfl (.tmp 19) (.tmp 20) _ rfl slInstr flat_instr rfl rfl HO2.out H2.out no_blk (by simp; omega) HB2'.out.size ?_; intro v3 w3 hO3 hb3; rw [List.nil_append] at hO3; obtain ⟨a3, p3, rfl⟩ := own_len hO3; obtain ⟨g, rfl⟩ := own_some hO3 rfl (by omega); have HO3 := hid hO3; have HB3 := hid (HB2'.out.trans hb3); clear hO3 hb3)
      go_loopw [8] (fun i wr => ∃ k : Nat, k ≤ xs.length ∧ i = .int .i64 k ∧ Hid (OwnSl cInstr (fun _ => False) wr w.heap.size 118 (.slice (some ⟨g, 0, none⟩) xs.length p3) ((xs.take k).map (haltI xs.length) ++ xs.drop k)) ∧ Below w.heap.size w wr) (fun i _ => xs.length - (intOf i).toNat)
      case atStart => exact ⟨0, Nat.zero_le _, rfl, by simpa using HO3, HB3.out⟩
      case round =>
        obtain ⟨k, hk, rfl, HO, hbe⟩ := hrel
        have hsz := hbe.size
        by_cases hlt : k < xs.length
        · obtain ⟨x, y, hz, hx1, hy1, hc, hc', hf, hf', hgl, hgb⟩ := own_at_instr HO.out (upto_len hk) k hlt
          rw [upto_at hlt] at hz
          by_cases h11 : x = 11
          · subst h11
            have HN : Hid (((xs.take k).map (haltI xs.length) ++ xs.drop k).set k (5, (xs.length : Int)) = (xs.take (k + 1)).map (haltI xs.length) ++ xs.drop (k + 1)) := by
              have := upto_set (f := haltI xs.length) hz
              unfold Hid; rw [← this]; rfl
            have HS := hid (own_set_instr HO.out (upto_len hk) k hlt 5 (xs.length : Int) ⟨by omega, by omega⟩ ⟨by omega, by omega⟩)
            clear hz
            go_wp2
            go_roundw
            case rel => exact ⟨k + 1, by omega, by go_num, by rw [← HN.out]; exact HS.out.1, (hbe.setCell hgb _).setCell hgb _⟩
            case measure => simp [intOf]; omega
          · have h11' : (x == 11) = false := by simp [h11]
            have HN : Hid ((xs.take (k + 1)).map (haltI xs.length) ++ xs.drop (k + 1) = (xs.take k).map (haltI xs.length) ++ xs.drop k) := upto_same hz (by unfold haltI; rw [if_neg h11])
            clear hz h11
            go_wp2
            go_roundw
            case rel => exact ⟨k + 1, by omega, by go_num, by rw [HN.out]; exact HO, hbe⟩
            case measure => simp [intOf]; omega
        · have HE : Hid ((xs.take k).map (haltI xs.length) ++ xs.drop k = xs.map (haltI xs.length)) := upto_end (by omega)
          have HO4 : Hid (OwnSl cInstr (fun _ => False) wr w.heap.size 118 (.slice (some ⟨g, 0, none⟩) xs.length p3) (xs.map (haltI xs.length))) := by rw [← HE.out]; exact HO
          have H4 := hid (H'.out.below (Nat.le_refl _) hbe)
          have HBE := hid hbe
          clear hbe
          go_wp2_with fail
          refine (c_l07Shift H4.out (by omega) HX.out (by omega) (by omega)).mono ?_
          rintro e w5 ⟨v5, rfl, hO5, hb5⟩
          obtain ⟨a5, p5, rfl⟩ := own_len hO5
          have HRD := hid (own_rd (own_keep (S' := Fresh wr.heap.size w5) hO5 (fun _ h => h.elim) fun _ _ _ => rfl) (Nat.le_refl _))
          have HB5 := hid (bel_next HBE.out HBE.out.size hb5)
          have HO5 := hid (own_below HO4.out (Nat.le_refl _) hb5)
          clear hO5 hb5
          obtain ⟨a6, p6, he, hs⟩ := HRD.out
          cases he
          have HS := hid hs
          have hsl : (shiftL ys xs.length).length ≤ 80 := by unfold shiftL; simpa using hyl
          clear HRD hs
          cases u
          all_goals
            go_wp2_with (first | (at_builtin; refine app_all (C := cInstr) rfl (.tmp 39) (.tmp 42) _ rfl slInstr flat_instr rfl rfl HO5.out HS.out no_blk (by simp; omega) HB5.out.size ?_; intro v7 w7 hO7 hb7; have hO7 : OwnSl cInstr (fun _ => False) w7 w.heap.size 118 v7 (joinL xs ys) := hO7; obtain ⟨a7, p7, rfl⟩ := own_len hO7; have HRD := hid (own_rd (own_keep (S' := Fresh w.heap.size w7) hO7 (fun _ h => h.elim) fun _ _ _ => rfl) (Nat.le_refl _)); have HO7 := hid hO7; have HB7 := hid (HB5.out.trans hb7); clear hO7 hb7; obtain ⟨a8, p8, he, hs⟩ := HRD.out; cases he; have HS7 := hid hs; clear HRD hs) | (go_at_call 89; refine (c_l07Is _ _ (joinL xs ys) _ HS7.out).mono ?_; rintro e w9 ⟨rfl, hb9⟩; rw [HU.out]))
            go_ret2
            rw [HF2.out]
            have h9 := retCode HO7.out rfl HB7.out hb9
            rw [HU.out] at h9
            exact h9
end Go.Proofs.Ytmpanchappoejaa
