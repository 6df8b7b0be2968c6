/- Contracts and laws of data, 2 texts joined (they are printed one by one from wip/src). -/
import Derived.Test.YtcmopmapdomneaaDoorM6
import Derived.Deep.RegionHeld3

section
namespace Go.Proofs.YtcmopmapdomneaaDoor
open Go.RowKit

theorem tr_at {ps : List Stmt} {m : Nat} {T : Nat → Prop} {w : World} {b off cap : Nat} {ks : List Nat} (h : SlRd (cTr ps m) T w (some ⟨b, off, none⟩) cap ks) (j : Nat) (hj : j < ks.length) :
    ∃ q, w.cell? ⟨b, off + j, none⟩ = some (.pointer q) ∧ (cTr ps m).rd T w [.pointer q] ks[j] ∧ b < w.heap.size := by
  obtain ⟨d, cs, h1, hr, h7, _, hc⟩ := h.at j hj
  rw [List.getElem?_eq_getElem hj] at h1
  cases h1
  cases m with
  | zero => exact hr.elim
  | succ m =>
    have hr' := hr
    obtain ⟨g, d, a4, p4, a6, p6, a7, p7, ak, pk, rfl, _⟩ := hr'
    refine ⟨some ⟨g, 0, none⟩, ?_, hr, h7⟩
    have := hc 0 _ rfl
    rw [show (cTr ps (m + 1)).n = 1 from rfl, Nat.mul_one, Nat.add_zero] at this
    exact this
set_option maxRecDepth 100000 in
theorem c_variable (v : Int) (w : World) (h : 0 ≤ v ∧ v ≤ 3) : Calls Tryd.prog 99 #[.int .i64 v] w fun e w' => e = .returned (strOf (vnT v)) ∧ w = w' := by
  obtain ⟨k, rfl⟩ := Int.eq_ofNat_of_zero_le h.1
  have hk : k ≤ 3 := by omega
  have hw1 : IntKind.i64.wrap (97 + (k : Int)) = 97 + (k : Int) := wrap_in _ (by omega) (by omega)
  have hw2 : IntKind.i32.wrap (97 + (k : Int)) = 97 + (k : Int) := by simp [IntKind.wrap, IntKind.signed, IntKind.bits]; omega
  have HCV := hid fun w => conv_name w k (by omega)
  have HF : Hid (vnT (k : Int) = [UInt8.ofNat (97 + k)]) := rfl
  obtain ⟨nm, hnm⟩ : ∃ nm, UInt8.ofNat (97 + k) = nm := ⟨_, rfl⟩
  rw [hnm] at HCV HF
  clear hnm h
  go_enter Tryd.func99, Tryd.ntmps99
  go_wp2_with (refine wpList_conv rfl 21 9 (.tmp 5) rfl rfl (HCV.out _) ?_)
  go_ret
  rw [HF.out]
  exact ⟨rfl, rfl⟩
set_option maxHeartbeats 4000000 in
set_option maxRecDepth 100000 in
theorem c_lines {B : Nat} {ps : List Stmt} (h30 : ps.length ≤ 30) : ∀ (m k e : Nat) (T : Nat → Prop) (w : World) (q : Option Addr), (cTr ps m).rd T w [.pointer q] k → walkT (stN ps) ps.length 1 k = some e → TabE B w →
    Calls Tryd.prog 65 #[.pointer q] w fun r w' => ∃ v, r = .returned v ∧ OwnSl cStr (fun _ => False) w' w.heap.size 9 v (linesF ps m k) ∧ Below w.heap.size w w' := by
  intro m
  induction m with
  | zero => intro k e T w q h; exact h.elim
  | succ m ih =>
    intro k e T w q h hw ht
    obtain ⟨g, ⟨d0, d1, d2, ⟨d3, d4⟩, ⟨d5, d6⟩, d7⟩, a4, p4, a6, p6, a7, p7, ak, pk, hq, hT, hg, hd, hok, ⟨hc0, hc1, hc2, hc3, hc4, hc5, hc6, hc7⟩, hs4, hs6, hs7, hc9, hsk⟩ := h
    obtain rfl : q = some ⟨g, 0, none⟩ := by simpa using hq
    have ok := stmtOk_of hok
    obtain ⟨tk0, tk1, tk2⟩ := tree_kids hd hok hw
    obtain ⟨hbl, hbn⟩ := linesF_bounds (m + 1) k e hw
    have hge := walkT_ge ps.length 1 k e (by omega) hw
    have hlt := (List.getElem?_eq_some_iff.1 hd).1
    have hge2 := hge.2 (by omega)
    have hbl6 : (nlF (linesF ps (m + 1) k)).length ≤ 60000 := by omega
    have hbn6 : (linesF ps (m + 1) k).length ≤ 300 := by omega
    have HLF := hid (linesF_at (m := m) hd)
    have hsum := ok.sum
    have hidx := ok.idx
    have hkind := ok.kind
    have hvar := ok.var
    have hev := ok.ev
    have hfc := ok.facts
    simp only at hsum hidx hkind hvar hev hfc hc0 hc1 hc2 hc3 hc4 hc5 hc6 hc7 hs4 hs6 hs7
    have l1 := textF_len hsum
    have l2 := textF_len hidx
    have hBw := ht.2
    have HTB := hid (fun (w' : World) (hb' : Below w.heap.size w w') => ht.belows (hb'.mono hBw))
    have HCS := hid (fun (w' : World) (hb' : Below w.heap.size w w') => c_termText (hs4.below (Nat.le_refl _) hb') hsum (HTB.out w' hb'))
    have HCI := hid (fun (w' : World) (hb' : Below w.heap.size w w') => c_termText (hs6.below (Nat.le_refl _) hb') hidx (HTB.out w' hb'))
    have HS7 := hid hs7
    have HSK := hid hsk
    have HW := hid hw
    have IH := hid ih
    have HFC := hid hfc
    have HTK1 := hid tk1
    have HTK2 := hid tk2
    have HG : Hid True := trivial
    have HRF : Hid (Below w.heap.size w w.drew) := (Below.refl _ _).drew
    clear hd hok ok tk0 tk1 tk2 hbl hbn hsum hidx hfc hs4 hs6 hs7 hsk ih hw ht hq hT hge hge2
    rcases (by omega : d0 = 0 ∨ d0 = 1 ∨ d0 = 2 ∨ d0 = 3 ∨ d0 = 4 ∨ d0 = 5 ∨ d0 = 6 ∨ d0 = 7 ∨ d0 = 8) with rfl | rfl | rfl | rfl | rfl | rfl | rfl | rfl | rfl
    · have HLF2 : Hid (linesF ps (m + 1) k = [[115, 107, 105, 112]]) := HLF.out
      clear HLF
      obtain ⟨SM, hSM⟩ : ∃ X, textF (d3, d4) = X := ⟨_, rfl⟩
      rw [hSM] at HCS l1
      obtain ⟨IX, hIX⟩ : ∃ X, textF (d5, d6) = X := ⟨_, rfl⟩
      rw [hIX] at HCI l2
      clear hSM hIX
      go_enter Tryd.func65, Tryd.ntmps65
      go_wp2
      go_region_held3 (fun w' => w'.cell? ⟨g, 3, none⟩ = some (.int .i64 d3) ∧ w'.cell? ⟨g, 4, none⟩ = some (.slice a4 d4.length p4) ∧ w'.cell? ⟨g, 5, none⟩ = some (.int .i64 d5) ∧ w'.cell? ⟨g, 6, none⟩ = some (.slice a6 d6.length p6)) (first | exact ⟨hc3, hc4, hc5, hc6⟩ | exact kk1 | exact kk2) (first | (have hq := HG.out; clear hq HG; go_at_call 50; refine (HCS.out _ HRF.out).mono ?_; rintro e w2 ⟨rfl, hb2⟩; unfold strOf; have HB2 : Hid (Below w.heap.size w w2) := HRF.out.trans hb2; have kk1 := And.intro (cell_below HB2.out hg hc3) (And.intro (cell_below HB2.out hg hc4) (And.intro (cell_below HB2.out hg hc5) (cell_below HB2.out hg hc6))); clear hb2) | (go_at_call 50; refine (HCI.out _ HB2.out).mono ?_; rintro e w3 ⟨rfl, hb3⟩; unfold strOf; have HB3 := hid (bel_next HB2.out HB2.out.size hb3); have kk2 := And.intro (cell_below HB3.out hg hc3) (And.intro (cell_below HB3.out hg hc4) (And.intro (cell_below HB3.out hg hc5) (cell_below HB3.out hg hc6))); clear hb3))
      clear kk1 kk2 HB2
      have t0 := cell_below HB3.out hg hc0
      have t1 := cell_below HB3.out hg hc1
      have t2 := cell_below HB3.out hg hc2
      have t7 := cell_below HB3.out hg hc7
      have t9 := cell_below HB3.out hg hc9
      have z3 : w.heap.size ≤ w3.heap.size := HB3.out.size
      have HF := HLF2
      go_wp2
      go_ret
      refine ⟨_, rfl, ?_, HB3.out.alloc HB3.out.size _⟩
      rw [HF.out]
      exact own_lit1 cStr (fun _ => False) w3 w.heap.size 9 HB3.out.size [115, 107, 105, 112] (rd_str (by first | decide | omega))
    · have HLF2 : Hid (linesF ps (m + 1) k = linesF ps m (k + 1) ++ linesF ps m (endAt ps (k + 1))) := HLF.out
      clear HLF
      obtain ⟨SM, hSM⟩ : ∃ X, textF (d3, d4) = X := ⟨_, rfl⟩
      rw [hSM] at HCS l1
      obtain ⟨IX, hIX⟩ : ∃ X, textF (d5, d6) = X := ⟨_, rfl⟩
      rw [hIX] at HCI l2
      clear hSM hIX
      obtain ⟨hw1, hw2⟩ := HTK2.out rfl
      obtain ⟨E1, hE1⟩ : ∃ E1, endAt ps (k + 1) = E1 := ⟨_, rfl⟩
      have hkp : kidsP ps (1, d1, d2, (d3, d4), (d5, d6), d7) k = [k + 1, endAt ps (k + 1)] := rfl
      rw [hkp] at HSK hc9
      rw [hE1] at hw1 hw2 HLF2 HSK hc9
      obtain ⟨kb, ko, rfl⟩ := HSK.out.some_of (k := 0) (by simp)
      obtain ⟨q0, hk0, hr0, hkb⟩ := tr_at HSK.out 0 (by simp)
      obtain ⟨q1, hk1, hr1, _⟩ := tr_at HSK.out 1 (by simp)
      have HC0 := hid (fun (w' : World) (hb' : Below w.heap.size w w') => IH.out (k + 1) E1 T w' q0 ((cTr ps m).below (Nat.le_refl _) hb' hr0) hw1 (HTB.out w' hb'))
      have HC1 := hid (fun (w' : World) (hb' : Below w.heap.size w w') => IH.out E1 e T w' q1 ((cTr ps m).below (Nat.le_refl _) hb' hr1) hw2 (HTB.out w' hb'))
      have ge1 := walkT_ge ps.length 1 (k + 1) E1 (by omega) hw1
      have ge2 := walkT_ge ps.length 1 E1 e (by omega) hw2
      have ge3 := ge1.2 (by omega)
      have ge4 := ge2.2 ge3
      have lA := (linesF_bounds m (k + 1) E1 hw1).2
      have lB := (linesF_bounds m E1 e hw2).2
      obtain ⟨FA, hFA⟩ : ∃ X, linesF ps m (k + 1) = X := ⟨_, rfl⟩
      obtain ⟨FB, hFB⟩ : ∃ X, linesF ps m E1 = X := ⟨_, rfl⟩
      rw [hFA] at HLF2 HC0 lA
      rw [hFB] at HLF2 HC1 lB
      have lA3 : FA.length ≤ 300 := by omega
      have lB3 : FB.length ≤ 300 := by omega
      clear hw1 hw2 hkp hFA hFB hr0 hr1 lA lB hE1 ge1 ge2 ge3 ge4
      simp only [Nat.add_zero] at hk0
      simp only [List.length_cons, List.length_nil] at hc9
      have HG2 : Hid True := trivial
      go_enter Tryd.func65, Tryd.ntmps65
      go_wp2
      go_region_held3 (fun w' => w'.cell? ⟨g, 3, none⟩ = some (.int .i64 d3) ∧ w'.cell? ⟨g, 4, none⟩ = some (.slice a4 d4.length p4) ∧ w'.cell? ⟨g, 5, none⟩ = some (.int .i64 d5) ∧ w'.cell? ⟨g, 6, none⟩ = some (.slice a6 d6.length p6)) (first | exact ⟨hc3, hc4, hc5, hc6⟩ | exact kk1 | exact kk2) (first | (have hq := HG.out; clear hq HG; go_at_call 50; refine (HCS.out _ HRF.out).mono ?_; rintro e w2 ⟨rfl, hb2⟩; unfold strOf; have HB2 : Hid (Below w.heap.size w w2) := HRF.out.trans hb2; have kk1 := And.intro (cell_below HB2.out hg hc3) (And.intro (cell_below HB2.out hg hc4) (And.intro (cell_below HB2.out hg hc5) (cell_below HB2.out hg hc6))); clear hb2) | (go_at_call 50; refine (HCI.out _ HB2.out).mono ?_; rintro e w3 ⟨rfl, hb3⟩; unfold strOf; have HB3 := hid (bel_next HB2.out HB2.out.size hb3); have kk2 := And.intro (cell_below HB3.out hg hc3) (And.intro (cell_below HB3.out hg hc4) (And.intro (cell_below HB3.out hg hc5) (cell_below HB3.out hg hc6))); clear hb3))
      clear kk1 kk2 HB2
      have t0 := cell_below HB3.out hg hc0
      have t1 := cell_below HB3.out hg hc1
      have t2 := cell_below HB3.out hg hc2
      have t7 := cell_below HB3.out hg hc7
      have t9 := cell_below HB3.out hg hc9
      have z3 : w.heap.size ≤ w3.heap.size := HB3.out.size
      have y0 := cell_below HB3.out hkb hk0
      have y1 := cell_below HB3.out hkb hk1
      go_wp2
      go_region_held3 (fun w' => w'.cell? ⟨g, 9, none⟩ = some (.slice (some ⟨kb, ko, none⟩) 2 pk) ∧ w'.cell? ⟨kb, ko, none⟩ = some (.pointer q0) ∧ w'.cell? ⟨kb, ko + 1, none⟩ = some (.pointer q1)) (first | exact ⟨t9, y0, y1⟩ | exact kk1 | exact kk2 | exact kk3) (first | (have hq := HG2.out; clear hq HG2; go_at_call 65; refine (HC0.out _ HB3.out.drew).mono ?_; rintro e w4 ⟨v4, rfl, ho4, hb4⟩; have HB4 : Hid (Below w.heap.size w w4) := HB3.out.drew.trans (hb4.mono z3); have HO4 := hid (own_base (base' := w.heap.size) ho4 z3); have kk1 := And.intro (cell_below HB4.out hg hc9) (And.intro (cell_below HB4.out hkb hk0) (cell_below HB4.out hkb hk1)); clear hb4 ho4) | (go_at_call 65; refine (HC1.out _ HB4.out).mono ?_; rintro e w5 ⟨v5, rfl, ho5, hb5⟩; have HB5 := hid (bel_next HB4.out HB4.out.size hb5); have HO45 := hid (own_below HO4.out (Nat.le_refl _) hb5); obtain ⟨a5, c5, rfl, hs5⟩ := own_rd (own_keep (S' := Fresh w4.heap.size w5) ho5 (fun _ h => h.elim) fun _ _ _ => rfl) (Nat.le_refl _); have HS5 := hid hs5; clear hs5 ho5; have kk2 := And.intro (cell_below HB5.out hg hc9) (And.intro (cell_below HB5.out hkb hk0) (cell_below HB5.out hkb hk1)); clear hb5) | (refine step_all (C := cStr) rfl (.tmp 37) (.tmp 44) _ rfl slTx flat_str rfl rfl HO45.out HS5.out no_blk (by omega) HB5.out.size ?_; intro v6 w6 hO6 hb6; have HO6 := hid hO6; have HB6 := hid (HB5.out.trans hb6); have kk3 := And.intro (cell_below HB6.out hg hc9) (And.intro (cell_below HB6.out hkb hk0) (cell_below HB6.out hkb hk1)); clear hO6 hb6))
      all_goals
        go_wp2
        go_ret
        refine ⟨v6, rfl, ?_, HB6.out⟩
        rw [HLF2.out]
        exact HO6.out
    · have HLF2 : Hid (linesF ps (m + 1) k = [(([115, 101, 116, 32] ++ vnT d1) ++ [32]) ++ textF (d3, d4)]) := HLF.out
      clear HLF
      obtain ⟨SM, hSM⟩ : ∃ X, textF (d3, d4) = X := ⟨_, rfl⟩
      rw [hSM] at HCS l1
      obtain ⟨IX, hIX⟩ : ∃ X, textF (d5, d6) = X := ⟨_, rfl⟩
      rw [hIX] at HCI l2
      rw [hSM] at HLF2
      clear hSM hIX
      have hv3 : 0 ≤ d1 ∧ d1 ≤ 3 := hvar (by omega)
      have HNM := hid (fun w' => c_variable d1 w' hv3)
      obtain ⟨VN, hVN⟩ : ∃ X, vnT d1 = X := ⟨_, rfl⟩
      have lVN : VN.length = 1 := by rw [← hVN]; rfl
      rw [hVN] at HLF2 HNM
      clear hVN
      have e21 := badd [115, 101, 116, 32] VN
      obtain ⟨X1, hX1⟩ : ∃ X, [115, 101, 116, 32] ++ VN = X := ⟨_, rfl⟩
      have lX1 : X1.length = 4 + VN.length := by rw [← hX1]; simp <;> omega
      have n21 : ¬ 9223372036854775807 < 4 + VN.length := by omega
      rw [hX1] at e21
      have HX1 := hid hX1
      clear hX1
      have e22 := badd X1 [32]
      obtain ⟨X2, hX2⟩ : ∃ X, X1 ++ [32] = X := ⟨_, rfl⟩
      have lX2 : X2.length = X1.length + 1 := by rw [← hX2]; simp <;> omega
      have n22 : ¬ 9223372036854775807 < X1.length + 1 := by omega
      rw [hX2] at e22
      have HX2 := hid hX2
      clear hX2
      have e23 := badd X2 SM
      obtain ⟨X3, hX3⟩ : ∃ X, X2 ++ SM = X := ⟨_, rfl⟩
      have lX3 : X3.length = X2.length + SM.length := by rw [← hX3]; simp <;> omega
      have n23 : ¬ 9223372036854775807 < X2.length + SM.length := by omega
      rw [hX3] at e23
      have HX3 := hid hX3
      clear hX3
      have HF : Hid (linesF ps (m + 1) k = [X3]) := by unfold Hid; rw [HLF2.out, ← HX3.out, ← HX2.out, ← HX1.out]
      go_enter Tryd.func65, Tryd.ntmps65
      go_wp2
      go_region_held3 (fun w' => w'.cell? ⟨g, 3, none⟩ = some (.int .i64 d3) ∧ w'.cell? ⟨g, 4, none⟩ = some (.slice a4 d4.length p4) ∧ w'.cell? ⟨g, 5, none⟩ = some (.int .i64 d5) ∧ w'.cell? ⟨g, 6, none⟩ = some (.slice a6 d6.length p6)) (first | exact ⟨hc3, hc4, hc5, hc6⟩ | exact kk1 | exact kk2) (first | (have hq := HG.out; clear hq HG; go_at_call 50; refine (HCS.out _ HRF.out).mono ?_; rintro e w2 ⟨rfl, hb2⟩; unfold strOf; have HB2 : Hid (Below w.heap.size w w2) := HRF.out.trans hb2; have kk1 := And.intro (cell_below HB2.out hg hc3) (And.intro (cell_below HB2.out hg hc4) (And.intro (cell_below HB2.out hg hc5) (cell_below HB2.out hg hc6))); clear hb2) | (go_at_call 50; refine (HCI.out _ HB2.out).mono ?_; rintro e w3 ⟨rfl, hb3⟩; unfold strOf; have HB3 := hid (bel_next HB2.out HB2.out.size hb3); have kk2 := And.intro (cell_below HB3.out hg hc3) (And.intro (cell_below HB3.out hg hc4) (And.intro (cell_below HB3.out hg hc5) (cell_below HB3.out hg hc6))); clear hb3))
      clear kk1 kk2 HB2
      have t0 := cell_below HB3.out hg hc0
      have t1 := cell_below HB3.out hg hc1
      have t2 := cell_below HB3.out hg hc2
      have t7 := cell_below HB3.out hg hc7
      have t9 := cell_below HB3.out hg hc9
      have z3 : w.heap.size ≤ w3.heap.size := HB3.out.size
      go_wp2_with (go_at_call 99; refine (HNM.out _).mono ?_; rintro e w4 ⟨rfl, rfl⟩; unfold strOf)
      go_ret
      refine ⟨_, rfl, ?_, HB3.out.alloc HB3.out.size _⟩
      rw [HF.out]
      exact own_lit1 cStr (fun _ => False) w3 w.heap.size 9 HB3.out.size X3 (rd_str (by first | decide | omega))
    · have HLF2 : Hid (linesF ps (m + 1) k = [(([103, 101, 116, 32] ++ vnT d1) ++ [32]) ++ textF (d5, d6)]) := HLF.out
      clear HLF
      obtain ⟨SM, hSM⟩ : ∃ X, textF (d3, d4) = X := ⟨_, rfl⟩
      rw [hSM] at HCS l1
      obtain ⟨IX, hIX⟩ : ∃ X, textF (d5, d6) = X := ⟨_, rfl⟩
      rw [hIX] at HCI l2
      rw [hIX] at HLF2
      clear hSM hIX
      have hv3 : 0 ≤ d1 ∧ d1 ≤ 3 := hvar (by omega)
      have HNM := hid (fun w' => c_variable d1 w' hv3)
      obtain ⟨VN, hVN⟩ : ∃ X, vnT d1 = X := ⟨_, rfl⟩
      have lVN : VN.length = 1 := by rw [← hVN]; rfl
      rw [hVN] at HLF2 HNM
      clear hVN
      have e21 := badd [103, 101, 116, 32] VN
      obtain ⟨X1, hX1⟩ : ∃ X, [103, 101, 116, 32] ++ VN = X := ⟨_, rfl⟩
      have lX1 : X1.length = 4 + VN.length := by rw [← hX1]; simp <;> omega
      have n21 : ¬ 9223372036854775807 < 4 + VN.length := by omega
      rw [hX1] at e21
      have HX1 := hid hX1
      clear hX1
      have e22 := badd X1 [32]
      obtain ⟨X2, hX2⟩ : ∃ X, X1 ++ [32] = X := ⟨_, rfl⟩
      have lX2 : X2.length = X1.length + 1 := by rw [← hX2]; simp <;> omega
      have n22 : ¬ 9223372036854775807 < X1.length + 1 := by omega
      rw [hX2] at e22
      have HX2 := hid hX2
      clear hX2
      have e23 := badd X2 IX
      obtain ⟨X3, hX3⟩ : ∃ X, X2 ++ IX = X := ⟨_, rfl⟩
      have lX3 : X3.length = X2.length + IX.length := by rw [← hX3]; simp <;> omega
      have n23 : ¬ 9223372036854775807 < X2.length + IX.length := by omega
      rw [hX3] at e23
      have HX3 := hid hX3
      clear hX3
      have HF : Hid (linesF ps (m + 1) k = [X3]) := by unfold Hid; rw [HLF2.out, ← HX3.out, ← HX2.out, ← HX1.out]
      go_enter Tryd.func65, Tryd.ntmps65
      go_wp2
      go_region_held3 (fun w' => w'.cell? ⟨g, 3, none⟩ = some (.int .i64 d3) ∧ w'.cell? ⟨g, 4, none⟩ = some (.slice a4 d4.length p4) ∧ w'.cell? ⟨g, 5, none⟩ = some (.int .i64 d5) ∧ w'.cell? ⟨g, 6, none⟩ = some (.slice a6 d6.length p6)) (first | exact ⟨hc3, hc4, hc5, hc6⟩ | exact kk1 | exact kk2) (first | (have hq := HG.out; clear hq HG; go_at_call 50; refine (HCS.out _ HRF.out).mono ?_; rintro e w2 ⟨rfl, hb2⟩; unfold strOf; have HB2 : Hid (Below w.heap.size w w2) := HRF.out.trans hb2; have kk1 := And.intro (cell_below HB2.out hg hc3) (And.intro (cell_below HB2.out hg hc4) (And.intro (cell_below HB2.out hg hc5) (cell_below HB2.out hg hc6))); clear hb2) | (go_at_call 50; refine (HCI.out _ HB2.out).mono ?_; rintro e w3 ⟨rfl, hb3⟩; unfold strOf; have HB3 := hid (bel_next HB2.out HB2.out.size hb3); have kk2 := And.intro (cell_below HB3.out hg hc3) (And.intro (cell_below HB3.out hg hc4) (And.intro (cell_below HB3.out hg hc5) (cell_below HB3.out hg hc6))); clear hb3))
      clear kk1 kk2 HB2
      have t0 := cell_below HB3.out hg hc0
      have t1 := cell_below HB3.out hg hc1
      have t2 := cell_below HB3.out hg hc2
      have t7 := cell_below HB3.out hg hc7
      have t9 := cell_below HB3.out hg hc9
      have z3 : w.heap.size ≤ w3.heap.size := HB3.out.size
      go_wp2_with (go_at_call 99; refine (HNM.out _).mono ?_; rintro e w4 ⟨rfl, rfl⟩; unfold strOf)
      go_ret
      refine ⟨_, rfl, ?_, HB3.out.alloc HB3.out.size _⟩
      rw [HF.out]
      exact own_lit1 cStr (fun _ => False) w3 w.heap.size 9 HB3.out.size X3 (rd_str (by first | decide | omega))
    · have HLF2 : Hid (linesF ps (m + 1) k = [(([112, 117, 116, 32] ++ textF (d5, d6)) ++ [32]) ++ textF (d3, d4)]) := HLF.out
      clear HLF
      obtain ⟨SM, hSM⟩ : ∃ X, textF (d3, d4) = X := ⟨_, rfl⟩
      rw [hSM] at HCS l1
      obtain ⟨IX, hIX⟩ : ∃ X, textF (d5, d6) = X := ⟨_, rfl⟩
      rw [hIX] at HCI l2
      rw [hSM] at HLF2
      rw [hIX] at HLF2
      clear hSM hIX
      have e21 := badd [112, 117, 116, 32] IX
      obtain ⟨X1, hX1⟩ : ∃ X, [112, 117, 116, 32] ++ IX = X := ⟨_, rfl⟩
      have lX1 : X1.length = 4 + IX.length := by rw [← hX1]; simp <;> omega
      have n21 : ¬ 9223372036854775807 < 4 + IX.length := by omega
      rw [hX1] at e21
      have HX1 := hid hX1
      clear hX1
      have e22 := badd X1 [32]
      obtain ⟨X2, hX2⟩ : ∃ X, X1 ++ [32] = X := ⟨_, rfl⟩
      have lX2 : X2.length = X1.length + 1 := by rw [← hX2]; simp <;> omega
      have n22 : ¬ 9223372036854775807 < X1.length + 1 := by omega
      rw [hX2] at e22
      have HX2 := hid hX2
      clear hX2
      have e23 := badd X2 SM
      obtain ⟨X3, hX3⟩ : ∃ X, X2 ++ SM = X := ⟨_, rfl⟩
      have lX3 : X3.length = X2.length + SM.length := by rw [← hX3]; simp <;> omega
      have n23 : ¬ 9223372036854775807 < X2.length + SM.length := by omega
      rw [hX3] at e23
      have HX3 := hid hX3
      clear hX3
      have HF : Hid (linesF ps (m + 1) k = [X3]) := by unfold Hid; rw [HLF2.out, ← HX3.out, ← HX2.out, ← HX1.out]
      go_enter Tryd.func65, Tryd.ntmps65
      go_wp2
      go_region_held3 (fun w' => w'.cell? ⟨g, 3, none⟩ = some (.int .i64 d3) ∧ w'.cell? ⟨g, 4, none⟩ = some (.slice a4 d4.length p4) ∧ w'.cell? ⟨g, 5, none⟩ = some (.int .i64 d5) ∧ w'.cell? ⟨g, 6, none⟩ = some (.slice a6 d6.length p6)) (first | exact ⟨hc3, hc4, hc5, hc6⟩ | exact kk1 | exact kk2) (first | (have hq := HG.out; clear hq HG; go_at_call 50; refine (HCS.out _ HRF.out).mono ?_; rintro e w2 ⟨rfl, hb2⟩; unfold strOf; have HB2 : Hid (Below w.heap.size w w2) := HRF.out.trans hb2; have kk1 := And.intro (cell_below HB2.out hg hc3) (And.intro (cell_below HB2.out hg hc4) (And.intro (cell_below HB2.out hg hc5) (cell_below HB2.out hg hc6))); clear hb2) | (go_at_call 50; refine (HCI.out _ HB2.out).mono ?_; rintro e w3 ⟨rfl, hb3⟩; unfold strOf; have HB3 := hid (bel_next HB2.out HB2.out.size hb3); have kk2 := And.intro (cell_below HB3.out hg hc3) (And.intro (cell_below HB3.out hg hc4) (And.intro (cell_below HB3.out hg hc5) (cell_below HB3.out hg hc6))); clear hb3))
      clear kk1 kk2 HB2
      have t0 := cell_below HB3.out hg hc0
      have t1 := cell_below HB3.out hg hc1
      have t2 := cell_below HB3.out hg hc2
      have t7 := cell_below HB3.out hg hc7
      have t9 := cell_below HB3.out hg hc9
      have z3 : w.heap.size ≤ w3.heap.size := HB3.out.size
      go_wp2
      go_ret
      refine ⟨_, rfl, ?_, HB3.out.alloc HB3.out.size _⟩
      rw [HF.out]
      exact own_lit1 cStr (fun _ => False) w3 w.heap.size 9 HB3.out.size X3 (rd_str (by first | decide | omega))
    · have HLF2 : Hid (linesF ps (m + 1) k = [[101, 109, 105, 116, 32] ++ Lib.itoa d2]) := HLF.out
      clear HLF
      obtain ⟨SM, hSM⟩ : ∃ X, textF (d3, d4) = X := ⟨_, rfl⟩
      rw [hSM] at HCS l1
      obtain ⟨IX, hIX⟩ : ∃ X, textF (d5, d6) = X := ⟨_, rfl⟩
      rw [hIX] at HCI l2
      clear hSM hIX
      have HDC := hid (fun (w' : World) (hb' : Below w.heap.size w w') => c_Decimal d2 w' (by omega) (by omega) (HTB.out w' hb'))
      have lD := Lib.itoa_length_le d2 (by omega) (by omega)
      obtain ⟨DC, hDC⟩ : ∃ X, Lib.itoa d2 = X := ⟨_, rfl⟩
      rw [hDC] at HLF2 HDC lD
      clear hDC
      have e21 := badd [101, 109, 105, 116, 32] DC
      obtain ⟨X1, hX1⟩ : ∃ X, [101, 109, 105, 116, 32] ++ DC = X := ⟨_, rfl⟩
      have lX1 : X1.length = 5 + DC.length := by rw [← hX1]; simp <;> omega
      have n21 : ¬ 9223372036854775807 < 5 + DC.length := by omega
      rw [hX1] at e21
      have HX1 := hid hX1
      clear hX1
      have HF : Hid (linesF ps (m + 1) k = [X1]) := by unfold Hid; rw [HLF2.out, ← HX1.out]
      go_enter Tryd.func65, Tryd.ntmps65
      go_wp2
      go_region_held3 (fun w' => w'.cell? ⟨g, 3, none⟩ = some (.int .i64 d3) ∧ w'.cell? ⟨g, 4, none⟩ = some (.slice a4 d4.length p4) ∧ w'.cell? ⟨g, 5, none⟩ = some (.int .i64 d5) ∧ w'.cell? ⟨g, 6, none⟩ = some (.slice a6 d6.length p6)) (first | exact ⟨hc3, hc4, hc5, hc6⟩ | exact kk1 | exact kk2) (first | (have hq := HG.out; clear hq HG; go_at_call 50; refine (HCS.out _ HRF.out).mono ?_; rintro e w2 ⟨rfl, hb2⟩; unfold strOf; have HB2 : Hid (Below w.heap.size w w2) := HRF.out.trans hb2; have kk1 := And.intro (cell_below HB2.out hg hc3) (And.intro (cell_below HB2.out hg hc4) (And.intro (cell_below HB2.out hg hc5) (cell_below HB2.out hg hc6))); clear hb2) | (go_at_call 50; refine (HCI.out _ HB2.out).mono ?_; rintro e w3 ⟨rfl, hb3⟩; unfold strOf; have HB3 := hid (bel_next HB2.out HB2.out.size hb3); have kk2 := And.intro (cell_below HB3.out hg hc3) (And.intro (cell_below HB3.out hg hc4) (And.intro (cell_below HB3.out hg hc5) (cell_below HB3.out hg hc6))); clear hb3))
      clear kk1 kk2 HB2
      have t0 := cell_below HB3.out hg hc0
      have t1 := cell_below HB3.out hg hc1
      have t2 := cell_below HB3.out hg hc2
      have t7 := cell_below HB3.out hg hc7
      have t9 := cell_below HB3.out hg hc9
      have z3 : w.heap.size ≤ w3.heap.size := HB3.out.size
      go_wp2_with (go_at_call 85; refine (HDC.out _ HB3.out).mono ?_; rintro e w4 ⟨rfl, hb4⟩; unfold strOf; have HB4 := hid (bel_next HB3.out HB3.out.size hb4); clear hb4)
      go_ret
      refine ⟨_, rfl, ?_, HB4.out.alloc HB4.out.size _⟩
      rw [HF.out]
      exact own_lit1 cStr (fun _ => False) w4 w.heap.size 9 HB4.out.size X1 (rd_str (by first | decide | omega))
    · have HLF2 : Hid (linesF ps (m + 1) k = [[97, 115, 115, 101, 114, 116, 32] ++ textF (d3, d4)]) := HLF.out
      clear HLF
      obtain ⟨SM, hSM⟩ : ∃ X, textF (d3, d4) = X := ⟨_, rfl⟩
      rw [hSM] at HCS l1
      obtain ⟨IX, hIX⟩ : ∃ X, textF (d5, d6) = X := ⟨_, rfl⟩
      rw [hIX] at HCI l2
      rw [hSM] at HLF2
      clear hSM hIX
      have e21 := badd [97, 115, 115, 101, 114, 116, 32] SM
      obtain ⟨X1, hX1⟩ : ∃ X, [97, 115, 115, 101, 114, 116, 32] ++ SM = X := ⟨_, rfl⟩
      have lX1 : X1.length = 7 + SM.length := by rw [← hX1]; simp <;> omega
      have n21 : ¬ 9223372036854775807 < 7 + SM.length := by omega
      rw [hX1] at e21
      have HX1 := hid hX1
      clear hX1
      have HF : Hid (linesF ps (m + 1) k = [X1]) := by unfold Hid; rw [HLF2.out, HX1.out]
      go_enter Tryd.func65, Tryd.ntmps65
      go_wp2
      go_region_held3 (fun w' => w'.cell? ⟨g, 3, none⟩ = some (.int .i64 d3) ∧ w'.cell? ⟨g, 4, none⟩ = some (.slice a4 d4.length p4) ∧ w'.cell? ⟨g, 5, none⟩ = some (.int .i64 d5) ∧ w'.cell? ⟨g, 6, none⟩ = some (.slice a6 d6.length p6)) (first | exact ⟨hc3, hc4, hc5, hc6⟩ | exact kk1 | exact kk2) (first | (have hq := HG.out; clear hq HG; go_at_call 50; refine (HCS.out _ HRF.out).mono ?_; rintro e w2 ⟨rfl, hb2⟩; unfold strOf; have HB2 : Hid (Below w.heap.size w w2) := HRF.out.trans hb2; have kk1 := And.intro (cell_below HB2.out hg hc3) (And.intro (cell_below HB2.out hg hc4) (And.intro (cell_below HB2.out hg hc5) (cell_below HB2.out hg hc6))); clear hb2) | (go_at_call 50; refine (HCI.out _ HB2.out).mono ?_; rintro e w3 ⟨rfl, hb3⟩; unfold strOf; have HB3 := hid (bel_next HB2.out HB2.out.size hb3); have kk2 := And.intro (cell_below HB3.out hg hc3) (And.intro (cell_below HB3.out hg hc4) (And.intro (cell_below HB3.out hg hc5) (cell_below HB3.out hg hc6))); clear hb3))
      clear kk1 kk2 HB2
      have t0 := cell_below HB3.out hg hc0
      have t1 := cell_below HB3.out hg hc1
      have t2 := cell_below HB3.out hg hc2
      have t7 := cell_below HB3.out hg hc7
      have t9 := cell_below HB3.out hg hc9
      have z3 : w.heap.size ≤ w3.heap.size := HB3.out.size
      go_wp2
      go_ret
      refine ⟨_, rfl, ?_, HB3.out.alloc HB3.out.size _⟩
      rw [HF.out]
      exact own_lit1 cStr (fun _ => False) w3 w.heap.size 9 HB3.out.size X1 (rd_str (by first | decide | omega))
    · have HLF2 : Hid (linesF ps (m + 1) k = ((([[105, 102, 32] ++ textF (d3, d4)] ++ linesF ps m (k + 1)) ++ [[101, 108, 115, 101]]) ++ linesF ps m (endAt ps (k + 1))) ++ [[101, 110, 100]]) := HLF.out
      clear HLF
      obtain ⟨SM, hSM⟩ : ∃ X, textF (d3, d4) = X := ⟨_, rfl⟩
      rw [hSM] at HCS l1
      obtain ⟨IX, hIX⟩ : ∃ X, textF (d5, d6) = X := ⟨_, rfl⟩
      rw [hIX] at HCI l2
      rw [hSM] at HLF2
      clear hSM hIX
      obtain ⟨hw1, hw2⟩ := HTK2.out rfl
      obtain ⟨E1, hE1⟩ : ∃ E1, endAt ps (k + 1) = E1 := ⟨_, rfl⟩
      have hkp : kidsP ps (7, d1, d2, (d3, d4), (d5, d6), d7) k = [k + 1, endAt ps (k + 1)] := rfl
      rw [hkp] at HSK hc9
      rw [hE1] at hw1 hw2 HLF2 HSK hc9
      obtain ⟨kb, ko, rfl⟩ := HSK.out.some_of (k := 0) (by simp)
      obtain ⟨q0, hk0, hr0, hkb⟩ := tr_at HSK.out 0 (by simp)
      obtain ⟨q1, hk1, hr1, _⟩ := tr_at HSK.out 1 (by simp)
      have HC0 := hid (fun (w' : World) (hb' : Below w.heap.size w w') => IH.out (k + 1) E1 T w' q0 ((cTr ps m).below (Nat.le_refl _) hb' hr0) hw1 (HTB.out w' hb'))
      have HC1 := hid (fun (w' : World) (hb' : Below w.heap.size w w') => IH.out E1 e T w' q1 ((cTr ps m).below (Nat.le_refl _) hb' hr1) hw2 (HTB.out w' hb'))
      have ge1 := walkT_ge ps.length 1 (k + 1) E1 (by omega) hw1
      have ge2 := walkT_ge ps.length 1 E1 e (by omega) hw2
      have ge3 := ge1.2 (by omega)
      have ge4 := ge2.2 ge3
      have lA := (linesF_bounds m (k + 1) E1 hw1).2
      have lB := (linesF_bounds m E1 e hw2).2
      obtain ⟨FA, hFA⟩ : ∃ X, linesF ps m (k + 1) = X := ⟨_, rfl⟩
      obtain ⟨FB, hFB⟩ : ∃ X, linesF ps m E1 = X := ⟨_, rfl⟩
      rw [hFA] at HLF2 HC0 lA
      rw [hFB] at HLF2 HC1 lB
      have lA3 : FA.length ≤ 300 := by omega
      have lB3 : FB.length ≤ 300 := by omega
      clear hw1 hw2 hkp hFA hFB hr0 hr1 lA lB hE1 ge1 ge2 ge3 ge4
      simp only [Nat.add_zero] at hk0
      simp only [List.length_cons, List.length_nil] at hc9
      have e21 := badd [105, 102, 32] SM
      obtain ⟨X0, hX0⟩ : ∃ X, [105, 102, 32] ++ SM = X := ⟨_, rfl⟩
      have lX0 : X0.length = 3 + SM.length := by rw [← hX0]; simp <;> omega
      have n21 : ¬ 9223372036854775807 < 3 + SM.length := by omega
      rw [hX0] at e21
      have HX0 := hid hX0
      clear hX0
      go_enter Tryd.func65, Tryd.ntmps65
      go_wp2
      go_region_held3 (fun w' => w'.cell? ⟨g, 3, none⟩ = some (.int .i64 d3) ∧ w'.cell? ⟨g, 4, none⟩ = some (.slice a4 d4.length p4) ∧ w'.cell? ⟨g, 5, none⟩ = some (.int .i64 d5) ∧ w'.cell? ⟨g, 6, none⟩ = some (.slice a6 d6.length p6)) (first | exact ⟨hc3, hc4, hc5, hc6⟩ | exact kk1 | exact kk2) (first | (have hq := HG.out; clear hq HG; go_at_call 50; refine (HCS.out _ HRF.out).mono ?_; rintro e w2 ⟨rfl, hb2⟩; unfold strOf; have HB2 : Hid (Below w.heap.size w w2) := HRF.out.trans hb2; have kk1 := And.intro (cell_below HB2.out hg hc3) (And.intro (cell_below HB2.out hg hc4) (And.intro (cell_below HB2.out hg hc5) (cell_below HB2.out hg hc6))); clear hb2) | (go_at_call 50; refine (HCI.out _ HB2.out).mono ?_; rintro e w3 ⟨rfl, hb3⟩; unfold strOf; have HB3 := hid (bel_next HB2.out HB2.out.size hb3); have kk2 := And.intro (cell_below HB3.out hg hc3) (And.intro (cell_below HB3.out hg hc4) (And.intro (cell_below HB3.out hg hc5) (cell_below HB3.out hg hc6))); clear hb3))
      clear kk1 kk2 HB2
      have t0 := cell_below HB3.out hg hc0
      have t1 := cell_below HB3.out hg hc1
      have t2 := cell_below HB3.out hg hc2
      have t7 := cell_below HB3.out hg hc7
      have t9 := cell_below HB3.out hg hc9
      have z3 : w.heap.size ≤ w3.heap.size := HB3.out.size
      have y0 := cell_below HB3.out hkb hk0
      have HOL := hid (own_lit1 cStr (fun _ => False) w3 w.heap.size 9 z3 (cs := #[.string ⟨X0.toArray⟩]) X0 (rd_str (by omega)))
      have HBL : Hid (Below w.heap.size w (w3.alloc (.cells #[.string ⟨X0.toArray⟩] 9))) := HB3.out.alloc z3 _
      have t9L := cell_below HBL.out hg hc9
      have y0L := cell_below HBL.out hkb hk0
      have lF5 : ([X0] ++ FA).length = FA.length + 1 := by simp <;> omega
      rw [HX0.out] at HLF2
      go_wp2_with (first | (go_at_call 65; refine (HC0.out _ HBL.out).mono ?_; rintro e w4 ⟨v4, rfl, ho4, hb4⟩; have HB4 := hid (bel_next HBL.out HBL.out.size hb4); have HOL4 := hid (own_below HOL.out (Nat.le_refl _) hb4); obtain ⟨a4, c4, rfl, hs4⟩ := own_rd (own_keep (S' := Fresh (w3.alloc (.cells #[.string ⟨X0.toArray⟩] 9)).heap.size w4) ho4 (fun _ h => h.elim) fun _ _ _ => rfl) (Nat.le_refl _); have HS4 := hid hs4; clear hs4 ho4; clear hb4) | (at_builtin; refine app_all (C := cStr) rfl (.tmp 99) (.tmp 106) _ rfl slTx flat_str rfl rfl HOL4.out HS4.out no_blk (by rw [List.length_singleton]; omega) HB4.out.size ?_; intro v5 w5 hO5 hb5; have HO5 := hid hO5; have HB5 := hid (HB4.out.trans hb5); obtain ⟨F5, hF5⟩ : ∃ X, [X0] ++ FA = X := ⟨_, rfl⟩; rw [hF5] at HO5 lF5 HLF2; have z5 := HB5.out.size; clear hO5 hb5 hF5))
      clear t9 y0 t0 t1 t2 t7 t9L y0L
      have y0 := cell_below HB5.out hkb hk1
      have t9 := cell_below HB5.out hg hc9
      have hL6 : (F5 ++ [[101, 108, 115, 101]]).length = F5.length + 1 := by simp
      obtain ⟨G6, hG6⟩ : ∃ X, F5 ++ [[101, 108, 115, 101]] = X := ⟨_, rfl⟩
      have HGG6 := hid hG6
      rw [hG6] at hL6
      have HBL6 : Hid (Below w5.heap.size w5 (w5.alloc (.cells #[.string ⟨#[101, 108, 115, 101]⟩] 9)).drew) := ((Below.refl _ _).alloc (Nat.le_refl _) _).drew
      have HOL6 := hid (own_below HO5.out (Nat.le_refl _) HBL6.out)
      have HBK6 : Hid ((w5.alloc (.cells #[.string ⟨#[101, 108, 115, 101]⟩] 9)).drew.heap[w5.heap.size]? = some (.cells #[.string ⟨#[101, 108, 115, 101]⟩] 9 (0, 0))) := heap_new w5 _
      have HBW6 : Hid (Below w.heap.size w (w5.alloc (.cells #[.string ⟨#[101, 108, 115, 101]⟩] 9)).drew) := bel_next HB5.out HB5.out.size HBL6.out
      clear hG6
      have kk0 := And.intro (cell_below HBW6.out hg hc9) (cell_below HBW6.out hkb hk1)
      go_wp2
      go_region_held3 (fun w' => w'.cell? ⟨g, 9, none⟩ = some (.slice (some ⟨kb, ko, none⟩) 2 pk) ∧ w'.cell? ⟨kb, ko + 1, none⟩ = some (.pointer q1)) (first | exact ⟨t9, y0⟩ | exact kk0 | exact kk1 | exact kk2 | exact kk3) (first | (refine step_own (C := cStr) rfl (.tmp 108) (.tmp 109) _ rfl slTx rfl rfl HOL6.out HBK6.out no_blk [101, 108, 115, 101] (rd_str (by decide)) (by omega) HBW6.out.size ?_; intro v6 w6 hO6 hb6; have HB6 := hid (HBW6.out.trans hb6); have HO6 := hid hO6; rw [HGG6.out] at HO6; have kk1 := And.intro (cell_below HB6.out hg hc9) (cell_below HB6.out hkb hk1); clear hO6 hb6) | (go_at_call 65; refine (HC1.out _ HB6.out).mono ?_; rintro e w7 ⟨v7, rfl, ho7, hb7⟩; have HB7 := hid (bel_next HB6.out HB6.out.size hb7); have HOX6 := hid (own_below HO6.out (Nat.le_refl _) hb7); obtain ⟨a7, c7, rfl, hs7⟩ := own_rd (own_keep (S' := Fresh w6.heap.size w7) ho7 (fun _ h => h.elim) fun _ _ _ => rfl) (Nat.le_refl _); have HS7 := hid hs7; clear hs7 ho7; have kk2 := And.intro (cell_below HB7.out hg hc9) (cell_below HB7.out hkb hk1); clear hb7) | (refine step_all (C := cStr) rfl (.tmp 110) (.tmp 117) _ rfl slTx flat_str rfl rfl HOX6.out HS7.out no_blk (by omega) HB7.out.size ?_; intro v8 w8 hO8 hb8; have HO8 := hid hO8; have HB8 := hid (HB7.out.trans hb8); have kk3 := And.intro (cell_below HB8.out hg hc9) (cell_below HB8.out hkb hk1); clear hO8 hb8))
      all_goals
        have hLE : (G6 ++ FB).length ≤ 1000 := by simp only [List.length_append]; omega
        go_wp2_with (at_builtin; refine app_own (C := cStr) rfl (.tmp 119) (.tmp 120) _ rfl slTx rfl rfl HO8.out no_blk [101, 110, 100] (rd_str (by decide)) (by omega) HB8.out.size ?_; intro v20 w20 hO20 hb20; have HO20 := hid hO20; have HB20 := hid (HB8.out.trans hb20); clear hO20 hb20)
        go_ret
        refine ⟨v20, rfl, ?_, HB20.out⟩
        rw [HLF2.out, HGG6.out]
        exact HO20.out
    · have HLF2 : Hid (linesF ps (m + 1) k = ((([[119, 104, 105, 108, 101, 32] ++ textF (d3, d4)] ++ factT [105, 110, 118] d7) ++ [[100, 111]]) ++ linesF ps m (k + 1)) ++ [[101, 110, 100]]) := HLF.out
      clear HLF
      obtain ⟨SM, hSM⟩ : ∃ X, textF (d3, d4) = X := ⟨_, rfl⟩
      rw [hSM] at HCS l1
      obtain ⟨IX, hIX⟩ : ∃ X, textF (d5, d6) = X := ⟨_, rfl⟩
      rw [hIX] at HCI l2
      rw [hSM] at HLF2
      clear hSM hIX
      have hw1 := HTK1.out rfl
      have hkp : kidsP ps (8, d1, d2, (d3, d4), (d5, d6), d7) k = [k + 1] := rfl
      rw [hkp] at HSK hc9
      obtain ⟨kb, ko, rfl⟩ := HSK.out.some_of (k := 0) (by simp)
      obtain ⟨q0, hk0, hr0, hkb⟩ := tr_at HSK.out 0 (by simp)
      have HC0 := hid (fun (w' : World) (hb' : Below w.heap.size w w') => IH.out (k + 1) e T w' q0 ((cTr ps m).below (Nat.le_refl _) hb' hr0) hw1 (HTB.out w' hb'))
      have ge1 := walkT_ge ps.length 1 (k + 1) e (by omega) hw1
      have ge2 := ge1.2 (by omega)
      have lA := (linesF_bounds m (k + 1) e hw1).2
      obtain ⟨FA, hFA⟩ : ∃ X, linesF ps m (k + 1) = X := ⟨_, rfl⟩
      rw [hFA] at HLF2 HC0 lA
      have lA3 : FA.length ≤ 300 := by omega
      clear hw1 hkp hFA hr0 lA
      simp only [Nat.add_zero] at hk0
      simp only [List.length_cons, List.length_nil] at hc9
      have e21 := badd [119, 104, 105, 108, 101, 32] SM
      obtain ⟨X0, hX0⟩ : ∃ X, [119, 104, 105, 108, 101, 32] ++ SM = X := ⟨_, rfl⟩
      have lX0 : X0.length = 6 + SM.length := by rw [← hX0]; simp <;> omega
      have n21 : ¬ 9223372036854775807 < 6 + SM.length := by omega
      rw [hX0] at e21
      have HX0 := hid hX0
      clear hX0
      have hn6 := over_len HFC.out
      have HVF := hid (areOverF_iff HFC.out)
      rw [HX0.out] at HLF2
      go_enter Tryd.func65, Tryd.ntmps65
      go_wp2
      go_region_held3 (fun w' => w'.cell? ⟨g, 3, none⟩ = some (.int .i64 d3) ∧ w'.cell? ⟨g, 4, none⟩ = some (.slice a4 d4.length p4) ∧ w'.cell? ⟨g, 5, none⟩ = some (.int .i64 d5) ∧ w'.cell? ⟨g, 6, none⟩ = some (.slice a6 d6.length p6)) (first | exact ⟨hc3, hc4, hc5, hc6⟩ | exact kk1 | exact kk2) (first | (have hq := HG.out; clear hq HG; go_at_call 50; refine (HCS.out _ HRF.out).mono ?_; rintro e w2 ⟨rfl, hb2⟩; unfold strOf; have HB2 : Hid (Below w.heap.size w w2) := HRF.out.trans hb2; have kk1 := And.intro (cell_below HB2.out hg hc3) (And.intro (cell_below HB2.out hg hc4) (And.intro (cell_below HB2.out hg hc5) (cell_below HB2.out hg hc6))); clear hb2) | (go_at_call 50; refine (HCI.out _ HB2.out).mono ?_; rintro e w3 ⟨rfl, hb3⟩; unfold strOf; have HB3 := hid (bel_next HB2.out HB2.out.size hb3); have kk2 := And.intro (cell_below HB3.out hg hc3) (And.intro (cell_below HB3.out hg hc4) (And.intro (cell_below HB3.out hg hc5) (cell_below HB3.out hg hc6))); clear hb3))
      clear kk1 kk2 HB2
      have t0 := cell_below HB3.out hg hc0
      have t1 := cell_below HB3.out hg hc1
      have t2 := cell_below HB3.out hg hc2
      have t7 := cell_below HB3.out hg hc7
      have t9 := cell_below HB3.out hg hc9
      have z3 : w.heap.size ≤ w3.heap.size := HB3.out.size
      have HOL := hid (own_lit1 cStr (fun _ => False) w3 w.heap.size 9 z3 (cs := #[.string ⟨X0.toArray⟩]) X0 (rd_str (by omega)))
      have HBL : Hid (Below w.heap.size w (w3.alloc (.cells #[.string ⟨X0.toArray⟩] 9))) := HB3.out.alloc z3 _
      have t7L := cell_below HBL.out hg hc7
      go_wp2
      clear t9 t0 t1 t2 t7 t7L
      go_loopw [6, 131] (fun v i wr => ∃ j : Nat, j ≤ d7.length ∧ i = .int .i64 j ∧ Hid (OwnSl cStr (fun _ => False) wr w.heap.size 9 v ([X0] ++ factT [105, 110, 118] (d7.take j))) ∧ Hid (Below w.heap.size w wr)) (fun _ i _ => d7.length - (intOf i).toNat)
      case atStart => exact ⟨0, Nat.zero_le _, rfl, HOL, HBL⟩
      case round =>
        obtain ⟨j, hj, rfl, HO, HBR⟩ := hrel
        have hsz := HBR.out.size
        by_cases hlt : j < d7.length
        · obtain ⟨b7, o7, rfl⟩ := HS7.out.some_of hlt
          obtain ⟨c, zs, a', cap', hz, hc1, hsl, hc, hc', hb⟩ := (HS7.out.below (Nat.le_refl _) HBR.out).term_at j hlt
          have hvt := (HVF.out _ (List.mem_of_getElem? hz)).1
          have hll2 := textF_len hvt
          have HN := hid (factT_take (wd := [105, 110, 118]) hz)
          have HBX : Hid (Below wr.heap.size wr (wr.alloc (.cells #[.int .i64 c, .slice a' zs.length cap'] 89))) := (Below.refl _ _).alloc (Nat.le_refl _) _
          have HBRX := hid (bel_next HBR.out hsz HBX.out)
          have HCT := hid (c_termText (hsl.below (Nat.le_refl _) HBX.out) hvt (HTB.out _ HBRX.out))
          obtain ⟨Z, hZ⟩ : ∃ Z, textF (c, zs) = Z := ⟨_, rfl⟩
          rw [hZ] at HCT HN hll2
          have i0 : (0 : Int) ≤ (j : Int) := by omega
          have i1 : (j : Int) < (d7.length : Int) := by omega
          have e1 : decide ((j : Int) < (d7.length : Int)) = true := decide_eq_true i1
          have e9 := badd [105, 110, 118, 32] Z
          have n9 : ¬ 9223372036854775807 < 4 + Z.length := by omega
          have hlj : ([X0] ++ factT [105, 110, 118] (d7.take j)).length ≤ 7 := by rw [List.length_append, factT_len, List.length_take, List.length_singleton]; omega
          clear hz hvt hZ hsl
          go_wp2_with (first | (go_at_call 50; refine HCT.out.mono ?_; rintro e w4 ⟨rfl, hb4⟩; have HB4 := hid (bel_next HBRX.out HBRX.out.size hb4); have HO4 := hid (own_below (own_below HO.out (Nat.le_refl _) HBX.out) (Nat.le_refl _) hb4); clear hb4; unfold strOf) | (at_builtin; refine app_own (C := cStr) rfl (.tmp 135) (.tmp 139) _ rfl slTx rfl rfl HO4.out no_blk ([105, 110, 118, 32] ++ Z) (rd_str (by simp <;> omega)) (by omega) HB4.out.size ?_; intro v5 w5 hO5 hb5; have HO5 := hid hO5; have HB5 := hid (HB4.out.trans hb5); clear hO5 hb5))
          go_roundw
          case rel => exact ⟨j + 1, by omega, by go_num, by rw [HN.out, ← List.append_assoc]; exact HO5, HB5⟩
          case measure => simp [intOf]; omega
        · have HK : Hid (d7.take j = d7) := List.take_of_length_le (by omega)
          rw [HK.out] at HO
          have e1 : decide ((j : Int) < (d7.length : Int)) = false := decide_eq_false (by omega)
          have lF5 : ([X0] ++ factT [105, 110, 118] d7).length ≤ 7 := by rw [List.length_append, factT_len, List.length_singleton]; omega
          obtain ⟨F5, hF5⟩ : ∃ X, [X0] ++ factT [105, 110, 118] d7 = X := ⟨_, rfl⟩
          rw [hF5] at HO lF5 HLF2
          obtain ⟨w5, hw5⟩ : ∃ w5, w5 = wr := ⟨_, rfl⟩
          rw [← hw5] at HO HBR ⊢
          clear hF5 hw5
          have y0 := cell_below HBR.out hkb hk0
          have t9 := cell_below HBR.out hg hc9
          have hL6 : (F5 ++ [[100, 111]]).length = F5.length + 1 := by simp
          obtain ⟨G6, hG6⟩ : ∃ X, F5 ++ [[100, 111]] = X := ⟨_, rfl⟩
          have HGG6 := hid hG6
          rw [hG6] at hL6
          have HBL6 : Hid (Below w5.heap.size w5 (w5.alloc (.cells #[.string ⟨#[100, 111]⟩] 9)).drew) := ((Below.refl _ _).alloc (Nat.le_refl _) _).drew
          have HOL6 := hid (own_below HO.out (Nat.le_refl _) HBL6.out)
          have HBK6 : Hid ((w5.alloc (.cells #[.string ⟨#[100, 111]⟩] 9)).drew.heap[w5.heap.size]? = some (.cells #[.string ⟨#[100, 111]⟩] 9 (0, 0))) := heap_new w5 _
          have HBW6 : Hid (Below w.heap.size w (w5.alloc (.cells #[.string ⟨#[100, 111]⟩] 9)).drew) := bel_next HBR.out HBR.out.size HBL6.out
          clear hG6
          have kk0 := And.intro (cell_below HBW6.out hg hc9) (cell_below HBW6.out hkb hk0)
          go_wp2
          go_region_held3 (fun w' => w'.cell? ⟨g, 9, none⟩ = some (.slice (some ⟨kb, ko, none⟩) 1 pk) ∧ w'.cell? ⟨kb, ko, none⟩ = some (.pointer q0)) (first | exact ⟨t9, y0⟩ | exact kk0 | exact kk1 | exact kk2 | exact kk3) (first | (refine step_own (C := cStr) rfl (.tmp 142) (.tmp 143) _ rfl slTx rfl rfl HOL6.out HBK6.out no_blk [100, 111] (rd_str (by decide)) (by omega) HBW6.out.size ?_; intro v6 w6 hO6 hb6; have HB6 := hid (HBW6.out.trans hb6); have HO6 := hid hO6; rw [HGG6.out] at HO6; have kk1 := And.intro (cell_below HB6.out hg hc9) (cell_below HB6.out hkb hk0); clear hO6 hb6) | (go_at_call 65; refine (HC0.out _ HB6.out).mono ?_; rintro e w7 ⟨v7, rfl, ho7, hb7⟩; have HB7 := hid (bel_next HB6.out HB6.out.size hb7); have HOX6 := hid (own_below HO6.out (Nat.le_refl _) hb7); obtain ⟨a7, c7, rfl, hs7⟩ := own_rd (own_keep (S' := Fresh w6.heap.size w7) ho7 (fun _ h => h.elim) fun _ _ _ => rfl) (Nat.le_refl _); have HS7 := hid hs7; clear hs7 ho7; have kk2 := And.intro (cell_below HB7.out hg hc9) (cell_below HB7.out hkb hk0); clear hb7) | (refine step_all (C := cStr) rfl (.tmp 144) (.tmp 151) _ rfl slTx flat_str rfl rfl HOX6.out HS7.out no_blk (by omega) HB7.out.size ?_; intro v8 w8 hO8 hb8; have HO8 := hid hO8; have HB8 := hid (HB7.out.trans hb8); have kk3 := And.intro (cell_below HB8.out hg hc9) (cell_below HB8.out hkb hk0); clear hO8 hb8))
          all_goals
            have hLE : (G6 ++ FA).length ≤ 1000 := by simp only [List.length_append]; omega
            go_wp2_with (at_builtin; refine app_own (C := cStr) rfl (.tmp 153) (.tmp 154) _ rfl slTx rfl rfl HO8.out no_blk [101, 110, 100] (rd_str (by decide)) (by omega) HB8.out.size ?_; intro v20 w20 hO20 hb20; have HO20 := hid hO20; have HB20 := hid (HB8.out.trans hb20); clear hO20 hb20)
            go_ret
            refine ⟨v20, rfl, ?_, HB20.out⟩
            rw [HLF2.out, HGG6.out]
            exact HO20.out
end Go.Proofs.YtcmopmapdomneaaDoor
end

section
namespace Go.Proofs.YtcmopmapdomneaaDoor
open Go.RowKit

theorem c_treeOfT {N : Nat} {a : Option Addr} {p : Nat} {ps : List Stmt} {w : World} (h : SlRd cStmt (fun b => b < N) w a p ps) (hN : N ≤ w.heap.size) (h30 : ps.length ≤ 30) (hw : walkT (stN ps) ps.length 1 0 = some ps.length) :
    Calls Tryd.prog 64 #[.slice a ps.length p] w fun e w' => ∃ q, e = .returned (.tuple #[.pointer q, .bool true]) ∧ Below w.heap.size w w' ∧ (cTr ps ps.length).rd (Out N w.heap.size) w' [.pointer q] 0 := by
  have HC := hid (c_treeAtT h30 ps.length 0 w (by omega) hN h)
  rw [hw] at HC
  have e1 : decide ((30 : Int) < (ps.length : Int)) = false := decide_eq_false (by omega)
  have e1n : decide (30 < ps.length) = false := decide_eq_false (by omega)
  clear h hw
  go_enter Tryd.func64, Tryd.ntmps64
  go_wp2_with (go_at_call 98; refine HC.out.mono ?_; rintro e w1 ⟨q, rfl, hb1, hr1⟩; simp only [Option.getD_some, Option.isSome_some]; have HB1 := hid hb1; have HR1 := hid (hr1 rfl); clear hb1 hr1)
  go_ret2
  exact ⟨q, by simp, HB1.out, HR1.out⟩
set_option maxHeartbeats 4000000 in
set_option maxRecDepth 100000 in
theorem c_programText {S : Nat → Prop} {B : Nat} {a0 : Option Addr} {p0 : Nat} {d0 : List Term} {a1 : Option Addr} {p1 : Nat} {d1 : List Stmt} {a2 : Option Addr} {p2 : Nat} {d2 : List Term} {w : World} (h0 : SlRd cTerm S w a0 p0 d0) (h1 : SlRd cStmt S w a1 p1 d1) (h2 : SlRd cTerm S w a2 p2 d2) (hv : progF (d0, d1, d2) = true) (ht : TabE B w) :
    Calls Tryd.prog 33 #[.agg #[.slice a0 d0.length p0, .slice a1 d1.length p1, .slice a2 d2.length p2]] w fun e w' => e = .returned (strOf (nlF (progLines (d0, d1, d2)))) ∧ Below w.heap.size w w' := by
  obtain ⟨v1, vw, v0, v2⟩ := prog_parts hv
  obtain ⟨b0, b1, b1n, b2⟩ := prog_bounds hv
  have o0 := over_len v0
  have o2 := over_len v2
  have HV0 := hid (areOverF_iff v0)
  have HV2 := hid (areOverF_iff v2)
  have HB0 : Hid (Below w.heap.size w (w.alloc (.cells #[.slice a0 d0.length p0, .slice a1 d1.length p1, .slice a2 d2.length p2] 45))) := (Below.refl _ _).alloc (Nat.le_refl _) _
  have H0 : Hid (SlRd cTerm (fun b => b < w.heap.size) (w.alloc (.cells #[.slice a0 d0.length p0, .slice a1 d1.length p1, .slice a2 d2.length p2] 45)) a0 p0 d0) := h0.keep fun b _ hl => ⟨hl, HB0.out.block b hl⟩
  have H1 : Hid (SlRd cStmt (fun b => b < w.heap.size) (w.alloc (.cells #[.slice a0 d0.length p0, .slice a1 d1.length p1, .slice a2 d2.length p2] 45)) a1 p1 d1) := h1.keep fun b _ hl => ⟨hl, HB0.out.block b hl⟩
  have H2 : Hid (SlRd cTerm (fun b => b < w.heap.size) (w.alloc (.cells #[.slice a0 d0.length p0, .slice a1 d1.length p1, .slice a2 d2.length p2] 45)) a2 p2 d2) := h2.keep fun b _ hl => ⟨hl, HB0.out.block b hl⟩
  have t0 : (w.alloc (.cells #[.slice a0 d0.length p0, .slice a1 d1.length p1, .slice a2 d2.length p2] 45)).cell? ⟨w.heap.size, 0, none⟩ = some (.slice a0 d0.length p0) := by rw [World.cell?_alloc_at _ _ _ _ rfl]; rfl
  have t1 : (w.alloc (.cells #[.slice a0 d0.length p0, .slice a1 d1.length p1, .slice a2 d2.length p2] 45)).cell? ⟨w.heap.size, 1, none⟩ = some (.slice a1 d1.length p1) := by rw [World.cell?_alloc_at _ _ _ _ rfl]; rfl
  have t2 : (w.alloc (.cells #[.slice a0 d0.length p0, .slice a1 d1.length p1, .slice a2 d2.length p2] 45)).cell? ⟨w.heap.size, 2, none⟩ = some (.slice a2 d2.length p2) := by rw [World.cell?_alloc_at _ _ _ _ rfl]; rfl
  have hz1 : w.heap.size < (w.alloc (.cells #[.slice a0 d0.length p0, .slice a1 d1.length p1, .slice a2 d2.length p2] 45)).heap.size := by simp
  have HT := hid (ht.belows (HB0.out.mono ht.2))
  have hBw := ht.2
  have HVW := hid vw
  clear h0 h1 h2 ht hv vw v0 v2
  go_enter Tryd.func33, Tryd.ntmps33
  go_wp2
  generalize w.alloc (.cells #[.slice a0 d0.length p0, .slice a1 d1.length p1, .slice a2 d2.length p2] 45) = W1 at *
  have hBW : B ≤ W1.heap.size := by omega
  have hzl : w.heap.size ≤ W1.heap.size := by omega
  go_loopw [3, 13] (fun v i wr => ∃ j : Nat, j ≤ d0.length ∧ i = .int .i64 j ∧ Hid (OwnSl cStr (fun _ => False) wr W1.heap.size 9 v (factT [112, 114, 101] (d0.take j))) ∧ Hid (Below W1.heap.size W1 wr)) (fun _ i _ => d0.length - (intOf i).toNat)
  case atStart => exact ⟨0, Nat.zero_le _, rfl, own_nil _ _ _ _ _, Below.refl _ _⟩
  case round =>
    obtain ⟨j, hj, rfl, HO, HBR⟩ := hrel
    have hsz := HBR.out.size
    by_cases hlt : j < d0.length
    · obtain ⟨b7, o7, rfl⟩ := H0.out.some_of hlt
      obtain ⟨c, zs, a', cap', hz, hc1, hsl, hc, hc', hb⟩ := (H0.out.below (Nat.le_refl _) HBR.out).term_at j hlt
      have hvt := (HV0.out _ (List.mem_of_getElem? hz)).1
      have hll2 := textF_len hvt
      have HN := hid (factT_take (wd := [112, 114, 101]) hz)
      have HBX : Hid (Below wr.heap.size wr (wr.alloc (.cells #[.int .i64 c, .slice a' zs.length cap'] 89))) := (Below.refl _ _).alloc (Nat.le_refl _) _
      have HBRX := hid (bel_next HBR.out hsz HBX.out)
      have HCT := hid (c_termText (hsl.below (Nat.le_refl _) HBX.out) hvt (HT.out.belows (HBRX.out.mono hBW)))
      obtain ⟨Z, hZ⟩ : ∃ Z, textF (c, zs) = Z := ⟨_, rfl⟩
      rw [hZ] at HCT HN hll2
      have i0 : (0 : Int) ≤ (j : Int) := by omega
      have i1 : (j : Int) < (d0.length : Int) := by omega
      have e1 : decide ((j : Int) < (d0.length : Int)) = true := decide_eq_true i1
      have e9 := badd [112, 114, 101, 32] Z
      have n9 : ¬ 9223372036854775807 < 4 + Z.length := by omega
      have hlj : (factT [112, 114, 101] (d0.take j)).length ≤ 7 := by rw [factT_len, List.length_take]; omega
      clear hz hvt hZ hsl
      go_wp2_with (first | (go_at_call 50; refine HCT.out.mono ?_; rintro e w4 ⟨rfl, hb4⟩; have HB4 := hid (bel_next HBRX.out HBRX.out.size hb4); have HO4 := hid (own_below (own_below HO.out (Nat.le_refl _) HBX.out) (Nat.le_refl _) hb4); clear hb4; unfold strOf) | (at_builtin; refine app_own (C := cStr) rfl (.tmp 17) (.tmp 21) _ rfl slTx rfl rfl HO4.out no_blk ([112, 114, 101, 32] ++ Z) (rd_str (by simp <;> omega)) (by omega) HB4.out.size ?_; intro v5 w5 hO5 hb5; have HO5 := hid hO5; have HB5 := hid (HB4.out.trans hb5); clear hO5 hb5))
      go_roundw
      case rel => exact ⟨j + 1, by omega, by go_num, by rw [HN.out]; exact HO5, HB5⟩
      case measure => simp [intOf]; omega
    · have HK : Hid (d0.take j = d0) := List.take_of_length_le (by omega)
      rw [HK.out] at HO
      have e1 : decide ((j : Int) < (d0.length : Int)) = false := decide_eq_false (by omega)
      have lF : (factT [112, 114, 101] d0).length ≤ 6 := by rw [factT_len]; exact o0
      have s1 := cell_below HBR.out hz1 t1
      have HCT := hid (c_treeOfT (N := w.heap.size) (H1.out.below (Nat.le_refl _) HBR.out) (by omega) v1 HVW.out)
      obtain ⟨F0, hF0⟩ : ∃ X, factT [112, 114, 101] d0 = X := ⟨_, rfl⟩
      obtain ⟨F1, hF1⟩ : ∃ X, linesF d1 d1.length 0 = X := ⟨_, rfl⟩
      have HFF0 := hid hF0
      have HFF1 := hid hF1
      rw [hF0] at HO lF
      rw [hF1] at b1n
      obtain ⟨wo, rfl⟩ : ∃ wo : World, wo = wr := ⟨_, rfl⟩
      clear hF0 hF1 H0
      go_wp2_with (first | (go_at_call 64; refine HCT.out.mono ?_; rintro e w2 ⟨q, rfl, hb2, hr2⟩; have HB2 := hid (bel_next HBR.out hsz hb2); have HO2 := hid (own_below HO.out (Nat.le_refl _) hb2); have HCL := hid (c_lines (B := B) v1 d1.length 0 d1.length _ w2 q hr2 HVW.out (HT.out.belows (HB2.out.mono hBW))); rw [HFF1.out] at HCL; clear hb2 hr2) | (go_at_call 65; refine HCL.out.mono ?_; rintro e w3 ⟨v3, rfl, ho3, hb3⟩; have HB3 := hid (bel_next HB2.out HB2.out.size hb3); have HO3 := hid (own_below HO2.out (Nat.le_refl _) hb3); obtain ⟨a3, c3, rfl, hs3⟩ := own_rd (own_keep (S' := Fresh w2.heap.size w3) ho3 (fun _ h => h.elim) fun _ _ _ => rfl) (Nat.le_refl _); have HS3 := hid hs3; clear hb3 ho3 hs3) | (at_builtin; refine app_all (C := cStr) rfl (.tmp 30) (.tmp 32) _ rfl slTx flat_str rfl rfl HO3.out HS3.out no_blk (by omega) HB3.out.size ?_; intro v4 w4 hO4 hb4; have HO4 := hid hO4; have HB4 := hid (HB3.out.trans hb4); have s2 := cell_below HB4.out hz1 t2; clear hO4 hb4))
      clear s1 s2 HBR hsz HO HO2 HO3 HS3 HB2 HB3 HCL HCT
      go_loopw [3, 37] (fun v i wr => ∃ j : Nat, j ≤ d2.length ∧ i = .int .i64 j ∧ Hid (OwnSl cStr (fun _ => False) wr W1.heap.size 9 v ((F0 ++ F1) ++ factT [112, 111, 115, 116] (d2.take j))) ∧ Hid (Below W1.heap.size W1 wr)) (fun _ i _ => d2.length - (intOf i).toNat)
      case atStart => exact ⟨0, Nat.zero_le _, rfl, by show OwnSl _ _ _ _ _ _ ((F0 ++ F1) ++ []); rw [List.append_nil]; exact HO4.out, HB4⟩
      case round =>
        obtain ⟨j2, hj2, rfl, HO9, HBR9⟩ := hrel
        have hsz9 := HBR9.out.size
        clear HO4 HB4
        by_cases hlt2 : j2 < d2.length
        · obtain ⟨b7, o7, rfl⟩ := H2.out.some_of hlt2
          obtain ⟨c, zs, a', cap', hz, hc1, hsl, hc, hc', hb⟩ := (H2.out.below (Nat.le_refl _) HBR9.out).term_at j2 hlt2
          have hvt := (HV2.out _ (List.mem_of_getElem? hz)).1
          have hll2 := textF_len hvt
          have HN := hid (factT_take (wd := [112, 111, 115, 116]) hz)
          have HBX : Hid (Below wr.heap.size wr (wr.alloc (.cells #[.int .i64 c, .slice a' zs.length cap'] 89))) := (Below.refl _ _).alloc (Nat.le_refl _) _
          have HBRX := hid (bel_next HBR9.out hsz9 HBX.out)
          have HCT := hid (c_termText (hsl.below (Nat.le_refl _) HBX.out) hvt (HT.out.belows (HBRX.out.mono hBW)))
          obtain ⟨Z, hZ⟩ : ∃ Z, textF (c, zs) = Z := ⟨_, rfl⟩
          rw [hZ] at HCT HN hll2
          have i0 : (0 : Int) ≤ (j2 : Int) := by omega
          have i1 : (j2 : Int) < (d2.length : Int) := by omega
          have e1' : decide ((j2 : Int) < (d2.length : Int)) = true := decide_eq_true i1
          have e9 := badd [112, 111, 115, 116, 32] Z
          have n9 : ¬ 9223372036854775807 < 5 + Z.length := by omega
          have hlj : ((F0 ++ F1) ++ factT [112, 111, 115, 116] (d2.take j2)).length ≤ 400 := by rw [List.length_append, List.length_append, factT_len, List.length_take]; omega
          clear hz hvt hZ hsl
          go_wp2_with (first | (go_at_call 50; refine HCT.out.mono ?_; rintro e w4 ⟨rfl, hb4⟩; have HB4 := hid (bel_next HBRX.out HBRX.out.size hb4); have HO4 := hid (own_below (own_below HO9.out (Nat.le_refl _) HBX.out) (Nat.le_refl _) hb4); clear hb4; unfold strOf) | (at_builtin; refine app_own (C := cStr) rfl (.tmp 41) (.tmp 45) _ rfl slTx rfl rfl HO4.out no_blk ([112, 111, 115, 116, 32] ++ Z) (rd_str (by simp <;> omega)) (by omega) HB4.out.size ?_; intro v5 w5 hO5 hb5; have HO5 := hid hO5; have HB5 := hid (HB4.out.trans hb5); clear hO5 hb5))
          go_roundw
          case rel => exact ⟨j2 + 1, by omega, by go_num, by rw [HN.out, ← List.append_assoc]; exact HO5, HB5⟩
          case measure => simp [intOf]; omega
        · have HK2 : Hid (d2.take j2 = d2) := List.take_of_length_le (by omega)
          rw [HK2.out] at HO9
          have e1' : decide ((j2 : Int) < (d2.length : Int)) = false := decide_eq_false (by omega)
          have HFN : Hid (progLines (d0, d1, d2) = (F0 ++ F1) ++ factT [112, 111, 115, 116] d2) := by unfold Hid progLines; simp only; rw [HFF0.out, HFF1.out]
          have hnl : (nlF ((F0 ++ F1) ++ factT [112, 111, 115, 116] d2)).length ≤ 140737488355328 := by
            rw [nlF_append, nlF_append, ← HFF0.out, ← HFF1.out, List.length_append, List.length_append]; omega
          obtain ⟨FN, hFN⟩ : ∃ X, (F0 ++ F1) ++ factT [112, 111, 115, 116] d2 = X := ⟨_, rfl⟩
          rw [hFN] at HO9 hnl HFN
          obtain ⟨a9, p9, rfl, hs9⟩ := own_rd (own_keep (S' := Fresh W1.heap.size wr) HO9.out (fun _ h => h.elim) fun _ _ _ => rfl) (Nat.le_refl _)
          have HC := hid (c_withNewlines hs9 hnl)
          clear hFN hs9
          go_wp2_with (go_at_call 53; refine HC.out.mono ?_; rintro e w9 ⟨rfl, hb9⟩; have HB9 := hid (bel_next HBR9.out hsz9 hb9); clear hb9; unfold strOf)
          go_ret
          rw [HFN.out]
          exact ⟨rfl, HB0.out.trans (HB9.out.mono hzl)⟩
theorem c_ProgramText {S : Nat → Prop} {B : Nat} {a0 : Option Addr} {p0 : Nat} {d0 : List Term} {a1 : Option Addr} {p1 : Nat} {d1 : List Stmt} {a2 : Option Addr} {p2 : Nat} {d2 : List Term} {w : World} (h0 : SlRd cTerm S w a0 p0 d0) (h1 : SlRd cStmt S w a1 p1 d1) (h2 : SlRd cTerm S w a2 p2 d2) (ht : TabE B w) :
    Calls Tryd.prog 13 #[.agg #[.slice a0 d0.length p0, .slice a1 d1.length p1, .slice a2 d2.length p2]] w fun e w' => e = .returned (.tuple #[strOf (progTextF (d0, d1, d2)).1, .bool (progTextF (d0, d1, d2)).2]) ∧ Below w.heap.size w w' := by
  have H0 := hid (h0.alloc (.cells #[.slice a0 d0.length p0, .slice a1 d1.length p1, .slice a2 d2.length p2] 45))
  have H1 := hid (h1.alloc (.cells #[.slice a0 d0.length p0, .slice a1 d1.length p1, .slice a2 d2.length p2] 45))
  have H2 := hid (h2.alloc (.cells #[.slice a0 d0.length p0, .slice a1 d1.length p1, .slice a2 d2.length p2] 45))
  have HB : Hid (Below w.heap.size w (w.alloc (.cells #[.slice a0 d0.length p0, .slice a1 d1.length p1, .slice a2 d2.length p2] 45))) := (Below.refl _ _).alloc (Nat.le_refl _) _
  have t0 : (w.alloc (.cells #[.slice a0 d0.length p0, .slice a1 d1.length p1, .slice a2 d2.length p2] 45)).cell? ⟨w.heap.size, 0, none⟩ = some (.slice a0 d0.length p0) := by rw [World.cell?_alloc_at _ _ _ _ rfl]; rfl
  have t1 : (w.alloc (.cells #[.slice a0 d0.length p0, .slice a1 d1.length p1, .slice a2 d2.length p2] 45)).cell? ⟨w.heap.size, 1, none⟩ = some (.slice a1 d1.length p1) := by rw [World.cell?_alloc_at _ _ _ _ rfl]; rfl
  have t2 : (w.alloc (.cells #[.slice a0 d0.length p0, .slice a1 d1.length p1, .slice a2 d2.length p2] 45)).cell? ⟨w.heap.size, 2, none⟩ = some (.slice a2 d2.length p2) := by rw [World.cell?_alloc_at _ _ _ _ rfl]; rfl
  have z0 : w.heap.size < (w.alloc (.cells #[.slice a0 d0.length p0, .slice a1 d1.length p1, .slice a2 d2.length p2] 45)).heap.size := by simp
  have HT := hid (ht.belows (HB.out.mono ht.2))
  clear h0 h1 h2 ht
  obtain ⟨r, hr⟩ : ∃ r, progF (d0, d1, d2) = r := ⟨_, rfl⟩
  have HR := hid hr
  cases r
  · have HF : Hid (progTextF (d0, d1, d2) = ([], false)) := by unfold Hid progTextF; rw [hr]; rfl
    clear hr
    go_enter Tryd.func13, Tryd.ntmps13
    go_wp2_with fail
    refine (c_ValidProgram H0.out H1.out H2.out).mono ?_
    rintro e w1 ⟨rfl, hb1⟩
    rw [HR.out]
    have HB1 := hid (bel_next HB.out HB.out.size hb1)
    clear hb1
    go_wp2
    go_ret2
    rw [HF.out]
    exact ⟨rfl, HB1.out⟩
  · have HF : Hid (progTextF (d0, d1, d2) = (nlF (progLines (d0, d1, d2)), true)) := by unfold Hid progTextF; rw [hr]; rfl
    clear hr
    go_enter Tryd.func13, Tryd.ntmps13
    go_wp2_with fail
    refine (c_ValidProgram H0.out H1.out H2.out).mono ?_
    rintro e w1 ⟨rfl, hb1⟩
    rw [HR.out]
    have HB1 := hid (bel_next HB.out HB.out.size hb1)
    have s0 := cell_below hb1 z0 t0
    have s1 := cell_below hb1 z0 t1
    have s2 := cell_below hb1 z0 t2
    have HC := hid (c_programText (H0.out.below (Nat.le_refl _) hb1) (H1.out.below (Nat.le_refl _) hb1) (H2.out.below (Nat.le_refl _) hb1) HR.out (HT.out.on hb1))
    clear hb1 H0 H1 H2 HB t0 t1 t2
    obtain ⟨X, hX⟩ : ∃ X, nlF (progLines (d0, d1, d2)) = X := ⟨_, rfl⟩
    rw [hX] at HC HF
    clear hX
    go_wp2_with (go_at_call 33; refine HC.out.mono ?_; rintro e w2 ⟨rfl, hb2⟩; have HB2 := hid (bel_next HB1.out HB1.out.size hb2); clear hb2; unfold strOf)
    go_ret2
    rw [HF.out]
    exact ⟨rfl, HB2.out⟩
end Go.Proofs.YtcmopmapdomneaaDoor
end
