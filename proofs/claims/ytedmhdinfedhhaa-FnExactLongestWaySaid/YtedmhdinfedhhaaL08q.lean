/- Contracts: circles without points. -/
import Derived.Test.YtedmhdinfedhhaaL08o
namespace Go.Proofs.Ytedmhdinfedhhaa
open Go.RowKit

def OwnQN (w : World) (Bk : Nat → Prop) (v : Value) (zs : List Int) : Prop := (v = .slice none 0 0 ∧ zs = []) ∨ OwnQ w Bk v zs
theorem own_q {w : World} {base : Nat} {e : TypeId} {v : Value} {zs : List Int} (h : OwnSl cInt (fun _ => False) w base e v zs) : OwnQN w (fun b => base ≤ b) v zs := by
  obtain ⟨xs, hr, hel⟩ := h
  rcases hr.2 with ⟨h1, h2⟩ | ⟨g, cap, cur, rfl, hb, hg, hnc, hcm, hcs, htk⟩
  · exact .inl ⟨h1, List.eq_nil_of_length_eq_zero h2⟩
  · refine .inr ⟨g, 0, cap, cur, e, rfl, hb, hg, hnc, by unfold maxLen at hcm; exact hcm, by rw [hcs]; simp [cInt], fun i z hi => ?_⟩
    obtain ⟨cs, ⟨rfl, hz⟩, hc⟩ := hel i z hi
    have h9 := hc 0 _ rfl
    have hn : cInt.n = 1 := rfl
    rw [← htk, hn, Nat.mul_one, Nat.mul_one, Nat.add_zero] at h9
    have hlt : i < zs.length := (List.getElem?_eq_some_iff.1 hi).1
    rw [List.getElem?_take, if_pos hlt] at h9
    refine ⟨?_, hz⟩
    rw [Nat.zero_add, ← Array.getElem?_toList]; exact h9
theorem ownQN_keep {w w' : World} {Bk : Nat → Prop} {v : Value} {zs : List Int} (h : OwnQN w Bk v zs) (hk : ∀ b, Bk b → b < w.heap.size → w'.heap[b]? = w.heap[b]?) : OwnQN w' Bk v zs := h.imp id fun g => ownQ_keep g hk
theorem ownQN_sl {w : World} {Bk : Nat → Prop} {v : Value} {zs : List Int} (h : OwnQN w Bk v zs) : ∃ a cap, v = .slice a zs.length cap := by
  rcases h with ⟨rfl, rfl⟩ | h
  · exact ⟨none, 0, rfl⟩
  · obtain ⟨g, off, cap, rfl⟩ := ownQ_sl h; exact ⟨_, cap, rfl⟩
theorem ownQN_snoc {w : World} {Bk : Nat → Prop} {v : Value} {zs : List Int} {z : Int} (h : OwnQN w Bk v (zs ++ [z])) : OwnQ w Bk v (zs ++ [z]) := by
  rcases h with ⟨_, h⟩ | h
  · simp at h
  · exact h
set_option maxHeartbeats 4000000 in
set_option maxRecDepth 100000 in
theorem c_openLoops {S : Nat → Prop} {a0 : Option Addr} {n0 p0 : Nat} {a1 : Option Addr} {n1 p1 : Nat} {a2 : Option Addr} {p2 : Nat} {d2 : List Instr} {a3 : Option Addr} {p3 : Nat} {d3 : List Pt} {w : World} (h2 : SlRd cInstr S w a2 p2 d2) (h3 : SlRd cPoint S w a3 p3 d3) (hn : d2.length ≤ 80) :
    Calls Try.prog 60 #[.agg #[.slice a0 n0 p0, .slice a1 n1 p1, .slice a2 d2.length p2, .slice a3 d3.length p3]] w (RetSl cBool (openBs d2 d3) w) := by
  have HB : Hid (Below w.heap.size w (w.alloc (.cells #[.slice a0 n0 p0, .slice a1 n1 p1, .slice a2 d2.length p2, .slice a3 d3.length p3] 35))) := (Below.refl _ _).alloc (Nat.le_refl _) _
  have HX : Hid (AnB (w.alloc (.cells #[.slice a0 n0 p0, .slice a1 n1 p1, .slice a2 d2.length p2, .slice a3 d3.length p3] 35)) w.heap.size a0 n0 p0 a1 n1 p1 a2 d2.length p2 a3 d3.length p3) := AnB.new _ _ _ _ _ _ _ _ _ _ _ _ _ _
  have H2 := hid ((h2.keep (S' := fun b => b < w.heap.size) (w' := w) fun b _ hl => ⟨hl, rfl⟩).alloc (.cells #[.slice a0 n0 p0, .slice a1 n1 p1, .slice a2 d2.length p2, .slice a3 d3.length p3] 35))
  have H3 := hid ((h3.keep (S' := fun b => b < w.heap.size) (w' := w) fun b _ hl => ⟨hl, rfl⟩).alloc (.cells #[.slice a0 n0 p0, .slice a1 n1 p1, .slice a2 d2.length p2, .slice a3 d3.length p3] 35))
  have hs1 : (w.alloc (.cells #[.slice a0 n0 p0, .slice a1 n1 p1, .slice a2 d2.length p2, .slice a3 d3.length p3] 35)).heap.size = w.heap.size + 1 := by simp
  have HRG := hid (bareF_rng d2 d3)
  have HBL := hid (bareF_len d2 d3)
  have HOL := hid (openBs_len d2 d3)
  have HOA := hid fun i h => openBs_at (code := d2) (ps := d3) (i := i) h
  clear h2 h3
  obtain ⟨g1, hg1⟩ : ∃ g1, g1 = w.heap.size + 1 := ⟨_, rfl⟩
  have hwg : w.heap.size < g1 := by omega
  go_enter Try.func60, Try.ntmps60
  go_wp2_with (at_make; go_loud (refine wpList_mk rfl (.tmp 10) (.tmp 10) _ rfl rfl rfl (own_mk slBool (C := cBool) (base := w.heap.size + 1) (fun _ => False) d2.length (by omega) (Nat.le_of_eq hs1.symm) false (fun _ _ => rfl) _ _) ?_); rintro w2 ⟨hown, hg⟩; have HO2 := hid hown; have HG2 := hid (show Below (w.heap.size + 1) (w.alloc (.cells #[.slice a0 n0 p0, .slice a1 n1 p1, .slice a2 d2.length p2, .slice a3 d3.length p3] 35)) w2 from (Below.refl _ _).grown hg (Nat.le_of_eq hs1.symm) (by simp)); clear hown hg)
  rw [hs1] at HO2
  rw [← hg1] at HO2 ⊢
  rw [← hg1] at HG2
  clear hs1
  generalize w.alloc (.cells #[.slice a0 n0 p0, .slice a1 n1 p1, .slice a2 d2.length p2, .slice a3 d3.length p3] 35) = W at *
  have HX2 := hid (HX.out.on hwg HG2.out)
  have H22 := hid (H2.out.keep (S' := fun b => b < g1) (w' := w2) fun b hb _ => ⟨by omega, HG2.out.block b (by omega)⟩)
  have H32 := hid (H3.out.keep (S' := fun b => b < g1) (w' := w2) fun b hb _ => ⟨by omega, HG2.out.block b (by omega)⟩)
  have gz2 : g1 < w2.heap.size := (own_lt HO2.out g1 rfl).2
  have HB2 := hid (HB.out.trans (HG2.out.mono (by omega)))
  clear hg1 HX H2 H3 HG2 HB
  have HFL : Hid (OwnSl cBool (fun _ => False) w2 g1 4 (.slice (some ⟨g1, 0, none⟩) d2.length d2.length) ((openBs d2 d3).take 0 ++ List.replicate (d2.length - 0) false)) := by
    unfold Hid; have h9 := HO2.out; simpa using h9
  clear HO2
  go_loopw [14] (fun i wr => ∃ k : Nat, k ≤ d2.length ∧ i = .int .i64 k ∧ Hid (OwnSl cBool (fun _ => False) wr g1 4 (.slice (some ⟨g1, 0, none⟩) d2.length d2.length) ((openBs d2 d3).take k ++ List.replicate (d2.length - k) false)) ∧ Hid (Below g1 w2 wr) ∧ g1 < wr.heap.size) (fun i _ => d2.length - (intOf i).toNat)
  case atStart => exact ⟨0, Nat.zero_le _, rfl, HFL, Below.refl _ _, gz2⟩
  case round =>
    obtain ⟨k, hk, rfl, HO, HBR, hgz⟩ := hrel
    by_cases hlt : k < d2.length
    · have HXR := hid (HX2.out.on hwg HBR.out)
      have x0 := HXR.out.c0
      have x1 := HXR.out.c1
      have x2 := HXR.out.c2
      have x3 := HXR.out.c3
      have H2R := hid (H22.out.keep (S' := fun b => b < g1) (w' := wr) fun b hb _ => ⟨hb, HBR.out.block b hb⟩)
      have H3R := hid (H32.out.keep (S' := fun b => b < g1) (w' := wr) fun b hb _ => ⟨hb, HBR.out.block b hb⟩)
      have e1 : decide ((k : Int) < (d2.length : Int)) = true := decide_eq_true (by omega)
      have i0 : (0 : Int) ≤ (k : Int) := by omega
      have i1 : (k : Int) < (d2.length : Int) := by omega
      obtain ⟨P, hP⟩ : ∃ P, pointF d3 (k : Int) = P := ⟨_, rfl⟩
      have HPC : Hid (Calls Try.prog 122 #[.agg #[.slice a0 n0 p0, .slice a1 n1 p1, .slice a2 d2.length p2, .slice a3 d3.length p3], .int .i64 k] wr fun e w' => e = .returned (.int .i64 P) ∧ Below wr.heap.size wr w') := by
        unfold Hid; rw [← hP]; exact c_anPoint H3R.out _
      have HOB : Hid (openB d2 d3 k = (decide (P < 0) && (metF d2.length (bareF d2 d3) k).getD k false)) := by unfold Hid openB noPt; rw [hP]
      have HTK : Hid ((openBs d2 d3)[k]? = some (openB d2 d3 k)) := HOA.out k hlt
      clear hP
      obtain ⟨wo, hwo⟩ : ∃ wo : World, wo = wr := ⟨_, rfl⟩
      subst hwo
      by_cases hP0 : P < 0
      · have f1 : decide (0 ≤ P) = false := decide_eq_false (by omega)
        have HOB2 : Hid (openB d2 d3 k = (metF d2.length (bareF d2 d3) k).getD k false) := by unfold Hid; rw [HOB.out, decide_eq_true hP0]; rfl
        clear hP0 HOB
        go_wp2_with fail
        refine HPC.out.mono ?_
        rintro e w3 ⟨rfl, hb3⟩
        have HO3 := hid (own_below HO.out (Nat.le_refl _) hb3)
        have HB3 := hid (HBR.out.trans (hb3.mono (by omega)))
        have hgz3 := Nat.lt_of_lt_of_le hgz hb3.size
        clear hb3 x0 x1 x2 x3 HXR H2R H3R HO HBR HPC
        obtain ⟨g2, hg2⟩ : ∃ g2, g2 = w3.heap.size := ⟨_, rfl⟩
        have hg12 : g1 < g2 := by omega
        go_wp2_with (at_make; go_loud (refine wpList_mk rfl (.tmp 22) (.tmp 22) _ rfl rfl rfl (own_mk slBool (C := cBool) (base := w3.heap.size) (fun _ => False) d2.length (by omega) (Nat.le_refl _) false (fun _ _ => rfl) _ _) ?_); rintro w4 ⟨hown, hg⟩; have HM4 := hid hown; have HG4 := hid (show Below w3.heap.size w3 w4 from (Below.refl _ _).grown hg (Nat.le_refl _) (by simp)); clear hown hg; have HX4 := hid (HX2.out.on hwg (HB3.out.trans (HG4.out.mono (by omega)))); have y0 := HX4.out.c0; have y1 := HX4.out.c1; have y2 := HX4.out.c2; have y3 := HX4.out.c3)
        rw [← hg2] at HM4 HG4 ⊢
        have hg23 : g2 ≤ w3.heap.size := Nat.le_of_eq hg2
        have hg32 : w3.heap.size ≤ g2 := Nat.le_of_eq hg2.symm
        clear hg2
        have H24 := hid (H22.out.keep (S' := fun b => b < g1) (w' := w4) fun b hb _ => ⟨hb, (HB3.out.trans (HG4.out.mono (by omega))).block b hb⟩)
        have H34 := hid (H32.out.keep (S' := fun b => b < g1) (w' := w4) fun b hb _ => ⟨hb, (HB3.out.trans (HG4.out.mono (by omega))).block b hb⟩)
        refine (c_bare H24.out H34.out hlt hn).mono ?_
        rintro e w5 ⟨v5, rfl, hO5, hb5⟩
        have gm4 : g2 < w4.heap.size := (own_lt HM4.out g2 rfl).2
        have HM5 := hid (own_below HM4.out (Nat.le_refl _) hb5)
        have HQ5 : Hid (OwnQN w5 (fun b => g2 < b) v5 (bareF d2 d3 k)) := by
          rcases own_q hO5 with h | h
          · exact .inl h
          · exact .inr (ownQ_mono h fun b hb _ => by omega)
        have HB5 := hid (HG4.out.trans (hb5.mono (by omega)))
        have hgm5 := Nat.lt_of_lt_of_le gm4 hb5.size
        have HI5 := hid (GInv.begin d2.length (bareF d2 d3) (bareF d2 d3 k))
        have hms5 : msr (List.replicate d2.length false) (bareF d2 d3 k) ≤ 3 * d2.length + 2 := by unfold msr; have := HBL.out k; simp; omega
        clear hO5 hb5 H24 H34 HX4 y0 y1 y2 y3 HM4 HG4 gm4
        obtain ⟨a5, c5, rfl⟩ := ownQN_sl HQ5.out
        go_wp2
        go_loopg [6] (3 * d2.length + 2) (fun K v wq => ∃ (out : List Bool) (work : List Int), msr out work ≤ K ∧ K ≤ 242 ∧ Hid (GInv d2.length (bareF d2 d3) (bareF d2 d3 k) out work) ∧ Hid (OwnQN wq (fun b => g2 < b) v work) ∧ Hid (OwnSl cBool (fun _ => False) wq g2 4 (.slice (some ⟨g2, 0, none⟩) d2.length d2.length) out) ∧ Hid (Below g2 w3 wq) ∧ g2 < wq.heap.size)
        case atStart => exact ⟨_, _, hms5, by omega, HI5, HQ5, HM5, HB5, hgm5⟩
        case round =>
          obtain ⟨out, work, hms, hK, HI, HQ, HM, HBQ, hgm⟩ := hrel
          have HML := hid HI.out.len
          rcases List.eq_nil_or_concat work with rfl | ⟨init, t, rfl⟩
          · have HOUT : Hid (out = metF d2.length (bareF d2 d3) k) := metF_of HRG.out HBL.out HI.out
            obtain ⟨aq, cq, rfl⟩ := ownQN_sl HQ.out
            obtain ⟨z, hz, hcz, hfz, _, _⟩ := own_at_bool HM.out HML.out k hlt
            have HOQ := hid (own_keep (w' := wr) HO3.out (fun _ h _ => h) fun b hl hs => HBQ.out.block b (by rcases hs with hs | hs; exact hs.elim; have h7 : b = g1 := Option.some.inj hs; omega))
            obtain ⟨z1, hz1, hc1, hf1, hgl1, _⟩ := own_at_bool HOQ.out (fill_len HOL.out hk) k hlt
            have HZ : Hid (openB d2 d3 k = z) := by
              unfold Hid; rw [HOB2.out, ← HOUT.out, List.getD_eq_getElem?_getD, hz]; rfl
            have hset := own_set_bool HOQ.out (fill_len HOL.out hk) k hlt z
            rw [fill_set HOL.out hlt (by rw [HTK.out, HZ.out])] at hset
            have HOS := hid hset.1
            have HBS := hid (HB3.out.trans ((HBQ.out.mono (show g1 ≤ g2 by omega)).setCell (p := ⟨g1, k, none⟩) (Nat.le_refl _) (.bool z)))
            have hgs : g1 < (wr.setCell ⟨g1, k, none⟩ (.bool z)).heap.size := by rw [size_set]; exact hgl1
            have q1 : decide ((0 : Int) < (([] : List Int).length : Int)) = false := by simp
            clear hset hz hz1
            go_wp2
            go_roundw
            case rel => exact ⟨k + 1, by omega, by go_num, HOS, HBS, hgs⟩
            case measure => simp [intOf]; omega
          · rw [List.concat_eq_append] at *
            have hQc := ownQN_snoc HQ.out
            obtain ⟨g, off, cap, rfl, hc, ht64, hcap1, hcap2, hQ'⟩ := ownQ_last hQc
            have HQ1 := hid hQ'
            have hw1 : (init ++ [t]).length ≤ gk := by unfold msr at hms; omega
            simp only [List.length_append, List.length_singleton] at hw1
            have HIC : Hid (GInv d2.length (bareF d2 d3) (bareF d2 d3 k) out (t :: init)) := HI.out.same fun x => by simp [or_comm]
            obtain ⟨ht0, htn⟩ := (HIC.out.workR t (by simp)).rng HRG.out
            obtain ⟨q, rfl⟩ := Int.eq_ofNat_of_zero_le ht0
            have hqn : q < d2.length := by omega
            have e2 : decide ((0 : Int) < (init.length : Int) + 1) = true := decide_eq_true (by omega)
            have xx1 : IntKind.i64.wrap ((init.length : Int) + 1 - 1) = (init.length : Int) := by rw [wrap_in _ (by omega) (by omega)]; omega
            have q0 : (0 : Int) ≤ (q : Int) := by omega
            have q1 : (q : Int) < (d2.length : Int) := by omega
            have hmE : msr out (init ++ [(q : Int)]) = msr out ((q : Int) :: init) := by unfold msr; simp
            rw [hmE] at hms
            obtain ⟨z, hz, hcz, hfz, hgl, _⟩ := own_at_bool HM.out HML.out q hqn
            have HZ := hid hz
            clear hQ' hQc hmE hz
            cases z
            · have hset := own_set_bool HM.out HML.out q hqn true
              have HMS := hid hset.1
              have HBS := hid (HBQ.out.setCell (p := ⟨g2, q, none⟩) (Nat.le_refl _) (.bool true))
              have HQS := hid (ownQ_keep (w' := wr.setCell ⟨g2, q, none⟩ (.bool true)) HQ1.out fun b hb _ => heap_setCell_ne _ _ _ (by show b ≠ g2; omega))
              have HIN : Hid (GInv d2.length (bareF d2 d3) (bareF d2 d3 k) (out.set q true) (init ++ bareF d2 d3 q)) := HIC.out.push hqn
              have hmN := msr_pushG (su := bareF d2 d3) (work := init) (HBL.out q) HZ.out
              have hgs : g2 < (wr.setCell ⟨g2, q, none⟩ (.bool true)).heap.size := by rw [size_set]; exact hgm
              have HBG : Hid (Below g1 w2 (wr.setCell ⟨g2, q, none⟩ (.bool true))) := HB3.out.trans (HBS.out.mono (by omega))
              have HXS := hid (HX2.out.on hwg HBG.out)
              have y0 := HXS.out.c0
              have y1 := HXS.out.c1
              have y2 := HXS.out.c2
              have y3 := HXS.out.c3
              have H2S := hid (H22.out.keep (S' := fun b => b < g1) (w' := wr.setCell ⟨g2, q, none⟩ (.bool true)) fun b hb _ => ⟨hb, HBG.out.block b hb⟩)
              have H3S := hid (H32.out.keep (S' := fun b => b < g1) (w' := wr.setCell ⟨g2, q, none⟩ (.bool true)) fun b hb _ => ⟨hb, HBG.out.block b hb⟩)
              have HBQL := hid (HBL.out q)
              obtain ⟨T, hT⟩ : ∃ T, bareF d2 d3 q = T := ⟨_, rfl⟩
              have HCB := hid (c_bare (a0 := a0) (n0 := n0) (p0 := p0) (a1 := a1) (n1 := n1) (p1 := p1) H2S.out H3S.out hqn hn)
              rw [hT] at HIN hmN HBQL HCB
              have hTl := HBQL.out
              obtain ⟨M, hM⟩ : ∃ M, msr (out.set q true) (init ++ T) = M := ⟨_, rfl⟩
              have HME := hid (Nat.le_of_eq hM)
              rw [hM] at hmN
              clear hset hT hM
              go_wp2_with (first | (go_at_call 66; refine HCB.out.mono ?_; rintro e w7 ⟨v7, rfl, hO7, hb7⟩; obtain ⟨a7, c7, rfl⟩ := own_len hO7; have HR7 := hid (own_rd (own_keep (S' := Fresh (wr.setCell ⟨g2, q, none⟩ (.bool true)).heap.size w7) hO7 (fun _ h => h.elim) fun _ _ _ => rfl) (Nat.le_refl _)); obtain ⟨a8, c8, he8, hs8⟩ := HR7.out; cases he8; have HS8 := hid hs8; have HQ7 := hid (ownQ_below HQS.out (Nat.le_refl _) hb7); have HM7 := hid (own_below HMS.out (Nat.le_refl _) hb7); have HB7 := hid (HBS.out.trans (hb7.mono (by omega))); have hgm7 := Nat.lt_of_lt_of_le hgs hb7.size; clear hs8 hO7 hb7 HR7) | (at_builtin; refine app_q rfl (.tmp 49) (.tmp 52) _ rfl slI64 rfl rfl HQ7.out HS8.out (by omega) (fun b hb => by omega) ?_; intro v9 w9 hQ9 hb9; have hb9' := hb9.below (B := g2 + 1) (fun _ h => h) (by omega); have HQ9 := hid hQ9; have HM9 := hid (own_keep (w' := w9) HM7.out (fun _ h _ => h) fun b hl hs => hb9'.block b (by rcases hs with hs | hs; exact hs.elim; have h7 : b = g2 := Option.some.inj hs; omega)); have HB9 := hid (HB7.out.trans (hb9'.mono (by omega))); have hgm9 := Nat.lt_of_lt_of_le hgm7 hb9'.size; clear hQ9 hb9 hb9'))
              go_roundg M
              case measure => omega
              case rel => exact ⟨_, _, HME.out, by omega, HIN, .inr HQ9.out, HM9, HB9, hgm9⟩
            · have HIN : Hid (GInv d2.length (bareF d2 d3) (bareF d2 d3 k) out init) := HIC.out.skip (by rw [Int.toNat_natCast]; exact HZ.out)
              have hmN : msr out init < msr out ((q : Int) :: init) := by unfold msr; simp
              obtain ⟨M, hM⟩ : ∃ M, msr out init = M := ⟨_, rfl⟩
              have HME := hid (Nat.le_of_eq hM)
              rw [hM] at hmN
              clear hM
              go_wp2
              go_roundg M
              case measure => omega
              case rel => exact ⟨_, _, HME.out, by omega, HIN, .inr HQ1.out, HM, HBQ, hgm⟩
      · have f1 : decide (0 ≤ P) = true := decide_eq_true (by omega)
        have HNEW : Hid ((openBs d2 d3).take k ++ List.replicate (d2.length - k) false = (openBs d2 d3).take (k + 1) ++ List.replicate (d2.length - (k + 1)) false) := by
          have hf : openB d2 d3 k = false := by rw [HOB.out, decide_eq_false hP0]; rfl
          unfold Hid
          rw [List.take_add_one, HTK.out, hf, show d2.length - k = (d2.length - (k + 1)) + 1 by omega, List.replicate_succ]
          simp
        clear hP0 HOB HTK
        go_wp2_with fail
        refine HPC.out.mono ?_
        rintro e w3 ⟨rfl, hb3⟩
        have HO3 := hid (own_below HO.out (Nat.le_refl _) hb3)
        have HB3 := hid (HBR.out.trans (hb3.mono (by omega)))
        have hgz3 := Nat.lt_of_lt_of_le hgz hb3.size
        clear hb3 x0 x1 x2 x3 HXR H2R H3R HO HBR HPC
        go_wp2
        go_roundw
        case rel => exact ⟨k + 1, by omega, by go_num, by rw [← HNEW.out]; exact HO3, HB3, hgz3⟩
        case measure => simp [intOf]; omega
    · have hke : k = d2.length := by omega
      subst hke
      have e1 : decide ((d2.length : Int) < (d2.length : Int)) = false := by simp
      have HO9 : Hid (OwnSl cBool (fun _ => False) wr g1 4 (.slice (some ⟨g1, 0, none⟩) d2.length d2.length) (openBs d2 d3)) := by
        have h9 := HO.out
        rw [fill_end HOL.out (Nat.le_refl _)] at h9; exact h9
      obtain ⟨a9, c9, he, hs9⟩ := own_rd (own_keep (S' := Fresh w.heap.size wr) (own_base HO9.out (base' := w.heap.size) (by omega)) (fun _ h => h.elim) fun _ _ _ => rfl) (Nat.le_refl _)
      have HE := hid (And.intro he hs9)
      clear he hs9
      go_wp2
      go_ret
      exact ⟨a9, c9, by rw [← HE.out.1]; rfl, HE.out.2, HB2.out.trans (HBR.out.mono (by omega))⟩
set_option maxHeartbeats 4000000 in
set_option maxRecDepth 100000 in
theorem c_l08Open {N : Nat} {g : Nat} {a2 : Option Addr} {p2 : Nat} {d2 : List Instr} {a3 : Option Addr} {p3 : Nat} {d3 : List Pt} {w : World} (h : An2 N w g a2 p2 d2 a3 p3 d3) (hv : validCode d2 = true) :
    Calls Try.prog 58 #[.pointer (some ⟨g, 0, none⟩)] w (RetSl cInt (idxL (openBs d2 d3)) w) := by
  obtain ⟨hx1, hx80, hvx⟩ := validCode_iff hv
  have HA := hid h
  have HV := hid hvx
  have c2 := h.c2
  have hNw := h.le
  have HOLn := hid (openBs_len d2 d3)
  have HOA := hid fun i h => openBs_at (code := d2) (ps := d3) (i := i) h
  have HIX : Hid (idxL (openBs d2 d3) = idxK (openBs d2 d3) (openBs d2 d3).length) := rfl
  clear h hv hvx
  have HO1 : Hid (OwnSl cInt (fun _ => False) (w.alloc (.cells #[] 2)) w.heap.size 2 (.slice (some ⟨w.heap.size, 0, none⟩) 0 0) []) := own_made _ _ _ _ _ (Nat.le_refl _)
  have HB1 : Hid (Below w.heap.size w (w.alloc (.cells #[] 2))) := (Below.refl _ _).alloc (Nat.le_refl _) _
  obtain ⟨OB, hOB⟩ : ∃ OB, openBs d2 d3 = OB := ⟨_, rfl⟩
  rw [hOB] at HOLn HOA HIX ⊢
  have hobl := HOLn.out
  clear hOB
  go_enter Try.func58, Try.ntmps58
  go_wp2
  generalize w.alloc (.cells #[] 2) = w1 at *
  have wn1 : IntKind.i64.wrap ((d2.length : Int) - 1) = (d2.length : Int) - 1 := wrap_in _ (by omega) (by omega)
  go_loopw [4, 5] (fun v i wr => ∃ k : Nat, k ≤ d2.length ∧ i = .int .i64 k ∧ Hid (OwnSl cInt (fun _ => False) wr w.heap.size 2 v (idxK OB k)) ∧ Hid (Below w.heap.size w wr)) (fun _ i _ => d2.length - (intOf i).toNat)
  case atStart => exact ⟨0, Nat.zero_le _, rfl, HO1, HB1⟩
  case round =>
    obtain ⟨k, hk, rfl, HO, HB⟩ := hrel
    have hlen := idxK_len OB k
    by_cases hlt : k < d2.length
    · obtain ⟨a4, c4, rfl⟩ := own_len HO.out
      have HKS := hid (idxK_succ (HOA.out k hlt))
      have e1 : decide ((k : Int) < (d2.length : Int)) = true := decide_eq_true (by omega)
      have i0 : (0 : Int) ≤ (k : Int) := by omega
      have i1 : (k : Int) < (d2.length : Int) := by omega
      have hk64 : I64 (k : Int) := ⟨by omega, by omega⟩
      obtain ⟨wo, hwo⟩ : ∃ wo : World, wo = wr := ⟨_, rfl⟩
      subst hwo
      obtain ⟨g2, hg2⟩ : ∃ g2, g2 = wo.heap.size := ⟨_, rfl⟩
      have hwg : w.heap.size ≤ g2 := by rw [hg2]; exact HB.out.size
      go_wp2_with (at_make; go_loud (refine wpList_mk rfl (.tmp 23) (.tmp 23) _ rfl rfl rfl (own_mk slBool (C := cBool) (base := wo.heap.size) (fun _ => False) d2.length (by omega) (Nat.le_refl _) false (fun _ _ => rfl) _ _) ?_); rintro w4 ⟨hown, hg⟩; have HM4 := hid hown; have HG4 := hid (show Below wo.heap.size wo w4 from (Below.refl _ _).grown hg (Nat.le_refl _) (by simp)); clear hown hg)
      rw [← hg2] at HM4 HG4 ⊢
      have hg2le : g2 ≤ wo.heap.size := Nat.le_of_eq hg2
      have hg2ge : wo.heap.size ≤ g2 := Nat.le_of_eq hg2.symm
      clear hg2
      have gm4 : g2 < w4.heap.size := (own_lt HM4.out g2 rfl).2
      have HQ5 : Hid (OwnQ (w4.alloc (.cells #[.int .i64 k] 2)) (fun b => g2 < b) (.slice (some ⟨w4.heap.size, 0, none⟩) 1 1) [(k : Int)]) := ownQ_lit gm4 hk64
      have HM5 := hid (own_alloc HM4.out (.cells #[.int .i64 k] 2))
      have HG5 := hid (HG4.out.alloc (Nat.le_of_lt gm4) (.cells #[.int .i64 k] 2))
      have gm5 : g2 < (w4.alloc (.cells #[.int .i64 k] 2)).heap.size := by rw [World.size_alloc]; omega
      have HI5 := hid (BInv.begin (nextL d2) (noPt d3) hlt)
      generalize w4.alloc (.cells #[.int .i64 k] 2) = w5 at *
      clear HM4 HG4 gm4
      go_loopw [7, 8, 9] (fun v bk i wq => ∃ (m : Nat) (W : List Int) (seen : List Bool) (back : Bool), i = .int .i64 m ∧ bk = .bool back ∧ m ≤ W.length ∧ Hid (BInv d2.length (nextL d2) (noPt d3) k seen W m back []) ∧ Hid (OwnQ wq (fun b => g2 < b) v W) ∧ Hid (OwnSl cBool (fun _ => False) wq g2 4 (.slice (some ⟨g2, 0, none⟩) d2.length d2.length) seen) ∧ Hid (Below g2 wo wq) ∧ g2 < wq.heap.size) (fun _ _ i _ => 82 - (intOf i).toNat)
      case atStart => exact ⟨0, _, _, false, rfl, rfl, Nat.zero_le _, HI5, HQ5, HM5, HG5, gm5⟩
      case round =>
        obtain ⟨m, W, seen, back, rfl, rfl, hmW, HI, HQ, HM, HG, hgm⟩ := hrel
        have HML := hid HI.out.len
        have hcnt := HI.out.cnt
        have hW : W.length ≤ 81 := by omega
        have HBN := hid (HB.out.trans (HG.out.mono hwg))
        by_cases hmlt : m < W.length
        · obtain ⟨gq, off, cap, y, rfl, hy, hcq, hy64, hcap1, hcap2, hgq, hgq2⟩ := ownQ_at HQ.out m hmlt
          obtain ⟨hy0, hyn⟩ := HI.out.rng y (List.mem_of_getElem? hy)
          obtain ⟨u, rfl⟩ := Int.eq_ofNat_of_zero_le hy0
          have hun : u < d2.length := by omega
          have HY := hid hy
          have f1 : decide ((m : Int) < (W.length : Int)) = true := decide_eq_true (by omega)
          have m0 : (0 : Int) ≤ (m : Int) := by omega
          have m1 : (m : Int) < (W.length : Int) := by omega
          obtain ⟨P, hP⟩ : ∃ P, pointF d3 (u : Int) = P := ⟨_, rfl⟩
          have HPC : Hid (Calls Try.prog 62 #[.pointer (some ⟨g, 0, none⟩), .int .i64 u] wr fun e w' => e = .returned (.int .i64 P) ∧ Below wr.heap.size wr w') := by
            unfold Hid; rw [← hP]; exact c_l08Point (HA.out.on (HBN.out.mono hNw)) _
          have HNP : Hid (noPt d3 (u : Int) = decide (P < 0)) := by unfold Hid noPt; rw [hP]
          clear hP hy
          by_cases hP0 : P < 0
          · have f2 : decide (0 ≤ P) = false := decide_eq_false (by omega)
            have HPT : Hid (noPt d3 (u : Int) = true) := by unfold Hid; rw [HNP.out]; exact decide_eq_true hP0
            clear hP0 HNP
            go_wp2_with fail
            refine HPC.out.mono ?_
            rintro e w6 ⟨rfl, hb6⟩
            have HQ6 := hid (ownQ_below HQ.out (Nat.le_refl _) hb6)
            have HM6 := hid (own_below HM.out (Nat.le_refl _) hb6)
            have HG6 := hid (HG.out.trans (hb6.mono (by omega)))
            have hgm6 := Nat.lt_of_lt_of_le hgm hb6.size
            have hcq6 := cell_below hb6 hgq2 hcq
            have HBN6 := hid (HB.out.trans (HG6.out.mono hwg))
            have HA6 := hid (HA.out.on (HBN6.out.mono hNw))
            clear hb6 HQ HM HG HPC hcq HBN
            go_wp2_with fail
            refine (c_l08Next HA6.out hun hx80).mono ?_
            rintro r w7 ⟨a7, p7, rfl, hs7, hb7⟩
            obtain ⟨B1, hB1⟩ : ∃ B, B = w6.heap.size := ⟨_, rfl⟩
            obtain ⟨B2, hB2⟩ : ∃ B, B = w7.heap.size := ⟨_, rfl⟩
            have hB12 : B1 ≤ B2 := by rw [hB1, hB2]; exact hb7.size
            have hg1B : g2 < B1 := by rw [hB1]; exact hgm6
            have HT7 := hid (hs7.keep (S' := fun b => B1 ≤ b ∧ b < B2) (w' := w7) fun b hb hl => ⟨⟨by rw [hB1]; exact hb.1, by rw [hB2]; exact hl⟩, rfl⟩)
            have HQ7 := hid (ownQ_mono (ownQ_below (ownQ_mono HQ6.out (B2 := fun b => g2 < b ∧ b < B1) fun b h1 h2 => ⟨h1, by rw [hB1]; exact h2⟩) (Nat.le_refl _) hb7) (B2 := fun b => (g2 < b ∧ b < B1) ∨ B2 ≤ b) fun b h _ => .inl h)
            have HM7 := hid (own_below HM6.out (Nat.le_refl _) hb7)
            have HG7 := hid (HG6.out.trans (hb7.mono (by omega)))
            have hgm7 := Nat.lt_of_lt_of_le hgm6 hb7.size
            have hB27 : B2 ≤ w7.heap.size := Nat.le_of_eq hB2
            have hTl := nextL_len d2 u
            have hTn : ∀ x ∈ nextL d2 u, (0 : Int) ≤ x := fun x hx => (targF_nonneg HV.out (nextL_mem.1 hx)).1
            obtain ⟨T, hT⟩ : ∃ T, nextL d2 u = T := ⟨_, rfl⟩
            rw [hT] at HT7 hTl hTn ⊢
            have HT := hid hT
            have HTN := hid hTn
            clear hs7 hb7 hB1 hB2 hT hTn HQ6 HM6 HG6 hgm6 hcq6 HBN6 HA6
            go_wp2
            go_loopw [7, 8, 11] (fun v bk i wq => ∃ (j : Nat) (W' : List Int) (seen' : List Bool) (back' : Bool), i = .int .i64 j ∧ bk = .bool back' ∧ j ≤ T.length ∧ m < W'.length ∧ W'[m]? = some (u : Int) ∧ Hid (BInv d2.length (nextL d2) (noPt d3) k seen' W' m back' (T.take j)) ∧ Hid (OwnQ wq (fun b => (g2 < b ∧ b < B1) ∨ B2 ≤ b) v W') ∧ Hid (OwnSl cBool (fun _ => False) wq g2 4 (.slice (some ⟨g2, 0, none⟩) d2.length d2.length) seen') ∧ Hid (SlRd cInt (fun b => B1 ≤ b ∧ b < B2) wq a7 p7 T) ∧ Hid (Below g2 wo wq) ∧ g2 < wq.heap.size ∧ B2 ≤ wq.heap.size) (fun _ _ i _ => T.length - (intOf i).toNat)
            case atStart => exact ⟨0, W, seen, back, rfl, rfl, Nat.zero_le _, hmlt, HY.out, by simpa using HI, HQ7, HM7, HT7, HG7, hgm7, hB27⟩
            case round =>
              obtain ⟨j, W3, sn, bk, rfl, rfl, hj, hmW3, hWu, HI3, HQ3, HM3, HT3, HG3, hg3, hB3⟩ := hrel
              have hcnt3 := HI3.out.cnt
              have hW3 : W3.length ≤ 81 := by omega
              have HWU := hid hWu
              clear hWu
              by_cases hjl : j < T.length
              · obtain ⟨ba, oa, rfl⟩ := HT3.out.some_of hjl
                obtain ⟨t, ht, ht64', hct, hbt⟩ := HT3.out.int_at j hjl
                have htm : t ∈ nextL d2 u := by rw [HT.out]; exact List.mem_of_getElem? ht
                have ht0' := HTN.out t (List.mem_of_getElem? ht)
                have htk : T.take (j + 1) = T.take j ++ [t] := by rw [List.take_add_one, ht]; rfl
                have HTK := hid htk
                have HTM := hid htm
                have j0 : (0 : Int) ≤ (j : Int) := by omega
                have j1 : (j : Int) < (T.length : Int) := by omega
                have g1' : decide ((j : Int) < (T.length : Int)) = true := decide_eq_true j1
                have HML3 := hid HI3.out.len
                have hbaS := HT3.out.blk_at j hjl
                clear ht htm htk
                obtain ⟨bb, hbb⟩ : ∃ bb, (bk || t == (k : Int)) = bb := ⟨_, rfl⟩
                have HBBE := hid hbb
                clear hbb
                by_cases htn' : t < (d2.length : Int)
                · obtain ⟨q, rfl⟩ := Int.eq_ofNat_of_zero_le ht0'
                  have hqn : q < d2.length := by omega
                  have HIX1 : Hid (inB (q : Int) 0 ((d2.length : Int) - 1) = true) := inB_iff.2 (by omega)
                  have q0 : (0 : Int) ≤ (q : Int) := by omega
                  have q1 : (q : Int) < (d2.length : Int) := by omega
                  obtain ⟨z, hz, hcz, hfz, hgl, _⟩ := own_at_bool HM3.out HML3.out q hqn
                  have HZ := hid hz
                  clear hz
                  cases z
                  · have hset := own_set_bool HM3.out HML3.out q hqn true
                    have HMS := hid (own_alloc hset.1 (.cells #[.int .i64 q] 2))
                    have HGS := hid ((HG3.out.setCell (p := ⟨g2, q, none⟩) (Nat.le_refl _) (.bool true)).alloc (by rw [size_set]; omega) (.cells #[.int .i64 q] 2))
                    have HTS := hid ((HT3.out.set_ne (p := ⟨g2, q, none⟩) (fun b hb => by have h9 := hb.1; show b ≠ g2; omega) (.bool true)).alloc (.cells #[.int .i64 q] 2))
                    have HQS := hid (ownQ_below (ownQ_keep (w' := wr.setCell ⟨g2, q, none⟩ (.bool true)) HQ3.out fun b hb _ => heap_setCell_ne _ _ _ (by show b ≠ g2; omega)) (Nat.le_refl _) ((Below.refl _ _).alloc (Nat.le_refl _) (.cells #[.int .i64 q] 2)))
                    have hs1 : (wr.setCell ⟨g2, q, none⟩ (.bool true)).heap.size = wr.heap.size := size_set _ _ _
                    have HSZ := hid hs1
                    have HLT : Hid (SlRd cInt (Fresh 0 ((wr.setCell ⟨g2, q, none⟩ (.bool true)).alloc (.cells #[.int .i64 q] 2))) ((wr.setCell ⟨g2, q, none⟩ (.bool true)).alloc (.cells #[.int .i64 q] 2)) (some ⟨wr.heap.size, 0, none⟩) 1 [(q : Int)]) := rd_one (by have h9 := heap_new (wr.setCell ⟨g2, q, none⟩ (.bool true)) (.cells #[.int .i64 q] 2); rw [hs1] at h9; exact h9) (Nat.zero_le _) (by omega) (by omega) ht64'
                    have hct2 : (wr.setCell ⟨g2, q, none⟩ (.bool true)).cell? ⟨ba, oa + j, none⟩ = some (.int .i64 q) := by
                      rw [show (wr.setCell ⟨g2, q, none⟩ (.bool true)).cell? ⟨ba, oa + j, none⟩ = wr.cell? ⟨ba, oa + j, none⟩ from cell_set_other _ _ _ (by show ba ≠ g2; omega)]; exact hct
                    have HIN : Hid (BInv d2.length (nextL d2) (noPt d3) k (sn.set q true) (W3 ++ [(q : Int)]) m bb (T.take (j + 1))) := by
                      unfold Hid; rw [HTK.out, ← HBBE.out]
                      exact HI3.out.mark HWU.out HPT.out HTM.out hqn HZ.out
                    have HWN : Hid ((W3 ++ [(q : Int)])[m]? = some (u : Int)) := by unfold Hid; rw [List.getElem?_append_left hmW3]; exact HWU.out
                    have HWL : Hid (m < (W3 ++ [(q : Int)]).length) := by unfold Hid; rw [List.length_append]; omega
                    clear hset hs1
                    cases bk
                    all_goals
                      have HBB2 := HBBE.out
                      simp only [Bool.false_or, Bool.true_or] at HBB2
                      have HBV := hid HBB2
                      clear HBB2
                      try rw [← HBV.out] at HIN
                      go_wp2_with (first | (go_at_call 68; refine (c_l00In _ _ _ _).mono ?_; rintro e w' ⟨rfl, rfl⟩; rw [HIX1.out]) | (at_builtin; refine app_q (bs := [(q : Int)]) rfl (.tmp 84) (.tmp 89) _ rfl slI64 rfl rfl HQS.out HLT.out (by simp; omega) (fun b hb => .inr (by rw [World.size_alloc, HSZ.out] at hb; omega)) ?_; intro v8 w8 hQ8 hb8; have HQ8 := hid hQ8; have HM8 := hid (own_keep (w' := w8) HMS.out (fun _ h _ => h) fun b hl hs => hb8.block b hl (by rcases hs with hs | hs; exact hs.elim; have h7 : b = g2 := (Option.some.inj hs); omega)); have HT8 := hid (HTS.out.keep (w' := w8) fun b hb hl => ⟨hb, hb8.block b hl (by have := hb.1; have := hb.2; omega)⟩); have HG8 := hid (HGS.out.trans (hb8.below (fun b h => by omega) (by rw [World.size_alloc, HSZ.out]; omega))); have hg8 : wr.heap.size < w8.heap.size := (by have h9 := hb8.size; rw [World.size_alloc, HSZ.out] at h9; omega); clear hQ8 hb8))
                      go_roundw
                      case rel => exact ⟨j + 1, _, _, _, by go_num, rfl, by omega, HWL.out, HWN.out, HIN, HQ8, HM8, HT8, HG8, by omega, by omega⟩
                      case measure => simp [intOf]; omega
                  · have HIN : Hid (BInv d2.length (nextL d2) (noPt d3) k sn W3 m bb (T.take (j + 1))) := by
                      unfold Hid; rw [HTK.out, ← HBBE.out]
                      exact HI3.out.pass HWU.out HPT.out HTM.out fun _ => by rw [Int.toNat_natCast]; exact HZ.out
                    cases bk
                    all_goals
                      have HBB2 := HBBE.out
                      simp only [Bool.false_or, Bool.true_or] at HBB2
                      have HBV := hid HBB2
                      clear HBB2
                      try rw [← HBV.out] at HIN
                      go_wp2_with (go_at_call 68; refine (c_l00In _ _ _ _).mono ?_; rintro e w' ⟨rfl, rfl⟩; rw [HIX1.out])
                      go_roundw
                      case rel => exact ⟨j + 1, _, _, _, by go_num, rfl, by omega, hmW3, HWU.out, HIN, HQ3, HM3, HT3, HG3, hg3, hB3⟩
                      case measure => simp [intOf]; omega
                · have HIX1 : Hid (inB t 0 ((d2.length : Int) - 1) = false) := by
                    unfold Hid; cases h9 : inB t 0 ((d2.length : Int) - 1) with
                    | false => rfl
                    | true => have := inB_iff.1 h9; omega
                  have HIN : Hid (BInv d2.length (nextL d2) (noPt d3) k sn W3 m bb (T.take (j + 1))) := by
                    unfold Hid; rw [HTK.out, ← HBBE.out]
                    exact HI3.out.pass HWU.out HPT.out HTM.out fun h9 => absurd h9.2 htn'
                  cases bk
                  all_goals
                    have HBB2 := HBBE.out
                    simp only [Bool.false_or, Bool.true_or] at HBB2
                    have HBV := hid HBB2
                    clear HBB2
                    try rw [← HBV.out] at HIN
                    go_wp2_with (go_at_call 68; refine (c_l00In _ _ _ _).mono ?_; rintro e w' ⟨rfl, rfl⟩; rw [HIX1.out])
                    go_roundw
                    case rel => exact ⟨j + 1, _, _, _, by go_num, rfl, by omega, hmW3, HWU.out, HIN, HQ3, HM3, HT3, HG3, hg3, hB3⟩
                    case measure => simp [intOf]; omega
              · have HIN : Hid (BInv d2.length (nextL d2) (noPt d3) k sn W3 (m + 1) bk []) := by
                  have h9 := HI3.out
                  rw [List.take_of_length_le (by omega), ← HT.out] at h9
                  refine BInv.fin (u := (u : Int)) ?_ HWU.out
                  rw [Int.toNat_natCast]; exact h9
                have HQN := hid (ownQ_mono HQ3.out (B2 := fun b => g2 < b) fun b h _ => by omega)
                have g1' : decide ((j : Int) < (T.length : Int)) = false := decide_eq_false (by omega)
                go_wp2
                go_roundw
                case rel => exact ⟨m + 1, _, _, _, by go_num, rfl, by omega, HIN, HQN, HM3, HG3, hg3⟩
                case measure => simp [intOf]; omega
          · have f2 : decide (0 ≤ P) = true := decide_eq_true (by omega)
            have HIN : Hid (BInv d2.length (nextL d2) (noPt d3) k seen W (m + 1) back []) := HI.out.skipPt HY.out (by rw [HNP.out]; exact decide_eq_false hP0)
            clear hP0 HNP
            go_wp2_with (go_at_call 62; refine HPC.out.mono ?_; rintro e w6 ⟨rfl, hb6⟩; have HQ6 := hid (ownQ_below HQ.out (Nat.le_refl _) hb6); have HM6 := hid (own_below HM.out (Nat.le_refl _) hb6); have HG6 := hid (HG.out.trans (hb6.mono (by omega))); have hgm6 := Nat.lt_of_lt_of_le hgm hb6.size; clear hb6)
            go_roundw
            case rel => exact ⟨m + 1, _, _, _, by go_num, rfl, by omega, HIN, HQ6, HM6, HG6, hgm6⟩
            case measure => simp [intOf]; omega
        · have hme : m = W.length := by omega
          subst hme
          have f1 : decide ((W.length : Int) < (W.length : Int)) = false := by simp
          obtain ⟨gq, off, cap, rfl⟩ := ownQ_sl HQ.out
          obtain ⟨P, hP⟩ : ∃ P, pointF d3 (k : Int) = P := ⟨_, rfl⟩
          have HPC : Hid (Calls Try.prog 62 #[.pointer (some ⟨g, 0, none⟩), .int .i64 k] wr fun e w' => e = .returned (.int .i64 P) ∧ Below wr.heap.size wr w') := by
            unfold Hid; rw [← hP]; exact c_l08Point (HA.out.on (HBN.out.mono hNw)) _
          have HOV : Hid (openB d2 d3 k = (back && decide (P < 0))) := by
            unfold Hid
            by_cases hP0 : P < 0
            · rw [openB_back HI.out hlt (by unfold noPt; rw [hP]; exact decide_eq_true hP0), decide_eq_true hP0, Bool.and_true]
            · rw [decide_eq_false hP0, Bool.and_false]; unfold openB noPt; rw [hP, decide_eq_false hP0]; rfl
          have HOQ := hid (own_keep (w' := wr) HO.out (fun _ h _ => h) fun b hl hs => HG.out.block b (by omega))
          clear hP
          cases back
          · have HN : Hid (idxK OB (k + 1) = idxK OB k) := by unfold Hid; rw [HKS.out, HOV.out]; simp
            go_wp2
            go_roundw
            case rel => exact ⟨k + 1, by omega, by go_num, by rw [HN.out]; exact HOQ, HBN⟩
            case measure => simp [intOf]; omega
          · by_cases hP0 : P < 0
            · have f2 : decide (P < 0) = true := decide_eq_true hP0
              have HN : Hid (idxK OB (k + 1) = idxK OB k ++ [(k : Int)]) := by unfold Hid; rw [HKS.out, HOV.out, f2]; simp
              clear hP0
              go_wp2_with (first | (go_at_call 62; refine HPC.out.mono ?_; rintro e w6 ⟨rfl, hb6⟩; have HO6 := hid (own_below HOQ.out (Nat.le_refl _) hb6); have HB6 := hid (bel_next HBN.out HBN.out.size hb6); clear hb6) | (at_builtin; refine app_own (C := cInt) rfl (.tmp 98) (.tmp 100) _ rfl slI64 rfl rfl HO6.out no_blk k (rd_int hk64) (by omega) HB6.out.size ?_; intro v7 w7 hO7 hb7; have HO7 := hid hO7; have HB7 := hid (HB6.out.trans hb7); clear hO7 hb7))
              go_roundw
              case rel => exact ⟨k + 1, by omega, by go_num, by rw [HN.out]; exact HO7, HB7⟩
              case measure => simp [intOf]; omega
            · have f2 : decide (P < 0) = false := decide_eq_false hP0
              have HN : Hid (idxK OB (k + 1) = idxK OB k) := by unfold Hid; rw [HKS.out, HOV.out, f2]; simp
              clear hP0
              go_wp2_with (go_at_call 62; refine HPC.out.mono ?_; rintro e w6 ⟨rfl, hb6⟩; have HO6 := hid (own_below HOQ.out (Nat.le_refl _) hb6); have HB6 := hid (bel_next HBN.out HBN.out.size hb6); clear hb6)
              go_roundw
              case rel => exact ⟨k + 1, by omega, by go_num, by rw [HN.out]; exact HO6, HB6⟩
              case measure => simp [intOf]; omega
    · have hke : k = d2.length := by omega
      subst hke
      have e1 : decide ((d2.length : Int) < (d2.length : Int)) = false := by simp
      have HIX2 : Hid (idxL OB = idxK OB d2.length) := by unfold Hid; rw [HIX.out, hobl]
      go_wp2
      go_ret
      rw [HIX2.out]
      exact retSl_own HO.out (fun _ h => h.elim) HB.out
end Go.Proofs.Ytedmhdinfedhhaa
