/- Contracts: how high the stack is, the program's side. -/
import Derived.Test.YtedmhdinfedhhaaL07h
namespace Go.Proofs.Ytedmhdinfedhhaa
open Go.RowKit

set_option maxHeartbeats 4000000 in
set_option maxRecDepth 100000 in
theorem c_StackHeights {S : Nat → Prop} {a : Option Addr} {p : Nat} {code : List Instr} {w : World} (h : SlRd cInstr S w a p code) :
    Calls Try.prog 53 #[.slice a code.length p] w (RetSlB cInt (heightsF code).1 (heightsF code).2 w) := by
  have H := hid (h.keep (S' := fun b => S b ∧ b < w.heap.size) (w' := w) (fun b hb hl => ⟨⟨hb, hl⟩, rfl⟩))
  clear h
  obtain ⟨r, hr⟩ : ∃ r, validCode code = r := ⟨_, rfl⟩
  have HR := hid hr
  cases r
  · have HF := hid (heights_inv hr)
    clear hr
    go_enter Try.func53, Try.ntmps53
    go_wp2_with (go_at_call 115; refine (c_ValidCode _ _ _ _ H.out).mono ?_; rintro e w1 ⟨rfl, hb1⟩; rw [HR.out]; have HB1 := hid hb1; clear hb1)
    go_ret2
    rw [HF.out]
    exact ⟨none, 0, rfl, nil_rd _ _ _, HB1.out⟩
  · obtain ⟨hx1, hx80, hvx⟩ := validCode_iff hr
    have HV := hid hvx
    have HVC := hid hr
    have hn6 : code.length ≤ 1000000 := by omega
    clear hr hvx
    go_enter Try.func53, Try.ntmps53
    go_wp2_with fail
    refine (c_ValidCode _ _ _ _ H.out).mono ?_
    rintro e w1 ⟨rfl, hb1⟩
    rw [HR.out]
    have HB1 := hid hb1
    have H1 := hid (H.out.below (Nat.le_refl _) hb1)
    clear hb1
    obtain ⟨g1, hg1⟩ : ∃ g, g = w1.heap.size := ⟨_, rfl⟩
    have hw0 : w.heap.size ≤ g1 := by rw [hg1]; exact HB1.out.size
    go_wp2_with (at_make; go_loud (refine wpList_mk rfl (.tmp 18) (.tmp 18) _ rfl rfl rfl (own_mk slI64 (C := cInt) (base := w.heap.size) (fun _ => False) code.length (by omega) HB1.out.size 0 (fun _ _ => ⟨rfl, by omega, by omega⟩) _ _) ?_); rintro w2 ⟨hown, hg⟩; have HO2 := hid hown; have HB2 := hid (HB1.out.grown hg HB1.out.size (by simp)); have HX2 := hid (H1.out.grown hg (by simp)); clear hown hg)
    rw [← hg1] at HO2 ⊢
    have gz2 : g1 < w2.heap.size := (own_lt HO2.out g1 rfl).2
    clear hg1
    have HFL : Hid (OwnSl cInt (fun _ => False) w2 w.heap.size 2 (.slice (some ⟨g1, 0, none⟩) code.length code.length) ((List.replicate code.length (-1)).take 0 ++ List.replicate (code.length - 0) 0)) := by
      unfold Hid; have h9 := HO2.out; simpa using h9
    go_loopw [22] (fun i wr => ∃ k : Nat, k ≤ code.length ∧ i = .int .i64 k ∧ Hid (OwnSl cInt (fun _ => False) wr w.heap.size 2 (.slice (some ⟨g1, 0, none⟩) code.length code.length) ((List.replicate code.length (-1)).take k ++ List.replicate (code.length - k) 0)) ∧ Hid (SlRd cInstr (fun b => S b ∧ b < w.heap.size) wr a p code) ∧ Hid (Below w.heap.size w wr) ∧ g1 < wr.heap.size) (fun i _ => code.length - (intOf i).toNat)
    case atStart => exact ⟨0, Nat.zero_le _, rfl, HFL, HX2, HB2, gz2⟩
    case round =>
      obtain ⟨k, hk, rfl, HO, HX, HB, hgz⟩ := hrel
      by_cases hlt : k < code.length
      · obtain ⟨z, hz, hz64, hcz, hfz, _, _⟩ := own_at_int HO.out (fill_len (by simp) hk) k hlt
        have hset := own_set_int HO.out (fill_len (by simp) hk) k hlt (-1) ⟨by omega, by omega⟩
        rw [fill_set (by simp) hlt (by rw [List.getElem?_replicate, if_pos hlt])] at hset
        have HOS := hid hset.1
        have HBS := hid (HB.out.setCell (p := ⟨g1, k, none⟩) (by show w.heap.size ≤ g1; omega) (.int .i64 (-1)))
        have HXS := hid (HX.out.set_ne (p := ⟨g1, k, none⟩) (fun b hb => by have h9 := hb.2; show b ≠ g1; omega) (.int .i64 (-1)))
        have hgs : g1 < (wr.setCell ⟨g1, k, none⟩ (.int .i64 (-1))).heap.size := by rw [size_set]; exact hgz
        have i0 : (0 : Int) ≤ (k : Int) := by omega
        have i1 : (k : Int) < (code.length : Int) := by omega
        clear hset hz
        go_wp2
        go_roundw
        case rel => exact ⟨k + 1, by omega, by go_num, HOS, HXS, HBS, hgs⟩
        case measure => simp [intOf]; omega
      · have hke : k = code.length := by omega
        subst hke
        have hO := HO.out
        rw [fill_end (by simp) (Nat.le_refl _)] at hO
        obtain ⟨z0, hz0, _, hc0, hf0, _, _⟩ := own_at_int hO (by simp) 0 (by omega)
        have hset := own_set_int hO (by simp) 0 (by omega) 0 ⟨by omega, by omega⟩
        have HX0 := hid (HX.out.set_ne (p := ⟨g1, 0, none⟩) (fun b hb => by have h9 := hb.2; show b ≠ g1; omega) (.int .i64 0))
        have HO0 := hid hset.1
        have HB0 := hid (HB.out.setCell (p := ⟨g1, 0, none⟩) (by show w.heap.size ≤ g1; omega) (.int .i64 0))
        have hl0 : 0 < code.length := by omega
        have hs0 : (wr.setCell ⟨g1, 0, none⟩ (.int .i64 0)).heap.size = wr.heap.size := size_set _ _ _
        have HI0 := hid (HInv.begin (code := code) (by omega))
        have hm0 : msrH ((List.replicate code.length (-1)).set 0 0) [0] ≤ 2 * code.length + 1 := by
          have h2 := negs_set (out := List.replicate code.length (-1 : Int)) (k := 0) (v := -1) (x := 0) (by rw [List.getElem?_replicate, if_pos (by omega)]) (by omega) (by omega)
          have h1 : negs (List.replicate code.length (-1 : Int)) ≤ code.length := by unfold negs; exact Nat.le_trans List.countP_le_length (by simp)
          unfold msrH; simp only [List.length_singleton]; omega
        clear hset hO hz0 HO HX HB hlt hk
        go_wp2
        have HQ0 : Hid (OwnQ ((wr.setCell ⟨g1, 0, none⟩ (.int .i64 0)).alloc (.cells #[.int .i64 0] 2)) (fun b => g1 < b) (.slice (some ⟨(wr.setCell ⟨g1, 0, none⟩ (.int .i64 0)).heap.size, 0, none⟩) 1 1) [0]) := ownQ_lit (by show g1 < _; rw [hs0]; exact hgz) ⟨by omega, by omega⟩
        have HO1 := hid (own_alloc HO0.out (.cells #[.int .i64 0] 2))
        have HB1' := hid (HB0.out.alloc HB0.out.size (.cells #[.int .i64 0] 2))
        have HX1 := hid (HX0.out.alloc (.cells #[.int .i64 0] 2))
        have gz1 : g1 < ((wr.setCell ⟨g1, 0, none⟩ (.int .i64 0)).alloc (.cells #[.int .i64 0] 2)).heap.size := by rw [World.size_alloc, hs0]; omega
        rw [hs0] at HQ0
        generalize (wr.setCell ⟨g1, 0, none⟩ (.int .i64 0)).alloc (.cells #[.int .i64 0] 2) = W1 at *
        clear hf0 hs0 HX0 HO0 HB0 hc0 HFL HO2 HB2 HX2 gz2 hgz
        go_loopg [6] (2 * code.length + 1) (fun K v wq => ∃ (out work : List Int) (k0 : Nat), msrH out work ≤ K ∧ K ≤ 161 ∧ Hid (HInv code out work k0 []) ∧ Hid (OwnQ wq (fun b => g1 < b) v work) ∧ Hid (OwnSl cInt (fun _ => False) wq w.heap.size 2 (.slice (some ⟨g1, 0, none⟩) code.length code.length) out) ∧ Hid (SlRd cInstr (fun b => S b ∧ b < w.heap.size) wq a p code) ∧ Hid (Below w.heap.size w wq) ∧ g1 < wq.heap.size)
        case atStart => exact ⟨_, _, 0, hm0, by omega, HI0, HQ0, HO1, HX1, HB1', gz1⟩
        case round =>
          obtain ⟨out, work, k0, hms, hK, HI, HQ, HO, HX, HB, hg⟩ := hrel
          have HOL := hid HI.out.len
          rcases List.eq_nil_or_concat work with rfl | ⟨rest, t, rfl⟩
          · obtain ⟨g, off, cap, cur, e, rfl, _⟩ := HQ.out
            have HF : Hid (heightsF code = (out, true)) := heights_yes HVC.out (by omega) HI.out
            go_wp2
            go_ret2
            rw [HF.out]
            obtain ⟨a3, p3, he, hs3⟩ := own_rd (own_keep (S' := Fresh w.heap.size wr) HO.out (fun _ h => h.elim) fun _ _ _ => rfl) (Nat.le_refl _)
            exact ⟨a3, p3, by rw [← he]; rfl, hs3, HB.out⟩
          · rw [List.concat_eq_append] at *
            obtain ⟨ht0, htn, z, hh, hh0⟩ := HI.out.workS t (by simp)
            obtain ⟨k, rfl⟩ := Int.eq_ofNat_of_zero_le ht0
            rw [Int.toNat_natCast] at hh
            have hkn : k < code.length := by omega
            obtain ⟨hlo, hhi⟩ := HI.out.lo k z hh
            obtain ⟨g, off, cap, rfl, hc, ht64, hcap1, hcap2, hQ'⟩ := ownQ_last HQ.out
            have HQ1 := hid hQ'
            have HIC := hid (HI.out.same (w2 := (k : Int) :: rest) fun x => by simp [or_comm])
            obtain ⟨b, o2, rfl⟩ := HX.out.some_of hkn
            obtain ⟨op, arg, hzi, ho64, ha64, hco, hca, hbb⟩ := HX.out.instr_at k hkn
            have hop : opAt code k = op := opAt_at hzi
            obtain ⟨hp0, hp1⟩ := popsI_bd op
            obtain ⟨hu0, hu1⟩ := pushI_bd op
            have hw1 : IntKind.i64.wrap (z - popsI op) = z - popsI op := wrap_in _ (by omega) (by omega)
            have hw2 : IntKind.i64.wrap (z - popsI op + pushI op) = z - popsI op + pushI op := wrap_in _ (by omega) (by omega)
            have HNX : Hid (nxt code k z = z - popsI op + pushI op) := by unfold Hid nxt; rw [hop]
            have HOK : Hid (okAt code k z ↔ (0 ≤ z - popsI op ∧ z - popsI op + pushI op ≤ 6)) := by unfold Hid okAt nxt; rw [hop]
            have HH := hid hh
            have hmE : msrH out (rest ++ [(k : Int)]) = msrH out rest + 1 := by unfold msrH; rw [List.length_append]; simp; omega
            obtain ⟨M, hM⟩ : ∃ M, msrH out rest = M := ⟨_, rfl⟩
            have hM1 : M + 1 ≤ gk := by rw [← hM]; omega
            have hrl : rest.length ≤ 161 := by have h9 := hM; unfold msrH at h9; omega
            have HME := hid hM
            have e1 : decide ((0 : Int) < (rest.length : Int) + 1) = true := decide_eq_true (by omega)
            have x1 : IntKind.i64.wrap ((rest.length : Int) + 1 - 1) = (rest.length : Int) := by rw [wrap_in _ (by omega) (by omega)]; omega
            have i0 : (0 : Int) ≤ (k : Int) := by omega
            have i1 : (k : Int) < (code.length : Int) := by omega
            clear hQ' hh hzi hop hms hM hmE HI
            go_wp2_with fail
            refine (c_moves op arg wr).mono ?_
            rintro e wd ⟨rfl, hbd⟩
            have HXd := hid (HX.out.below (Nat.le_refl _) hbd)
            have HOd := hid (own_below HO.out (Nat.le_refl _) hbd)
            have HQd := hid (ownQ_below HQ1.out (Nat.le_refl _) hbd)
            have HBd := hid (bel_next HB.out HB.out.size hbd)
            have hgd : g1 < wd.heap.size := Nat.lt_of_lt_of_le hg hbd.size
            obtain ⟨z', hz', hz64, hcz, hfz, _, _⟩ := own_at_int HOd.out HOL.out k hkn
            have hzh : z' = z := by rw [HH.out] at hz'; exact (Option.some.inj hz').symm
            subst hzh
            clear hz' hco hca hc HX HO HQ HQ1 HB hg hbb hbd
            by_cases hok : 0 ≤ z' - popsI op ∧ z' - popsI op + pushI op ≤ 6
            · obtain ⟨hk1, hk2⟩ := hok
              have d1 : decide (z' - popsI op < 0) = false := decide_eq_false (by omega)
              have d2 : decide (6 < z' - popsI op + pushI op) = false := decide_eq_false (by omega)
              have HOKT : Hid (okAt code k z') := HOK.out.2 ⟨hk1, hk2⟩
              have HI2 := hid (HIC.out.pop HH.out HOKT.out)
              clear HIC
              go_wp2_with fail
              refine (c_targets HXd.out hkn hx80).mono ?_
              rintro r w4 ⟨a4, p4, rfl, hs4, hb4⟩
              obtain ⟨B1, hB1⟩ : ∃ B, B = wd.heap.size := ⟨_, rfl⟩
              obtain ⟨B2, hB2⟩ : ∃ B, B = w4.heap.size := ⟨_, rfl⟩
              have hB12 : B1 ≤ B2 := by rw [hB1, hB2]; exact hb4.size
              have hg1B : g1 < B1 := by rw [hB1]; exact hgd
              have HT4 := hid (hs4.keep (S' := fun b => B1 ≤ b ∧ b < B2) (w' := w4) fun b hb hl => ⟨⟨by rw [hB1]; exact hb.1, by rw [hB2]; exact hl⟩, rfl⟩)
              have HQ4 := hid (ownQ_mono (ownQ_below (ownQ_mono HQd.out (B2 := fun b => g1 < b ∧ b < B1) fun b h1 h2 => ⟨h1, by rw [hB1]; exact h2⟩) (Nat.le_refl _) hb4) (B2 := fun b => (g1 < b ∧ b < B1) ∨ B2 ≤ b) fun b h _ => .inl h)
              have HO4 := hid (own_below HOd.out (Nat.le_refl _) hb4)
              have HX4 := hid (HXd.out.below (Nat.le_refl _) hb4)
              have HB4 := hid (bel_next HBd.out HBd.out.size hb4)
              have hg4 := Nat.lt_of_lt_of_le hgd hb4.size
              have hB24 : B2 ≤ w4.heap.size := Nat.le_of_eq hB2
              obtain ⟨T, hT⟩ : ∃ T, targF code k = T := ⟨_, rfl⟩
              have hTl : T.length ≤ 2 := by rw [← hT]; exact targF_len code k
              have hTn : ∀ x ∈ T, (0 : Int) ≤ x := fun x hx => (targF_nonneg HV.out (by rw [hT]; exact hx)).1
              rw [hT] at HT4 HI2 ⊢
              have HT := hid hT
              have HTN := hid hTn
              clear hs4 hb4 hB1 hB2 hT hTn HXd HOd HQd HBd hgd hcz hfz
              go_wp2
              go_loopw [6, 73] (fun v i wq => ∃ (j : Nat) (o2' work' : List Int), i = .int .i64 j ∧ j ≤ T.length ∧ msrH o2' work' ≤ M ∧ Hid (HInv code o2' work' k (T.drop j)) ∧ Hid (o2'[k]? = some z') ∧ Hid (OwnQ wq (fun b => (g1 < b ∧ b < B1) ∨ B2 ≤ b) v work') ∧ Hid (OwnSl cInt (fun _ => False) wq w.heap.size 2 (.slice (some ⟨g1, 0, none⟩) code.length code.length) o2') ∧ Hid (SlRd cInt (fun b => B1 ≤ b ∧ b < B2) wq a4 p4 T) ∧ Hid (SlRd cInstr (fun b => S b ∧ b < w.heap.size) wq (some ⟨b, o2, none⟩) p code) ∧ Hid (Below w.heap.size w wq) ∧ g1 < wq.heap.size ∧ B2 ≤ wq.heap.size) (fun _ i _ => T.length - (intOf i).toNat)
              case atStart => exact ⟨0, _, _, rfl, Nat.zero_le _, Nat.le_of_eq HME.out, HI2, HH, HQ4, HO4, HT4, HX4, HB4, hg4, hB24⟩
              case round =>
                obtain ⟨j, o3, w3', rfl, hj, hms3, HI3, HH3, HQ3, HO3, HT3, HX3, HB3, hg3, hB3⟩ := hrel
                by_cases hjl : j < T.length
                · obtain ⟨ba, oa, rfl⟩ := HT3.out.some_of hjl
                  obtain ⟨t, ht, ht64', hct, hbt⟩ := HT3.out.int_at j hjl
                  have htm := List.mem_of_getElem? ht
                  have htT : t ∈ targF code k := by rw [HT.out]; exact htm
                  have hdr : T.drop j = t :: T.drop (j + 1) := by
                    rw [List.drop_eq_getElem_cons hjl]; congr 1
                    rw [List.getElem?_eq_getElem hjl] at ht; exact Option.some.inj ht
                  have HI4 : Hid (HInv code o3 w3' k (t :: T.drop (j + 1))) := by unfold Hid; rw [← hdr]; exact HI3.out
                  have ht0' := HTN.out t htm
                  have HTT := hid htT
                  have j0 : (0 : Int) ≤ (j : Int) := by omega
                  have j1 : (j : Int) < (T.length : Int) := by omega
                  have HO3L := hid HI3.out.len
                  clear ht htm htT hdr HI3
                  by_cases htn' : t < (code.length : Int)
                  · obtain ⟨q, rfl⟩ := Int.eq_ofNat_of_zero_le ht0'
                    have hqn : q < code.length := by omega
                    have HIX : Hid (inB (q : Int) 0 ((code.length : Int) - 1) = true) := inB_iff.2 (by omega)
                    have q0 : (0 : Int) ≤ (q : Int) := by omega
                    have q1 : (q : Int) < (code.length : Int) := by omega
                    obtain ⟨y, hy, hy64, hcy, hfy, _, _⟩ := own_at_int HO3.out HO3L.out q hqn
                    have HY := hid hy
                    clear hy
                    by_cases hyn : y < 0
                    · have y1 : decide (0 ≤ y) = false := decide_eq_false (by omega)
                      have y2 : decide (y < 0) = true := decide_eq_true hyn
                      have hnn := nxt_nonneg HOKT.out
                      have hn64 : I64 (z' - popsI op + pushI op) := ⟨by omega, by omega⟩
                      have hset := own_set_int HO3.out HO3L.out q hqn (z' - popsI op + pushI op) hn64
                      have HIN : Hid (HInv code (o3.set q (z' - popsI op + pushI op)) (w3' ++ [(q : Int)]) k (T.drop (j + 1))) := by
                        have h9 := HI4.out.put hkn HH3.out hh0 HOKT.out HTT.out (by omega) (by omega) (v := y) (by rw [Int.toNat_natCast]; exact HY.out) hyn
                        rw [Int.toNat_natCast, HNX.out] at h9; exact h9
                      have HMN : Hid (msrH (o3.set q (z' - popsI op + pushI op)) (w3' ++ [(q : Int)]) ≤ M) := by
                        have h9 := msrH_put (out := o3) (work := w3') (t := (q : Int)) (x := z' - popsI op + pushI op) (by rw [Int.toNat_natCast]; exact HY.out) hyn (by omega)
                        rw [Int.toNat_natCast] at h9; unfold Hid; omega
                      have HKK : Hid ((o3.set q (z' - popsI op + pushI op))[k]? = some z') := by
                        have hne : q ≠ k := fun e => by have h9 := HY.out; rw [e, HH3.out] at h9; cases h9; omega
                        unfold Hid; rw [List.getElem?_set_ne hne]; exact HH3.out
                      have HOS := hid (own_alloc hset.1 (.cells #[.int .i64 q] 2))
                      have HBS := hid ((HB3.out.setCell (p := ⟨g1, q, none⟩) hw0 (.int .i64 (z' - popsI op + pushI op))).alloc (by rw [size_set]; exact HB3.out.size) (.cells #[.int .i64 q] 2))
                      have HXS := hid ((HX3.out.set_ne (p := ⟨g1, q, none⟩) (fun b hb => by have h9 := hb.2; show b ≠ g1; omega) (.int .i64 (z' - popsI op + pushI op))).alloc (.cells #[.int .i64 q] 2))
                      have HTS := hid ((HT3.out.set_ne (p := ⟨g1, q, none⟩) (fun b hb => by have h9 := hb.1; show b ≠ g1; omega) (.int .i64 (z' - popsI op + pushI op))).alloc (.cells #[.int .i64 q] 2))
                      have HQS := hid (ownQ_below (ownQ_keep (w' := wr.setCell ⟨g1, q, none⟩ (.int .i64 (z' - popsI op + pushI op))) HQ3.out fun b hb _ => heap_setCell_ne _ _ _ (by show b ≠ g1; omega)) (Nat.le_refl _) ((Below.refl _ _).alloc (Nat.le_refl _) (.cells #[.int .i64 q] 2)))
                      have hs1 : (wr.setCell ⟨g1, q, none⟩ (.int .i64 (z' - popsI op + pushI op))).heap.size = wr.heap.size := size_set _ _ _
                      have HSZ := hid hs1
                      have hwl : w3'.length ≤ 161 := by have h9 := hms3; unfold msrH at h9; omega
                      have HLT : Hid (SlRd cInt (Fresh 0 ((wr.setCell ⟨g1, q, none⟩ (.int .i64 (z' - popsI op + pushI op))).alloc (.cells #[.int .i64 q] 2))) ((wr.setCell ⟨g1, q, none⟩ (.int .i64 (z' - popsI op + pushI op))).alloc (.cells #[.int .i64 q] 2)) (some ⟨wr.heap.size, 0, none⟩) 1 [(q : Int)]) := rd_one (by have h9 := heap_new (wr.setCell ⟨g1, q, none⟩ (.int .i64 (z' - popsI op + pushI op))) (.cells #[.int .i64 q] 2); rw [hs1] at h9; exact h9) (Nat.zero_le _) (by omega) (by omega) ht64'
                      clear hset hs1 hnn
                      go_wp2_with (first | (go_at_call 117; refine (c_isIndex _ _ _ hn6).mono ?_; rintro e w' ⟨rfl, rfl⟩; rw [HIX.out]) | (at_builtin; refine app_q (bs := [(q : Int)]) rfl (.tmp 93) (.tmp 95) _ rfl slI64 rfl rfl HQS.out HLT.out (by simp; omega) (fun b hb => .inr (by rw [World.size_alloc, HSZ.out] at hb; omega)) ?_; intro v5 w5 hQ5 hb5; have HQ5 := hid hQ5; have HO5 := hid (own_keep (w' := w5) HOS.out (fun _ h _ => h) fun b hl hs => hb5.block b hl (by rcases hs with hs | hs; exact hs.elim; have h7 : b = g1 := (Option.some.inj hs); omega)); have HX5 := hid (HXS.out.keep (w' := w5) fun b hb hl => ⟨hb, hb5.block b hl (by have := hb.2; omega)⟩); have HT5 := hid (HTS.out.keep (w' := w5) fun b hb hl => ⟨hb, hb5.block b hl (by have := hb.1; have := hb.2; omega)⟩); have HB5 := hid (HBS.out.trans (hb5.below (fun b h => by omega) (by rw [World.size_alloc, HSZ.out]; omega))); have hg5 : wr.heap.size < w5.heap.size := (by have h9 := hb5.size; rw [World.size_alloc, HSZ.out] at h9; omega); clear hQ5 hb5))
                      go_roundw
                      case rel => exact ⟨j + 1, _, _, by go_num, by omega, HMN.out, HIN, HKK, HQ5, HO5, HT5, HX5, HB5, by omega, by omega⟩
                      case measure => simp [intOf]; omega
                    · have y1 : decide (0 ≤ y) = true := decide_eq_true (by omega)
                      have y2 : decide (y < 0) = false := decide_eq_false hyn
                      by_cases hyx : y = z' - popsI op + pushI op
                      · have y3 : (y != z' - popsI op + pushI op) = false := by rw [hyx]; simp
                        have HIN : Hid (HInv code o3 w3' k (T.drop (j + 1))) := HI4.out.seen HH3.out hh0 (by omega) (by omega) (by rw [Int.toNat_natCast, HNX.out, ← hyx]; exact HY.out)
                        clear hyx
                        go_wp2_with (go_at_call 117; refine (c_isIndex _ _ _ hn6).mono ?_; rintro e w' ⟨rfl, rfl⟩; rw [HIX.out])
                        go_roundw
                        case rel => exact ⟨j + 1, _, _, by go_num, by omega, hms3, HIN, HH3, HQ3, HO3, HT3, HX3, HB3, hg3, hB3⟩
                        case measure => simp [intOf]; omega
                      · have y3 : (y != z' - popsI op + pushI op) = true := by simpa using hyx
                        have HBAD : Hid (heightsF code = ([], false)) := heights_no HVC.out (by omega) (bad_two HI4.out HH3.out hh0 hkn HOKT.out HTT.out (by omega) (v := y) (by rw [Int.toNat_natCast]; exact HY.out) (by omega) (by rw [HNX.out]; exact hyx))
                        clear hyx
                        go_wp2_with (go_at_call 117; refine (c_isIndex _ _ _ hn6).mono ?_; rintro e w' ⟨rfl, rfl⟩; rw [HIX.out])
                        go_ret2
                        rw [HBAD.out]
                        exact ⟨none, 0, rfl, nil_rd _ _ _, HB3.out⟩
                  · have HBAD : Hid (heightsF code = ([], false)) := heights_no HVC.out (by omega) (bad_to HI4.out HH3.out hh0 hkn HOKT.out HTT.out (by omega))
                    have HIX : Hid (inB t 0 ((code.length : Int) - 1) = false) := by
                      unfold Hid; cases h9 : inB t 0 ((code.length : Int) - 1) with
                      | false => rfl
                      | true => have := inB_iff.1 h9; omega
                    go_wp2_with (go_at_call 117; refine (c_isIndex _ _ _ hn6).mono ?_; rintro e w' ⟨rfl, rfl⟩; rw [HIX.out])
                    go_ret2
                    rw [HBAD.out]
                    exact ⟨none, 0, rfl, nil_rd _ _ _, HB3.out⟩
                · have HIN : Hid (HInv code o3 w3' k []) := by
                    have h9 := HI3.out
                    rw [List.drop_of_length_le (by omega)] at h9; exact h9
                  have HQN := hid (ownQ_mono HQ3.out (B2 := fun b => g1 < b) fun b h _ => by omega)
                  have e9 : decide ((j : Int) < (T.length : Int)) = false := decide_eq_false (by omega)
                  go_wp2
                  go_roundg (msrH o3 w3')
                  case measure => omega
                  case rel => exact ⟨_, _, k, Nat.le_refl _, by omega, HIN, HQN, HO3, HX3, HB3, hg3⟩
            · have HBAD : Hid (heightsF code = ([], false)) := heights_no HVC.out (by omega) (bad_of HIC.out HH.out hh0 hkn fun ho => hok (HOK.out.1 ho))
              by_cases hk1 : z' - popsI op < 0
              · have d1 : decide (z' - popsI op < 0) = true := decide_eq_true hk1
                go_wp2
                go_ret2
                rw [HBAD.out]
                exact ⟨none, 0, rfl, nil_rd _ _ _, HBd.out⟩
              · have d1 : decide (z' - popsI op < 0) = false := decide_eq_false hk1
                have d2 : decide (6 < z' - popsI op + pushI op) = true := decide_eq_true (by omega)
                go_wp2
                go_ret2
                rw [HBAD.out]
                exact ⟨none, 0, rfl, nil_rd _ _ _, HBd.out⟩
end Go.Proofs.Ytedmhdinfedhhaa
