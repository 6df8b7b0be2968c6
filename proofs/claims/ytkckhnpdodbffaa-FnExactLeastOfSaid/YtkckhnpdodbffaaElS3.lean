/- Contracts: a stage of the elimination, the reference's side. -/
import Derived.Test.YtkckhnpdodbffaaElS2
namespace Go.Proofs.Ytkckhnpdodbffaa
open Go.RowKit

/-- What a combination leaves, whenever its box was made. -/
structure MixW (wr W : World) (bx : Nat) (R : Row) (x5 : Option Addr) (c5 : Nat) (x6 : Option Addr) (c6 : Nat) : Prop where
  below : Below wr.heap.size wr W
  c0 : W.cell? ⟨bx, 0, none⟩ = some (.int .i64 R.1)
  c1 : W.cell? ⟨bx, 1, none⟩ = some (.slice x5 R.2.1.length c5)
  c2 : W.cell? ⟨bx, 2, none⟩ = some (.slice x6 R.2.2.length c6)
  h1 : SlRd cInt (fun b => wr.heap.size ≤ b ∧ b < W.heap.size) W x5 c5 R.2.1
  h2 : SlRd cInt (fun b => wr.heap.size ≤ b ∧ b < W.heap.size) W x6 c6 R.2.2
theorem MixW.first {wr w5 : World} {R : Row} {x5 x6 : Option Addr} {c5 c6 : Nat} (e : TypeId) (hb : Below wr.heap.size wr w5) (h1 : SlRd cInt (fun b => wr.heap.size ≤ b ∧ b < w5.heap.size) w5 x5 c5 R.2.1) (h2 : SlRd cInt (fun b => wr.heap.size ≤ b ∧ b < w5.heap.size) w5 x6 c6 R.2.2) :
    MixW wr (w5.alloc (.cells #[.int .i64 R.1, .slice x5 R.2.1.length c5, .slice x6 R.2.2.length c6] e)) w5.heap.size R x5 c5 x6 c6 :=
  ⟨hb.alloc hb.size _, by rw [World.cell?_alloc_at _ _ _ _ rfl]; rfl, by rw [World.cell?_alloc_at _ _ _ _ rfl]; rfl, by rw [World.cell?_alloc_at _ _ _ _ rfl]; rfl,
    h1.keep fun b hb hl => ⟨⟨hb.1, by rw [World.size_alloc]; omega⟩, ((Below.refl w5.heap.size w5).alloc (Nat.le_refl _) _).block b hl⟩, h2.keep fun b hb hl => ⟨⟨hb.1, by rw [World.size_alloc]; omega⟩, ((Below.refl w5.heap.size w5).alloc (Nat.le_refl _) _).block b hl⟩⟩
theorem MixW.last {wr wa w5 : World} {R : Row} {x5 x6 : Option Addr} {c5 c6 : Nat} {e : TypeId} {u0 u1 u2 : Value} (ha : Below wr.heap.size wr wa) (hz : wa.heap.size = wr.heap.size + 1) (hk : wa.heap[wr.heap.size]? = some (.cells #[u0, u1, u2] e (0, 0))) (hb : Below wa.heap.size wa w5) (h1 : SlRd cInt (fun b => wa.heap.size ≤ b ∧ b < w5.heap.size) w5 x5 c5 R.2.1) (h2 : SlRd cInt (fun b => wa.heap.size ≤ b ∧ b < w5.heap.size) w5 x6 c6 R.2.2) :
    MixW wr (((w5.setCell ⟨wr.heap.size, 0, none⟩ (.int .i64 R.1)).setCell ⟨wr.heap.size, 1, none⟩ (.slice x5 R.2.1.length c5)).setCell ⟨wr.heap.size, 2, none⟩ (.slice x6 R.2.2.length c6)) wr.heap.size R x5 c5 x6 c6 := by
  have hbk := (hb.block wr.heap.size (by omega)).trans hk
  have hb4 := blk_set (blk_set (blk_set hbk 0 (.int .i64 R.1)) 1 (.slice x5 R.2.1.length c5)) 2 (.slice x6 R.2.2.length c6)
  have hs : (((w5.setCell ⟨wr.heap.size, 0, none⟩ (.int .i64 R.1)).setCell ⟨wr.heap.size, 1, none⟩ (.slice x5 R.2.1.length c5)).setCell ⟨wr.heap.size, 2, none⟩ (.slice x6 R.2.2.length c6)).heap.size = w5.heap.size := by rw [size_set, size_set, size_set]
  have hne : ∀ b, wa.heap.size ≤ b → (((w5.setCell ⟨wr.heap.size, 0, none⟩ (.int .i64 R.1)).setCell ⟨wr.heap.size, 1, none⟩ (.slice x5 R.2.1.length c5)).setCell ⟨wr.heap.size, 2, none⟩ (.slice x6 R.2.2.length c6)).heap[b]? = w5.heap[b]? := fun b hb => by
    rw [heap_setCell_ne _ _ _ (by show b ≠ wr.heap.size; omega), heap_setCell_ne _ _ _ (by show b ≠ wr.heap.size; omega), heap_setCell_ne _ _ _ (by show b ≠ wr.heap.size; omega)]
  exact ⟨(((ha.trans (hb.mono (by omega))).setCell (Nat.le_refl _) _).setCell (Nat.le_refl _) _).setCell (Nat.le_refl _) _, cell_of hb4 (j := 0) rfl, cell_of hb4 (j := 1) rfl, cell_of hb4 (j := 2) rfl,
    h1.keep fun b hb hl => ⟨⟨by have := hb.1; omega, by rw [hs]; exact hl⟩, hne b hb.1⟩, h2.keep fun b hb hl => ⟨⟨by have := hb.1; omega, by rw [hs]; exact hl⟩, hne b hb.1⟩⟩
theorem OwnSl.form {α : Type} {C : Codec α} {T : Nat → Prop} {w : World} {B n cap : Nat} {e : TypeId} {a : Option Addr} {xs : List α} (h : OwnSl C T w B e (.slice a n cap) xs) : (a = none ∧ cap = 0) ∨ ∃ g, a = some ⟨g, 0, none⟩ := by
  obtain ⟨ys, hr, _⟩ := h
  rcases hr.2 with ⟨h1, h2⟩ | ⟨g, cap', cur, h1, _⟩
  · injection h1 with h3 _ h4
    exact .inl ⟨h3, h4⟩
  · injection h1 with h3
    exact .inr ⟨g, h3⟩
/-- What a stage hands back. -/
def stageRes (S : Nat → Prop) (k : Nat) (rows : List Row) (w : World) (e : Ending) (w' : World) : Prop := Below w.heap.size w w' ∧ match stageF k rows with
  | none => e = .returned (.tuple #[.slice none 0 0, .int .i64 0, .bool false])
  | some rs => ∃ a p, ((a = none ∧ p = 0) ∨ ∃ g, a = some ⟨g, 0, none⟩) ∧ e = .returned (.tuple #[.slice a rs.length p, .int .i64 (zeroRs k rows).length, .bool true]) ∧ SlRd cRow (fun b => S b ∨ (w.heap.size ≤ b ∧ b < w'.heap.size)) w' a p (rs.map rowS)
set_option maxHeartbeats 4000000 in
set_option maxRecDepth 100000 in
theorem c_l06Stage {S : Nat → Prop} {a : Option Addr} {p k n : Nat} {rows : List Row} {w : World} (h : SlRd cRow S w a p (rows.map rowS)) (hro : RowsOk n rows) (hrl : rows.length ≤ 60) (hk : k < 10) (hn : n ≤ 14) :
    Calls Try.prog 32 #[.slice a rows.length p, .int .i64 k] w (stageRes S k rows w) := by
  have H := hid (h.keep (S' := fun b => S b ∧ b < w.heap.size) (w' := w) fun b hs hl => ⟨⟨hs, hl⟩, rfl⟩)
  have HRO := hid hro
  clear h hro
  go_enter Try.func32, Try.ntmps32
  go_wp2
  go_loopw [7, 8] (fun v i wr => ∃ j : Nat, j ≤ rows.length ∧ i = .int .i64 j ∧ Hid (Rows3 cRow (fun b => S b ∧ b < w.heap.size) wr w.heap.size 64 (.slice none 0 0) v (.slice none 0 0) [] ((zeroRs k (rows.take j)).map rowS) []) ∧ Hid (Below w.heap.size w wr)) (fun _ i _ => rows.length - (intOf i).toNat)
  case atStart => exact ⟨0, Nat.zero_le _, rfl, Rows3.made cRow _ w _ (fun _ h => h.2), (Below.refl _ _).alloc (Nat.le_refl _) _⟩
  case round =>
    obtain ⟨j, hj, rfl, HR, HBR⟩ := hrel
    by_cases hlt : j < rows.length
    · obtain ⟨b0, o0, rfl⟩ := H.out.some_of (k := j) (by simpa using hlt)
      obtain ⟨r, a1, p1, am, pm, hr, hr1, HRS⟩ := (H.out.below (Nat.le_refl _) HBR.out).rowS_at j hlt
      have HZT := hid (zeros_take (k := k) hr)
      have hrk := HRO.out r (List.mem_of_getElem? hr)
      obtain ⟨b1, o1, rfl⟩ := HRS.h1.some_of (k := k) (by rw [hrk.len]; exact hk)
      obtain ⟨z, hz, _, hzc, hzb⟩ := HRS.h1.int_at k (by rw [hrk.len]; exact hk)
      have hzv : cfR r k = z := by unfold cfR; rw [List.getD_eq_getElem?_getD, hz]; rfl
      rw [hzv] at HZT
      have t0 := HRS.c0
      have t1 := HRS.c1
      have t2 := HRS.c2
      have hb0 := HRS.lt
      have HRD := hid (rd_row hr1 HRS.h1 HRS.h2)
      have j0 : (0 : Int) ≤ (j : Int) := by omega
      have j1 : (j : Int) < (rows.length : Int) := by omega
      have k0 : (0 : Int) ≤ (k : Int) := by omega
      have k1 : (k : Int) < (r.2.1.length : Int) := by rw [hrk.len]; omega
      have hzl : ((zeroRs k (rows.take j)).map rowS).length ≤ 60 := by rw [List.length_map]; exact Nat.le_trans (List.length_filter_le _ _) (by rw [List.length_take]; omega)
      clear hr hz hrk HRS
      by_cases hz0 : z = 0
      · subst hz0
        have HZU : Hid ((zeroRs k (rows.take (j + 1))).map rowS = (zeroRs k (rows.take j)).map rowS ++ [((r.1, r.2.1), r.2.2)]) := by unfold Hid; rw [HZT.out, List.map_append]; rfl
        clear HZT hzv
        go_wp2_with (at_builtin; go_loud (refine app_rows rfl (.tmp 30) (.tmp 35) _ rfl slRowS rfl rfl rfl HR.out ((r.1, r.2.1), r.2.2) HRD.out (by omega) HBR.out.size ?_); intro v3 w3 hr3 hb3 hk3; rw [← HZU.out] at hr3; have HR4 := hid hr3; have HB4 := hid (HBR.out.trans hb3); clear hr3 hb3 hk3)
        go_roundw
        case rel => exact ⟨j + 1, by omega, by go_num, HR4, HB4⟩
        case measure => simp [intOf]; omega
      · have e0 : (z == 0) = false := by simpa using hz0
        have HZU : Hid ((zeroRs k (rows.take (j + 1))).map rowS = (zeroRs k (rows.take j)).map rowS) := by unfold Hid; rw [HZT.out, e0]; simp
        clear hz0 HZT hzv
        go_wp2
        go_roundw
        case rel => exact ⟨j + 1, by omega, by go_num, by rw [HZU.out]; exact HR, HBR⟩
        case measure => simp [intOf]; omega
    · have hjl : j = rows.length := by omega
      have hr9 := HR.out
      rw [List.take_of_length_le (by omega)] at hr9
      obtain ⟨av, pv, hv7⟩ := hr9.turn.len
      rw [List.length_map] at hv7
      subst hv7
      have HRS := hid hr9
      have HG0 : Hid (goP k rows (rows.drop 0) (zeroRs k rows) = stageF k rows) := rfl
      have HO0 := hid (zero_ok (k := k) HRO.out)
      have hz60 : (zeroRs k rows).length ≤ 60 := Nat.le_trans (List.length_filter_le _ _) hrl
      obtain ⟨kp, hkp⟩ : ∃ x, (zeroRs k rows).length = x := ⟨_, rfl⟩
      have HKP := hid hkp
      rw [hkp] at HRS ⊢
      clear hr9 HR hjl hkp
      go_wp2
      clear hlt
      obtain ⟨wo, rfl⟩ : ∃ x : World, x = wr := ⟨_, rfl⟩
      generalize decide (j < rows.length) = q18
      go_loopw [7, 10] (fun v i wr => ∃ (j : Nat) (out : List Row) (T : Nat → Prop), j ≤ rows.length ∧ i = .int .i64 j ∧ out.length ≤ 60 ∧ Hid (goP k rows (rows.drop j) out = stageF k rows) ∧ Hid (RowsOk n out) ∧ Hid (∀ b, T b → (S b ∧ b < w.heap.size) ∨ w.heap.size ≤ b) ∧ Hid (Rows3 cRow T wr w.heap.size 64 (.slice none 0 0) v (.slice none 0 0) [] (out.map rowS) []) ∧ Hid (Below w.heap.size w wr)) (fun _ i _ => rows.length - (intOf i).toNat)
      case atStart => exact ⟨0, _, _, Nat.zero_le _, rfl, hz60, HG0, HO0, fun b h => .inl h, HRS, HBR⟩
      case round =>
        clear HRS HG0 HO0 hz60 HBR
        obtain ⟨j, out, T, hj, rfl, hol, HG, HO, HT, HR, HBR⟩ := hrel
        by_cases hlt : j < rows.length
        · obtain ⟨b0, o0, rfl⟩ := H.out.some_of (k := j) (by simpa using hlt)
          obtain ⟨P, a1, p1, am, pm, hr, hr1, HPS⟩ := H.out.rowS_at j hlt
          have HPS := hid HPS
          have hrk := HRO.out P (List.mem_of_getElem? hr)
          obtain ⟨b1, o1, rfl⟩ := HPS.out.h1.some_of (k := k) (by rw [hrk.len]; exact hk)
          obtain ⟨zp, hz, _, hzc, hzb⟩ := HPS.out.h1.int_at k (by rw [hrk.len]; exact hk)
          have hzp : cfR P k = zp := by unfold cfR; rw [List.getD_eq_getElem?_getD, hz]; rfl
          have HPO := hid hrk
          have HGQ : Hid ((goQ k P (rows.drop 0) out).bind (goP k rows (rows.drop (j + 1))) = stageF k rows) := by
            have h9 := HG.out
            rw [List.drop_eq_getElem_cons hlt] at h9
            rw [List.getElem?_eq_getElem hlt] at hr
            cases hr
            exact h9
          have j0 : (0 : Int) ≤ (j : Int) := by omega
          have j1 : (j : Int) < (rows.length : Int) := by omega
          have k0 : (0 : Int) ≤ (k : Int) := by omega
          have k1 : (k : Int) < (P.2.1.length : Int) := by rw [hrk.len]; omega
          have tp1 := HPS.out.c1
          have tpl := HPS.out.lt
          have hj' : j < rows.length := hlt
          clear hr hz hrk HG
          go_wp2
          generalize decide (j < rows.length) = q42
          obtain ⟨wo2, rfl⟩ : ∃ x : World, x = wr := ⟨_, rfl⟩
          go_loopw [7, 11] (fun v i wr => ∃ (i' : Nat) (out : List Row) (T : Nat → Prop), i' ≤ rows.length ∧ i = .int .i64 i' ∧ out.length ≤ 60 ∧ Hid ((goQ k P (rows.drop i') out).bind (goP k rows (rows.drop (j + 1))) = stageF k rows) ∧ Hid (RowsOk n out) ∧ Hid (∀ b, T b → (S b ∧ b < w.heap.size) ∨ w.heap.size ≤ b) ∧ Hid (Rows3 cRow T wr w.heap.size 64 (.slice none 0 0) v (.slice none 0 0) [] (out.map rowS) []) ∧ Hid (Below w.heap.size w wr)) (fun _ i _ => rows.length - (intOf i).toNat)
          case atStart => exact ⟨0, out, T, Nat.zero_le _, rfl, hol, HGQ, HO, HT, HR, HBR⟩
          case round =>
            clear HGQ HO HR HBR hol HT
            obtain ⟨i', out, T, hi', rfl, hol, HG, HO, HT, HR, HBR⟩ := hrel
            have hwr := HBR.out.size
            by_cases hlt5 : i' < rows.length
            · obtain ⟨Q, c1, q1, cm, qm, hr, hr1', HQS⟩ := H.out.rowS_at i' hlt5
              have HQS := hid HQS
              have hrk := HRO.out Q (List.mem_of_getElem? hr)
              obtain ⟨d1, u1, rfl⟩ := HQS.out.h1.some_of (k := k) (by rw [hrk.len]; exact hk)
              obtain ⟨zq, hz, _, hyc, hyb⟩ := HQS.out.h1.int_at k (by rw [hrk.len]; exact hk)
              have hzq : cfR Q k = zq := by unfold cfR; rw [List.getD_eq_getElem?_getD, hz]; rfl
              have HQO := hid hrk
              have HGN : Hid ((goQ k P (Q :: rows.drop (i' + 1)) out).bind (goP k rows (rows.drop (j + 1))) = stageF k rows) := by
                have h9 := HG.out
                rw [List.drop_eq_getElem_cons hlt5] at h9
                rw [List.getElem?_eq_getElem hlt5] at hr
                cases hr
                exact h9
              have x1 := cell_below HBR.out tpl tp1
              have xz := cell_below HBR.out hzb hzc
              have y1 := cell_below HBR.out HQS.out.lt HQS.out.c1
              have yz := cell_below HBR.out hyb hyc
              have i0 : (0 : Int) ≤ (i' : Int) := by omega
              have i1 : (i' : Int) < (rows.length : Int) := by omega
              have k2 : (k : Int) < (Q.2.1.length : Int) := by rw [hrk.len]; omega
              clear hr hz hrk HG
              by_cases hp0 : 0 < zp
              · by_cases hq0 : zq < 0
                · have hpb : pairB P Q k = true := by simp [pairB, hzp, hzq, hp0, hq0]
                  have HCC := hid (fun (w' : World) (hb' : Below w.heap.size w w') => c_l06Mix (HPS.out.below hb') (HQS.out.below hb') HPO.out HQO.out hpb hk hn)
                  have HBD : Hid (Below w.heap.size w wr.drew) := HBR.out.drew
                  have HBZw : Hid (Below wr.heap.size wr (wr.alloc (.cells #[.int .i64 0, .slice none 0 0, .slice none 0 0] 64)).drew) := ((Below.refl _ _).alloc (Nat.le_refl _) _).drew
                  have HZS : Hid ((wr.alloc (.cells #[.int .i64 0, .slice none 0 0, .slice none 0 0] 64)).drew.heap.size = wr.heap.size + 1) := World.size_alloc _ _
                  have HZK : Hid ((wr.alloc (.cells #[.int .i64 0, .slice none 0 0, .slice none 0 0] 64)).drew.heap[wr.heap.size]? = some (.cells #[.int .i64 0, .slice none 0 0, .slice none 0 0] 64 (0, 0))) := heap_new wr _
                  have HBZ := hid (bel_next HBR.out hwr HBZw.out)
                  have hmo : fineB (mixF P Q k) = true → RowOk n (mixF P Q k) := mix_ok HPO.out HQO.out hpb
                  have hgn := HGN.out
                  unfold goQ at hgn
                  rw [if_pos hpb] at hgn
                  obtain ⟨R, hR⟩ : ∃ x, mixF P Q k = x := ⟨_, rfl⟩
                  rw [hR] at HCC hmo hgn
                  clear hR HGN hpb
                  cases hfb : fineB R with
                  | false =>
                    have HALL : Hid (stageF k rows = none) := by
                      unfold Hid
                      rw [← hgn, hfb]; rfl
                    rw [hfb] at HCC
                    clear hgn hfb hmo
                    go_wp2
                    go_region_held3 (fun _ => True) (exact trivial) (first | (go_at_call 47; refine (HCC.out _ HBD.out).mono ?_; rintro e w5 ⟨x5, c5, x6, c6, rfl, hl1, hl2, hb5⟩; have HMW := hid (MixW.first (wr := wr) 64 ((below_drewN _ wr 1).trans hb5) hl1 hl2); clear hl1 hl2 hb5) | (go_at_call 47; refine (HCC.out _ HBZ.out).mono ?_; rintro e w5 ⟨x5, c5, x6, c6, rfl, hl1, hl2, hb5⟩; have hbk1 := (hb5.block wr.heap.size (by rw [HZS.out]; omega)).trans HZK.out; have r0 := cell_of hbk1 (j := 0) rfl; have r1 := cell_of hbk1 (j := 1) rfl; have r2 := cell_of hbk1 (j := 2) rfl; have f0 := frz_of hbk1 0; have f1 := frz_of hbk1 1; have f2 := frz_of hbk1 2; have HMW := hid (MixW.last (wr := wr) HBZw.out HZS.out HZK.out hb5 hl1 hl2); clear hl1 hl2 hb5 hbk1))
                    all_goals
                      first | (clear r0 r1 r2 f0 f1 f2; generalize (((w5.setCell ⟨wr.heap.size, 0, none⟩ (.int .i64 R.1)).setCell ⟨wr.heap.size, 1, none⟩ (.slice x5 R.2.1.length c5)).setCell ⟨wr.heap.size, 2, none⟩ (.slice x6 R.2.2.length c6)) = W9 at *) | (generalize (w5.alloc (.cells #[.int .i64 R.1, .slice x5 R.2.1.length c5, .slice x6 R.2.2.length c6] 64)) = W9 at *)
                      have HB6 : Hid (Below w.heap.size w W9) := bel_next HBR.out HBR.out.size HMW.out.below
                      go_wp2
                      refine bodyPost_ret (v := .tuple #[.slice none 0 0, .int .i64 0, .bool false]) (by simp [results, Try.results32, go_sem]) rfl ?_
                      unfold stageRes
                      rw [HALL.out]
                      exact ⟨HB6.out, rfl⟩
                  | true =>
                    have HRK := hid (hmo hfb)
                    have hRi : I64 R.1 := by have := HRK.out.c; unfold sm at this; exact ⟨by omega, by omega⟩
                    rw [hfb] at HCC hgn
                    obtain ⟨av, pv, hv14⟩ := HR.out.turn.len
                    rw [List.length_map] at hv14
                    by_cases h60 : out.length = 60
                    · have HALL : Hid (stageF k rows = none) := by
                        unfold Hid
                        rw [← hgn, h60]; rfl
                      rw [h60] at hv14
                      subst hv14
                      clear hgn hfb hmo
                      go_wp2
                      go_region_held3 (fun _ => True) (exact trivial) (first | (go_at_call 47; refine (HCC.out _ HBD.out).mono ?_; rintro e w5 ⟨x5, c5, x6, c6, rfl, hl1, hl2, hb5⟩; have HMW := hid (MixW.first (wr := wr) 64 ((below_drewN _ wr 1).trans hb5) hl1 hl2); clear hl1 hl2 hb5) | (go_at_call 47; refine (HCC.out _ HBZ.out).mono ?_; rintro e w5 ⟨x5, c5, x6, c6, rfl, hl1, hl2, hb5⟩; have hbk1 := (hb5.block wr.heap.size (by rw [HZS.out]; omega)).trans HZK.out; have r0 := cell_of hbk1 (j := 0) rfl; have r1 := cell_of hbk1 (j := 1) rfl; have r2 := cell_of hbk1 (j := 2) rfl; have f0 := frz_of hbk1 0; have f1 := frz_of hbk1 1; have f2 := frz_of hbk1 2; have HMW := hid (MixW.last (wr := wr) HBZw.out HZS.out HZK.out hb5 hl1 hl2); clear hl1 hl2 hb5 hbk1))
                      all_goals
                        first | (clear r0 r1 r2 f0 f1 f2; generalize (((w5.setCell ⟨wr.heap.size, 0, none⟩ (.int .i64 R.1)).setCell ⟨wr.heap.size, 1, none⟩ (.slice x5 R.2.1.length c5)).setCell ⟨wr.heap.size, 2, none⟩ (.slice x6 R.2.2.length c6)) = W9 at *) | (generalize (w5.alloc (.cells #[.int .i64 R.1, .slice x5 R.2.1.length c5, .slice x6 R.2.2.length c6] 64)) = W9 at *)
                        have HB6 : Hid (Below w.heap.size w W9) := bel_next HBR.out HBR.out.size HMW.out.below
                        go_wp2
                        refine bodyPost_ret (v := .tuple #[.slice none 0 0, .int .i64 0, .bool false]) (by simp [results, Try.results32, go_sem]) rfl ?_
                        unfold stageRes
                        rw [HALL.out]
                        exact ⟨HB6.out, rfl⟩
                    · have hgn2 : (goQ k P (rows.drop (i' + 1)) (out ++ [R])).bind (goP k rows (rows.drop (j + 1))) = stageF k rows := by
                        rw [if_pos (by simpa using h60)] at hgn
                        exact hgn
                      have HNX := hid hgn2
                      have HO2 : Hid (RowsOk n (out ++ [R])) := fun r hr => by
                        rcases List.mem_append.1 hr with hr | hr
                        · exact HO.out r hr
                        · simp at hr; subst hr; exact HRK.out
                      have hol2 : (out ++ [R]).length ≤ 60 := by simp; omega
                      have h60' : ¬ ((out.length : Int) = 60) := by omega
                      have e60 : ((out.length : Int) == 60) = false := by simpa using h60'
                      subst hv14
                      clear hgn hgn2 hfb hmo
                      go_wp2
                      go_region_held3 (fun _ => True) (exact trivial) (first | (go_at_call 47; refine (HCC.out _ HBD.out).mono ?_; rintro e w5 ⟨x5, c5, x6, c6, rfl, hl1, hl2, hb5⟩; have HMW := hid (MixW.first (wr := wr) 64 ((below_drewN _ wr 1).trans hb5) hl1 hl2); clear hl1 hl2 hb5) | (go_at_call 47; refine (HCC.out _ HBZ.out).mono ?_; rintro e w5 ⟨x5, c5, x6, c6, rfl, hl1, hl2, hb5⟩; have hbk1 := (hb5.block wr.heap.size (by rw [HZS.out]; omega)).trans HZK.out; have r0 := cell_of hbk1 (j := 0) rfl; have r1 := cell_of hbk1 (j := 1) rfl; have r2 := cell_of hbk1 (j := 2) rfl; have f0 := frz_of hbk1 0; have f1 := frz_of hbk1 1; have f2 := frz_of hbk1 2; have HMW := hid (MixW.last (wr := wr) HBZw.out HZS.out HZK.out hb5 hl1 hl2); clear hl1 hl2 hb5 hbk1))
                      all_goals
                        first | (clear r0 r1 r2 f0 f1 f2; generalize (((w5.setCell ⟨wr.heap.size, 0, none⟩ (.int .i64 R.1)).setCell ⟨wr.heap.size, 1, none⟩ (.slice x5 R.2.1.length c5)).setCell ⟨wr.heap.size, 2, none⟩ (.slice x6 R.2.2.length c6)) = W9 at *) | (generalize (w5.alloc (.cells #[.int .i64 R.1, .slice x5 R.2.1.length c5, .slice x6 R.2.2.length c6] 64)) = W9 at *)
                        have HB6 : Hid (Below w.heap.size w W9) := bel_next HBR.out HBR.out.size HMW.out.below
                        have HB6y : Hid (Below wr.heap.size wr W9) := HMW.out.below
                        have HR6 := hid (HR.out.more HB6y.out (F := fun b => wr.heap.size ≤ b ∧ b < W9.heap.size) fun b hb => hb)
                        have HRD := hid (rd_row (T := fun b => T b ∨ wr.heap.size ≤ b ∧ b < W9.heap.size) (w := W9) hRi (HMW.out.h1.keep fun b hb _ => ⟨.inr hb, rfl⟩) (HMW.out.h2.keep fun b hb _ => ⟨.inr hb, rfl⟩))
                        have s0 := HMW.out.c0
                        have s1 := HMW.out.c1
                        have s2 := HMW.out.c2
                        have HT2 : Hid (∀ b, (T b ∨ wr.heap.size ≤ b ∧ b < W9.heap.size) → (S b ∧ b < w.heap.size) ∨ w.heap.size ≤ b) := fun b hb => hb.elim (HT.out b) fun h => .inr (Nat.le_trans hwr h.1)
                        go_wp2_with (at_builtin; go_loud (refine app_rows rfl (.tmp 89) (.tmp 91) _ rfl slRowS rfl rfl rfl HR6.out ((R.1, R.2.1), R.2.2) HRD.out (by rw [List.length_map]; omega) HB6.out.size ?_); intro v7 w7 hr7 hb7 hk7; rw [show out.map rowS ++ [((R.1, R.2.1), R.2.2)] = (out ++ [R]).map rowS by rw [List.map_append]; rfl] at hr7; have HR7 := hid hr7; have HB7 := hid (HB6.out.trans hb7); clear hr7 hb7 hk7 s0 s1 s2)
                        go_roundw
                        case rel => exact ⟨i' + 1, out ++ [R], _, by omega, by go_num, hol2, HNX, HO2, HT2, HR7, HB7⟩
                        case measure => simp [intOf]; omega
                · have HNX : Hid ((goQ k P (rows.drop (i' + 1)) out).bind (goP k rows (rows.drop (j + 1))) = stageF k rows) := by
                    have h9 := HGN.out
                    unfold goQ at h9
                    rw [if_neg (by simp [pairB, hzq, hq0])] at h9
                    exact h9
                  clear HGN
                  go_wp2
                  go_roundw
                  case rel => exact ⟨i' + 1, out, T, by omega, by go_num, hol, HNX, HO, HT, HR, HBR⟩
                  case measure => simp [intOf]; omega
              · have HNX : Hid ((goQ k P (rows.drop (i' + 1)) out).bind (goP k rows (rows.drop (j + 1))) = stageF k rows) := by
                  have h9 := HGN.out
                  unfold goQ at h9
                  rw [if_neg (by simp [pairB, hzp, hp0])] at h9
                  exact h9
                clear HGN
                go_wp2
                go_roundw
                case rel => exact ⟨i' + 1, out, T, by omega, by go_num, hol, HNX, HO, HT, HR, HBR⟩
                case measure => simp [intOf]; omega
            · have hjl : i' = rows.length := by omega
              have h9 := HG.out
              rw [hjl, List.drop_length] at h9
              have HGX : Hid (goP k rows (rows.drop (j + 1)) out = stageF k rows) := h9
              clear h9 HG hjl
              go_wp2
              go_roundw
              case rel => exact ⟨j + 1, out, T, by omega, by go_num, hol, HGX, HO, HT, HR, HBR⟩
              case measure => simp [intOf]; omega
        · have hjl : j = rows.length := by omega
          have h9 := HG.out
          rw [hjl, List.drop_length] at h9
          have HGX : Hid (some out = stageF k rows) := h9
          obtain ⟨av, pv, hsv, hsl⟩ := HR.out.turn.sliceT
          rw [List.length_map] at hsv
          subst hsv
          have HSL := hid hsl
          have HFO := hid HR.out.hn.form
          clear h9 HG hjl hsl
          go_wp2
          refine bodyPost_ret (v := .tuple #[.slice av out.length pv, .int .i64 kp, .bool true]) (by simp [results, Try.results32, go_sem]) rfl ?_
          unfold stageRes
          rw [← HGX.out, HKP.out]
          exact ⟨HBR.out, av, pv, HFO.out, rfl, HSL.out.keep fun b hb hl => ⟨by
            rcases hb with hb | hb
            · rcases HT.out b hb with h9 | h9
              · exact .inl h9.1
              · exact .inr ⟨h9, hl⟩
            · exact .inr hb, rfl⟩⟩
end Go.Proofs.Ytkckhnpdodbffaa
