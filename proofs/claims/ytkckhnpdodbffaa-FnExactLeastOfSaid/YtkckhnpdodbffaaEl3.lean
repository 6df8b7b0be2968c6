/- Contracts: the stages of the elimination, the program's side. -/
import Derived.Test.YtkckhnpdodbffaaEl2
import Derived.Test.YtkckhnpdodbffaaEl3p
namespace Go.Proofs.Ytkckhnpdodbffaa
open Go.RowKit

def natsF (n : Nat) : List Int := (List.range n).map Int.ofNat
theorem natsF_succ (n : Nat) : natsF (n + 1) = natsF n ++ [(n : Int)] := by unfold natsF; rw [List.range_succ, List.map_append]; rfl
theorem natsF_len (n : Nat) : (natsF n).length = n := by simp [natsF]
theorem slInt : SlT Try.prog 49 3 (.int .i64 0) 1 8 := ⟨Try.underlying49, by kernel_rfl, rfl, by decide, by decide⟩
set_option maxRecDepth 100000 in
theorem c_allSymbols (n : Nat) (hn : n ≤ 10) (w : World) : Calls Try.prog 24 #[.int .i64 n] w (RetSl cInt (natsF n) w) := by
  go_enter Try.func24, Try.ntmps24
  go_wp2
  go_loopw [3, 6] (fun v i wr => ∃ k : Nat, k ≤ n ∧ i = .int .i64 k ∧ Hid (OwnSl cInt (fun _ => False) wr w.heap.size 3 v (natsF k)) ∧ Hid (Below w.heap.size w wr)) (fun _ i _ => n - (intOf i).toNat)
  case atStart => exact ⟨0, Nat.zero_le _, rfl, own_nil _ _ _ _ _, Below.refl _ _⟩
  case round =>
    obtain ⟨k, hk, rfl, HO, HBR⟩ := hrel
    by_cases hlt : k < n
    · have i1 : (k : Int) < (n : Int) := by omega
      have hl9 : (natsF k).length ≤ 10 := by rw [natsF_len]; omega
      go_wp2_with (at_builtin; refine app_own (C := cInt) rfl (.tmp 9) (.tmp 11) _ rfl slInt rfl rfl HO.out no_blk (k : Int) (rd_int ⟨by omega, by omega⟩) (by omega) HBR.out.size ?_; intro v3 w3 hO3 hb3; rw [← natsF_succ] at hO3; have HO3 := hid hO3; have HB3 := hid (HBR.out.trans hb3); clear hO3 hb3)
      go_roundw
      case rel => exact ⟨k + 1, by omega, by go_num, HO3, HB3⟩
      case measure => simp [intOf]; omega
    · have hk2 : k = n := by omega
      subst hk2
      go_wp2
      refine bodyPost_ret (v := u3) (by simp [results, Try.results24, go_sem]) rfl ?_
      exact retSl_own HO.out (fun _ h => h.elim) HBR.out
theorem c_coeffR {S : Nat → Prop} (r : Row) (a : Option Addr) (p : Nat) (k : Nat) (w : World) (h : SlRd cInt S w a p (trimL r.2.1)) :
    Calls Try.prog 37 #[.agg #[.int .i64 r.1, .slice a (trimL r.2.1).length p], .int .i64 k] w fun e w' => e = .returned (.int .i64 (cfR r k)) ∧ Below w.heap.size w w' :=
  (c_coeff r.1 a p (trimL r.2.1) k w h).mono fun e w' ⟨h1, h2⟩ => ⟨by rw [h1, coef_trim]; rfl, h2⟩
theorem own_rdF {α : Type} {C : Codec α} {w : World} {base : Nat} {e : TypeId} {v : Value} {xs : List α} (h : OwnSl C (fun _ => False) w base e v xs) : ∃ a cap, v = .slice a xs.length cap ∧ SlRd C (fun b => base ≤ b ∧ b < w.heap.size) w a cap xs := by
  obtain ⟨a, cap, h1, h2⟩ := own_rd (own_keep (S' := Fresh base w) h (fun _ h => h.elim) fun _ _ _ => rfl) (Nat.le_refl _)
  exact ⟨a, cap, h1, h2.keep fun b hs hl => ⟨⟨hs.1, hl⟩, rfl⟩⟩
theorem own_rdG {α : Type} {C : Codec α} {w : World} {base g n cap : Nat} {e : TypeId} {xs : List α} (h : OwnSl C (fun _ => False) w base e (.slice (some ⟨g, 0, none⟩) n cap) xs) : xs.length = n ∧ SlRd C (fun b => base ≤ b ∧ b < w.heap.size) w (some ⟨g, 0, none⟩) cap xs := by
  obtain ⟨a, cap', h1, h2⟩ := own_rdF h
  injection h1 with h3 h4 h5
  subst h3 h5
  exact ⟨h4.symm, h2⟩
theorem rows0_take {ts : List Term} {k : Nat} {t : Term} (h : ts[k]? = some t) (hv : validTerm t = true) : ((rows0 ts).take (k + 1)).map rowI = ((rows0 ts).take k).map rowI ++ [(t, unitL ts.length k)] := by
  rw [List.take_add_one, List.map_append, rows0_at h]
  simp only [Option.toList_some, List.map_cons, List.map_nil]
  rw [row0_I hv]
theorem zeros_take {rows : List Row} {k j : Nat} {r : Row} (h : rows[j]? = some r) : zeroRs k (rows.take (j + 1)) = zeroRs k (rows.take j) ++ if cfR r k == 0 then [r] else [] := by
  unfold zeroRs
  rw [List.take_add_one, h, List.filter_append]
  congr 1
  simp only [Option.toList_some, List.filter_cons, List.filter_nil]
def elimRes (o : Option (List Row)) (w : World) (e : Ending) (w' : World) : Prop := Below w.heap.size w w' ∧ match o with
  | none => e = .returned (.tuple #[.slice none 0 0, .slice none 0 0, .bool false])
  | some rows => ∃ a p v, e = .returned (.tuple #[.slice a rows.length p, v, .bool true]) ∧ SlRd cRow (fun b => b < w'.heap.size) w' a p (rows.map rowI)
theorem slRow : SlT Try.prog 46 52 (.agg #[.int .i64 0, .slice none 0 0, .slice none 0 0]) 3 56 := ⟨Try.underlying46, by kernel_rfl, rfl, by decide, by decide⟩
set_option maxHeartbeats 4000000 in
set_option maxRecDepth 100000 in
theorem c_eliminated {S Sk : Nat → Prop} {a ak : Option Addr} {p pk : Nat} {ts : List Term} {ks : List Nat} {w : World} (h : SlRd cTerm S w a p ts) (hk : SlRd cInt Sk w ak pk (ks.map Int.ofNat)) (hv : ∀ t ∈ ts, validTerm t = true) (hn : ts.length ≤ 14) (hks : ∀ k ∈ ks, k < 10) (hkl : ks.length ≤ 10) :
    Calls Try.prog 23 #[.slice a ts.length p, .slice ak ks.length pk] w (elimRes (allRows ks ts) w) := by
  have H := hid (h.keep (S' := fun b => b < w.heap.size) (w' := w) fun b _ hl => ⟨hl, rfl⟩)
  have HK := hid (hk.keep (S' := fun b => b < w.heap.size) (w' := w) fun b _ hl => ⟨hl, rfl⟩)
  have HV := hid hv
  have HKS := hid hks
  clear h hk hv hks
  go_enter Try.func23, Try.ntmps23
  go_wp2
  go_loopw [7, 25] (fun v i wr => ∃ (k : Nat) (T : Nat → Prop), k ≤ ts.length ∧ i = .int .i64 k ∧ Hid (∀ b, b < w.heap.size → T b) ∧ Hid (Rows3 cRow T wr w.heap.size 52 v (.slice none 0 0) (.slice none 0 0) (((rows0 ts).take k).map rowI) [] []) ∧ Hid (Below w.heap.size w wr)) (fun _ i _ => ts.length - (intOf i).toNat)
  case atStart => exact ⟨0, fun b => b < w.heap.size, Nat.zero_le _, rfl, fun _ h => h, Rows3.begin _ fun _ h => h, Below.refl _ _⟩
  case round =>
    obtain ⟨k, T, hk, rfl, HT, HR, HBR⟩ := hrel
    have hsz := HBR.out.size
    by_cases hlt : k < ts.length
    · obtain ⟨b0, o0, rfl⟩ := H.out.some_of hlt
      obtain ⟨c, zs, a', cap', hz, hc1, hsl, hc, hc', hb⟩ := (H.out.below (Nat.le_refl _) HBR.out).term_at k hlt
      have HTK := hid (rows0_take hz (HV.out _ (List.mem_of_getElem? hz)))
      have HSL := hid hsl
      have i0 : (0 : Int) ≤ (k : Int) := by omega
      have i1 : (k : Int) < (ts.length : Int) := by omega
      have htl : (((rows0 ts).take k).map rowI).length ≤ 14 := by rw [List.length_map, List.length_take]; omega
      have HBA : Hid (Below wr.heap.size wr (wr.alloc (.cells #[.int .i64 c, .slice a' zs.length cap'] 39))) := (Below.refl _ _).alloc (Nat.le_refl _) _
      have x0 : (wr.alloc (.cells #[.int .i64 c, .slice a' zs.length cap'] 39)).cell? ⟨wr.heap.size, 0, none⟩ = some (.int .i64 c) := by rw [World.cell?_alloc_at _ _ _ _ rfl]; rfl
      have x1 : (wr.alloc (.cells #[.int .i64 c, .slice a' zs.length cap'] 39)).cell? ⟨wr.heap.size, 1, none⟩ = some (.slice a' zs.length cap') := by rw [World.cell?_alloc_at _ _ _ _ rfl]; rfl
      clear hz hsl
      go_wp2_with (first | (at_make; go_loud (refine wpList_mk rfl (.tmp 31) (.tmp 31) _ rfl rfl rfl (own_mk slI64 (C := cInt) (base := wr.heap.size + 1) (fun _ => False) ts.length (by omega) (by simp) 0 (fun _ _ => ⟨rfl, i64_0⟩) _ _) ?_); rintro w1 ⟨hown, hg⟩; rw [World.size_alloc] at hown; obtain ⟨z, _, _, cz, fz, hL, _⟩ := own_at_int hown (by simp) k hlt; have hset := (own_set_int hown (by simp) k hlt 1 ⟨by omega, by omega⟩).1; have y0 := cell_set_ne (p := ⟨wr.heap.size + 1, k, none⟩) (u := .int .i64 1) (by simp) (cell_grown hg (by simp) (by simp) x0); have y1 := cell_set_ne (p := ⟨wr.heap.size + 1, k, none⟩) (u := .int .i64 1) (by simp) (cell_grown hg (by simp) (by simp) x1); have HB2 := hid ((HBA.out.grown hg (by simp) (by simp)).setCell (p := ⟨wr.heap.size + 1, k, none⟩) (Nat.le_succ _) (.int .i64 1)); obtain ⟨hl2, hs2⟩ := own_rdG hset; have HB3 := hid (bel_next HBR.out hsz HB2.out); have HR3 := hid (HR.out.more HB2.out (F := fun b => wr.heap.size + 1 ≤ b ∧ b < (w1.setCell ⟨wr.heap.size + 1, k, none⟩ (.int .i64 1)).heap.size) fun b hb => ⟨Nat.le_of_succ_le hb.1, hb.2⟩); have hrd := rd_row hc1 (wide_sl (HSL.out) (fun b hb => (.inl (HT.out b hb) : (T b ∨ _))) HB2.out) (hs2.keep fun b hb _ => ⟨.inr hb, rfl⟩); rw [hl2] at hrd; have HRD := hid hrd; clear hown hg hset hs2 hrd x0 x1) | (at_builtin; go_loud (refine app_rows rfl (.tmp 36) (.tmp 40) _ rfl slRow rfl rfl (size_set _ _ _).symm HR3.out.turn ((c, zs), unitL ts.length k) HRD.out (by omega) HB3.out.size ?_); intro v3 w3 hr3 hb3 hk3; have hr4 := hr3.turn; rw [← HTK.out] at hr4; have HR4 := hid hr4; have HB4 := hid (HB3.out.trans hb3); clear hr3 hr4 hb3 hk3))
      go_roundw
      case rel => exact ⟨k + 1, _, by omega, by go_num, fun b hb => .inl (HT.out b hb), HR4, HB4⟩
      case measure => simp [intOf]; omega
    · have hk2 : k = ts.length := by omega
      have hr0 := HR.out
      rw [List.take_of_length_le (by rw [rows0_len]; omega)] at hr0
      have HR0 := hid hr0
      have HS0 : Hid (stagesF (ks.drop 0) (rows0 ts) = allRows ks ts) := rfl
      have HRO0 := hid (rows0_ok HV.out)
      have hl0 : (rows0 ts).length ≤ 60 := by rw [rows0_len]; omega
      clear hr0 HR hk2 hk
      go_wp2
      clear hlt
      obtain ⟨wo, rfl⟩ : ∃ x : World, x = wr := ⟨_, rfl⟩
      go_loopw [7, 8, 45] (fun v nv i wq => ∃ (m : Nat) (rows : List Row) (ns : List (Term × List Int)) (T : Nat → Prop), m ≤ ks.length ∧ i = .int .i64 m ∧ rows.length ≤ 60 ∧ ns.length ≤ 60 * m ∧ Hid (stagesF (ks.drop m) rows = allRows ks ts) ∧ Hid (RowsOk ts.length rows) ∧ Hid (Rows3 cRow T wq w.heap.size 52 v (.slice none 0 0) nv (rows.map rowI) [] ns) ∧ Hid (Below w.heap.size w wq)) (fun _ _ i _ => ks.length - (intOf i).toNat)
      case atStart => exact ⟨0, rows0 ts, [], T, Nat.zero_le _, rfl, hl0, Nat.zero_le _, HS0, HRO0, HR0, HBR⟩
      case round =>
        clear HR0 HS0 HRO0 hl0 HBR HT hsz
        obtain ⟨wq, rfl⟩ : ∃ x : World, x = wr := ⟨_, rfl⟩
        obtain ⟨m, rows, ns, T, hm, rfl, hrl, hnl, HST, HRO, HR, HBQ⟩ := hrel
        obtain ⟨ar, pr, hv7⟩ := HR.out.len
        rw [List.length_map] at hv7
        subst hv7
        by_cases hlt : m < ks.length
        · obtain ⟨bk, ok, rfl⟩ := HK.out.some_of (k := m) (by simpa using hlt)
          obtain ⟨z, hz, _, hzc, hzb⟩ := (HK.out.below (Nat.le_refl _) HBQ.out).int_at m (by simpa using hlt)
          obtain ⟨kk, hkk, hkz⟩ : ∃ kk, ks[m]? = some kk ∧ z = (kk : Int) := by
            rw [List.getElem?_map, List.getElem?_eq_getElem hlt] at hz
            exact ⟨ks[m], List.getElem?_eq_getElem hlt, by simpa using hz.symm⟩
          subst hkz
          have hk10 := HKS.out kk (List.mem_of_getElem? hkk)
          have HST2 : Hid ((stageF kk rows).bind (stagesF (ks.drop (m + 1))) = allRows ks ts) := by
            have h9 := HST.out
            rw [List.drop_eq_getElem_cons hlt] at h9
            rw [List.getElem?_eq_getElem hlt] at hkk
            cases hkk
            exact h9
          have i0 : (0 : Int) ≤ (m : Int) := by omega
          have i1 : (m : Int) < (ks.length : Int) := by omega
          have HZ0 : Hid (Rows3 cRow T wq w.heap.size 52 (.slice ar rows.length pr) (.slice none 0 0) u8 (rows.map rowI) ((zeroRs kk (rows.take 0)).map rowI) ns) := HR
          clear hz hkk HST HR
          go_wp2
          go_loopw [14, 51] (fun v i wz => ∃ j : Nat, j ≤ rows.length ∧ i = .int .i64 j ∧ Hid (Rows3 cRow T wz w.heap.size 52 (.slice ar rows.length pr) v u8 (rows.map rowI) ((zeroRs kk (rows.take j)).map rowI) ns) ∧ Hid (Below w.heap.size w wz)) (fun _ i _ => rows.length - (intOf i).toNat)
          case atStart => exact ⟨0, Nat.zero_le _, rfl, HZ0, HBQ⟩
          case round =>
            clear HZ0 HBQ hzc hzb
            obtain ⟨wz, rfl⟩ : ∃ x : World, x = wr := ⟨_, rfl⟩
            obtain ⟨j, hj, rfl, HR, HBZ⟩ := hrel
            by_cases hlt3 : j < rows.length
            · obtain ⟨g, cap, r, a1, p1, am, pm, he, hr, hr1, hs1, hs2, hg, c0, c1, c2, hcl, hcm⟩ := HR.out.rowI_at j hlt3
              injection he with he1 _ he3
              subst he1 he3
              have HZT := hid (zeros_take (k := kk) hr)
              have HS1 := hid hs1
              have HS2 := hid hs2
              have HBA : Hid (Below wz.heap.size wz (wz.alloc (.cells #[.int .i64 r.1, .slice a1 (trimL r.2.1).length p1, .slice am r.2.2.length pm] 52))) := (Below.refl _ _).alloc (Nat.le_refl _) _
              have x0 : (wz.alloc (.cells #[.int .i64 r.1, .slice a1 (trimL r.2.1).length p1, .slice am r.2.2.length pm] 52)).cell? ⟨wz.heap.size, 0, none⟩ = some (.int .i64 r.1) := by rw [World.cell?_alloc_at _ _ _ _ rfl]; rfl
              have x1 : (wz.alloc (.cells #[.int .i64 r.1, .slice a1 (trimL r.2.1).length p1, .slice am r.2.2.length pm] 52)).cell? ⟨wz.heap.size, 1, none⟩ = some (.slice a1 (trimL r.2.1).length p1) := by rw [World.cell?_alloc_at _ _ _ _ rfl]; rfl
              have x2 : (wz.alloc (.cells #[.int .i64 r.1, .slice a1 (trimL r.2.1).length p1, .slice am r.2.2.length pm] 52)).cell? ⟨wz.heap.size, 2, none⟩ = some (.slice am r.2.2.length pm) := by rw [World.cell?_alloc_at _ _ _ _ rfl]; rfl
              have xs : wz.heap.size < (wz.alloc (.cells #[.int .i64 r.1, .slice a1 (trimL r.2.1).length p1, .slice am r.2.2.length pm] 52)).heap.size := by simp
              have HC := hid (c_coeffR r a1 p1 kk _ (hs1.below (Nat.le_refl _) HBA.out))
              have j0 : (0 : Int) ≤ (j : Int) := by omega
              have j1 : (j : Int) < (rows.length : Int) := by omega
              have hzl : ((zeroRs kk (rows.take j)).map rowI).length ≤ 60 := by rw [List.length_map]; exact Nat.le_trans (List.length_filter_le _ _) (by rw [List.length_take]; omega)
              clear hr hs1 hs2
              by_cases hz0 : cfR r kk = 0
              · rw [hz0] at HC HZT
                have HZU : Hid ((zeroRs kk (rows.take (j + 1))).map rowI = (zeroRs kk (rows.take j)).map rowI ++ [((r.1, trimL r.2.1), r.2.2)]) := by unfold Hid; rw [HZT.out, List.map_append]; rfl
                clear hz0 HZT
                go_wp2_with (first | (go_at_call 37; refine HC.out.mono ?_; rintro e w2 ⟨rfl, hb2⟩; have y0 := cell_below hb2 xs x0; have y1 := cell_below hb2 xs x1; have y2 := cell_below hb2 xs x2; have HB2 := hid (bel_next HBA.out HBA.out.size hb2); have HR2 := hid (HR.out.below HB2.out); have HRD := hid (rd_row hr1 (HS1.out.below (Nat.le_refl _) HB2.out) (HS2.out.below (Nat.le_refl _) HB2.out)); have HB3 := hid (bel_next HBZ.out HBZ.out.size HB2.out); clear hb2 x0 x1 x2) | (at_builtin; go_loud (refine app_rows rfl (.tmp 60) (.tmp 62) _ rfl slRow rfl rfl rfl HR2.out ((r.1, trimL r.2.1), r.2.2) HRD.out (by omega) HB3.out.size ?_); intro v3 w3 hr3 hb3 hk3; rw [← HZU.out] at hr3; have HR4 := hid hr3; have HB4 := hid (HB3.out.trans hb3); clear hr3 hb3 hk3))
                go_roundw
                case rel => exact ⟨j + 1, by omega, by go_num, HR4, HB4⟩
                case measure => simp [intOf]; omega
              · have e0 : (cfR r kk == 0) = false := by simpa using hz0
                have HZU : Hid ((zeroRs kk (rows.take (j + 1))).map rowI = (zeroRs kk (rows.take j)).map rowI) := by unfold Hid; rw [HZT.out, e0]; simp
                obtain ⟨zc, hzc⟩ : ∃ x, cfR r kk = x := ⟨_, rfl⟩
                rw [hzc] at HC e0
                clear hz0 HZT hzc
                go_wp2_with (go_at_call 37; refine HC.out.mono ?_; rintro e w2 ⟨rfl, hb2⟩; have HB2 := hid (bel_next HBA.out HBA.out.size hb2); have HR2 := hid (HR.out.below HB2.out); have HB3 := hid (bel_next HBZ.out HBZ.out.size HB2.out); clear hb2 x0 x1 x2)
                go_roundw
                case rel => exact ⟨j + 1, by omega, by go_num, by rw [HZU.out]; exact HR2, HB3⟩
                case measure => simp [intOf]; omega
            · have hjl : j = rows.length := by omega
              have hr9 := HR.out
              rw [List.take_of_length_le (by omega)] at hr9
              have HRS := hid hr9
              have HG0 : Hid (goP kk rows (rows.drop 0) (zeroRs kk rows) = stageF kk rows) := rfl
              have HO0 := hid (zero_ok (k := kk) HRO.out)
              have hz60 : (zeroRs kk rows).length ≤ 60 := Nat.le_trans (List.length_filter_le _ _) hrl
              have hn0 : ns.length ≤ 60 * m + (zeroRs kk rows).length := by omega
              clear hr9 HR hj hjl
              go_wp2
              clear hlt3
              obtain ⟨wo2, rfl⟩ : ∃ x : World, x = wz := ⟨_, rfl⟩
              go_loopw [14, 8, 67] (fun v s i wz => ∃ (j : Nat) (out : List Row) (ns : List (Term × List Int)) (T : Nat → Prop), j ≤ rows.length ∧ i = .int .i64 j ∧ out.length ≤ 60 ∧ ns.length ≤ 60 * m + out.length ∧ Hid (goP kk rows (rows.drop j) out = stageF kk rows) ∧ Hid (RowsOk ts.length out) ∧ Hid (Rows3 cRow T wz w.heap.size 52 (.slice ar rows.length pr) v s (rows.map rowI) (out.map rowI) ns) ∧ Hid (Below w.heap.size w wz)) (fun _ _ i _ => rows.length - (intOf i).toNat)
              case atStart => exact ⟨0, _, ns, T, Nat.zero_le _, rfl, hz60, hn0, HG0, HO0, HRS, HBZ⟩
              case round =>
                clear HRS HBZ HG0 HO0 hz60 hn0 hnl
                obtain ⟨wz, rfl⟩ : ∃ x : World, x = wr := ⟨_, rfl⟩
                obtain ⟨j, out, ns, T, hj, rfl, hol, hnl, HG, HO, HR, HBZ⟩ := hrel
                by_cases hlt4 : j < rows.length
                · obtain ⟨g, cap, P, a1, p1, am, pm, he, hr, hr1, hs1, hs2, hg, c0, c1, c2, hcl, hcm⟩ := HR.out.rowI_at j hlt4
                  injection he with he1 _ he3
                  subst he1 he3
                  have HBA : Hid (Below wz.heap.size wz (wz.alloc (.cells #[.int .i64 P.1, .slice a1 (trimL P.2.1).length p1, .slice am P.2.2.length pm] 52))) := (Below.refl _ _).alloc (Nat.le_refl _) _
                  have HPO := hid (HRO.out P (List.mem_of_getElem? hr))
                  have HR1 := hid (HR.out.more HBA.out (F := fun b => b = wz.heap.size) fun b hb => by subst hb; simp)
                  have HBX : Hid (BoxR (fun b => T b ∨ b = wz.heap.size) (wz.alloc (.cells #[.int .i64 P.1, .slice a1 (trimL P.2.1).length p1, .slice am P.2.2.length pm] 52)) wz.heap.size P a1 p1 am pm) := ⟨by rw [World.cell?_alloc_at _ _ _ _ rfl]; rfl, by rw [World.cell?_alloc_at _ _ _ _ rfl]; rfl, by rw [World.cell?_alloc_at _ _ _ _ rfl]; rfl, .inr rfl, wide_sl hs1 (fun b h => .inl h) HBA.out, wide_sl hs2 (fun b h => .inl h) HBA.out⟩
                  have HBW := hid (bel_next HBZ.out HBZ.out.size HBA.out)
                  have HGQ : Hid ((goQ kk P (rows.drop 0) out).bind (goP kk rows (rows.drop (j + 1))) = stageF kk rows) := by
                    have h9 := HG.out
                    rw [List.drop_eq_getElem_cons hlt4] at h9
                    rw [List.getElem?_eq_getElem hlt4] at hr
                    cases hr
                    exact h9
                  have j0 : (0 : Int) ≤ (j : Int) := by omega
                  have j1 : (j : Int) < (rows.length : Int) := by omega
                  have hgT : Hid True := trivial
                  clear hr hs1 hs2 HR HG HBA HBZ
                  go_wp2
                  clear c0 c1 c2
                  obtain ⟨W1, hW1⟩ : ∃ x, (wz.alloc (.cells #[.int .i64 P.1, .slice a1 (trimL P.2.1).length p1, .slice am P.2.2.length pm] 52)) = x := ⟨_, rfl⟩
                  rw [hW1] at HR1 HBX HBW ⊢
                  clear hW1
                  obtain ⟨bp, hbp⟩ : ∃ x, wz.heap.size = x := ⟨_, rfl⟩
                  rw [hbp] at HR1 HBX ⊢
                  clear hbp
                  obtain ⟨wo3, rfl⟩ : ∃ x : World, x = wz := ⟨_, rfl⟩
                  go_loopw [14, 8, 73] (fun v s i wz => ∃ (i' : Nat) (out2 : List Row) (ns2 : List (Term × List Int)) (T2 : Nat → Prop), i' ≤ rows.length ∧ i = .int .i64 i' ∧ out2.length ≤ 60 ∧ ns2.length ≤ 60 * m + out2.length ∧ Hid ((goQ kk P (rows.drop i') out2).bind (goP kk rows (rows.drop (j + 1))) = stageF kk rows) ∧ Hid (RowsOk ts.length out2) ∧ Hid (Rows3 cRow T2 wz w.heap.size 52 (.slice (some ⟨g, 0, none⟩) rows.length pr) v s (rows.map rowI) (out2.map rowI) ns2) ∧ Hid (BoxR T2 wz bp P a1 p1 am pm) ∧ Hid (Below w.heap.size w wz)) (fun _ _ i _ => rows.length - (intOf i).toNat)
                  case atStart => exact ⟨0, out, ns, _, Nat.zero_le _, rfl, hol, hnl, HGQ, HO, HR1, HBX, HBW⟩
                  case round =>
                    clear HGQ HO HR1 HBX HBW hol hnl
                    obtain ⟨wy, rfl⟩ : ∃ x : World, x = wr := ⟨_, rfl⟩
                    obtain ⟨i', out2, ns2, T2, hi', rfl, hol, hnl, HG, HO, HR, HBX, HBY⟩ := hrel
                    by_cases hlt5 : i' < rows.length
                    · obtain ⟨g2, cap2, Q, b1, q1, bm, qm, he, hr, hr1', hs1, hs2, hg', d0, d1, d2, hcl', hcm'⟩ := HR.out.rowI_at i' hlt5
                      simp only [Value.slice.injEq, Option.some.injEq, Addr.mk.injEq, and_true, true_and] at he
                      obtain ⟨rfl, rfl⟩ := he
                      have HQO := hid (HRO.out Q (List.mem_of_getElem? hr))
                      have HBA : Hid (Below wy.heap.size wy (wy.alloc (.cells #[.int .i64 Q.1, .slice b1 (trimL Q.2.1).length q1, .slice bm Q.2.2.length qm] 52))) := (Below.refl _ _).alloc (Nat.le_refl _) _
                      have hbpl : bp < wy.heap.size := HR.out.lt bp HBX.out.hb
                      have x0 := cell_below HBA.out hbpl HBX.out.c0
                      have x1 := cell_below HBA.out hbpl HBX.out.c1
                      have x2 := cell_below HBA.out hbpl HBX.out.c2
                      have y0 : (wy.alloc (.cells #[.int .i64 Q.1, .slice b1 (trimL Q.2.1).length q1, .slice bm Q.2.2.length qm] 52)).cell? ⟨wy.heap.size, 0, none⟩ = some (.int .i64 Q.1) := by rw [World.cell?_alloc_at _ _ _ _ rfl]; rfl
                      have y1 : (wy.alloc (.cells #[.int .i64 Q.1, .slice b1 (trimL Q.2.1).length q1, .slice bm Q.2.2.length qm] 52)).cell? ⟨wy.heap.size, 1, none⟩ = some (.slice b1 (trimL Q.2.1).length q1) := by rw [World.cell?_alloc_at _ _ _ _ rfl]; rfl
                      have y2 : (wy.alloc (.cells #[.int .i64 Q.1, .slice b1 (trimL Q.2.1).length q1, .slice bm Q.2.2.length qm] 52)).cell? ⟨wy.heap.size, 2, none⟩ = some (.slice bm Q.2.2.length qm) := by rw [World.cell?_alloc_at _ _ _ _ rfl]; rfl
                      have ys : wy.heap.size < (wy.alloc (.cells #[.int .i64 Q.1, .slice b1 (trimL Q.2.1).length q1, .slice bm Q.2.2.length qm] 52)).heap.size := by simp
                      have xs : bp < (wy.alloc (.cells #[.int .i64 Q.1, .slice b1 (trimL Q.2.1).length q1, .slice bm Q.2.2.length qm] 52)).heap.size := by omega
                      have HP1 := hid (fun (w' : World) (hb' : Below wy.heap.size wy w') => HBX.out.h1.below (Nat.le_refl _) hb')
                      have HP2 := hid (fun (w' : World) (hb' : Below wy.heap.size wy w') => HBX.out.h2.below (Nat.le_refl _) hb')
                      have HQ1 := hid (fun (w' : World) (hb' : Below wy.heap.size wy w') => hs1.below (Nat.le_refl _) hb')
                      have HQ2 := hid (fun (w' : World) (hb' : Below wy.heap.size wy w') => hs2.below (Nat.le_refl _) hb')
                      have HGN : Hid ((goQ kk P (Q :: rows.drop (i' + 1)) out2).bind (goP kk rows (rows.drop (j + 1))) = stageF kk rows) := by
                        have h9 := HG.out
                        rw [List.drop_eq_getElem_cons hlt5] at h9
                        rw [List.getElem?_eq_getElem hlt5] at hr
                        cases hr
                        exact h9
                      have HC1 := hid (c_coeffR P a1 p1 kk _ (HP1.out _ HBA.out))
                      have HC2 := hid (fun (w' : World) (hb' : Below wy.heap.size wy w') => c_coeffR Q b1 q1 kk w' (HQ1.out w' hb'))
                      have k0 : (0 : Int) ≤ (i' : Int) := by omega
                      have k1 : (i' : Int) < (rows.length : Int) := by omega
                      clear hr hs1 hs2 HG
                      by_cases hp0 : 0 < cfR P kk
                      · by_cases hq0 : cfR Q kk < 0
                        · have hpb : pairB P Q kk = true := by simp [pairB, hp0, hq0]
                          have HCC := hid (fun (w' : World) (hb' : Below wy.heap.size wy w') => c_cancelled (n := ts.length) (p := P) (q := Q) (HP1.out w' hb') (HP2.out w' hb') (HQ1.out w' hb') (HQ2.out w' hb') HPO.out HQO.out hpb hk10 hn)
                          have hmo : fineB (mixF P Q kk) = true → RowOk ts.length (mixF P Q kk) := mix_ok HPO.out HQO.out hpb
                          have hgn := HGN.out
                          unfold goQ at hgn
                          rw [if_pos hpb] at hgn
                          obtain ⟨R, hR⟩ : ∃ x, mixF P Q kk = x := ⟨_, rfl⟩
                          obtain ⟨pk', hpk⟩ : ∃ x, cfR P kk = x := ⟨_, rfl⟩
                          obtain ⟨qk', hqk⟩ : ∃ x, cfR Q kk = x := ⟨_, rfl⟩
                          rw [hR] at HCC hmo hgn
                          rw [hpk] at hp0 HC1
                          rw [hqk] at hq0 HC2
                          clear hR hpk hqk HGN HP1 HP2 HQ1 HQ2
                          cases hfb : fineB R with
                          | false =>
                            have HALL : Hid (allRows ks ts = none) := by
                              unfold Hid
                              rw [← HST2.out, ← hgn, hfb]; rfl
                            rw [hfb] at HCC
                            clear hgn hfb hmo
                            go_wp2_with (first | (have hq := hgT.out; clear hq hgT; go_at_call 37; refine HC1.out.mono ?_; rintro e w2 ⟨rfl, hb2⟩; have HB2 := hid (bel_next HBA.out HBA.out.size hb2); have z0 := cell_below hb2 ys y0; have z1 := cell_below hb2 ys y1; have z2 := cell_below hb2 ys y2; have zs2 := Nat.lt_of_lt_of_le ys hb2.size; clear hb2 x0 x1 x2 y0 y1 y2) | (go_at_call 37; refine (HC2.out _ HB2.out).mono ?_; rintro e w3 ⟨rfl, hb3⟩; have HB3 := hid (bel_next HB2.out HB2.out.size hb3); have y0 := cell_below hb3 zs2 z0; have y1 := cell_below hb3 zs2 z1; have y2 := cell_below hb3 zs2 z2; have x0 := cell_below HB3.out hbpl HBX.out.c0; have x1 := cell_below HB3.out hbpl HBX.out.c1; have x2 := cell_below HB3.out hbpl HBX.out.c2; clear hb3 z0 z1 z2) | (go_at_call 43; refine (HCC.out _ HB3.out).mono ?_; rintro e w5 ⟨L, x5, c5, rfl, hl1, hl2, hb5⟩; have HB5 := hid (bel_next HB3.out HB3.out.size hb5); have HB6 : Hid (Below w.heap.size w (w5.alloc (.cells #[.int .i64 R.1, .slice (some ⟨L, 0, none⟩) (trimL R.2.1).length 10, .slice x5 R.2.2.length c5] 52))) := (bel_next HBY.out HBY.out.size HB5.out).alloc (bel_next HBY.out HBY.out.size HB5.out).size _;  clear hl1 hl2 hb5 x0 x1 x2 y0 y1 y2))
                            refine bodyPost_ret (v := .tuple #[.slice none 0 0, .slice none 0 0, .bool false]) (by simp [results, Try.results23, go_sem]) rfl ?_
                            rw [HALL.out]
                            exact ⟨HB6.out, rfl⟩
                          | true =>
                            have HRK := hid (hmo hfb)
                            have hRi : I64 R.1 := by have := HRK.out.c; unfold sm at this; exact ⟨by omega, by omega⟩
                            rw [hfb] at HCC hgn
                            by_cases h60 : out2.length = 60
                            · have HALL : Hid (allRows ks ts = none) := by
                                unfold Hid
                                rw [← HST2.out, ← hgn, h60]; rfl
                              have h60' : (out2.length : Int) = 60 := by omega
                              obtain ⟨av, pv, hv14⟩ := HR.out.turn.len
                              rw [List.length_map, h60] at hv14
                              subst hv14
                              clear hgn hfb hmo
                              go_wp2_with (first | (have hq := hgT.out; clear hq hgT; go_at_call 37; refine HC1.out.mono ?_; rintro e w2 ⟨rfl, hb2⟩; have HB2 := hid (bel_next HBA.out HBA.out.size hb2); have z0 := cell_below hb2 ys y0; have z1 := cell_below hb2 ys y1; have z2 := cell_below hb2 ys y2; have zs2 := Nat.lt_of_lt_of_le ys hb2.size; clear hb2 x0 x1 x2 y0 y1 y2) | (go_at_call 37; refine (HC2.out _ HB2.out).mono ?_; rintro e w3 ⟨rfl, hb3⟩; have HB3 := hid (bel_next HB2.out HB2.out.size hb3); have y0 := cell_below hb3 zs2 z0; have y1 := cell_below hb3 zs2 z1; have y2 := cell_below hb3 zs2 z2; have x0 := cell_below HB3.out hbpl HBX.out.c0; have x1 := cell_below HB3.out hbpl HBX.out.c1; have x2 := cell_below HB3.out hbpl HBX.out.c2; clear hb3 z0 z1 z2) | (go_at_call 43; refine (HCC.out _ HB3.out).mono ?_; rintro e w5 ⟨L, x5, c5, rfl, hl1, hl2, hb5⟩; have HB5 := hid (bel_next HB3.out HB3.out.size hb5); have HB6 : Hid (Below w.heap.size w (w5.alloc (.cells #[.int .i64 R.1, .slice (some ⟨L, 0, none⟩) (trimL R.2.1).length 10, .slice x5 R.2.2.length c5] 52))) := (bel_next HBY.out HBY.out.size HB5.out).alloc (bel_next HBY.out HBY.out.size HB5.out).size _;  clear hl1 hl2 hb5 x0 x1 x2 y0 y1 y2))
                              refine bodyPost_ret (v := .tuple #[.slice none 0 0, .slice none 0 0, .bool false]) (by simp [results, Try.results23, go_sem]) rfl ?_
                              rw [HALL.out]
                              exact ⟨HB6.out, rfl⟩
                            · have hgn2 : (goQ kk P (rows.drop (i' + 1)) (out2 ++ [R])).bind (goP kk rows (rows.drop (j + 1))) = stageF kk rows := by
                                rw [if_pos (by simpa using h60)] at hgn
                                exact hgn
                              have HNX := hid hgn2
                              have HO2 : Hid (RowsOk ts.length (out2 ++ [R])) := fun r hr => by
                                rcases List.mem_append.1 hr with hr | hr
                                · exact HO.out r hr
                                · simp at hr; subst hr; exact HRK.out
                              have hol2 : (out2 ++ [R]).length ≤ 60 := by simp; omega
                              have h60' : ¬ ((out2.length : Int) = 60) := by omega
                              have e60 : ((out2.length : Int) == 60) = false := by simpa using h60'
                              obtain ⟨av, pv, hv14⟩ := HR.out.turn.len
                              rw [List.length_map] at hv14
                              subst hv14
                              have hgA : Hid True := trivial
                              clear hgn hgn2 hfb hmo
                              go_wp2_with (first | (have hq := hgT.out; clear hq hgT; go_at_call 37; refine HC1.out.mono ?_; rintro e w2 ⟨rfl, hb2⟩; have HB2 := hid (bel_next HBA.out HBA.out.size hb2); have z0 := cell_below hb2 ys y0; have z1 := cell_below hb2 ys y1; have z2 := cell_below hb2 ys y2; have zs2 := Nat.lt_of_lt_of_le ys hb2.size; clear hb2 x0 x1 x2 y0 y1 y2) | (go_at_call 37; refine (HC2.out _ HB2.out).mono ?_; rintro e w3 ⟨rfl, hb3⟩; have HB3 := hid (bel_next HB2.out HB2.out.size hb3); have y0 := cell_below hb3 zs2 z0; have y1 := cell_below hb3 zs2 z1; have y2 := cell_below hb3 zs2 z2; have x0 := cell_below HB3.out hbpl HBX.out.c0; have x1 := cell_below HB3.out hbpl HBX.out.c1; have x2 := cell_below HB3.out hbpl HBX.out.c2; clear hb3 z0 z1 z2) | (go_at_call 43; refine (HCC.out _ HB3.out).mono ?_; rintro e w5 ⟨L, x5, c5, rfl, hl1, hl2, hb5⟩; have HB5 := hid (bel_next HB3.out HB3.out.size hb5); have HB6 : Hid (Below w.heap.size w (w5.alloc (.cells #[.int .i64 R.1, .slice (some ⟨L, 0, none⟩) (trimL R.2.1).length 10, .slice x5 R.2.2.length c5] 52))) := (bel_next HBY.out HBY.out.size HB5.out).alloc (bel_next HBY.out HBY.out.size HB5.out).size _; have HB6y : Hid (Below wy.heap.size wy (w5.alloc (.cells #[.int .i64 R.1, .slice (some ⟨L, 0, none⟩) (trimL R.2.1).length 10, .slice x5 R.2.2.length c5] 52))) := HB5.out.alloc HB5.out.size _; have HR6 := hid (HR.out.more HB6y.out (F := fun b => wy.heap.size ≤ b ∧ b < (w5.alloc (.cells #[.int .i64 R.1, .slice (some ⟨L, 0, none⟩) (trimL R.2.1).length 10, .slice x5 R.2.2.length c5] 52)).heap.size) fun b hb => hb); have HRD := hid (rd_row (T := fun b => T2 b ∨ wy.heap.size ≤ b ∧ b < (w5.alloc (.cells #[.int .i64 R.1, .slice (some ⟨L, 0, none⟩) (trimL R.2.1).length 10, .slice x5 R.2.2.length c5] 52)).heap.size) (w := (w5.alloc (.cells #[.int .i64 R.1, .slice (some ⟨L, 0, none⟩) (trimL R.2.1).length 10, .slice x5 R.2.2.length c5] 52))) hRi (hl1.keep fun b hb hl => ⟨.inr ⟨Nat.le_trans HB3.out.size hb.1, by rw [World.size_alloc]; omega⟩, ((Below.refl w5.heap.size w5).alloc (Nat.le_refl _) _).block b hl⟩) (hl2.keep fun b hb hl => ⟨.inr ⟨Nat.le_trans HB3.out.size hb.1, by rw [World.size_alloc]; omega⟩, ((Below.refl w5.heap.size w5).alloc (Nat.le_refl _) _).block b hl⟩)); have s0 : (w5.alloc (.cells #[.int .i64 R.1, .slice (some ⟨L, 0, none⟩) (trimL R.2.1).length 10, .slice x5 R.2.2.length c5] 52)).cell? ⟨w5.heap.size, 0, none⟩ = some (.int .i64 R.1) := (by rw [World.cell?_alloc_at _ _ _ _ rfl]; rfl); have s1 : (w5.alloc (.cells #[.int .i64 R.1, .slice (some ⟨L, 0, none⟩) (trimL R.2.1).length 10, .slice x5 R.2.2.length c5] 52)).cell? ⟨w5.heap.size, 1, none⟩ = some (.slice (some ⟨L, 0, none⟩) (trimL R.2.1).length 10) := (by rw [World.cell?_alloc_at _ _ _ _ rfl]; rfl); have s2 : (w5.alloc (.cells #[.int .i64 R.1, .slice (some ⟨L, 0, none⟩) (trimL R.2.1).length 10, .slice x5 R.2.2.length c5] 52)).cell? ⟨w5.heap.size, 2, none⟩ = some (.slice x5 R.2.2.length c5) := (by rw [World.cell?_alloc_at _ _ _ _ rfl]; rfl); have HSB : Hid (T2 w5.heap.size ∨ wy.heap.size ≤ w5.heap.size ∧ w5.heap.size < (w5.alloc (.cells #[.int .i64 R.1, .slice (some ⟨L, 0, none⟩) (trimL R.2.1).length 10, .slice x5 R.2.2.length c5] 52)).heap.size) := .inr ⟨HB5.out.size, by rw [World.size_alloc]; omega⟩; clear hl1 hl2 hb5 x0 x1 x2 y0 y1 y2) | (have hq := hgA.out; clear hq hgA; at_builtin; go_loud (refine app_rows rfl (.tmp 103) (.tmp 105) _ rfl slRow rfl rfl (World.size_alloc _ _).symm HR6.out ((R.1, trimL R.2.1), R.2.2) HRD.out (by rw [List.length_map]; omega) HB6.out.size ?_); intro v7 w7 hr7 hb7 hk7; rw [show out2.map rowI ++ [((R.1, trimL R.2.1), R.2.2)] = (out2 ++ [R]).map rowI by rw [List.map_append]; rfl] at hr7; have HR7 := hid hr7; have HB7 := hid (HB6.out.trans hb7); have HK7 := hid hk7; have t0 := (World.cell?_of_block (a := ⟨w5.heap.size, 0, none⟩) (hk7 _ HSB.out)).trans s0; have t1 := (World.cell?_of_block (a := ⟨w5.heap.size, 1, none⟩) (hk7 _ HSB.out)).trans s1; have t2 := (World.cell?_of_block (a := ⟨w5.heap.size, 2, none⟩) (hk7 _ HSB.out)).trans s2; have HRD7 := hid (cRow.keep (fun b hb _ => ⟨hb, hk7 b hb⟩) HRD.out); clear hr7 hb7 hk7 s0 s1 s2) | (at_builtin; go_loud (refine app_rows rfl (.tmp 107) (.tmp 109) _ rfl slRow rfl rfl rfl HR7.out.swap ((R.1, trimL R.2.1), R.2.2) HRD7.out (by omega) HB7.out.size ?_); intro v8 w8 hr8 hb8 hk8; have HR8 := hid hr8.swap; have HB8 := hid (HB7.out.trans hb8); have HX8 := hid (HBX.out.keep fun b hb => ⟨(.inl hb : (T2 b ∨ wy.heap.size ≤ b ∧ b < (w5.alloc (.cells #[.int .i64 R.1, .slice (some ⟨L, 0, none⟩) (trimL R.2.1).length 10, .slice x5 R.2.2.length c5] 52)).heap.size)), ((hk8 b (.inl hb)).trans (HK7.out b (.inl hb))).trans (HB6y.out.block b (HR.out.lt b hb))⟩); clear hr8 hb8 hk8))
                              go_roundw
                              case rel => exact ⟨i' + 1, out2 ++ [R], _, _, by omega, by go_num, hol2, by simp; omega, HNX, HO2, HR8, HX8, HB8⟩
                              case measure => simp [intOf]; omega
                        · have HNX : Hid ((goQ kk P (rows.drop (i' + 1)) out2).bind (goP kk rows (rows.drop (j + 1))) = stageF kk rows) := by
                            have h9 := HGN.out
                            unfold goQ at h9
                            rw [if_neg (by simp [pairB, hq0])] at h9
                            exact h9
                          obtain ⟨pk', hpk⟩ : ∃ x, cfR P kk = x := ⟨_, rfl⟩
                          obtain ⟨qk', hqk⟩ : ∃ x, cfR Q kk = x := ⟨_, rfl⟩
                          rw [hpk] at hp0 HC1
                          rw [hqk] at hq0 HC2
                          clear hpk hqk HGN
                          go_wp2_with (first | (have hq := hgT.out; clear hq hgT; go_at_call 37; refine HC1.out.mono ?_; rintro e w2 ⟨rfl, hb2⟩; have HB2 := hid (bel_next HBA.out HBA.out.size hb2); have z0 := cell_below hb2 ys y0; have z1 := cell_below hb2 ys y1; have z2 := cell_below hb2 ys y2; clear hb2 x0 x1 x2) | (go_at_call 37; refine (HC2.out _ HB2.out).mono ?_; rintro e w3 ⟨rfl, hb3⟩; have HB3 := hid (bel_next HB2.out HB2.out.size hb3); clear hb3))
                          have HR9 := hid (HR.out.below HB3.out)
                          have HX9 := hid (HBX.out.keep (T' := T2) fun b hb => ⟨hb, HB3.out.block b (HR.out.lt b hb)⟩)
                          have HB9 := hid (bel_next HBY.out HBY.out.size HB3.out)
                          go_roundw
                          case rel => exact ⟨i' + 1, out2, ns2, T2, by omega, by go_num, hol, hnl, HNX, HO, HR9, HX9, HB9⟩
                          case measure => simp [intOf]; omega
                      · have HNX : Hid ((goQ kk P (rows.drop (i' + 1)) out2).bind (goP kk rows (rows.drop (j + 1))) = stageF kk rows) := by
                          have h9 := HGN.out
                          unfold goQ at h9
                          rw [if_neg (by simp [pairB, hp0])] at h9
                          exact h9
                        obtain ⟨pk', hpk⟩ : ∃ x, cfR P kk = x := ⟨_, rfl⟩
                        rw [hpk] at hp0 HC1
                        clear hpk HGN HC2
                        go_wp2_with (go_at_call 37; refine HC1.out.mono ?_; rintro e w2 ⟨rfl, hb2⟩; have HB2 := hid (bel_next HBA.out HBA.out.size hb2); clear hb2 x0 x1 x2)
                        have HR9 := hid (HR.out.below HB2.out)
                        have HX9 := hid (HBX.out.keep (T' := T2) fun b hb => ⟨hb, HB2.out.block b (HR.out.lt b hb)⟩)
                        have HB9 := hid (bel_next HBY.out HBY.out.size HB2.out)
                        go_roundw
                        case rel => exact ⟨i' + 1, out2, ns2, T2, by omega, by go_num, hol, hnl, HNX, HO, HR9, HX9, HB9⟩
                        case measure => simp [intOf]; omega
                    · have hjl : i' = rows.length := by omega
                      have h9 := HG.out
                      rw [hjl, List.drop_length] at h9
                      have HGX : Hid (goP kk rows (rows.drop (j + 1)) out2 = stageF kk rows) := h9
                      clear h9 HG hjl
                      go_wp2
                      go_roundw
                      case rel => exact ⟨j + 1, out2, ns2, T2, by omega, by go_num, hol, hnl, HGX, HO, HR, HBY⟩
                      case measure => simp [intOf]; omega
                · have hjl : j = rows.length := by omega
                  have h9 := HG.out
                  rw [hjl, List.drop_length] at h9
                  have h8 := HST2.out
                  rw [← h9] at h8
                  have HSX : Hid (stagesF (ks.drop (m + 1)) out = allRows ks ts) := h8
                  obtain ⟨av, pv, hv14⟩ := HR.out.turn.len
                  rw [List.length_map] at hv14
                  subst hv14
                  have h60' : ¬ ((60 : Int) < (out.length : Int)) := by omega
                  clear h9 h8 HG hjl
                  go_wp2
                  go_roundw
                  case rel => exact ⟨m + 1, out, ns, T, by omega, by go_num, hol, by omega, HSX, HO, HR.out.next, HBZ⟩
                  case measure => simp [intOf]; omega
        · have hjl : m = ks.length := by omega
          have h9 := HST.out
          rw [hjl, List.drop_length] at h9
          have HSX : Hid (some rows = allRows ks ts) := h9
          clear h9 HST hjl
          go_wp2
          refine bodyPost_ret (v := .tuple #[.slice ar rows.length pr, u8, .bool true]) (by simp [results, Try.results23, go_sem]) rfl ?_
          rw [← HSX.out]
          obtain ⟨a9, p9, he, hs⟩ := HR.out.slice
          rw [List.length_map] at he
          injection he with he1 _ he3
          subst he1 he3
          exact ⟨HBQ.out, ar, pr, u8, rfl, hs⟩
end Go.Proofs.Ytkckhnpdodbffaa
