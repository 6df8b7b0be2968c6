/- Contracts: the least number that a goal is at least, the program. -/
import Derived.Test.YtkckhnpdodbffaaElL1
import Derived.Test.YtkckhnpdodbffaaElL5
namespace Go.Proofs.Ytkckhnpdodbffaa
open Go.RowKit

theorem leastO_coef {ts : List Term} {g : Term} (h : g.2.getD 9 0 ≠ 0) : leastO ts g = (0, false) := by
  unfold leastO
  split
  · rw [if_neg (fun h9 => h h9.1)]
  · rfl
theorem leastO_fact {ts : List Term} {g : Term} {t : Term} (ht : t ∈ ts) (h : t.2.getD 9 0 ≠ 0) : leastO ts g = (0, false) := by
  unfold leastO
  split
  · rw [if_neg]
    rintro ⟨_, h9⟩
    have := List.all_eq_true.1 h9 t ht
    exact h (by simpa using this)
  · rfl
section
variable {P : Program} {ops : Array Oper} {Q : Exit → Act → World → Prop} {md : Region.Mode} {S : World → Prop}
theorem rgHcall3 {i j k : Nat} {o o' o'' : Oper} {fuel : Nat} {listed : Array Bool} {a : Act} {w : World} (ho : ops[i]? = some o) (ho' : ops[j]? = some o') (ho'' : ops[k]? = some o'')
    (h : ∀ K' : Act → World → Prop, Shut (∀ a w, S w → (S w → wpAnyH P md ops Q S fuel (listed.setIfInBounds i true) a w) → K' a w) → if Region.wanted o (yielded ops a.tmps) = true then Oper.wp P o a w K' Q else K' (a.put o.dst undef) w)
    (h' : ∀ K' : Act → World → Prop, Shut (∀ a w, S w → (S w → wpAnyH P md ops Q S fuel (listed.setIfInBounds j true) a w) → K' a w) → if Region.wanted o' (yielded ops a.tmps) = true then Oper.wp P o' a w K' Q else K' (a.put o'.dst undef) w)
    (h'' : ∀ K' : Act → World → Prop, Shut (∀ a w, S w → (S w → wpAnyH P md ops Q S fuel (listed.setIfInBounds k true) a w) → K' a w) → if Region.wanted o'' (yielded ops a.tmps) = true then Oper.wp P o'' a w K' Q else K' (a.put o''.dst undef) w) :
    AllReadyH P md ops Q S fuel listed a w [i, j, k] := AllReadyH.cons ho h (AllReadyH.cons ho' h' (AllReadyH.cons ho'' h'' AllReadyH.nil))
end
/-- What a region leaves at its end is named once; what follows is walked once. -/
theorem wp_region_via {P : Program} {cd : Code} {Q : Exit → Act → World → Prop} {a : Act} {w : World} (R : Act → Act → World → Prop)
    (h1 : cd.wp P (fun e a' w' => match e with | .normal => R a a' w' | _ => False) a w) (h2 : ∀ a' w', R a a' w' → Q .normal a' w') : cd.wp P Q a w :=
  Code.wp_mono (fun e a' w' h => by cases e <;> first | exact h2 _ _ h | exact (h : False).elim) h1
set_option maxHeartbeats 4000000 in
set_option maxRecDepth 100000 in
theorem c_LeastOf {S T : Nat → Prop} {a ag : Option Addr} {p pg : Nat} {ts : List Term} {c : Int} {zs : List Int} {w : World} (h : SlRd cTerm S w a p ts) (hg : SlRd cInt T w ag pg zs) :
    Calls Try.prog 17 #[.slice a ts.length p, .agg #[.int .i64 c, .slice ag zs.length pg]] w fun e w' => e = .returned (.tuple #[.int .i64 (leastO ts (c, zs)).1, .bool (leastO ts (c, zs)).2]) ∧ Below w.heap.size w w' := by
  have HB0 : Hid (Below w.heap.size w (w.alloc (.cells #[.int .i64 c, .slice ag zs.length pg] 39))) := (Below.refl _ _).alloc (Nat.le_refl _) _
  have H := hid ((h.keep (S' := fun b => b < w.heap.size) (w' := w) fun b _ hl => ⟨hl, rfl⟩).below (Nat.le_refl _) HB0.out)
  have HG := hid ((hg.keep (S' := fun b => b < w.heap.size) (w' := w) fun b _ hl => ⟨hl, rfl⟩).below (Nat.le_refl _) HB0.out)
  have x0 : (w.alloc (.cells #[.int .i64 c, .slice ag zs.length pg] 39)).cell? ⟨w.heap.size, 0, none⟩ = some (.int .i64 c) := by rw [World.cell?_alloc_at _ _ _ _ rfl]; rfl
  have x1 : (w.alloc (.cells #[.int .i64 c, .slice ag zs.length pg] 39)).cell? ⟨w.heap.size, 1, none⟩ = some (.slice ag zs.length pg) := by rw [World.cell?_alloc_at _ _ _ _ rfl]; rfl
  have hsz0 : (w.alloc (.cells #[.int .i64 c, .slice ag zs.length pg] 39)).heap.size = w.heap.size + 1 := by simp
  obtain ⟨W0, hW0⟩ : ∃ x, w.alloc (.cells #[.int .i64 c, .slice ag zs.length pg] 39) = x := ⟨_, rfl⟩
  have HW0 := hid hW0
  rw [hW0] at HB0 H HG x0 x1 hsz0
  have HCL : Hid (∀ w' : World, Below W0.heap.size W0 w' → w'.cell? ⟨w.heap.size, 0, none⟩ = some (.int .i64 c) ∧ w'.cell? ⟨w.heap.size, 1, none⟩ = some (.slice ag zs.length pg)) := fun w' hb' => ⟨cell_below hb' (by omega) x0, cell_below hb' (by omega) x1⟩
  have HVT := hid (fun (w' : World) (hb' : Below W0.heap.size W0 w') => c_ValidTerm c ag pg zs w' (HG.out.below (Nat.le_refl _) hb'))
  have HCF := hid (fun (w' : World) (hb' : Below W0.heap.size W0 w') => c_coeff c ag pg zs 9 w' (HG.out.below (Nat.le_refl _) hb'))
  clear h hg hW0
  cases hr : areTerms ts 13 with
  | false =>
    have HR := hid hr
    have HF := hid (leastO_no1 (ts := ts) (g := (c, zs)) (by rw [hr]; rfl))
    clear hr
    go_enter Try.func17, Try.ntmps17
    go_wp2_with (go_at_call 35; rw [HW0.out]; refine (c_areTerms _ _ _ _ _ H.out).mono ?_; rintro e w1 ⟨rfl, hb1⟩; rw [HR.out]; have HB1 := hid (HB0.out.trans (hb1.mono (by omega))); clear hb1)
    refine bodyPost_ret (v := .tuple #[.int .i64 0, .bool false]) (by simp [results, Try.results17, go_sem]) rfl ?_
    rw [HF.out]
    exact ⟨rfl, HB1.out⟩
  | true =>
    cases hv : validTerm (c, zs) with
    | false =>
      have HR := hid hr
      have HV := hid hv
      have HF := hid (leastO_no1 (ts := ts) (g := (c, zs)) (by rw [hr, hv]; rfl))
      clear hr hv
      go_enter Try.func17, Try.ntmps17
      go_wp2_with (first | (go_at_call 35; rw [HW0.out]; refine (c_areTerms _ _ _ _ _ H.out).mono ?_; rintro e w1 ⟨rfl, hb1⟩; rw [HR.out]; have HB1 := hid hb1; obtain ⟨y0, y1⟩ := HCL.out _ hb1; clear hb1) | (go_at_call 36; refine (HVT.out _ HB1.out).mono ?_; rintro e w3 ⟨rfl, hb3⟩; rw [HV.out]; have HB3 := hid (HB0.out.trans ((bel_next HB1.out HB1.out.size hb3).mono (by omega))); clear hb3))
      refine bodyPost_ret (v := .tuple #[.int .i64 0, .bool false]) (by simp [results, Try.results17, go_sem]) rfl ?_
      rw [HF.out]
      exact ⟨rfl, HB3.out⟩
    | true =>
      have HR := hid hr
      have HV := hid hv
      by_cases hz9 : coefAt (c, zs) 9 = 0
      · have HZ9 : Hid (zs.getD 9 0 = 0) := hz9
        rw [hz9] at HCF
        obtain ⟨hvs, hn13i⟩ := areTerms_valid hr
        have hn13 : ts.length ≤ 13 := by omega
        have HVS := hid hvs
        clear hr hv hvs hn13i hz9
        go_enter Try.func17, Try.ntmps17
        go_wp2_with (first | (go_at_call 35; rw [HW0.out]; refine (c_areTerms _ _ _ _ _ H.out).mono ?_; rintro e w1 ⟨rfl, hb1⟩; rw [HR.out]; have HB1 := hid hb1; obtain ⟨y0, y1⟩ := HCL.out _ hb1; clear hb1) | (go_at_call 36; refine (HVT.out _ HB1.out).mono ?_; rintro e w3 ⟨rfl, hb3⟩; rw [HV.out]; have HB3 := hid (bel_next HB1.out HB1.out.size hb3); obtain ⟨z0, z1⟩ := HCL.out _ HB3.out; clear hb3 y0 y1) | (go_at_call 37; refine (HCF.out _ HB3.out).mono ?_; rintro e w4 ⟨rfl, hb4⟩; have HB4 := hid (bel_next HB3.out HB3.out.size hb4); clear hb4))
        go_loopw [35] (fun i wr => ∃ k : Nat, k ≤ ts.length ∧ i = .int .i64 k ∧ Hid (∀ t ∈ ts.take k, t.2.getD 9 0 = 0) ∧ Hid (Below W0.heap.size W0 wr)) (fun i _ => ts.length - (intOf i).toNat)
        case atStart => exact ⟨0, Nat.zero_le _, rfl, fun t ht => by simp at ht, HB4⟩
        case round =>
          clear HB4 HB3 HB1 z0 z1
          obtain ⟨k, hk, rfl, HK, HBR⟩ := hrel
          have hwr := HBR.out.size
          by_cases hlt : k < ts.length
          · obtain ⟨b0, o0, rfl⟩ := H.out.some_of hlt
            obtain ⟨c', zs', a'', cap'', hz, hc1, hsl, hc, hc', hb⟩ := (H.out.below (Nat.le_refl _) HBR.out).term_at k hlt
            have HZ := hid hz
            have HBA : Hid (Below wr.heap.size wr (wr.alloc (.cells #[.int .i64 c', .slice a'' zs'.length cap''] 39))) := (Below.refl _ _).alloc (Nat.le_refl _) _
            have y0 : (wr.alloc (.cells #[.int .i64 c', .slice a'' zs'.length cap''] 39)).cell? ⟨wr.heap.size, 0, none⟩ = some (.int .i64 c') := by rw [World.cell?_alloc_at _ _ _ _ rfl]; rfl
            have y1 : (wr.alloc (.cells #[.int .i64 c', .slice a'' zs'.length cap''] 39)).cell? ⟨wr.heap.size, 1, none⟩ = some (.slice a'' zs'.length cap'') := by rw [World.cell?_alloc_at _ _ _ _ rfl]; rfl
            have HCT := hid (c_coeff c' a'' cap'' zs' 9 _ (hsl.below (Nat.le_refl _) HBA.out))
            have i0 : (0 : Int) ≤ (k : Int) := by omega
            have i1 : (k : Int) < (ts.length : Int) := by omega
            clear hz hsl
            by_cases h9 : coefAt (c', zs') 9 = 0
            · have HK2 : Hid (∀ t ∈ ts.take (k + 1), t.2.getD 9 0 = 0) := fun t ht => by
                rw [List.take_add_one, HZ.out] at ht
                rcases List.mem_append.1 ht with ht | ht
                · exact HK.out t ht
                · simp at ht; subst ht; exact h9
              rw [h9] at HCT
              clear h9
              go_wp2_with (go_at_call 37; refine HCT.out.mono ?_; rintro e w5 ⟨rfl, hb5⟩; have HB5 := hid (bel_next HBR.out hwr (bel_next HBA.out HBA.out.size hb5)); clear hb5)
              go_roundw
              case rel => exact ⟨k + 1, by omega, by go_num, HK2, HB5⟩
              case measure => simp [intOf]; omega
            · have HF := hid (leastO_fact (g := (c, zs)) (List.mem_of_getElem? HZ.out) h9)
              obtain ⟨z9, hz9e⟩ : ∃ z, coefAt (c', zs') 9 = z := ⟨_, rfl⟩
              rw [hz9e] at HCT h9
              clear hz9e
              go_wp2_with (go_at_call 37; refine HCT.out.mono ?_; rintro e w5 ⟨rfl, hb5⟩; have HB5 := hid (HB0.out.trans ((bel_next HBR.out hwr (bel_next HBA.out HBA.out.size hb5)).mono (by omega))); clear hb5)
              refine bodyPost_ret (v := .tuple #[.int .i64 0, .bool false]) (by simp [results, Try.results17, go_sem]) rfl ?_
              rw [HF.out]
              exact ⟨rfl, HB5.out⟩
          · have HTS9 : Hid (ts.all (fun t => t.2.getD 9 0 == 0) = true) := by
              unfold Hid
              rw [List.all_eq_true]
              intro t ht
              have h7 := HK.out
              rw [List.take_of_length_le (by omega)] at h7
              simpa using h7 t ht
            have HGO : Hid (leastO ts (c, zs) = leastN ts (c, zs)) := by
              unfold Hid leastO
              rw [HR.out, HV.out, Bool.and_self, if_pos rfl, if_pos ⟨HZ9.out, HTS9.out⟩]
            clear HK
            go_wp2
            have HSS : Hid (∀ w' : World, Below wr.heap.size wr w' → w'.cell? ⟨w.heap.size, 0, none⟩ = some (.int .i64 c) ∧ w'.cell? ⟨w.heap.size, 1, none⟩ = some (.slice ag zs.length pg)) := fun w' hb' => HCL.out _ (bel_next HBR.out hwr hb')
            have HGZ : Hid (∀ w' : World, Below wr.heap.size wr w' → SlRd cInt (fun _ => True) w' ag pg zs) := fun w' hb' => (HG.out.below (Nat.le_refl _) (bel_next HBR.out hwr hb')).keep fun _ _ _ => ⟨trivial, rfl⟩
            have hvg := valid_sm HV.out
            have HCI : Hid (I64 c) := by have h9 := hvg.1; unfold sm at h9; exact ⟨by omega, by omega⟩
            have HTS2 : Hid (∀ t ∈ [((0 : Int), unit9), (c, zs)], (sm t.1 ∧ ∀ z ∈ t.2, sm z) ∧ t.2.length ≤ 10) := fun t ht => by
              rcases List.mem_cons.1 ht with rfl | ht
              · refine ⟨⟨⟨by decide, by decide⟩, fun z hz => ?_⟩, by decide⟩
                obtain ⟨i, hi⟩ := List.mem_iff_getElem?.1 hz
                have := unit9_at i
                rw [List.getD_eq_getElem?_getD, hi] at this
                simp at this
                exact ⟨by omega, by omega⟩
              · rw [List.mem_singleton.1 ht]; exact ⟨⟨hvg.1, hvg.2.1⟩, hvg.2.2⟩
            have HMS2 : Hid (∀ z ∈ [(1 : Int), -1], sm z) := fun z hz => by
              rcases List.mem_cons.1 hz with rfl | hz
              · exact ⟨by decide, by decide⟩
              · rw [List.mem_singleton.1 hz]; exact ⟨by decide, by decide⟩
            clear hvg
            refine wp_region_via (fun a a' w' => ∃ (be L ls bl bc : Nat), a' = (((((((a.put (some 44) (.int .i64 9)).put (some 45) (.agg #[.int .i64 0, .slice (some ⟨ls, 0, none⟩) 10 10])).put (some 46) (.agg #[.int .i64 c, .slice ag zs.length pg])).put (some 47) (.slice (some ⟨bl, 0, none⟩) 2 2)).put (some 48) (.slice (some ⟨bc, 0, none⟩) 2 2)).put (some 49) (.agg #[.int .i64 (addedT (c, zs)).1, .slice (some ⟨L, 0, none⟩) 10 10])).put (some 9) (.pointer (some ⟨be, 0, none⟩))) ∧ w'.cell? ⟨be, 0, none⟩ = some (.int .i64 (addedT (c, zs)).1) ∧ w'.cell? ⟨be, 1, none⟩ = some (.slice (some ⟨L, 0, none⟩) 10 10) ∧ SlRd cInt (fun _ => True) w' (some ⟨L, 0, none⟩) 10 (addedT (c, zs)).2 ∧ Below wr.heap.size wr w') ?rg ?tl
            case rg =>
                refine wp_region_held_drew (S := fun w' => w'.cell? ⟨w.heap.size, 0, none⟩ = some (.int .i64 c) ∧ w'.cell? ⟨w.heap.size, 1, none⟩ = some (.slice ag zs.length pg)) (by kernel_rfl) (HSS.out _ ((Below.refl _ wr).drew)) (fun hHeld => ?_)
                have HB : Hid (Below wr.heap.size wr wr.drew) := (Below.refl _ _).drew
                generalize wr.drew = V0 at *
                refine rgH (i := 0) (oi := ?qo1) ?qh1 ?qr1
                case qh1 => (simp only [List.getElem?_toArray, List.getElem?_cons_zero]; rfl)
                (refine ⟨by kernel_rfl, by kernel_rfl, by kernel_rfl, by assumption, ?qv1, fun _ _ _ h => h, Or.inl ⟨by kernel_rfl, ?qy1⟩, ?qn1⟩; case qy1 => (intro w hSw; (try dsimp only at hSw); go_simp; try with_reducible rfl))
                (try simp only [Act.put, List.setIfInBounds_toArray, List.set_cons_zero, List.set_cons_succ])
                refine rgH (i := 2) (oi := ?qo2) ?qh2 ?qr2
                case qh2 => (simp only [List.getElem?_toArray, List.getElem?_cons_succ, List.getElem?_cons_zero]; rfl)
                (refine ⟨by kernel_rfl, by kernel_rfl, by kernel_rfl, by assumption, ?qv2, fun _ _ _ h => h, Or.inl ⟨by kernel_rfl, ?qy2⟩, ?qn2⟩; case qy2 => (intro w hSw; (try dsimp only at hSw); go_simp; try with_reducible rfl))
                (try simp only [Act.put, List.setIfInBounds_toArray, List.set_cons_zero, List.set_cons_succ])
                -- REGION
                refine wpAnyH_ready (rs := [1, 4, 6]) (by kernel_rfl) (by simp) ?_
                refine rgHcall3 (i := 1) (j := 4) (k := 6) (o := ?toR11) (o' := ?toR12) (o'' := ?toR13) ?thR11 ?thR12 ?thR13 ?wayR11 ?wayR12 ?wayR13
                case thR11 => (simp only [List.getElem?_toArray, List.getElem?_cons_succ, List.getElem?_cons_zero]; rfl)
                case thR12 => (simp only [List.getElem?_toArray, List.getElem?_cons_succ, List.getElem?_cons_zero]; rfl)
                case thR13 => (simp only [List.getElem?_toArray, List.getElem?_cons_succ, List.getElem?_cons_zero]; rfl)
                case wayR11 =>
                  intro K hK
                  go_simp
                  go_at_call 39
                  refine (c_symbolTerm _).mono ?_
                  rintro e V1 ⟨ls, rfl, hy, hb⟩
                  have HB := hid (bel_next HB.out HB.out.size hb)
                  have HY := hid (hy.keep (S' := fun _ => True) fun _ _ _ => ⟨trivial, rfl⟩)
                  clear hy hb
                  refine hK.out _ _ (HSS.out _ HB.out) (fun hHeld => ?_)
                  clear hK K
                  (try simp only [Act.put, List.setIfInBounds_toArray, List.set_cons_zero, List.set_cons_succ])
                  refine wpAnyH_ready (rs := [3, 4, 6]) (by kernel_rfl) (by simp) ?_
                  refine rgHcall3 (i := 3) (j := 4) (k := 6) (o := ?toR21) (o' := ?toR22) (o'' := ?toR23) ?thR21 ?thR22 ?thR23 ?wayR21 ?wayR22 ?wayR23
                  case thR21 => (simp only [List.getElem?_toArray, List.getElem?_cons_succ, List.getElem?_cons_zero]; rfl)
                  case thR22 => (simp only [List.getElem?_toArray, List.getElem?_cons_succ, List.getElem?_cons_zero]; rfl)
                  case thR23 => (simp only [List.getElem?_toArray, List.getElem?_cons_succ, List.getElem?_cons_zero]; rfl)
                  case wayR21 =>
                    intro K hK
                    go_simp
                    have hb : Below V1.heap.size V1 (V1.alloc (.cells #[.int .i64 0, .slice (some ⟨ls, 0, none⟩) 10 10, .int .i64 c, .slice ag zs.length pg] 39)) := (Below.refl _ _).alloc (Nat.le_refl _) _
                    have hx := rd_lit2 (C := cTerm) (S := fun _ => True) (w := V1) (e := 39) (cs := #[.int .i64 0, .slice (some ⟨ls, 0, none⟩) 10 10, .int .i64 c, .slice ag zs.length pg]) (x := (0, unit9)) (y := (c, zs)) (c1 := [.int .i64 0, .slice (some ⟨ls, 0, none⟩) 10 10]) (c2 := [.int .i64 c, .slice ag zs.length pg]) ⟨[_], [_], rfl, ⟨rfl, i64_0⟩, ⟨some ⟨ls, 0, none⟩, 10, rfl, HY.out.alloc _⟩⟩ ⟨[_], [_], rfl, ⟨rfl, HCI.out⟩, ⟨ag, pg, rfl, (HGZ.out _ HB.out).alloc _⟩⟩ rfl trivial
                    have HB := hid (bel_next HB.out HB.out.size hb)
                    have HY := hid (HY.out.below (Nat.le_refl _) hb)
                    obtain ⟨bl, hbl⟩ : ∃ x, V1.heap.size = x := ⟨_, rfl⟩
                    rw [hbl] at hx ⊢
                    clear hbl hb
                    generalize V1.alloc (.cells #[.int .i64 0, .slice (some ⟨ls, 0, none⟩) 10 10, .int .i64 c, .slice ag zs.length pg] 39) = V2 at *
                    have HT := hid hx
                    clear hx
                    refine hK.out _ _ (HSS.out _ HB.out) (fun hHeld => ?_)
                    clear hK K
                    (try simp only [Act.put, List.setIfInBounds_toArray, List.set_cons_zero, List.set_cons_succ])
                    refine wpAnyH_ready (rs := [4, 6]) (by kernel_rfl) (by simp) ?_
                    refine rgHcall2 (i := 4) (j := 6) (o := ?toR31) (o' := ?toR32) ?thR31 ?thR32 ?wayR31 ?wayR32
                    case thR31 => (simp only [List.getElem?_toArray, List.getElem?_cons_succ, List.getElem?_cons_zero]; rfl)
                    case thR32 => (simp only [List.getElem?_toArray, List.getElem?_cons_succ, List.getElem?_cons_zero]; rfl)
                    case wayR31 =>
                      intro K hK
                      go_simp
                      have hb : Below V2.heap.size V2 (V2.alloc (.cells #[.int .i64 1, .int .i64 (-1)] 2)) := (Below.refl _ _).alloc (Nat.le_refl _) _
                      have hx := rd_lit2 (C := cInt) (S := fun _ => True) (w := V2) (e := 2) (cs := #[.int .i64 1, .int .i64 (-1)]) (c1 := [.int .i64 1]) (c2 := [.int .i64 (-1)]) ⟨rfl, by omega, by omega⟩ ⟨rfl, by omega, by omega⟩ rfl trivial
                      have HB := hid (bel_next HB.out HB.out.size hb)
                      have HY := hid (HY.out.below (Nat.le_refl _) hb)
                      have HT := hid (HT.out.below (Nat.le_refl _) hb)
                      obtain ⟨bc, hbc⟩ : ∃ x, V2.heap.size = x := ⟨_, rfl⟩
                      rw [hbc] at hx ⊢
                      clear hbc hb
                      generalize V2.alloc (.cells #[.int .i64 1, .int .i64 (-1)] 2) = V3 at *
                      have HM := hid hx
                      clear hx
                      refine hK.out _ _ (HSS.out _ HB.out) (fun hHeld => ?_)
                      clear hK K
                      (try simp only [Act.put, List.setIfInBounds_toArray, List.set_cons_zero, List.set_cons_succ])
                      refine wpAnyH_ready (rs := [5, 6]) (by kernel_rfl) (by simp) ?_
                      refine rgHcall2 (i := 5) (j := 6) (o := ?toR41) (o' := ?toR42) ?thR41 ?thR42 ?wayR41 ?wayR42
                      case thR41 => (simp only [List.getElem?_toArray, List.getElem?_cons_succ, List.getElem?_cons_zero]; rfl)
                      case thR42 => (simp only [List.getElem?_toArray, List.getElem?_cons_succ, List.getElem?_cons_zero]; rfl)
                      case wayR41 =>
                        have HCC := hid (c_combined HT.out HM.out rfl (Nat.le_refl _) HTS2.out HMS2.out)
                        rw [show accN [(0, unit9), (c, zs)] [1, -1] [(0, unit9), (c, zs)].length = addedT (c, zs) from accN_added _, added_trim HZ9.out] at HCC
                        intro K hK
                        go_simp
                        go_at_call 38
                        refine HCC.out.mono ?_
                        rintro e V4 ⟨L, rfl, ho, hb⟩
                        have HB := hid (bel_next HB.out HB.out.size hb)
                        have HY := hid (HY.out.below (Nat.le_refl _) hb)
                        have HT := hid (HT.out.below (Nat.le_refl _) hb)
                        have HM := hid (HM.out.below (Nat.le_refl _) hb)
                        have HD := hid ((own_rdG ho).2.keep (S' := fun _ => True) fun _ _ _ => ⟨trivial, rfl⟩)
                        clear ho hb HCC
                        refine hK.out _ _ (HSS.out _ HB.out) (fun hHeld => ?_)
                        clear hK K
                        (try simp only [Act.put, List.setIfInBounds_toArray, List.set_cons_zero, List.set_cons_succ])
                        have HEL : Hid (wr.heap.size ≤ V4.heap.size) := HB.out.size
                        refine wpAnyH_ready (rs := [6]) (by kernel_rfl) (by simp) ?_
                        refine rgHcall (i := 6) (o := ?qo3) ?qh3 ?qk3
                        case qh3 => (simp only [List.getElem?_toArray, List.getElem?_cons_succ, List.getElem?_cons_zero]; rfl)
                        intro K hK
                        go_simp
                        skip
                        have hb : Below V4.heap.size V4 (V4.alloc (.cells #[.int .i64 0, .slice none 0 0] 39)) := (Below.refl _ _).alloc (Nat.le_refl _) _
                        have hx : (V4.alloc (.cells #[.int .i64 0, .slice none 0 0] 39)).heap[V4.heap.size]? = some (.cells #[.int .i64 0, .slice none 0 0] 39 (0, 0)) := heap_new _ _
                        have HD := hid (HD.out.keep (S' := fun b => b ≠ V4.heap.size) (w' := V4) fun b _ hl => ⟨by omega, rfl⟩)
                        have HB := hid (bel_next HB.out HB.out.size hb)
                        have HY := hid (HY.out.below (Nat.le_refl _) hb)
                        have HT := hid (HT.out.below (Nat.le_refl _) hb)
                        have HM := hid (HM.out.below (Nat.le_refl _) hb)
                        have HD := hid (HD.out.below (Nat.le_refl _) hb)
                        obtain ⟨be, hbe⟩ : ∃ x, V4.heap.size = x := ⟨_, rfl⟩
                        rw [hbe] at hx HEL HD ⊢
                        clear hbe hb
                        generalize V4.alloc (.cells #[.int .i64 0, .slice none 0 0] 39) = V5 at *
                        have HE := hid hx
                        clear hx
                        refine hK.out _ _ (HSS.out _ HB.out) (fun hHeld => ?_)
                        clear hK K
                        (try simp only [Act.put, List.setIfInBounds_toArray, List.set_cons_zero, List.set_cons_succ])
                        have r0 := cell_of HE.out (j := 0) rfl
                        have f0 := frz_of HE.out 0
                        have r1 := cell_of HE.out (j := 1) rfl
                        have f1 := frz_of HE.out 1
                        refine wpAnyH_ready (rs := [7]) (by kernel_rfl) (by simp) ?_
                        refine rgHcall (i := 7) (o := ?qo4) ?qh4 ?qk4
                        case qh4 => (simp only [List.getElem?_toArray, List.getElem?_cons_succ, List.getElem?_cons_zero]; rfl)
                        intro K hK
                        go_simp
                        skip
                        have HB := hid ((HB.out.setCell (p := ⟨be, 0, none⟩) HEL.out (.int .i64 (addedT (c, zs)).1)).setCell (p := ⟨be, 1, none⟩) HEL.out (.slice (some ⟨L, 0, none⟩) 10 10))
                        have hbk := blk_set (blk_set HE.out 0 (.int .i64 (addedT (c, zs)).1)) 1 (.slice (some ⟨L, 0, none⟩) 10 10)
                        have HD := hid (HD.out.keep (S' := fun _ => True) (w' := ((V5.setCell ⟨be, 0, none⟩ (.int .i64 (addedT (c, zs)).1)).setCell ⟨be, 1, none⟩ (.slice (some ⟨L, 0, none⟩) 10 10))) fun b hb' _ => ⟨trivial, by rw [heap_setCell_ne _ _ _ (show b ≠ be from hb'), heap_setCell_ne _ _ _ (show b ≠ be from hb')]⟩)
                        refine hK.out _ _ (HSS.out _ HB.out) (fun hHeld => ?_)
                        clear hK K
                        (try simp only [Act.put, List.setIfInBounds_toArray, List.set_cons_zero, List.set_cons_succ])
                        refine wpAnyH_done (by kernel_rfl) ?_ _
                        exact ⟨be, L, ls, bl, bc, rfl, cell_of hbk (j := 0) rfl, cell_of hbk (j := 1) rfl, HD.out, HB.out⟩
                      case wayR42 =>
                        have HEL : Hid (wr.heap.size ≤ V3.heap.size) := HB.out.size
                        intro K hK
                        go_simp
                        have hb : Below V3.heap.size V3 (V3.alloc (.cells #[.int .i64 0, .slice none 0 0] 39)) := (Below.refl _ _).alloc (Nat.le_refl _) _
                        have hx : (V3.alloc (.cells #[.int .i64 0, .slice none 0 0] 39)).heap[V3.heap.size]? = some (.cells #[.int .i64 0, .slice none 0 0] 39 (0, 0)) := heap_new _ _
                        have HB := hid (bel_next HB.out HB.out.size hb)
                        have HY := hid (HY.out.below (Nat.le_refl _) hb)
                        have HT := hid (HT.out.below (Nat.le_refl _) hb)
                        have HM := hid (HM.out.below (Nat.le_refl _) hb)
                        obtain ⟨be, hbe⟩ : ∃ x, V3.heap.size = x := ⟨_, rfl⟩
                        rw [hbe] at hx HEL ⊢
                        clear hbe hb
                        generalize V3.alloc (.cells #[.int .i64 0, .slice none 0 0] 39) = V4 at *
                        have HE := hid hx
                        clear hx
                        refine hK.out _ _ (HSS.out _ HB.out) (fun hHeld => ?_)
                        clear hK K
                        (try simp only [Act.put, List.setIfInBounds_toArray, List.set_cons_zero, List.set_cons_succ])
                        have HCC := hid (c_combined HT.out HM.out rfl (Nat.le_refl _) HTS2.out HMS2.out)
                        rw [show accN [(0, unit9), (c, zs)] [1, -1] [(0, unit9), (c, zs)].length = addedT (c, zs) from accN_added _, added_trim HZ9.out] at HCC
                        refine wpAnyH_ready (rs := [5]) (by kernel_rfl) (by simp) ?_
                        refine rgHcall (i := 5) (o := ?qo5) ?qh5 ?qk5
                        case qh5 => (simp only [List.getElem?_toArray, List.getElem?_cons_succ, List.getElem?_cons_zero]; rfl)
                        intro K hK
                        go_simp
                        skip
                        go_at_call 38
                        refine HCC.out.mono ?_
                        rintro e V5 ⟨L, rfl, ho, hb⟩
                        have hbe := (Array.getElem?_eq_some_iff.1 HE.out).1
                        have HB := hid (bel_next HB.out HB.out.size hb)
                        have HY := hid (HY.out.below (Nat.le_refl _) hb)
                        have HT := hid (HT.out.below (Nat.le_refl _) hb)
                        have HM := hid (HM.out.below (Nat.le_refl _) hb)
                        have HE := hid ((hb.block be (Array.getElem?_eq_some_iff.1 HE.out).1).trans HE.out)
                        have HD := hid ((own_rdG ho).2.keep (S' := fun b => b ≠ be) fun b hb' _ => ⟨by have := hb'.1; omega, rfl⟩)
                        clear hbe
                        clear ho hb HCC
                        refine hK.out _ _ (HSS.out _ HB.out) (fun hHeld => ?_)
                        clear hK K
                        (try simp only [Act.put, List.setIfInBounds_toArray, List.set_cons_zero, List.set_cons_succ])
                        have r0 := cell_of HE.out (j := 0) rfl
                        have f0 := frz_of HE.out 0
                        have r1 := cell_of HE.out (j := 1) rfl
                        have f1 := frz_of HE.out 1
                        refine wpAnyH_ready (rs := [7]) (by kernel_rfl) (by simp) ?_
                        refine rgHcall (i := 7) (o := ?qo6) ?qh6 ?qk6
                        case qh6 => (simp only [List.getElem?_toArray, List.getElem?_cons_succ, List.getElem?_cons_zero]; rfl)
                        intro K hK
                        go_simp
                        skip
                        have HB := hid ((HB.out.setCell (p := ⟨be, 0, none⟩) HEL.out (.int .i64 (addedT (c, zs)).1)).setCell (p := ⟨be, 1, none⟩) HEL.out (.slice (some ⟨L, 0, none⟩) 10 10))
                        have hbk := blk_set (blk_set HE.out 0 (.int .i64 (addedT (c, zs)).1)) 1 (.slice (some ⟨L, 0, none⟩) 10 10)
                        have HD := hid (HD.out.keep (S' := fun _ => True) (w' := ((V5.setCell ⟨be, 0, none⟩ (.int .i64 (addedT (c, zs)).1)).setCell ⟨be, 1, none⟩ (.slice (some ⟨L, 0, none⟩) 10 10))) fun b hb' _ => ⟨trivial, by rw [heap_setCell_ne _ _ _ (show b ≠ be from hb'), heap_setCell_ne _ _ _ (show b ≠ be from hb')]⟩)
                        refine hK.out _ _ (HSS.out _ HB.out) (fun hHeld => ?_)
                        clear hK K
                        (try simp only [Act.put, List.setIfInBounds_toArray, List.set_cons_zero, List.set_cons_succ])
                        refine wpAnyH_done (by kernel_rfl) ?_ _
                        exact ⟨be, L, ls, bl, bc, rfl, cell_of hbk (j := 0) rfl, cell_of hbk (j := 1) rfl, HD.out, HB.out⟩
                    case wayR32 =>
                      have HEL : Hid (wr.heap.size ≤ V2.heap.size) := HB.out.size
                      intro K hK
                      go_simp
                      have hb : Below V2.heap.size V2 (V2.alloc (.cells #[.int .i64 0, .slice none 0 0] 39)) := (Below.refl _ _).alloc (Nat.le_refl _) _
                      have hx : (V2.alloc (.cells #[.int .i64 0, .slice none 0 0] 39)).heap[V2.heap.size]? = some (.cells #[.int .i64 0, .slice none 0 0] 39 (0, 0)) := heap_new _ _
                      have HB := hid (bel_next HB.out HB.out.size hb)
                      have HY := hid (HY.out.below (Nat.le_refl _) hb)
                      have HT := hid (HT.out.below (Nat.le_refl _) hb)
                      obtain ⟨be, hbe⟩ : ∃ x, V2.heap.size = x := ⟨_, rfl⟩
                      rw [hbe] at hx HEL ⊢
                      clear hbe hb
                      generalize V2.alloc (.cells #[.int .i64 0, .slice none 0 0] 39) = V3 at *
                      have HE := hid hx
                      clear hx
                      refine hK.out _ _ (HSS.out _ HB.out) (fun hHeld => ?_)
                      clear hK K
                      (try simp only [Act.put, List.setIfInBounds_toArray, List.set_cons_zero, List.set_cons_succ])
                      refine wpAnyH_ready (rs := [4]) (by kernel_rfl) (by simp) ?_
                      refine rgHcall (i := 4) (o := ?qo7) ?qh7 ?qk7
                      case qh7 => (simp only [List.getElem?_toArray, List.getElem?_cons_succ, List.getElem?_cons_zero]; rfl)
                      intro K hK
                      go_simp
                      skip
                      have hb : Below V3.heap.size V3 (V3.alloc (.cells #[.int .i64 1, .int .i64 (-1)] 2)) := (Below.refl _ _).alloc (Nat.le_refl _) _
                      have hx := rd_lit2 (C := cInt) (S := fun _ => True) (w := V3) (e := 2) (cs := #[.int .i64 1, .int .i64 (-1)]) (c1 := [.int .i64 1]) (c2 := [.int .i64 (-1)]) ⟨rfl, by omega, by omega⟩ ⟨rfl, by omega, by omega⟩ rfl trivial
                      have HB := hid (bel_next HB.out HB.out.size hb)
                      have HY := hid (HY.out.below (Nat.le_refl _) hb)
                      have HT := hid (HT.out.below (Nat.le_refl _) hb)
                      have HE := hid ((hb.block be (Array.getElem?_eq_some_iff.1 HE.out).1).trans HE.out)
                      obtain ⟨bc, hbc⟩ : ∃ x, V3.heap.size = x := ⟨_, rfl⟩
                      rw [hbc] at hx ⊢
                      clear hbc hb
                      generalize V3.alloc (.cells #[.int .i64 1, .int .i64 (-1)] 2) = V4 at *
                      have HM := hid hx
                      clear hx
                      refine hK.out _ _ (HSS.out _ HB.out) (fun hHeld => ?_)
                      clear hK K
                      (try simp only [Act.put, List.setIfInBounds_toArray, List.set_cons_zero, List.set_cons_succ])
                      have HCC := hid (c_combined HT.out HM.out rfl (Nat.le_refl _) HTS2.out HMS2.out)
                      rw [show accN [(0, unit9), (c, zs)] [1, -1] [(0, unit9), (c, zs)].length = addedT (c, zs) from accN_added _, added_trim HZ9.out] at HCC
                      refine wpAnyH_ready (rs := [5]) (by kernel_rfl) (by simp) ?_
                      refine rgHcall (i := 5) (o := ?qo8) ?qh8 ?qk8
                      case qh8 => (simp only [List.getElem?_toArray, List.getElem?_cons_succ, List.getElem?_cons_zero]; rfl)
                      intro K hK
                      go_simp
                      skip
                      go_at_call 38
                      refine HCC.out.mono ?_
                      rintro e V5 ⟨L, rfl, ho, hb⟩
                      have hbe := (Array.getElem?_eq_some_iff.1 HE.out).1
                      have HB := hid (bel_next HB.out HB.out.size hb)
                      have HY := hid (HY.out.below (Nat.le_refl _) hb)
                      have HT := hid (HT.out.below (Nat.le_refl _) hb)
                      have HM := hid (HM.out.below (Nat.le_refl _) hb)
                      have HE := hid ((hb.block be (Array.getElem?_eq_some_iff.1 HE.out).1).trans HE.out)
                      have HD := hid ((own_rdG ho).2.keep (S' := fun b => b ≠ be) fun b hb' _ => ⟨by have := hb'.1; omega, rfl⟩)
                      clear hbe
                      clear ho hb HCC
                      refine hK.out _ _ (HSS.out _ HB.out) (fun hHeld => ?_)
                      clear hK K
                      (try simp only [Act.put, List.setIfInBounds_toArray, List.set_cons_zero, List.set_cons_succ])
                      have r0 := cell_of HE.out (j := 0) rfl
                      have f0 := frz_of HE.out 0
                      have r1 := cell_of HE.out (j := 1) rfl
                      have f1 := frz_of HE.out 1
                      refine wpAnyH_ready (rs := [7]) (by kernel_rfl) (by simp) ?_
                      refine rgHcall (i := 7) (o := ?qo9) ?qh9 ?qk9
                      case qh9 => (simp only [List.getElem?_toArray, List.getElem?_cons_succ, List.getElem?_cons_zero]; rfl)
                      intro K hK
                      go_simp
                      skip
                      have HB := hid ((HB.out.setCell (p := ⟨be, 0, none⟩) HEL.out (.int .i64 (addedT (c, zs)).1)).setCell (p := ⟨be, 1, none⟩) HEL.out (.slice (some ⟨L, 0, none⟩) 10 10))
                      have hbk := blk_set (blk_set HE.out 0 (.int .i64 (addedT (c, zs)).1)) 1 (.slice (some ⟨L, 0, none⟩) 10 10)
                      have HD := hid (HD.out.keep (S' := fun _ => True) (w' := ((V5.setCell ⟨be, 0, none⟩ (.int .i64 (addedT (c, zs)).1)).setCell ⟨be, 1, none⟩ (.slice (some ⟨L, 0, none⟩) 10 10))) fun b hb' _ => ⟨trivial, by rw [heap_setCell_ne _ _ _ (show b ≠ be from hb'), heap_setCell_ne _ _ _ (show b ≠ be from hb')]⟩)
                      refine hK.out _ _ (HSS.out _ HB.out) (fun hHeld => ?_)
                      clear hK K
                      (try simp only [Act.put, List.setIfInBounds_toArray, List.set_cons_zero, List.set_cons_succ])
                      refine wpAnyH_done (by kernel_rfl) ?_ _
                      exact ⟨be, L, ls, bl, bc, rfl, cell_of hbk (j := 0) rfl, cell_of hbk (j := 1) rfl, HD.out, HB.out⟩
                  case wayR22 =>
                    intro K hK
                    go_simp
                    have hb : Below V1.heap.size V1 (V1.alloc (.cells #[.int .i64 1, .int .i64 (-1)] 2)) := (Below.refl _ _).alloc (Nat.le_refl _) _
                    have hx := rd_lit2 (C := cInt) (S := fun _ => True) (w := V1) (e := 2) (cs := #[.int .i64 1, .int .i64 (-1)]) (c1 := [.int .i64 1]) (c2 := [.int .i64 (-1)]) ⟨rfl, by omega, by omega⟩ ⟨rfl, by omega, by omega⟩ rfl trivial
                    have HB := hid (bel_next HB.out HB.out.size hb)
                    have HY := hid (HY.out.below (Nat.le_refl _) hb)
                    obtain ⟨bc, hbc⟩ : ∃ x, V1.heap.size = x := ⟨_, rfl⟩
                    rw [hbc] at hx ⊢
                    clear hbc hb
                    generalize V1.alloc (.cells #[.int .i64 1, .int .i64 (-1)] 2) = V2 at *
                    have HM := hid hx
                    clear hx
                    refine hK.out _ _ (HSS.out _ HB.out) (fun hHeld => ?_)
                    clear hK K
                    (try simp only [Act.put, List.setIfInBounds_toArray, List.set_cons_zero, List.set_cons_succ])
                    refine wpAnyH_ready (rs := [3, 6]) (by kernel_rfl) (by simp) ?_
                    refine rgHcall2 (i := 3) (j := 6) (o := ?toR51) (o' := ?toR52) ?thR51 ?thR52 ?wayR51 ?wayR52
                    case thR51 => (simp only [List.getElem?_toArray, List.getElem?_cons_succ, List.getElem?_cons_zero]; rfl)
                    case thR52 => (simp only [List.getElem?_toArray, List.getElem?_cons_succ, List.getElem?_cons_zero]; rfl)
                    case wayR51 =>
                      intro K hK
                      go_simp
                      have hb : Below V2.heap.size V2 (V2.alloc (.cells #[.int .i64 0, .slice (some ⟨ls, 0, none⟩) 10 10, .int .i64 c, .slice ag zs.length pg] 39)) := (Below.refl _ _).alloc (Nat.le_refl _) _
                      have hx := rd_lit2 (C := cTerm) (S := fun _ => True) (w := V2) (e := 39) (cs := #[.int .i64 0, .slice (some ⟨ls, 0, none⟩) 10 10, .int .i64 c, .slice ag zs.length pg]) (x := (0, unit9)) (y := (c, zs)) (c1 := [.int .i64 0, .slice (some ⟨ls, 0, none⟩) 10 10]) (c2 := [.int .i64 c, .slice ag zs.length pg]) ⟨[_], [_], rfl, ⟨rfl, i64_0⟩, ⟨some ⟨ls, 0, none⟩, 10, rfl, HY.out.alloc _⟩⟩ ⟨[_], [_], rfl, ⟨rfl, HCI.out⟩, ⟨ag, pg, rfl, (HGZ.out _ HB.out).alloc _⟩⟩ rfl trivial
                      have HB := hid (bel_next HB.out HB.out.size hb)
                      have HY := hid (HY.out.below (Nat.le_refl _) hb)
                      have HM := hid (HM.out.below (Nat.le_refl _) hb)
                      obtain ⟨bl, hbl⟩ : ∃ x, V2.heap.size = x := ⟨_, rfl⟩
                      rw [hbl] at hx ⊢
                      clear hbl hb
                      generalize V2.alloc (.cells #[.int .i64 0, .slice (some ⟨ls, 0, none⟩) 10 10, .int .i64 c, .slice ag zs.length pg] 39) = V3 at *
                      have HT := hid hx
                      clear hx
                      refine hK.out _ _ (HSS.out _ HB.out) (fun hHeld => ?_)
                      clear hK K
                      (try simp only [Act.put, List.setIfInBounds_toArray, List.set_cons_zero, List.set_cons_succ])
                      refine wpAnyH_ready (rs := [5, 6]) (by kernel_rfl) (by simp) ?_
                      refine rgHcall2 (i := 5) (j := 6) (o := ?toR61) (o' := ?toR62) ?thR61 ?thR62 ?wayR61 ?wayR62
                      case thR61 => (simp only [List.getElem?_toArray, List.getElem?_cons_succ, List.getElem?_cons_zero]; rfl)
                      case thR62 => (simp only [List.getElem?_toArray, List.getElem?_cons_succ, List.getElem?_cons_zero]; rfl)
                      case wayR61 =>
                        have HCC := hid (c_combined HT.out HM.out rfl (Nat.le_refl _) HTS2.out HMS2.out)
                        rw [show accN [(0, unit9), (c, zs)] [1, -1] [(0, unit9), (c, zs)].length = addedT (c, zs) from accN_added _, added_trim HZ9.out] at HCC
                        intro K hK
                        go_simp
                        go_at_call 38
                        refine HCC.out.mono ?_
                        rintro e V4 ⟨L, rfl, ho, hb⟩
                        have HB := hid (bel_next HB.out HB.out.size hb)
                        have HY := hid (HY.out.below (Nat.le_refl _) hb)
                        have HT := hid (HT.out.below (Nat.le_refl _) hb)
                        have HM := hid (HM.out.below (Nat.le_refl _) hb)
                        have HD := hid ((own_rdG ho).2.keep (S' := fun _ => True) fun _ _ _ => ⟨trivial, rfl⟩)
                        clear ho hb HCC
                        refine hK.out _ _ (HSS.out _ HB.out) (fun hHeld => ?_)
                        clear hK K
                        (try simp only [Act.put, List.setIfInBounds_toArray, List.set_cons_zero, List.set_cons_succ])
                        have HEL : Hid (wr.heap.size ≤ V4.heap.size) := HB.out.size
                        refine wpAnyH_ready (rs := [6]) (by kernel_rfl) (by simp) ?_
                        refine rgHcall (i := 6) (o := ?qo10) ?qh10 ?qk10
                        case qh10 => (simp only [List.getElem?_toArray, List.getElem?_cons_succ, List.getElem?_cons_zero]; rfl)
                        intro K hK
                        go_simp
                        skip
                        have hb : Below V4.heap.size V4 (V4.alloc (.cells #[.int .i64 0, .slice none 0 0] 39)) := (Below.refl _ _).alloc (Nat.le_refl _) _
                        have hx : (V4.alloc (.cells #[.int .i64 0, .slice none 0 0] 39)).heap[V4.heap.size]? = some (.cells #[.int .i64 0, .slice none 0 0] 39 (0, 0)) := heap_new _ _
                        have HD := hid (HD.out.keep (S' := fun b => b ≠ V4.heap.size) (w' := V4) fun b _ hl => ⟨by omega, rfl⟩)
                        have HB := hid (bel_next HB.out HB.out.size hb)
                        have HY := hid (HY.out.below (Nat.le_refl _) hb)
                        have HT := hid (HT.out.below (Nat.le_refl _) hb)
                        have HM := hid (HM.out.below (Nat.le_refl _) hb)
                        have HD := hid (HD.out.below (Nat.le_refl _) hb)
                        obtain ⟨be, hbe⟩ : ∃ x, V4.heap.size = x := ⟨_, rfl⟩
                        rw [hbe] at hx HEL HD ⊢
                        clear hbe hb
                        generalize V4.alloc (.cells #[.int .i64 0, .slice none 0 0] 39) = V5 at *
                        have HE := hid hx
                        clear hx
                        refine hK.out _ _ (HSS.out _ HB.out) (fun hHeld => ?_)
                        clear hK K
                        (try simp only [Act.put, List.setIfInBounds_toArray, List.set_cons_zero, List.set_cons_succ])
                        have r0 := cell_of HE.out (j := 0) rfl
                        have f0 := frz_of HE.out 0
                        have r1 := cell_of HE.out (j := 1) rfl
                        have f1 := frz_of HE.out 1
                        refine wpAnyH_ready (rs := [7]) (by kernel_rfl) (by simp) ?_
                        refine rgHcall (i := 7) (o := ?qo11) ?qh11 ?qk11
                        case qh11 => (simp only [List.getElem?_toArray, List.getElem?_cons_succ, List.getElem?_cons_zero]; rfl)
                        intro K hK
                        go_simp
                        skip
                        have HB := hid ((HB.out.setCell (p := ⟨be, 0, none⟩) HEL.out (.int .i64 (addedT (c, zs)).1)).setCell (p := ⟨be, 1, none⟩) HEL.out (.slice (some ⟨L, 0, none⟩) 10 10))
                        have hbk := blk_set (blk_set HE.out 0 (.int .i64 (addedT (c, zs)).1)) 1 (.slice (some ⟨L, 0, none⟩) 10 10)
                        have HD := hid (HD.out.keep (S' := fun _ => True) (w' := ((V5.setCell ⟨be, 0, none⟩ (.int .i64 (addedT (c, zs)).1)).setCell ⟨be, 1, none⟩ (.slice (some ⟨L, 0, none⟩) 10 10))) fun b hb' _ => ⟨trivial, by rw [heap_setCell_ne _ _ _ (show b ≠ be from hb'), heap_setCell_ne _ _ _ (show b ≠ be from hb')]⟩)
                        refine hK.out _ _ (HSS.out _ HB.out) (fun hHeld => ?_)
                        clear hK K
                        (try simp only [Act.put, List.setIfInBounds_toArray, List.set_cons_zero, List.set_cons_succ])
                        refine wpAnyH_done (by kernel_rfl) ?_ _
                        exact ⟨be, L, ls, bl, bc, rfl, cell_of hbk (j := 0) rfl, cell_of hbk (j := 1) rfl, HD.out, HB.out⟩
                      case wayR62 =>
                        have HEL : Hid (wr.heap.size ≤ V3.heap.size) := HB.out.size
                        intro K hK
                        go_simp
                        have hb : Below V3.heap.size V3 (V3.alloc (.cells #[.int .i64 0, .slice none 0 0] 39)) := (Below.refl _ _).alloc (Nat.le_refl _) _
                        have hx : (V3.alloc (.cells #[.int .i64 0, .slice none 0 0] 39)).heap[V3.heap.size]? = some (.cells #[.int .i64 0, .slice none 0 0] 39 (0, 0)) := heap_new _ _
                        have HB := hid (bel_next HB.out HB.out.size hb)
                        have HY := hid (HY.out.below (Nat.le_refl _) hb)
                        have HT := hid (HT.out.below (Nat.le_refl _) hb)
                        have HM := hid (HM.out.below (Nat.le_refl _) hb)
                        obtain ⟨be, hbe⟩ : ∃ x, V3.heap.size = x := ⟨_, rfl⟩
                        rw [hbe] at hx HEL ⊢
                        clear hbe hb
                        generalize V3.alloc (.cells #[.int .i64 0, .slice none 0 0] 39) = V4 at *
                        have HE := hid hx
                        clear hx
                        refine hK.out _ _ (HSS.out _ HB.out) (fun hHeld => ?_)
                        clear hK K
                        (try simp only [Act.put, List.setIfInBounds_toArray, List.set_cons_zero, List.set_cons_succ])
                        have HCC := hid (c_combined HT.out HM.out rfl (Nat.le_refl _) HTS2.out HMS2.out)
                        rw [show accN [(0, unit9), (c, zs)] [1, -1] [(0, unit9), (c, zs)].length = addedT (c, zs) from accN_added _, added_trim HZ9.out] at HCC
                        refine wpAnyH_ready (rs := [5]) (by kernel_rfl) (by simp) ?_
                        refine rgHcall (i := 5) (o := ?qo12) ?qh12 ?qk12
                        case qh12 => (simp only [List.getElem?_toArray, List.getElem?_cons_succ, List.getElem?_cons_zero]; rfl)
                        intro K hK
                        go_simp
                        skip
                        go_at_call 38
                        refine HCC.out.mono ?_
                        rintro e V5 ⟨L, rfl, ho, hb⟩
                        have hbe := (Array.getElem?_eq_some_iff.1 HE.out).1
                        have HB := hid (bel_next HB.out HB.out.size hb)
                        have HY := hid (HY.out.below (Nat.le_refl _) hb)
                        have HT := hid (HT.out.below (Nat.le_refl _) hb)
                        have HM := hid (HM.out.below (Nat.le_refl _) hb)
                        have HE := hid ((hb.block be (Array.getElem?_eq_some_iff.1 HE.out).1).trans HE.out)
                        have HD := hid ((own_rdG ho).2.keep (S' := fun b => b ≠ be) fun b hb' _ => ⟨by have := hb'.1; omega, rfl⟩)
                        clear hbe
                        clear ho hb HCC
                        refine hK.out _ _ (HSS.out _ HB.out) (fun hHeld => ?_)
                        clear hK K
                        (try simp only [Act.put, List.setIfInBounds_toArray, List.set_cons_zero, List.set_cons_succ])
                        have r0 := cell_of HE.out (j := 0) rfl
                        have f0 := frz_of HE.out 0
                        have r1 := cell_of HE.out (j := 1) rfl
                        have f1 := frz_of HE.out 1
                        refine wpAnyH_ready (rs := [7]) (by kernel_rfl) (by simp) ?_
                        refine rgHcall (i := 7) (o := ?qo13) ?qh13 ?qk13
                        case qh13 => (simp only [List.getElem?_toArray, List.getElem?_cons_succ, List.getElem?_cons_zero]; rfl)
                        intro K hK
                        go_simp
                        skip
                        have HB := hid ((HB.out.setCell (p := ⟨be, 0, none⟩) HEL.out (.int .i64 (addedT (c, zs)).1)).setCell (p := ⟨be, 1, none⟩) HEL.out (.slice (some ⟨L, 0, none⟩) 10 10))
                        have hbk := blk_set (blk_set HE.out 0 (.int .i64 (addedT (c, zs)).1)) 1 (.slice (some ⟨L, 0, none⟩) 10 10)
                        have HD := hid (HD.out.keep (S' := fun _ => True) (w' := ((V5.setCell ⟨be, 0, none⟩ (.int .i64 (addedT (c, zs)).1)).setCell ⟨be, 1, none⟩ (.slice (some ⟨L, 0, none⟩) 10 10))) fun b hb' _ => ⟨trivial, by rw [heap_setCell_ne _ _ _ (show b ≠ be from hb'), heap_setCell_ne _ _ _ (show b ≠ be from hb')]⟩)
                        refine hK.out _ _ (HSS.out _ HB.out) (fun hHeld => ?_)
                        clear hK K
                        (try simp only [Act.put, List.setIfInBounds_toArray, List.set_cons_zero, List.set_cons_succ])
                        refine wpAnyH_done (by kernel_rfl) ?_ _
                        exact ⟨be, L, ls, bl, bc, rfl, cell_of hbk (j := 0) rfl, cell_of hbk (j := 1) rfl, HD.out, HB.out⟩
                    case wayR52 =>
                      have HEL : Hid (wr.heap.size ≤ V2.heap.size) := HB.out.size
                      intro K hK
                      go_simp
                      have hb : Below V2.heap.size V2 (V2.alloc (.cells #[.int .i64 0, .slice none 0 0] 39)) := (Below.refl _ _).alloc (Nat.le_refl _) _
                      have hx : (V2.alloc (.cells #[.int .i64 0, .slice none 0 0] 39)).heap[V2.heap.size]? = some (.cells #[.int .i64 0, .slice none 0 0] 39 (0, 0)) := heap_new _ _
                      have HB := hid (bel_next HB.out HB.out.size hb)
                      have HY := hid (HY.out.below (Nat.le_refl _) hb)
                      have HM := hid (HM.out.below (Nat.le_refl _) hb)
                      obtain ⟨be, hbe⟩ : ∃ x, V2.heap.size = x := ⟨_, rfl⟩
                      rw [hbe] at hx HEL ⊢
                      clear hbe hb
                      generalize V2.alloc (.cells #[.int .i64 0, .slice none 0 0] 39) = V3 at *
                      have HE := hid hx
                      clear hx
                      refine hK.out _ _ (HSS.out _ HB.out) (fun hHeld => ?_)
                      clear hK K
                      (try simp only [Act.put, List.setIfInBounds_toArray, List.set_cons_zero, List.set_cons_succ])
                      refine wpAnyH_ready (rs := [3]) (by kernel_rfl) (by simp) ?_
                      refine rgHcall (i := 3) (o := ?qo14) ?qh14 ?qk14
                      case qh14 => (simp only [List.getElem?_toArray, List.getElem?_cons_succ, List.getElem?_cons_zero]; rfl)
                      intro K hK
                      go_simp
                      skip
                      have hb : Below V3.heap.size V3 (V3.alloc (.cells #[.int .i64 0, .slice (some ⟨ls, 0, none⟩) 10 10, .int .i64 c, .slice ag zs.length pg] 39)) := (Below.refl _ _).alloc (Nat.le_refl _) _
                      have hx := rd_lit2 (C := cTerm) (S := fun _ => True) (w := V3) (e := 39) (cs := #[.int .i64 0, .slice (some ⟨ls, 0, none⟩) 10 10, .int .i64 c, .slice ag zs.length pg]) (x := (0, unit9)) (y := (c, zs)) (c1 := [.int .i64 0, .slice (some ⟨ls, 0, none⟩) 10 10]) (c2 := [.int .i64 c, .slice ag zs.length pg]) ⟨[_], [_], rfl, ⟨rfl, i64_0⟩, ⟨some ⟨ls, 0, none⟩, 10, rfl, HY.out.alloc _⟩⟩ ⟨[_], [_], rfl, ⟨rfl, HCI.out⟩, ⟨ag, pg, rfl, (HGZ.out _ HB.out).alloc _⟩⟩ rfl trivial
                      have HB := hid (bel_next HB.out HB.out.size hb)
                      have HY := hid (HY.out.below (Nat.le_refl _) hb)
                      have HM := hid (HM.out.below (Nat.le_refl _) hb)
                      have HE := hid ((hb.block be (Array.getElem?_eq_some_iff.1 HE.out).1).trans HE.out)
                      obtain ⟨bl, hbl⟩ : ∃ x, V3.heap.size = x := ⟨_, rfl⟩
                      rw [hbl] at hx ⊢
                      clear hbl hb
                      generalize V3.alloc (.cells #[.int .i64 0, .slice (some ⟨ls, 0, none⟩) 10 10, .int .i64 c, .slice ag zs.length pg] 39) = V4 at *
                      have HT := hid hx
                      clear hx
                      refine hK.out _ _ (HSS.out _ HB.out) (fun hHeld => ?_)
                      clear hK K
                      (try simp only [Act.put, List.setIfInBounds_toArray, List.set_cons_zero, List.set_cons_succ])
                      have HCC := hid (c_combined HT.out HM.out rfl (Nat.le_refl _) HTS2.out HMS2.out)
                      rw [show accN [(0, unit9), (c, zs)] [1, -1] [(0, unit9), (c, zs)].length = addedT (c, zs) from accN_added _, added_trim HZ9.out] at HCC
                      refine wpAnyH_ready (rs := [5]) (by kernel_rfl) (by simp) ?_
                      refine rgHcall (i := 5) (o := ?qo15) ?qh15 ?qk15
                      case qh15 => (simp only [List.getElem?_toArray, List.getElem?_cons_succ, List.getElem?_cons_zero]; rfl)
                      intro K hK
                      go_simp
                      skip
                      go_at_call 38
                      refine HCC.out.mono ?_
                      rintro e V5 ⟨L, rfl, ho, hb⟩
                      have hbe := (Array.getElem?_eq_some_iff.1 HE.out).1
                      have HB := hid (bel_next HB.out HB.out.size hb)
                      have HY := hid (HY.out.below (Nat.le_refl _) hb)
                      have HT := hid (HT.out.below (Nat.le_refl _) hb)
                      have HM := hid (HM.out.below (Nat.le_refl _) hb)
                      have HE := hid ((hb.block be (Array.getElem?_eq_some_iff.1 HE.out).1).trans HE.out)
                      have HD := hid ((own_rdG ho).2.keep (S' := fun b => b ≠ be) fun b hb' _ => ⟨by have := hb'.1; omega, rfl⟩)
                      clear hbe
                      clear ho hb HCC
                      refine hK.out _ _ (HSS.out _ HB.out) (fun hHeld => ?_)
                      clear hK K
                      (try simp only [Act.put, List.setIfInBounds_toArray, List.set_cons_zero, List.set_cons_succ])
                      have r0 := cell_of HE.out (j := 0) rfl
                      have f0 := frz_of HE.out 0
                      have r1 := cell_of HE.out (j := 1) rfl
                      have f1 := frz_of HE.out 1
                      refine wpAnyH_ready (rs := [7]) (by kernel_rfl) (by simp) ?_
                      refine rgHcall (i := 7) (o := ?qo16) ?qh16 ?qk16
                      case qh16 => (simp only [List.getElem?_toArray, List.getElem?_cons_succ, List.getElem?_cons_zero]; rfl)
                      intro K hK
                      go_simp
                      skip
                      have HB := hid ((HB.out.setCell (p := ⟨be, 0, none⟩) HEL.out (.int .i64 (addedT (c, zs)).1)).setCell (p := ⟨be, 1, none⟩) HEL.out (.slice (some ⟨L, 0, none⟩) 10 10))
                      have hbk := blk_set (blk_set HE.out 0 (.int .i64 (addedT (c, zs)).1)) 1 (.slice (some ⟨L, 0, none⟩) 10 10)
                      have HD := hid (HD.out.keep (S' := fun _ => True) (w' := ((V5.setCell ⟨be, 0, none⟩ (.int .i64 (addedT (c, zs)).1)).setCell ⟨be, 1, none⟩ (.slice (some ⟨L, 0, none⟩) 10 10))) fun b hb' _ => ⟨trivial, by rw [heap_setCell_ne _ _ _ (show b ≠ be from hb'), heap_setCell_ne _ _ _ (show b ≠ be from hb')]⟩)
                      refine hK.out _ _ (HSS.out _ HB.out) (fun hHeld => ?_)
                      clear hK K
                      (try simp only [Act.put, List.setIfInBounds_toArray, List.set_cons_zero, List.set_cons_succ])
                      refine wpAnyH_done (by kernel_rfl) ?_ _
                      exact ⟨be, L, ls, bl, bc, rfl, cell_of hbk (j := 0) rfl, cell_of hbk (j := 1) rfl, HD.out, HB.out⟩
                  case wayR23 =>
                    have HEL : Hid (wr.heap.size ≤ V1.heap.size) := HB.out.size
                    intro K hK
                    go_simp
                    have hb : Below V1.heap.size V1 (V1.alloc (.cells #[.int .i64 0, .slice none 0 0] 39)) := (Below.refl _ _).alloc (Nat.le_refl _) _
                    have hx : (V1.alloc (.cells #[.int .i64 0, .slice none 0 0] 39)).heap[V1.heap.size]? = some (.cells #[.int .i64 0, .slice none 0 0] 39 (0, 0)) := heap_new _ _
                    have HB := hid (bel_next HB.out HB.out.size hb)
                    have HY := hid (HY.out.below (Nat.le_refl _) hb)
                    obtain ⟨be, hbe⟩ : ∃ x, V1.heap.size = x := ⟨_, rfl⟩
                    rw [hbe] at hx HEL ⊢
                    clear hbe hb
                    generalize V1.alloc (.cells #[.int .i64 0, .slice none 0 0] 39) = V2 at *
                    have HE := hid hx
                    clear hx
                    refine hK.out _ _ (HSS.out _ HB.out) (fun hHeld => ?_)
                    clear hK K
                    (try simp only [Act.put, List.setIfInBounds_toArray, List.set_cons_zero, List.set_cons_succ])
                    refine wpAnyH_ready (rs := [3, 4]) (by kernel_rfl) (by simp) ?_
                    refine rgHcall2 (i := 3) (j := 4) (o := ?toR71) (o' := ?toR72) ?thR71 ?thR72 ?wayR71 ?wayR72
                    case thR71 => (simp only [List.getElem?_toArray, List.getElem?_cons_succ, List.getElem?_cons_zero]; rfl)
                    case thR72 => (simp only [List.getElem?_toArray, List.getElem?_cons_succ, List.getElem?_cons_zero]; rfl)
                    case wayR71 =>
                      intro K hK
                      go_simp
                      have hb : Below V2.heap.size V2 (V2.alloc (.cells #[.int .i64 0, .slice (some ⟨ls, 0, none⟩) 10 10, .int .i64 c, .slice ag zs.length pg] 39)) := (Below.refl _ _).alloc (Nat.le_refl _) _
                      have hx := rd_lit2 (C := cTerm) (S := fun _ => True) (w := V2) (e := 39) (cs := #[.int .i64 0, .slice (some ⟨ls, 0, none⟩) 10 10, .int .i64 c, .slice ag zs.length pg]) (x := (0, unit9)) (y := (c, zs)) (c1 := [.int .i64 0, .slice (some ⟨ls, 0, none⟩) 10 10]) (c2 := [.int .i64 c, .slice ag zs.length pg]) ⟨[_], [_], rfl, ⟨rfl, i64_0⟩, ⟨some ⟨ls, 0, none⟩, 10, rfl, HY.out.alloc _⟩⟩ ⟨[_], [_], rfl, ⟨rfl, HCI.out⟩, ⟨ag, pg, rfl, (HGZ.out _ HB.out).alloc _⟩⟩ rfl trivial
                      have HB := hid (bel_next HB.out HB.out.size hb)
                      have HY := hid (HY.out.below (Nat.le_refl _) hb)
                      have HE := hid ((hb.block be (Array.getElem?_eq_some_iff.1 HE.out).1).trans HE.out)
                      obtain ⟨bl, hbl⟩ : ∃ x, V2.heap.size = x := ⟨_, rfl⟩
                      rw [hbl] at hx ⊢
                      clear hbl hb
                      generalize V2.alloc (.cells #[.int .i64 0, .slice (some ⟨ls, 0, none⟩) 10 10, .int .i64 c, .slice ag zs.length pg] 39) = V3 at *
                      have HT := hid hx
                      clear hx
                      refine hK.out _ _ (HSS.out _ HB.out) (fun hHeld => ?_)
                      clear hK K
                      (try simp only [Act.put, List.setIfInBounds_toArray, List.set_cons_zero, List.set_cons_succ])
                      refine wpAnyH_ready (rs := [4]) (by kernel_rfl) (by simp) ?_
                      refine rgHcall (i := 4) (o := ?qo17) ?qh17 ?qk17
                      case qh17 => (simp only [List.getElem?_toArray, List.getElem?_cons_succ, List.getElem?_cons_zero]; rfl)
                      intro K hK
                      go_simp
                      skip
                      have hb : Below V3.heap.size V3 (V3.alloc (.cells #[.int .i64 1, .int .i64 (-1)] 2)) := (Below.refl _ _).alloc (Nat.le_refl _) _
                      have hx := rd_lit2 (C := cInt) (S := fun _ => True) (w := V3) (e := 2) (cs := #[.int .i64 1, .int .i64 (-1)]) (c1 := [.int .i64 1]) (c2 := [.int .i64 (-1)]) ⟨rfl, by omega, by omega⟩ ⟨rfl, by omega, by omega⟩ rfl trivial
                      have HB := hid (bel_next HB.out HB.out.size hb)
                      have HY := hid (HY.out.below (Nat.le_refl _) hb)
                      have HT := hid (HT.out.below (Nat.le_refl _) hb)
                      have HE := hid ((hb.block be (Array.getElem?_eq_some_iff.1 HE.out).1).trans HE.out)
                      obtain ⟨bc, hbc⟩ : ∃ x, V3.heap.size = x := ⟨_, rfl⟩
                      rw [hbc] at hx ⊢
                      clear hbc hb
                      generalize V3.alloc (.cells #[.int .i64 1, .int .i64 (-1)] 2) = V4 at *
                      have HM := hid hx
                      clear hx
                      refine hK.out _ _ (HSS.out _ HB.out) (fun hHeld => ?_)
                      clear hK K
                      (try simp only [Act.put, List.setIfInBounds_toArray, List.set_cons_zero, List.set_cons_succ])
                      have HCC := hid (c_combined HT.out HM.out rfl (Nat.le_refl _) HTS2.out HMS2.out)
                      rw [show accN [(0, unit9), (c, zs)] [1, -1] [(0, unit9), (c, zs)].length = addedT (c, zs) from accN_added _, added_trim HZ9.out] at HCC
                      refine wpAnyH_ready (rs := [5]) (by kernel_rfl) (by simp) ?_
                      refine rgHcall (i := 5) (o := ?qo18) ?qh18 ?qk18
                      case qh18 => (simp only [List.getElem?_toArray, List.getElem?_cons_succ, List.getElem?_cons_zero]; rfl)
                      intro K hK
                      go_simp
                      skip
                      go_at_call 38
                      refine HCC.out.mono ?_
                      rintro e V5 ⟨L, rfl, ho, hb⟩
                      have hbe := (Array.getElem?_eq_some_iff.1 HE.out).1
                      have HB := hid (bel_next HB.out HB.out.size hb)
                      have HY := hid (HY.out.below (Nat.le_refl _) hb)
                      have HT := hid (HT.out.below (Nat.le_refl _) hb)
                      have HM := hid (HM.out.below (Nat.le_refl _) hb)
                      have HE := hid ((hb.block be (Array.getElem?_eq_some_iff.1 HE.out).1).trans HE.out)
                      have HD := hid ((own_rdG ho).2.keep (S' := fun b => b ≠ be) fun b hb' _ => ⟨by have := hb'.1; omega, rfl⟩)
                      clear hbe
                      clear ho hb HCC
                      refine hK.out _ _ (HSS.out _ HB.out) (fun hHeld => ?_)
                      clear hK K
                      (try simp only [Act.put, List.setIfInBounds_toArray, List.set_cons_zero, List.set_cons_succ])
                      have r0 := cell_of HE.out (j := 0) rfl
                      have f0 := frz_of HE.out 0
                      have r1 := cell_of HE.out (j := 1) rfl
                      have f1 := frz_of HE.out 1
                      refine wpAnyH_ready (rs := [7]) (by kernel_rfl) (by simp) ?_
                      refine rgHcall (i := 7) (o := ?qo19) ?qh19 ?qk19
                      case qh19 => (simp only [List.getElem?_toArray, List.getElem?_cons_succ, List.getElem?_cons_zero]; rfl)
                      intro K hK
                      go_simp
                      skip
                      have HB := hid ((HB.out.setCell (p := ⟨be, 0, none⟩) HEL.out (.int .i64 (addedT (c, zs)).1)).setCell (p := ⟨be, 1, none⟩) HEL.out (.slice (some ⟨L, 0, none⟩) 10 10))
                      have hbk := blk_set (blk_set HE.out 0 (.int .i64 (addedT (c, zs)).1)) 1 (.slice (some ⟨L, 0, none⟩) 10 10)
                      have HD := hid (HD.out.keep (S' := fun _ => True) (w' := ((V5.setCell ⟨be, 0, none⟩ (.int .i64 (addedT (c, zs)).1)).setCell ⟨be, 1, none⟩ (.slice (some ⟨L, 0, none⟩) 10 10))) fun b hb' _ => ⟨trivial, by rw [heap_setCell_ne _ _ _ (show b ≠ be from hb'), heap_setCell_ne _ _ _ (show b ≠ be from hb')]⟩)
                      refine hK.out _ _ (HSS.out _ HB.out) (fun hHeld => ?_)
                      clear hK K
                      (try simp only [Act.put, List.setIfInBounds_toArray, List.set_cons_zero, List.set_cons_succ])
                      refine wpAnyH_done (by kernel_rfl) ?_ _
                      exact ⟨be, L, ls, bl, bc, rfl, cell_of hbk (j := 0) rfl, cell_of hbk (j := 1) rfl, HD.out, HB.out⟩
                    case wayR72 =>
                      intro K hK
                      go_simp
                      have hb : Below V2.heap.size V2 (V2.alloc (.cells #[.int .i64 1, .int .i64 (-1)] 2)) := (Below.refl _ _).alloc (Nat.le_refl _) _
                      have hx := rd_lit2 (C := cInt) (S := fun _ => True) (w := V2) (e := 2) (cs := #[.int .i64 1, .int .i64 (-1)]) (c1 := [.int .i64 1]) (c2 := [.int .i64 (-1)]) ⟨rfl, by omega, by omega⟩ ⟨rfl, by omega, by omega⟩ rfl trivial
                      have HB := hid (bel_next HB.out HB.out.size hb)
                      have HY := hid (HY.out.below (Nat.le_refl _) hb)
                      have HE := hid ((hb.block be (Array.getElem?_eq_some_iff.1 HE.out).1).trans HE.out)
                      obtain ⟨bc, hbc⟩ : ∃ x, V2.heap.size = x := ⟨_, rfl⟩
                      rw [hbc] at hx ⊢
                      clear hbc hb
                      generalize V2.alloc (.cells #[.int .i64 1, .int .i64 (-1)] 2) = V3 at *
                      have HM := hid hx
                      clear hx
                      refine hK.out _ _ (HSS.out _ HB.out) (fun hHeld => ?_)
                      clear hK K
                      (try simp only [Act.put, List.setIfInBounds_toArray, List.set_cons_zero, List.set_cons_succ])
                      refine wpAnyH_ready (rs := [3]) (by kernel_rfl) (by simp) ?_
                      refine rgHcall (i := 3) (o := ?qo20) ?qh20 ?qk20
                      case qh20 => (simp only [List.getElem?_toArray, List.getElem?_cons_succ, List.getElem?_cons_zero]; rfl)
                      intro K hK
                      go_simp
                      skip
                      have hb : Below V3.heap.size V3 (V3.alloc (.cells #[.int .i64 0, .slice (some ⟨ls, 0, none⟩) 10 10, .int .i64 c, .slice ag zs.length pg] 39)) := (Below.refl _ _).alloc (Nat.le_refl _) _
                      have hx := rd_lit2 (C := cTerm) (S := fun _ => True) (w := V3) (e := 39) (cs := #[.int .i64 0, .slice (some ⟨ls, 0, none⟩) 10 10, .int .i64 c, .slice ag zs.length pg]) (x := (0, unit9)) (y := (c, zs)) (c1 := [.int .i64 0, .slice (some ⟨ls, 0, none⟩) 10 10]) (c2 := [.int .i64 c, .slice ag zs.length pg]) ⟨[_], [_], rfl, ⟨rfl, i64_0⟩, ⟨some ⟨ls, 0, none⟩, 10, rfl, HY.out.alloc _⟩⟩ ⟨[_], [_], rfl, ⟨rfl, HCI.out⟩, ⟨ag, pg, rfl, (HGZ.out _ HB.out).alloc _⟩⟩ rfl trivial
                      have HB := hid (bel_next HB.out HB.out.size hb)
                      have HY := hid (HY.out.below (Nat.le_refl _) hb)
                      have HM := hid (HM.out.below (Nat.le_refl _) hb)
                      have HE := hid ((hb.block be (Array.getElem?_eq_some_iff.1 HE.out).1).trans HE.out)
                      obtain ⟨bl, hbl⟩ : ∃ x, V3.heap.size = x := ⟨_, rfl⟩
                      rw [hbl] at hx ⊢
                      clear hbl hb
                      generalize V3.alloc (.cells #[.int .i64 0, .slice (some ⟨ls, 0, none⟩) 10 10, .int .i64 c, .slice ag zs.length pg] 39) = V4 at *
                      have HT := hid hx
                      clear hx
                      refine hK.out _ _ (HSS.out _ HB.out) (fun hHeld => ?_)
                      clear hK K
                      (try simp only [Act.put, List.setIfInBounds_toArray, List.set_cons_zero, List.set_cons_succ])
                      have HCC := hid (c_combined HT.out HM.out rfl (Nat.le_refl _) HTS2.out HMS2.out)
                      rw [show accN [(0, unit9), (c, zs)] [1, -1] [(0, unit9), (c, zs)].length = addedT (c, zs) from accN_added _, added_trim HZ9.out] at HCC
                      refine wpAnyH_ready (rs := [5]) (by kernel_rfl) (by simp) ?_
                      refine rgHcall (i := 5) (o := ?qo21) ?qh21 ?qk21
                      case qh21 => (simp only [List.getElem?_toArray, List.getElem?_cons_succ, List.getElem?_cons_zero]; rfl)
                      intro K hK
                      go_simp
                      skip
                      go_at_call 38
                      refine HCC.out.mono ?_
                      rintro e V5 ⟨L, rfl, ho, hb⟩
                      have hbe := (Array.getElem?_eq_some_iff.1 HE.out).1
                      have HB := hid (bel_next HB.out HB.out.size hb)
                      have HY := hid (HY.out.below (Nat.le_refl _) hb)
                      have HT := hid (HT.out.below (Nat.le_refl _) hb)
                      have HM := hid (HM.out.below (Nat.le_refl _) hb)
                      have HE := hid ((hb.block be (Array.getElem?_eq_some_iff.1 HE.out).1).trans HE.out)
                      have HD := hid ((own_rdG ho).2.keep (S' := fun b => b ≠ be) fun b hb' _ => ⟨by have := hb'.1; omega, rfl⟩)
                      clear hbe
                      clear ho hb HCC
                      refine hK.out _ _ (HSS.out _ HB.out) (fun hHeld => ?_)
                      clear hK K
                      (try simp only [Act.put, List.setIfInBounds_toArray, List.set_cons_zero, List.set_cons_succ])
                      have r0 := cell_of HE.out (j := 0) rfl
                      have f0 := frz_of HE.out 0
                      have r1 := cell_of HE.out (j := 1) rfl
                      have f1 := frz_of HE.out 1
                      refine wpAnyH_ready (rs := [7]) (by kernel_rfl) (by simp) ?_
                      refine rgHcall (i := 7) (o := ?qo22) ?qh22 ?qk22
                      case qh22 => (simp only [List.getElem?_toArray, List.getElem?_cons_succ, List.getElem?_cons_zero]; rfl)
                      intro K hK
                      go_simp
                      skip
                      have HB := hid ((HB.out.setCell (p := ⟨be, 0, none⟩) HEL.out (.int .i64 (addedT (c, zs)).1)).setCell (p := ⟨be, 1, none⟩) HEL.out (.slice (some ⟨L, 0, none⟩) 10 10))
                      have hbk := blk_set (blk_set HE.out 0 (.int .i64 (addedT (c, zs)).1)) 1 (.slice (some ⟨L, 0, none⟩) 10 10)
                      have HD := hid (HD.out.keep (S' := fun _ => True) (w' := ((V5.setCell ⟨be, 0, none⟩ (.int .i64 (addedT (c, zs)).1)).setCell ⟨be, 1, none⟩ (.slice (some ⟨L, 0, none⟩) 10 10))) fun b hb' _ => ⟨trivial, by rw [heap_setCell_ne _ _ _ (show b ≠ be from hb'), heap_setCell_ne _ _ _ (show b ≠ be from hb')]⟩)
                      refine hK.out _ _ (HSS.out _ HB.out) (fun hHeld => ?_)
                      clear hK K
                      (try simp only [Act.put, List.setIfInBounds_toArray, List.set_cons_zero, List.set_cons_succ])
                      refine wpAnyH_done (by kernel_rfl) ?_ _
                      exact ⟨be, L, ls, bl, bc, rfl, cell_of hbk (j := 0) rfl, cell_of hbk (j := 1) rfl, HD.out, HB.out⟩
                case wayR12 =>
                  intro K hK
                  go_simp
                  have hb : Below V0.heap.size V0 (V0.alloc (.cells #[.int .i64 1, .int .i64 (-1)] 2)) := (Below.refl _ _).alloc (Nat.le_refl _) _
                  have hx := rd_lit2 (C := cInt) (S := fun _ => True) (w := V0) (e := 2) (cs := #[.int .i64 1, .int .i64 (-1)]) (c1 := [.int .i64 1]) (c2 := [.int .i64 (-1)]) ⟨rfl, by omega, by omega⟩ ⟨rfl, by omega, by omega⟩ rfl trivial
                  have HB := hid (bel_next HB.out HB.out.size hb)
                  obtain ⟨bc, hbc⟩ : ∃ x, V0.heap.size = x := ⟨_, rfl⟩
                  rw [hbc] at hx ⊢
                  clear hbc hb
                  generalize V0.alloc (.cells #[.int .i64 1, .int .i64 (-1)] 2) = V1 at *
                  have HM := hid hx
                  clear hx
                  refine hK.out _ _ (HSS.out _ HB.out) (fun hHeld => ?_)
                  clear hK K
                  (try simp only [Act.put, List.setIfInBounds_toArray, List.set_cons_zero, List.set_cons_succ])
                  refine wpAnyH_ready (rs := [1, 6]) (by kernel_rfl) (by simp) ?_
                  refine rgHcall2 (i := 1) (j := 6) (o := ?toR81) (o' := ?toR82) ?thR81 ?thR82 ?wayR81 ?wayR82
                  case thR81 => (simp only [List.getElem?_toArray, List.getElem?_cons_succ, List.getElem?_cons_zero]; rfl)
                  case thR82 => (simp only [List.getElem?_toArray, List.getElem?_cons_succ, List.getElem?_cons_zero]; rfl)
                  case wayR81 =>
                    intro K hK
                    go_simp
                    go_at_call 39
                    refine (c_symbolTerm _).mono ?_
                    rintro e V2 ⟨ls, rfl, hy, hb⟩
                    have HB := hid (bel_next HB.out HB.out.size hb)
                    have HM := hid (HM.out.below (Nat.le_refl _) hb)
                    have HY := hid (hy.keep (S' := fun _ => True) fun _ _ _ => ⟨trivial, rfl⟩)
                    clear hy hb
                    refine hK.out _ _ (HSS.out _ HB.out) (fun hHeld => ?_)
                    clear hK K
                    (try simp only [Act.put, List.setIfInBounds_toArray, List.set_cons_zero, List.set_cons_succ])
                    refine wpAnyH_ready (rs := [3, 6]) (by kernel_rfl) (by simp) ?_
                    refine rgHcall2 (i := 3) (j := 6) (o := ?toR91) (o' := ?toR92) ?thR91 ?thR92 ?wayR91 ?wayR92
                    case thR91 => (simp only [List.getElem?_toArray, List.getElem?_cons_succ, List.getElem?_cons_zero]; rfl)
                    case thR92 => (simp only [List.getElem?_toArray, List.getElem?_cons_succ, List.getElem?_cons_zero]; rfl)
                    case wayR91 =>
                      intro K hK
                      go_simp
                      have hb : Below V2.heap.size V2 (V2.alloc (.cells #[.int .i64 0, .slice (some ⟨ls, 0, none⟩) 10 10, .int .i64 c, .slice ag zs.length pg] 39)) := (Below.refl _ _).alloc (Nat.le_refl _) _
                      have hx := rd_lit2 (C := cTerm) (S := fun _ => True) (w := V2) (e := 39) (cs := #[.int .i64 0, .slice (some ⟨ls, 0, none⟩) 10 10, .int .i64 c, .slice ag zs.length pg]) (x := (0, unit9)) (y := (c, zs)) (c1 := [.int .i64 0, .slice (some ⟨ls, 0, none⟩) 10 10]) (c2 := [.int .i64 c, .slice ag zs.length pg]) ⟨[_], [_], rfl, ⟨rfl, i64_0⟩, ⟨some ⟨ls, 0, none⟩, 10, rfl, HY.out.alloc _⟩⟩ ⟨[_], [_], rfl, ⟨rfl, HCI.out⟩, ⟨ag, pg, rfl, (HGZ.out _ HB.out).alloc _⟩⟩ rfl trivial
                      have HB := hid (bel_next HB.out HB.out.size hb)
                      have HY := hid (HY.out.below (Nat.le_refl _) hb)
                      have HM := hid (HM.out.below (Nat.le_refl _) hb)
                      obtain ⟨bl, hbl⟩ : ∃ x, V2.heap.size = x := ⟨_, rfl⟩
                      rw [hbl] at hx ⊢
                      clear hbl hb
                      generalize V2.alloc (.cells #[.int .i64 0, .slice (some ⟨ls, 0, none⟩) 10 10, .int .i64 c, .slice ag zs.length pg] 39) = V3 at *
                      have HT := hid hx
                      clear hx
                      refine hK.out _ _ (HSS.out _ HB.out) (fun hHeld => ?_)
                      clear hK K
                      (try simp only [Act.put, List.setIfInBounds_toArray, List.set_cons_zero, List.set_cons_succ])
                      refine wpAnyH_ready (rs := [5, 6]) (by kernel_rfl) (by simp) ?_
                      refine rgHcall2 (i := 5) (j := 6) (o := ?toR101) (o' := ?toR102) ?thR101 ?thR102 ?wayR101 ?wayR102
                      case thR101 => (simp only [List.getElem?_toArray, List.getElem?_cons_succ, List.getElem?_cons_zero]; rfl)
                      case thR102 => (simp only [List.getElem?_toArray, List.getElem?_cons_succ, List.getElem?_cons_zero]; rfl)
                      case wayR101 =>
                        have HCC := hid (c_combined HT.out HM.out rfl (Nat.le_refl _) HTS2.out HMS2.out)
                        rw [show accN [(0, unit9), (c, zs)] [1, -1] [(0, unit9), (c, zs)].length = addedT (c, zs) from accN_added _, added_trim HZ9.out] at HCC
                        intro K hK
                        go_simp
                        go_at_call 38
                        refine HCC.out.mono ?_
                        rintro e V4 ⟨L, rfl, ho, hb⟩
                        have HB := hid (bel_next HB.out HB.out.size hb)
                        have HY := hid (HY.out.below (Nat.le_refl _) hb)
                        have HT := hid (HT.out.below (Nat.le_refl _) hb)
                        have HM := hid (HM.out.below (Nat.le_refl _) hb)
                        have HD := hid ((own_rdG ho).2.keep (S' := fun _ => True) fun _ _ _ => ⟨trivial, rfl⟩)
                        clear ho hb HCC
                        refine hK.out _ _ (HSS.out _ HB.out) (fun hHeld => ?_)
                        clear hK K
                        (try simp only [Act.put, List.setIfInBounds_toArray, List.set_cons_zero, List.set_cons_succ])
                        have HEL : Hid (wr.heap.size ≤ V4.heap.size) := HB.out.size
                        refine wpAnyH_ready (rs := [6]) (by kernel_rfl) (by simp) ?_
                        refine rgHcall (i := 6) (o := ?qo23) ?qh23 ?qk23
                        case qh23 => (simp only [List.getElem?_toArray, List.getElem?_cons_succ, List.getElem?_cons_zero]; rfl)
                        intro K hK
                        go_simp
                        skip
                        have hb : Below V4.heap.size V4 (V4.alloc (.cells #[.int .i64 0, .slice none 0 0] 39)) := (Below.refl _ _).alloc (Nat.le_refl _) _
                        have hx : (V4.alloc (.cells #[.int .i64 0, .slice none 0 0] 39)).heap[V4.heap.size]? = some (.cells #[.int .i64 0, .slice none 0 0] 39 (0, 0)) := heap_new _ _
                        have HD := hid (HD.out.keep (S' := fun b => b ≠ V4.heap.size) (w' := V4) fun b _ hl => ⟨by omega, rfl⟩)
                        have HB := hid (bel_next HB.out HB.out.size hb)
                        have HY := hid (HY.out.below (Nat.le_refl _) hb)
                        have HT := hid (HT.out.below (Nat.le_refl _) hb)
                        have HM := hid (HM.out.below (Nat.le_refl _) hb)
                        have HD := hid (HD.out.below (Nat.le_refl _) hb)
                        obtain ⟨be, hbe⟩ : ∃ x, V4.heap.size = x := ⟨_, rfl⟩
                        rw [hbe] at hx HEL HD ⊢
                        clear hbe hb
                        generalize V4.alloc (.cells #[.int .i64 0, .slice none 0 0] 39) = V5 at *
                        have HE := hid hx
                        clear hx
                        refine hK.out _ _ (HSS.out _ HB.out) (fun hHeld => ?_)
                        clear hK K
                        (try simp only [Act.put, List.setIfInBounds_toArray, List.set_cons_zero, List.set_cons_succ])
                        have r0 := cell_of HE.out (j := 0) rfl
                        have f0 := frz_of HE.out 0
                        have r1 := cell_of HE.out (j := 1) rfl
                        have f1 := frz_of HE.out 1
                        refine wpAnyH_ready (rs := [7]) (by kernel_rfl) (by simp) ?_
                        refine rgHcall (i := 7) (o := ?qo24) ?qh24 ?qk24
                        case qh24 => (simp only [List.getElem?_toArray, List.getElem?_cons_succ, List.getElem?_cons_zero]; rfl)
                        intro K hK
                        go_simp
                        skip
                        have HB := hid ((HB.out.setCell (p := ⟨be, 0, none⟩) HEL.out (.int .i64 (addedT (c, zs)).1)).setCell (p := ⟨be, 1, none⟩) HEL.out (.slice (some ⟨L, 0, none⟩) 10 10))
                        have hbk := blk_set (blk_set HE.out 0 (.int .i64 (addedT (c, zs)).1)) 1 (.slice (some ⟨L, 0, none⟩) 10 10)
                        have HD := hid (HD.out.keep (S' := fun _ => True) (w' := ((V5.setCell ⟨be, 0, none⟩ (.int .i64 (addedT (c, zs)).1)).setCell ⟨be, 1, none⟩ (.slice (some ⟨L, 0, none⟩) 10 10))) fun b hb' _ => ⟨trivial, by rw [heap_setCell_ne _ _ _ (show b ≠ be from hb'), heap_setCell_ne _ _ _ (show b ≠ be from hb')]⟩)
                        refine hK.out _ _ (HSS.out _ HB.out) (fun hHeld => ?_)
                        clear hK K
                        (try simp only [Act.put, List.setIfInBounds_toArray, List.set_cons_zero, List.set_cons_succ])
                        refine wpAnyH_done (by kernel_rfl) ?_ _
                        exact ⟨be, L, ls, bl, bc, rfl, cell_of hbk (j := 0) rfl, cell_of hbk (j := 1) rfl, HD.out, HB.out⟩
                      case wayR102 =>
                        have HEL : Hid (wr.heap.size ≤ V3.heap.size) := HB.out.size
                        intro K hK
                        go_simp
                        have hb : Below V3.heap.size V3 (V3.alloc (.cells #[.int .i64 0, .slice none 0 0] 39)) := (Below.refl _ _).alloc (Nat.le_refl _) _
                        have hx : (V3.alloc (.cells #[.int .i64 0, .slice none 0 0] 39)).heap[V3.heap.size]? = some (.cells #[.int .i64 0, .slice none 0 0] 39 (0, 0)) := heap_new _ _
                        have HB := hid (bel_next HB.out HB.out.size hb)
                        have HY := hid (HY.out.below (Nat.le_refl _) hb)
                        have HT := hid (HT.out.below (Nat.le_refl _) hb)
                        have HM := hid (HM.out.below (Nat.le_refl _) hb)
                        obtain ⟨be, hbe⟩ : ∃ x, V3.heap.size = x := ⟨_, rfl⟩
                        rw [hbe] at hx HEL ⊢
                        clear hbe hb
                        generalize V3.alloc (.cells #[.int .i64 0, .slice none 0 0] 39) = V4 at *
                        have HE := hid hx
                        clear hx
                        refine hK.out _ _ (HSS.out _ HB.out) (fun hHeld => ?_)
                        clear hK K
                        (try simp only [Act.put, List.setIfInBounds_toArray, List.set_cons_zero, List.set_cons_succ])
                        have HCC := hid (c_combined HT.out HM.out rfl (Nat.le_refl _) HTS2.out HMS2.out)
                        rw [show accN [(0, unit9), (c, zs)] [1, -1] [(0, unit9), (c, zs)].length = addedT (c, zs) from accN_added _, added_trim HZ9.out] at HCC
                        refine wpAnyH_ready (rs := [5]) (by kernel_rfl) (by simp) ?_
                        refine rgHcall (i := 5) (o := ?qo25) ?qh25 ?qk25
                        case qh25 => (simp only [List.getElem?_toArray, List.getElem?_cons_succ, List.getElem?_cons_zero]; rfl)
                        intro K hK
                        go_simp
                        skip
                        go_at_call 38
                        refine HCC.out.mono ?_
                        rintro e V5 ⟨L, rfl, ho, hb⟩
                        have hbe := (Array.getElem?_eq_some_iff.1 HE.out).1
                        have HB := hid (bel_next HB.out HB.out.size hb)
                        have HY := hid (HY.out.below (Nat.le_refl _) hb)
                        have HT := hid (HT.out.below (Nat.le_refl _) hb)
                        have HM := hid (HM.out.below (Nat.le_refl _) hb)
                        have HE := hid ((hb.block be (Array.getElem?_eq_some_iff.1 HE.out).1).trans HE.out)
                        have HD := hid ((own_rdG ho).2.keep (S' := fun b => b ≠ be) fun b hb' _ => ⟨by have := hb'.1; omega, rfl⟩)
                        clear hbe
                        clear ho hb HCC
                        refine hK.out _ _ (HSS.out _ HB.out) (fun hHeld => ?_)
                        clear hK K
                        (try simp only [Act.put, List.setIfInBounds_toArray, List.set_cons_zero, List.set_cons_succ])
                        have r0 := cell_of HE.out (j := 0) rfl
                        have f0 := frz_of HE.out 0
                        have r1 := cell_of HE.out (j := 1) rfl
                        have f1 := frz_of HE.out 1
                        refine wpAnyH_ready (rs := [7]) (by kernel_rfl) (by simp) ?_
                        refine rgHcall (i := 7) (o := ?qo26) ?qh26 ?qk26
                        case qh26 => (simp only [List.getElem?_toArray, List.getElem?_cons_succ, List.getElem?_cons_zero]; rfl)
                        intro K hK
                        go_simp
                        skip
                        have HB := hid ((HB.out.setCell (p := ⟨be, 0, none⟩) HEL.out (.int .i64 (addedT (c, zs)).1)).setCell (p := ⟨be, 1, none⟩) HEL.out (.slice (some ⟨L, 0, none⟩) 10 10))
                        have hbk := blk_set (blk_set HE.out 0 (.int .i64 (addedT (c, zs)).1)) 1 (.slice (some ⟨L, 0, none⟩) 10 10)
                        have HD := hid (HD.out.keep (S' := fun _ => True) (w' := ((V5.setCell ⟨be, 0, none⟩ (.int .i64 (addedT (c, zs)).1)).setCell ⟨be, 1, none⟩ (.slice (some ⟨L, 0, none⟩) 10 10))) fun b hb' _ => ⟨trivial, by rw [heap_setCell_ne _ _ _ (show b ≠ be from hb'), heap_setCell_ne _ _ _ (show b ≠ be from hb')]⟩)
                        refine hK.out _ _ (HSS.out _ HB.out) (fun hHeld => ?_)
                        clear hK K
                        (try simp only [Act.put, List.setIfInBounds_toArray, List.set_cons_zero, List.set_cons_succ])
                        refine wpAnyH_done (by kernel_rfl) ?_ _
                        exact ⟨be, L, ls, bl, bc, rfl, cell_of hbk (j := 0) rfl, cell_of hbk (j := 1) rfl, HD.out, HB.out⟩
                    case wayR92 =>
                      have HEL : Hid (wr.heap.size ≤ V2.heap.size) := HB.out.size
                      intro K hK
                      go_simp
                      have hb : Below V2.heap.size V2 (V2.alloc (.cells #[.int .i64 0, .slice none 0 0] 39)) := (Below.refl _ _).alloc (Nat.le_refl _) _
                      have hx : (V2.alloc (.cells #[.int .i64 0, .slice none 0 0] 39)).heap[V2.heap.size]? = some (.cells #[.int .i64 0, .slice none 0 0] 39 (0, 0)) := heap_new _ _
                      have HB := hid (bel_next HB.out HB.out.size hb)
                      have HY := hid (HY.out.below (Nat.le_refl _) hb)
                      have HM := hid (HM.out.below (Nat.le_refl _) hb)
                      obtain ⟨be, hbe⟩ : ∃ x, V2.heap.size = x := ⟨_, rfl⟩
                      rw [hbe] at hx HEL ⊢
                      clear hbe hb
                      generalize V2.alloc (.cells #[.int .i64 0, .slice none 0 0] 39) = V3 at *
                      have HE := hid hx
                      clear hx
                      refine hK.out _ _ (HSS.out _ HB.out) (fun hHeld => ?_)
                      clear hK K
                      (try simp only [Act.put, List.setIfInBounds_toArray, List.set_cons_zero, List.set_cons_succ])
                      refine wpAnyH_ready (rs := [3]) (by kernel_rfl) (by simp) ?_
                      refine rgHcall (i := 3) (o := ?qo27) ?qh27 ?qk27
                      case qh27 => (simp only [List.getElem?_toArray, List.getElem?_cons_succ, List.getElem?_cons_zero]; rfl)
                      intro K hK
                      go_simp
                      skip
                      have hb : Below V3.heap.size V3 (V3.alloc (.cells #[.int .i64 0, .slice (some ⟨ls, 0, none⟩) 10 10, .int .i64 c, .slice ag zs.length pg] 39)) := (Below.refl _ _).alloc (Nat.le_refl _) _
                      have hx := rd_lit2 (C := cTerm) (S := fun _ => True) (w := V3) (e := 39) (cs := #[.int .i64 0, .slice (some ⟨ls, 0, none⟩) 10 10, .int .i64 c, .slice ag zs.length pg]) (x := (0, unit9)) (y := (c, zs)) (c1 := [.int .i64 0, .slice (some ⟨ls, 0, none⟩) 10 10]) (c2 := [.int .i64 c, .slice ag zs.length pg]) ⟨[_], [_], rfl, ⟨rfl, i64_0⟩, ⟨some ⟨ls, 0, none⟩, 10, rfl, HY.out.alloc _⟩⟩ ⟨[_], [_], rfl, ⟨rfl, HCI.out⟩, ⟨ag, pg, rfl, (HGZ.out _ HB.out).alloc _⟩⟩ rfl trivial
                      have HB := hid (bel_next HB.out HB.out.size hb)
                      have HY := hid (HY.out.below (Nat.le_refl _) hb)
                      have HM := hid (HM.out.below (Nat.le_refl _) hb)
                      have HE := hid ((hb.block be (Array.getElem?_eq_some_iff.1 HE.out).1).trans HE.out)
                      obtain ⟨bl, hbl⟩ : ∃ x, V3.heap.size = x := ⟨_, rfl⟩
                      rw [hbl] at hx ⊢
                      clear hbl hb
                      generalize V3.alloc (.cells #[.int .i64 0, .slice (some ⟨ls, 0, none⟩) 10 10, .int .i64 c, .slice ag zs.length pg] 39) = V4 at *
                      have HT := hid hx
                      clear hx
                      refine hK.out _ _ (HSS.out _ HB.out) (fun hHeld => ?_)
                      clear hK K
                      (try simp only [Act.put, List.setIfInBounds_toArray, List.set_cons_zero, List.set_cons_succ])
                      have HCC := hid (c_combined HT.out HM.out rfl (Nat.le_refl _) HTS2.out HMS2.out)
                      rw [show accN [(0, unit9), (c, zs)] [1, -1] [(0, unit9), (c, zs)].length = addedT (c, zs) from accN_added _, added_trim HZ9.out] at HCC
                      refine wpAnyH_ready (rs := [5]) (by kernel_rfl) (by simp) ?_
                      refine rgHcall (i := 5) (o := ?qo28) ?qh28 ?qk28
                      case qh28 => (simp only [List.getElem?_toArray, List.getElem?_cons_succ, List.getElem?_cons_zero]; rfl)
                      intro K hK
                      go_simp
                      skip
                      go_at_call 38
                      refine HCC.out.mono ?_
                      rintro e V5 ⟨L, rfl, ho, hb⟩
                      have hbe := (Array.getElem?_eq_some_iff.1 HE.out).1
                      have HB := hid (bel_next HB.out HB.out.size hb)
                      have HY := hid (HY.out.below (Nat.le_refl _) hb)
                      have HT := hid (HT.out.below (Nat.le_refl _) hb)
                      have HM := hid (HM.out.below (Nat.le_refl _) hb)
                      have HE := hid ((hb.block be (Array.getElem?_eq_some_iff.1 HE.out).1).trans HE.out)
                      have HD := hid ((own_rdG ho).2.keep (S' := fun b => b ≠ be) fun b hb' _ => ⟨by have := hb'.1; omega, rfl⟩)
                      clear hbe
                      clear ho hb HCC
                      refine hK.out _ _ (HSS.out _ HB.out) (fun hHeld => ?_)
                      clear hK K
                      (try simp only [Act.put, List.setIfInBounds_toArray, List.set_cons_zero, List.set_cons_succ])
                      have r0 := cell_of HE.out (j := 0) rfl
                      have f0 := frz_of HE.out 0
                      have r1 := cell_of HE.out (j := 1) rfl
                      have f1 := frz_of HE.out 1
                      refine wpAnyH_ready (rs := [7]) (by kernel_rfl) (by simp) ?_
                      refine rgHcall (i := 7) (o := ?qo29) ?qh29 ?qk29
                      case qh29 => (simp only [List.getElem?_toArray, List.getElem?_cons_succ, List.getElem?_cons_zero]; rfl)
                      intro K hK
                      go_simp
                      skip
                      have HB := hid ((HB.out.setCell (p := ⟨be, 0, none⟩) HEL.out (.int .i64 (addedT (c, zs)).1)).setCell (p := ⟨be, 1, none⟩) HEL.out (.slice (some ⟨L, 0, none⟩) 10 10))
                      have hbk := blk_set (blk_set HE.out 0 (.int .i64 (addedT (c, zs)).1)) 1 (.slice (some ⟨L, 0, none⟩) 10 10)
                      have HD := hid (HD.out.keep (S' := fun _ => True) (w' := ((V5.setCell ⟨be, 0, none⟩ (.int .i64 (addedT (c, zs)).1)).setCell ⟨be, 1, none⟩ (.slice (some ⟨L, 0, none⟩) 10 10))) fun b hb' _ => ⟨trivial, by rw [heap_setCell_ne _ _ _ (show b ≠ be from hb'), heap_setCell_ne _ _ _ (show b ≠ be from hb')]⟩)
                      refine hK.out _ _ (HSS.out _ HB.out) (fun hHeld => ?_)
                      clear hK K
                      (try simp only [Act.put, List.setIfInBounds_toArray, List.set_cons_zero, List.set_cons_succ])
                      refine wpAnyH_done (by kernel_rfl) ?_ _
                      exact ⟨be, L, ls, bl, bc, rfl, cell_of hbk (j := 0) rfl, cell_of hbk (j := 1) rfl, HD.out, HB.out⟩
                  case wayR82 =>
                    have HEL : Hid (wr.heap.size ≤ V1.heap.size) := HB.out.size
                    intro K hK
                    go_simp
                    have hb : Below V1.heap.size V1 (V1.alloc (.cells #[.int .i64 0, .slice none 0 0] 39)) := (Below.refl _ _).alloc (Nat.le_refl _) _
                    have hx : (V1.alloc (.cells #[.int .i64 0, .slice none 0 0] 39)).heap[V1.heap.size]? = some (.cells #[.int .i64 0, .slice none 0 0] 39 (0, 0)) := heap_new _ _
                    have HB := hid (bel_next HB.out HB.out.size hb)
                    have HM := hid (HM.out.below (Nat.le_refl _) hb)
                    obtain ⟨be, hbe⟩ : ∃ x, V1.heap.size = x := ⟨_, rfl⟩
                    rw [hbe] at hx HEL ⊢
                    clear hbe hb
                    generalize V1.alloc (.cells #[.int .i64 0, .slice none 0 0] 39) = V2 at *
                    have HE := hid hx
                    clear hx
                    refine hK.out _ _ (HSS.out _ HB.out) (fun hHeld => ?_)
                    clear hK K
                    (try simp only [Act.put, List.setIfInBounds_toArray, List.set_cons_zero, List.set_cons_succ])
                    refine wpAnyH_ready (rs := [1]) (by kernel_rfl) (by simp) ?_
                    refine rgHcall (i := 1) (o := ?qo30) ?qh30 ?qk30
                    case qh30 => (simp only [List.getElem?_toArray, List.getElem?_cons_succ, List.getElem?_cons_zero]; rfl)
                    intro K hK
                    go_simp
                    skip
                    go_at_call 39
                    refine (c_symbolTerm _).mono ?_
                    rintro e V3 ⟨ls, rfl, hy, hb⟩
                    have HB := hid (bel_next HB.out HB.out.size hb)
                    have HM := hid (HM.out.below (Nat.le_refl _) hb)
                    have HE := hid ((hb.block be (Array.getElem?_eq_some_iff.1 HE.out).1).trans HE.out)
                    have HY := hid (hy.keep (S' := fun _ => True) fun _ _ _ => ⟨trivial, rfl⟩)
                    clear hy hb
                    refine hK.out _ _ (HSS.out _ HB.out) (fun hHeld => ?_)
                    clear hK K
                    (try simp only [Act.put, List.setIfInBounds_toArray, List.set_cons_zero, List.set_cons_succ])
                    refine wpAnyH_ready (rs := [3]) (by kernel_rfl) (by simp) ?_
                    refine rgHcall (i := 3) (o := ?qo31) ?qh31 ?qk31
                    case qh31 => (simp only [List.getElem?_toArray, List.getElem?_cons_succ, List.getElem?_cons_zero]; rfl)
                    intro K hK
                    go_simp
                    skip
                    have hb : Below V3.heap.size V3 (V3.alloc (.cells #[.int .i64 0, .slice (some ⟨ls, 0, none⟩) 10 10, .int .i64 c, .slice ag zs.length pg] 39)) := (Below.refl _ _).alloc (Nat.le_refl _) _
                    have hx := rd_lit2 (C := cTerm) (S := fun _ => True) (w := V3) (e := 39) (cs := #[.int .i64 0, .slice (some ⟨ls, 0, none⟩) 10 10, .int .i64 c, .slice ag zs.length pg]) (x := (0, unit9)) (y := (c, zs)) (c1 := [.int .i64 0, .slice (some ⟨ls, 0, none⟩) 10 10]) (c2 := [.int .i64 c, .slice ag zs.length pg]) ⟨[_], [_], rfl, ⟨rfl, i64_0⟩, ⟨some ⟨ls, 0, none⟩, 10, rfl, HY.out.alloc _⟩⟩ ⟨[_], [_], rfl, ⟨rfl, HCI.out⟩, ⟨ag, pg, rfl, (HGZ.out _ HB.out).alloc _⟩⟩ rfl trivial
                    have HB := hid (bel_next HB.out HB.out.size hb)
                    have HY := hid (HY.out.below (Nat.le_refl _) hb)
                    have HM := hid (HM.out.below (Nat.le_refl _) hb)
                    have HE := hid ((hb.block be (Array.getElem?_eq_some_iff.1 HE.out).1).trans HE.out)
                    obtain ⟨bl, hbl⟩ : ∃ x, V3.heap.size = x := ⟨_, rfl⟩
                    rw [hbl] at hx ⊢
                    clear hbl hb
                    generalize V3.alloc (.cells #[.int .i64 0, .slice (some ⟨ls, 0, none⟩) 10 10, .int .i64 c, .slice ag zs.length pg] 39) = V4 at *
                    have HT := hid hx
                    clear hx
                    refine hK.out _ _ (HSS.out _ HB.out) (fun hHeld => ?_)
                    clear hK K
                    (try simp only [Act.put, List.setIfInBounds_toArray, List.set_cons_zero, List.set_cons_succ])
                    have HCC := hid (c_combined HT.out HM.out rfl (Nat.le_refl _) HTS2.out HMS2.out)
                    rw [show accN [(0, unit9), (c, zs)] [1, -1] [(0, unit9), (c, zs)].length = addedT (c, zs) from accN_added _, added_trim HZ9.out] at HCC
                    refine wpAnyH_ready (rs := [5]) (by kernel_rfl) (by simp) ?_
                    refine rgHcall (i := 5) (o := ?qo32) ?qh32 ?qk32
                    case qh32 => (simp only [List.getElem?_toArray, List.getElem?_cons_succ, List.getElem?_cons_zero]; rfl)
                    intro K hK
                    go_simp
                    skip
                    go_at_call 38
                    refine HCC.out.mono ?_
                    rintro e V5 ⟨L, rfl, ho, hb⟩
                    have hbe := (Array.getElem?_eq_some_iff.1 HE.out).1
                    have HB := hid (bel_next HB.out HB.out.size hb)
                    have HY := hid (HY.out.below (Nat.le_refl _) hb)
                    have HT := hid (HT.out.below (Nat.le_refl _) hb)
                    have HM := hid (HM.out.below (Nat.le_refl _) hb)
                    have HE := hid ((hb.block be (Array.getElem?_eq_some_iff.1 HE.out).1).trans HE.out)
                    have HD := hid ((own_rdG ho).2.keep (S' := fun b => b ≠ be) fun b hb' _ => ⟨by have := hb'.1; omega, rfl⟩)
                    clear hbe
                    clear ho hb HCC
                    refine hK.out _ _ (HSS.out _ HB.out) (fun hHeld => ?_)
                    clear hK K
                    (try simp only [Act.put, List.setIfInBounds_toArray, List.set_cons_zero, List.set_cons_succ])
                    have r0 := cell_of HE.out (j := 0) rfl
                    have f0 := frz_of HE.out 0
                    have r1 := cell_of HE.out (j := 1) rfl
                    have f1 := frz_of HE.out 1
                    refine wpAnyH_ready (rs := [7]) (by kernel_rfl) (by simp) ?_
                    refine rgHcall (i := 7) (o := ?qo33) ?qh33 ?qk33
                    case qh33 => (simp only [List.getElem?_toArray, List.getElem?_cons_succ, List.getElem?_cons_zero]; rfl)
                    intro K hK
                    go_simp
                    skip
                    have HB := hid ((HB.out.setCell (p := ⟨be, 0, none⟩) HEL.out (.int .i64 (addedT (c, zs)).1)).setCell (p := ⟨be, 1, none⟩) HEL.out (.slice (some ⟨L, 0, none⟩) 10 10))
                    have hbk := blk_set (blk_set HE.out 0 (.int .i64 (addedT (c, zs)).1)) 1 (.slice (some ⟨L, 0, none⟩) 10 10)
                    have HD := hid (HD.out.keep (S' := fun _ => True) (w' := ((V5.setCell ⟨be, 0, none⟩ (.int .i64 (addedT (c, zs)).1)).setCell ⟨be, 1, none⟩ (.slice (some ⟨L, 0, none⟩) 10 10))) fun b hb' _ => ⟨trivial, by rw [heap_setCell_ne _ _ _ (show b ≠ be from hb'), heap_setCell_ne _ _ _ (show b ≠ be from hb')]⟩)
                    refine hK.out _ _ (HSS.out _ HB.out) (fun hHeld => ?_)
                    clear hK K
                    (try simp only [Act.put, List.setIfInBounds_toArray, List.set_cons_zero, List.set_cons_succ])
                    refine wpAnyH_done (by kernel_rfl) ?_ _
                    exact ⟨be, L, ls, bl, bc, rfl, cell_of hbk (j := 0) rfl, cell_of hbk (j := 1) rfl, HD.out, HB.out⟩
                case wayR13 =>
                  have HEL : Hid (wr.heap.size ≤ V0.heap.size) := HB.out.size
                  intro K hK
                  go_simp
                  have hb : Below V0.heap.size V0 (V0.alloc (.cells #[.int .i64 0, .slice none 0 0] 39)) := (Below.refl _ _).alloc (Nat.le_refl _) _
                  have hx : (V0.alloc (.cells #[.int .i64 0, .slice none 0 0] 39)).heap[V0.heap.size]? = some (.cells #[.int .i64 0, .slice none 0 0] 39 (0, 0)) := heap_new _ _
                  have HB := hid (bel_next HB.out HB.out.size hb)
                  obtain ⟨be, hbe⟩ : ∃ x, V0.heap.size = x := ⟨_, rfl⟩
                  rw [hbe] at hx HEL ⊢
                  clear hbe hb
                  generalize V0.alloc (.cells #[.int .i64 0, .slice none 0 0] 39) = V1 at *
                  have HE := hid hx
                  clear hx
                  refine hK.out _ _ (HSS.out _ HB.out) (fun hHeld => ?_)
                  clear hK K
                  (try simp only [Act.put, List.setIfInBounds_toArray, List.set_cons_zero, List.set_cons_succ])
                  refine wpAnyH_ready (rs := [1, 4]) (by kernel_rfl) (by simp) ?_
                  refine rgHcall2 (i := 1) (j := 4) (o := ?toR111) (o' := ?toR112) ?thR111 ?thR112 ?wayR111 ?wayR112
                  case thR111 => (simp only [List.getElem?_toArray, List.getElem?_cons_succ, List.getElem?_cons_zero]; rfl)
                  case thR112 => (simp only [List.getElem?_toArray, List.getElem?_cons_succ, List.getElem?_cons_zero]; rfl)
                  case wayR111 =>
                    intro K hK
                    go_simp
                    go_at_call 39
                    refine (c_symbolTerm _).mono ?_
                    rintro e V2 ⟨ls, rfl, hy, hb⟩
                    have HB := hid (bel_next HB.out HB.out.size hb)
                    have HE := hid ((hb.block be (Array.getElem?_eq_some_iff.1 HE.out).1).trans HE.out)
                    have HY := hid (hy.keep (S' := fun _ => True) fun _ _ _ => ⟨trivial, rfl⟩)
                    clear hy hb
                    refine hK.out _ _ (HSS.out _ HB.out) (fun hHeld => ?_)
                    clear hK K
                    (try simp only [Act.put, List.setIfInBounds_toArray, List.set_cons_zero, List.set_cons_succ])
                    refine wpAnyH_ready (rs := [3, 4]) (by kernel_rfl) (by simp) ?_
                    refine rgHcall2 (i := 3) (j := 4) (o := ?toR121) (o' := ?toR122) ?thR121 ?thR122 ?wayR121 ?wayR122
                    case thR121 => (simp only [List.getElem?_toArray, List.getElem?_cons_succ, List.getElem?_cons_zero]; rfl)
                    case thR122 => (simp only [List.getElem?_toArray, List.getElem?_cons_succ, List.getElem?_cons_zero]; rfl)
                    case wayR121 =>
                      intro K hK
                      go_simp
                      have hb : Below V2.heap.size V2 (V2.alloc (.cells #[.int .i64 0, .slice (some ⟨ls, 0, none⟩) 10 10, .int .i64 c, .slice ag zs.length pg] 39)) := (Below.refl _ _).alloc (Nat.le_refl _) _
                      have hx := rd_lit2 (C := cTerm) (S := fun _ => True) (w := V2) (e := 39) (cs := #[.int .i64 0, .slice (some ⟨ls, 0, none⟩) 10 10, .int .i64 c, .slice ag zs.length pg]) (x := (0, unit9)) (y := (c, zs)) (c1 := [.int .i64 0, .slice (some ⟨ls, 0, none⟩) 10 10]) (c2 := [.int .i64 c, .slice ag zs.length pg]) ⟨[_], [_], rfl, ⟨rfl, i64_0⟩, ⟨some ⟨ls, 0, none⟩, 10, rfl, HY.out.alloc _⟩⟩ ⟨[_], [_], rfl, ⟨rfl, HCI.out⟩, ⟨ag, pg, rfl, (HGZ.out _ HB.out).alloc _⟩⟩ rfl trivial
                      have HB := hid (bel_next HB.out HB.out.size hb)
                      have HY := hid (HY.out.below (Nat.le_refl _) hb)
                      have HE := hid ((hb.block be (Array.getElem?_eq_some_iff.1 HE.out).1).trans HE.out)
                      obtain ⟨bl, hbl⟩ : ∃ x, V2.heap.size = x := ⟨_, rfl⟩
                      rw [hbl] at hx ⊢
                      clear hbl hb
                      generalize V2.alloc (.cells #[.int .i64 0, .slice (some ⟨ls, 0, none⟩) 10 10, .int .i64 c, .slice ag zs.length pg] 39) = V3 at *
                      have HT := hid hx
                      clear hx
                      refine hK.out _ _ (HSS.out _ HB.out) (fun hHeld => ?_)
                      clear hK K
                      (try simp only [Act.put, List.setIfInBounds_toArray, List.set_cons_zero, List.set_cons_succ])
                      refine wpAnyH_ready (rs := [4]) (by kernel_rfl) (by simp) ?_
                      refine rgHcall (i := 4) (o := ?qo34) ?qh34 ?qk34
                      case qh34 => (simp only [List.getElem?_toArray, List.getElem?_cons_succ, List.getElem?_cons_zero]; rfl)
                      intro K hK
                      go_simp
                      skip
                      have hb : Below V3.heap.size V3 (V3.alloc (.cells #[.int .i64 1, .int .i64 (-1)] 2)) := (Below.refl _ _).alloc (Nat.le_refl _) _
                      have hx := rd_lit2 (C := cInt) (S := fun _ => True) (w := V3) (e := 2) (cs := #[.int .i64 1, .int .i64 (-1)]) (c1 := [.int .i64 1]) (c2 := [.int .i64 (-1)]) ⟨rfl, by omega, by omega⟩ ⟨rfl, by omega, by omega⟩ rfl trivial
                      have HB := hid (bel_next HB.out HB.out.size hb)
                      have HY := hid (HY.out.below (Nat.le_refl _) hb)
                      have HT := hid (HT.out.below (Nat.le_refl _) hb)
                      have HE := hid ((hb.block be (Array.getElem?_eq_some_iff.1 HE.out).1).trans HE.out)
                      obtain ⟨bc, hbc⟩ : ∃ x, V3.heap.size = x := ⟨_, rfl⟩
                      rw [hbc] at hx ⊢
                      clear hbc hb
                      generalize V3.alloc (.cells #[.int .i64 1, .int .i64 (-1)] 2) = V4 at *
                      have HM := hid hx
                      clear hx
                      refine hK.out _ _ (HSS.out _ HB.out) (fun hHeld => ?_)
                      clear hK K
                      (try simp only [Act.put, List.setIfInBounds_toArray, List.set_cons_zero, List.set_cons_succ])
                      have HCC := hid (c_combined HT.out HM.out rfl (Nat.le_refl _) HTS2.out HMS2.out)
                      rw [show accN [(0, unit9), (c, zs)] [1, -1] [(0, unit9), (c, zs)].length = addedT (c, zs) from accN_added _, added_trim HZ9.out] at HCC
                      refine wpAnyH_ready (rs := [5]) (by kernel_rfl) (by simp) ?_
                      refine rgHcall (i := 5) (o := ?qo35) ?qh35 ?qk35
                      case qh35 => (simp only [List.getElem?_toArray, List.getElem?_cons_succ, List.getElem?_cons_zero]; rfl)
                      intro K hK
                      go_simp
                      skip
                      go_at_call 38
                      refine HCC.out.mono ?_
                      rintro e V5 ⟨L, rfl, ho, hb⟩
                      have hbe := (Array.getElem?_eq_some_iff.1 HE.out).1
                      have HB := hid (bel_next HB.out HB.out.size hb)
                      have HY := hid (HY.out.below (Nat.le_refl _) hb)
                      have HT := hid (HT.out.below (Nat.le_refl _) hb)
                      have HM := hid (HM.out.below (Nat.le_refl _) hb)
                      have HE := hid ((hb.block be (Array.getElem?_eq_some_iff.1 HE.out).1).trans HE.out)
                      have HD := hid ((own_rdG ho).2.keep (S' := fun b => b ≠ be) fun b hb' _ => ⟨by have := hb'.1; omega, rfl⟩)
                      clear hbe
                      clear ho hb HCC
                      refine hK.out _ _ (HSS.out _ HB.out) (fun hHeld => ?_)
                      clear hK K
                      (try simp only [Act.put, List.setIfInBounds_toArray, List.set_cons_zero, List.set_cons_succ])
                      have r0 := cell_of HE.out (j := 0) rfl
                      have f0 := frz_of HE.out 0
                      have r1 := cell_of HE.out (j := 1) rfl
                      have f1 := frz_of HE.out 1
                      refine wpAnyH_ready (rs := [7]) (by kernel_rfl) (by simp) ?_
                      refine rgHcall (i := 7) (o := ?qo36) ?qh36 ?qk36
                      case qh36 => (simp only [List.getElem?_toArray, List.getElem?_cons_succ, List.getElem?_cons_zero]; rfl)
                      intro K hK
                      go_simp
                      skip
                      have HB := hid ((HB.out.setCell (p := ⟨be, 0, none⟩) HEL.out (.int .i64 (addedT (c, zs)).1)).setCell (p := ⟨be, 1, none⟩) HEL.out (.slice (some ⟨L, 0, none⟩) 10 10))
                      have hbk := blk_set (blk_set HE.out 0 (.int .i64 (addedT (c, zs)).1)) 1 (.slice (some ⟨L, 0, none⟩) 10 10)
                      have HD := hid (HD.out.keep (S' := fun _ => True) (w' := ((V5.setCell ⟨be, 0, none⟩ (.int .i64 (addedT (c, zs)).1)).setCell ⟨be, 1, none⟩ (.slice (some ⟨L, 0, none⟩) 10 10))) fun b hb' _ => ⟨trivial, by rw [heap_setCell_ne _ _ _ (show b ≠ be from hb'), heap_setCell_ne _ _ _ (show b ≠ be from hb')]⟩)
                      refine hK.out _ _ (HSS.out _ HB.out) (fun hHeld => ?_)
                      clear hK K
                      (try simp only [Act.put, List.setIfInBounds_toArray, List.set_cons_zero, List.set_cons_succ])
                      refine wpAnyH_done (by kernel_rfl) ?_ _
                      exact ⟨be, L, ls, bl, bc, rfl, cell_of hbk (j := 0) rfl, cell_of hbk (j := 1) rfl, HD.out, HB.out⟩
                    case wayR122 =>
                      intro K hK
                      go_simp
                      have hb : Below V2.heap.size V2 (V2.alloc (.cells #[.int .i64 1, .int .i64 (-1)] 2)) := (Below.refl _ _).alloc (Nat.le_refl _) _
                      have hx := rd_lit2 (C := cInt) (S := fun _ => True) (w := V2) (e := 2) (cs := #[.int .i64 1, .int .i64 (-1)]) (c1 := [.int .i64 1]) (c2 := [.int .i64 (-1)]) ⟨rfl, by omega, by omega⟩ ⟨rfl, by omega, by omega⟩ rfl trivial
                      have HB := hid (bel_next HB.out HB.out.size hb)
                      have HY := hid (HY.out.below (Nat.le_refl _) hb)
                      have HE := hid ((hb.block be (Array.getElem?_eq_some_iff.1 HE.out).1).trans HE.out)
                      obtain ⟨bc, hbc⟩ : ∃ x, V2.heap.size = x := ⟨_, rfl⟩
                      rw [hbc] at hx ⊢
                      clear hbc hb
                      generalize V2.alloc (.cells #[.int .i64 1, .int .i64 (-1)] 2) = V3 at *
                      have HM := hid hx
                      clear hx
                      refine hK.out _ _ (HSS.out _ HB.out) (fun hHeld => ?_)
                      clear hK K
                      (try simp only [Act.put, List.setIfInBounds_toArray, List.set_cons_zero, List.set_cons_succ])
                      refine wpAnyH_ready (rs := [3]) (by kernel_rfl) (by simp) ?_
                      refine rgHcall (i := 3) (o := ?qo37) ?qh37 ?qk37
                      case qh37 => (simp only [List.getElem?_toArray, List.getElem?_cons_succ, List.getElem?_cons_zero]; rfl)
                      intro K hK
                      go_simp
                      skip
                      have hb : Below V3.heap.size V3 (V3.alloc (.cells #[.int .i64 0, .slice (some ⟨ls, 0, none⟩) 10 10, .int .i64 c, .slice ag zs.length pg] 39)) := (Below.refl _ _).alloc (Nat.le_refl _) _
                      have hx := rd_lit2 (C := cTerm) (S := fun _ => True) (w := V3) (e := 39) (cs := #[.int .i64 0, .slice (some ⟨ls, 0, none⟩) 10 10, .int .i64 c, .slice ag zs.length pg]) (x := (0, unit9)) (y := (c, zs)) (c1 := [.int .i64 0, .slice (some ⟨ls, 0, none⟩) 10 10]) (c2 := [.int .i64 c, .slice ag zs.length pg]) ⟨[_], [_], rfl, ⟨rfl, i64_0⟩, ⟨some ⟨ls, 0, none⟩, 10, rfl, HY.out.alloc _⟩⟩ ⟨[_], [_], rfl, ⟨rfl, HCI.out⟩, ⟨ag, pg, rfl, (HGZ.out _ HB.out).alloc _⟩⟩ rfl trivial
                      have HB := hid (bel_next HB.out HB.out.size hb)
                      have HY := hid (HY.out.below (Nat.le_refl _) hb)
                      have HM := hid (HM.out.below (Nat.le_refl _) hb)
                      have HE := hid ((hb.block be (Array.getElem?_eq_some_iff.1 HE.out).1).trans HE.out)
                      obtain ⟨bl, hbl⟩ : ∃ x, V3.heap.size = x := ⟨_, rfl⟩
                      rw [hbl] at hx ⊢
                      clear hbl hb
                      generalize V3.alloc (.cells #[.int .i64 0, .slice (some ⟨ls, 0, none⟩) 10 10, .int .i64 c, .slice ag zs.length pg] 39) = V4 at *
                      have HT := hid hx
                      clear hx
                      refine hK.out _ _ (HSS.out _ HB.out) (fun hHeld => ?_)
                      clear hK K
                      (try simp only [Act.put, List.setIfInBounds_toArray, List.set_cons_zero, List.set_cons_succ])
                      have HCC := hid (c_combined HT.out HM.out rfl (Nat.le_refl _) HTS2.out HMS2.out)
                      rw [show accN [(0, unit9), (c, zs)] [1, -1] [(0, unit9), (c, zs)].length = addedT (c, zs) from accN_added _, added_trim HZ9.out] at HCC
                      refine wpAnyH_ready (rs := [5]) (by kernel_rfl) (by simp) ?_
                      refine rgHcall (i := 5) (o := ?qo38) ?qh38 ?qk38
                      case qh38 => (simp only [List.getElem?_toArray, List.getElem?_cons_succ, List.getElem?_cons_zero]; rfl)
                      intro K hK
                      go_simp
                      skip
                      go_at_call 38
                      refine HCC.out.mono ?_
                      rintro e V5 ⟨L, rfl, ho, hb⟩
                      have hbe := (Array.getElem?_eq_some_iff.1 HE.out).1
                      have HB := hid (bel_next HB.out HB.out.size hb)
                      have HY := hid (HY.out.below (Nat.le_refl _) hb)
                      have HT := hid (HT.out.below (Nat.le_refl _) hb)
                      have HM := hid (HM.out.below (Nat.le_refl _) hb)
                      have HE := hid ((hb.block be (Array.getElem?_eq_some_iff.1 HE.out).1).trans HE.out)
                      have HD := hid ((own_rdG ho).2.keep (S' := fun b => b ≠ be) fun b hb' _ => ⟨by have := hb'.1; omega, rfl⟩)
                      clear hbe
                      clear ho hb HCC
                      refine hK.out _ _ (HSS.out _ HB.out) (fun hHeld => ?_)
                      clear hK K
                      (try simp only [Act.put, List.setIfInBounds_toArray, List.set_cons_zero, List.set_cons_succ])
                      have r0 := cell_of HE.out (j := 0) rfl
                      have f0 := frz_of HE.out 0
                      have r1 := cell_of HE.out (j := 1) rfl
                      have f1 := frz_of HE.out 1
                      refine wpAnyH_ready (rs := [7]) (by kernel_rfl) (by simp) ?_
                      refine rgHcall (i := 7) (o := ?qo39) ?qh39 ?qk39
                      case qh39 => (simp only [List.getElem?_toArray, List.getElem?_cons_succ, List.getElem?_cons_zero]; rfl)
                      intro K hK
                      go_simp
                      skip
                      have HB := hid ((HB.out.setCell (p := ⟨be, 0, none⟩) HEL.out (.int .i64 (addedT (c, zs)).1)).setCell (p := ⟨be, 1, none⟩) HEL.out (.slice (some ⟨L, 0, none⟩) 10 10))
                      have hbk := blk_set (blk_set HE.out 0 (.int .i64 (addedT (c, zs)).1)) 1 (.slice (some ⟨L, 0, none⟩) 10 10)
                      have HD := hid (HD.out.keep (S' := fun _ => True) (w' := ((V5.setCell ⟨be, 0, none⟩ (.int .i64 (addedT (c, zs)).1)).setCell ⟨be, 1, none⟩ (.slice (some ⟨L, 0, none⟩) 10 10))) fun b hb' _ => ⟨trivial, by rw [heap_setCell_ne _ _ _ (show b ≠ be from hb'), heap_setCell_ne _ _ _ (show b ≠ be from hb')]⟩)
                      refine hK.out _ _ (HSS.out _ HB.out) (fun hHeld => ?_)
                      clear hK K
                      (try simp only [Act.put, List.setIfInBounds_toArray, List.set_cons_zero, List.set_cons_succ])
                      refine wpAnyH_done (by kernel_rfl) ?_ _
                      exact ⟨be, L, ls, bl, bc, rfl, cell_of hbk (j := 0) rfl, cell_of hbk (j := 1) rfl, HD.out, HB.out⟩
                  case wayR112 =>
                    intro K hK
                    go_simp
                    have hb : Below V1.heap.size V1 (V1.alloc (.cells #[.int .i64 1, .int .i64 (-1)] 2)) := (Below.refl _ _).alloc (Nat.le_refl _) _
                    have hx := rd_lit2 (C := cInt) (S := fun _ => True) (w := V1) (e := 2) (cs := #[.int .i64 1, .int .i64 (-1)]) (c1 := [.int .i64 1]) (c2 := [.int .i64 (-1)]) ⟨rfl, by omega, by omega⟩ ⟨rfl, by omega, by omega⟩ rfl trivial
                    have HB := hid (bel_next HB.out HB.out.size hb)
                    have HE := hid ((hb.block be (Array.getElem?_eq_some_iff.1 HE.out).1).trans HE.out)
                    obtain ⟨bc, hbc⟩ : ∃ x, V1.heap.size = x := ⟨_, rfl⟩
                    rw [hbc] at hx ⊢
                    clear hbc hb
                    generalize V1.alloc (.cells #[.int .i64 1, .int .i64 (-1)] 2) = V2 at *
                    have HM := hid hx
                    clear hx
                    refine hK.out _ _ (HSS.out _ HB.out) (fun hHeld => ?_)
                    clear hK K
                    (try simp only [Act.put, List.setIfInBounds_toArray, List.set_cons_zero, List.set_cons_succ])
                    refine wpAnyH_ready (rs := [1]) (by kernel_rfl) (by simp) ?_
                    refine rgHcall (i := 1) (o := ?qo40) ?qh40 ?qk40
                    case qh40 => (simp only [List.getElem?_toArray, List.getElem?_cons_succ, List.getElem?_cons_zero]; rfl)
                    intro K hK
                    go_simp
                    skip
                    go_at_call 39
                    refine (c_symbolTerm _).mono ?_
                    rintro e V3 ⟨ls, rfl, hy, hb⟩
                    have HB := hid (bel_next HB.out HB.out.size hb)
                    have HM := hid (HM.out.below (Nat.le_refl _) hb)
                    have HE := hid ((hb.block be (Array.getElem?_eq_some_iff.1 HE.out).1).trans HE.out)
                    have HY := hid (hy.keep (S' := fun _ => True) fun _ _ _ => ⟨trivial, rfl⟩)
                    clear hy hb
                    refine hK.out _ _ (HSS.out _ HB.out) (fun hHeld => ?_)
                    clear hK K
                    (try simp only [Act.put, List.setIfInBounds_toArray, List.set_cons_zero, List.set_cons_succ])
                    refine wpAnyH_ready (rs := [3]) (by kernel_rfl) (by simp) ?_
                    refine rgHcall (i := 3) (o := ?qo41) ?qh41 ?qk41
                    case qh41 => (simp only [List.getElem?_toArray, List.getElem?_cons_succ, List.getElem?_cons_zero]; rfl)
                    intro K hK
                    go_simp
                    skip
                    have hb : Below V3.heap.size V3 (V3.alloc (.cells #[.int .i64 0, .slice (some ⟨ls, 0, none⟩) 10 10, .int .i64 c, .slice ag zs.length pg] 39)) := (Below.refl _ _).alloc (Nat.le_refl _) _
                    have hx := rd_lit2 (C := cTerm) (S := fun _ => True) (w := V3) (e := 39) (cs := #[.int .i64 0, .slice (some ⟨ls, 0, none⟩) 10 10, .int .i64 c, .slice ag zs.length pg]) (x := (0, unit9)) (y := (c, zs)) (c1 := [.int .i64 0, .slice (some ⟨ls, 0, none⟩) 10 10]) (c2 := [.int .i64 c, .slice ag zs.length pg]) ⟨[_], [_], rfl, ⟨rfl, i64_0⟩, ⟨some ⟨ls, 0, none⟩, 10, rfl, HY.out.alloc _⟩⟩ ⟨[_], [_], rfl, ⟨rfl, HCI.out⟩, ⟨ag, pg, rfl, (HGZ.out _ HB.out).alloc _⟩⟩ rfl trivial
                    have HB := hid (bel_next HB.out HB.out.size hb)
                    have HY := hid (HY.out.below (Nat.le_refl _) hb)
                    have HM := hid (HM.out.below (Nat.le_refl _) hb)
                    have HE := hid ((hb.block be (Array.getElem?_eq_some_iff.1 HE.out).1).trans HE.out)
                    obtain ⟨bl, hbl⟩ : ∃ x, V3.heap.size = x := ⟨_, rfl⟩
                    rw [hbl] at hx ⊢
                    clear hbl hb
                    generalize V3.alloc (.cells #[.int .i64 0, .slice (some ⟨ls, 0, none⟩) 10 10, .int .i64 c, .slice ag zs.length pg] 39) = V4 at *
                    have HT := hid hx
                    clear hx
                    refine hK.out _ _ (HSS.out _ HB.out) (fun hHeld => ?_)
                    clear hK K
                    (try simp only [Act.put, List.setIfInBounds_toArray, List.set_cons_zero, List.set_cons_succ])
                    have HCC := hid (c_combined HT.out HM.out rfl (Nat.le_refl _) HTS2.out HMS2.out)
                    rw [show accN [(0, unit9), (c, zs)] [1, -1] [(0, unit9), (c, zs)].length = addedT (c, zs) from accN_added _, added_trim HZ9.out] at HCC
                    refine wpAnyH_ready (rs := [5]) (by kernel_rfl) (by simp) ?_
                    refine rgHcall (i := 5) (o := ?qo42) ?qh42 ?qk42
                    case qh42 => (simp only [List.getElem?_toArray, List.getElem?_cons_succ, List.getElem?_cons_zero]; rfl)
                    intro K hK
                    go_simp
                    skip
                    go_at_call 38
                    refine HCC.out.mono ?_
                    rintro e V5 ⟨L, rfl, ho, hb⟩
                    have hbe := (Array.getElem?_eq_some_iff.1 HE.out).1
                    have HB := hid (bel_next HB.out HB.out.size hb)
                    have HY := hid (HY.out.below (Nat.le_refl _) hb)
                    have HT := hid (HT.out.below (Nat.le_refl _) hb)
                    have HM := hid (HM.out.below (Nat.le_refl _) hb)
                    have HE := hid ((hb.block be (Array.getElem?_eq_some_iff.1 HE.out).1).trans HE.out)
                    have HD := hid ((own_rdG ho).2.keep (S' := fun b => b ≠ be) fun b hb' _ => ⟨by have := hb'.1; omega, rfl⟩)
                    clear hbe
                    clear ho hb HCC
                    refine hK.out _ _ (HSS.out _ HB.out) (fun hHeld => ?_)
                    clear hK K
                    (try simp only [Act.put, List.setIfInBounds_toArray, List.set_cons_zero, List.set_cons_succ])
                    have r0 := cell_of HE.out (j := 0) rfl
                    have f0 := frz_of HE.out 0
                    have r1 := cell_of HE.out (j := 1) rfl
                    have f1 := frz_of HE.out 1
                    refine wpAnyH_ready (rs := [7]) (by kernel_rfl) (by simp) ?_
                    refine rgHcall (i := 7) (o := ?qo43) ?qh43 ?qk43
                    case qh43 => (simp only [List.getElem?_toArray, List.getElem?_cons_succ, List.getElem?_cons_zero]; rfl)
                    intro K hK
                    go_simp
                    skip
                    have HB := hid ((HB.out.setCell (p := ⟨be, 0, none⟩) HEL.out (.int .i64 (addedT (c, zs)).1)).setCell (p := ⟨be, 1, none⟩) HEL.out (.slice (some ⟨L, 0, none⟩) 10 10))
                    have hbk := blk_set (blk_set HE.out 0 (.int .i64 (addedT (c, zs)).1)) 1 (.slice (some ⟨L, 0, none⟩) 10 10)
                    have HD := hid (HD.out.keep (S' := fun _ => True) (w' := ((V5.setCell ⟨be, 0, none⟩ (.int .i64 (addedT (c, zs)).1)).setCell ⟨be, 1, none⟩ (.slice (some ⟨L, 0, none⟩) 10 10))) fun b hb' _ => ⟨trivial, by rw [heap_setCell_ne _ _ _ (show b ≠ be from hb'), heap_setCell_ne _ _ _ (show b ≠ be from hb')]⟩)
                    refine hK.out _ _ (HSS.out _ HB.out) (fun hHeld => ?_)
                    clear hK K
                    (try simp only [Act.put, List.setIfInBounds_toArray, List.set_cons_zero, List.set_cons_succ])
                    refine wpAnyH_done (by kernel_rfl) ?_ _
                    exact ⟨be, L, ls, bl, bc, rfl, cell_of hbk (j := 0) rfl, cell_of hbk (j := 1) rfl, HD.out, HB.out⟩
                -- END
            case tl =>
                rintro a' w5 ⟨be, L, ls, bl, bc, rfl, k0, k1, hs5, hb5⟩
                (try simp only [Act.put, List.setIfInBounds_toArray, List.set_cons_zero, List.set_cons_succ])
                have HB5 := hid (bel_next HBR.out hwr hb5)
                have HD := hid hs5
                have HVA := hid (c_ValidTerm (addedT (c, zs)).1 (some ⟨L, 0, none⟩) 10 (addedT (c, zs)).2 w5 HD.out)
                rw [added_len] at HVA
                clear hs5 hb5 HSS HGZ HTS2 HMS2 HCI
                cases hv2 : validTerm (addedT (c, zs)) with
                | false =>
                  have HF : Hid (leastO ts (c, zs) = (0, false)) := by unfold Hid; rw [HGO.out]; unfold leastN; rw [hv2]; rfl
                  rw [show ((addedT (c, zs)).1, (addedT (c, zs)).2) = addedT (c, zs) from rfl, hv2] at HVA
                  clear hv2
                  go_wp2_with (go_at_call 36; refine HVA.out.mono ?_; rintro e w6 ⟨rfl, hb6⟩; have HB6 := hid (HB0.out.trans ((bel_next HB5.out HB5.out.size hb6).mono (by omega))); clear hb6)
                  refine bodyPost_ret (v := .tuple #[.int .i64 0, .bool false]) (by simp [results, Try.results17, go_sem]) rfl ?_
                  rw [HF.out]
                  exact ⟨rfl, HB6.out⟩
                | true =>
                  rw [show ((addedT (c, zs)).1, (addedT (c, zs)).2) = addedT (c, zs) from rfl, hv2] at HVA
                  obtain ⟨hva, hna, hla⟩ := added_rows HR.out HZ9.out HTS9.out hv2
                  have HAI : Hid (I64 (addedT (c, zs)).1) := by have h9 := (valid_sm hv2).1; unfold sm at h9; exact ⟨by omega, by omega⟩
                  have HLA : Hid ((ts ++ [addedT (c, zs)]).length = ts.length + 1) := by unfold Hid; simp
                  obtain ⟨KO, hKO⟩ : ∃ x, allRows (List.range 9) (ts ++ [addedT (c, zs)]) = x := ⟨_, rfl⟩
                  have HF : Hid (leastO ts (c, zs) = goK KO) := HGO.out.trans (leastN_go hv2 hKO)
                  have HCE := hid (fun (w' : World) (aX ak : Option Addr) (pX pk : Nat) (hX : SlRd cTerm (fun _ => True) w' aX pX (ts ++ [addedT (c, zs)])) (hk : SlRd cInt (fun _ => True) w' ak pk ((List.range 9).map Int.ofNat)) => c_eliminatedN (n := 9) hX hk hva hna (by decide))
                  rw [hKO, HLA.out] at HCE
                  have HWI := hid (fun (w' : World) (hb' : Below w5.heap.size w5 w') => c_with (H.out.below (Nat.le_refl _) (bel_next HB5.out HB5.out.size hb')) HAI.out (HD.out.below (Nat.le_refl _) hb') (by omega))
                  rw [added_len] at HWI
                  have HKR : Hid (∀ rows, KO = some rows → RowsOk (ts ++ [addedT (c, zs)]).length rows ∧ LastAll rows) := fun rows hk => by
                    rw [hk] at hKO
                    exact ⟨(allRows_ok hva hna hKO).1, stages_last _ _ rows (rows0_ok hva) (by rw [rows0_len]; omega) hla hKO⟩
                  clear hv2 hva hna hla hKO
                  have hbe5 : be < w5.heap.size := World.block_lt_of_cell? w5 ⟨be, 0, none⟩ k0
                  cases KO with
                  | none =>
                    go_wp2_with (first | (go_at_call 36; refine HVA.out.mono ?_; rintro e w6 ⟨rfl, hb6⟩; have HB6 := hid (hb6 : Below w5.heap.size w5 w6); have q0 := cell_below hb6 hbe5 k0; have q1 := cell_below hb6 hbe5 k1; clear hb6) | (go_at_call 40; refine (HWI.out _ HB6.out).mono ?_; rintro e w7 ⟨a7, p7, rfl, hs7, hb7⟩; have HS7 := hid hs7; have HB7 := hid (bel_next HB6.out HB6.out.size hb7); clear hs7 hb7) | (go_at_call 24; refine (c_allSymbolsN 9 (by decide) _).mono ?_; rintro e w8 ⟨ak, pk, rfl, hk8, hb8⟩; have HK8 := hid hk8; have HS8 := hid (HS7.out.below (Nat.le_refl _) hb8); have HB8 := hid (bel_next HB7.out HB7.out.size hb8); clear hk8 hb8) | (go_at_call 23; refine (HCE.out _ _ _ _ _ HS8.out HK8.out).mono ?_; rintro e w9 ⟨hb9, rfl⟩; have HB9 := hid (HB0.out.trans ((bel_next HB5.out HB5.out.size (bel_next HB8.out HB8.out.size hb9)).mono (by omega))); clear hb9))
                    refine bodyPost_ret (v := .tuple #[.int .i64 0, .bool false]) (by simp [results, Try.results17, go_sem]) rfl ?_
                    rw [HF.out]
                    exact ⟨rfl, HB9.out⟩
                  | some rows =>
                    obtain ⟨hro, hla⟩ := HKR.out rows rfl
                    have HRO := hid hro
                    have HLS := hid hla
                    clear hro hla HKR
                    go_wp2_with (first | (go_at_call 36; refine HVA.out.mono ?_; rintro e w6 ⟨rfl, hb6⟩; have HB6 := hid (hb6 : Below w5.heap.size w5 w6); have q0 := cell_below hb6 hbe5 k0; have q1 := cell_below hb6 hbe5 k1; clear hb6) | (go_at_call 40; refine (HWI.out _ HB6.out).mono ?_; rintro e w7 ⟨a7, p7, rfl, hs7, hb7⟩; have HS7 := hid hs7; have HB7 := hid (bel_next HB6.out HB6.out.size hb7); clear hs7 hb7) | (go_at_call 24; refine (c_allSymbolsN 9 (by decide) _).mono ?_; rintro e w8 ⟨ak, pk, rfl, hk8, hb8⟩; have HK8 := hid hk8; have HS8 := hid (HS7.out.below (Nat.le_refl _) hb8); have HB8 := hid (bel_next HB7.out HB7.out.size hb8); clear hk8 hb8) | (go_at_call 23; refine (HCE.out _ _ _ _ _ HS8.out HK8.out).mono ?_; rintro e w9 ⟨hb9, ar, pr, nv, rfl, hs9⟩; have HB9 := hid (HB0.out.trans ((bel_next HB5.out HB5.out.size (bel_next HB8.out HB8.out.size hb9)).mono (by omega))); have HS9 := hid hs9; clear hb9 hs9))
                    have HFR : Hid (leastO ts (c, zs) = goB rows 0 false) := HF
                    clear HF
                    go_loopw [13, 14, 67] (fun b f i wr => ∃ (j : Nat) (fb : Bool) (bb : Int), j ≤ rows.length ∧ i = .int .i64 j ∧ f = .bool fb ∧ b = .int .i64 bb ∧ Hid (goB (rows.drop j) bb fb = goB rows 0 false) ∧ Hid (Below w9.heap.size w9 wr)) (fun _ _ i _ => rows.length - (intOf i).toNat)
                    case atStart => exact ⟨0, false, 0, Nat.zero_le _, rfl, rfl, rfl, rfl, Below.refl _ _⟩
                    case round =>
                      obtain ⟨j, fb, bb, hj, rfl, rfl, rfl, HGB, HBX⟩ := hrel
                      by_cases hltj : j < rows.length
                      · obtain ⟨b0, o0, rfl⟩ := HS9.out.some_of (k := j) (by simpa using hltj)
                        obtain ⟨r, a1, p1, am, pm, hr, hr1, hs1, hs2, hg, c0, c1, c2⟩ := (HS9.out.below (Nat.le_refl _) HBX.out).rowI_at j hltj
                        have hrk := HRO.out r (List.mem_of_getElem? hr)
                        have HBA : Hid (Below wr.heap.size wr (wr.alloc (.cells #[.int .i64 r.1, .slice a1 (trimL r.2.1).length p1, .slice am r.2.2.length pm] 52))) := (Below.refl _ _).alloc (Nat.le_refl _) _
                        have x0 : (wr.alloc (.cells #[.int .i64 r.1, .slice a1 (trimL r.2.1).length p1, .slice am r.2.2.length pm] 52)).cell? ⟨wr.heap.size, 0, none⟩ = some (.int .i64 r.1) := by rw [World.cell?_alloc_at _ _ _ _ rfl]; rfl
                        have x1 : (wr.alloc (.cells #[.int .i64 r.1, .slice a1 (trimL r.2.1).length p1, .slice am r.2.2.length pm] 52)).cell? ⟨wr.heap.size, 1, none⟩ = some (.slice a1 (trimL r.2.1).length p1) := by rw [World.cell?_alloc_at _ _ _ _ rfl]; rfl
                        have x2 : (wr.alloc (.cells #[.int .i64 r.1, .slice a1 (trimL r.2.1).length p1, .slice am r.2.2.length pm] 52)).cell? ⟨wr.heap.size, 2, none⟩ = some (.slice am r.2.2.length pm) := by rw [World.cell?_alloc_at _ _ _ _ rfl]; rfl
                        have xs : wr.heap.size < (wr.alloc (.cells #[.int .i64 r.1, .slice a1 (trimL r.2.1).length p1, .slice am r.2.2.length pm] 52)).heap.size := by simp
                        have HCT := hid (c_coeffR r a1 p1 9 _ (hs1.below (Nat.le_refl _) HBA.out))
                        obtain ⟨z, hcz⟩ : ∃ z, cfR r 9 = z := ⟨_, rfl⟩
                        have hz0 : 0 ≤ z := by rw [← hcz]; exact HLS.out r (List.mem_of_getElem? hr)
                        have hzs := cfR_sm hrk 9
                        have hcs := hrk.c
                        rw [hcz] at hzs HCT
                        have HD : Hid (goB (r :: rows.drop (j + 1)) bb fb = goB rows 0 false) := by
                          have h9 := HGB.out
                          rw [List.drop_eq_getElem_cons hltj] at h9
                          rw [List.getElem?_eq_getElem hltj] at hr
                          cases hr
                          exact h9
                        have j0 : (0 : Int) ≤ (j : Int) := by omega
                        have j1 : (j : Int) < (rows.length : Int) := by omega
                        have HJ : Hid (j + 1 ≤ rows.length) := hltj
                        have hlen9 := HS9.out.len_le
                        rw [List.length_map] at hlen9
                        have wj : IntKind.i64.wrap ((j : Int) + 1) = (j : Int) + 1 := wrap_in _ (by omega) (by omega)
                        clear hr hrk hs1 hs2 HGB
                        by_cases hm0 : z = 0
                        · by_cases hneg : r.1 < 0
                          · have HFN : Hid (leastO ts (c, zs) = (0, false)) := by
                              unfold Hid
                              rw [HFR.out, ← HD.out]
                              unfold goB
                              rw [hcz, if_pos hm0, if_pos hneg]
                            subst hm0
                            clear HD hcz
                            go_wp2_with (go_at_call 37; refine HCT.out.mono ?_; rintro e w5' ⟨rfl, hb6⟩; have m0 := cell_below hb6 xs x0; have HBN := hid (bel_next HBX.out HBX.out.size (bel_next HBA.out HBA.out.size hb6)); clear hb6 x0 x1 x2)
                            refine bodyPost_ret (v := .tuple #[.int .i64 0, .bool false]) (by simp [results, Try.results17, go_sem]) rfl ?_
                            rw [HFN.out]
                            exact ⟨rfl, bel_next HB9.out HB9.out.size HBN.out⟩
                          · have HX : Hid (goB (rows.drop (j + 1)) bb fb = goB rows 0 false) := by
                              have h9 := HD.out
                              rw [goB, hcz, if_pos hm0, if_neg hneg] at h9
                              exact h9
                            subst hm0
                            clear HD hcz
                            go_wp2_with (go_at_call 37; refine HCT.out.mono ?_; rintro e w5' ⟨rfl, hb6⟩; have m0 := cell_below hb6 xs x0; have HBN := hid (bel_next HBX.out HBX.out.size (bel_next HBA.out HBA.out.size hb6)); clear hb6 x0 x1 x2)
                            go_roundw
                            case rel => exact ⟨j + 1, fb, bb, HJ.out, by go_num, rfl, rfl, HX, HBN⟩
                            case measure => have hJ := HJ.out; clear HJ; simp [intOf]; omega
                        · have hzp : 1 ≤ z := by omega
                          have HDV : Hid (∀ w' : World, Calls Try.prog 41 #[.int .i64 r.1, .int .i64 z] w' fun e w'' => e = .returned (.int .i64 (divFl r.1 z)) ∧ w' = w'') := fun w' => by
                            unfold sm at hcs
                            exact c_divFloor r.1 z (by omega) (by omega) hzp w'
                          have hdb := tdiv_bd r.1 z (by unfold sm at hcs; omega) (by unfold sm at hcs; omega) hzp
                          have hdf : -1000000000000001 ≤ divFl r.1 z ∧ divFl r.1 z ≤ 1000000000000000 := by
                              unfold divFl
                              split
                              · exact ⟨by omega, by omega⟩
                              · exact ⟨by omega, by omega⟩
                          have HN : Hid (goB (r :: rows.drop (j + 1)) bb fb = if !fb || decide (bb < upN r) then goB (rows.drop (j + 1)) (upN r) true else goB (rows.drop (j + 1)) bb fb) := by
                            unfold Hid
                            rw [goB, hcz, if_neg hm0]
                          rw [HN.out] at HD
                          have hu : upN r = -(divFl r.1 z) := by unfold upN; rw [hcz]
                          rw [hu] at HD
                          obtain ⟨dd, hdd⟩ : ∃ d, divFl r.1 z = d := ⟨_, rfl⟩
                          rw [hdd] at HDV HD hdf
                          have wu : IntKind.i64.wrap (-dd) = -dd := wrap_in _ (by omega) (by omega)
                          have e0 : (z == 0) = false := by simpa using hm0
                          clear hcz HN hu hdd hdb
                          cases fb with
                          | false =>
                            have HX : Hid (goB (rows.drop (j + 1)) (-dd) true = goB rows 0 false) := HD
                            clear HD
                            go_wp2_with (first | (go_at_call 37; refine HCT.out.mono ?_; rintro e w5' ⟨rfl, hb6⟩; have m0 := cell_below hb6 xs x0; have HBN := hid (bel_next HBX.out HBX.out.size (bel_next HBA.out HBA.out.size hb6)); clear hb6 x0 x1 x2) | (go_at_call 41; refine (HDV.out _).mono ?_; rintro e w6' ⟨rfl, rfl⟩))
                            go_roundw
                            case rel => exact ⟨j + 1, true, -dd, HJ.out, by go_num, rfl, rfl, HX, HBN⟩
                            case measure => have hJ := HJ.out; clear HJ; simp [intOf]; omega
                          | true =>
                            by_cases hbu : bb < -dd
                            · have HX : Hid (goB (rows.drop (j + 1)) (-dd) true = goB rows 0 false) := by
                                have h9 := HD.out
                                rw [if_pos (by simp [hbu])] at h9
                                exact h9
                              clear HD
                              go_wp2_with (first | (go_at_call 37; refine HCT.out.mono ?_; rintro e w5' ⟨rfl, hb6⟩; have m0 := cell_below hb6 xs x0; have HBN := hid (bel_next HBX.out HBX.out.size (bel_next HBA.out HBA.out.size hb6)); clear hb6 x0 x1 x2) | (go_at_call 41; refine (HDV.out _).mono ?_; rintro e w6' ⟨rfl, rfl⟩))
                              go_roundw
                              case rel => exact ⟨j + 1, true, -dd, HJ.out, by go_num, rfl, rfl, HX, HBN⟩
                              case measure => have hJ := HJ.out; clear HJ; simp [intOf]; omega
                            · have HX : Hid (goB (rows.drop (j + 1)) bb true = goB rows 0 false) := by
                                have h9 := HD.out
                                rw [if_neg (by simp [hbu])] at h9
                                exact h9
                              clear HD
                              go_wp2_with (first | (go_at_call 37; refine HCT.out.mono ?_; rintro e w5' ⟨rfl, hb6⟩; have m0 := cell_below hb6 xs x0; have HBN := hid (bel_next HBX.out HBX.out.size (bel_next HBA.out HBA.out.size hb6)); clear hb6 x0 x1 x2) | (go_at_call 41; refine (HDV.out _).mono ?_; rintro e w6' ⟨rfl, rfl⟩))
                              go_roundw
                              case rel => exact ⟨j + 1, true, bb, HJ.out, by go_num, rfl, rfl, HX, HBN⟩
                              case measure => have hJ := HJ.out; clear HJ; simp [intOf]; omega
                      · have hjl : j = rows.length := by omega
                        have h9 := HGB.out
                        rw [hjl, List.drop_length] at h9
                        have HFE : Hid (leastO ts (c, zs) = (bb, fb)) := by unfold Hid; rw [HFR.out, ← h9]; rfl
                        clear h9 HGB hjl
                        go_wp2
                        refine bodyPost_ret (v := .tuple #[.int .i64 bb, .bool fb]) (by simp [results, Try.results17, go_sem]) rfl ?_
                        rw [HFE.out]
                        exact ⟨rfl, bel_next HB9.out HB9.out.size HBX.out⟩
      · have HF := hid (leastO_coef (ts := ts) (g := (c, zs)) hz9)
        obtain ⟨z9, hz9e⟩ : ∃ z, coefAt (c, zs) 9 = z := ⟨_, rfl⟩
        rw [hz9e] at HCF hz9
        clear hr hv hz9e
        go_enter Try.func17, Try.ntmps17
        go_wp2_with (first | (go_at_call 35; rw [HW0.out]; refine (c_areTerms _ _ _ _ _ H.out).mono ?_; rintro e w1 ⟨rfl, hb1⟩; rw [HR.out]; have HB1 := hid hb1; obtain ⟨y0, y1⟩ := HCL.out _ hb1; clear hb1) | (go_at_call 36; refine (HVT.out _ HB1.out).mono ?_; rintro e w3 ⟨rfl, hb3⟩; rw [HV.out]; have HB3 := hid (bel_next HB1.out HB1.out.size hb3); obtain ⟨z0, z1⟩ := HCL.out _ HB3.out; clear hb3 y0 y1) | (go_at_call 37; refine (HCF.out _ HB3.out).mono ?_; rintro e w4 ⟨rfl, hb4⟩; have HB4 := hid (HB0.out.trans ((bel_next HB3.out HB3.out.size hb4).mono (by omega))); clear hb4))
        refine bodyPost_ret (v := .tuple #[.int .i64 0, .bool false]) (by simp [results, Try.results17, go_sem]) rfl ?_
        rw [HF.out]
        exact ⟨rfl, HB4.out⟩
end Go.Proofs.Ytkckhnpdodbffaa
