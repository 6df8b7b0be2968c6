/- Contracts: the least number that a goal is at least, the reference. -/
import Derived.Test.YtkckhnpdodbffaaElL4
import Derived.Test.YtkckhnpdodbffaaElO
import Derived.Test.YtkckhnpdodbffaaElS3
namespace Go.Proofs.Ytkckhnpdodbffaa
open Go.RowKit

theorem areTerms_v {ts : List Term} {n : Int} (h : areTerms ts n = true) : ∀ t ∈ ts, validTerm t = true := by
  unfold areTerms at h
  simp only [Bool.and_eq_true, List.all_eq_true] at h
  exact h.2
theorem leastO_no1 {ts : List Term} {g : Term} (h : (areTerms ts 13 && validTerm g) = false) : leastO ts g = (0, false) := by unfold leastO; rw [h]; rfl
theorem leastO_ten {ts : List Term} {g : Term} (h1 : areTerms ts 13 = true) (h2 : validTerm g = true) {t : Term} (ht : t ∈ ts ++ [g]) (hl : t.2.length = 10) : leastO ts g = (0, false) := by
  unfold leastO
  rw [h1, h2, Bool.and_self, if_pos rfl, if_neg]
  rintro ⟨h3, h4⟩
  rcases List.mem_append.1 ht with h | h
  · have hv : validTerm t = true := (areTerms_v h1) t h
    have h5 := List.all_eq_true.1 h4 t h
    exact (ten_nine hv).1 hl (by simpa using h5)
  · rw [List.mem_singleton.1 h] at hl
    exact (ten_nine h2).1 hl h3
theorem leastO_go {ts : List Term} {g : Term} (h1 : areTerms ts 13 = true) (h2 : validTerm g = true) (h : ∀ t ∈ ts ++ [g], t.2.length ≠ 10) : leastO ts g = leastN ts g ∧ g.2.getD 9 0 = 0 ∧ ts.all (fun t => t.2.getD 9 0 == 0) = true := by
  have a1 : g.2.getD 9 0 = 0 := Classical.byContradiction fun hn => h g (by simp) ((ten_nine h2).2 hn)
  have a2 : ts.all (fun t => t.2.getD 9 0 == 0) = true := by
    rw [List.all_eq_true]
    intro t ht
    have hv : validTerm t = true := by
      unfold areTerms at h1
      simp only [Bool.and_eq_true, List.all_eq_true] at h1
      exact h1.2 t ht
    have : t.2.getD 9 0 = 0 := Classical.byContradiction fun hn => h t (by simp [ht]) ((ten_nine hv).2 hn)
    simpa using this
  refine ⟨?_, a1, a2⟩
  unfold leastO
  rw [h1, h2, Bool.and_self, if_pos rfl, if_pos ⟨a1, a2⟩]
def goK (o : Option (List Row)) : Int × Bool := match o with
  | none => (0, false)
  | some rows => goB rows 0 false
theorem leastN_go {ts : List Term} {g : Term} {o : Option (List Row)} (hv : validTerm (addedT g) = true) (ho : allRows (List.range 9) (ts ++ [addedT g]) = o) : leastN ts g = goK o := by
  unfold leastN goK
  rw [hv, if_pos rfl, ho]
  cases o <;> rfl
theorem added_trimL {g : Term} (h : g.2.getD 9 0 = 0) : trimL (addedT g).2 = (addedT g).2 := by
  unfold trimL
  rw [added_len, added_trim h, List.take_of_length_le (by rw [added_len]; decide)]
theorem rd_lit9 {w : World} {e : TypeId} : SlRd cInt (fun _ => True) (w.alloc (.cells #[.int .i64 0, .int .i64 0, .int .i64 0, .int .i64 0, .int .i64 0, .int .i64 0, .int .i64 0, .int .i64 0, .int .i64 0, .int .i64 1] e)) (some ⟨w.heap.size, 0, none⟩) 10 unit9 := by
  refine ⟨by decide, by decide, by simp, ?_⟩
  rintro x hx i d hi
  cases hx
  have hil : i < 10 := (List.getElem?_eq_some_iff.1 hi).1
  have hcell : ∀ o, (w.alloc (.cells #[.int .i64 0, .int .i64 0, .int .i64 0, .int .i64 0, .int .i64 0, .int .i64 0, .int .i64 0, .int .i64 0, .int .i64 0, .int .i64 1] e)).cell? ⟨w.heap.size, o, none⟩ = (#[Value.int .i64 0, .int .i64 0, .int .i64 0, .int .i64 0, .int .i64 0, .int .i64 0, .int .i64 0, .int .i64 0, .int .i64 0, .int .i64 1])[o]? := fun o => by rw [cell_of_row _ w.heap.size o _ e (0, 0) (heap_new _ _)]
  refine ⟨⟨rfl, trivial, by simp⟩, [Value.int .i64 d], ⟨rfl, ?_⟩, fun j u hj => ?_⟩
  · have := unit9_at i
    rw [List.getD_eq_getElem?_getD, hi] at this
    exact ⟨by have := this.1; simp at this; omega, by have := this.2; simp at this; omega⟩
  · have hj0 : j = 0 := by have := (List.getElem?_eq_some_iff.1 hj).1; simp at this; exact this
    subst hj0
    simp at hj
    subst hj
    rw [hcell]
    show _ = some (Value.int .i64 d)
    match i, hil, hi with
    | 0, _, hi | 1, _, hi | 2, _, hi | 3, _, hi | 4, _, hi | 5, _, hi | 6, _, hi | 7, _, hi | 8, _, hi | 9, _, hi => simp [unit9, List.replicate] at hi; subst hi; rfl
set_option maxHeartbeats 4000000 in
set_option maxRecDepth 100000 in
theorem c_sLeastOf {S T : Nat → Prop} {a ag : Option Addr} {p pg : Nat} {ts : List Term} {c : Int} {zs : List Int} {w : World} (h : SlRd cTerm S w a p ts) (hg : SlRd cInt T w ag pg zs) :
    Calls Try.prog 15 #[.slice a ts.length p, .agg #[.int .i64 c, .slice ag zs.length pg]] w fun e w' => e = .returned (.tuple #[.int .i64 (leastO ts (c, zs)).1, .bool (leastO ts (c, zs)).2]) ∧ Below w.heap.size w w' := by
  have HB0 : Hid (Below w.heap.size w (w.alloc (.cells #[.int .i64 c, .slice ag zs.length pg] 39))) := (Below.refl _ _).alloc (Nat.le_refl _) _
  have H := hid ((h.keep (S' := fun b => b < w.heap.size) (w' := w) fun b _ hl => ⟨hl, rfl⟩).below (Nat.le_refl _) HB0.out)
  have HG := hid ((hg.keep (S' := fun b => b < w.heap.size) (w' := w) fun b _ hl => ⟨hl, rfl⟩).below (Nat.le_refl _) HB0.out)
  have x0 : (w.alloc (.cells #[.int .i64 c, .slice ag zs.length pg] 39)).cell? ⟨w.heap.size, 0, none⟩ = some (.int .i64 c) := by rw [World.cell?_alloc_at _ _ _ _ rfl]; rfl
  have x1 : (w.alloc (.cells #[.int .i64 c, .slice ag zs.length pg] 39)).cell? ⟨w.heap.size, 0 + 1, none⟩ = some (.slice ag zs.length pg) := by rw [World.cell?_alloc_at _ _ _ _ rfl]; rfl
  have hsz0 : (w.alloc (.cells #[.int .i64 c, .slice ag zs.length pg] 39)).heap.size = w.heap.size + 1 := by simp
  obtain ⟨W0, hW0⟩ : ∃ x, w.alloc (.cells #[.int .i64 c, .slice ag zs.length pg] 39) = x := ⟨_, rfl⟩
  have HW0 := hid hW0
  rw [hW0] at HB0 H HG x0 x1 hsz0
  clear h hg hW0
  cases hr : areTerms ts 13 with
  | false =>
    have HR := hid hr
    have HF := hid (leastO_no1 (ts := ts) (g := (c, zs)) (by rw [hr]; rfl))
    clear hr
    go_enter Try.func15, Try.ntmps15
    go_wp2_with (go_at_call 19; rw [HW0.out]; refine (c_l02All _ _ _ _ _ H.out).mono ?_; rintro e w1 ⟨rfl, rfl⟩; rw [HR.out])
    refine bodyPost_ret (v := .tuple #[.int .i64 0, .bool false]) (by simp [results, Try.results15, go_sem]) rfl ?_
    rw [HF.out]
    exact ⟨rfl, HB0.out⟩
  | true =>
    cases hv : validTerm (c, zs) with
    | false =>
      have HR := hid hr
      have HV := hid hv
      have HF := hid (leastO_no1 (ts := ts) (g := (c, zs)) (by rw [hr, hv]; rfl))
      clear hr hv
      go_enter Try.func15, Try.ntmps15
      go_wp2_with (first | (go_at_call 19; rw [HW0.out]; refine (c_l02All _ _ _ _ _ H.out).mono ?_; rintro e w1 ⟨rfl, rfl⟩; rw [HR.out]) | (go_at_call 27; refine (c_l02Is _ _ _ _ _ _ _ x0 x1 HG.out).mono ?_; rintro e w3 ⟨rfl, rfl⟩; rw [HV.out]))
      refine bodyPost_ret (v := .tuple #[.int .i64 0, .bool false]) (by simp [results, Try.results15, go_sem]) rfl ?_
      rw [HF.out]
      exact ⟨rfl, HB0.out⟩
    | true =>
      have HR := hid hr
      have HV := hid hv
      obtain ⟨hvs, hn⟩ := (show (∀ t ∈ ts, validTerm t = true) ∧ (ts.length : Int) ≤ 13 by
        have h9 := hr
        unfold areTerms at h9
        simp only [Bool.and_eq_true, List.all_eq_true, decide_eq_true_eq] at h9
        exact ⟨h9.2, h9.1⟩)
      have hn13 : ts.length ≤ 13 := by omega
      obtain ⟨hs1, hs2, hs3⟩ := valid_sm hv
      simp only at hs1 hs2 hs3
      have hcI : I64 c := by unfold sm at hs1; exact ⟨by omega, by omega⟩
      have HVS := hid hvs
      have HOA := hid (c_l02OwnAll H.out (by omega) (fun t ht => by have := (valid_sm (hvs t ht)).2.2; omega))
      have HOG := hid (fun (w' : World) (hb' : Below W0.heap.size W0 w') => c_l02Own (cell_below hb' (by omega) x0) (cell_below hb' (by omega) x1) (by have := hb'.size; omega) (HG.out.below (Nat.le_refl _) hb') (by omega))
      clear hr hv hvs hs2
      go_enter Try.func15, Try.ntmps15
      go_wp2_with (first | (go_at_call 19; rw [HW0.out]; refine (c_l02All _ _ _ _ _ H.out).mono ?_; rintro e w1 ⟨rfl, rfl⟩; rw [HR.out]) | (go_at_call 27; refine (c_l02Is _ _ _ _ _ _ _ x0 x1 HG.out).mono ?_; rintro e w3 ⟨rfl, rfl⟩; rw [HV.out]) | (go_at_call 28; refine HOA.out.mono ?_; rintro e w2 ⟨v2, rfl, ho2, hb2⟩; have HO2 := hid ho2; have HB2 := hid hb2; have hw2 := hb2.size; clear ho2 hb2) | (go_at_call 29; refine (HOG.out _ HB2.out).mono ?_; rintro e w3 ⟨a3, p3, rfl, hs3', hb3⟩; have hw3 := hb3.size; have HB3 := hid (bel_next HB2.out hw2 hb3); have HO3 := hid (own_wide (S' := fun b => b < w3.heap.size) (own_below HO2.out (Nat.le_refl _) hb3) fun b _ hl => hl); have hob := own_lt HO2.out; have HRD := hid (rd_term hcI (hs3'.keep (S' := fun b => b < w3.heap.size ∧ some b ≠ v2.ownBlock) fun b hb hl => ⟨⟨hl, fun e => by have h9 := (hob b e.symm).2; have h8 := hb.1; omega⟩, rfl⟩)); clear hs3' hb3) | (at_builtin; go_loud (refine app_own (C := cTerm) rfl (.tmp 28) (.tmp 30) _ rfl slTerm rfl rfl HO3.out (fun b h => h) (c, zs) HRD.out (by omega) HB3.out.size ?_); intro v4 w4 hO4 hb4; have HO4 := hid (own_wide (S' := fun b => b < w4.heap.size) hO4 fun b _ hl => hl); have HB4 := hid (HB3.out.trans hb4); clear hO4 hb4))
      have hl6 : (ts ++ [(c, zs)]).length = ts.length + 1 := by simp
      obtain ⟨g6, c6, rfl⟩ := own_some HO4.out (by simp)
      obtain ⟨a', c', he, hs6⟩ := own_rdS HO4.out
      rw [hl6] at he
      injection he with he1 _ he3
      subst he1 he3
      have HS6 := hid hs6
      rw [hl6] at HO4 ⊢
      have HL6 := hid hl6
      have hg6 := own_lt HO4.out g6 rfl
      clear hs6 hl6 HO2 HO3 HRD hob HB2 HB3
      go_loop [7] (fun i => ∃ k : Nat, k ≤ ts.length + 1 ∧ i = .int .i64 k ∧ Hid (∀ t ∈ (ts ++ [(c, zs)]).take k, t.2.length ≠ 10)) (fun i => ts.length + 1 - (intOf i).toNat)
      case atStart => exact ⟨0, Nat.zero_le _, rfl, fun t ht => by simp at ht⟩
      case round =>
        obtain ⟨k, hk, rfl, HK⟩ := hrel
        by_cases hlt : k < ts.length + 1
        · obtain ⟨c', zs', a'', cap'', hz, _, _, _, hc'', hb''⟩ := HS6.out.term_at k (by rw [HL6.out]; exact hlt)
          have HZ := hid hz
          rw [Nat.zero_add] at hc''
          have i0 : (0 : Int) ≤ (k : Int) := by omega
          have i1 : (k : Int) < (ts.length : Int) + 1 := by omega
          clear hz
          by_cases h10 : zs'.length = 10
          · have HF := hid (leastO_ten HR.out HV.out (List.mem_of_getElem? HZ.out) h10)
            go_wp2
            refine bodyPost_ret (v := .tuple #[.int .i64 0, .bool false]) (by simp [results, Try.results15, go_sem]) rfl ?_
            rw [HF.out]
            exact ⟨rfl, HB0.out.trans (HB4.out.mono (by omega))⟩
          · have HK2 : Hid (∀ t ∈ (ts ++ [(c, zs)]).take (k + 1), t.2.length ≠ 10) := fun t ht => by
              rw [List.take_add_one, HZ.out] at ht
              rcases List.mem_append.1 ht with ht | ht
              · exact HK.out t ht
              · simp at ht; subst ht; exact h10
            have e10 : ((zs'.length : Int) == 10) = false := by simp; omega
            have h10' : ¬ ((zs'.length : Int) = 10) := by omega
            go_wp2
            go_round
            case rel => exact ⟨k + 1, by omega, by go_num, HK2⟩
            case measure => simp [intOf]; omega
        · have h9 : ∀ t ∈ ts ++ [(c, zs)], t.2.length ≠ 10 := by
            have := HK.out
            rw [List.take_of_length_le (by rw [HL6.out]; omega)] at this
            exact this
          obtain ⟨hgo, hz9, hts9⟩ := leastO_go HR.out HV.out h9
          have HGO := hid hgo
          have HTRL := hid (added_trimL hz9)
          have HZ9 := hid hz9
          have HTS9 := hid hts9
          have HLB : Hid (Below w4.heap.size w4 (w4.alloc (.cells #[.int .i64 0, .int .i64 0, .int .i64 0, .int .i64 0, .int .i64 0, .int .i64 0, .int .i64 0, .int .i64 0, .int .i64 0, .int .i64 1] 2))) := (Below.refl _ _).alloc (Nat.le_refl _) _
          have HCS := hid (fun (W6 : World) (e1 : W6.cell? ⟨w4.heap.size + 1, 0, none⟩ = some (.int .i64 0)) (e2 : W6.cell? ⟨w4.heap.size + 1, 0 + 1, none⟩ = some (.slice (some ⟨w4.heap.size, 0, none⟩) unit9.length 10)) (e3 : SlRd cInt (fun _ => True) W6 (some ⟨w4.heap.size, 0, none⟩) 10 unit9) (e4 : w4.heap.size + 1 < W6.heap.size) (e5 : Below w4.heap.size w4 W6) => c_l02Sum9 e1 e2 e3 e4 (cell_below (HB4.out.trans (e5.mono HB4.out.size)) (by omega) x0) (cell_below (HB4.out.trans (e5.mono HB4.out.size)) (by omega) x1) ((HG.out.below (Nat.le_refl _) (HB4.out.trans (e5.mono HB4.out.size))).keep (S' := fun _ => True) fun _ _ _ => ⟨trivial, rfl⟩) (by have h1 := HB4.out.size; have h2 := e5.size; omega) HV.out)
          unfold makeRes at HCS
          rw [HTRL.out] at HCS
          have hbk6 : ((w4.alloc (.cells #[.int .i64 0, .int .i64 0, .int .i64 0, .int .i64 0, .int .i64 0, .int .i64 0, .int .i64 0, .int .i64 0, .int .i64 0, .int .i64 1] 2)).alloc (.cells #[.int .i64 0, .slice (some ⟨w4.heap.size, 0, none⟩) 10 10] 39)).heap[w4.heap.size + 1]? = some (.cells #[.int .i64 0, .slice (some ⟨w4.heap.size, 0, none⟩) 10 10] 39 (0, 0)) := by rw [← World.size_alloc w4 (.cells #[.int .i64 0, .int .i64 0, .int .i64 0, .int .i64 0, .int .i64 0, .int .i64 0, .int .i64 0, .int .i64 0, .int .i64 0, .int .i64 1] 2)]; exact heap_new _ _
          have HB6 : Hid (Below w4.heap.size w4 ((w4.alloc (.cells #[.int .i64 0, .int .i64 0, .int .i64 0, .int .i64 0, .int .i64 0, .int .i64 0, .int .i64 0, .int .i64 0, .int .i64 0, .int .i64 1] 2)).alloc (.cells #[.int .i64 0, .slice (some ⟨w4.heap.size, 0, none⟩) 10 10] 39))) := HLB.out.alloc HLB.out.size _
          have HC6 := hid (HCS.out ((w4.alloc (.cells #[.int .i64 0, .int .i64 0, .int .i64 0, .int .i64 0, .int .i64 0, .int .i64 0, .int .i64 0, .int .i64 0, .int .i64 0, .int .i64 1] 2)).alloc (.cells #[.int .i64 0, .slice (some ⟨w4.heap.size, 0, none⟩) 10 10] 39)) (cell_of hbk6 (j := 0) rfl) (cell_of hbk6 (j := 1) rfl) (rd_lit9.alloc _) (by rw [World.size_alloc, World.size_alloc]; omega) HB6.out)
          clear hbk6 HCS
          clear hgo hz9 hts9 h9 HK
          have hlt' : ¬ ((k : Int) < (ts.length : Int) + 1) := by omega
          cases hv2 : validTerm (addedT (c, zs)) with
          | false =>
            have HF : Hid (leastO ts (c, zs) = (0, false)) := by unfold Hid; rw [HGO.out]; unfold leastN; rw [hv2]; rfl
            rw [show ((addedT (c, zs)).1, (addedT (c, zs)).2) = addedT (c, zs) from rfl, hv2] at HC6
            clear hv2
            go_wp2_with (go_at_call 30; refine HC6.out.mono ?_; rintro e w5 ⟨hb5, rfl⟩; have HB5 := hid (HB4.out.trans ((HB6.out.trans (hb5.mono HB6.out.size)).mono HB4.out.size)); clear hb5)
            refine bodyPost_ret (v := .tuple #[.int .i64 0, .bool false]) (by simp [results, Try.results15, go_sem]) rfl ?_
            rw [HF.out]
            exact ⟨rfl, (HB0.out.trans (HB5.out.mono (by omega))).alloc (by have := HB5.out.size; omega) _⟩
          | true =>
            rw [show ((addedT (c, zs)).1, (addedT (c, zs)).2) = addedT (c, zs) from rfl, hv2] at HC6
            have HV2 := hid hv2
            obtain ⟨hva, hna, hla⟩ := added_rows HR.out HZ9.out HTS9.out hv2
            have HVA := hid hva
            have HN14 := hid hna
            have HLAST := hid hla
            have HLA : Hid ((ts ++ [addedT (c, zs)]).length = ts.length + 1) := by unfold Hid; simp
            have HSE : Hid ((ts ++ [(c, zs)]).set ts.length (addedT (c, zs)) = ts ++ [addedT (c, zs)]) := by unfold Hid; rw [List.set_append_right _ _ (Nat.le_refl _)]; simp
            have HAI : Hid (I64 (addedT (c, zs)).1) := by have h9 := (valid_sm hv2).1; unfold sm at h9; exact ⟨by omega, by omega⟩
            clear hv2 hva hna hla
            go_wp2_with (first | (go_at_call 30; refine HC6.out.mono ?_; rintro e w5 ⟨hb5, a5, p5, rfl, hs5⟩; have HB5w := hid (HB6.out.trans (hb5.mono HB6.out.size)); have HB5 := hid (HB4.out.trans (HB5w.out.mono HB4.out.size)); have HS5 := hid hs5; have HO5 := hid (own_wide (S' := fun b => b < w5.heap.size) (own_below HO4.out (Nat.le_refl _) HB5w.out) fun b hb _ => Nat.lt_of_lt_of_le hb HB5w.out.size); have hW6 := HB6.out.size; obtain ⟨cc, zz, aa, cp, _, _, _, sc0, sc1, sf0, sf1, hgl, hgb⟩ := own_at_term HO5.out HL6.out ts.length (Nat.lt_succ_self _); have hset := own_set HO5.out HL6.out ts.length (Nat.lt_succ_self _) [.int .i64 (addedT (c, zs)).1, .slice a5 (addedT (c, zs)).2.length p5] (addedT (c, zs)) (rd_term HAI.out (HS5.out.keep fun b hb hl => ⟨⟨hl, fun e => by have h1 := hb.1; have h2 := hg6.2; omega⟩, rfl⟩)); have HO8 : Hid (OwnSl cTerm (fun b => b < w5.heap.size) ((w5.setCell ⟨g6, ts.length * 2, none⟩ (.int .i64 (addedT (c, zs)).1)).setCell ⟨g6, ts.length * 2 + 1, none⟩ (.slice a5 (addedT (c, zs)).2.length p5)) W0.heap.size 39 (.slice (some ⟨g6, 0, none⟩) (ts.length + 1) c6) ((ts ++ [(c, zs)]).set ts.length (addedT (c, zs)))) := hset.1; rw [HSE.out] at HO8; obtain ⟨aX, cX, heX, hsX⟩ := own_rdS HO8.out; rw [HLA.out] at heX; injection heX with heX1 _ heX3; subst heX1 heX3; have HSX := hid ((hsX.alloc (.cells #[.int .i64 (addedT (c, zs)).1, .slice a5 (addedT (c, zs)).2.length p5] 39)).keep (S' := fun _ => True) fun _ _ _ => ⟨trivial, rfl⟩); have hrows := c_l06Rows HSX.out HVA.out HN14.out; rw [HLA.out] at hrows; have HROWS := hid hrows; have HB8 : Hid (Below W0.heap.size W0 (((w5.setCell ⟨g6, ts.length * 2, none⟩ (.int .i64 (addedT (c, zs)).1)).setCell ⟨g6, ts.length * 2 + 1, none⟩ (.slice a5 (addedT (c, zs)).2.length p5)).alloc (.cells #[.int .i64 (addedT (c, zs)).1, .slice a5 (addedT (c, zs)).2.length p5] 39))) := ((HB5.out.setCell hgb _).setCell hgb _).alloc (by rw [size_set, size_set]; exact HB5.out.size) _; clear hb5 hs5 hset hsX hrows) | (go_at_call 31; refine HROWS.out.mono ?_; rintro e w7 ⟨a7, p7, rfl, hs7, hb7⟩; have HB7 := hid (bel_next HB8.out HB8.out.size hb7); have HS7 := hid hs7; clear hs7 hb7))
            obtain ⟨AL, hAL⟩ : ∃ x, ts ++ [addedT (c, zs)] = x := ⟨_, rfl⟩
            obtain ⟨KO, hKO⟩ : ∃ x, allRows (List.range 9) (ts ++ [addedT (c, zs)]) = x := ⟨_, rfl⟩
            have HF : Hid (leastO ts (c, zs) = goK KO) := HGO.out.trans (leastN_go HV2.out hKO)
            have HRO0 := hid (rows0_ok HVA.out)
            have HST0 : Hid (stagesF ((List.range 9).drop 0) (rows0 (ts ++ [addedT (c, zs)])) = KO) := hKO
            have hl0 : (rows0 (ts ++ [addedT (c, zs)])).length ≤ 60 := by rw [rows0_len]; have := HN14.out; omega
            have hv0 : Value.slice a7 (ts.length + 1) p7 = .slice a7 (rows0 (ts ++ [addedT (c, zs)])).length p7 := by rw [rows0_len, HLA.out]
            have hn14 := HN14.out
            rw [hAL] at HRO0 HST0 hl0 hv0 HS7 HLAST hn14
            have HAL := hid hAL
            clear hAL hKO HSX HROWS HB8 HO8 HSE HAI HS5 HO5 HB5 HB5w HC6 HB6 sc0 sc1 sf0 sf1 HVA HN14 HLA
            go_loopw [10, 11] (fun v i wr => ∃ (m : Nat) (rows : List Row) (S7 : Nat → Prop) (ar : Option Addr) (pr : Nat), m ≤ 9 ∧ i = .int .i64 m ∧ v = .slice ar rows.length pr ∧ rows.length ≤ 60 ∧ Hid (stagesF ((List.range 9).drop m) rows = KO) ∧ Hid (RowsOk AL.length rows) ∧ Hid (LastAll rows) ∧ Hid (SlRd cRow S7 wr ar pr (rows.map rowS)) ∧ Hid (Below W0.heap.size W0 wr)) (fun _ i _ => 9 - (intOf i).toNat)
            case atStart => exact ⟨0, _, _, a7, p7, by omega, rfl, hv0, hl0, HST0, HRO0, HLAST, HS7, HB7⟩
            case round =>
              clear HST0 HRO0 HLAST HS7 HB7 hl0 hv0
              obtain ⟨m, rows, S7, ar, pr, hm, rfl, rfl, hrl, HST, HRO, HLS, HS, HBR⟩ := hrel
              have wm : IntKind.i64.wrap ((m : Int) + 1) = (m : Int) + 1 := wrap_in _ (by omega) (by omega)
              by_cases hlt9 : m < 9
              · have hdr : (List.range 9).drop m = m :: (List.range 9).drop (m + 1) := by
                  rw [List.drop_eq_getElem_cons (by simpa using hlt9)]; simp
                have HST2 : Hid ((stageF m rows).bind (stagesF ((List.range 9).drop (m + 1))) = KO) := by
                  have h9 := HST.out
                  rw [hdr] at h9
                  exact h9
                have HCT := hid (c_l06Stage HS.out HRO.out hrl (show m < 10 by omega) hn14)
                unfold stageRes at HCT
                have i1' : (m : Int) + 1 < 10 := by omega
                clear hdr HST
                cases hst : stageF m rows with
                | none =>
                  have HFN : Hid (leastO ts (c, zs) = (0, false)) := by unfold Hid; rw [HF.out, ← HST2.out, hst]; rfl
                  rw [hst] at HCT
                  clear hst
                  go_wp2_with (go_at_call 32; refine HCT.out.mono ?_; rintro e w8 ⟨hb8, rfl⟩; have HB8 := hid (bel_next HBR.out HBR.out.size hb8); clear hb8)
                  refine bodyPost_ret (v := .tuple #[.int .i64 0, .bool false]) (by simp [results, Try.results15, go_sem]) rfl ?_
                  rw [HFN.out]
                  exact ⟨rfl, HB0.out.trans (HB8.out.mono (by omega))⟩
                | some rs =>
                  have HSN : Hid (stagesF ((List.range 9).drop (m + 1)) rs = KO) := by have h9 := HST2.out; rw [hst] at h9; exact h9
                  obtain ⟨hro2, hrl2⟩ := stage_ok HRO.out hrl hst
                  have HRO2 := hid hro2
                  have HLS2 := hid (stage_last HRO.out HLS.out hst)
                  rw [hst] at HCT
                  clear hst hro2 HST2
                  go_wp2_with (go_at_call 32; refine HCT.out.mono ?_; rintro e w8 ⟨hb8, a8, p8, _, rfl, hs8⟩; have HB8 := hid (bel_next HBR.out HBR.out.size hb8); have HS8 := hid hs8; clear hb8 hs8)
                  go_roundw
                  case rel => exact ⟨m + 1, rs, _, a8, p8, by omega, by go_num, rfl, hrl2, HSN, HRO2, HLS2, HS8, HB8⟩
                  case measure => simp [intOf]; omega
              · have hm9 : m = 9 := by omega
                have h9 := HST.out
                rw [hm9, List.drop_of_length_le (by simp)] at h9
                have HFR : Hid (leastO ts (c, zs) = goB rows 0 false) := by unfold Hid; rw [HF.out, ← (show some rows = KO from h9)]; rfl
                have i1' : ¬ ((m : Int) + 1 < 10) := by omega
                have HBW := hid (HB0.out.trans (HBR.out.mono (by omega)))
                clear h9 HST hm9 HF
                go_wp2
                generalize decide ((m : Int) + 1 < 10) = q64
                obtain ⟨wo, rfl⟩ : ∃ x : World, x = wr := ⟨_, rfl⟩
                go_loop [15, 16, 17] (fun f b i => ∃ (j : Nat) (fb : Bool) (bb : Int), j ≤ rows.length ∧ i = .int .i64 j ∧ f = .bool fb ∧ b = .int .i64 bb ∧ Hid (goB (rows.drop j) bb fb = goB rows 0 false)) (fun _ _ i => rows.length - (intOf i).toNat)
                case atStart => exact ⟨0, false, 0, Nat.zero_le _, rfl, rfl, rfl, rfl⟩
                case round =>
                  obtain ⟨j, fb, bb, hj, rfl, rfl, rfl, HGB⟩ := hrel
                  by_cases hltj : j < rows.length
                  · obtain ⟨b0, o0, rfl⟩ := HS.out.some_of (k := j) (by simpa using hltj)
                    obtain ⟨r, a1, p1, am, pm, hr, hr1, HRS⟩ := HS.out.rowS_at j hltj
                    have hrk := HRO.out r (List.mem_of_getElem? hr)
                    obtain ⟨b1, o1, rfl⟩ := HRS.h1.some_of (k := 9) (by rw [hrk.len]; decide)
                    obtain ⟨z, hz, _, hzc, hzb⟩ := HRS.h1.int_at 9 (by rw [hrk.len]; decide)
                    have hcz : cfR r 9 = z := by unfold cfR; rw [List.getD_eq_getElem?_getD, hz]; rfl
                    have hz0 : 0 ≤ z := by rw [← hcz]; exact HLS.out r (List.mem_of_getElem? hr)
                    have hzs := cfR_sm hrk 9
                    rw [hcz] at hzs
                    have hcs := hrk.c
                    have t0 := HRS.c0
                    have t1 := HRS.c1
                    have HD : Hid (goB (r :: rows.drop (j + 1)) bb fb = goB rows 0 false) := by
                      have h9 := HGB.out
                      rw [List.drop_eq_getElem_cons hltj] at h9
                      rw [List.getElem?_eq_getElem hltj] at hr
                      cases hr
                      exact h9
                    have j0 : (0 : Int) ≤ (j : Int) := by omega
                    have j1 : (j : Int) < (rows.length : Int) := by omega
                    have k2 : (9 : Int) < (r.2.1.length : Int) := by rw [hrk.len]; decide
                    clear hr hz hrk HRS HGB
                    by_cases hm0 : z = 0
                    · by_cases hneg : r.1 < 0
                      · have HFN : Hid (leastO ts (c, zs) = (0, false)) := by
                          unfold Hid
                          rw [HFR.out, ← HD.out]
                          unfold goB
                          rw [hcz, if_pos hm0, if_pos hneg]
                        subst hm0
                        clear HD hcz
                        go_wp2
                        refine bodyPost_ret (v := .tuple #[.int .i64 0, .bool false]) (by simp [results, Try.results15, go_sem]) rfl ?_
                        rw [HFN.out]
                        exact ⟨rfl, HBW.out⟩
                      · have HX : Hid (goB (rows.drop (j + 1)) bb fb = goB rows 0 false) := by
                          have h9 := HD.out
                          rw [goB, hcz, if_pos hm0, if_neg hneg] at h9
                          exact h9
                        subst hm0
                        clear HD hcz
                        go_wp2
                        go_round
                        case rel => exact ⟨j + 1, fb, bb, by omega, by go_num, rfl, rfl, HX⟩
                        case measure => simp [intOf]; omega
                    · have hzp : 1 ≤ z := by omega
                      have HUP : Hid (∀ w' : World, Calls Try.prog 33 #[.int .i64 r.1, .int .i64 z] w' fun e w'' => e = .returned (.int .i64 (upN r)) ∧ w' = w'') := fun w' => by
                        unfold upN
                        rw [hcz]
                        exact c_l06Up r.1 z hcs hzp hzs.2 w'
                      have HN : Hid (goB (r :: rows.drop (j + 1)) bb fb = if !fb || decide (bb < upN r) then goB (rows.drop (j + 1)) (upN r) true else goB (rows.drop (j + 1)) bb fb) := by
                        unfold Hid
                        rw [goB, hcz, if_neg hm0]
                      rw [HN.out] at HD
                      obtain ⟨u, hu⟩ : ∃ u, upN r = u := ⟨_, rfl⟩
                      rw [hu] at HUP HD
                      have e0 : (z == 0) = false := by simpa using hm0
                      clear hcz HN hu
                      cases fb with
                      | false =>
                        have HX : Hid (goB (rows.drop (j + 1)) u true = goB rows 0 false) := HD
                        clear HD
                        go_wp2_with (go_at_call 33; refine (HUP.out _).mono ?_; rintro e w9 ⟨rfl, rfl⟩)
                        go_round
                        case rel => exact ⟨j + 1, true, u, by omega, by go_num, rfl, rfl, HX⟩
                        case measure => simp [intOf]; omega
                      | true =>
                        by_cases hbu : bb < u
                        · have HX : Hid (goB (rows.drop (j + 1)) u true = goB rows 0 false) := by
                            have h9 := HD.out
                            rw [if_pos (by simp [hbu])] at h9
                            exact h9
                          clear HD
                          go_wp2_with (go_at_call 33; refine (HUP.out _).mono ?_; rintro e w9 ⟨rfl, rfl⟩)
                          go_round
                          case rel => exact ⟨j + 1, true, u, by omega, by go_num, rfl, rfl, HX⟩
                          case measure => simp [intOf]; omega
                        · have HX : Hid (goB (rows.drop (j + 1)) bb true = goB rows 0 false) := by
                            have h9 := HD.out
                            rw [if_neg (by simp [hbu])] at h9
                            exact h9
                          clear HD
                          go_wp2_with (go_at_call 33; refine (HUP.out _).mono ?_; rintro e w9 ⟨rfl, rfl⟩)
                          go_round
                          case rel => exact ⟨j + 1, true, bb, by omega, by go_num, rfl, rfl, HX⟩
                          case measure => simp [intOf]; omega
                  · have hjl : j = rows.length := by omega
                    have h9 := HGB.out
                    rw [hjl, List.drop_length] at h9
                    have HFE : Hid (leastO ts (c, zs) = (bb, fb)) := by unfold Hid; rw [HFR.out, ← h9]; rfl
                    clear h9 HGB hjl
                    go_wp2
                    refine bodyPost_ret (v := .tuple #[.int .i64 bb, .bool fb]) (by simp [results, Try.results15, go_sem]) rfl ?_
                    rw [HFE.out]
                    exact ⟨rfl, HBW.out⟩
end Go.Proofs.Ytkckhnpdodbffaa
