/- Contracts: the reference's rows of facts. -/
import Derived.Test.YtkckhnpdodbffaaElS1
import Derived.Test.YtkckhnpdodbffaaEl3
import Derived.Test.YtkckhnpdodbffaaElO
namespace Go.Proofs.Ytkckhnpdodbffaa
open Go.RowKit

theorem stepR_mk {P : Program} {w : World} {ops : Array Oper} {o : Oper} {a : Act} {Q : Exit → Act → World → Prop} {K : Act → World → Prop} {E : Prop} (hgd : o.guard = none) (l c : Operand) (t : TypeId)
    (ho : o.op = .makeSlice t l c) {u u' : Value} (hl : a.eval l = u) (hc : a.eval c = u') {v : Value}
    {R : World → Prop} (hrun : ∃ w', (Instr.makeSlice t u u').run P w = .ok v w' ∧ R w')
    (h : ∀ w', R w' → K (a.put o.dst v) w') : if Region.wanted o (yielded ops a.tmps) = true then Oper.wp P o a w K Q else E := by
  rw [if_pos (by simp [Region.wanted, hgd])]
  obtain ⟨w', hr, hR⟩ := hrun
  unfold Oper.wp
  simp [execOp, ho, hl, hc, hr, Result.andThen]
  exact h w' hR
theorem Rows3.made {α : Type} (C : Codec α) (T : Nat → Prop) (w : World) (e : TypeId) (hT : ∀ b, T b → b < w.heap.size) : Rows3 C T (w.alloc (.cells #[] e)) w.heap.size e (.slice none 0 0) (.slice (some ⟨w.heap.size, 0, none⟩) 0 0) (.slice none 0 0) [] [] [] :=
  ⟨fun b hb => by rw [World.size_alloc]; have := hT b hb; omega, own_nil _ _ _ _ _, own_made _ _ _ _ _ (Nat.le_refl _), own_nil _ _ _ _ _, fun k hk => by simp [Value.ownBlock] at hk, fun k hk ht => by
    have h9 : w.heap.size = k := Option.some.inj hk
    have := hT k ht; omega, fun k hk => by simp [Value.ownBlock] at hk, fun k hk => by simp [Value.ownBlock] at hk, fun k hk => by simp [Value.ownBlock] at hk, fun k _ hk => by simp [Value.ownBlock] at hk⟩
theorem Rows3.sliceT {α : Type} {C : Codec α} {T : Nat → Prop} {w : World} {B : Nat} {e : TypeId} {rv nv sv : Value} {rs ns ss : List α} (h : Rows3 C T w B e rv nv sv rs ns ss) : ∃ a cap, rv = .slice a rs.length cap ∧ SlRd C (fun b => T b ∨ (B ≤ b ∧ b < w.heap.size)) w a cap rs := by
  obtain ⟨xs, hr, hel⟩ := h.hr
  rcases hr.2 with ⟨h1, h2⟩ | ⟨g, cap, cur, rfl, hbg, hg, hnc, hcm, hcs, htake⟩
  · refine ⟨none, 0, by rw [h1, h2], by omega, by decide, fun _ => rfl, by simp⟩
  · refine ⟨_, cap, rfl, hnc, by unfold maxLen at hcm; simpa using hcm, by simp, ?_⟩
    rintro x hx i d hi
    cases hx
    obtain ⟨cs, r, hc⟩ := hel i d hi
    refine ⟨⟨rfl, .inr ⟨hbg, (Array.getElem?_eq_some_iff.1 hg).1⟩, (Array.getElem?_eq_some_iff.1 hg).1⟩, cs, C.keep (fun b hs hl => ⟨.inl hs.1, rfl⟩) r, fun j u hj => ?_⟩
    have h2 := hc j u hj
    rw [← htake, List.getElem?_take] at h2
    split at h2
    · simp only [Nat.zero_add]
      rw [cell_of_row w g _ cur e (0, 0) hg]; simpa using h2
    · cases h2
theorem pad_take {zs : List Int} {j : Nat} (h : j < 10) : (padL zs).take (j + 1) = (padL zs).take j ++ [zs.getD j 0] := by
  rw [List.take_add_one]
  unfold padL
  rw [List.getElem?_map, List.getElem?_range h]; rfl
theorem rows0_takeS {ts : List Term} {k : Nat} {t : Term} (h : ts[k]? = some t) : ((rows0 ts).take (k + 1)).map rowS = ((rows0 ts).take k).map rowS ++ [((t.1, padL t.2), unitL ts.length k)] := by
  rw [List.take_add_one, List.map_append, rows0_at h]; rfl
theorem RBox.ofBlk {w : World} {B b : Nat} {e e' : TypeId} {c : Int} {lv tv : Value} {ls ts : List Int} (hbk : w.heap[b]? = some (.cells #[.int .i64 c, lv, tv] e' (0, 0))) (hB : B ≤ b) (hl : OwnSl cInt (fun _ => False) w B e lv ls) (ht : OwnSl cInt (fun _ => False) w B e tv ts)
    (nl : lv.ownBlock ≠ some b) (nt : tv.ownBlock ≠ some b) (ne : ∀ k, lv.ownBlock = some k → tv.ownBlock ≠ some k) : RBox w B b e c 1 2 lv tv ls ts :=
  ⟨(Array.getElem?_eq_some_iff.1 hbk).1, hB, ⟨_, _, hbk⟩, cell_of hbk (j := 0) rfl, cell_of hbk (j := 1) rfl, cell_of hbk (j := 2) rfl, hl, ht, nl, nt, ne⟩
theorem SlRd.getD_i64 {S : Nat → Prop} {w : World} {a : Option Addr} {p : Nat} {zs : List Int} (h : SlRd cInt S w a p zs) (k : Nat) : I64 (zs.getD k 0) := by
  rw [List.getD_eq_getElem?_getD]
  by_cases hk : k < zs.length
  · obtain ⟨b, o, rfl⟩ := h.some_of hk
    obtain ⟨z, hz, hz2, _⟩ := h.int_at k hk
    rw [hz]; exact hz2
  · rw [List.getElem?_eq_none (by omega)]; exact i64_0
theorem slRowS : SlT Try.prog 59 64 (.agg #[.int .i64 0, .slice none 0 0, .slice none 0 0]) 3 56 := ⟨Try.underlying59, by kernel_rfl, rfl, by decide, by decide⟩
set_option maxHeartbeats 4000000 in
set_option maxRecDepth 100000 in
theorem c_l06Rows {S : Nat → Prop} {a : Option Addr} {p : Nat} {ts : List Term} {w : World} (h : SlRd cTerm S w a p ts) (hv : ∀ t ∈ ts, validTerm t = true) (hn : ts.length ≤ 14) :
    Calls Try.prog 31 #[.slice a ts.length p] w fun e w' => ∃ a' p', e = .returned (.slice a' ts.length p') ∧ SlRd cRow (fun b => b < w'.heap.size) w' a' p' ((rows0 ts).map rowS) ∧ Below w.heap.size w w' := by
  have H := hid (h.keep (S' := fun b => b < w.heap.size) (w' := w) fun b _ hl => ⟨hl, rfl⟩)
  have HV := hid hv
  clear h hv
  go_enter Try.func31, Try.ntmps31
  go_wp2
  go_loopw [3, 4] (fun v i wr => ∃ (k : Nat) (T : Nat → Prop), k ≤ ts.length ∧ i = .int .i64 k ∧ Hid (Rows3 cRow T wr w.heap.size 64 (.slice none 0 0) v (.slice none 0 0) [] (((rows0 ts).take k).map rowS) []) ∧ Hid (Below w.heap.size w wr)) (fun _ i _ => ts.length - (intOf i).toNat)
  case atStart => exact ⟨0, fun _ => False, Nat.zero_le _, rfl, Rows3.made cRow _ w _ (fun _ h => h.elim), (Below.refl _ _).alloc (Nat.le_refl _) _⟩
  case round =>
    obtain ⟨k, T, hk, rfl, HR, HBR⟩ := hrel
    have hsz := HBR.out.size
    obtain ⟨wq, rfl⟩ : ∃ x : World, x = wr := ⟨_, rfl⟩
    by_cases hlt : k < ts.length
    · obtain ⟨b0, o0, rfl⟩ := H.out.some_of hlt
      obtain ⟨c, zs, a', cap', hz, hc1, hsl, hc, hc', hb⟩ := (H.out.below (Nat.le_refl _) HBR.out).term_at k hlt
      have HTK := hid (rows0_takeS hz)
      have HSL := hid hsl
      have HSS : Hid (∀ w' : World, Below wq.heap.size wq w' → w'.cell? ⟨b0, o0 + k * 2, none⟩ = some (.int .i64 c)) := fun w' hb' => cell_below hb' hb hc
      have HC1 : Hid (∀ w' : World, Below wq.heap.size wq w' → w'.cell? ⟨b0, o0 + k * 2 + 1, none⟩ = some (.slice a' zs.length cap')) := fun w' hb' => cell_below hb' hb hc'
      have i0 : (0 : Int) ≤ (k : Int) := by omega
      have i1 : (k : Int) < (ts.length : Int) := by omega
      have htl : (((rows0 ts).take k).map rowS).length ≤ 14 := by rw [List.length_map, List.length_take]; omega
      obtain ⟨tn, htn⟩ : ∃ x, x = ts.length := ⟨_, rfl⟩
      have HTN := hid htn
      have hzl9 := hsl.len_le
      clear hz hsl htn
      go_wp2
      refine wp_region_held_drew (S := fun w' => w'.cell? ⟨b0, o0 + k * 2, none⟩ = some (.int .i64 c)) (by kernel_rfl) (HSS.out _ ((Below.refl _ wq).drew)) (fun hHeld => ?_)
      refine rgH (i := 0) (oi := ?qo1) ?qh1 ?qr1
      case qh1 => (simp only [List.getElem?_toArray, List.getElem?_cons_zero]; rfl)
      (refine ⟨by kernel_rfl, by kernel_rfl, by kernel_rfl, by assumption, ?qv1, fun _ _ _ h => h, Or.inl ⟨by kernel_rfl, ?qy1⟩, ?qn1⟩; case qy1 => (intro w hSw; (try dsimp only at hSw); go_simp; try with_reducible rfl))
      refine rgH (i := 1) (oi := ?qo2) ?qh2 ?qr2
      case qh2 => (simp only [List.getElem?_toArray, List.getElem?_cons_succ, List.getElem?_cons_zero]; rfl)
      (refine ⟨by kernel_rfl, by kernel_rfl, by kernel_rfl, by assumption, ?qv2, fun _ _ _ h => h, Or.inl ⟨by kernel_rfl, ?qy2⟩, ?qn2⟩; case qy2 => (intro w hSw; (try dsimp only at hSw); go_simp; try with_reducible rfl))
      refine rgH (i := 2) (oi := ?qo3) ?qh3 ?qr3
      case qh3 => (simp only [List.getElem?_toArray, List.getElem?_cons_succ, List.getElem?_cons_zero]; rfl)
      (refine ⟨by kernel_rfl, by kernel_rfl, by kernel_rfl, by assumption, ?qv3, fun _ _ _ h => h, Or.inl ⟨by kernel_rfl, ?qy3⟩, ?qn3⟩; case qy3 => (intro w hSw; (try dsimp only at hSw); go_simp; try with_reducible rfl))
      refine rgH (i := 3) (oi := ?qo4) ?qh4 ?qr4
      case qh4 => (simp only [List.getElem?_toArray, List.getElem?_cons_succ, List.getElem?_cons_zero]; rfl)
      (refine ⟨by kernel_rfl, by kernel_rfl, by kernel_rfl, by assumption, ?qv4, fun _ _ _ h => h, Or.inl ⟨by kernel_rfl, ?qy4⟩, ?qn4⟩; case qy4 => (intro w hSw; (try dsimp only at hSw); go_simp; try with_reducible rfl))
      (try simp only [Act.put, List.setIfInBounds_toArray, List.set_cons_zero, List.set_cons_succ])
      refine rgH (i := 4) (oi := ?qo5) ?qh5 ?qr5
      case qh5 => (simp only [List.getElem?_toArray, List.getElem?_cons_succ, List.getElem?_cons_zero]; rfl)
      (refine ⟨by kernel_rfl, by kernel_rfl, by kernel_rfl, by assumption, ?qv5, fun _ _ _ h => h, Or.inl ⟨by kernel_rfl, ?qy5⟩, ?qn5⟩; case qy5 => (intro w hSw; (try dsimp only at hSw); go_simp; try with_reducible rfl))
      refine rgH (i := 5) (oi := ?qo6) ?qh6 ?qr6
      case qh6 => (simp only [List.getElem?_toArray, List.getElem?_cons_succ, List.getElem?_cons_zero]; rfl)
      (refine ⟨by kernel_rfl, by kernel_rfl, by kernel_rfl, by assumption, ?qv6, fun _ _ _ h => h, Or.inl ⟨by kernel_rfl, ?qy6⟩, ?qn6⟩; case qy6 => (intro w hSw; (try dsimp only at hSw); go_simp; try with_reducible rfl))
      refine rgH (i := 6) (oi := ?qo7) ?qh7 ?qr7
      case qh7 => (simp only [List.getElem?_toArray, List.getElem?_cons_succ, List.getElem?_cons_zero]; rfl)
      (refine ⟨by kernel_rfl, by kernel_rfl, by kernel_rfl, by assumption, ?qv7, fun _ _ _ h => h, Or.inl ⟨by kernel_rfl, ?qy7⟩, ?qn7⟩; case qy7 => (intro w hSw; (try dsimp only at hSw); go_simp; try with_reducible rfl))
      (try simp only [Act.put, List.setIfInBounds_toArray, List.set_cons_zero, List.set_cons_succ])
      refine wpAnyH_ready (rs := [7, 9]) (by kernel_rfl) (by simp) ?_
      refine rgHcall2 (i := 7) (j := 9) (o := ?toA1) (o' := ?toA2) ?thA1 ?thA2 ?wayA1 ?wayA2
      case thA1 => (simp only [List.getElem?_toArray, List.getElem?_cons_succ, List.getElem?_cons_zero]; rfl)
      case thA2 => (simp only [List.getElem?_toArray, List.getElem?_cons_succ, List.getElem?_cons_zero]; rfl)
      case wayA1 =>
        intro K hK
        (refine stepR_mk rfl (.tmp 20) (.tmp 20) _ rfl rfl rfl (own_mk slI64 (C := cInt) (base := wq.heap.size) (fun _ => False) ts.length (by omega) (show wq.heap.size ≤ wq.drew.heap.size from Nat.le_refl _) 0 (fun _ _ => ⟨rfl, i64_0⟩) _ _) ?_; rintro w1 ⟨hown, hg⟩)
        have HBM := hid (((Below.refl wq.heap.size wq).drew).grown hg (Nat.le_refl _) (by simp))
        refine hK.out _ _ (HSS.out _ HBM.out) (fun hHeld => ?_)
        clear hK K
        (try simp only [Act.put, List.setIfInBounds_toArray, List.set_cons_zero, List.set_cons_succ])
        refine rgH (i := 8) (oi := ?qo8) ?qh8 ?qr8
        case qh8 => (simp only [List.getElem?_toArray, List.getElem?_cons_succ, List.getElem?_cons_zero]; rfl)
        (refine ⟨by kernel_rfl, by kernel_rfl, by kernel_rfl, by assumption, ?qv8, fun _ _ _ h => h, Or.inl ⟨by kernel_rfl, ?qy8⟩, ?qn8⟩; case qy8 => (intro w hSw; (try dsimp only at hSw); go_simp; try with_reducible rfl))
        (try simp only [Act.put, List.setIfInBounds_toArray, List.set_cons_zero, List.set_cons_succ])
        refine wpAnyH_ready (rs := [9]) (by kernel_rfl) (by simp) ?_
        refine rgHcall (i := 9) (o := ?qo9) ?qh9 ?qk9
        case qh9 => (simp only [List.getElem?_toArray, List.getElem?_cons_succ, List.getElem?_cons_zero]; rfl)
        intro K hK
        go_simp
        skip
        refine hK.out _ _ (HSS.out _ (HBM.out.alloc HBM.out.size _)) (fun hHeld => ?_)
        clear hK K
        (try simp only [Act.put, List.setIfInBounds_toArray, List.set_cons_zero, List.set_cons_succ])
        refine wpAnyH_ready (rs := [10]) (by kernel_rfl) (by simp) ?_
        refine rgHcall (i := 10) (o := ?qo10) ?qh10 ?qk10
        case qh10 => (simp only [List.getElem?_toArray, List.getElem?_cons_succ, List.getElem?_cons_zero]; rfl)
        intro K hK
        go_simp
        skip
        refine hK.out _ _ (HSS.out _ (HBM.out.alloc HBM.out.size _)) (fun hHeld => ?_)
        clear hK K
        refine wpAnyH_done (by kernel_rfl) ?_ _
        have hL := own_lt hown wq.heap.size rfl
        have hbk : (w1.alloc (.cells #[.int .i64 c, .slice none 0 0, .slice (some ⟨wq.heap.size, 0, none⟩) ts.length ts.length] 64)).heap[w1.heap.size]? = some (.cells #[.int .i64 c, .slice none 0 0, .slice (some ⟨wq.heap.size, 0, none⟩) ts.length ts.length] 64 (0, 0)) := heap_new _ _
        have HRB : Hid (RBox (w1.alloc (.cells #[.int .i64 c, .slice none 0 0, .slice (some ⟨wq.heap.size, 0, none⟩) ts.length ts.length] 64)) wq.heap.size w1.heap.size 2 c 1 2 (.slice none 0 0) (.slice (some ⟨wq.heap.size, 0, none⟩) ts.length ts.length) [] (List.replicate ts.length 0)) := RBox.ofBlk hbk (Nat.le_of_lt hL.2) (own_nil _ _ _ _ _) (own_alloc hown _) (by simp [Value.ownBlock]) (by simp only [Value.ownBlock]; intro h9; have := Option.some.inj h9; omega) (fun k hk => by simp [Value.ownBlock] at hk)
        have HB3 : Hid (Below wq.heap.size wq (w1.alloc (.cells #[.int .i64 c, .slice none 0 0, .slice (some ⟨wq.heap.size, 0, none⟩) ts.length ts.length] 64))) := HBM.out.alloc HBM.out.size _
        obtain ⟨B9, L, bx, hB9, hL9, hbx9⟩ : ∃ B9 L bx, B9 = wq.heap.size ∧ L = wq.heap.size ∧ bx = w1.heap.size := ⟨_, _, _, rfl, rfl, rfl⟩
        generalize w1.alloc (.cells #[.int .i64 c, .slice none 0 0, .slice (some ⟨wq.heap.size, 0, none⟩) ts.length ts.length] 64) = W3 at *
        have HBE := hid hB9
        have hrb : RBox W3 B9 bx 2 c 1 2 (.slice none 0 0) (.slice (some ⟨L, 0, none⟩) ts.length ts.length) [] (List.replicate ts.length 0) := by rw [hB9, hL9, hbx9]; exact HRB.out
        have HRX := hid hrb
        rw [← hL9, ← hbx9]
        clear hL9 hbx9 hrb HRB hbk hL hown hg HBM hB9
        clear HTN tn
        go_wp2
        go_loopw [6] (fun i wr => ∃ (j : Nat) (lv : Value), j ≤ 10 ∧ i = .int .i64 j ∧ Hid (RBox wr B9 bx 2 c 1 2 lv (.slice (some ⟨L, 0, none⟩) ts.length ts.length) ((padL zs).take j) (List.replicate ts.length 0)) ∧ Hid (Below wq.heap.size wq wr)) (fun i _ => 10 - (intOf i).toNat)
        case atStart => exact ⟨0, _, by omega, rfl, HRX, HB3⟩
        case round =>
          clear HRX HB3
          obtain ⟨j, lv, hj, rfl, HRB, HBW⟩ := hrel
          have m1 := HRB.out.c1
          by_cases hlt2 : j < 10
          · have HCO := hid (fun (w' : World) (hb' : Below wq.heap.size wq w') => c_l02Coeff j (HC1.out w' hb') (HSL.out.below (Nat.le_refl _) hb'))
            have HPT := hid (pad_take (zs := zs) hlt2)
            have hzi : I64 (zs.getD j 0) := HSL.out.getD_i64 j
            obtain ⟨zj, hzj⟩ : ∃ x, zs.getD j 0 = x := ⟨_, rfl⟩
            rw [hzj] at HCO HPT hzi
            have hpl : ((padL zs).take j).length = j := by rw [List.length_take, padL_len]; omega
            have hpl' : ((padL zs).take (j + 1)).length = j + 1 := by rw [List.length_take, padL_len]; omega
            have HLX : Hid (Below wr.heap.size wr (wr.alloc (.cells #[.int .i64 zj] 2)).drew) := ((Below.refl _ _).alloc (Nat.le_refl _) _).drew
            have HBXA := hid (HRB.out.below HLX.out)
            have HBK2 : Hid ((wr.alloc (.cells #[.int .i64 zj] 2)).drew.heap[wr.heap.size]? = some (.cells #[.int .i64 zj] 2 (0, 0))) := heap_new wr _
            have HBA := hid (bel_next HBW.out HBW.out.size HLX.out)
            have hqbx : wq.heap.size ≤ bx := by have := HRB.out.hB; have := HBE.out; omega
            have ma1 : (wr.alloc (.cells #[.int .i64 zj] 2)).cell? ⟨bx, 1, none⟩ = some lv := HBXA.out.c1
            have hbxl := HRB.out.lt
            have HBD := hid (HBW.out.drew)
            clear hzj
            go_wp2
            refine wp_region_held_drew (S := fun _ => True) (by kernel_rfl) trivial (fun hHeld => ?_)
            refine rgH (i := 0) (oi := ?qo11) ?qh11 ?qr11
            case qh11 => (simp only [List.getElem?_toArray, List.getElem?_cons_zero]; rfl)
            (refine ⟨by kernel_rfl, by kernel_rfl, by kernel_rfl, by assumption, ?qv11, fun _ _ _ h => h, Or.inl ⟨by kernel_rfl, ?qy11⟩, ?qn11⟩; case qy11 => (intro w hSw; (try dsimp only at hSw); go_simp; try with_reducible rfl))
            (try simp only [Act.put, List.setIfInBounds_toArray, List.set_cons_zero, List.set_cons_succ])
            refine rgH (i := 2) (oi := ?qo12) ?qh12 ?qr12
            case qh12 => (simp only [List.getElem?_toArray, List.getElem?_cons_succ, List.getElem?_cons_zero]; rfl)
            (refine ⟨by kernel_rfl, by kernel_rfl, by kernel_rfl, by assumption, ?qv12, fun _ _ _ h => h, Or.inl ⟨by kernel_rfl, ?qy12⟩, ?qn12⟩; case qy12 => (intro w hSw; (try dsimp only at hSw); go_simp; try with_reducible rfl))
            (try simp only [Act.put, List.setIfInBounds_toArray, List.set_cons_zero, List.set_cons_succ])
            refine rgH (i := 3) (oi := ?qo13) ?qh13 ?qr13
            case qh13 => (simp only [List.getElem?_toArray, List.getElem?_cons_succ, List.getElem?_cons_zero]; rfl)
            (refine ⟨by kernel_rfl, by kernel_rfl, by kernel_rfl, by assumption, ?qv13, fun _ _ _ h => h, Or.inl ⟨by kernel_rfl, ?qy13⟩, ?qn13⟩; case qy13 => (intro w hSw; (try dsimp only at hSw); go_simp; try with_reducible rfl))
            refine rgH (i := 4) (oi := ?qo14) ?qh14 ?qr14
            case qh14 => (simp only [List.getElem?_toArray, List.getElem?_cons_succ, List.getElem?_cons_zero]; rfl)
            (refine ⟨by kernel_rfl, by kernel_rfl, by kernel_rfl, by assumption, ?qv14, fun _ _ _ h => h, Or.inl ⟨by kernel_rfl, ?qy14⟩, ?qn14⟩; case qy14 => (intro w hSw; (try dsimp only at hSw); go_simp; try with_reducible rfl))
            refine rgH (i := 5) (oi := ?qo15) ?qh15 ?qr15
            case qh15 => (simp only [List.getElem?_toArray, List.getElem?_cons_succ, List.getElem?_cons_zero]; rfl)
            (refine ⟨by kernel_rfl, by kernel_rfl, by kernel_rfl, by assumption, ?qv15, fun _ _ _ h => h, Or.inl ⟨by kernel_rfl, ?qy15⟩, ?qn15⟩; case qy15 => (intro w hSw; (try dsimp only at hSw); go_simp; try with_reducible rfl))
            (try simp only [Act.put, List.setIfInBounds_toArray, List.set_cons_zero, List.set_cons_succ])
            refine wpAnyH_ready (rs := [1, 6]) (by kernel_rfl) (by simp) ?_
            refine rgHcall2 (i := 1) (j := 6) (o := ?toB1) (o' := ?toB2) ?thB1 ?thB2 ?wayB1 ?wayB2
            case thB1 => (simp only [List.getElem?_toArray, List.getElem?_cons_succ, List.getElem?_cons_zero]; rfl)
            case thB2 => (simp only [List.getElem?_toArray, List.getElem?_cons_succ, List.getElem?_cons_zero]; rfl)
            case wayB1 =>
              intro K hK
              go_simp
              refine hK.out _ _ trivial (fun hHeld => ?_)
              clear hK K
              (try simp only [Act.put, List.setIfInBounds_toArray, List.set_cons_zero, List.set_cons_succ])
              refine wpAnyH_ready (rs := [6]) (by kernel_rfl) (by simp) ?_
              refine rgHcall (i := 6) (o := ?qo16) ?qh16 ?qk16
              case qh16 => (simp only [List.getElem?_toArray, List.getElem?_cons_succ, List.getElem?_cons_zero]; rfl)
              intro K hK
              go_simp
              (go_at_call 45; refine (HCO.out _ HBD.out).mono ?_; rintro e w5 ⟨rfl, rfl⟩)
              refine hK.out _ _ trivial (fun hHeld => ?_)
              clear hK K
              (try simp only [Act.put, List.setIfInBounds_toArray, List.set_cons_zero, List.set_cons_succ])
              refine wpAnyH_ready (rs := [7]) (by kernel_rfl) (by simp) ?_
              refine rgHcall (i := 7) (o := ?qo17) ?qh17 ?qk17
              case qh17 => (simp only [List.getElem?_toArray, List.getElem?_cons_succ, List.getElem?_cons_zero]; rfl)
              intro K hK
              go_simp
              skip
              refine hK.out _ _ trivial (fun hHeld => ?_)
              clear hK K
              (try simp only [Act.put, List.setIfInBounds_toArray, List.set_cons_zero, List.set_cons_succ])
              refine wpAnyH_ready (rs := [8]) (by kernel_rfl) (by simp) ?_
              refine rgHcall (i := 8) (o := ?qo18) ?qh18 ?qk18
              case qh18 => (simp only [List.getElem?_toArray, List.getElem?_cons_succ, List.getElem?_cons_zero]; rfl)
              intro K hK
              (refine step_box rfl (.tmp 28) (.tmp 34) _ rfl slI64 rfl rfl HBXA.out HBK2.out hzi (by omega) (by decide) (by decide) ?_; intro v8 w8 hc8 hf8 hrb8 hb8)
              rw [← HPT.out] at hrb8
              obtain ⟨g9, cap9, z9, rfl, hz9, _, hc9, _, _, _, _, hcap9, hcap9'⟩ := hrb8.out.at hpl' j (Nat.lt_succ_self j)
              have HR8 := hid hrb8.out
              have HB8 := hid ((HBA.out.trans (hb8.mono (Nat.le_of_eq HBE.out.symm))).setCell (p := ⟨bx, 1, none⟩) hqbx (.slice (some ⟨g9, 0, none⟩) (j + 1) cap9))
              clear hrb8 hb8 hz9 hc9
              refine hK.out _ _ trivial (fun hHeld => ?_)
              clear hK K
              (try simp only [Act.put, List.setIfInBounds_toArray, List.set_cons_zero, List.set_cons_succ])
              refine rgH (i := 9) (oi := ?qo19) ?qh19 ?qr19
              case qh19 => (simp only [List.getElem?_toArray, List.getElem?_cons_succ, List.getElem?_cons_zero]; rfl)
              (refine ⟨by kernel_rfl, by kernel_rfl, by kernel_rfl, by assumption, ?qv19, fun _ _ _ h => h, Or.inl ⟨by kernel_rfl, ?qy19⟩, ?qn19⟩; case qy19 => (intro w hSw; (try dsimp only at hSw); go_simp; try with_reducible rfl))
              (try simp only [Act.put, List.setIfInBounds_toArray, List.set_cons_zero, List.set_cons_succ])
              refine wpAnyH_ready (rs := [10]) (by kernel_rfl) (by simp) ?_
              refine rgHcall (i := 10) (o := ?qo20) ?qh20 ?qk20
              case qh20 => (simp only [List.getElem?_toArray, List.getElem?_cons_succ, List.getElem?_cons_zero]; rfl)
              intro K hK
              go_simp
              skip
              refine hK.out _ _ trivial (fun hHeld => ?_)
              clear hK K
              refine wpAnyH_done (by kernel_rfl) ?_ _
              generalize w8.setCell ⟨bx, 1, none⟩ (.slice (some ⟨g9, 0, none⟩) (j + 1) cap9) = w9 at *
              clear hc8 hf8
              go_wp2
              go_roundw
              case rel => exact ⟨j + 1, _, by omega, by go_num, HR8, HB8⟩
              case measure => simp [intOf]; omega
            case wayB2 =>
              intro K hK
              go_simp
              go_at_call 45
              refine (HCO.out _ HBD.out).mono ?_
              rintro e w5 ⟨rfl, rfl⟩
              refine hK.out _ _ trivial (fun hHeld => ?_)
              clear hK K
              (try simp only [Act.put, List.setIfInBounds_toArray, List.set_cons_zero, List.set_cons_succ])
              refine wpAnyH_ready (rs := [1, 7]) (by kernel_rfl) (by simp) ?_
              refine rgHcall2 (i := 1) (j := 7) (o := ?toC1) (o' := ?toC2) ?thC1 ?thC2 ?wayC1 ?wayC2
              case thC1 => (simp only [List.getElem?_toArray, List.getElem?_cons_succ, List.getElem?_cons_zero]; rfl)
              case thC2 => (simp only [List.getElem?_toArray, List.getElem?_cons_succ, List.getElem?_cons_zero]; rfl)
              case wayC1 =>
                intro K hK
                go_simp
                refine hK.out _ _ trivial (fun hHeld => ?_)
                clear hK K
                (try simp only [Act.put, List.setIfInBounds_toArray, List.set_cons_zero, List.set_cons_succ])
                refine wpAnyH_ready (rs := [7]) (by kernel_rfl) (by simp) ?_
                refine rgHcall (i := 7) (o := ?qo21) ?qh21 ?qk21
                case qh21 => (simp only [List.getElem?_toArray, List.getElem?_cons_succ, List.getElem?_cons_zero]; rfl)
                intro K hK
                go_simp
                skip
                refine hK.out _ _ trivial (fun hHeld => ?_)
                clear hK K
                (try simp only [Act.put, List.setIfInBounds_toArray, List.set_cons_zero, List.set_cons_succ])
                refine wpAnyH_ready (rs := [8]) (by kernel_rfl) (by simp) ?_
                refine rgHcall (i := 8) (o := ?qo22) ?qh22 ?qk22
                case qh22 => (simp only [List.getElem?_toArray, List.getElem?_cons_succ, List.getElem?_cons_zero]; rfl)
                intro K hK
                (refine step_box rfl (.tmp 28) (.tmp 34) _ rfl slI64 rfl rfl HBXA.out HBK2.out hzi (by omega) (by decide) (by decide) ?_; intro v8 w8 hc8 hf8 hrb8 hb8)
                rw [← HPT.out] at hrb8
                obtain ⟨g9, cap9, z9, rfl, hz9, _, hc9, _, _, _, _, hcap9, hcap9'⟩ := hrb8.out.at hpl' j (Nat.lt_succ_self j)
                have HR8 := hid hrb8.out
                have HB8 := hid ((HBA.out.trans (hb8.mono (Nat.le_of_eq HBE.out.symm))).setCell (p := ⟨bx, 1, none⟩) hqbx (.slice (some ⟨g9, 0, none⟩) (j + 1) cap9))
                clear hrb8 hb8 hz9 hc9
                refine hK.out _ _ trivial (fun hHeld => ?_)
                clear hK K
                (try simp only [Act.put, List.setIfInBounds_toArray, List.set_cons_zero, List.set_cons_succ])
                refine rgH (i := 9) (oi := ?qo23) ?qh23 ?qr23
                case qh23 => (simp only [List.getElem?_toArray, List.getElem?_cons_succ, List.getElem?_cons_zero]; rfl)
                (refine ⟨by kernel_rfl, by kernel_rfl, by kernel_rfl, by assumption, ?qv23, fun _ _ _ h => h, Or.inl ⟨by kernel_rfl, ?qy23⟩, ?qn23⟩; case qy23 => (intro w hSw; (try dsimp only at hSw); go_simp; try with_reducible rfl))
                (try simp only [Act.put, List.setIfInBounds_toArray, List.set_cons_zero, List.set_cons_succ])
                refine wpAnyH_ready (rs := [10]) (by kernel_rfl) (by simp) ?_
                refine rgHcall (i := 10) (o := ?qo24) ?qh24 ?qk24
                case qh24 => (simp only [List.getElem?_toArray, List.getElem?_cons_succ, List.getElem?_cons_zero]; rfl)
                intro K hK
                go_simp
                skip
                refine hK.out _ _ trivial (fun hHeld => ?_)
                clear hK K
                refine wpAnyH_done (by kernel_rfl) ?_ _
                generalize w8.setCell ⟨bx, 1, none⟩ (.slice (some ⟨g9, 0, none⟩) (j + 1) cap9) = w9 at *
                clear hc8 hf8
                go_wp2
                go_roundw
                case rel => exact ⟨j + 1, _, by omega, by go_num, HR8, HB8⟩
                case measure => simp [intOf]; omega
              case wayC2 =>
                intro K hK
                go_simp
                refine hK.out _ _ trivial (fun hHeld => ?_)
                clear hK K
                (try simp only [Act.put, List.setIfInBounds_toArray, List.set_cons_zero, List.set_cons_succ])
                refine wpAnyH_ready (rs := [1]) (by kernel_rfl) (by simp) ?_
                refine rgHcall (i := 1) (o := ?qo25) ?qh25 ?qk25
                case qh25 => (simp only [List.getElem?_toArray, List.getElem?_cons_succ, List.getElem?_cons_zero]; rfl)
                intro K hK
                go_simp
                skip
                refine hK.out _ _ trivial (fun hHeld => ?_)
                clear hK K
                (try simp only [Act.put, List.setIfInBounds_toArray, List.set_cons_zero, List.set_cons_succ])
                refine wpAnyH_ready (rs := [8]) (by kernel_rfl) (by simp) ?_
                refine rgHcall (i := 8) (o := ?qo26) ?qh26 ?qk26
                case qh26 => (simp only [List.getElem?_toArray, List.getElem?_cons_succ, List.getElem?_cons_zero]; rfl)
                intro K hK
                (refine step_box rfl (.tmp 28) (.tmp 34) _ rfl slI64 rfl rfl HBXA.out HBK2.out hzi (by omega) (by decide) (by decide) ?_; intro v8 w8 hc8 hf8 hrb8 hb8)
                rw [← HPT.out] at hrb8
                obtain ⟨g9, cap9, z9, rfl, hz9, _, hc9, _, _, _, _, hcap9, hcap9'⟩ := hrb8.out.at hpl' j (Nat.lt_succ_self j)
                have HR8 := hid hrb8.out
                have HB8 := hid ((HBA.out.trans (hb8.mono (Nat.le_of_eq HBE.out.symm))).setCell (p := ⟨bx, 1, none⟩) hqbx (.slice (some ⟨g9, 0, none⟩) (j + 1) cap9))
                clear hrb8 hb8 hz9 hc9
                refine hK.out _ _ trivial (fun hHeld => ?_)
                clear hK K
                (try simp only [Act.put, List.setIfInBounds_toArray, List.set_cons_zero, List.set_cons_succ])
                refine rgH (i := 9) (oi := ?qo27) ?qh27 ?qr27
                case qh27 => (simp only [List.getElem?_toArray, List.getElem?_cons_succ, List.getElem?_cons_zero]; rfl)
                (refine ⟨by kernel_rfl, by kernel_rfl, by kernel_rfl, by assumption, ?qv27, fun _ _ _ h => h, Or.inl ⟨by kernel_rfl, ?qy27⟩, ?qn27⟩; case qy27 => (intro w hSw; (try dsimp only at hSw); go_simp; try with_reducible rfl))
                (try simp only [Act.put, List.setIfInBounds_toArray, List.set_cons_zero, List.set_cons_succ])
                refine wpAnyH_ready (rs := [10]) (by kernel_rfl) (by simp) ?_
                refine rgHcall (i := 10) (o := ?qo28) ?qh28 ?qk28
                case qh28 => (simp only [List.getElem?_toArray, List.getElem?_cons_succ, List.getElem?_cons_zero]; rfl)
                intro K hK
                go_simp
                skip
                refine hK.out _ _ trivial (fun hHeld => ?_)
                clear hK K
                refine wpAnyH_done (by kernel_rfl) ?_ _
                generalize w8.setCell ⟨bx, 1, none⟩ (.slice (some ⟨g9, 0, none⟩) (j + 1) cap9) = w9 at *
                clear hc8 hf8
                go_wp2
                go_roundw
                case rel => exact ⟨j + 1, _, by omega, by go_num, HR8, HB8⟩
                case measure => simp [intOf]; omega
          · have hj10 : j = 10 := by omega
            have hrb := HRB.out
            rw [List.take_of_length_le (by rw [padL_len]; omega)] at hrb
            obtain ⟨gl, capl, _, hvl, _, _, _, _, _, _, _, hcl, hcl'⟩ := hrb.at (padL_len zs) 0 (by omega)
            subst hvl
            obtain ⟨g', cap', z, hv, hz, _, hzc, hzf, hzl, hgB, _, _, _⟩ := hrb.swap.at (List.length_replicate) k hlt
            cases hv
            have hset := (hrb.swap.set List.length_replicate k hlt 1 ⟨by omega, by omega⟩).swap
            have HB4 := hid (HBW.out.setCell (p := ⟨L, k, none⟩) (by show wq.heap.size ≤ L; rw [← HBE.out]; exact hgB) (.int .i64 1))
            have m2 := hrb.c2
            have y0 := hset.c0
            have y1 := hset.c1
            have y2 := hset.c2
            have HB5 := hid (bel_next HBR.out hsz HB4.out)
            have HR5 := hid (HR.out.more HB4.out (F := fun b => wq.heap.size ≤ b ∧ b < (wr.setCell ⟨L, k, none⟩ (.int .i64 1)).heap.size) fun b hb => hb)
            obtain ⟨al, cl, hal, hsl⟩ := hset.len
            obtain ⟨at', ct, hat, hst⟩ := hset.swap.len
            rw [padL_len] at hal
            rw [show ((List.replicate ts.length (0 : Int)).set k 1).length = ts.length by simp] at hat
            injection hal with hal1 _ hal3
            injection hat with hat1 _ hat3
            subst hal1 hal3 hat1 hat3
            have hrd := rd_row (T := fun b => T b ∨ (wq.heap.size ≤ b ∧ b < (wr.setCell ⟨L, k, none⟩ (.int .i64 1)).heap.size)) hc1 (hsl.keep fun b hb _ => ⟨.inr (by rw [← HBE.out]; exact hb), rfl⟩) (hst.keep fun b hb _ => ⟨.inr (by rw [← HBE.out]; exact hb), rfl⟩)
            rw [padL_len, show ((List.replicate ts.length (0 : Int)).set k 1).length = ts.length by simp] at hrd
            have HRD := hid hrd
            have e10 : decide ((j : Int) < 10) = false := decide_eq_false (by omega)
            clear hrb hset hsl hst hrd hj10 HRB
            go_wp2_with (at_builtin; go_loud (refine app_rows rfl (.tmp 41) (.tmp 43) _ rfl slRowS rfl rfl (size_set _ _ _).symm HR5.out ((c, padL zs), unitL ts.length k) HRD.out (by omega) HB5.out.size ?_); intro v3 w3 hr3 hb3 hk3; rw [← HTK.out] at hr3; have HR6 := hid hr3; have HB6 := hid (HB5.out.trans hb3); clear hr3 hb3 hk3)
            go_roundw
            case rel => exact ⟨k + 1, _, by omega, by go_num, HR6, HB6⟩
            case measure => simp [intOf]; omega
      case wayA2 =>
        intro K hK
        go_simp
        have HBX : Hid (Below wq.heap.size wq (wq.alloc (.cells #[.int .i64 0, .slice none 0 0, .slice none 0 0] 64)).drew) := ((Below.refl _ _).alloc (Nat.le_refl _) _).drew
        refine hK.out _ _ (HSS.out _ HBX.out) (fun hHeld => ?_)
        clear hK K
        (try simp only [Act.put, List.setIfInBounds_toArray, List.set_cons_zero, List.set_cons_succ])
        refine wpAnyH_ready (rs := [7]) (by kernel_rfl) (by simp) ?_
        refine rgHcall (i := 7) (o := ?qo29) ?qh29 ?qk29
        case qh29 => (simp only [List.getElem?_toArray, List.getElem?_cons_succ, List.getElem?_cons_zero]; rfl)
        intro K hK
        (refine stepR_mk rfl (.tmp 20) (.tmp 20) _ rfl rfl rfl (own_mk slI64 (C := cInt) (base := wq.heap.size) (fun _ => False) ts.length (by omega) (HBX.out.size) 0 (fun _ _ => ⟨rfl, i64_0⟩) _ _) ?_; rintro w1 ⟨hown, hg⟩)
        have HBM := hid (HBX.out.grown hg HBX.out.size (by simp))
        rw [show (wq.alloc (.cells #[.int .i64 0, .slice none 0 0, .slice none 0 0] 64)).drew.heap.size = wq.heap.size + 1 from World.size_alloc _ _] at hown
        have hbk1 : w1.heap[wq.heap.size]? = some (.cells #[.int .i64 0, .slice none 0 0, .slice none 0 0] 64 (0, 0)) := (hg.block wq.heap.size (by show _ < (wq.alloc _).heap.size; simp) (by simp)).trans (heap_new _ _)
        have r0 := cell_of hbk1 (j := 0) rfl
        have r1 := cell_of hbk1 (j := 1) rfl
        have r2 := cell_of hbk1 (j := 2) rfl
        have f0 := frz_of hbk1 0
        have f1 := frz_of hbk1 1
        have f2 := frz_of hbk1 2
        have hbk4 := blk_set (blk_set (blk_set hbk1 0 (.int .i64 c)) 1 (.slice none 0 0)) 2 (.slice (some ⟨wq.heap.size + 1, 0, none⟩) ts.length ts.length)
        have HB4 : Hid (Below wq.heap.size wq (((w1.setCell ⟨wq.heap.size, 0, none⟩ (.int .i64 c)).setCell ⟨wq.heap.size, 1, none⟩ (.slice none 0 0)).setCell ⟨wq.heap.size, 2, none⟩ (.slice (some ⟨wq.heap.size + 1, 0, none⟩) ts.length ts.length))) := ((HBM.out.setCell (Nat.le_refl _) _).setCell (Nat.le_refl _) _).setCell (Nat.le_refl _) _
        refine hK.out _ _ (HSS.out _ HBM.out) (fun hHeld => ?_)
        clear hK K
        (try simp only [Act.put, List.setIfInBounds_toArray, List.set_cons_zero, List.set_cons_succ])
        refine rgH (i := 8) (oi := ?qo30) ?qh30 ?qr30
        case qh30 => (simp only [List.getElem?_toArray, List.getElem?_cons_succ, List.getElem?_cons_zero]; rfl)
        (refine ⟨by kernel_rfl, by kernel_rfl, by kernel_rfl, by assumption, ?qv30, fun _ _ _ h => h, Or.inl ⟨by kernel_rfl, ?qy30⟩, ?qn30⟩; case qy30 => (intro w hSw; (try dsimp only at hSw); go_simp; try with_reducible rfl))
        (try simp only [Act.put, List.setIfInBounds_toArray, List.set_cons_zero, List.set_cons_succ])
        refine wpAnyH_ready (rs := [10]) (by kernel_rfl) (by simp) ?_
        refine rgHcall (i := 10) (o := ?qo31) ?qh31 ?qk31
        case qh31 => (simp only [List.getElem?_toArray, List.getElem?_cons_succ, List.getElem?_cons_zero]; rfl)
        intro K hK
        go_simp
        skip
        refine hK.out _ _ (HSS.out _ HB4.out) (fun hHeld => ?_)
        clear hK K
        refine wpAnyH_done (by kernel_rfl) ?_ _
        have HRB : Hid (RBox (((w1.setCell ⟨wq.heap.size, 0, none⟩ (.int .i64 c)).setCell ⟨wq.heap.size, 1, none⟩ (.slice none 0 0)).setCell ⟨wq.heap.size, 2, none⟩ (.slice (some ⟨wq.heap.size + 1, 0, none⟩) ts.length ts.length)) wq.heap.size wq.heap.size 2 c 1 2 (.slice none 0 0) (.slice (some ⟨wq.heap.size + 1, 0, none⟩) ts.length ts.length) [] (List.replicate ts.length 0)) := RBox.ofBlk hbk4 (Nat.le_refl _) (own_nil _ _ _ _ _) (own_keep hown (fun _ h _ => h) fun b hl hs => by
            have hne : b ≠ wq.heap.size := by
              rcases hs with hs | hs
              · exact hs.elim
              · intro e; subst e; simp [Value.ownBlock] at hs
            rw [heap_setCell_ne _ _ _ hne, heap_setCell_ne _ _ _ hne, heap_setCell_ne _ _ _ hne]) (by simp [Value.ownBlock]) (by simp [Value.ownBlock]) (fun k hk => by simp [Value.ownBlock] at hk)
        have HB3 := HB4
        obtain ⟨B9, L, bx, hB9, hL9, hbx9⟩ : ∃ B9 L bx, B9 = wq.heap.size ∧ L = wq.heap.size + 1 ∧ bx = wq.heap.size := ⟨_, _, _, rfl, rfl, rfl⟩
        generalize (((w1.setCell ⟨wq.heap.size, 0, none⟩ (.int .i64 c)).setCell ⟨wq.heap.size, 1, none⟩ (.slice none 0 0)).setCell ⟨wq.heap.size, 2, none⟩ (.slice (some ⟨wq.heap.size + 1, 0, none⟩) ts.length ts.length)) = W3 at *
        have HBE := hid hB9
        have hrb : RBox W3 B9 bx 2 c 1 2 (.slice none 0 0) (.slice (some ⟨L, 0, none⟩) ts.length ts.length) [] (List.replicate ts.length 0) := by rw [hB9, hL9, hbx9]; exact HRB.out
        have HRX := hid hrb
        rw [← hL9, ← hbx9]
        clear hL9 hbx9 hrb HRB hown hg HBM hB9 HB4 hbk4 HBX
        clear HTN tn
        go_wp2
        go_loopw [6] (fun i wr => ∃ (j : Nat) (lv : Value), j ≤ 10 ∧ i = .int .i64 j ∧ Hid (RBox wr B9 bx 2 c 1 2 lv (.slice (some ⟨L, 0, none⟩) ts.length ts.length) ((padL zs).take j) (List.replicate ts.length 0)) ∧ Hid (Below wq.heap.size wq wr)) (fun i _ => 10 - (intOf i).toNat)
        case atStart => exact ⟨0, _, by omega, rfl, HRX, HB3⟩
        case round =>
          clear HRX HB3
          obtain ⟨j, lv, hj, rfl, HRB, HBW⟩ := hrel
          have m1 := HRB.out.c1
          by_cases hlt2 : j < 10
          · have HCO := hid (fun (w' : World) (hb' : Below wq.heap.size wq w') => c_l02Coeff j (HC1.out w' hb') (HSL.out.below (Nat.le_refl _) hb'))
            have HPT := hid (pad_take (zs := zs) hlt2)
            have hzi : I64 (zs.getD j 0) := HSL.out.getD_i64 j
            obtain ⟨zj, hzj⟩ : ∃ x, zs.getD j 0 = x := ⟨_, rfl⟩
            rw [hzj] at HCO HPT hzi
            have hpl : ((padL zs).take j).length = j := by rw [List.length_take, padL_len]; omega
            have hpl' : ((padL zs).take (j + 1)).length = j + 1 := by rw [List.length_take, padL_len]; omega
            have HLX : Hid (Below wr.heap.size wr (wr.alloc (.cells #[.int .i64 zj] 2)).drew) := ((Below.refl _ _).alloc (Nat.le_refl _) _).drew
            have HBXA := hid (HRB.out.below HLX.out)
            have HBK2 : Hid ((wr.alloc (.cells #[.int .i64 zj] 2)).drew.heap[wr.heap.size]? = some (.cells #[.int .i64 zj] 2 (0, 0))) := heap_new wr _
            have HBA := hid (bel_next HBW.out HBW.out.size HLX.out)
            have hqbx : wq.heap.size ≤ bx := by have := HRB.out.hB; have := HBE.out; omega
            have ma1 : (wr.alloc (.cells #[.int .i64 zj] 2)).cell? ⟨bx, 1, none⟩ = some lv := HBXA.out.c1
            have hbxl := HRB.out.lt
            have HBD := hid (HBW.out.drew)
            clear hzj
            go_wp2
            refine wp_region_held_drew (S := fun _ => True) (by kernel_rfl) trivial (fun hHeld => ?_)
            refine rgH (i := 0) (oi := ?qo32) ?qh32 ?qr32
            case qh32 => (simp only [List.getElem?_toArray, List.getElem?_cons_zero]; rfl)
            (refine ⟨by kernel_rfl, by kernel_rfl, by kernel_rfl, by assumption, ?qv32, fun _ _ _ h => h, Or.inl ⟨by kernel_rfl, ?qy32⟩, ?qn32⟩; case qy32 => (intro w hSw; (try dsimp only at hSw); go_simp; try with_reducible rfl))
            (try simp only [Act.put, List.setIfInBounds_toArray, List.set_cons_zero, List.set_cons_succ])
            refine rgH (i := 2) (oi := ?qo33) ?qh33 ?qr33
            case qh33 => (simp only [List.getElem?_toArray, List.getElem?_cons_succ, List.getElem?_cons_zero]; rfl)
            (refine ⟨by kernel_rfl, by kernel_rfl, by kernel_rfl, by assumption, ?qv33, fun _ _ _ h => h, Or.inl ⟨by kernel_rfl, ?qy33⟩, ?qn33⟩; case qy33 => (intro w hSw; (try dsimp only at hSw); go_simp; try with_reducible rfl))
            refine rgH (i := 3) (oi := ?qo34) ?qh34 ?qr34
            case qh34 => (simp only [List.getElem?_toArray, List.getElem?_cons_succ, List.getElem?_cons_zero]; rfl)
            (refine ⟨by kernel_rfl, by kernel_rfl, by kernel_rfl, by assumption, ?qv34, fun _ _ _ h => h, Or.inl ⟨by kernel_rfl, ?qy34⟩, ?qn34⟩; case qy34 => (intro w hSw; (try dsimp only at hSw); go_simp; try with_reducible rfl))
            refine rgH (i := 4) (oi := ?qo35) ?qh35 ?qr35
            case qh35 => (simp only [List.getElem?_toArray, List.getElem?_cons_succ, List.getElem?_cons_zero]; rfl)
            (refine ⟨by kernel_rfl, by kernel_rfl, by kernel_rfl, by assumption, ?qv35, fun _ _ _ h => h, Or.inl ⟨by kernel_rfl, ?qy35⟩, ?qn35⟩; case qy35 => (intro w hSw; (try dsimp only at hSw); go_simp; try with_reducible rfl))
            refine rgH (i := 5) (oi := ?qo36) ?qh36 ?qr36
            case qh36 => (simp only [List.getElem?_toArray, List.getElem?_cons_succ, List.getElem?_cons_zero]; rfl)
            (refine ⟨by kernel_rfl, by kernel_rfl, by kernel_rfl, by assumption, ?qv36, fun _ _ _ h => h, Or.inl ⟨by kernel_rfl, ?qy36⟩, ?qn36⟩; case qy36 => (intro w hSw; (try dsimp only at hSw); go_simp; try with_reducible rfl))
            (try simp only [Act.put, List.setIfInBounds_toArray, List.set_cons_zero, List.set_cons_succ])
            refine wpAnyH_ready (rs := [1, 6]) (by kernel_rfl) (by simp) ?_
            refine rgHcall2 (i := 1) (j := 6) (o := ?toD1) (o' := ?toD2) ?thD1 ?thD2 ?wayD1 ?wayD2
            case thD1 => (simp only [List.getElem?_toArray, List.getElem?_cons_succ, List.getElem?_cons_zero]; rfl)
            case thD2 => (simp only [List.getElem?_toArray, List.getElem?_cons_succ, List.getElem?_cons_zero]; rfl)
            case wayD1 =>
              intro K hK
              go_simp
              refine hK.out _ _ trivial (fun hHeld => ?_)
              clear hK K
              (try simp only [Act.put, List.setIfInBounds_toArray, List.set_cons_zero, List.set_cons_succ])
              refine wpAnyH_ready (rs := [6]) (by kernel_rfl) (by simp) ?_
              refine rgHcall (i := 6) (o := ?qo37) ?qh37 ?qk37
              case qh37 => (simp only [List.getElem?_toArray, List.getElem?_cons_succ, List.getElem?_cons_zero]; rfl)
              intro K hK
              go_simp
              (go_at_call 45; refine (HCO.out _ HBD.out).mono ?_; rintro e w5 ⟨rfl, rfl⟩)
              refine hK.out _ _ trivial (fun hHeld => ?_)
              clear hK K
              (try simp only [Act.put, List.setIfInBounds_toArray, List.set_cons_zero, List.set_cons_succ])
              refine wpAnyH_ready (rs := [7]) (by kernel_rfl) (by simp) ?_
              refine rgHcall (i := 7) (o := ?qo38) ?qh38 ?qk38
              case qh38 => (simp only [List.getElem?_toArray, List.getElem?_cons_succ, List.getElem?_cons_zero]; rfl)
              intro K hK
              go_simp
              skip
              refine hK.out _ _ trivial (fun hHeld => ?_)
              clear hK K
              (try simp only [Act.put, List.setIfInBounds_toArray, List.set_cons_zero, List.set_cons_succ])
              refine wpAnyH_ready (rs := [8]) (by kernel_rfl) (by simp) ?_
              refine rgHcall (i := 8) (o := ?qo39) ?qh39 ?qk39
              case qh39 => (simp only [List.getElem?_toArray, List.getElem?_cons_succ, List.getElem?_cons_zero]; rfl)
              intro K hK
              (refine step_box rfl (.tmp 28) (.tmp 34) _ rfl slI64 rfl rfl HBXA.out HBK2.out hzi (by omega) (by decide) (by decide) ?_; intro v8 w8 hc8 hf8 hrb8 hb8)
              rw [← HPT.out] at hrb8
              obtain ⟨g9, cap9, z9, rfl, hz9, _, hc9, _, _, _, _, hcap9, hcap9'⟩ := hrb8.out.at hpl' j (Nat.lt_succ_self j)
              have HR8 := hid hrb8.out
              have HB8 := hid ((HBA.out.trans (hb8.mono (Nat.le_of_eq HBE.out.symm))).setCell (p := ⟨bx, 1, none⟩) hqbx (.slice (some ⟨g9, 0, none⟩) (j + 1) cap9))
              clear hrb8 hb8 hz9 hc9
              refine hK.out _ _ trivial (fun hHeld => ?_)
              clear hK K
              (try simp only [Act.put, List.setIfInBounds_toArray, List.set_cons_zero, List.set_cons_succ])
              refine rgH (i := 9) (oi := ?qo40) ?qh40 ?qr40
              case qh40 => (simp only [List.getElem?_toArray, List.getElem?_cons_succ, List.getElem?_cons_zero]; rfl)
              (refine ⟨by kernel_rfl, by kernel_rfl, by kernel_rfl, by assumption, ?qv40, fun _ _ _ h => h, Or.inl ⟨by kernel_rfl, ?qy40⟩, ?qn40⟩; case qy40 => (intro w hSw; (try dsimp only at hSw); go_simp; try with_reducible rfl))
              (try simp only [Act.put, List.setIfInBounds_toArray, List.set_cons_zero, List.set_cons_succ])
              refine wpAnyH_ready (rs := [10]) (by kernel_rfl) (by simp) ?_
              refine rgHcall (i := 10) (o := ?qo41) ?qh41 ?qk41
              case qh41 => (simp only [List.getElem?_toArray, List.getElem?_cons_succ, List.getElem?_cons_zero]; rfl)
              intro K hK
              go_simp
              skip
              refine hK.out _ _ trivial (fun hHeld => ?_)
              clear hK K
              refine wpAnyH_done (by kernel_rfl) ?_ _
              generalize w8.setCell ⟨bx, 1, none⟩ (.slice (some ⟨g9, 0, none⟩) (j + 1) cap9) = w9 at *
              clear hc8 hf8
              go_wp2
              go_roundw
              case rel => exact ⟨j + 1, _, by omega, by go_num, HR8, HB8⟩
              case measure => simp [intOf]; omega
            case wayD2 =>
              intro K hK
              go_simp
              go_at_call 45
              refine (HCO.out _ HBD.out).mono ?_
              rintro e w5 ⟨rfl, rfl⟩
              refine hK.out _ _ trivial (fun hHeld => ?_)
              clear hK K
              (try simp only [Act.put, List.setIfInBounds_toArray, List.set_cons_zero, List.set_cons_succ])
              refine wpAnyH_ready (rs := [1, 7]) (by kernel_rfl) (by simp) ?_
              refine rgHcall2 (i := 1) (j := 7) (o := ?toE1) (o' := ?toE2) ?thE1 ?thE2 ?wayE1 ?wayE2
              case thE1 => (simp only [List.getElem?_toArray, List.getElem?_cons_succ, List.getElem?_cons_zero]; rfl)
              case thE2 => (simp only [List.getElem?_toArray, List.getElem?_cons_succ, List.getElem?_cons_zero]; rfl)
              case wayE1 =>
                intro K hK
                go_simp
                refine hK.out _ _ trivial (fun hHeld => ?_)
                clear hK K
                (try simp only [Act.put, List.setIfInBounds_toArray, List.set_cons_zero, List.set_cons_succ])
                refine wpAnyH_ready (rs := [7]) (by kernel_rfl) (by simp) ?_
                refine rgHcall (i := 7) (o := ?qo42) ?qh42 ?qk42
                case qh42 => (simp only [List.getElem?_toArray, List.getElem?_cons_succ, List.getElem?_cons_zero]; rfl)
                intro K hK
                go_simp
                skip
                refine hK.out _ _ trivial (fun hHeld => ?_)
                clear hK K
                (try simp only [Act.put, List.setIfInBounds_toArray, List.set_cons_zero, List.set_cons_succ])
                refine wpAnyH_ready (rs := [8]) (by kernel_rfl) (by simp) ?_
                refine rgHcall (i := 8) (o := ?qo43) ?qh43 ?qk43
                case qh43 => (simp only [List.getElem?_toArray, List.getElem?_cons_succ, List.getElem?_cons_zero]; rfl)
                intro K hK
                (refine step_box rfl (.tmp 28) (.tmp 34) _ rfl slI64 rfl rfl HBXA.out HBK2.out hzi (by omega) (by decide) (by decide) ?_; intro v8 w8 hc8 hf8 hrb8 hb8)
                rw [← HPT.out] at hrb8
                obtain ⟨g9, cap9, z9, rfl, hz9, _, hc9, _, _, _, _, hcap9, hcap9'⟩ := hrb8.out.at hpl' j (Nat.lt_succ_self j)
                have HR8 := hid hrb8.out
                have HB8 := hid ((HBA.out.trans (hb8.mono (Nat.le_of_eq HBE.out.symm))).setCell (p := ⟨bx, 1, none⟩) hqbx (.slice (some ⟨g9, 0, none⟩) (j + 1) cap9))
                clear hrb8 hb8 hz9 hc9
                refine hK.out _ _ trivial (fun hHeld => ?_)
                clear hK K
                (try simp only [Act.put, List.setIfInBounds_toArray, List.set_cons_zero, List.set_cons_succ])
                refine rgH (i := 9) (oi := ?qo44) ?qh44 ?qr44
                case qh44 => (simp only [List.getElem?_toArray, List.getElem?_cons_succ, List.getElem?_cons_zero]; rfl)
                (refine ⟨by kernel_rfl, by kernel_rfl, by kernel_rfl, by assumption, ?qv44, fun _ _ _ h => h, Or.inl ⟨by kernel_rfl, ?qy44⟩, ?qn44⟩; case qy44 => (intro w hSw; (try dsimp only at hSw); go_simp; try with_reducible rfl))
                (try simp only [Act.put, List.setIfInBounds_toArray, List.set_cons_zero, List.set_cons_succ])
                refine wpAnyH_ready (rs := [10]) (by kernel_rfl) (by simp) ?_
                refine rgHcall (i := 10) (o := ?qo45) ?qh45 ?qk45
                case qh45 => (simp only [List.getElem?_toArray, List.getElem?_cons_succ, List.getElem?_cons_zero]; rfl)
                intro K hK
                go_simp
                skip
                refine hK.out _ _ trivial (fun hHeld => ?_)
                clear hK K
                refine wpAnyH_done (by kernel_rfl) ?_ _
                generalize w8.setCell ⟨bx, 1, none⟩ (.slice (some ⟨g9, 0, none⟩) (j + 1) cap9) = w9 at *
                clear hc8 hf8
                go_wp2
                go_roundw
                case rel => exact ⟨j + 1, _, by omega, by go_num, HR8, HB8⟩
                case measure => simp [intOf]; omega
              case wayE2 =>
                intro K hK
                go_simp
                refine hK.out _ _ trivial (fun hHeld => ?_)
                clear hK K
                (try simp only [Act.put, List.setIfInBounds_toArray, List.set_cons_zero, List.set_cons_succ])
                refine wpAnyH_ready (rs := [1]) (by kernel_rfl) (by simp) ?_
                refine rgHcall (i := 1) (o := ?qo46) ?qh46 ?qk46
                case qh46 => (simp only [List.getElem?_toArray, List.getElem?_cons_succ, List.getElem?_cons_zero]; rfl)
                intro K hK
                go_simp
                skip
                refine hK.out _ _ trivial (fun hHeld => ?_)
                clear hK K
                (try simp only [Act.put, List.setIfInBounds_toArray, List.set_cons_zero, List.set_cons_succ])
                refine wpAnyH_ready (rs := [8]) (by kernel_rfl) (by simp) ?_
                refine rgHcall (i := 8) (o := ?qo47) ?qh47 ?qk47
                case qh47 => (simp only [List.getElem?_toArray, List.getElem?_cons_succ, List.getElem?_cons_zero]; rfl)
                intro K hK
                (refine step_box rfl (.tmp 28) (.tmp 34) _ rfl slI64 rfl rfl HBXA.out HBK2.out hzi (by omega) (by decide) (by decide) ?_; intro v8 w8 hc8 hf8 hrb8 hb8)
                rw [← HPT.out] at hrb8
                obtain ⟨g9, cap9, z9, rfl, hz9, _, hc9, _, _, _, _, hcap9, hcap9'⟩ := hrb8.out.at hpl' j (Nat.lt_succ_self j)
                have HR8 := hid hrb8.out
                have HB8 := hid ((HBA.out.trans (hb8.mono (Nat.le_of_eq HBE.out.symm))).setCell (p := ⟨bx, 1, none⟩) hqbx (.slice (some ⟨g9, 0, none⟩) (j + 1) cap9))
                clear hrb8 hb8 hz9 hc9
                refine hK.out _ _ trivial (fun hHeld => ?_)
                clear hK K
                (try simp only [Act.put, List.setIfInBounds_toArray, List.set_cons_zero, List.set_cons_succ])
                refine rgH (i := 9) (oi := ?qo48) ?qh48 ?qr48
                case qh48 => (simp only [List.getElem?_toArray, List.getElem?_cons_succ, List.getElem?_cons_zero]; rfl)
                (refine ⟨by kernel_rfl, by kernel_rfl, by kernel_rfl, by assumption, ?qv48, fun _ _ _ h => h, Or.inl ⟨by kernel_rfl, ?qy48⟩, ?qn48⟩; case qy48 => (intro w hSw; (try dsimp only at hSw); go_simp; try with_reducible rfl))
                (try simp only [Act.put, List.setIfInBounds_toArray, List.set_cons_zero, List.set_cons_succ])
                refine wpAnyH_ready (rs := [10]) (by kernel_rfl) (by simp) ?_
                refine rgHcall (i := 10) (o := ?qo49) ?qh49 ?qk49
                case qh49 => (simp only [List.getElem?_toArray, List.getElem?_cons_succ, List.getElem?_cons_zero]; rfl)
                intro K hK
                go_simp
                skip
                refine hK.out _ _ trivial (fun hHeld => ?_)
                clear hK K
                refine wpAnyH_done (by kernel_rfl) ?_ _
                generalize w8.setCell ⟨bx, 1, none⟩ (.slice (some ⟨g9, 0, none⟩) (j + 1) cap9) = w9 at *
                clear hc8 hf8
                go_wp2
                go_roundw
                case rel => exact ⟨j + 1, _, by omega, by go_num, HR8, HB8⟩
                case measure => simp [intOf]; omega
          · have hj10 : j = 10 := by omega
            have hrb := HRB.out
            rw [List.take_of_length_le (by rw [padL_len]; omega)] at hrb
            obtain ⟨gl, capl, _, hvl, _, _, _, _, _, _, _, hcl, hcl'⟩ := hrb.at (padL_len zs) 0 (by omega)
            subst hvl
            obtain ⟨g', cap', z, hv, hz, _, hzc, hzf, hzl, hgB, _, _, _⟩ := hrb.swap.at (List.length_replicate) k hlt
            cases hv
            have hset := (hrb.swap.set List.length_replicate k hlt 1 ⟨by omega, by omega⟩).swap
            have HB4 := hid (HBW.out.setCell (p := ⟨L, k, none⟩) (by show wq.heap.size ≤ L; rw [← HBE.out]; exact hgB) (.int .i64 1))
            have m2 := hrb.c2
            have y0 := hset.c0
            have y1 := hset.c1
            have y2 := hset.c2
            have HB5 := hid (bel_next HBR.out hsz HB4.out)
            have HR5 := hid (HR.out.more HB4.out (F := fun b => wq.heap.size ≤ b ∧ b < (wr.setCell ⟨L, k, none⟩ (.int .i64 1)).heap.size) fun b hb => hb)
            obtain ⟨al, cl, hal, hsl⟩ := hset.len
            obtain ⟨at', ct, hat, hst⟩ := hset.swap.len
            rw [padL_len] at hal
            rw [show ((List.replicate ts.length (0 : Int)).set k 1).length = ts.length by simp] at hat
            injection hal with hal1 _ hal3
            injection hat with hat1 _ hat3
            subst hal1 hal3 hat1 hat3
            have hrd := rd_row (T := fun b => T b ∨ (wq.heap.size ≤ b ∧ b < (wr.setCell ⟨L, k, none⟩ (.int .i64 1)).heap.size)) hc1 (hsl.keep fun b hb _ => ⟨.inr (by rw [← HBE.out]; exact hb), rfl⟩) (hst.keep fun b hb _ => ⟨.inr (by rw [← HBE.out]; exact hb), rfl⟩)
            rw [padL_len, show ((List.replicate ts.length (0 : Int)).set k 1).length = ts.length by simp] at hrd
            have HRD := hid hrd
            have e10 : decide ((j : Int) < 10) = false := decide_eq_false (by omega)
            clear hrb hset hsl hst hrd hj10 HRB
            go_wp2_with (at_builtin; go_loud (refine app_rows rfl (.tmp 41) (.tmp 43) _ rfl slRowS rfl rfl (size_set _ _ _).symm HR5.out ((c, padL zs), unitL ts.length k) HRD.out (by omega) HB5.out.size ?_); intro v3 w3 hr3 hb3 hk3; rw [← HTK.out] at hr3; have HR6 := hid hr3; have HB6 := hid (HB5.out.trans hb3); clear hr3 hb3 hk3)
            go_roundw
            case rel => exact ⟨k + 1, _, by omega, by go_num, HR6, HB6⟩
            case measure => simp [intOf]; omega
    · have hkn : k = ts.length := by omega
      have hr9 := HR.out
      rw [List.take_of_length_le (by rw [rows0_len]; omega)] at hr9
      obtain ⟨av, pv, hsv, hsl⟩ := hr9.turn.slice
      rw [List.length_map, rows0_len] at hsv
      subst hsv
      have HSL := hid hsl
      clear hr9 hsl HR hkn
      go_wp2
      refine bodyPost_ret (v := .slice av ts.length pv) (by simp [results, Try.results31, go_sem]) rfl ?_
      exact ⟨av, pv, rfl, HSL.out, HBR.out⟩
end Go.Proofs.Ytkckhnpdodbffaa
