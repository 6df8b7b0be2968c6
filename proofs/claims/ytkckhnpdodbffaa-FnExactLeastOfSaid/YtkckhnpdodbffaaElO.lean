/- Contracts: terms of one's own. -/
import Derived.Test.YtkckhnpdodbffaaL02s
import Derived.Test.YtkckhnpdodbffaaApp2
import Derived.Test.YtkckhnpdodbffaaHlp
import Derived.Test.YtkckhnpdodbffaaL07c
import Derived.Test.YtkckhnpdodbffaaUni
import Derived.Outline
import Derived.Deep.RegionHeld3
namespace Go.Proofs.Ytkckhnpdodbffaa
open Go.RowKit
theorem cell_set_other (w : World) (p : Addr) {q : Addr} (v : Value) (h : q.block ≠ p.block) : (w.setCell p v).cell? q = w.cell? q := by
  unfold World.cell?; rw [heap_setCell_ne _ _ _ h]

section
variable {α : Type} {C : Codec α} {S : Nat → Prop} {w : World} {base : Nat} {e : TypeId} {v : Value} {es : List α}
/-- append(v, s...), s a slice of elements that are read out of other blocks. -/
theorem run_app_allN {P : Program} {t : TypeId} {z : Value} {bytes : Nat} (hT : SlT P t e z C.n bytes) {T : Nat → Prop} {a : Option Addr} {cap : Nat} {bs : List α} (hsrc : SlRd C T w a cap bs) (hTS : ∀ b, T b → b < w.heap.size → S b ∧ some b ≠ v.ownBlock) (hown : OwnSl C S w base e v es)
    (hS : ∀ b, S b → b < w.heap.size) (hn : es.length + bs.length ≤ 1099511627776) (hbase : base ≤ w.heap.size) (ty : TypeId) :
    ∃ v' w', (Builtin.append_ #[t, t] ty #[v, .slice a bs.length cap]).run P w = .ok v' w' ∧ OwnSl C S w' base e v' (es ++ bs) ∧ w.grownBy w' v.ownBlock := by
  have hC : 0 < C.n := hT.hs
  obtain ⟨news, g1, g2, g3, g4⟩ := hsrc.cells_all hC
  obtain ⟨xs, hr, hel⟩ := hown
  obtain ⟨v', w', h1, h2, h3, h4⟩ := run_app (ty := ty) hT hr a bs.length cap news (fun hz => by have h7 := hsrc.2.2.1 hz; have h8 := hsrc.1; exact ⟨by omega, h7⟩) g1 g2 g3 hn hbase
  refine ⟨v', w', h1, own_grow («as» := es) bs hS hel (fun i x hi => ?_) hr.1 h2 h3 h4, h3⟩
  obtain ⟨cs, r, hc⟩ := g4 i x hi
  exact ⟨cs, C.keep (fun b hb hl => ⟨hTS b hb hl, rfl⟩) r, hc⟩
theorem app_allN {P : Program} {ops : Array Oper} {rest : List Oper} {o : Oper} {a : Act} {Q : Exit → Act → World → Prop} (hgd : o.guard = none) (s x : Operand) (t : TypeId)
    (ho : o.op = .call { callee := .builtin .append, args := #[s, x], argTypes := #[t, t] }) {z : Value} {bytes : Nat} (hT : SlT P t e z C.n bytes) {T : Nat → Prop} {ad : Option Addr} {cap : Nat} {bs : List α}
    (hs : a.eval s = v) (hx : a.eval x = .slice ad bs.length cap) (hown : OwnSl C S w base e v es) (hsrc : SlRd C T w ad cap bs) (hTS : ∀ b, T b → b < w.heap.size → S b ∧ some b ≠ v.ownBlock) (hS : ∀ b, S b → b < w.heap.size) (hn : es.length + bs.length ≤ 1099511627776) (hbase : base ≤ w.heap.size)
    (h : ∀ v' w', OwnSl C S w' base e v' (es ++ bs) → Below base w w' → wpList P ops Q rest (a.put o.dst v') w') : wpList P ops Q (o :: rest) a w := by
  obtain ⟨v', w', h1, h2, h3⟩ := run_app_allN hT hsrc hTS hown hS hn hbase o.type
  exact wpList_app hgd s x t ho hs hx (R := fun v' w' => OwnSl C S w' base e v' (es ++ bs) ∧ Below base w w') ⟨v', w', h1, h2, bel_own hown h3 (Nat.le_refl _) hbase⟩ fun v' w' hr => h v' w' hr.1 hr.2
/-- It is read like any other slice, whatever its elements lead to. -/
theorem own_rdS (h : OwnSl C S w base e v es) : ∃ a cap, v = .slice a es.length cap ∧ SlRd C (fun b => S b ∨ base ≤ b) w a cap es := by
  obtain ⟨xs, hr, hel⟩ := h
  rcases hr.2 with ⟨h1, h2⟩ | ⟨g, cap, cur, rfl, hbg, hg, hnc, hcm, hcs, htake⟩
  · refine ⟨none, 0, by rw [h1, h2], by omega, by decide, fun _ => rfl, by simp⟩
  · refine ⟨_, cap, rfl, hnc, by unfold maxLen at hcm; simpa using hcm, by simp, ?_⟩
    rintro x hx i d hi
    cases hx
    obtain ⟨cs, r, hc⟩ := hel i d hi
    refine ⟨⟨rfl, .inr hbg, (Array.getElem?_eq_some_iff.1 hg).1⟩, cs, C.keep (fun b hs hl => ⟨.inl hs.1, rfl⟩) r, fun j u hj => ?_⟩
    have h2 := hc j u hj
    rw [← htake, List.getElem?_take] at h2
    split at h2
    · simp only [Nat.zero_add]
      rw [cell_of_row w g _ cur e (0, 0) hg]; simpa using h2
    · cases h2
/-- More may be led to. -/
theorem own_wide {S' : Nat → Prop} (h : OwnSl C S w base e v es) (hS : ∀ b, S b → b < w.heap.size → S' b) : OwnSl C S' w base e v es := own_keep h hS fun _ _ _ => rfl
end
theorem rd_term {T : Nat → Prop} {w : World} {c : Int} {a : Option Addr} {cap : Nat} {zs : List Int} (hc : I64 c) (h : SlRd cInt T w a cap zs) : cTerm.rd T w #[Value.int .i64 c, Value.slice a zs.length cap].toList (c, zs) := ⟨[_], [_], rfl, ⟨rfl, hc⟩, a, cap, rfl, h⟩
theorem c_cloneTerms {S : Nat → Prop} {a : Option Addr} {p : Nat} {xs : List Term} {w : World} (h : SlRd cTerm S w a p xs) (hn : xs.length ≤ 1000000) :
    Calls Try.prog 51 #[.slice a xs.length p] w fun e w' => ∃ v, e = .returned v ∧ OwnSl cTerm (fun b => b < w.heap.size) w' w.heap.size 39 v xs ∧ Below w.heap.size w w' := by
  have h := h.keep (S' := fun b => b < w.heap.size) (w' := w) fun b _ hl => ⟨hl, rfl⟩
  cases a with
  | none =>
    have h0 : xs.length = 0 := by have := h.2.2.1 rfl; have := h.1; omega
    obtain rfl := List.eq_nil_of_length_eq_zero h0
    have hc' := fun w => Lib.run_eql_slice_nil (P := Try.prog) w 27 39 none 0 p 0 0 Try.underlying27
    clear h0 h
    go_enter Try.func51, Try.ntmps51
    go_wp2
    go_ret
    exact ⟨_, rfl, own_nil _ _ _ _ _, Below.refl _ _⟩
  | some x =>
    have H := hid (h.alloc (.cells #[] 39))
    have hc' := fun w => Lib.run_eql_slice_nil (P := Try.prog) w 27 39 (some x) xs.length p 0 0 Try.underlying27
    have HO : Hid (OwnSl cTerm (fun b => b < w.heap.size) (w.alloc (.cells #[] 39)) w.heap.size 39 (.slice (some ⟨w.heap.size, 0, none⟩) 0 0) []) := own_made _ _ _ _ _ (Nat.le_refl _)
    clear h
    go_enter Try.func51, Try.ntmps51
    go_wp2_with (at_builtin; refine app_allN (C := cTerm) rfl (.tmp 5) (.tmp 6) _ rfl slTerm rfl rfl HO.out H.out (fun b hb _ => ⟨hb, fun e => by have h9 : b = w.heap.size := Option.some.inj e; omega⟩) (fun b hb => by have h9 : b < w.heap.size := hb; simp; omega) (by simp; omega) (by simp) ?_; intro v3 w3 hO3 hb3; have HO3 := hid hO3; clear hO3)
    go_ret
    exact ⟨_, rfl, by simpa using HO3.out, ((Below.refl _ _).alloc (Nat.le_refl _) _).trans hb3⟩
theorem c_l00Own {S : Nat → Prop} {a : Option Addr} {p : Nat} {zs : List Int} {w : World} (h : SlRd cInt S w a p zs) (hn : zs.length ≤ 1048576) :
    Calls Try.prog 21 #[.slice a zs.length p] w (RetSl cInt zs w) := by
  have H := hid (h.alloc (.cells #[] 2))
  have HO : Hid (OwnSl cInt (fun _ => False) (w.alloc (.cells #[] 2)) w.heap.size 2 (.slice (some ⟨w.heap.size, 0, none⟩) 0 0) []) := own_made _ _ _ _ _ (Nat.le_refl _)
  clear h
  go_enter Try.func21, Try.ntmps21
  go_wp2_with (at_builtin; refine app_all (C := cInt) rfl (.tmp 3) (.tmp 4) _ rfl slI64 flat_int rfl rfl HO.out H.out no_blk (by simp; omega) (by simp) ?_; intro v3 w3 hO3 hb3; have HO3 := hid hO3; clear hO3)
  go_ret
  have h9 := HO3.out
  rw [List.nil_append] at h9
  exact retSl_own h9 (fun _ h => h.elim) (((Below.refl _ _).alloc (Nat.le_refl _) _).trans hb3)
set_option maxRecDepth 100000 in
theorem c_l02Own {S : Nat → Prop} {b o : Nat} {c : Int} {a : Option Addr} {p : Nat} {zs : List Int} {w : World} (t0 : w.cell? ⟨b, o, none⟩ = some (.int .i64 c)) (t1 : w.cell? ⟨b, o + 1, none⟩ = some (.slice a zs.length p)) (hb : b < w.heap.size) (h : SlRd cInt S w a p zs) (hn : zs.length ≤ 1048576) :
    Calls Try.prog 29 #[.pointer (some ⟨b, o, none⟩)] w fun e w' => ∃ a' p', e = .returned (.agg #[.int .i64 c, .slice a' zs.length p']) ∧ SlRd cInt (Fresh w.heap.size w') w' a' p' zs ∧ Below w.heap.size w w' := by
  have H := hid h
  clear h
  have hl := H.out.len_le
  have hne : w.heap.size ≠ b := by omega
  have HW := hid ((H.out.alloc (.cells #[.int .i64 0, .slice none 0 0] 39)).drew)
  have u0 := cell_below ((Below.refl w.heap.size w).alloc (Nat.le_refl _) (.cells #[.int .i64 0, .slice none 0 0] 39)) hb t0
  have u1 := cell_below ((Below.refl w.heap.size w).alloc (Nat.le_refl _) (.cells #[.int .i64 0, .slice none 0 0] 39)) hb t1
  have HBK : Hid ((w.alloc (.cells #[.int .i64 0, .slice none 0 0] 39)).drew.heap[w.heap.size]? = some (.cells #[.int .i64 0, .slice none 0 0] 39 (0, 0))) := heap_new _ _
  have HB0 : Hid (Below w.heap.size w (w.alloc (.cells #[.int .i64 0, .slice none 0 0] 39)).drew) := ((Below.refl _ _).alloc (Nat.le_refl _) _).trans (below_drewN _ _ 1)
  have hs0 : (w.alloc (.cells #[.int .i64 0, .slice none 0 0] 39)).drew.heap.size = w.heap.size + 1 := by simp [World.drew]
  have hs0' : (w.alloc (.cells #[.int .i64 0, .slice none 0 0] 39)).heap.size = w.heap.size + 1 := by simp
  clear t0 t1
  go_enter Try.func29, Try.ntmps29
  go_wp2_with fail
  generalize w.alloc (.cells #[.int .i64 0, .slice none 0 0] 39) = W at *
  go_region_held3 (fun w' => w'.cell? ⟨b, o, none⟩ = some (.int .i64 c) ∧ w'.cell? ⟨b, o + 1, none⟩ = some (.slice a zs.length p)) (first | exact ⟨u0, u1⟩ | exact kk1 | exact kk2) (first | (go_at_call 21; refine (c_l00Own HW.out hn).mono ?_; rintro e w2 ⟨a2, p2, rfl, hs2, hb2⟩; have kk1 := And.intro (cell_below hb2 (by omega) (show W.drew.cell? ⟨b, o, none⟩ = _ from u0)) (cell_below hb2 (by omega) (show W.drew.cell? ⟨b, o + 1, none⟩ = _ from u1)); have hbk2 := (hb2.block w.heap.size (by omega)).trans HBK.out; have r0 := cell_of hbk2 (j := 0) rfl; have r1 := cell_of hbk2 (j := 1) rfl; have f0 := frz_of hbk2 0; have f1 := frz_of hbk2 1; have HBK2 := hid hbk2; have HS2 := hid hs2; have HB2 := hid (HB0.out.trans (hb2.mono (by omega))); have kk2 := And.intro ((cell_set_other (w2.setCell ⟨w.heap.size, 0, none⟩ (.int .i64 c)) ⟨w.heap.size, 1, none⟩ (q := ⟨b, o, none⟩) (.slice a2 zs.length p2) (by show b ≠ w.heap.size; omega)).trans ((cell_set_other w2 ⟨w.heap.size, 0, none⟩ (q := ⟨b, o, none⟩) (.int .i64 c) (by show b ≠ w.heap.size; omega)).trans kk1.1)) ((cell_set_other (w2.setCell ⟨w.heap.size, 0, none⟩ (.int .i64 c)) ⟨w.heap.size, 1, none⟩ (q := ⟨b, o + 1, none⟩) (.slice a2 zs.length p2) (by show b ≠ w.heap.size; omega)).trans ((cell_set_other w2 ⟨w.heap.size, 0, none⟩ (q := ⟨b, o + 1, none⟩) (.int .i64 c) (by show b ≠ w.heap.size; omega)).trans kk1.2)); clear hs2 hb2 hbk2))
  go_wp2
  have hbk3 := blk_set (blk_set HBK2.out 0 (.int .i64 c)) 1 (.slice a2 zs.length p2)
  have q0 := cell_of hbk3 (j := 0) (u := .int .i64 c) rfl
  have q1 := cell_of hbk3 (j := 1) (u := .slice a2 zs.length p2) rfl
  have HB3 := hid ((HB2.out.setCell (p := ⟨w.heap.size, 0, none⟩) (Nat.le_refl _) (.int .i64 c)).setCell (p := ⟨w.heap.size, 1, none⟩) (Nat.le_refl _) (.slice a2 zs.length p2))
  have HS3 : Hid (SlRd cInt (Fresh w.heap.size ((w2.setCell ⟨w.heap.size, 0, none⟩ (.int .i64 c)).setCell ⟨w.heap.size, 1, none⟩ (.slice a2 zs.length p2))) ((w2.setCell ⟨w.heap.size, 0, none⟩ (.int .i64 c)).setCell ⟨w.heap.size, 1, none⟩ (.slice a2 zs.length p2)) a2 p2 zs) := by
    refine HS2.out.keep fun b hb hl => ?_
    have hne : b ≠ w.heap.size := by have := hb.1; omega
    have he : ((w2.setCell ⟨w.heap.size, 0, none⟩ (.int .i64 c)).setCell ⟨w.heap.size, 1, none⟩ (.slice a2 zs.length p2)).heap[b]? = w2.heap[b]? := (heap_setCell_ne _ _ _ hne).trans (heap_setCell_ne _ _ _ hne)
    exact ⟨⟨by have := hb.1; omega, hb.2.keep he⟩, he⟩
  clear kk1 kk2 r0 r1 f0 f1 HBK2 hbk3
  exact bodyPost_ret (v := .agg #[.int .i64 c, .slice a2 zs.length p2]) (by simp [results, Try.results29, go_sem, q0, q1]) rfl ⟨a2, p2, rfl, HS3.out, HB3.out⟩
set_option maxRecDepth 100000 in
theorem c_l02OwnAll {S : Nat → Prop} {a : Option Addr} {p : Nat} {ts : List Term} {w : World} (h : SlRd cTerm S w a p ts) (hn : ts.length ≤ 1000000) (hv : ∀ t ∈ ts, t.2.length ≤ 1048576) :
    Calls Try.prog 28 #[.slice a ts.length p] w fun e w' => ∃ v, e = .returned v ∧ OwnSl cTerm (fun b => w.heap.size ≤ b ∧ b < w'.heap.size) w' w.heap.size 39 v ts ∧ Below w.heap.size w w' := by
  have H := hid h
  have HV := hid hv
  clear h hv
  go_enter Try.func28, Try.ntmps28
  go_wp2
  go_loopw [3, 4] (fun v i wr => ∃ k : Nat, k ≤ ts.length ∧ i = .int .i64 k ∧ Hid (OwnSl cTerm (fun b => w.heap.size ≤ b ∧ b < wr.heap.size) wr w.heap.size 39 v (ts.take k)) ∧ Hid (Below w.heap.size w wr)) (fun _ i _ => ts.length - (intOf i).toNat)
  case atStart => exact ⟨0, Nat.zero_le _, rfl, own_made _ _ _ _ _ (Nat.le_refl _), (Below.refl _ _).alloc (Nat.le_refl _) _⟩
  case round =>
    obtain ⟨k, hk, rfl, HO, HBR⟩ := hrel
    have hsz := HBR.out.size
    by_cases hlt : k < ts.length
    · obtain ⟨b, off, rfl⟩ := H.out.some_of hlt
      obtain ⟨c, zs, a', cap', hz, hc1, hsl, hc, hc', hb⟩ := (H.out.below (Nat.le_refl _) HBR.out).term_at k hlt
      have hzl := HV.out _ (List.mem_of_getElem? hz)
      simp only at hzl
      have HTK : Hid (ts.take (k + 1) = ts.take k ++ [(c, zs)]) := by unfold Hid; rw [List.take_add_one, hz]; rfl
      have HC := hid (c_l02Own hc hc' hb hsl hzl)
      have i0 : (0 : Int) ≤ (k : Int) := by omega
      have i1 : (k : Int) < (ts.length : Int) := by omega
      have htl : (ts.take k).length ≤ 1000000 := by simp; omega
      clear hz hsl hzl
      go_wp2_with (first | (go_at_call 29; refine HC.out.mono ?_; rintro e w2 ⟨a2, p2, rfl, hs2, hb2⟩; have HS2 := hid hs2; have hz2 := hb2.size; have HB2 := hid (bel_next HBR.out hsz hb2); have HO2 := hid (own_wide (S' := fun b => w.heap.size ≤ b ∧ b < w2.heap.size) (own_below HO.out (Nat.le_refl _) hb2) fun b h _ => ⟨h.1, by omega⟩); have hob := own_lt HO.out; clear hs2 hb2) | (at_builtin; refine app_own (C := cTerm) rfl (.tmp 12) (.tmp 17) _ rfl slTerm rfl rfl HO2.out (fun b h => h.2) (c, zs) (rd_term hc1 (HS2.out.keep fun b h hl => ⟨⟨⟨by have := h.1; omega, hl⟩, fun e => by have h8 := hob b e.symm; have := h.1; omega⟩, rfl⟩)) (by omega) HB2.out.size ?_; intro v3 w3 hO3 hb3; have HB3 := hid (HB2.out.trans hb3); have HO3 := hid (own_wide (S' := fun b => w.heap.size ≤ b ∧ b < w3.heap.size) hO3 fun b h hl => ⟨h.1, hl⟩); clear hO3 hb3))
      go_roundw
      case rel => exact ⟨k + 1, by omega, by go_num, by rw [HTK.out]; exact HO3, HB3⟩
      case measure => simp [intOf]; omega
    · have HK : Hid (ts.take k = ts) := List.take_of_length_le (by omega)
      rw [HK.out] at HO
      go_wp2
      go_ret
      exact ⟨_, rfl, HO.out, HBR.out⟩
end Go.Proofs.Ytkckhnpdodbffaa
