/- Contracts: facts refuted, the program's side. -/
import Derived.Test.YtkckhnpdodbffaaEl3
import Derived.Test.YtkckhnpdodbffaaElO
import Derived.Test.YtkckhnpdodbffaaL02s
namespace Go.Proofs.Ytkckhnpdodbffaa
open Go.RowKit

theorem c_copyInts {S : Nat → Prop} {a : Option Addr} {p : Nat} {zs : List Int} {w : World} (h : SlRd cInt S w a p zs) (hn : zs.length ≤ 1048576) :
    Calls Try.prog 25 #[.slice a zs.length p] w (RetSl cInt zs w) := by
  have H := hid (h.alloc (.cells #[] 2))
  have HO : Hid (OwnSl cInt (fun _ => False) (w.alloc (.cells #[] 2)) w.heap.size 2 (.slice (some ⟨w.heap.size, 0, none⟩) 0 0) []) := own_made _ _ _ _ _ (Nat.le_refl _)
  clear h
  go_enter Try.func25, Try.ntmps25
  go_wp2_with (at_builtin; refine app_all (C := cInt) rfl (.tmp 3) (.tmp 4) _ rfl slI64 flat_int rfl rfl HO.out H.out no_blk (by simp; omega) (by simp) ?_; intro v3 w3 hO3 hb3; have HO3 := hid hO3; clear hO3)
  go_ret
  have h9 := HO3.out
  rw [List.nil_append] at h9
  exact retSl_own h9 (fun _ h => h.elim) (((Below.refl _ _).alloc (Nat.le_refl _) _).trans hb3)
/-- A row of a slice of rows. -/
theorem SlRd.rowI_at {S : Nat → Prop} {w : World} {b off cap : Nat} {rows : List Row} (h : SlRd cRow S w (some ⟨b, off, none⟩) cap (rows.map rowI)) (k : Nat) (hk : k < rows.length) :
    ∃ r a p am pm, rows[k]? = some r ∧ I64 r.1 ∧ SlRd cInt S w a p (trimL r.2.1) ∧ SlRd cInt S w am pm r.2.2 ∧ b < w.heap.size ∧ w.cell? ⟨b, off + k * 3, none⟩ = some (.int .i64 r.1) ∧ w.cell? ⟨b, off + k * 3 + 1, none⟩ = some (.slice a (trimL r.2.1).length p) ∧ w.cell? ⟨b, off + k * 3 + 2, none⟩ = some (.slice am r.2.2.length pm) := by
  obtain ⟨⟨⟨c, zs⟩, ts⟩, cs, h1, h2, h3, _, h5⟩ := h.at k (by simpa using hk)
  obtain ⟨a, p, am, pm, rfl, hc, hs, hm⟩ := row_cs h2
  rw [List.getElem?_map, List.getElem?_eq_getElem hk] at h1
  simp only [Option.map_some, Option.some.injEq, rowI, Prod.mk.injEq] at h1
  obtain ⟨⟨rfl, rfl⟩, rfl⟩ := h1
  exact ⟨rows[k], a, p, am, pm, List.getElem?_eq_getElem hk, hc, hs, hm, h3, h5 0 _ rfl, h5 1 _ rfl, h5 2 _ rfl⟩
def negR (r : Row) : Bool := decide (r.1 < 0)
def pickF (rows : List Row) : List Int × Bool := match rows.find? negR with
  | some r => (r.2.2, true)
  | none => ([], false)
def factsF (ts : List Term) : List Int × Bool := match allRows (List.range 10) ts with
  | none => ([], false)
  | some rows => pickF rows
theorem refuteF_eq (ts : List Term) : refuteF ts = if areTerms ts 14 then factsF ts else ([], false) := by
  unfold refuteF factsF pickF negR
  rfl
theorem areTerms_valid {ts : List Term} {n : Int} (h : areTerms ts n = true) : (∀ t ∈ ts, validTerm t = true) ∧ (ts.length : Int) ≤ n := by
  unfold areTerms at h
  simp only [Bool.and_eq_true, List.all_eq_true, decide_eq_true_eq] at h
  exact ⟨h.2, by omega⟩
theorem allRows_ok {ts : List Term} {ks : List Nat} {rows : List Row} (hv : ∀ t ∈ ts, validTerm t = true) (hn : ts.length ≤ 14) (h : allRows ks ts = some rows) : RowsOk ts.length rows ∧ rows.length ≤ 60 :=
  stages_ok ks _ rows (rows0_ok hv) (by rw [rows0_len]; omega) h
theorem c_allSymbolsN (n : Nat) (hn : n ≤ 10) (w : World) : Calls Try.prog 24 #[.int .i64 n] w fun e w' => ∃ a p, e = .returned (.slice a n p) ∧ SlRd cInt (fun _ => True) w' a p ((List.range n).map Int.ofNat) ∧ Below w.heap.size w w' :=
  (c_allSymbols n hn w).mono fun e w' ⟨a, p, h1, h2, h3⟩ => ⟨a, p, by rw [natsF_len] at h1; exact h1, h2.keep fun _ _ _ => ⟨trivial, rfl⟩, h3⟩
theorem c_eliminatedN {S Sk : Nat → Prop} {a ak : Option Addr} {p pk : Nat} {ts : List Term} {n : Nat} {w : World} (h : SlRd cTerm S w a p ts) (hk : SlRd cInt Sk w ak pk ((List.range n).map Int.ofNat)) (hv : ∀ t ∈ ts, validTerm t = true) (hn : ts.length ≤ 14) (hkl : n ≤ 10) :
    Calls Try.prog 23 #[.slice a ts.length p, .slice ak n pk] w (elimRes (allRows (List.range n) ts) w) := by
  have h9 := c_eliminated (ks := List.range n) h hk hv hn (fun k hk => by have := List.mem_range.1 hk; omega) (by simpa using hkl)
  rw [List.length_range] at h9
  exact h9
set_option maxHeartbeats 2000000 in
set_option maxRecDepth 100000 in
theorem c_RefuteFacts {S : Nat → Prop} {a : Option Addr} {p : Nat} {ts : List Term} {w : World} (h : SlRd cTerm S w a p ts) :
    Calls Try.prog 8 #[.slice a ts.length p] w (RetSlB cInt (refuteF ts).1 (refuteF ts).2 w) := by
  have H := hid h
  clear h
  cases hr : areTerms ts 14 with
  | false =>
    have HF : Hid (refuteF ts = ([], false)) := by unfold Hid; rw [refuteF_eq, hr]; rfl
    have HR := hid hr
    clear hr
    go_enter Try.func8, Try.ntmps8
    go_wp2_with (go_at_call 22; refine (c_ValidFacts _ _ _ _ H.out).mono ?_; rintro e w1 ⟨rfl, hb1⟩; rw [HR.out])
    refine bodyPost_ret (v := .tuple #[.slice none 0 0, .bool false]) (by simp [results, Try.results8, go_sem]) rfl ?_
    rw [HF.out]
    exact ⟨none, 0, rfl, nil_rd _ _ _, hb1⟩
  | true =>
    have HR := hid hr
    obtain ⟨hv, hn⟩ := areTerms_valid hr
    have hn14 : ts.length ≤ 14 := by omega
    have hf : refuteF ts = factsF ts := by rw [refuteF_eq, hr]; rfl
    have HCE := hid (fun (w' : World) (ak : Option Addr) (pk : Nat) (hb' : Below w.heap.size w w') (hk : SlRd cInt (fun _ => True) w' ak pk ((List.range 10).map Int.ofNat)) => c_eliminatedN (H.out.below (Nat.le_refl _) hb') hk hv hn14 (Nat.le_refl 10))
    cases ho : allRows (List.range 10) ts with
    | none =>
      have HF : Hid (refuteF ts = ([], false)) := by unfold Hid; rw [hf]; unfold factsF; rw [ho]
      rw [ho] at HCE
      clear hr ho hf hv hn
      go_enter Try.func8, Try.ntmps8
      go_wp2_with (first | (go_at_call 22; refine (c_ValidFacts _ _ _ _ H.out).mono ?_; rintro e w1 ⟨rfl, hb1⟩; rw [HR.out]; have HB1 := hid hb1; clear hb1) | (go_at_call 24; refine (c_allSymbolsN 10 (Nat.le_refl _) _).mono ?_; rintro e w2 ⟨ak, pk, rfl, hk2, hb2⟩; have HB2 := hid (bel_next HB1.out HB1.out.size hb2); have HK2 := hid hk2; clear hk2 hb2) | (go_at_call 23; refine (HCE.out _ _ _ HB2.out HK2.out).mono ?_; rintro e w3 ⟨hb3, rfl⟩; have HB3 := hid (bel_next HB2.out HB2.out.size hb3); clear hb3))
      refine bodyPost_ret (v := .tuple #[.slice none 0 0, .bool false]) (by simp [results, Try.results8, go_sem]) rfl ?_
      rw [HF.out]
      exact ⟨none, 0, rfl, nil_rd _ _ _, HB3.out⟩
    | some rows =>
      have HF : Hid (refuteF ts = pickF rows) := by unfold Hid; rw [hf]; unfold factsF; rw [ho]
      obtain ⟨hro, hrl⟩ := allRows_ok hv hn14 ho
      have HRO := hid hro
      rw [ho] at HCE
      clear hr ho hf hv hn hro
      go_enter Try.func8, Try.ntmps8
      go_wp2_with (first | (go_at_call 22; refine (c_ValidFacts _ _ _ _ H.out).mono ?_; rintro e w1 ⟨rfl, hb1⟩; rw [HR.out]; have HB1 := hid hb1; clear hb1) | (go_at_call 24; refine (c_allSymbolsN 10 (Nat.le_refl _) _).mono ?_; rintro e w2 ⟨ak, pk, rfl, hk2, hb2⟩; have HB2 := hid (bel_next HB1.out HB1.out.size hb2); have HK2 := hid hk2; clear hk2 hb2) | (go_at_call 23; refine (HCE.out _ _ _ HB2.out HK2.out).mono ?_; rintro e w3 ⟨hb3, ar, pr, nv, rfl, hs3⟩; have HB3 := hid (bel_next HB2.out HB2.out.size hb3); have HS3 := hid hs3; clear hb3 hs3))
      go_loopw [23] (fun i wr => ∃ k : Nat, k ≤ rows.length ∧ i = .int .i64 k ∧ Hid (rows.find? negR = (rows.drop k).find? negR) ∧ Hid (Below w3.heap.size w3 wr)) (fun i _ => rows.length - (intOf i).toNat)
      case atStart => exact ⟨0, Nat.zero_le _, rfl, rfl, Below.refl _ _⟩
      case round =>
        obtain ⟨k, hk, rfl, HP, HBR⟩ := hrel
        by_cases hlt : k < rows.length
        · obtain ⟨b0, o0, rfl⟩ := HS3.out.some_of (k := k) (by simpa using hlt)
          obtain ⟨r, a1, p1, am, pm, hrk, hr1, hs1, hs2, hg, c0, c1, c2⟩ := (HS3.out.below (Nat.le_refl _) HBR.out).rowI_at k hlt
          have HS2 := hid hs2
          have hlen : r.2.2.length ≤ 1048576 := by have := (HRO.out r (List.mem_of_getElem? hrk)).tlen; omega
          have i0 : (0 : Int) ≤ (k : Int) := by omega
          have i1 : (k : Int) < (rows.length : Int) := by omega
          have HD : Hid (rows.find? negR = (r :: rows.drop (k + 1)).find? negR) := by
            have h9 := HP.out
            rw [List.drop_eq_getElem_cons hlt] at h9
            rw [List.getElem?_eq_getElem hlt] at hrk
            cases hrk
            exact h9
          have HBA : Hid (Below wr.heap.size wr (wr.alloc (.cells #[.int .i64 r.1, .slice a1 (trimL r.2.1).length p1, .slice am r.2.2.length pm] 52))) := (Below.refl _ _).alloc (Nat.le_refl _) _
          have x0 : (wr.alloc (.cells #[.int .i64 r.1, .slice a1 (trimL r.2.1).length p1, .slice am r.2.2.length pm] 52)).cell? ⟨wr.heap.size, 0, none⟩ = some (.int .i64 r.1) := by rw [World.cell?_alloc_at _ _ _ _ rfl]; rfl
          have x1 : (wr.alloc (.cells #[.int .i64 r.1, .slice a1 (trimL r.2.1).length p1, .slice am r.2.2.length pm] 52)).cell? ⟨wr.heap.size, 1, none⟩ = some (.slice a1 (trimL r.2.1).length p1) := by rw [World.cell?_alloc_at _ _ _ _ rfl]; rfl
          have x2 : (wr.alloc (.cells #[.int .i64 r.1, .slice a1 (trimL r.2.1).length p1, .slice am r.2.2.length pm] 52)).cell? ⟨wr.heap.size, 2, none⟩ = some (.slice am r.2.2.length pm) := by rw [World.cell?_alloc_at _ _ _ _ rfl]; rfl
          have HCP := hid (c_copyInts (HS2.out.below (Nat.le_refl _) HBA.out) hlen)
          have HBW := hid (bel_next HB3.out HB3.out.size (HBR.out.trans (HBA.out.mono HBR.out.size)))
          clear hrk hs1 hs2 HP
          by_cases hneg : r.1 < 0
          · have HG : Hid (refuteF ts = (r.2.2, true)) := by
              unfold Hid
              rw [HF.out]; unfold pickF
              rw [HD.out, List.find?_cons_of_pos (by simp [negR, hneg])]
            clear HD
            go_wp2_with (go_at_call 25; refine HCP.out.mono ?_; rintro e w5 ⟨a5, p5, rfl, hs5, hb5⟩; have HS5 := hid hs5; have HB5 := hid (bel_next HBW.out HBW.out.size hb5); have hz5 := HBW.out.size; clear hs5 hb5)
            refine bodyPost_ret (v := .tuple #[.slice a5 r.2.2.length p5, .bool true]) (by simp [results, Try.results8, go_sem]) rfl ?_
            rw [HG.out]
            exact ⟨a5, p5, rfl, HS5.out.lower hz5, HB5.out⟩
          · have HX : Hid (rows.find? negR = (rows.drop (k + 1)).find? negR) := by
              unfold Hid
              rw [HD.out, List.find?_cons_of_neg (by simp [negR, hneg])]
            clear HD
            go_wp2
            go_roundw
            case rel => exact ⟨k + 1, by omega, by go_num, HX, HBR.out.trans (HBA.out.mono HBR.out.size)⟩
            case measure => simp [intOf]; omega
        · have hkl : k = rows.length := by omega
          have HG : Hid (refuteF ts = ([], false)) := by
            unfold Hid
            rw [HF.out]; unfold pickF
            rw [HP.out, hkl, List.drop_length]; rfl
          clear hkl HP
          go_wp2
          refine bodyPost_ret (v := .tuple #[.slice none 0 0, .bool false]) (by simp [results, Try.results8, go_sem]) rfl ?_
          rw [HG.out]
          exact ⟨none, 0, rfl, nil_rd _ _ _, bel_next HB3.out HB3.out.size HBR.out⟩
end Go.Proofs.Ytkckhnpdodbffaa
