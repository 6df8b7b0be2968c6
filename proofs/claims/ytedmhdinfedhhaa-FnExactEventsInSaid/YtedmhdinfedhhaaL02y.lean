/- Contracts: the symbols of terms. -/
import Derived.Test.YtedmhdinfedhhaaL02yp
import Derived.Test.YtedmhdinfedhhaaL02s
import Derived.Test.YtedmhdinfedhhaaApp
import Derived.Test.YtedmhdinfedhhaaHlp
import Derived.Test.YtedmhdinfedhhaaL07c
import Derived.Outline
namespace Go.Proofs.Ytedmhdinfedhhaa
open Go.RowKit

set_option maxRecDepth 100000 in
theorem c_l00Put {S : Nat → Prop} {a : Option Addr} {p : Nat} {l : List Int} {n : Int} {w : World} (h : SlRd cInt S w a p l) (hl : l.length ≤ 1000000) (hn : I64 n) :
    Calls Try.prog 102 #[.slice a l.length p, .int .i64 n] w (RetSl cInt (putL l n) w) := by
  have H := hid h
  clear h
  go_enter Try.func102, Try.ntmps102
  go_wp2
  go_loopw [5, 6, 7] (fun v dn i wr => ∃ (k : Nat) (d : Bool) (out : List Int), k ≤ l.length ∧ i = .int .i64 k ∧ dn = .bool d ∧ out.length ≤ k + 1 ∧ Hid ((d = false ∧ out = l.take k ∧ ∀ x ∈ l.take k, x < n) ∨ (d = true ∧ out ++ l.drop k = putL l n)) ∧ Hid (OwnSl cInt (fun _ => False) wr w.heap.size 2 v out) ∧ Below w.heap.size w wr) (fun _ _ i _ => l.length - (intOf i).toNat)
  case atStart => exact ⟨0, false, [], Nat.zero_le _, rfl, rfl, by simp, .inl ⟨rfl, by simp, by simp⟩, own_made _ _ _ _ _ (Nat.le_refl _), (Below.refl _ _).alloc (Nat.le_refl _) _⟩
  case round =>
    obtain ⟨k, d, out, hk, rfl, rfl, hol, HI, HO, hbe⟩ := hrel
    have hsz := hbe.size
    by_cases hlt : k < l.length
    · obtain ⟨b, off, rfl⟩ := H.out.some_of hlt
      obtain ⟨z, hz, hz2, hc, hb⟩ := (H.out.below (Nat.le_refl _) hbe).int_at k hlt
      obtain ⟨_, _, _, _, hbw⟩ := H.out.int_at k hlt
      have hdr : l.drop k = z :: l.drop (k + 1) := by
        rw [List.drop_eq_getElem_cons hlt]; congr 1
        rw [List.getElem?_eq_getElem hlt] at hz; simpa using hz
      have htk : l.take (k + 1) = l.take k ++ [z] := by rw [List.take_add_one, hz]; rfl
      cases d
      · have hI : out = l.take k ∧ ∀ x ∈ l.take k, x < n := by
          rcases HI.out with h | h
          · exact h.2
          · cases h.1
        obtain ⟨rfl, hall⟩ := hI
        have hpl := putL_take hall
        rw [hdr] at hpl
        by_cases h1 : z < n
        · have HN : Hid (∀ x ∈ l.take (k + 1), x < n) := by
            intro x hx
            rw [htk] at hx
            rcases List.mem_append.1 hx with hx | hx
            · exact hall x hx
            · simp at hx; omega
          have HTK := hid htk
          have h1' : decide (n ≤ z) = false := by simp; omega
          clear hz hdr htk hpl hall
          go_wp2_with (at_builtin; refine app_own (C := cInt) rfl (.tmp 35) (.tmp 40) _ rfl slI64 rfl rfl HO.out no_blk z (rd_int hz2) (by omega) hsz ?_; intro v3 w3 hO3 hb3; have HO3 := hid hO3; clear hO3)
          go_roundw
          case rel => exact ⟨k + 1, false, l.take k ++ [z], by omega, by go_num, rfl, by simp; omega, .inl ⟨rfl, HTK.out.symm, HN.out⟩, HO3, hbe.trans hb3⟩
          case measure => simp [intOf]; omega
        · have h1' : decide (n ≤ z) = true := by simp; omega
          by_cases h2 : n < z
          · have HN : Hid ((l.take k ++ [n] ++ [z]) ++ l.drop (k + 1) = putL l n) := by
              unfold Hid; rw [hpl]; simp only [putL]; rw [if_pos (by omega), if_pos h2]; simp
            clear hz hdr htk hpl hall
            go_wp2_with (first | (at_builtin; refine app_own (C := cInt) rfl (.tmp 31) (.tmp 33) _ rfl slI64 rfl rfl HO.out no_blk n (rd_int hn) (by omega) hsz ?_; intro v3 w3 hO3 hb3; have HO3 := hid hO3; have HB3 := hid (hbe.trans hb3); have hc3 := (hb3.cell (p := ⟨b, off + k, none⟩) hbw).trans hc; clear hO3 hb3) | (at_builtin; refine app_own (C := cInt) rfl (.tmp 35) (.tmp 40) _ rfl slI64 rfl rfl HO3.out no_blk z (rd_int hz2) (by simp; omega) HB3.out.size ?_; intro v4 w4 hO4 hb4; have HO4 := hid hO4; clear hO4))
            go_roundw
            case rel => exact ⟨k + 1, true, l.take k ++ [n] ++ [z], by omega, by go_num, rfl, by simp; omega, .inr ⟨rfl, HN.out⟩, HO4, HB3.out.trans hb4⟩
            case measure => simp [intOf]; omega
          · have HN : Hid ((l.take k ++ [z]) ++ l.drop (k + 1) = putL l n) := by
              unfold Hid; rw [hpl]; simp only [putL]; rw [if_pos (by omega), if_neg h2]; simp
            clear hz hdr htk hpl hall
            go_wp2_with (at_builtin; refine app_own (C := cInt) rfl (.tmp 35) (.tmp 40) _ rfl slI64 rfl rfl HO.out no_blk z (rd_int hz2) (by omega) hsz ?_; intro v3 w3 hO3 hb3; have HO3 := hid hO3; clear hO3)
            go_roundw
            case rel => exact ⟨k + 1, true, l.take k ++ [z], by omega, by go_num, rfl, by simp; omega, .inr ⟨rfl, HN.out⟩, HO3, hbe.trans hb3⟩
            case measure => simp [intOf]; omega
      · have hI : out ++ l.drop k = putL l n := by
          rcases HI.out with h | h
          · cases h.1
          · exact h.2
        have HN : Hid ((out ++ [z]) ++ l.drop (k + 1) = putL l n) := by unfold Hid; rw [← hI, hdr]; simp
        clear hz hdr htk hI
        go_wp2_with (at_builtin; refine app_own (C := cInt) rfl (.tmp 35) (.tmp 40) _ rfl slI64 rfl rfl HO.out no_blk z (rd_int hz2) (by omega) hsz ?_; intro v3 w3 hO3 hb3; have HO3 := hid hO3; clear hO3)
        go_roundw
        case rel => exact ⟨k + 1, true, out ++ [z], by omega, by go_num, rfl, by simp; omega, .inr ⟨rfl, HN.out⟩, HO3, hbe.trans hb3⟩
        case measure => simp [intOf]; omega
    · cases d
      · have hI : out = l.take k ∧ ∀ x ∈ l.take k, x < n := by
          rcases HI.out with h | h
          · exact h.2
          · cases h.1
        have HF : Hid (putL l n = out ++ [n]) := by
          unfold Hid
          rw [putL_take hI.2, ← hI.1, List.drop_of_length_le (by omega)]; rfl
        clear hI
        go_wp2_with (at_builtin; refine app_own (C := cInt) rfl (.tmp 44) (.tmp 46) _ rfl slI64 rfl rfl HO.out no_blk n (rd_int hn) (by omega) hsz ?_; intro v3 w3 hO3 hb3; have HO3 := hid hO3; clear hO3)
        go_ret
        rw [HF.out]
        exact retSl_own HO3.out (fun _ h => h.elim) (hbe.trans hb3)
      · have HF : Hid (putL l n = out) := by
          rcases HI.out with h | h
          · cases h.1
          · unfold Hid; rw [← h.2, List.drop_of_length_le (by omega)]; simp
        go_wp2
        go_ret
        rw [HF.out]
        exact retSl_own HO.out (fun _ h => h.elim) hbe
set_option maxRecDepth 100000 in
theorem c_l02Symbols {S : Nat → Prop} {a : Option Addr} {p : Nat} {ts : List Term} {w : World} (h : SlRd cTerm S w a p ts) (hv : ∀ t ∈ ts, t.2.length ≤ 10) :
    Calls Try.prog 69 #[.slice a ts.length p] w (RetSl cInt (symF ts) w) := by
  have hl := h.len_le
  have H := hid h
  have HV := hid hv
  clear h hv
  go_enter Try.func69, Try.ntmps69
  go_wp2
  go_loopw [3, 4] (fun v i wr => ∃ (k : Nat) (av : Option Addr) (pv : Nat) (out : List Int), k ≤ ts.length ∧ i = .int .i64 k ∧ v = .slice av out.length pv ∧ Hid (SymAt ts k 0 out) ∧ Hid (SlRd cInt (Fresh w.heap.size wr) wr av pv out) ∧ Below w.heap.size w wr) (fun _ i _ => ts.length - (intOf i).toNat)
  case atStart => exact ⟨0, _, 0, [], Nat.zero_le _, rfl, rfl, symAt_start ts, empty_rd _ _ _ _, (Below.refl _ _).alloc (Nat.le_refl _) _⟩
  case round =>
    obtain ⟨k, av, pv, out, hk, rfl, rfl, HI, HO, hbe⟩ := hrel
    have hsz := hbe.size
    by_cases hlt : k < ts.length
    · obtain ⟨b, off, rfl⟩ := H.out.some_of hlt
      obtain ⟨c, zs, a', cap', hz, hc1, hsl, hc, hc', hb⟩ := H.out.term_at k hlt
      have hz10 := HV.out _ (List.mem_of_getElem? hz)
      simp only at hz10
      have HZ := hid hz
      have HS := hid hsl
      have HBE := hid hbe
      have hlz := hsl.len_le
      have i0 : (0 : Int) ≤ (k : Int) := by omega
      have i1 : (k : Int) < (ts.length : Int) := by omega
      clear hz hsl
      have hcw := cell_below hbe hb hc'
      go_wp2
      obtain ⟨wo, rfl⟩ : ∃ wo : World, wo = wr := ⟨_, rfl⟩
      go_loopw [3, 5] (fun v i wr => ∃ (j : Nat) (av : Option Addr) (pv : Nat) (out : List Int), j ≤ zs.length ∧ i = .int .i64 j ∧ v = .slice av out.length pv ∧ Hid (SymAt ts k j out) ∧ Hid (SlRd cInt (Fresh w.heap.size wr) wr av pv out) ∧ Below w.heap.size w wr) (fun _ i _ => zs.length - (intOf i).toNat)
      case atStart => exact ⟨0, av, pv, out, Nat.zero_le _, rfl, rfl, HI, HO, HBE.out⟩
      case round =>
        obtain ⟨j, av2, pv2, out2, hj, rfl, rfl, HI2, HO2, hbe2⟩ := hrel
        have hsz2 := hbe2.size
        have hc2 := cell_below hbe2 hb hc'
        by_cases hjlt : j < zs.length
        · obtain ⟨b2, off2, rfl⟩ := HS.out.some_of hjlt
          obtain ⟨z, hzj, hzz, hcz, hbz⟩ := (HS.out.below (Nat.le_refl _) hbe2).int_at j hjlt
          have hco : coefAt (c, zs) j = z := by unfold coefAt; simp only; rw [List.getD_eq_getElem?_getD, hzj]; rfl
          have hol := symAt_len HI2.out HV.out
          by_cases hz0 : z = 0
          · subst hz0
            have HN := hid (symAt_zero HI2.out HZ.out hco)
            clear hzj hco
            go_wp2
            go_roundw
            case rel => exact ⟨j + 1, _, _, out2, by omega, by go_num, rfl, HN, HO2, hbe2⟩
            case measure => simp [intOf]; omega
          · have hz0' : (z != 0) = true := by simp [hz0]
            have HN := hid (symAt_put HI2.out HZ.out (by rw [hco]; exact hz0))
            clear hzj hco hz0
            go_wp2_with (go_at_call 102; refine (c_l00Put HO2.out (by omega) ⟨by omega, by omega⟩).mono ?_; rintro e w3 ⟨a3, p3, rfl, hs3, hb3⟩; have HS3 := hid (hs3.lower hsz2); have HB3 := hid (bel_next hbe2 hsz2 hb3); clear hs3 hb3)
            go_roundw
            case rel => exact ⟨j + 1, a3, p3, putL out2 j, by omega, by go_num, rfl, HN, HS3, HB3.out⟩
            case measure => simp [intOf]; omega
        · have hje : j = zs.length := by omega
          subst hje
          have HN := hid (symAt_next HI2.out HZ.out)
          go_wp2
          go_roundw
          case rel => exact ⟨k + 1, _, _, out2, by omega, by go_num, rfl, HN, HO2, hbe2⟩
          case measure => simp [intOf]; omega
    · have HF := hid (symAt_end HI.out (by omega) HV.out)
      go_wp2
      go_ret
      exact ⟨av, pv, by rw [← HF.out]; rfl, by rw [← HF.out]; exact HO.out, hbe⟩
theorem c_coeff {S : Nat → Prop} (c : Int) (a : Option Addr) (p : Nat) (zs : List Int) (k : Nat) (w : World) (h : SlRd cInt S w a p zs) :
    Calls Try.prog 95 #[.agg #[.int .i64 c, .slice a zs.length p], .int .i64 k] w fun e w' => e = .returned (.int .i64 (coefAt (c, zs) k)) ∧ Below w.heap.size w w' := by
  have hl := h.len_le
  have H := hid (h.alloc (.cells #[.int .i64 c, .slice a zs.length p] 50))
  clear h
  by_cases hk : k < zs.length
  · obtain ⟨b, off, rfl⟩ := H.out.some_of hk
    obtain ⟨z, hz, hzz, hc, hb⟩ := H.out.int_at k hk
    have HF : Hid (coefAt (c, zs) k = z) := by unfold Hid coefAt; simp only; rw [List.getD_eq_getElem?_getD, hz]; rfl
    have i0 : (0 : Int) ≤ (k : Int) := by omega
    have i1 : (k : Int) < (zs.length : Int) := by omega
    clear hz
    go_enter Try.func95, Try.ntmps95
    go_wp2
    go_ret
    exact ⟨ret_int HF.out.symm, (Below.refl _ _).alloc (Nat.le_refl _) _⟩
  · have HF : Hid (coefAt (c, zs) k = 0) := by unfold Hid coefAt; simp only; rw [List.getD_eq_getElem?_getD, List.getElem?_eq_none (by omega)]; rfl
    go_enter Try.func95, Try.ntmps95
    go_wp2
    go_ret
    exact ⟨ret_int HF.out.symm, (Below.refl _ _).alloc (Nat.le_refl _) _⟩
theorem c_symbolsOf1 {S : Nat → Prop} (c : Int) (a : Option Addr) (p : Nat) (zs : List Int) (k g : Nat) (w : World) (h : SlRd cInt S w a p zs) (hg : w.cell? ⟨g, 0, none⟩ = some (.int .i64 k)) (hgl : g < w.heap.size) :
    Calls Try.prog 125 #[.agg #[.int .i64 c, .slice a zs.length p], .pointer (some ⟨g, 0, none⟩)] w fun e w' => e = .returned (.bool (coefAt (c, zs) k != 0)) ∧ Below w.heap.size w w' := by
  have HB : Hid (Below w.heap.size w (w.alloc (.cells #[.int .i64 c, .slice a zs.length p] 50))) := (Below.refl _ _).alloc (Nat.le_refl _) _
  have hg2 := cell_below HB.out hgl hg
  have H := hid (h.alloc (.cells #[.int .i64 c, .slice a zs.length p] 50))
  clear h
  obtain ⟨r, hr⟩ : ∃ r, coefAt (c, zs) k = r := ⟨_, rfl⟩
  have HR := hid hr
  clear hr
  go_enter Try.func125, Try.ntmps125
  go_wp2_with (go_at_call 95; refine (c_coeff _ _ _ _ _ _ H.out).mono ?_; rintro e w1 ⟨rfl, hb1⟩; rw [HR.out])
  go_ret
  exact ⟨ret_bool (by rw [HR.out]), bel_next HB.out HB.out.size hb1⟩
theorem c_idxSym {S : Nat → Prop} (a : Option Addr) (cap : Nat) (xs : List Term) (j g : Nat) (w : World) (h : SlRd cTerm S w a cap xs) (hg : w.cell? ⟨g, 0, none⟩ = some (.int .i64 j)) (hgl : g < w.heap.size) :
    Calls Try.prog 156 #[.slice a xs.length cap, .func (.func 125) #[] #[.pointer (some ⟨g, 0, none⟩)]] w (RetIdx (fun t => coefAt t j != 0) xs w) := by
  have hl := h.len_le
  have H := hid h
  have HG := hid hg
  clear h hg
  go_enter Try.func156, Try.ntmps156
  go_wp2
  go_loopw [8] (fun i wr => ∃ k : Nat, k ≤ xs.length ∧ i = .int .i64 k ∧ Hid ((xs.take k).all (fun t => !(coefAt t j != 0)) = true) ∧ Below w.heap.size w wr) (fun i _ => xs.length - (intOf i).toNat)
  case atStart => exact ⟨0, Nat.zero_le _, rfl, rfl, Below.refl _ _⟩
  case round =>
    obtain ⟨k, hk, rfl, HA, hbe⟩ := hrel
    have hsz := hbe.size
    by_cases hlt : k < xs.length
    · obtain ⟨b, off, rfl⟩ := H.out.some_of hlt
      obtain ⟨c, zs, a', cap', hz, hc1, hsl, hc, hc', hb⟩ := (H.out.below (Nat.le_refl _) hbe).term_at k hlt
      have HZ := hid hz
      have HC := hid (c_symbolsOf1 c a' cap' zs j g wr hsl (cell_below hbe hgl HG.out) (by omega))
      clear hz hsl
      obtain ⟨r, hr⟩ : ∃ r, (coefAt (c, zs) j != 0) = r := ⟨_, rfl⟩
      have HR := hid hr
      clear hr
      cases r
      · go_wp2_with (go_at_call 125; refine HC.out.mono ?_; rintro e w1 ⟨rfl, hb1⟩; rw [HR.out])
        go_roundw
        case rel => exact ⟨k + 1, by omega, by go_num, (all_take HA.out HZ.out).trans (by show (!(coefAt (c, zs) j != 0)) = true; rw [HR.out]; rfl), bel_next hbe hsz hb1⟩
        case measure => simp [intOf]; omega
      · go_wp2_with (go_at_call 125; refine HC.out.mono ?_; rintro e w1 ⟨rfl, hb1⟩; rw [HR.out])
        go_ret
        exact ⟨k, rfl, .inr ⟨k, _, rfl, HZ.out, HR.out, HA.out⟩, bel_next hbe hsz hb1⟩
    · have HE := hid (all_end HA.out (Nat.le_of_not_lt hlt))
      go_wp2
      go_ret
      exact ⟨-1, rfl, .inl ⟨rfl, HE.out⟩, hbe⟩
theorem hasSym_of (xs : List Term) (j : Nat) : (!(xs.all fun t => !(coefAt t j != 0))) = hasSym xs j := by
  unfold hasSym
  induction xs with
  | nil => rfl
  | cons x xs ih => simp only [List.all_cons, List.any_cons, Bool.not_and, Bool.not_not, ih]
set_option maxRecDepth 100000 in
theorem c_symbolsOf {S : Nat → Prop} {a : Option Addr} {p : Nat} {ts : List Term} {w : World} (h : SlRd cTerm S w a p ts) :
    Calls Try.prog 74 #[.slice a ts.length p] w (RetSl cInt (symF ts) w) := by
  have H := hid h
  clear h
  go_enter Try.func74, Try.ntmps74
  go_wp2
  go_loopw [3, 4] (fun v q wr => ∃ (k g : Nat), k ≤ 10 ∧ q = .pointer (some ⟨g, 0, none⟩) ∧ w.heap.size ≤ g ∧ g < wr.heap.size ∧ v.ownBlock ≠ some g ∧ wr.cell? ⟨g, 0, none⟩ = some (.int .i64 k) ∧ wr.frozen? ⟨g, 0, none⟩ = false ∧ Hid (OwnSl cInt (fun _ => False) wr w.heap.size 2 v (symK ts k)) ∧ Below w.heap.size w wr) (fun _ q wr => 10 - (intOf ((wr.cell? (match q with | .pointer (some x) => x | _ => ⟨0, 0, none⟩)).getD (.int .i64 0))).toNat)
  case atStart => exact ⟨0, w.heap.size, by omega, rfl, Nat.le_refl _, by simp, by simp [Value.ownBlock], by simp [go_sem], by simp [go_sem], own_alloc (own_nil _ _ _ _ _) _, (Below.refl _ _).alloc (Nat.le_refl _) _⟩
  case round =>
    obtain ⟨k, g, hk, rfl, hg0, hg1, hgo, hgc, hgf, HO, hbe⟩ := hrel
    have hsz := hbe.size
    have hlen := symK_len ts k
    by_cases hlt : k < 10
    · have HC := hid (c_idxSym a p ts k g wr (H.out.below (Nat.le_refl _) hbe) hgc hg1)
      obtain ⟨r, hr⟩ : ∃ r, hasSym ts k = r := ⟨_, rfl⟩
      have HS := hid (symK_succ ts k)
      have HR := hid hr
      clear hr
      cases r
      · go_wp2_with (first | (go_at_call 156; refine HC.out.mono ?_; rintro e w1 ⟨r, rfl, hok, hb1⟩; have hd := hok.all; rw [hasSym_of, HR.out] at hd; have hg1' := cell_below hb1 hg1 hgc; have HB1 := hid (bel_next hbe hsz hb1); have HO1 := hid (own_below HO.out (Nat.le_refl _) hb1); have hz1 := hb1.size; clear hb1 hok) | go_in)
        go_roundw
        case rel => exact ⟨k + 1, w1.heap.size, by omega, rfl, HB1.out.size, by simp, fun e => by have := (own_lt HO1.out _ e).2; omega, by simp [go_sem], by simp [go_sem], by have h9 := HS.out; rw [HR.out] at h9; unfold Hid; rw [h9]; simpa using own_alloc HO1.out _, HB1.out.alloc HB1.out.size _⟩
        case measure => simp [intOf, go_sem, hgc]; omega
      · go_wp2_with (first | (go_at_call 156; refine HC.out.mono ?_; rintro e w1 ⟨r, rfl, hok, hb1⟩; have hd := hok.all; rw [hasSym_of, HR.out] at hd; have hg1' := cell_below hb1 hg1 hgc; have HB1 := hid (bel_next hbe hsz hb1); have HO1 := hid (own_below HO.out (Nat.le_refl _) hb1); have hz1 := hb1.size; clear hb1 hok) | (at_builtin; refine app_own2 (C := cInt) rfl (.tmp 12) (.tmp 14) _ rfl slI64 rfl rfl HO1.out no_blk k (rd_int ⟨by omega, by omega⟩) (by omega) HB1.out.size ?_; intro v3 w3 hO3 hb3 hg3; have hg3' := cell_grown hg3 (by omega) (Ne.symm hgo) hg1'; have HO3 := hid hO3; have HB3 := hid (HB1.out.trans hb3); have hz3 := hb3.size; clear hO3 hb3 hg3) | go_in)
        go_roundw
        case rel => exact ⟨k + 1, w3.heap.size, by omega, rfl, HB3.out.size, by simp, fun e => by have := (own_lt HO3.out _ e).2; omega, by simp [go_sem], by simp [go_sem], by have h9 := HS.out; rw [HR.out] at h9; unfold Hid; rw [h9]; exact own_alloc HO3.out _, HB3.out.alloc HB3.out.size _⟩
        case measure => simp [intOf, go_sem, hgc]; omega
    · go_wp2
      go_ret
      have hk10 : k = 10 := by omega
      subst hk10
      exact retSl_own HO.out (fun _ h => h.elim) hbe
end Go.Proofs.Ytedmhdinfedhhaa
