/- Contracts of the laws' helpers that write marks into numbers and look whether they hold. -/
import Derived.Test.YtkckhnpdodbffaaHlp
import Derived.Test.YtkckhnpdodbffaaTurn
namespace Go.Proofs.Ytkckhnpdodbffaa
open Go.RowKit

theorem SlRd.store_int {S : Nat → Prop} {w : World} {b off cap : Nat} {zs : List Int} (h : SlRd cInt S w (some ⟨b, off, none⟩) cap zs) (k : Nat) (hk : k < zs.length) (z : Int) (hz : I64 z) :
    SlRd cInt S (w.setCell ⟨b, off + k, none⟩ (.int .i64 z)) (some ⟨b, off, none⟩) cap (zs.set k z) := by
  refine ⟨by simpa using h.1, h.2.1, h.2.2.1, ?_⟩
  rintro x ⟨⟩ i d hi
  have hil : i < zs.length := by
    have := (List.getElem?_eq_some_iff.1 hi).1; simpa using this
  obtain ⟨⟨h5, h6, h7⟩, cs, ⟨rfl, hd⟩, hc⟩ := h.2.2.2 _ rfl i zs[i] (by simp [hil])
  have hc0 := hc 0 _ rfl
  simp only [cInt, Nat.mul_one, Nat.add_zero] at hc0 h7 h6
  refine ⟨⟨rfl, h6, by show b < (w.setCell _ _).heap.size; simpa [World.setCell] using h7⟩, [.int .i64 d], ?_, ?_⟩
  · refine ⟨rfl, ?_⟩
    rw [List.getElem?_set] at hi
    split at hi
    · cases hi; exact hz
    · rw [List.getElem?_eq_getElem hil] at hi; cases hi; exact hd
  · intro j u hj
    cases j with
    | succ j => simp at hj
    | zero =>
      simp at hj; subst hj
      simp only [cInt, Nat.mul_one, Nat.add_zero]
      rw [List.getElem?_set] at hi
      by_cases hki : k = i
      · subst hki
        rw [if_pos rfl, if_pos hk] at hi
        cases hi
        simp [go_sem, hc0]
      · rw [if_neg hki, List.getElem?_eq_getElem hil] at hi
        cases hi
        have hne : off + i ≠ off + k := by omega
        simp [go_sem, hc0]
        try omega
/-- m, m + 1, .. -/
def upFrom (m : Int) (ys : List Int) : Prop := ∀ j : Nat, j < ys.length → ys[j]? = some (m + j)
def RetMarked (n : Nat) (m : Int) (S : Nat → Prop) (a : Option Addr) (cap : Nat) (w : World) (e : Ending) (w' : World) : Prop :=
  e = .returned (.int .i64 (m + n)) ∧ (∃ ys : List Int, ys.length = n ∧ upFrom m ys ∧ SlRd cInt S w' a cap ys) ∧ Turned S w w'
set_option maxRecDepth 100000 in
theorem c_markInt64S {S : Nat → Prop} (a : Option Addr) (cap : Nat) (zs : List Int) (n : Nat) (m : Int) (w : World) (h : SlRd cInt S w a cap zs) (hn : zs.length = n) (hS : ∀ b, S b → Thawed w b) (hm : 0 ≤ m) (hm2 : m + n ≤ 4611686018427387904) :
    Calls Try.prog 12 #[.slice a n cap, .int .i64 m] w (RetMarked n m S a cap w) := by
  have H := hid h
  have HN := hid hn
  have HS := hid hS
  clear h hn hS
  go_enter Try.func12, Try.ntmps12
  go_wp2
  go_loopw [1, 5] (fun mm i wr => ∃ k : Nat, k ≤ n ∧ i = .int .i64 k ∧ mm = .int .i64 (m + k) ∧ ∃ ys : List Int, Hid (ys.length = n) ∧ Hid (∀ j : Nat, j < k → ys[j]? = some (m + j)) ∧ Hid (SlRd cInt S wr a cap ys) ∧ Hid (Turned S w wr)) (fun _ i _ => n - (intOf i).toNat)
  case atStart => exact ⟨0, Nat.zero_le _, rfl, by simp, zs, HN, by unfold Hid; intro j hj; omega, H, Turned.refl _ _⟩
  case round =>
    obtain ⟨k, hk, rfl, rfl, ys, HL, HA, HR, HT⟩ := hrel
    by_cases hlt : k < n
    · have hlt' : k < ys.length := by have := HL.out; omega
      obtain ⟨b, off, rfl⟩ := HR.out.some_of hlt'
      obtain ⟨z, hz, hz2, hc, hb⟩ := HR.out.int_at k hlt'
      obtain ⟨⟨h5, h6, h7⟩, _⟩ := HR.out.2.2.2 _ rfl k ys[k] (by simp [hlt'])
      have hfz := (HT.out.thaw _ (HS.out _ h6)).frozen (off + k)
      have HSt := hid (HR.out.store_int k hlt' (m + k) ⟨by omega, by omega⟩)
      have HT2 := hid (HT.out.trans (Turned.set h6 hc (n' := m + k) ⟨by omega, by omega⟩))
      clear hz
      go_wp2
      go_roundw
      case rel =>
        refine ⟨k + 1, by omega, by go_num, by go_num, ys.set k (m + k), by have := HL.out; unfold Hid; simpa using this, ?_, HSt, HT2⟩
        intro j hj
        rw [List.getElem?_set]
        by_cases hjk : k = j
        · subst hjk; rw [if_pos rfl, if_pos hlt']
        · rw [if_neg hjk]; exact HA.out j (by omega)
      case measure => simp [intOf]; omega
    · have hkn : k = n := by omega
      subst hkn
      go_wp2
      go_ret
      exact ⟨rfl, ⟨ys, HL.out, fun j hj => HA.out j (by rw [← HL.out]; exact hj), HR.out⟩, HT.out⟩
set_option maxRecDepth 100000 in
theorem c_heldInt64S {S : Nat → Prop} (a : Option Addr) (cap : Nat) (ys : List Int) (n : Nat) (m : Int) (w : World) (h : SlRd cInt S w a cap ys) (hn : ys.length = n) (ha : upFrom m ys) (hm : 0 ≤ m) (hm2 : m + n ≤ 4611686018427387904) :
    Calls Try.prog 13 #[.slice a n cap, .int .i64 m] w fun e w' => e = .returned (.int .i64 (m + n)) ∧ w = w' := by
  have H := hid h
  have HA := hid ha
  have HN := hid hn
  clear h ha hn
  go_enter Try.func13, Try.ntmps13
  go_wp2
  go_loop [1, 5] (fun mm i => ∃ k : Nat, k ≤ n ∧ i = .int .i64 k ∧ mm = .int .i64 (m + k)) (fun _ i => n - (intOf i).toNat)
  case atStart => exact ⟨0, Nat.zero_le _, rfl, by simp⟩
  case round =>
    obtain ⟨k, hk, rfl, rfl⟩ := hrel
    by_cases hlt : k < n
    · have hlt' : k < ys.length := by have := HN.out; omega
      obtain ⟨b, off, rfl⟩ := H.out.some_of hlt'
      obtain ⟨z, hz, hz2, hc, hb⟩ := H.out.int_at k hlt'
      have hz' := HA.out k hlt'
      rw [hz] at hz'
      cases hz'
      have hne : (m + (k : Int) != m + (k : Int)) = false := by simp
      clear hz
      go_wp2
      go_round
      case rel => exact ⟨k + 1, by omega, by go_num, by go_num⟩
      case measure => simp [intOf]; omega
    · have hkn : k = n := by omega
      subst hkn
      go_wp2
      go_ret
      exact ⟨rfl, rfl⟩
set_option maxRecDepth 100000 in
theorem c_markTermS {S : Nat → Prop} (a : Option Addr) (cap : Nat) (ts : List Term) (m : Int) (w : World) (h : SlRd cTerm S w a cap ts) (hS : ∀ b, S b → Thawed w b) (hm : 0 ≤ m) (hm2 : m + szTs ts ≤ 4611686018427387904) :
    Calls Try.prog 11 #[.slice a ts.length cap, .int .i64 m] w fun e w' => e = .returned (.int .i64 (m + szTs ts)) ∧ Turned S w w' := by
  have H := hid h
  have hl := h.len_le
  have HS := hid hS
  obtain ⟨N, hN⟩ : ∃ N, szTs ts = N := ⟨_, rfl⟩
  rw [hN] at hm2 ⊢
  have HN := hid hN
  clear h hS hN
  go_enter Try.func11, Try.ntmps11
  go_wp2
  go_loopw [1, 5] (fun mm i wr => ∃ k q : Nat, k ≤ ts.length ∧ i = .int .i64 k ∧ mm = .int .i64 (m + q) ∧ q ≤ N ∧ Hid (q = k + ((ts.take k).map szT).sum) ∧ ∃ ys : List Term, Hid (ys.map nTerm.nf = ts.map nTerm.nf) ∧ Hid (SlRd cTerm S wr a cap ys) ∧ Hid (Turned S w wr)) (fun _ i _ => ts.length - (intOf i).toNat)
  case atStart => exact ⟨0, 0, Nat.zero_le _, rfl, by simp, Nat.zero_le _, by unfold Hid; simp, ts, rfl, H, Turned.refl _ _⟩
  case round =>
    obtain ⟨k, q, hk, rfl, rfl, hqN, HQ, ys, HL, HR, HT⟩ := hrel
    by_cases hlt : k < ts.length
    · have hlt' : k < ys.length := by have := map_len HL.out; omega
      obtain ⟨b, off, rfl⟩ := HR.out.some_of hlt'
      obtain ⟨c, zs, a', cap', hz, hc1, hsl, hc, hc', hb⟩ := HR.out.term_at k hlt'
      obtain ⟨⟨h5, h6, h7⟩, _⟩ := HR.out.2.2.2 _ rfl k ys[k] (by simp [hlt'])
      have hfz := (HT.out.thaw _ (HS.out _ h6)).frozen (off + k * 2)
      have ht1 : Turned S wr (wr.setCell ⟨b, off + k * 2, none⟩ (.int .i64 (m + q))) := Turned.set h6 hc (n' := m + q) ⟨by omega, by omega⟩
      obtain ⟨zs', hsl', hzz⟩ := hsl.turned nInt ht1
      have hzl := map_len hzz
      have HZ : Hid (((ts.take (k + 1)).map szT).sum = ((ts.take k).map szT).sum + zs'.length) := by
        have h1 : ts[k]? = some ts[k] := by simp [hlt]
        have h2 := map_at HL.out hz h1
        unfold Hid
        rw [sum_take h1]
        have h3 := congrArg (fun p => p.2.length) h2
        simp [nTerm, nPair, nInts, nSl] at h3
        unfold szT; omega
      have hle : (q : Int) + 1 + zs'.length ≤ N := by
        have h1 := HQ.out
        have h2 := HZ.out
        have h3 := sum_take_le ts (k + 1)
        have h4 := HN.out
        unfold szTs at h4
        omega
      have hc1' : (wr.setCell ⟨b, off + k * 2, none⟩ (.int .i64 (m + q))).cell? ⟨b, off + k * 2 + 1, none⟩ = some (.slice a' zs'.length cap') := by simp [go_sem, hc', hzl]
      have HT1 := hid (HT.out.trans ht1)
      have HS1 := hid fun b hb => HT1.out.thaw b (HS.out b hb)
      have HSL := hid hsl'
      have HW1 := hid ht1
      clear hz hsl hsl' hzz ht1 hzl hc'
      go_wp2_with (go_at_call 12; refine (c_markInt64S _ _ _ _ _ _ HSL.out rfl HS1.out (by omega) (by omega)).mono ?_; rintro e w1 ⟨rfl, _, ht2⟩)
      obtain ⟨ys', hr', hy'⟩ := HR.out.turned nTerm (HW1.out.trans ht2)
      have HT2 := hid (HT1.out.trans ht2)
      go_roundw
      case rel => exact ⟨k + 1, q + 1 + zs'.length, by omega, by go_num, by go_num, by omega, by (have h1 := HQ.out; have h2 := HZ.out; unfold Hid; omega), ys', hy'.trans HL.out, hr', HT2⟩
      case measure => simp [intOf]; omega
    · go_wp2
      go_ret
      have hq : q = N := by
        have h1 := HQ.out
        rw [List.take_of_length_le (by omega)] at h1
        have h4 := HN.out
        unfold szTs at h4
        omega
      exact ⟨by rw [hq]; rfl, HT.out⟩
end Go.Proofs.Ytkckhnpdodbffaa
