/- Contracts: the law's helpers for lists of texts. -/
import Derived.Test.YtcbaohcgeoaccaaDoorD02
import Derived.Test.YtcbaohcgeoaccaaDoorMark
import Derived.Test.YtcbaohcgeoaccaaDoorUni
namespace Go.Proofs.YtcbaohcgeoaccaaDoor
open Go.RowKit

theorem SlRd.str_at {S : Nat → Prop} {w : World} {b off cap : Nat} {zs : List (List UInt8)} (h : SlRd cStr S w (some ⟨b, off, none⟩) cap zs) (k : Nat) (hk : k < zs.length) :
    ∃ z, zs[k]? = some z ∧ z.length ≤ 9223372036854775807 ∧ w.cell? ⟨b, off + k, none⟩ = some (.string ⟨z.toArray⟩) ∧ b < w.heap.size ∧ S b := by
  obtain ⟨d, cs, h1, ⟨rfl, hz⟩, h7, h8, hc⟩ := h.at k hk
  have := hc 0 _ rfl
  simp only [cStr, Nat.mul_one, Nat.add_zero] at this
  exact ⟨_, h1, hz, this, h7, h8⟩
set_option maxRecDepth 100000 in
theorem u_eqStringS {S T : Nat → Prop} {a b : Option Addr} {ca cb : Nat} {xs ys : List (List UInt8)} {w : World} (hx : SlRd cStr S w a ca xs) (hy : SlRd cStr T w b cb ys) :
    Calls Tryd.prog 19 #[.slice a xs.length ca, .slice b ys.length cb] w fun e w' => e = .returned (.bool (decide (xs = ys))) ∧ Below w.heap.size w w' := by
  have HX := hid hx
  have HY := hid hy
  have hlx := hx.len_le
  have hly := hy.len_le
  clear hx hy
  by_cases hl : xs.length = ys.length
  · have h1 : ((xs.length : Int) != ys.length) = false := by simp [hl]
    have HL := hid hl
    have hl1 : xs.length ≤ ys.length := by omega
    have hl2 : ys.length ≤ xs.length := by omega
    clear hl
    go_enter Tryd.func19, Tryd.ntmps19
    go_wp2
    go_loopw [5] (fun i wr => ∃ k : Nat, k ≤ xs.length ∧ i = .int .i64 k ∧ Hid (xs.take k = ys.take k) ∧ Below w.heap.size w wr) (fun i _ => xs.length - (intOf i).toNat)
    case atStart => exact ⟨0, Nat.zero_le _, rfl, rfl, Below.refl _ _⟩
    case round =>
      obtain ⟨k, hk, rfl, HA, hbe⟩ := hrel
      by_cases hlt : k < xs.length
      · obtain ⟨b1, off1, rfl⟩ := HX.out.some_of hlt
        obtain ⟨b2, off2, rfl⟩ := HY.out.some_of (k := k) (by omega)
        obtain ⟨x, hxk, _, hcx, _⟩ := (HX.out.below (Nat.le_refl _) hbe).str_at k hlt
        obtain ⟨y, hyk, _, hcy, _⟩ := (HY.out.below (Nat.le_refl _) hbe).str_at k (by omega)
        have HXK := hid hxk
        have HYK := hid hyk
        clear hxk hyk
        have i1 : (0 : Int) ≤ (k : Int) := by omega
        have i2 : (k : Int) < (xs.length : Int) := by omega
        have i3 : (k : Int) < (ys.length : Int) := by omega
        by_cases he : x = y
        · have HE := hid he
          subst he
          go_wp2
          go_quiet (fail)
          go_wp2
          go_roundw
          case rel => exact ⟨k + 1, by omega, by go_num, take_eq_snoc HA.out HXK.out HYK.out rfl, hbe.trans (below_drewN _ _ _)⟩
          case measure => simp [intOf]; omega
        · have he1 : (x == y) = false := by simp [he]
          have HE := hid he
          clear he
          go_wp2
          go_quiet (fail)
          go_wp2
          go_ret
          exact ⟨ret_bool (by simp [ne_at HXK.out HYK.out HE.out]), hbe.trans (below_drewN _ _ _)⟩
      · go_wp2
        go_ret
        exact ⟨ret_bool (by simp [take_all_eq HA.out (by omega) (by omega)]), hbe⟩
  · have h1 : ((xs.length : Int) != ys.length) = true := by simp; omega
    have HF : Hid (decide (xs = ys) = false) := by unfold Hid; simp; rintro rfl; exact hl rfl
    clear hl
    go_enter Tryd.func19, Tryd.ntmps19
    go_wp2
    go_ret
    exact ⟨ret_bool HF.out.symm, Below.refl _ _⟩
def markT (k : Nat) : List UInt8 := 109 :: digs k
theorem digs_len' (u : Nat) (h : u ≤ 4611686018427387904) : (digs u).length ≤ 20 := digs_len u (by omega)
set_option maxRecDepth 100000 in
theorem c_markText (U : Nat) (w : World) (h0 : 0 < U) (hU : U ≤ 4611686018427387904) :
    Calls Tryd.prog 65 #[.int .i64 U] w fun e w' => e = .returned (strOf (markT U)) ∧ Below w.heap.size w w' := by
  go_enter Tryd.func65, Tryd.ntmps65
  go_wp2
  go_loopw [0, 3] (fun v o wr => ∃ (u : Nat) (l : List UInt8), u ≤ U ∧ v = .int .i64 (u : Int) ∧ o = .string ⟨l.toArray⟩ ∧ Hid (digs u ++ l = digs U) ∧ Below w.heap.size w wr) (fun v _ _ => (intOf v).toNat)
  case atStart => exact ⟨U, [], Nat.le_refl _, rfl, rfl, by simp [Hid], Below.refl _ _⟩
  case round =>
    obtain ⟨u, l, hu, rfl, rfl, HL, hbe⟩ := hrel
    have hsz := hbe.size
    have hll : l.length ≤ 20 := by
      have h9 := digs_len' U hU
      rw [← HL.out, List.length_append] at h9; omega
    by_cases hu0 : 0 < u
    · have HC := conv_lit Tryd.underlying80 Tryd.underlying5 Tryd.underlying9 wr (UInt8.ofNat (48 + u % 10))
      have e8 : u8v (UInt8.ofNat (48 + u % 10)) = .int .u8 (48 + (u : Int) % 10) := by
        unfold u8v; rw [UInt8.toNat_ofNat_of_lt' (by simp [UInt8.size]; omega)]; simp
      rw [e8] at HC
      have HE : Hid (digs u = digs (u / 10) ++ [UInt8.ofNat (48 + u % 10)]) := digs_pos hu0
      clear e8
      unfold strOf at HC
      generalize UInt8.ofNat (48 + u % 10) = c at *
      go_wp2
      go_roundw
      case rel => exact ⟨u / 10, c :: l, by omega, by go_num, by exact strOf_add [c] l, by have h := HL.out; rw [HE.out] at h; simpa [Hid] using h, hbe.alloc hsz _⟩
      case measure => simp [intOf]; omega
    · obtain rfl : u = 0 := by omega
      have HG : Hid (l = digs U) := by have h := HL.out; rw [digs_zero] at h; exact h
      go_wp2
      go_ret
      unfold markT
      rw [← HG.out]
      exact ⟨congrArg Ending.returned (strOf_add [109] l), hbe⟩
theorem SlRd.store_str {S : Nat → Prop} {w : World} {b off cap : Nat} {zs : List (List UInt8)} (h : SlRd cStr S w (some ⟨b, off, none⟩) cap zs) (k : Nat) (hk : k < zs.length) (z : List UInt8) (hz : z.length ≤ 9223372036854775807) :
    SlRd cStr S (w.setCell ⟨b, off + k, none⟩ (.string ⟨z.toArray⟩)) (some ⟨b, off, none⟩) cap (zs.set k z) := by
  refine ⟨by simpa using h.1, h.2.1, h.2.2.1, ?_⟩
  rintro x ⟨⟩ i d hi
  have hil : i < zs.length := by
    have := (List.getElem?_eq_some_iff.1 hi).1; simpa using this
  obtain ⟨⟨h5, h6, h7⟩, cs, ⟨rfl, hd⟩, hc⟩ := h.2.2.2 _ rfl i zs[i] (by simp [hil])
  have hc0 := hc 0 _ rfl
  simp only [cStr, Nat.mul_one, Nat.add_zero] at hc0 h7 h6
  refine ⟨⟨rfl, h6, by show b < (w.setCell _ _).heap.size; simpa [World.setCell] using h7⟩, [strOf d], ?_, ?_⟩
  · refine ⟨rfl, ?_⟩
    rw [List.getElem?_set] at hi
    split at hi
    · cases hi; exact hz
    · rw [List.getElem?_eq_getElem hil] at hi; cases hi; exact hd
  · intro j u hj
    cases j with
    | succ j => simp at hj
    | zero =>
      simp at hj; subst hj
      simp only [cStr, Nat.mul_one, Nat.add_zero]
      rw [List.getElem?_set] at hi
      by_cases hki : k = i
      · subst hki
        rw [if_pos rfl, if_pos hk] at hi
        cases hi
        simp [go_sem, hc0, strOf]
      · rw [if_neg hki, List.getElem?_eq_getElem hil] at hi
        cases hi
        have hne : off + i ≠ off + k := by omega
        simp [go_sem, hc0, strOf]
        try omega
def upFromS (m : Int) (ys : List (List UInt8)) : Prop := ∀ j : Nat, j < ys.length → ys[j]? = some (markT (m.toNat + j))
def RetMarkedS (n : Nat) (m : Int) (S : Nat → Prop) (a : Option Addr) (cap : Nat) (w : World) (e : Ending) (w' : World) : Prop :=
  e = .returned (.int .i64 (m + n)) ∧ (∃ ys : List (List UInt8), ys.length = n ∧ upFromS m ys ∧ SlRd cStr S w' a cap ys) ∧ Turned S w w'
theorem markT_len (k : Nat) (h : k ≤ 4611686018427387904) : (markT k).length ≤ 9223372036854775807 := by have := digs_len' k h; unfold markT; simp; omega
set_option maxRecDepth 100000 in
theorem c_markStringS {S : Nat → Prop} (a : Option Addr) (cap : Nat) (zs : List (List UInt8)) (n : Nat) (m : Int) (w : World) (h : SlRd cStr S w a cap zs) (hn : zs.length = n) (hS : ∀ b, S b → Thawed w b) (hm : 1 ≤ m) (hm2 : m + n ≤ 4611686018427387904) :
    Calls Tryd.prog 20 #[.slice a n cap, .int .i64 m] w (RetMarkedS n m S a cap w) := by
  have H := hid h
  have HN := hid hn
  have HS := hid hS
  clear h hn hS
  obtain ⟨M, rfl⟩ := Int.eq_ofNat_of_zero_le (show 0 ≤ m by omega)
  go_enter Tryd.func20, Tryd.ntmps20
  go_wp2
  go_loopw [1, 5] (fun mm i wr => ∃ k : Nat, k ≤ n ∧ i = .int .i64 k ∧ mm = .int .i64 ((M : Int) + k) ∧ ∃ ys : List (List UInt8), Hid (ys.length = n) ∧ Hid (∀ j : Nat, j < k → ys[j]? = some (markT (M + j))) ∧ Hid (SlRd cStr S wr a cap ys) ∧ Hid (Turned S w wr)) (fun _ i _ => n - (intOf i).toNat)
  case atStart => exact ⟨0, Nat.zero_le _, rfl, by simp, zs, HN, by unfold Hid; intro j hj; omega, H, Turned.refl _ _⟩
  case round =>
    obtain ⟨k, hk, rfl, rfl, ys, HL, HA, HR, HT⟩ := hrel
    by_cases hlt : k < n
    · have hlt' : k < ys.length := by have := HL.out; omega
      obtain ⟨b, off, rfl⟩ := HR.out.some_of hlt'
      obtain ⟨z, hz, hz2, hc, hb, hsb⟩ := HR.out.str_at k hlt'
      have hfz := (HT.out.thaw _ (HS.out _ hsb)).frozen (off + k)
      have i0 : (0 : Int) ≤ (k : Int) := by omega
      have i1 : (k : Int) < (n : Int) := by omega
      have HC := hid (c_markText (M + k) wr (by omega) (by omega))
      rw [Int.natCast_add] at HC
      clear hz
      go_wp2_with (go_at_call 65; refine HC.out.mono ?_; rintro e w1 ⟨rfl, hb1⟩; have HB1 := hid hb1; have hc1 := cell_below hb1 hb hc; have hf1 := frz_below hb1 hb hfz; have HR1 := hid (HR.out.below (Nat.le_refl _) hb1); have HT1 := hid (HT.out.below hb1); clear hb1; unfold strOf)
      have HSt := hid (HR1.out.store_str k hlt' (markT (M + k)) (markT_len _ (by omega)))
      have HT2 := hid (HT1.out.trans (Turned.setStr (s' := ⟨(markT (M + k)).toArray⟩) hsb hc1))
      go_roundw
      case rel =>
        refine ⟨k + 1, by omega, by go_num, by go_num, ys.set k (markT (M + k)), by have := HL.out; unfold Hid; simpa using this, ?_, HSt, HT2⟩
        intro j hj
        rw [List.getElem?_set]
        by_cases hjk : k = j
        · subst hjk; rw [if_pos rfl, if_pos hlt']
        · rw [if_neg hjk]; exact HA.out j (by omega)
      case measure => simp [intOf]; omega
    · have hkn : k = n := by omega
      subst hkn
      go_wp2
      go_ret
      exact ⟨rfl, ⟨ys, HL.out, fun j hj => by rw [Int.toNat_natCast]; exact HA.out j (by rw [← HL.out]; exact hj), HR.out⟩, HT.out⟩
set_option maxRecDepth 100000 in
theorem c_heldStringS {S : Nat → Prop} (a : Option Addr) (cap : Nat) (ys : List (List UInt8)) (n : Nat) (m : Int) (w : World) (h : SlRd cStr S w a cap ys) (hn : ys.length = n) (ha : upFromS m ys) (hm : 1 ≤ m) (hm2 : m + n ≤ 4611686018427387904) :
    Calls Tryd.prog 21 #[.slice a n cap, .int .i64 m] w fun e w' => e = .returned (.int .i64 (m + n)) ∧ Below w.heap.size w w' := by
  have H := hid h
  have HA := hid ha
  have HN := hid hn
  clear h ha hn
  obtain ⟨M, rfl⟩ := Int.eq_ofNat_of_zero_le (show 0 ≤ m by omega)
  go_enter Tryd.func21, Tryd.ntmps21
  go_wp2
  go_loopw [1, 5] (fun mm i wr => ∃ k : Nat, k ≤ n ∧ i = .int .i64 k ∧ mm = .int .i64 ((M : Int) + k) ∧ Below w.heap.size w wr) (fun _ i _ => n - (intOf i).toNat)
  case atStart => exact ⟨0, Nat.zero_le _, rfl, by simp, Below.refl _ _⟩
  case round =>
    obtain ⟨k, hk, rfl, rfl, hbe⟩ := hrel
    by_cases hlt : k < n
    · have hlt' : k < ys.length := by have := HN.out; omega
      obtain ⟨b, off, rfl⟩ := H.out.some_of hlt'
      obtain ⟨z, hz, hz2, hc, hb, _⟩ := (H.out.below (Nat.le_refl _) hbe).str_at k hlt'
      have hz' := HA.out k hlt'
      rw [hz, Int.toNat_natCast] at hz'
      cases hz'
      have i0 : (0 : Int) ≤ (k : Int) := by omega
      have i1 : (k : Int) < (n : Int) := by omega
      have HC : Hid (∀ w, Calls Tryd.prog 65 #[.int .i64 ((M : Int) + (k : Int))] w fun e w' => e = .returned (strOf (markT (M + k))) ∧ Below w.heap.size w w') := fun w => by
        have h9 := c_markText (M + k) w (by omega) (by omega)
        rw [Int.natCast_add] at h9; exact h9
      clear hz
      go_wp2
      have hbd : Below w.heap.size w wr.drew := hbe.trans ⟨rfl, rfl, rfl, Nat.le_refl _, fun _ _ => rfl⟩
      go_region_held3 (fun w' => w'.cell? ⟨b, off + k, none⟩ = some (.string ⟨(markT (M + k)).toArray⟩) ∧ b < w'.heap.size ∧ Below w.heap.size w w') (first | exact ⟨hc, hb, hbd⟩ | exact kk1) (((go_at_call 65; refine (HC.out _).mono ?_; rintro e w1 ⟨rfl, hb1⟩; unfold strOf; have kk1 := And.intro (cell_below hb1 hb hc) (And.intro (Nat.lt_of_lt_of_le hb hb1.size) (hbd.trans (hb1.mono hbd.size))); clear hb1)))
      have hbe1 := kk1.2.2
      clear kk1
      go_wp2
      go_roundw
      case rel => exact ⟨k + 1, by omega, by go_num, by go_num, hbe1⟩
      case measure => simp [intOf]; omega
    · have hkn : k = n := by omega
      subst hkn
      go_wp2
      go_ret
      exact ⟨rfl, hbe⟩
end Go.Proofs.YtcbaohcgeoaccaaDoor
