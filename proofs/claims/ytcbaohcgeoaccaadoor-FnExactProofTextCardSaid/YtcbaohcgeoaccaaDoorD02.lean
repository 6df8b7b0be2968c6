/- Contracts: decimal numerals, and texts cut at a byte. -/
import Derived.Test.YtcbaohcgeoaccaaDoorD01
import Derived.Test.YtcbaohcgeoaccaaDoorApp2
import Derived.Test.YtcbaohcgeoaccaaDoorShelf
import Derived.Lib.AppendIntMem
import Derived.Test.YtcbaohcgeoaccaaDoorL01
namespace Go.Proofs.YtcbaohcgeoaccaaDoor
open Go.RowKit

/-- Go's table of powers of ten stands, whatever is done from block B on. -/
def TabE (B : Nat) (w : World) : Prop := Lib.TabBelow Tryd.prog B w "internal/strconv.uint64pow10" .u64 Lib.pow10Tab ∧ B ≤ w.heap.size
theorem TabE.on {B : Nat} {w w' : World} (h : TabE B w) (hb : Below w.heap.size w w') : TabE B w' := ⟨h.1.on (hb.mono h.2), Nat.le_trans h.2 hb.size⟩
theorem TabE.belows {B : Nat} {w w' : World} (h : TabE B w) (hb : Below B w w') : TabE B w' := ⟨h.1.on hb, Nat.le_trans h.2 hb.size⟩
theorem c_Decimal {B : Nat} (n : Int) (w : World) (h1 : -9223372036854775808 ≤ n) (h2 : n ≤ 9223372036854775807) (ht : TabE B w) :
    Calls Tryd.prog 16 #[.int .i64 n] w fun e w' => e = .returned (strOf (Lib.itoa n)) ∧ Below w.heap.size w w' := by
  have HT := hid ht.1.here
  clear ht
  go_enter Tryd.func16, Tryd.ntmps16
  go_wp2_with (go_at_call 62; refine (Tryd.strconv_FormatInt_10 n h1 h2 w HT.out).mono ?_; rintro e w1 ⟨rfl, k, os, rfl⟩; have HB := hid (Lib.below_grow w.heap.size w (Nat.le_refl _) k os); generalize Go.Sort.grow (w.drewN k) os = w2 at *)
  go_ret
  exact ⟨rfl, HB.out⟩
theorem c_sDecimal (n : Int) (w : World) (h1 : -9223372036854775808 ≤ n) (h2 : n ≤ 9223372036854775807) :
    Calls Tryd.prog 15 #[.int .i64 n] w fun e w' => e = .returned (strOf (Lib.itoa n)) ∧ Below w.heap.size w w' := by
  go_enter Tryd.func15, Tryd.ntmps15
  go_wp2_with (go_at_call 61; refine (c_l01Dec n w h1 h2).mono ?_; rintro e w1 ⟨rfl, hb⟩; have HB := hid hb; clear hb)
  go_ret
  exact ⟨rfl, HB.out⟩
theorem slStr : SlT Tryd.prog 24 9 (.string ByteArray.empty) 1 16 := ⟨Tryd.underlying24, by kernel_rfl, rfl, by decide, by decide⟩
theorem ext_strOf (s : ByteArray) (a b : Nat) : Value.string (s.extract a b) = strOf ((s.data.toList.take b).drop a) := by
  rw [strOf_data]; congr 1; simp [List.drop_take]
theorem ext_strOf_end (s : ByteArray) (a : Nat) : Value.string (s.extract a s.size) = strOf (s.data.toList.drop a) := by
  rw [ext_strOf, List.take_of_length_le (by simp)]
theorem rd_ext {T : Nat → Prop} {w : World} (s : ByteArray) (a b : Nat) (hs : s.size ≤ 1099511627775) : cStr.rd T w #[Value.string (s.extract a b)].toList ((s.data.toList.take b).drop a) :=
  ⟨by rw [← ext_strOf], by simp; omega⟩
theorem rd_ext_end {T : Nat → Prop} {w : World} (s : ByteArray) (a : Nat) (hs : s.size ≤ 1099511627775) : cStr.rd T w #[Value.string (s.extract a s.size)].toList (s.data.toList.drop a) :=
  ⟨by rw [← ext_strOf_end], by simp; omega⟩
set_option maxRecDepth 100000 in
theorem c_l01Cut (s : ByteArray) (c : UInt8) (w : World) (hs : s.size ≤ 1099511627775) :
    Calls Tryd.prog 63 #[.string s, .int .u8 c.toNat] w (RetSl cStr (cutL c s.data.toList) w) := by
  go_enter Tryd.func63, Tryd.ntmps63
  go_wp2
  go_loopw [5, 6, 7] (fun v f i wr => ∃ (k q : Nat) (done : List (List UInt8)), k ≤ s.size ∧ q ≤ k ∧ i = .int .i64 k ∧ f = .int .i64 q ∧ done.length ≤ q ∧ Hid (done ++ cutL c (s.data.toList.drop q) = cutL c s.data.toList) ∧ Hid (c ∉ (s.data.toList.take k).drop q) ∧ Hid (OwnSl cStr (fun _ => False) wr w.heap.size 9 v done) ∧ Below w.heap.size w wr) (fun _ _ i _ => s.size - (intOf i).toNat)
  case atStart => exact ⟨0, 0, [], Nat.zero_le _, Nat.le_refl _, rfl, rfl, Nat.le_refl _, by simp [Hid], by simp [Hid], own_made _ _ _ _ _ (Nat.le_refl _), (Below.refl _ _).alloc (Nat.le_refl _) _⟩
  case round =>
    obtain ⟨k, q, done, hk, hq, rfl, rfl, hd, HC, HN, HO, hbe⟩ := hrel
    have hsz := hbe.size
    by_cases hlt : k < s.size
    · have hg : s.data.toList[k]? = some s[k] := by rw [List.getElem?_eq_getElem (by simpa using hlt)]; rfl
      by_cases hc : s[k] = c
      · have hcc : ((s[k].toNat : Int) == (c.toNat : Int)) = true := by rw [hc]; simp
        have HS := hid (cut_step c s.data.toList done q k hq (by rw [hg, hc]) HN.out HC.out)
        have HN2 : Hid (c ∉ (s.data.toList.take (k + 1)).drop (k + 1)) := by unfold Hid; rw [List.drop_of_length_le (by simp; omega)]; simp
        clear hc hg
        go_wp2_with (at_builtin; refine app_own (C := cStr) rfl (.tmp 20) (.tmp 25) _ rfl slStr rfl rfl HO.out no_blk _ (rd_ext s q k hs) (by omega) hsz ?_; intro v3 w3 hO3 hb3; have HO3 := hid hO3; have HB3 := hid (hbe.trans hb3); clear hO3 hb3)
        go_roundw
        case rel => exact ⟨k + 1, k + 1, _, by omega, by omega, by go_num, by go_num, by simp; omega, HS, HN2, HO3, HB3.out⟩
        case measure => simp [intOf]; omega
      · have hcc : ((s[k].toNat : Int) == (c.toNat : Int)) = false := by
          simp only [beq_eq_false_iff_ne, ne_eq]; intro e; exact hc (UInt8.toNat_inj.1 (by omega))
        have HN2 := hid (cut_more c s.data.toList q k hq hg hc HN.out)
        clear hc hg
        go_wp2
        go_roundw
        case rel => exact ⟨k + 1, q, done, by omega, by omega, by go_num, rfl, hd, HC, HN2, HO, hbe⟩
        case measure => simp [intOf]; omega
    · obtain rfl : k = s.size := by omega
      have HF : Hid (done ++ [s.data.toList.drop q] = cutL c s.data.toList) := by
        have h1 := HC.out
        have h2 := HN.out
        rw [List.take_of_length_le (by simp)] at h2
        rw [cutL_none _ _ h2] at h1; exact h1
      go_wp2_with (at_builtin; refine app_own (C := cStr) rfl (.tmp 29) (.tmp 33) _ rfl slStr rfl rfl HO.out no_blk _ (rd_ext_end s q hs) (by omega) hsz ?_; intro v3 w3 hO3 hb3; have HO3 := hid hO3; have HB3 := hid (hbe.trans hb3); clear hO3 hb3)
      go_ret
      rw [← HF.out]
      exact retSl_own HO3.out (fun _ h => h.elim) HB3.out
end Go.Proofs.YtcbaohcgeoaccaaDoor
