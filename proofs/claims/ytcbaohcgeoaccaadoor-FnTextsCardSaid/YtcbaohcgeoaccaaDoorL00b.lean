/- Contracts: short strings that the source of choices draws; lists that are equal. -/
import Derived.Test.YtcbaohcgeoaccaaDoorL00
namespace Go.Proofs.YtcbaohcgeoaccaaDoor
open Go.RowKit

theorem conv_ownI {P : Program} {src dst e : TypeId} (hs : P.underlying src = some (.slice e)) (he : P.underlying e = some (.int .u8)) (hd : P.underlying dst = some .string)
    {w : World} {base : Nat} {v : Value} {S : Nat → Prop} {zs : List Int} (h : OwnSl cU8 S w base e v zs) : ∃ l : List UInt8, l.length = zs.length ∧ (convert src dst v).run P w = .ok (strOf l) w := by
  obtain ⟨xs, hr, hel⟩ := h
  refine ⟨zs.map fun z => UInt8.ofNat z.toNat, by simp, conv_own (base := base) (n := zs.length) hs he hd _ ?_⟩
  have hx : xs = (zs.map fun z => UInt8.ofNat z.toNat).map u8v := by
    have hlen : xs.length = zs.length := by have := hr.1; simpa [cU8] using this
    apply List.ext_getElem?
    intro i
    by_cases hi : i < zs.length
    · obtain ⟨cs, ⟨rfl, h0, h1⟩, hc⟩ := hel i zs[i] (List.getElem?_eq_getElem hi)
      have := hc 0 _ rfl
      simp only [cU8, Nat.mul_one, Nat.add_zero] at this
      rw [this]
      simp only [List.map_map, List.getElem?_map, List.getElem?_eq_getElem hi, Option.map_some, Function.comp, u8v]
      congr 2
      simp
      omega
    · rw [List.getElem?_eq_none (by omega), List.getElem?_eq_none (by simp; omega)]
  rw [← hx]; simpa [cU8] using hr
theorem rd_u8 {S : Nat → Prop} {w : World} {z : Int} (h0 : 0 ≤ z) (h1 : z < 256) : cU8.rd S w #[Value.int .u8 z].toList z := ⟨rfl, h0, h1⟩
/-- A string of at most m bytes, and the source. -/
def RetStr (m g k : Nat) (w : World) (e : Ending) (w' : World) : Prop := ∃ l : List UInt8, e = .returned (strOf l) ∧ l.length ≤ m ∧ SrcOk g k w' ∧ w.grownBy w' (some g)
theorem grown_app {a b c : World} {row : Option Nat} {B : Nat} (h : a.grownBy b row) (hb : Below B b c) (hB : a.heap.size ≤ B) : a.grownBy c row :=
  ⟨hb.os.trans h.os, hb.tape.trans h.tape, hb.output.trans h.output, Nat.le_trans h.size hb.size, fun i hi hn => (hb.block i (by omega)).trans (h.block i hi hn)⟩
set_option maxRecDepth 100000 in
theorem c_word (g k : Nat) (w : World) (hs : SrcOk g k w) (hk : k ≤ 900000) : Calls Tryd.prog 137 #[.pointer (some ⟨g, 0, none⟩), .int .i64 12] w (RetStr 12 g (k + 30) w) := by
  have hgl := srcOk_lt hs
  have HS1 := hid (srcOk_alloc hs (.cells #[] 5))
  clear hs
  have HO1 : Hid (OwnSl cU8 (fun _ => False) (w.alloc (.cells #[] 5)) w.heap.size 5 (.slice (some ⟨w.heap.size, 0, none⟩) 0 0) []) := own_made _ _ _ _ _ (Nat.le_refl _)
  go_enter Tryd.func137, Tryd.ntmps137
  go_wp2_with fail
  refine (c_pick _ _ _ _ HS1.out (by omega) (by omega) (by omega)).mono ?_
  rintro e w2 ⟨n, rfl, hn0, hn1, hs2, hg2⟩
  have HS2 := hid hs2
  have HO2 := hid (own_beside HO1.out hg2 hgl)
  have HG2 := hid (grownBy_trans_alloc hg2)
  have hz2 : w.heap.size ≤ w2.heap.size := HG2.out.size
  obtain ⟨N, rfl⟩ := Int.eq_ofNat_of_zero_le hn0
  have hN : N ≤ 11 := by omega
  clear hs2 hg2
  go_wp2
  go_loopw [5, 6] (fun v i wr => ∃ (j : Nat) (zs : List Int), j ≤ N ∧ i = .int .i64 ((N : Int) - j) ∧ zs.length = j ∧ Hid (SrcOk g (k + 2 + j) wr) ∧ Hid (OwnSl cU8 (fun _ => False) wr w.heap.size 5 v zs) ∧ Hid (w.grownBy wr (some g)) ∧ w.heap.size ≤ wr.heap.size) (fun _ i _ => (intOf i).toNat)
  case atStart => exact ⟨0, [], Nat.zero_le _, by simp, rfl, HS2, HO2, HG2, hz2⟩
  case round =>
    obtain ⟨j, zs, hj, rfl, hzl, HS, HO, HG, hsz⟩ := hrel
    have HZL := hid hzl
    have hzl2 : zs.length ≤ 11 := by omega
    clear hzl
    by_cases hlt : j < N
    · go_wp2_with (first | (go_at_call 161; refine (c_next _ _ _ HS.out (by omega)).mono ?_; rintro e w3 ⟨z, rfl, hz0, hz1, hs3, hg3⟩; have HS3 := hid hs3; have HO3 := hid (own_beside HO.out hg3 hgl); have HG3 := hid (grown_trans HG.out hg3); have hz3 := Nat.le_trans hsz hg3.size; clear hs3 hg3) | (at_builtin; refine app_own (C := cU8) rfl (.tmp 15) (.tmp 19) _ rfl slU8 rfl rfl HO3.out no_blk _ (rd_u8 (by omega) (by omega)) (by omega) hz3 ?_; intro v4 w4 hO4 hb4; have HO4 := hid hO4; have HS4 := hid (srcOk_keep HS3.out (Nat.le_refl _) (w' := w4) fun b hb => hb4.block b (by omega)); have HG4 := hid (grown_app HG3.out hb4 (Nat.le_refl _)); have hz4 := Nat.le_trans hz3 hb4.size; clear hO4 hb4))
      go_roundw
      case rel => exact ⟨j + 1, _, by omega, by go_num, by have := HZL.out; simp; omega, srcOk_keep HS4.out (by omega) fun _ _ => rfl, HO4, HG4, hz4⟩
      case measure => simp [intOf]; omega
    · obtain ⟨l, hll, hc⟩ := conv_ownI Tryd.underlying80 Tryd.underlying5 Tryd.underlying9 HO.out
      go_wp2
      go_ret
      exact ⟨l, rfl, by omega, srcOk_keep HS.out (by omega) fun _ _ => rfl, HG.out⟩
set_option maxRecDepth 100000 in
theorem c_l01DrawBytes (g k : Nat) (w : World) (hs : SrcOk g k w) (hk : k ≤ 800000) : Calls Tryd.prog 105 #[.pointer (some ⟨g, 0, none⟩)] w (RetStr 12 g (k + 100) w) := by
  have hgl := srcOk_lt hs
  have HS0 := hid hs
  clear hs
  go_enter Tryd.func105, Tryd.ntmps105
  go_wp2_with fail
  refine (c_one _ _ _ _ HS0.out (by omega) (by omega) (by omega)).mono ?_
  rintro e w1 ⟨b, rfl, hs1, hg1⟩
  have HS1 := hid hs1
  have HG1 := hid hg1
  clear hs1 hg1
  cases b
  · have HS2 := hid (srcOk_alloc HS1.out (.cells #[] 5))
    have hz1 : w.heap.size ≤ w1.heap.size := HG1.out.size
    have HO2 : Hid (OwnSl cU8 (fun _ => False) (w1.alloc (.cells #[] 5)) w.heap.size 5 (.slice (some ⟨w1.heap.size, 0, none⟩) 0 0) []) := own_made _ _ _ _ _ hz1
    go_wp2_with fail
    refine (c_pick _ _ _ _ HS2.out (by omega) (by omega) (by omega)).mono ?_
    rintro e w2 ⟨n, rfl, hn0, hn1, hs2, hg2⟩
    have HS3 := hid hs2
    have HO3 := hid (own_beside HO2.out hg2 hgl)
    have HG3 := hid (grown_trans HG1.out (grownBy_trans_alloc hg2))
    have hz2 : w.heap.size ≤ w2.heap.size := HG3.out.size
    obtain ⟨N, rfl⟩ := Int.eq_ofNat_of_zero_le hn0
    have hN : N ≤ 11 := by omega
    clear hs2 hg2
    go_wp2
    go_loopw [3, 4] (fun v i wr => ∃ (j : Nat) (zs : List Int), j ≤ N ∧ i = .int .i64 ((N : Int) - j) ∧ zs.length = j ∧ Hid (SrcOk g (k + 2 + 2 + 2 * j) wr) ∧ Hid (OwnSl cU8 (fun _ => False) wr w.heap.size 5 v zs) ∧ Hid (w.grownBy wr (some g)) ∧ w.heap.size ≤ wr.heap.size) (fun _ i _ => (intOf i).toNat)
    case atStart => exact ⟨0, [], Nat.zero_le _, by simp, rfl, HS3, HO3, HG3, hz2⟩
    case round =>
      obtain ⟨j, zs, hj, rfl, hzl, HS, HO, HG, hsz⟩ := hrel
      have HZL := hid hzl
      have hzl2 : zs.length ≤ 11 := by omega
      clear hzl
      by_cases hlt : j < N
      · have HL := hid (lit_ints (w := wr) (e := 2) [10, 32, 97, 98, 122, 48, 57, 102] (by intro z hz; simp at hz; unfold I64; omega) (by decide))
        have hgl2 := srcOk_lt HS.out
        have HSa := hid (srcOk_alloc HS.out (.cells #[.int .i64 10, .int .i64 32, .int .i64 97, .int .i64 98, .int .i64 122, .int .i64 48, .int .i64 57, .int .i64 102] 2))
        have HOa := hid (own_alloc HO.out (.cells #[.int .i64 10, .int .i64 32, .int .i64 97, .int .i64 98, .int .i64 122, .int .i64 48, .int .i64 57, .int .i64 102] 2))
        go_wp2_with (first | (go_at_call 139; refine (c_among _ _ (some ⟨wr.heap.size, 0, none⟩) 8 [10, 32, 97, 98, 122, 48, 57, 102] _ HSa.out (by omega) HL.out (fun b hb => by omega) (by decide) (by decide)).mono ?_; rintro e w3 ⟨z, rfl, hzm, hs3, hg3⟩; have HS3 := hid hs3; have HO3 := hid (own_beside HOa.out hg3 hgl); have HG3 := hid (grown_trans HG.out (grownBy_trans_alloc hg3)); have hz3 := Nat.le_trans hsz (grownBy_trans_alloc hg3).size; simp only [List.mem_cons, List.not_mem_nil, or_false] at hzm; have hz0 : 0 ≤ z ∧ z < 256 := (by omega); clear hs3 hg3 hzm) | (at_builtin; refine app_own (C := cU8) rfl (.tmp 16) (.tmp 21) _ rfl slU8 rfl rfl HO3.out no_blk _ (rd_u8 (by omega) (by omega)) (by omega) hz3 ?_; intro v4 w4 hO4 hb4; have HO4 := hid hO4; have HS4 := hid (srcOk_keep HS3.out (Nat.le_refl _) (w' := w4) fun b hb => hb4.block b (by omega)); have HG4 := hid (grown_app HG3.out hb4 (Nat.le_refl _)); have hz4 := Nat.le_trans hz3 hb4.size; clear hO4 hb4))
        go_roundw
        case rel => exact ⟨j + 1, _, by omega, by go_num, by have := HZL.out; simp; omega, srcOk_keep HS4.out (by omega) fun _ _ => rfl, HO4, HG4, hz4⟩
        case measure => simp [intOf]; omega
      · obtain ⟨l, hll, hc⟩ := conv_ownI Tryd.underlying80 Tryd.underlying5 Tryd.underlying9 HO.out
        go_wp2
        go_ret
        exact ⟨l, rfl, by omega, srcOk_keep HS.out (by omega) fun _ _ => rfl, HG.out⟩
  · go_wp2_with fail
    refine (c_word _ _ _ HS1.out (by omega)).mono ?_
    rintro e w2 ⟨l, rfl, hl, hs2, hg2⟩
    have HS2 := hid hs2
    have HG2 := hid (grown_trans HG1.out hg2)
    clear hs2 hg2
    go_wp2
    go_ret
    exact ⟨l, rfl, hl, srcOk_keep HS2.out (by omega) fun _ _ => rfl, HG2.out⟩
def RetDrawnS (w : World) (e : Ending) (w' : World) : Prop := ∃ l : List UInt8, e = .returned (strOf l) ∧ l.length ≤ 12 ∧ Below w.heap.size w w'
theorem c_R8Bytes {a : Option Addr} {p : Nat} {bs : List Int} {w : World} (h : SlRd cU8 (fun b => b < w.heap.size) w a p bs) : Calls Tryd.prog 57 #[.slice a bs.length p] w (RetDrawnS w) := by
  have H := hid h
  clear h
  go_enter Tryd.func57, Tryd.ntmps57
  go_wp2_with fail
  refine (c_l00From H.out).mono ?_
  rintro e w1 ⟨rfl, hs1, hb1, hz1⟩
  have HS1 := hid hs1
  have HB1 := hid hb1
  have hz1' : w.heap.size ≤ w1.heap.size := by omega
  clear hs1 hb1 hz1
  go_wp2_with fail
  refine (c_l01DrawBytes _ _ _ HS1.out (by omega)).mono ?_
  rintro e w2 ⟨l, rfl, hl, hs2, hg2⟩
  have HB2 := hid (HB1.out.trans (grown_below hg2 (Nat.le_refl _) hz1'))
  clear hs2 hg2
  go_wp2
  go_ret
  exact ⟨l, rfl, hl, HB2.out⟩
end Go.Proofs.YtcbaohcgeoaccaaDoor
