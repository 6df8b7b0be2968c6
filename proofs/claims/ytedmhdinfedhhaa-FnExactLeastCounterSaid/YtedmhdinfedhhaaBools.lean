/- Slices of truth values: one's own, and what is true in them. -/
import Derived.Test.YtedmhdinfedhhaaProg
import Derived.Test.YtedmhdinfedhhaaApp2
import Derived.Test.YtedmhdinfedhhaaHlp
namespace Go.Proofs.Ytedmhdinfedhhaa
open Go.RowKit

theorem slBool : SlT Try.prog 97 4 (.bool false) 1 1 := ⟨Try.underlying97, by kernel_rfl, rfl, by decide, by decide⟩
theorem SlRd.bool_at {S : Nat → Prop} {w : World} {b off cap : Nat} {zs : List Bool} (h : SlRd cBool S w (some ⟨b, off, none⟩) cap zs) (k : Nat) (hk : k < zs.length) :
    ∃ z, zs[k]? = some z ∧ w.cell? ⟨b, off + k, none⟩ = some (.bool z) ∧ b < w.heap.size := by
  obtain ⟨d, cs, h1, rfl, h7, _, hc⟩ := h.at k hk
  have := hc 0 _ rfl
  simp only [cBool, Nat.mul_one, Nat.add_zero] at this
  exact ⟨_, h1, this, h7⟩
theorem own_set_bool {S : Nat → Prop} {w : World} {base : Nat} {e : TypeId} {zl : List Bool} {g cap n : Nat} (h : OwnSl cBool S w base e (.slice (some ⟨g, 0, none⟩) n cap) zl) (hn : zl.length = n) (k : Nat) (hk : k < n) (z : Bool) :
    OwnSl cBool S (w.setCell ⟨g, k, none⟩ (.bool z)) base e (.slice (some ⟨g, 0, none⟩) n cap) (zl.set k z) ∧ w.grownBy (w.setCell ⟨g, k, none⟩ (.bool z)) (some g) := by
  have := own_set h hn k hk [.bool z] z rfl
  simpa [stores, cBool] using this
theorem own_at_bool {S : Nat → Prop} {w : World} {base : Nat} {e : TypeId} {zl : List Bool} {g cap n : Nat} (h : OwnSl cBool S w base e (.slice (some ⟨g, 0, none⟩) n cap) zl) (hn : zl.length = n) (k : Nat) (hk : k < n) :
    ∃ z, zl[k]? = some z ∧ w.cell? ⟨g, k, none⟩ = some (.bool z) ∧ w.frozen? ⟨g, k, none⟩ = false ∧ g < w.heap.size ∧ base ≤ g := by
  obtain ⟨z, cs, h1, rfl, h2, h3, h4, h5⟩ := own_at h hn k hk
  have := h4 0 _ rfl
  simp only [cBool, Nat.mul_one, Nat.add_zero] at this
  exact ⟨z, h1, this, h5 _, h2, h3⟩
/-- The first elements of a slice. -/
theorem SlRd.take {α : Type} {C : Codec α} {S : Nat → Prop} {w : World} {a : Option Addr} {cap : Nat} {xs : List α} (h : SlRd C S w a cap xs) (n : Nat) : SlRd C S w a cap (xs.take n) := by
  refine ⟨Nat.le_trans (by simp; omega) h.1, h.2.1, h.2.2.1, fun x hx i d hi => ?_⟩
  rw [List.getElem?_take] at hi
  split at hi
  · exact h.2.2.2 x hx i d hi
  · cases hi
/-- The places of what is true. -/
def idxK (bs : List Bool) (k : Nat) : List Int := ((List.range k).filter fun j => bs.getD j false).map fun j : Nat => (j : Int)
def idxL (bs : List Bool) : List Int := idxK bs bs.length
theorem idxK_succ {bs : List Bool} {k : Nat} {z : Bool} (h : bs[k]? = some z) : idxK bs (k + 1) = idxK bs k ++ if z then [(k : Int)] else [] := by
  unfold idxK
  rw [List.range_succ, List.filter_append, List.map_append]
  congr 1
  cases z
  · simp [h]
  · simp [h]
theorem idxK_len (bs : List Bool) (k : Nat) : (idxK bs k).length ≤ k := by
  unfold idxK
  rw [List.length_map]
  exact Nat.le_trans (List.length_filter_le _ _) (by simp)
set_option maxRecDepth 100000 in
theorem c_indices {S : Nat → Prop} {a : Option Addr} {p : Nat} {bs : List Bool} {w : World} (h : SlRd cBool S w a p bs) (hl : bs.length ≤ 1000000) :
    Calls Try.prog 59 #[.slice a bs.length p] w (RetSl cInt (idxL bs) w) := by
  have H := hid h
  clear h
  go_enter Try.func59, Try.ntmps59
  go_wp2
  go_loopw [3, 8] (fun v i wr => ∃ k : Nat, k ≤ bs.length ∧ i = .int .i64 k ∧ Hid (OwnSl cInt (fun _ => False) wr w.heap.size 2 v (idxK bs k)) ∧ Below w.heap.size w wr) (fun _ i _ => bs.length - (intOf i).toNat)
  case atStart => exact ⟨0, Nat.zero_le _, rfl, own_nil _ _ _ _ _, Below.refl _ _⟩
  case round =>
    obtain ⟨k, hk, rfl, HO, hbe⟩ := hrel
    have hsz := hbe.size
    have hlen := idxK_len bs k
    by_cases hlt : k < bs.length
    · obtain ⟨b, off, rfl⟩ := H.out.some_of hlt
      obtain ⟨z, hz, hc, hb⟩ := (H.out.below (Nat.le_refl _) hbe).bool_at k hlt
      have HS := hid (idxK_succ hz)
      clear hz
      cases z
      · go_wp2
        go_roundw
        case rel => exact ⟨k + 1, by omega, by go_num, by rw [HS.out]; simpa using HO, hbe⟩
        case measure => simp [intOf]; omega
      · go_wp2_with (at_builtin; refine app_own (C := cInt) rfl (.tmp 14) (.tmp 16) _ rfl slI64 rfl rfl HO.out no_blk k (rd_int ⟨by omega, by omega⟩) (by omega) hsz ?_; intro v3 w3 hO3 hb3; have HO3 := hid hO3; have HB3 := hid (hbe.trans hb3); clear hO3 hb3)
        go_roundw
        case rel => exact ⟨k + 1, by omega, by go_num, by rw [HS.out]; exact HO3, HB3.out⟩
        case measure => simp [intOf]; omega
    · have hke : k = bs.length := by omega
      subst hke
      go_wp2
      go_ret
      exact retSl_own HO.out (fun _ h => h.elim) hbe
end Go.Proofs.Ytedmhdinfedhhaa
