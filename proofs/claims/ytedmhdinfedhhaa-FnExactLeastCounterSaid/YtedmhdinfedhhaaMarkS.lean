/- Contracts: the marks of a sequent. -/
import Derived.Test.YtedmhdinfedhhaaMarkA
import Derived.Test.YtedmhdinfedhhaaHSeq
namespace Go.Proofs.Ytedmhdinfedhhaa
open Go.RowKit

set_option maxRecDepth 100000 in
theorem u_markSequent {S : Nat → Prop} {d1 : Int} {a0 : Option Addr} {p0 : Nat} {d0 : List Term} {a2 : Option Addr} {p2 : Nat} {d2 : List Int} {m : Int} {w : World} (h0 : SlRd cTerm S w a0 p0 d0) (h2 : SlRd cInt S w a2 p2 d2) (hS : ∀ b, S b → Thawed w b) (hm : 0 ≤ m) (hm2 : m + ((szTs d0 + d2.length : Nat) : Int) ≤ 4611686018427387904) :
    Calls Try.prog 28 #[.agg #[.slice a0 d0.length p0, .int .i64 d1, .slice a2 d2.length p2], .int .i64 m] w fun e w' => e = .returned (.int .i64 (m + ((szTs d0 + d2.length : Nat) : Int))) ∧ Turned S w w' := by
  have HS := hid hS
  have hbx : ∀ b, S b → b ≠ w.heap.size := fun b hb e => by
    obtain ⟨cs, t, h⟩ := hS b hb
    have := (Array.getElem?_eq_some_iff.1 h).1
    omega
  have HBX := hid hbx
  obtain ⟨W, hW⟩ : ∃ W, w.alloc (.cells #[.slice a0 d0.length p0, .int .i64 d1, .slice a2 d2.length p2] 52) = W := ⟨_, rfl⟩
  have HT0 : Hid (Turned S w W) := by rw [← hW]; exact (Turned.refl _ _).alloc _
  have H0 : Hid (SlRd cTerm S W a0 p0 d0) := by rw [← hW]; exact h0.alloc _
  have H2 : Hid (SlRd cInt S W a2 p2 d2) := by rw [← hW]; exact h2.alloc _
  have t0 : W.cell? ⟨w.heap.size, 0, none⟩ = some (.slice a0 d0.length p0) := by rw [← hW]; simp [go_sem]
  have t1 : W.cell? ⟨w.heap.size, 1, none⟩ = some (.int .i64 d1) := by rw [← hW]; simp [go_sem]
  have t2 : W.cell? ⟨w.heap.size, 2, none⟩ = some (.slice a2 d2.length p2) := by rw [← hW]; simp [go_sem]
  have z0 : w.heap.size < W.heap.size := by rw [← hW]; simp
  have hnS : ¬ S w.heap.size := fun hs => HBX.out _ hs rfl
  have HNS := hid hnS
  have HS0 := hid fun b hb => HT0.out.thaw b (HS.out b hb)
  have HW := hid hW
  obtain ⟨n0, hn0⟩ : ∃ n, szTs d0 = n := ⟨_, rfl⟩
  rw [hn0] at hm2
  have C0 := hid (c_markTermS _ _ _ m _ H0.out HS0.out hm (by omega))
  rw [hn0] at C0
  have HN0 := hid hn0
  clear h0 h2 hS hbx hnS hn0
  go_enter Try.func28, Try.ntmps28
  go_wp2_with fail
  clear hW HW
  refine C0.out.mono ?_
  rintro e w1 ⟨rfl, ht1⟩
  have HT1 := hid (HT0.out.trans ht1)
  have HS1 := hid fun b hb => HT1.out.thaw b (HS.out b hb)
  have t11 := cell_sep ht1 z0 HNS.out t1
  have t12 := cell_sep ht1 z0 HNS.out t2
  obtain ⟨e2, g2, k2⟩ := H2.out.turned nInt ht1
  have l2 := map_len k2
  rw [← l2] at t12
  have C1 := hid (c_markTerm d1 _ _ e2 (m + n0) _ g2 HS1.out (by omega) (by rw [l2]; omega))
  rw [l2] at C1 t12
  clear ht1 g2 k2 H0 H2 t0 t1 t2 C0 l2
  go_wp2_with fail
  refine C1.out.mono ?_
  rintro e w2 ⟨rfl, ht2⟩
  have HT2 := hid (HT1.out.trans ht2)
  go_wp2
  go_ret
  rw [HN0.out]
  exact ⟨by simp [Int.add_assoc], HT2.out⟩
end Go.Proofs.Ytedmhdinfedhhaa
