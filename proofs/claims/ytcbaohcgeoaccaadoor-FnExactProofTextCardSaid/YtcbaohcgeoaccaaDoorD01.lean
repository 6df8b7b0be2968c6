/- Contracts: a number in decimal, the reference's side. -/
import Derived.Test.YtcbaohcgeoaccaaDoorTxt
import Derived.Test.YtcbaohcgeoaccaaDoorL01
namespace Go.Proofs.YtcbaohcgeoaccaaDoor
open Go.RowKit

/-- string([]byte{c}) of a literal. -/
theorem conv_lit {P : Program} {src dst e : TypeId} (hs : P.underlying src = some (.slice e)) (he : P.underlying e = some (.int .u8)) (hd : P.underlying dst = some .string) (w : World) (c : UInt8) :
    (convert src dst (.slice (some ⟨w.heap.size, 0, none⟩) 1 1)).run P (w.alloc (.cells #[u8v c] e)) = .ok (strOf [c]) (w.alloc (.cells #[u8v c] e)) :=
  conv_own (e := e) (base := w.heap.size) (n := 1) hs he hd [c] (by have := World.ownsRow_lit (base := w.heap.size) (e := e) (size := 1) w #[u8v c] 1 (Nat.le_refl _) (by decide) rfl; simpa using this)
set_option maxRecDepth 100000 in
theorem c_l01Dec (n : Int) (w : World) (h1 : -9223372036854775808 ≤ n) (h2 : n ≤ 9223372036854775807) :
    Calls Tryd.prog 61 #[.int .i64 n] w fun e w' => e = .returned (strOf (Lib.itoa n)) ∧ Below w.heap.size w w' := by
  by_cases h0 : n = 0
  · subst h0
    have HI := hid itoa_zero
    go_enter Tryd.func61, Tryd.ntmps61
    go_wp2
    go_ret
    rw [HI.out]
    exact ⟨rfl, Below.refl _ _⟩
  · have hne : (n == 0) = false := by simpa using h0
    obtain ⟨U, HU⟩ : ∃ U : Nat, Hid (n.natAbs = U) := ⟨_, rfl⟩
    have hU : U ≤ 9223372036854775808 := by rw [← HU.out]; omega
    rcases (show n = (U : Int) ∨ n = -(U : Int) by rw [← HU.out]; omega) with rfl | rfl
    any_goals
      have hp : 0 < U := by omega
      have HF : Hid (Lib.itoa (U : Int) = digs U) := by unfold Hid; rw [itoa_pos (by omega)]; simp
    any_goals
      have HF2 : Hid (Lib.itoa (-(U : Int)) = 45 :: digs U) := by unfold Hid; rw [itoa_neg' (by omega)]; simp
    all_goals
      clear h0 hne HU
      go_enter Tryd.func61, Tryd.ntmps61
      go_wp2
      go_loopw [3, 4] (fun v o wr => ∃ (u : Nat) (l : List UInt8), u ≤ U ∧ v = .int .i64 (-(u : Int)) ∧ o = .string ⟨l.toArray⟩ ∧ Hid (digs u ++ l = digs U) ∧ Below w.heap.size w wr) (fun v _ _ => (intOf v).natAbs)
      case atStart => exact ⟨U, [], Nat.le_refl _, rfl, rfl, by simp [Hid], Below.refl _ _⟩
      case round =>
        obtain ⟨u, l, hu, rfl, rfl, HL, hbe⟩ := hrel
        have hsz := hbe.size
        have hll : l.length ≤ 20 := by
          have h9 := digs_len U hU
          rw [← HL.out, List.length_append] at h9; omega
        by_cases hu0 : 0 < u
        · have t1 := tmod_neg_ten u
          have t2 := tdiv_neg_ten u
          have HC := conv_lit Tryd.underlying80 Tryd.underlying5 Tryd.underlying9 wr (UInt8.ofNat (48 + u % 10))
          have e8 : u8v (UInt8.ofNat (48 + u % 10)) = .int .u8 (48 + (u : Int) % 10) := by
            unfold u8v; rw [UInt8.toNat_ofNat_of_lt' (by simp [UInt8.size]; omega)]; simp
          rw [e8] at HC
          have HE : Hid (digs u = digs (u / 10) ++ [UInt8.ofNat (48 + u % 10)]) := digs_pos hu0
          clear e8
          unfold strOf at HC
          generalize UInt8.ofNat (48 + u % 10) = c at *
          go_wp2
          go_roundw
          case rel => exact ⟨u / 10, c :: l, by omega, by go_num, by exact strOf_add [c] l, by have h := HL.out; rw [HE.out] at h; simpa [Hid] using h, hbe.alloc hsz _⟩
          case measure => simp [intOf]; omega
        · obtain rfl : u = 0 := by omega
          have HG : Hid (l = digs U) := by have h := HL.out; rw [digs_zero] at h; exact h
          go_wp2
          go_ret
          first | (rw [HF.out, ← HG.out]; exact ⟨rfl, hbe⟩) | (rw [HF2.out, ← HG.out]; exact ⟨congrArg Ending.returned (strOf_add [45] l), hbe⟩)
end Go.Proofs.YtcbaohcgeoaccaaDoor
