/- Contracts of chapter 1: strings read from hexadecimal digits. -/
import Derived.Test.YtcbaohcgeoaccaaDoorL01b
import Derived.Test.YtcbaohcgeoaccaaDoorOwn
import Derived.Lib.Bytealg
import Derived.Deep.QuietTactic
import Derived.BigQuiet
import Derived.Deep.RegionHeld3
import Derived.StillTailTactics
namespace Go.Proofs.YtcbaohcgeoaccaaDoor
open Go.RowKit

def hexDs : List UInt8 := [48, 49, 50, 51, 52, 53, 54, 55, 56, 57, 97, 98, 99, 100, 101, 102]
def hx (c : UInt8) : Int := Lib.indexByte hexDs c
def dgN (n : Nat) : Nat := if 48 ≤ n ∧ n ≤ 57 then n - 48 else if 97 ≤ n ∧ n ≤ 102 then n - 87 else 0
def dg (c : UInt8) : Nat := dgN c.toNat
theorem hx_tab : ∀ n, n < 256 → (dg (UInt8.ofNat n) < 16 ∧ -1 ≤ hx (UInt8.ofNat n) ∧ hx (UInt8.ofNat n) < 16 ∧ (0 ≤ hx (UInt8.ofNat n) → hx (UInt8.ofNat n) = dg (UInt8.ofNat n) ∧ hexD (dg (UInt8.ofNat n)) = UInt8.ofNat n) ∧ (hx (UInt8.ofNat n) < 0 → hexD (dg (UInt8.ofNat n)) ≠ UInt8.ofNat n)) := by decide +kernel
theorem hx_c (c : UInt8) : dg c < 16 ∧ -1 ≤ hx c ∧ hx c < 16 ∧ (0 ≤ hx c → hx c = dg c ∧ hexD (dg c) = c) ∧ (hx c < 0 → hexD (dg c) ≠ c) := by
  have h := hx_tab c.toNat c.toNat_lt
  rwa [UInt8.ofNat_toNat] at h
def sp : List UInt8 → List UInt8
  | a :: b :: t => UInt8.ofNat (16 * dg a + dg b) :: sp t
  | _ => []
def good : List UInt8 → Bool
  | a :: b :: t => (decide (0 ≤ hx a) && decide (0 ≤ hx b)) && good t
  | _ => true
theorem sp_app : ∀ (x y : List UInt8), x.length % 2 = 0 → sp (x ++ y) = sp x ++ sp y
  | [], y, _ => rfl
  | [a], y, h => by simp at h
  | a :: b :: t, y, h => by
    have := sp_app t y (by simp only [List.length_cons] at h; omega)
    simp only [List.cons_append, sp, this]
theorem good_app : ∀ (x y : List UInt8), x.length % 2 = 0 → good (x ++ y) = (good x && good y)
  | [], y, _ => rfl
  | [a], y, h => by simp at h
  | a :: b :: t, y, h => by
    have := good_app t y (by simp only [List.length_cons] at h; omega)
    simp only [List.cons_append, good, this, Bool.and_assoc]
theorem sp_len : ∀ (x : List UInt8), (sp x).length * 2 ≤ x.length
  | [] => by simp [sp]
  | [a] => by simp [sp]
  | a :: b :: t => by have := sp_len t; simp only [sp, List.length_cons]; omega
theorem sp_len2 : ∀ (x : List UInt8), x.length % 2 = 0 → (sp x).length = x.length / 2
  | [], _ => by simp [sp]
  | [a], h => by simp at h
  | a :: b :: t, h => by have := sp_len2 t (by simp only [List.length_cons] at h; omega); simp only [sp, List.length_cons]; omega
theorem byte_nat {x y : Nat} (hx : x < 16) (hy : y < 16) : (UInt8.ofNat (16 * x + y)).toNat = 16 * x + y := by
  rw [UInt8.toNat_ofNat']; omega
theorem good_iff : ∀ (l : List UInt8), l.length % 2 = 0 → (good l = true ↔ hexOf (sp l) = l)
  | [], _ => by simp [good, sp, hexOf]
  | [a], h => by simp at h
  | a :: b :: t, h => by
    have ih := good_iff t (by simp only [List.length_cons] at h; omega)
    obtain ⟨a1, a2, a3, a4, a5⟩ := hx_c a
    obtain ⟨b1, b2, b3, b4, b5⟩ := hx_c b
    have e : hexOf (sp (a :: b :: t)) = hexD (dg a) :: hexD (dg b) :: hexOf (sp t) := by
      simp only [sp, hexOf, List.flatMap_cons, byte_nat a1 b1]
      rw [show (16 * dg a + dg b) / 16 = dg a by omega, show (16 * dg a + dg b) % 16 = dg b by omega]; rfl
    rw [e]
    simp only [good, Bool.and_eq_true, decide_eq_true_eq, List.cons.injEq]
    constructor
    · rintro ⟨⟨h1, h2⟩, h3⟩; exact ⟨(a4 h1).2, (b4 h2).2, ih.1 h3⟩
    · rintro ⟨h1, h2, h3⟩
      refine ⟨⟨?_, ?_⟩, ih.2 h3⟩
      · by_cases hh : 0 ≤ hx a
        · exact hh
        · exact absurd h1 (a5 (by omega))
      · by_cases hh : 0 ≤ hx b
        · exact hh
        · exact absurd h2 (b5 (by omega))
def readF (l : List UInt8) : List UInt8 × Bool := if l.length % 2 = 1 ∨ 80000 < l.length then ([], false) else if good l then (sp l, true) else ([], false)
theorem take2 (s : ByteArray) (k : Nat) (h : k + 1 < s.size) : s.data.toList.take (k + 2) = s.data.toList.take k ++ [s[k], s[k + 1]] := by
  rw [show k + 2 = k + 1 + 1 from rfl, take_snoc s (k + 1) h, take_snoc s k (by omega)]; simp
theorem good_bad (s : ByteArray) (k : Nat) (h : k + 1 < s.size) (he : k % 2 = 0) (hb : good [s[k], s[k + 1]] = false) : good s.data.toList = false := by
  have e : s.data.toList = s.data.toList.take k ++ ([s[k], s[k + 1]] ++ s.data.toList.drop (k + 2)) := by
    rw [← List.append_assoc, ← take2 s k h, List.take_append_drop]
  rw [e, good_app _ _ (by have h9 : s.data.toList.length = s.size := (by simp); rw [List.length_take, h9]; omega), good_app _ _ (by simp), hb]; simp
set_option maxRecDepth 100000 in
theorem c_litIndexByte (s : ByteArray) (c : Int) (w : World) :
    Calls Tryd.prog 140 #[.string s, .int .u8 c] w fun e w' => e = .returned (.int .i64 (Lib.indexByte s.data.toList c.toNat.toUInt8)) ∧ w' = w := by
  go_enter Tryd.func140, Tryd.ntmps140
  go_wp2
  rw [run_callFunc_extern Tryd.func162 (by kernel_rfl) (by kernel_rfl) (by kernel_rfl) (e := Extern.BytealgIndexByte.indexByte) (by kernel_rfl), Lib.run_indexByteString]
  simp only [Result.andThen]
  rw [Oper.upon_value]
  go_wp2
  go_ret
  exact ⟨rfl, rfl⟩
theorem c_IndexByte (s : ByteArray) (c : Int) (w : World) :
    Calls Tryd.prog 106 #[.string s, .int .u8 c] w fun e w' => e = .returned (.int .i64 (Lib.indexByte s.data.toList c.toNat.toUInt8)) ∧ w' = w := by
  go_enter Tryd.func106, Tryd.ntmps106
  go_wp2_with (go_at_call 140; refine (c_litIndexByte _ _ _).mono ?_; rintro e w' ⟨rfl, rfl⟩)
  go_ret
  exact ⟨rfl, rfl⟩
theorem ownsRow_bel {B : Nat} {e : TypeId} {k : Nat} {v : Value} {n : Nat} {xs : List Value} {w w' : World} (h : w.ownsRow B e k v n xs) (hb : Below w.heap.size w w') : w'.ownsRow B e k v n xs :=
  h.kept (row := none) ⟨hb.os, hb.tape, hb.output, hb.size, fun j hj _ => hb.block j hj⟩ (by cases hv : v.ownBlock <;> simp)
theorem sp_step (s : ByteArray) (k : Nat) (h : k + 1 < s.size) (he : k % 2 = 0) : sp (s.data.toList.take (k + 2)) = sp (s.data.toList.take k) ++ [UInt8.ofNat (16 * dgN s[k].toNat + dgN s[k + 1].toNat)] := by
  rw [take2 s k h, sp_app _ _ (by have h9 : s.data.toList.length = s.size := (by simp); rw [List.length_take, h9]; omega)]; rfl
theorem c_ix (c : UInt8) (w : World) :
    Calls Tryd.prog 106 #[.string ⟨#[48, 49, 50, 51, 52, 53, 54, 55, 56, 57, 97, 98, 99, 100, 101, 102]⟩, .int .u8 (c.toNat : Int)] w fun e w' => e = .returned (.int .i64 (hx c)) ∧ w = w' := by
  refine (c_IndexByte _ _ _).mono ?_
  rintro e w' ⟨rfl, rfl⟩
  refine ⟨?_, rfl⟩
  rw [Int.toNat_natCast, show c.toNat.toUInt8 = c from UInt8.ofNat_toNat]; rfl
set_option maxHeartbeats 4000000 in
set_option maxRecDepth 100000 in
theorem c_ReadHex (s : ByteArray) (w : World) (hs : s.size ≤ 1048576) :
    Calls Tryd.prog 59 #[.string s] w fun e w' => e = .returned (.tuple #[strOf (readF s.data.toList).1, .bool (readF s.data.toList).2]) ∧ Below w.heap.size w w' := by
  have hsl : s.data.toList.length = s.size := by simp
  by_cases h1 : s.size % 2 = 1
  · have HF : Hid (readF s.data.toList = ([], false)) := by unfold Hid readF; rw [if_pos (Or.inl (by omega))]
    have e1 : ((s.size : Int) % 2 != 0) = true := by simp; omega
    clear h1 hsl
    go_enter Tryd.func59, Tryd.ntmps59
    go_wp2
    go_ret2
    exact ⟨by rw [HF.out]; rfl, Below.refl _ _⟩
  · have e1 : ((s.size : Int) % 2 != 0) = false := by simp; omega
    by_cases h2 : 80000 < s.size
    · have HF : Hid (readF s.data.toList = ([], false)) := by unfold Hid readF; rw [if_pos (Or.inr (by omega))]
      clear h1 hsl
      go_enter Tryd.func59, Tryd.ntmps59
      go_wp2
      go_ret2
      exact ⟨by rw [HF.out]; rfl, Below.refl _ _⟩
    · have HF : Hid (readF s.data.toList = if good s.data.toList then (sp s.data.toList, true) else ([], false)) := by unfold Hid readF; rw [if_neg (by omega)]
      have HE : Hid (s.size % 2 = 0) := by unfold Hid; omega
      have HSL := hid hsl
      clear h1 hsl
      go_enter Tryd.func59, Tryd.ntmps59
      go_wp2
      go_loopw [4, 5, 6, 7] (fun v i _ _ wr => ∃ k : Nat, k ≤ s.size ∧ Hid (k % 2 = 0) ∧ i = .int .i64 k ∧ Hid (good (s.data.toList.take k) = true) ∧ wr.ownsRow w.heap.size 5 1 v (k / 2) ((sp (s.data.toList.take k)).map u8v) ∧ Below w.heap.size w wr) (fun _ i _ _ _ => s.size - (intOf i).toNat)
      case atStart => exact ⟨0, Nat.zero_le _, rfl, rfl, rfl, World.ownsRow_nil _ _ _ _, Below.refl _ _⟩
      case round =>
        obtain ⟨k, hk, HK, rfl, HGK, hown, hbe⟩ := hrel
        have hsz := hbe.size
        by_cases hlt : k < s.size
        · have hlt2 : k + 1 < s.size := by have := HE.out; have := HK.out; omega
          have HS := hid (sp_step s k hlt2 HK.out)
          have hwr : IntKind.i64.wrap ((k : Int) + 1) = (k : Int) + 1 := wrap_in _ (by omega) (by omega)
          have hi1 : (0 : Int) ≤ (k : Int) + 1 := by omega
          have hi2 : (k : Int) + 1 < s.size := by omega
          have hi3 : ((k : Int) + 1).toNat = k + 1 := by omega
          have hi4 : ¬ (k : Int) + 1 < 0 := by omega
          go_wp2
          go_quiet ((go_at_call 106; exact quiet_same (fun w => c_ix _ w)))
          have hownd := ownsRow_bel hown (below_drewN _ wr nq)
          have hbed := hbe.trans (below_drewN w.heap.size wr nq)
          have hszd := hbed.size
          generalize wr.drewN nq = wd at hownd hbed hszd ⊢
          obtain ⟨a1, a2, a3, a4, a5⟩ := hx_c s[k]
          obtain ⟨b1, b2, b3, b4, b5⟩ := hx_c s[k + 1]
          by_cases hA : hx s[k] < 0
          · have HF2 : Hid (readF s.data.toList = ([], false)) := by
              unfold Hid; rw [HF.out, good_bad s k hlt2 HK.out (by have : ¬ (0 ≤ hx s[k]) := by omega
                                                                   simp [good, this])]; rfl
            generalize hx s[k] = P at *
            generalize hx s[k + 1] = Q at *
            go_wp2
            go_ret2
            exact ⟨by rw [HF2.out]; rfl, hbed⟩
          · by_cases hB : hx s[k + 1] < 0
            · have HF2 : Hid (readF s.data.toList = ([], false)) := by
                unfold Hid; rw [HF.out, good_bad s k hlt2 HK.out (by have : ¬ (0 ≤ hx s[k + 1]) := by omega
                                                                     simp [good, this])]; rfl
              generalize hx s[k] = P at *
              generalize hx s[k + 1] = Q at *
              go_wp2
              go_ret2
              exact ⟨by rw [HF2.out]; rfl, hbed⟩
            · have HGN : Hid (good (s.data.toList.take (k + 2)) = true) := by
                unfold Hid
                rw [take2 s k hlt2, good_app _ _ (by have h9 := HSL.out; have h10 := HK.out; rw [List.length_take, h9]; omega), HGK.out]
                have h1 : 0 ≤ hx s[k] := by omega
                have h2 : 0 ≤ hx s[k + 1] := by omega
                simp [good, h1, h2]
              have hP := (a4 (by omega)).1
              have hQ := (b4 (by omega)).1
              have HV : Hid (u8v (UInt8.ofNat (16 * dgN s[k].toNat + dgN s[k + 1].toNat)) = .int .u8 (16 * hx s[k] + hx s[k + 1])) := by
                unfold Hid u8v; rw [show dgN s[k].toNat = dg s[k] from rfl, show dgN s[k + 1].toNat = dg s[k + 1] from rfl, byte_nat a1 b1, hP, hQ]; congr 1
              clear hP hQ a1 a4 a5 b1 b4 b5
              generalize hx s[k] = P at *
              generalize hx s[k + 1] = Q at *
              have hw1 : IntKind.i64.wrap (16 * P) = 16 * P := wrap_in _ (by omega) (by omega)
              have hw2 : IntKind.i64.wrap (16 * P + Q) = 16 * P + Q := wrap_in _ (by omega) (by omega)
              have hw3 : IntKind.u8.wrap (16 * P + Q) = 16 * P + Q := by rw [IntKind.wrap_u8]; omega
              have HN : Hid ((16 * P + Q) % 256 = 16 * P + Q) := by unfold Hid; omega
              go_wp2_with (at_builtin; refine app_lit rfl (.tmp 38) (.tmp 44) _ rfl slU8 rfl hownd rfl rfl (by simp [Value.oneCell']) (by omega) hszd ?_; intro v1 w1 hown1 hg1 _)
              go_roundw
              case rel =>
                refine ⟨k + 2, by omega, by have := HK.out; unfold Hid; omega, by go_num, HGN, ?_, hbed.trans (below_of_grown hownd hg1 (Nat.le_refl _) hszd)⟩
                rw [HS.out, show (k + 2) / 2 = k / 2 + 1 by omega, List.map_append, List.map_cons, HV.out]
                simpa [HN.out] using hown1
              case measure => simp [intOf]; omega
        · have hke : k = s.size := by omega
          subst hke
          rw [take_size s s.size (Nat.le_refl _)] at hown HGK
          have hc1 : (convert 80 9 u4).run Tryd.prog wr = .ok (strOf (sp s.data.toList)) wr := conv_own Tryd.underlying80 Tryd.underlying5 Tryd.underlying9 _ hown
          have HF2 : Hid (readF s.data.toList = (sp s.data.toList, true)) := by unfold Hid; rw [HF.out, HGK.out]; rfl
          go_wp2
          go_ret2
          exact ⟨by rw [HF2.out]; rfl, hbe⟩
end Go.Proofs.YtcbaohcgeoaccaaDoor
