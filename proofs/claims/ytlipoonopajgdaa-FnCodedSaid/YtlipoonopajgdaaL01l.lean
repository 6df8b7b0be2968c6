/- Contracts: lists read back from their codes. -/
import Derived.Test.YtlipoonopajgdaaL01g
import Derived.Test.YtlipoonopajgdaaL01lp
import Derived.Test.YtlipoonopajgdaaApp
import Derived.Outline
namespace Go.Proofs.Ytlipoonopajgdaa
open Go.RowKit

/-- A list of one's own, a place and a yes or no. -/
def RetList (r : List Int × Int × Bool) (w : World) (e : Ending) (w' : World) : Prop :=
  ∃ a cap, e = .returned (.tuple #[.slice a r.1.length cap, .int .i64 r.2.1, .bool r.2.2]) ∧ SlRd cInt (Fresh w.heap.size w') w' a cap r.1 ∧ Below w.heap.size w w'
theorem retList_nil {r : List Int × Int × Bool} {w w' : World} (h : r = ([], 0, false)) (hb : Below w.heap.size w w') : RetList r w (.returned (.tuple #[.slice none 0 0, .int .i64 0, .bool false])) w' := by
  subst h; exact ⟨none, 0, rfl, nil_rd _ _ _, hb⟩
theorem retList_own {r : List Int × Int × Bool} {vs : List Int} {p : Int} {w w' : World} {e : TypeId} {v : Value} {S : Nat → Prop} (h : r = (vs, p, true)) (ho : OwnSl cInt S w' w.heap.size e v vs) (hS : ∀ b, S b → b < w'.heap.size → Fresh w.heap.size w' b) (hb : Below w.heap.size w w') :
    RetList r w (.returned (.tuple #[v, .int .i64 p, .bool true])) w' := by
  subst h
  obtain ⟨a, cap, rfl, hs⟩ := own_rd (own_keep (S' := Fresh w.heap.size w') ho hS fun _ _ _ => rfl) (Nat.le_refl _)
  exact ⟨a, cap, rfl, hs, hb⟩
theorem getNumF_at {l : List UInt8} {p : Nat} (hp : p ≤ l.length) : getNumF l p = getRes p (getF (l.drop p)) := by
  unfold getNumF; rw [if_pos (by simp [inB]; omega), Int.toNat_natCast]
theorem retList_empty {r : List Int × Int × Bool} {w w' : World} {a : Option Addr} (h : r = ([], 0, false)) (hb : Below w.heap.size w w') : RetList r w (.returned (.tuple #[.slice a 0 0, .int .i64 0, .bool false])) w' := by
  subst h; exact ⟨a, 0, rfl, empty_rd _ _ _ _, hb⟩
set_option maxHeartbeats 1000000 in
set_option maxRecDepth 100000 in
theorem c_GetList (s : ByteArray) (at_ : Int) (w : World) (hs : s.size ≤ 1099511627776) :
    Calls Try.prog 20 #[.string s, .int .i64 at_] w (RetList (getListF s.data.toList at_) w) := by
  by_cases hin : inB at_ 0 s.size = true
  · obtain ⟨h0, h1⟩ := inB_iff.1 hin
    obtain ⟨q, rfl⟩ := Int.eq_ofNat_of_zero_le h0
    have hq : q ≤ s.size := by omega
    have HG := hid (getNumF_at (l := s.data.toList) (p := q) (by simpa using hq))
    have HF : Hid (getListF s.data.toList q = listRes (listF s.data.toList q)) := by unfold Hid getListF; rw [if_pos (by simpa using hin), Int.toNat_natCast]
    clear hin h0 h1
    cases hg : getF (s.data.toList.drop q) with
    | none =>
      have HF2 : Hid (getListF s.data.toList q = ([], 0, false)) := by unfold Hid; rw [HF.out]; unfold listF; rw [hg]; rfl
      have HG2 : Hid (getNumF s.data.toList q = (0, 0, false)) := by unfold Hid; rw [HG.out, hg]; rfl
      clear hg
      go_enter Try.func20, Try.ntmps20
      go_wp2_with (go_at_call 24; refine (c_GetNumber _ _ _ hs).mono ?_; rintro e w1 ⟨rfl, hb1⟩; rw [HG2.out])
      go_ret3
      exact retList_nil HF2.out hb1
    | some r =>
      obtain ⟨n, c⟩ := r
      have hcl := getF_ok hg
      rw [List.length_drop] at hcl
      have hcl2 : q + c ≤ s.size := by have h1 := hcl.1; simp at h1; omega
      have HG2 : Hid (getNumF s.data.toList q = (n, (q : Int) + c, true)) := by unfold Hid; rw [HG.out, hg]; rfl
      by_cases hn : inB n 0 100 = true
      · obtain ⟨h0, h1⟩ := inB_iff.1 hn
        obtain ⟨N, rfl⟩ := Int.eq_ofNat_of_zero_le h0
        have HF2 : Hid (listF s.data.toList q = getNs N s.data.toList (q + c)) := by unfold Hid listF; rw [hg]; simp only; rw [if_pos hn, Int.toNat_natCast]
        clear hg hcl
        go_enter Try.func20, Try.ntmps20
        go_wp2_with (first | (go_at_call 24; refine (c_GetNumber _ _ _ hs).mono ?_; rintro e w1 ⟨rfl, hb1⟩; rw [HG2.out]; have HB1 := hid hb1; clear hb1) | (go_at_call 81; refine (c_within _ _ _ _).mono ?_; rintro e w' ⟨rfl, rfl⟩))
        go_loopw [1, 7, 9] (fun at_ n v wr => ∃ (k p : Nat) (vs : List Int), k ≤ N ∧ at_ = .int .i64 p ∧ n = .int .i64 ((N : Int) - k) ∧ p ≤ s.size ∧ Hid (getNs k s.data.toList (q + c) = some (vs, p)) ∧ Hid (OwnSl cInt (fun _ => False) wr w.heap.size 2 v vs) ∧ Below w.heap.size w wr) (fun _ n _ _ => (intOf n).toNat)
        case atStart => exact ⟨0, q + c, [], Nat.zero_le _, by simp, by simp, hcl2, rfl, own_nil _ _ _ _ _, HB1.out⟩
        case round =>
          obtain ⟨k, p, vs, hk, rfl, rfl, hp, HN, HO, hbe⟩ := hrel
          have hsz := hbe.size
          by_cases hlt : k < N
          · have HG3 := hid (getNumF_at (l := s.data.toList) (p := p) (by simpa using hp))
            cases hg : getF (s.data.toList.drop p) with
            | none =>
              have HG4 : Hid (getNumF s.data.toList p = (0, 0, false)) := by unfold Hid; rw [HG3.out, hg]; rfl
              have HF3 : Hid (getListF s.data.toList q = ([], 0, false)) := by unfold Hid; rw [HF.out, HF2.out, getNs_stop HN.out hg hlt]; rfl
              clear hg
              go_wp2_with (go_at_call 24; refine (c_GetNumber _ _ _ hs).mono ?_; rintro e w2 ⟨rfl, hb2⟩; rw [HG4.out])
              go_ret3
              exact retList_nil HF3.out (bel_next hbe hsz hb2)
            | some r =>
              obtain ⟨z, d⟩ := r
              have HG4 : Hid (getNumF s.data.toList p = (z, (p : Int) + d, true)) := by unfold Hid; rw [HG3.out, hg]; rfl
              have hcl := getF_ok hg
              rw [List.length_drop] at hcl
              have hcl3 : p + d ≤ s.size := by have h1 := hcl.1; simp at h1; omega
              have hz : I64 z := ⟨by omega, by omega⟩
              have hvl : vs.length ≤ 100 := by rw [(getNs_len HN.out).1]; omega
              have HN2 := hid (getNs_next HN.out hg)
              clear hg hcl
              go_wp2_with (first | (go_at_call 24; refine (c_GetNumber _ _ _ hs).mono ?_; rintro e w2 ⟨rfl, hb2⟩; rw [HG4.out]; have HO2 := hid (own_below HO.out (Nat.le_refl _) hb2); have HB2 := hid (bel_next hbe hsz hb2); clear hb2) | (at_builtin; refine app_own (C := cInt) rfl (.tmp 40) (.tmp 42) _ rfl slI64 rfl rfl HO2.out no_blk z (rd_int hz) (by omega) HB2.out.size ?_; intro v3 w3 hO3 hb3; have HO3 := hid hO3; clear hO3))
              go_roundw
              case rel => exact ⟨k + 1, p + d, vs ++ [z], by omega, by go_num, by go_num, hcl3, HN2, HO3, HB2.out.trans hb3⟩
              case measure => simp [intOf]; omega
          · have hkN : k = N := by omega
            subst hkN
            have HF3 : Hid (getListF s.data.toList q = (vs, (p : Int), true)) := by unfold Hid; rw [HF.out, HF2.out, HN.out]; rfl
            go_wp2
            go_ret3
            exact retList_own HF3.out HO.out (fun _ h _ => h.elim) hbe
      · have hn' : inB n 0 100 = false := by simpa using hn
        have HF2 : Hid (getListF s.data.toList q = ([], 0, false)) := by unfold Hid; rw [HF.out]; unfold listF; rw [hg]; simp only; rw [if_neg hn]; rfl
        clear hn hg hcl
        go_enter Try.func20, Try.ntmps20
        go_wp2_with (first | (go_at_call 24; refine (c_GetNumber _ _ _ hs).mono ?_; rintro e w1 ⟨rfl, hb1⟩; rw [HG2.out]; have HB1 := hid hb1; clear hb1) | (go_at_call 81; refine (c_within _ _ _ _).mono ?_; rintro e w' ⟨rfl, rfl⟩))
        go_ret3
        exact retList_nil HF2.out HB1.out
  · have hin' : inB at_ 0 s.size = false := by simpa using hin
    have HF2 : Hid (getListF s.data.toList at_ = ([], 0, false)) := by unfold Hid getListF; rw [if_neg (by simpa using hin)]
    have HG2 : Hid (getNumF s.data.toList at_ = (0, 0, false)) := by unfold Hid getNumF; rw [if_neg (by simpa using hin)]
    clear hin
    go_enter Try.func20, Try.ntmps20
    go_wp2_with (go_at_call 24; refine (c_GetNumber _ _ _ hs).mono ?_; rintro e w1 ⟨rfl, hb1⟩; rw [HG2.out])
    go_ret3
    exact retList_nil HF2.out hb1
end Go.Proofs.Ytlipoonopajgdaa
