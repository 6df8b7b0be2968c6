/- Contracts: the instructions that can be reached. -/
import Derived.Test.YtedmhdinfedhhaaReach
import Derived.Test.YtedmhdinfedhhaaQueue
import Derived.Deep.LoopGhost
namespace Go.Proofs.Ytedmhdinfedhhaa
open Go.RowKit

theorem pow_len {out : List Bool} {work : List Int} {K : Nat} (h : msr out work ≤ K) : work.length ≤ K := by unfold msr at h; omega
def RetMark (bs : List Bool) (g0 : Nat) (w : World) (e : Ending) (w' : World) : Prop :=
  ∃ a cap, e = .returned (.slice a bs.length cap) ∧ SlRd cBool (Fresh w.heap.size w') w' a cap bs ∧ Below g0 w w'
set_option maxHeartbeats 1000000 in
set_option maxRecDepth 100000 in
theorem c_reached {S : Nat → Prop} {a : Option Addr} {p : Nat} {code : List Instr} {g0 : Nat} {w : World} (h : SlRd cInstr S w a p code) (hS : ∀ b, S b → b < g0) (hv : validCode code = true) (hg0 : g0 < w.heap.size)
    (hq : OwnQ w (fun b => b = g0 ∨ w.heap.size < b) (.slice (some ⟨g0, 0, none⟩) 1 1) [0]) :
    Calls Try.prog 64 #[.slice a code.length p, .slice (some ⟨g0, 0, none⟩) 1 1] w (RetMark (reachB code) g0 w) := by
  obtain ⟨hx1, hx80, hvx⟩ := validCode_iff hv
  have H := hid (h.keep (S' := fun b => S b ∧ b < g0) (w' := w) (fun b hb hl => ⟨⟨hb, hS b hb⟩, rfl⟩))
  have HV := hid hvx
  have HI0 := hid (RInv.begin code)
  have HQ0 := hid hq
  have hn6 : code.length ≤ 1000000 := by omega
  have hm0 : msr (List.replicate code.length false) [0] ≤ 3 * code.length + 1 := by unfold msr; simp
  clear h hv hvx hq hS
  go_enter Try.func64, Try.ntmps64
  go_wp2_with (at_make; go_loud (refine wpList_mk rfl (.tmp 8) (.tmp 8) _ rfl rfl rfl (own_mk slBool (C := cBool) (base := w.heap.size) (fun _ => False) code.length (by omega) (Nat.le_refl _) false (fun _ _ => rfl) _ _) ?_); rintro w2 ⟨hown, hg⟩; have HO2 := hid hown; have HB2 := hid ((Below.refl w.heap.size w).grown hg (Nat.le_refl _) (by simp)); clear hown hg)
  have gb : w.heap.size < w2.heap.size := (own_lt HO2.out w.heap.size rfl).2
  have HX2 := hid (H.out.below (Nat.le_refl _) HB2.out)
  have HQ2 := hid (ownQ_below HQ0.out (Nat.le_refl _) HB2.out)
  go_loopg [1] (3 * code.length + 1) (fun K v wr => ∃ (out : List Bool) (work : List Int), msr out work ≤ K ∧ K ≤ 241 ∧ Hid (RInv code out work) ∧ Hid (OwnQ wr (fun b => b = g0 ∨ w.heap.size < b) v work) ∧ Hid (OwnSl cBool (fun _ => False) wr w.heap.size 4 (.slice (some ⟨w.heap.size, 0, none⟩) code.length code.length) out) ∧ Hid (SlRd cInstr (fun b => S b ∧ b < g0) wr a p code) ∧ Hid (Below g0 w wr) ∧ w.heap.size < wr.heap.size ∧ Hid (∀ x ∈ work, (0 : Int) ≤ x))
  case atStart => exact ⟨_, _, hm0, by omega, HI0, HQ2, HO2, HX2, HB2.out.mono (by omega), gb, fun x hx => by simp at hx; omega⟩
  case round =>
    obtain ⟨out, work, hms, hK, HI, HQ, HO, HX, HB, hg, HT0⟩ := hrel
    have HOL := hid HI.out.len
    rcases List.eq_nil_or_concat work with rfl | ⟨init, t, rfl⟩
    · obtain ⟨g, off, cap, cur, e, rfl, _⟩ := HQ.out
      have HR : Hid (out = reachB code) := reachB_of (by omega) HI.out
      go_wp2
      go_ret
      rw [← HR.out]
      obtain ⟨a3, p3, he, hs3⟩ := own_rd (own_keep (S' := Fresh w.heap.size wr) HO.out (fun _ h => h.elim) fun _ _ _ => rfl) (Nat.le_refl _)
      exact ⟨a3, p3, by rw [← he]; rfl, hs3, HB.out⟩
    · rw [List.concat_eq_append] at *
      obtain ⟨g, off, cap, rfl, hc, ht64, hcap1, hcap2, hQ'⟩ := ownQ_last HQ.out
      have HQ1 := hid hQ'
      have hw1 := pow_len hms
      simp only [List.length_append, List.length_singleton] at hw1
      have HIC : Hid (RInv code out (t :: init)) := HI.out.same fun x => by simp [or_comm]
      have e1 : decide ((0 : Int) < (init.length : Int) + 1) = true := decide_eq_true (by omega)
      have x1 : IntKind.i64.wrap ((init.length : Int) + 1 - 1) = (init.length : Int) := by rw [wrap_in _ (by omega) (by omega)]; omega
      have ht0 : 0 ≤ t := HT0.out t (by simp)
      have HTR : Hid (∀ x ∈ init, (0 : Int) ≤ x) := fun x hx => HT0.out x (List.mem_append_left _ hx)
      have hmE : msr out (init ++ [t]) = msr out (t :: init) := by unfold msr; simp
      rw [hmE] at hms
      clear hQ' hmE
      obtain ⟨I, hI⟩ : ∃ I, inB t 0 ((code.length : Int) - 1) = I := ⟨_, rfl⟩
      have HIN := hid hI
      cases I
      · have hnot : ¬ (0 ≤ t ∧ t < (code.length : Int)) := fun h => by
          have : inB t 0 ((code.length : Int) - 1) = true := inB_iff.2 (by omega)
          rw [hI] at this; cases this
        have HN : Hid (RInv code out init) := HIC.out.skip (.inl hnot) (by omega)
        have hmN : msr out init < msr out (t :: init) := by unfold msr; simp
        clear hI
        go_wp2_with (go_at_call 117; refine (c_isIndex _ _ _ hn6).mono ?_; rintro e w2 ⟨rfl, rfl⟩; rw [HIN.out])
        go_roundg (msr out init)
        case measure => omega
        case rel => exact ⟨_, _, Nat.le_refl _, by omega, HN, HQ1, HO, HX, HB, hg, HTR⟩
      · obtain ⟨_, hlt⟩ := inB_iff.1 hI
        obtain ⟨k, rfl⟩ := Int.eq_ofNat_of_zero_le ht0
        have hkn : k < code.length := by omega
        obtain ⟨z, hz, hck, hfk, hgl, _⟩ := own_at_bool HO.out HOL.out k hkn
        have i0 : (0 : Int) ≤ (k : Int) := by omega
        have i1 : (k : Int) < (code.length : Int) := by omega
        have HZ := hid hz
        clear hz hI hlt
        cases z
        · have hset := own_set_bool HO.out HOL.out k hkn true
          have HOS := hid hset.1
          have HBS := hid (HB.out.setCell (p := ⟨w.heap.size, k, none⟩) (by show g0 ≤ w.heap.size; omega) (.bool true))
          have HXS := hid (HX.out.set_ne (p := ⟨w.heap.size, k, none⟩) (fun b hb => by have h9 := hb.2; show b ≠ w.heap.size; omega) (.bool true))
          have HQS := hid (ownQ_keep (w' := wr.setCell ⟨w.heap.size, k, none⟩ (.bool true)) HQ1.out fun b hb _ => heap_setCell_ne _ _ _ (by show b ≠ w.heap.size; omega))
          have HN : Hid (RInv code (out.set k true) (init ++ targF code k)) := HIC.out.push hkn
          have hmN := msr_push (code := code) (work := init) HZ.out
          have hTL := targF_len code k
          have HTN : Hid (∀ x ∈ init ++ targF code k, (0 : Int) ≤ x) := fun x hx => by
            rcases List.mem_append.1 hx with g | g
            · exact HTR.out x g
            · exact (targF_nonneg HV.out g).1
          have hgs : w.heap.size < (wr.setCell ⟨w.heap.size, k, none⟩ (.bool true)).heap.size := by rw [size_set]; exact hg
          have HM := hid (And.intro hmN hTL)
          clear hset hmN hTL
          go_wp2_with (first | (go_at_call 117; refine (c_isIndex _ _ _ hn6).mono ?_; rintro e w2 ⟨rfl, rfl⟩; rw [HIN.out]) | (go_at_call 119; refine (c_targets HXS.out hkn hx80).mono ?_; rintro r w4 ⟨a4, p4, rfl, hs4, hb4⟩; have HS4 := hid hs4; have HQ4 := hid (ownQ_below HQS.out (Nat.le_refl _) hb4); have HO4 := hid (own_below HOS.out (Nat.le_refl _) hb4); have HX4 := hid (HXS.out.below (Nat.le_refl _) hb4); have HB4 := hid (bel_next HBS.out (by rw [size_set]; omega) hb4); have hg4 := Nat.lt_of_lt_of_le hgs hb4.size; clear hs4 hb4) | (at_builtin; refine app_q rfl (.tmp 38) (.tmp 41) _ rfl slI64 rfl rfl HQ4.out HS4.out (by have h9 := HM.out.2; omega) (fun b hb => .inr (by omega)) ?_; intro v5 w5 hQ5 hb5; have HQ5 := hid hQ5; have HO5 := hid (own_keep (w' := w5) HO4.out (fun _ h _ => h) fun b hl hs => hb5.block b hl (by rcases hs with hs | hs; exact hs.elim; have h7 : b = w.heap.size := (Option.some.inj hs); omega)); have HX5 := hid (HX4.out.keep (w' := w5) fun b hb hl => ⟨hb, hb5.block b hl (by have := hb.2; omega)⟩); have HB5 := hid (HB4.out.trans (hb5.below (fun b h => by omega) (by omega))); have hg5 := Nat.lt_of_lt_of_le hg4 hb5.size; clear hQ5 hb5))
          go_roundg (msr (out.set k true) (init ++ targF code k))
          case measure => have h9 := HM.out.1; omega
          case rel => exact ⟨_, _, Nat.le_refl _, by have h9 := HM.out.1; omega, HN, HQ5, HO5, HX5, HB5, hg5, HTN⟩
        · have HN : Hid (RInv code out init) := HIC.out.skip (.inr ⟨by rw [Int.toNat_natCast]; exact HZ.out, i0⟩) (by omega)
          have hmN : msr out init < msr out ((k : Int) :: init) := by unfold msr; simp
          go_wp2_with (go_at_call 117; refine (c_isIndex _ _ _ hn6).mono ?_; rintro e w2 ⟨rfl, rfl⟩; rw [HIN.out])
          go_roundg (msr out init)
          case measure => omega
          case rel => exact ⟨_, _, Nat.le_refl _, by omega, HN, HQ1, HO, HX, HB, hg, HTR⟩
end Go.Proofs.Ytedmhdinfedhhaa
