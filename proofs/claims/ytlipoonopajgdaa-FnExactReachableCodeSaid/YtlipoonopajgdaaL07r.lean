/- Contracts: the instructions that can be reached. -/
import Derived.Test.YtlipoonopajgdaaReach
import Derived.Test.YtlipoonopajgdaaQueue
import Derived.Deep.LoopGhost
namespace Go.Proofs.Ytlipoonopajgdaa
open Go.RowKit

theorem pow_len {out : List Bool} {work : List Int} {K : Nat} (h : msr out work ≤ K) : work.length ≤ K := by unfold msr at h; omega
set_option maxHeartbeats 1000000 in
set_option maxRecDepth 100000 in
theorem c_l07Reached {S : Nat → Prop} {a : Option Addr} {p : Nat} {code : List Instr} {w : World} (h : SlRd cInstr S w a p code) (hv : validCode code = true) :
    Calls Try.prog 123 #[.slice a code.length p] w (RetSl cBool (reachB code) w) := by
  obtain ⟨hx1, hx80, hvx⟩ := validCode_iff hv
  have H := hid (h.keep (S' := fun b => S b ∧ b < w.heap.size) (w' := w) (fun b hb hl => ⟨⟨hb, hl⟩, rfl⟩))
  have HV := hid hvx
  have HI0 := hid (RInv.begin code)
  have hm0 : msr (List.replicate code.length false) [0] ≤ 3 * code.length + 1 := by unfold msr; simp
  clear h hv hvx
  go_enter Try.func123, Try.ntmps123
  go_wp2_with (at_make; go_loud (refine wpList_mk rfl (.tmp 7) (.tmp 7) _ rfl rfl rfl (own_mk slBool (C := cBool) (base := w.heap.size) (fun _ => False) code.length (by omega) (Nat.le_refl _) false (fun _ _ => rfl) _ _) ?_); rintro w2 ⟨hown, hg⟩; have HO2 := hid hown; have HB2 := hid ((Below.refl w.heap.size w).grown hg (Nat.le_refl _) (by simp)); have HX2 := hid (H.out.grown hg (by simp)); clear hown hg)
  have gb : w.heap.size < w2.heap.size := (own_lt HO2.out w.heap.size rfl).2
  have HQ3 : Hid (OwnQ (w2.alloc (.cells #[.int .i64 0] 2)) (fun b => w.heap.size + 1 ≤ b) (.slice (some ⟨w2.heap.size, 0, none⟩) 1 1) [0]) := ownQ_lit gb ⟨by omega, by omega⟩
  have HO3 := hid (own_alloc HO2.out (.cells #[.int .i64 0] 2))
  have HB3 := hid (HB2.out.alloc HB2.out.size (.cells #[.int .i64 0] 2))
  have HX3 := hid (HX2.out.alloc (.cells #[.int .i64 0] 2))
  have gb3 : w.heap.size < (w2.alloc (.cells #[.int .i64 0] 2)).heap.size := by simp; omega
  generalize w2.alloc (.cells #[.int .i64 0] 2) = w3 at *
  go_loopg [4] (3 * code.length + 1) (fun K v wr => ∃ (out : List Bool) (work : List Int), msr out work ≤ K ∧ K ≤ 241 ∧ Hid (RInv code out work) ∧ Hid (OwnQ wr (fun b => w.heap.size + 1 ≤ b) v work) ∧ Hid (OwnSl cBool (fun _ => False) wr w.heap.size 4 (.slice (some ⟨w.heap.size, 0, none⟩) code.length code.length) out) ∧ Hid (SlRd cInstr (fun b => S b ∧ b < w.heap.size) wr a p code) ∧ Hid (Below w.heap.size w wr) ∧ w.heap.size < wr.heap.size ∧ Hid (∀ x ∈ work, (0 : Int) ≤ x))
  case atStart => exact ⟨_, _, hm0, by omega, HI0, HQ3, HO3, HX3, HB3, gb3, fun x hx => by simp at hx; omega⟩
  case round =>
    obtain ⟨out, work, hms, hK, HI, HQ, HO, HX, HB, hg, HT0⟩ := hrel
    have hol := HI.out.len
    have HOL := hid hol
    cases work with
    | nil =>
      obtain ⟨g, off, cap, cur, e, rfl, _⟩ := HQ.out
      have HR : Hid (out = reachB code) := reachB_of (by omega) HI.out
      clear hol
      go_wp2
      go_ret
      rw [← HR.out]
      obtain ⟨a3, p3, he, hs3⟩ := own_rd (own_keep (S' := Fresh w.heap.size wr) HO.out (fun _ h => h.elim) fun _ _ _ => rfl) (Nat.le_refl _)
      exact ⟨a3, p3, by rw [← he]; rfl, hs3, HB.out⟩
    | cons t rest =>
      obtain ⟨g, off, off', cap, rfl, hc, ht64, hcap1, hcap2, hQ', hoff⟩ := ownQ_head HQ.out
      have HQ1 := hid hQ'
      have hw1 := pow_len hms
      simp only [List.length_cons] at hw1
      have e1 : decide ((0 : Int) < (rest.length : Int) + 1) = true := decide_eq_true (by omega)
      have ht0 : 0 ≤ t := HT0.out t (by simp)
      have HTR : Hid (∀ x ∈ rest, (0 : Int) ≤ x) := fun x hx => HT0.out x (List.mem_cons_of_mem _ hx)
      have hr1 : cap = 1 → rest = [] := fun h => List.eq_nil_of_length_eq_zero (by omega)
      clear hQ' hol
      by_cases hlt : t < (code.length : Int)
      · obtain ⟨k, rfl⟩ := Int.eq_ofNat_of_zero_le ht0
        have hkn : k < code.length := by omega
        obtain ⟨z, hz, hck, hfk, hgl, _⟩ := own_at_bool HO.out HOL.out k hkn
        have e2 : decide ((code.length : Int) ≤ (k : Int)) = false := decide_eq_false (by omega)
        have i0 : (0 : Int) ≤ (k : Int) := by omega
        have HZ := hid hz
        clear hz
        cases z
        · have hset := own_set_bool HO.out HOL.out k hkn true
          have HOS := hid hset.1
          have HBS := hid (HB.out.setCell (p := ⟨w.heap.size, k, none⟩) (Nat.le_refl _) (.bool true))
          have HXS := hid (HX.out.set_ne (p := ⟨w.heap.size, k, none⟩) (fun b hb => by have h9 := hb.2; show b ≠ w.heap.size; omega) (.bool true))
          have HQS := hid (ownQ_keep (w' := wr.setCell ⟨w.heap.size, k, none⟩ (.bool true)) HQ1.out fun b hb _ => heap_setCell_ne _ _ _ (by show b ≠ w.heap.size; omega))
          have HIN : Hid (RInv code (out.set k true) (rest ++ targF code k)) := HI.out.push hkn
          have hmN := msr_push (code := code) (work := rest) HZ.out
          have hTL := targF_len code k
          have HTN : Hid (∀ x ∈ rest ++ targF code k, (0 : Int) ≤ x) := fun x hx => by
            rcases List.mem_append.1 hx with g | g
            · exact HTR.out x g
            · exact (targF_nonneg HV.out g).1
          have hgs : w.heap.size < (wr.setCell ⟨w.heap.size, k, none⟩ (.bool true)).heap.size := by rw [size_set]; exact hg
          obtain ⟨M, hM⟩ : ∃ M, msr (out.set k true) (rest ++ targF code k) = M := ⟨_, rfl⟩
          have HME := hid (Nat.le_of_eq hM)
          rw [hM] at hmN
          have HM := hid (And.intro hmN hTL)
          clear hM
          clear hset hmN hTL
          rcases hoff with ⟨hc1, rfl⟩ | ⟨hcn, rfl⟩
          any_goals
            have hr2 := hr1 hc1
            subst hc1
            subst hr2
          all_goals
            go_wp2_with (first | (go_at_call 119; refine (c_l07Targets HXS.out hkn hx80).mono ?_; rintro r w4 ⟨a4, p4, rfl, hs4, hb4⟩; have HS4 := hid hs4; have HQ4 := hid (ownQ_below HQS.out (Nat.le_refl _) hb4); have HO4 := hid (own_below HOS.out (Nat.le_refl _) hb4); have HX4 := hid (HXS.out.below (Nat.le_refl _) hb4); have HB4 := hid (bel_next HBS.out HBS.out.size hb4); have hg4 := Nat.lt_of_lt_of_le hgs hb4.size; clear hs4 hb4) | (at_builtin; refine app_q rfl (.tmp 31) (.tmp 34) _ rfl slI64 rfl rfl HQ4.out HS4.out (by have h9 := HM.out.2; omega) (fun b hb => by omega) ?_; intro v5 w5 hQ5 hb6; have hb5 := hb6.below (B := w.heap.size + 1) (fun _ h => h) (by omega); clear hb6; have HQ5 := hid hQ5; have HO5 := hid (own_keep (w' := w5) HO4.out (fun _ h _ => h) fun b hl hs => hb5.block b (by rcases hs with hs | hs; exact hs.elim; have h7 : b = w.heap.size := (Option.some.inj hs); omega)); have HX5 := hid (HX4.out.keep (w' := w5) fun b hb hl => ⟨hb, hb5.block b (by have := hb.2; omega)⟩); have HB5 := hid (HB4.out.trans (hb5.mono (by omega))); have hg5 := Nat.lt_of_lt_of_le hg4 hb5.size; clear hQ5 hb5))
            go_roundg M
            case measure => have h9 := HM.out.1; omega
            case rel => exact ⟨_, _, HME.out, by have h9 := HM.out.1; omega, HIN, HQ5, HO5, HX5, HB5, hg5, HTN⟩
        · have HIN : Hid (RInv code out rest) := HI.out.skip (.inr ⟨by rw [Int.toNat_natCast]; exact HZ.out, i0⟩) (by omega)
          have hmN : msr out rest < msr out ((k : Int) :: rest) := by unfold msr; simp
          obtain ⟨M, hM⟩ : ∃ M, msr out rest = M := ⟨_, rfl⟩
          have HME := hid (Nat.le_of_eq hM)
          rw [hM] at hmN
          clear hM
          rcases hoff with ⟨hc1, rfl⟩ | ⟨hcn, rfl⟩
          any_goals
            have hr2 := hr1 hc1
            subst hc1
            subst hr2
          all_goals
            go_wp2
            go_roundg M
            case measure => omega
            case rel => exact ⟨_, _, HME.out, by omega, HIN, HQ1, HO, HX, HB, hg, HTR⟩
      · have e2 : decide ((code.length : Int) ≤ t) = true := decide_eq_true (by omega)
        have HIN : Hid (RInv code out rest) := HI.out.skip (.inl (by omega)) (by omega)
        have hmN : msr out rest < msr out (t :: rest) := by unfold msr; simp
        obtain ⟨M, hM⟩ : ∃ M, msr out rest = M := ⟨_, rfl⟩
        have HME := hid (Nat.le_of_eq hM)
        rw [hM] at hmN
        clear hM
        rcases hoff with ⟨hc1, rfl⟩ | ⟨hcn, rfl⟩
        any_goals
          have hr2 := hr1 hc1
          subst hc1
          subst hr2
        all_goals
          go_wp2
          go_roundg M
          case measure => omega
          case rel => exact ⟨_, _, HME.out, by omega, HIN, HQ1, HO, HX, HB, hg, HTR⟩
set_option maxRecDepth 100000 in
theorem c_sReachableCode {S : Nat → Prop} {a : Option Addr} {p : Nat} {code : List Instr} {w : World} (h : SlRd cInstr S w a p code) :
    Calls Try.prog 64 #[.slice a code.length p] w (RetSlB cInt (reachF code).1 (reachF code).2 w) := by
  have H := hid h
  clear h
  obtain ⟨r, hr⟩ : ∃ r, validCode code = r := ⟨_, rfl⟩
  have HR := hid hr
  cases r
  · have HF : Hid (reachF code = ([], false)) := by unfold Hid reachF; rw [hr]; rfl
    clear hr
    go_enter Try.func64, Try.ntmps64
    go_wp2_with (go_at_call 118; refine (c_l07Is _ _ _ _ H.out).mono ?_; rintro e w1 ⟨rfl, hb1⟩; rw [HR.out]; have HB1 := hid hb1; clear hb1)
    go_ret2
    rw [HF.out]
    exact ⟨none, 0, rfl, nil_rd _ _ _, HB1.out⟩
  · have HF : Hid (reachF code = (idxL (reachB code), true)) := by unfold Hid reachF; rw [hr]; rfl
    obtain ⟨hx1, hx80, _⟩ := validCode_iff hr
    obtain ⟨bs, hbs⟩ : ∃ bs, reachB code = bs := ⟨_, rfl⟩
    have hbl : bs.length ≤ 80 := by rw [← hbs, (reachB_inv (by omega)).len]; exact hx80
    rw [hbs] at HF
    have HBS := hid hbs
    clear hr hbs
    go_enter Try.func64, Try.ntmps64
    go_wp2_with fail
    refine (c_l07Is _ _ _ _ H.out).mono ?_
    rintro e w1 ⟨rfl, hb1⟩
    rw [HR.out]
    have HB1 := hid hb1
    have H1 := hid (H.out.below (Nat.le_refl _) hb1)
    clear hb1
    go_wp2_with fail
    refine (c_l07Reached H1.out HR.out).mono ?_
    rw [HBS.out]
    rintro e w2 ⟨a2, p2, rfl, hs2, hb2⟩
    obtain ⟨B, hB⟩ : ∃ B, B = w2.heap.size := ⟨_, rfl⟩
    have hwB : w.heap.size ≤ B := by rw [hB]; exact Nat.le_trans HB1.out.size hb2.size
    have HS2 := hid ((hs2.keep (S' := fun b => b < B) (w' := w2) fun b _ hl => ⟨by rw [hB]; exact hl, rfl⟩).alloc (.cells #[] 2))
    have HB2 := hid ((bel_next HB1.out HB1.out.size hb2).alloc (Nat.le_trans HB1.out.size hb2.size) (.cells #[] 2))
    have HO2 : Hid (OwnSl cInt (fun _ => False) (w2.alloc (.cells #[] 2)) B 2 (.slice (some ⟨w2.heap.size, 0, none⟩) 0 0) []) := own_made _ _ _ _ _ (by omega)
    have hB3 : B ≤ (w2.alloc (.cells #[] 2)).heap.size := by simp; omega
    clear hs2 hb2 hB
    go_wp2
    generalize w2.alloc (.cells #[] 2) = w3 at *
    go_loopw [5, 6] (fun v i wr => ∃ k : Nat, k ≤ bs.length ∧ i = .int .i64 k ∧ Hid (OwnSl cInt (fun _ => False) wr B 2 v (idxK bs k)) ∧ Hid (Below B w3 wr) ∧ B ≤ wr.heap.size) (fun _ i _ => bs.length - (intOf i).toNat)
    case atStart => exact ⟨0, Nat.zero_le _, rfl, HO2, Below.refl _ _, hB3⟩
    case round =>
      obtain ⟨k, hk, rfl, HO, HBl, hsz⟩ := hrel
      have hlen := idxK_len bs k
      have HSr := hid (HS2.out.keep (S' := fun b => b < B) (w' := wr) fun b hb _ => ⟨hb, HBl.out.block b hb⟩)
      by_cases hlt : k < bs.length
      · obtain ⟨b, off, rfl⟩ := HSr.out.some_of hlt
        obtain ⟨z, hz, hc, hb⟩ := HSr.out.bool_at k hlt
        have HK := hid (idxK_succ hz)
        have i0 : (0 : Int) ≤ (k : Int) := by omega
        have i1 : (k : Int) < (bs.length : Int) := by omega
        clear hz
        cases z
        · go_wp2
          go_roundw
          case rel => exact ⟨k + 1, by omega, by go_num, by rw [HK.out]; simpa using HO, HBl, hsz⟩
          case measure => simp [intOf]; omega
        · go_wp2_with (at_builtin; refine app_own (C := cInt) rfl (.tmp 23) (.tmp 25) _ rfl slI64 rfl rfl HO.out no_blk k (rd_int ⟨by omega, by omega⟩) (by omega) hsz ?_; intro v3 w4 hO3 hb3; have HO3 := hid hO3; have HB3 := hid (HBl.out.trans hb3); have hsz3 := Nat.le_trans hsz hb3.size; clear hO3 hb3)
          go_roundw
          case rel => exact ⟨k + 1, by omega, by go_num, by rw [HK.out]; exact HO3, HB3, hsz3⟩
          case measure => simp [intOf]; omega
      · have hke : k = bs.length := by omega
        subst hke
        go_wp2
        go_ret2
        rw [HF.out]
        obtain ⟨a3, p3, rfl, hs3⟩ := own_rd (own_keep (S' := Fresh w.heap.size wr) (own_base HO.out hwB) (fun _ h => h.elim) fun _ _ _ => rfl) (Nat.le_refl _)
        exact ⟨a3, p3, rfl, hs3, HB2.out.trans (HBl.out.mono hwB)⟩
def RetMark (bs : List Bool) (g0 : Nat) (w : World) (e : Ending) (w' : World) : Prop :=
  ∃ a cap, e = .returned (.slice a bs.length cap) ∧ SlRd cBool (Fresh w.heap.size w') w' a cap bs ∧ Below g0 w w'
set_option maxHeartbeats 1000000 in
set_option maxRecDepth 100000 in
theorem c_reached {S : Nat → Prop} {a : Option Addr} {p : Nat} {code : List Instr} {g0 : Nat} {w : World} (h : SlRd cInstr S w a p code) (hS : ∀ b, S b → b < g0) (hv : validCode code = true) (hg0 : g0 < w.heap.size)
    (hq : OwnQ w (fun b => b = g0 ∨ w.heap.size < b) (.slice (some ⟨g0, 0, none⟩) 1 1) [0]) :
    Calls Try.prog 125 #[.slice a code.length p, .slice (some ⟨g0, 0, none⟩) 1 1] w (RetMark (reachB code) g0 w) := by
  obtain ⟨hx1, hx80, hvx⟩ := validCode_iff hv
  have H := hid (h.keep (S' := fun b => S b ∧ b < g0) (w' := w) (fun b hb hl => ⟨⟨hb, hS b hb⟩, rfl⟩))
  have HV := hid hvx
  have HI0 := hid (RInv.begin code)
  have HQ0 := hid hq
  have hn6 : code.length ≤ 1000000 := by omega
  have hm0 : msr (List.replicate code.length false) [0] ≤ 3 * code.length + 1 := by unfold msr; simp
  clear h hv hvx hq hS
  go_enter Try.func125, Try.ntmps125
  go_wp2_with (at_make; go_loud (refine wpList_mk rfl (.tmp 8) (.tmp 8) _ rfl rfl rfl (own_mk slBool (C := cBool) (base := w.heap.size) (fun _ => False) code.length (by omega) (Nat.le_refl _) false (fun _ _ => rfl) _ _) ?_); rintro w2 ⟨hown, hg⟩; have HO2 := hid hown; have HB2 := hid ((Below.refl w.heap.size w).grown hg (Nat.le_refl _) (by simp)); clear hown hg)
  have gb : w.heap.size < w2.heap.size := (own_lt HO2.out w.heap.size rfl).2
  have HX2 := hid (H.out.below (Nat.le_refl _) HB2.out)
  have HQ2 := hid (ownQ_below HQ0.out (Nat.le_refl _) HB2.out)
  go_loopg [1] (3 * code.length + 1) (fun K v wr => ∃ (out : List Bool) (work : List Int), msr out work ≤ K ∧ K ≤ 241 ∧ Hid (RInv code out work) ∧ Hid (OwnQ wr (fun b => b = g0 ∨ w.heap.size < b) v work) ∧ Hid (OwnSl cBool (fun _ => False) wr w.heap.size 4 (.slice (some ⟨w.heap.size, 0, none⟩) code.length code.length) out) ∧ Hid (SlRd cInstr (fun b => S b ∧ b < g0) wr a p code) ∧ Hid (Below g0 w wr) ∧ w.heap.size < wr.heap.size ∧ Hid (∀ x ∈ work, (0 : Int) ≤ x))
  case atStart => exact ⟨_, _, hm0, by omega, HI0, HQ2, HO2, HX2, HB2.out.mono (by omega), gb, fun x hx => by simp at hx; omega⟩
  case round =>
    obtain ⟨out, work, hms, hK, HI, HQ, HO, HX, HB, hg, HT0⟩ := hrel
    have HOL := hid HI.out.len
    rcases List.eq_nil_or_concat work with rfl | ⟨init, t, rfl⟩
    · obtain ⟨g, off, cap, cur, e, rfl, _⟩ := HQ.out
      have HR : Hid (out = reachB code) := reachB_of (by omega) HI.out
      go_wp2
      go_ret
      rw [← HR.out]
      obtain ⟨a3, p3, he, hs3⟩ := own_rd (own_keep (S' := Fresh w.heap.size wr) HO.out (fun _ h => h.elim) fun _ _ _ => rfl) (Nat.le_refl _)
      exact ⟨a3, p3, by rw [← he]; rfl, hs3, HB.out⟩
    · rw [List.concat_eq_append] at *
      obtain ⟨g, off, cap, rfl, hc, ht64, hcap1, hcap2, hQ'⟩ := ownQ_last HQ.out
      have HQ1 := hid hQ'
      have hw1 := pow_len hms
      simp only [List.length_append, List.length_singleton] at hw1
      have HIC : Hid (RInv code out (t :: init)) := HI.out.same fun x => by simp [or_comm]
      have e1 : decide ((0 : Int) < (init.length : Int) + 1) = true := decide_eq_true (by omega)
      have x1 : IntKind.i64.wrap ((init.length : Int) + 1 - 1) = (init.length : Int) := by rw [wrap_in _ (by omega) (by omega)]; omega
      have ht0 : 0 ≤ t := HT0.out t (by simp)
      have HTR : Hid (∀ x ∈ init, (0 : Int) ≤ x) := fun x hx => HT0.out x (List.mem_append_left _ hx)
      have hmE : msr out (init ++ [t]) = msr out (t :: init) := by unfold msr; simp
      rw [hmE] at hms
      clear hQ' hmE
      obtain ⟨I, hI⟩ : ∃ I, inB t 0 ((code.length : Int) - 1) = I := ⟨_, rfl⟩
      have HIN := hid hI
      cases I
      · have hnot : ¬ (0 ≤ t ∧ t < (code.length : Int)) := fun h => by
          have : inB t 0 ((code.length : Int) - 1) = true := inB_iff.2 (by omega)
          rw [hI] at this; cases this
        have HN : Hid (RInv code out init) := HIC.out.skip (.inl hnot) (by omega)
        have hmN : msr out init < msr out (t :: init) := by unfold msr; simp
        clear hI
        go_wp2_with (go_at_call 95; refine (c_isIndex _ _ _ hn6).mono ?_; rintro e w2 ⟨rfl, rfl⟩; rw [HIN.out])
        go_roundg (msr out init)
        case measure => omega
        case rel => exact ⟨_, _, Nat.le_refl _, by omega, HN, HQ1, HO, HX, HB, hg, HTR⟩
      · obtain ⟨_, hlt⟩ := inB_iff.1 hI
        obtain ⟨k, rfl⟩ := Int.eq_ofNat_of_zero_le ht0
        have hkn : k < code.length := by omega
        obtain ⟨z, hz, hck, hfk, hgl, _⟩ := own_at_bool HO.out HOL.out k hkn
        have i0 : (0 : Int) ≤ (k : Int) := by omega
        have i1 : (k : Int) < (code.length : Int) := by omega
        have HZ := hid hz
        clear hz hI hlt
        cases z
        · have hset := own_set_bool HO.out HOL.out k hkn true
          have HOS := hid hset.1
          have HBS := hid (HB.out.setCell (p := ⟨w.heap.size, k, none⟩) (by show g0 ≤ w.heap.size; omega) (.bool true))
          have HXS := hid (HX.out.set_ne (p := ⟨w.heap.size, k, none⟩) (fun b hb => by have h9 := hb.2; show b ≠ w.heap.size; omega) (.bool true))
          have HQS := hid (ownQ_keep (w' := wr.setCell ⟨w.heap.size, k, none⟩ (.bool true)) HQ1.out fun b hb _ => heap_setCell_ne _ _ _ (by show b ≠ w.heap.size; omega))
          have HN : Hid (RInv code (out.set k true) (init ++ targF code k)) := HIC.out.push hkn
          have hmN := msr_push (code := code) (work := init) HZ.out
          have hTL := targF_len code k
          have HTN : Hid (∀ x ∈ init ++ targF code k, (0 : Int) ≤ x) := fun x hx => by
            rcases List.mem_append.1 hx with g | g
            · exact HTR.out x g
            · exact (targF_nonneg HV.out g).1
          have hgs : w.heap.size < (wr.setCell ⟨w.heap.size, k, none⟩ (.bool true)).heap.size := by rw [size_set]; exact hg
          have HM := hid (And.intro hmN hTL)
          clear hset hmN hTL
          go_wp2_with (first | (go_at_call 95; refine (c_isIndex _ _ _ hn6).mono ?_; rintro e w2 ⟨rfl, rfl⟩; rw [HIN.out]) | (go_at_call 121; refine (c_targets HXS.out hkn hx80).mono ?_; rintro r w4 ⟨a4, p4, rfl, hs4, hb4⟩; have HS4 := hid hs4; have HQ4 := hid (ownQ_below HQS.out (Nat.le_refl _) hb4); have HO4 := hid (own_below HOS.out (Nat.le_refl _) hb4); have HX4 := hid (HXS.out.below (Nat.le_refl _) hb4); have HB4 := hid (bel_next HBS.out (by rw [size_set]; omega) hb4); have hg4 := Nat.lt_of_lt_of_le hgs hb4.size; clear hs4 hb4) | (at_builtin; refine app_q rfl (.tmp 38) (.tmp 41) _ rfl slI64 rfl rfl HQ4.out HS4.out (by have h9 := HM.out.2; omega) (fun b hb => .inr (by omega)) ?_; intro v5 w5 hQ5 hb5; have HQ5 := hid hQ5; have HO5 := hid (own_keep (w' := w5) HO4.out (fun _ h _ => h) fun b hl hs => hb5.block b hl (by rcases hs with hs | hs; exact hs.elim; have h7 : b = w.heap.size := (Option.some.inj hs); omega)); have HX5 := hid (HX4.out.keep (w' := w5) fun b hb hl => ⟨hb, hb5.block b hl (by have := hb.2; omega)⟩); have HB5 := hid (HB4.out.trans (hb5.below (fun b h => by omega) (by omega))); have hg5 := Nat.lt_of_lt_of_le hg4 hb5.size; clear hQ5 hb5))
          go_roundg (msr (out.set k true) (init ++ targF code k))
          case measure => have h9 := HM.out.1; omega
          case rel => exact ⟨_, _, Nat.le_refl _, by have h9 := HM.out.1; omega, HN, HQ5, HO5, HX5, HB5, hg5, HTN⟩
        · have HN : Hid (RInv code out init) := HIC.out.skip (.inr ⟨by rw [Int.toNat_natCast]; exact HZ.out, i0⟩) (by omega)
          have hmN : msr out init < msr out ((k : Int) :: init) := by unfold msr; simp
          go_wp2_with (go_at_call 95; refine (c_isIndex _ _ _ hn6).mono ?_; rintro e w2 ⟨rfl, rfl⟩; rw [HIN.out])
          go_roundg (msr out init)
          case measure => omega
          case rel => exact ⟨_, _, Nat.le_refl _, by omega, HN, HQ1, HO, HX, HB, hg, HTR⟩
set_option maxRecDepth 100000 in
theorem c_ReachableCode {S : Nat → Prop} {a : Option Addr} {p : Nat} {code : List Instr} {w : World} (h : SlRd cInstr S w a p code) :
    Calls Try.prog 65 #[.slice a code.length p] w (RetSlB cInt (reachF code).1 (reachF code).2 w) := by
  have H := hid (h.keep (S' := fun b => b < w.heap.size) (w' := w) (fun b _ hl => ⟨hl, rfl⟩))
  clear h
  obtain ⟨r, hr⟩ : ∃ r, validCode code = r := ⟨_, rfl⟩
  have HR := hid hr
  cases r
  · have HF : Hid (reachF code = ([], false)) := by unfold Hid reachF; rw [hr]; rfl
    clear hr
    go_enter Try.func65, Try.ntmps65
    go_wp2_with (go_at_call 93; refine (c_ValidCode _ _ _ _ H.out).mono ?_; rintro e w1 ⟨rfl, hb1⟩; rw [HR.out]; have HB1 := hid hb1; clear hb1)
    go_ret2
    rw [HF.out]
    exact ⟨none, 0, rfl, nil_rd _ _ _, HB1.out⟩
  · have HF : Hid (reachF code = (idxL (reachB code), true)) := by unfold Hid reachF; rw [hr]; rfl
    obtain ⟨hx1, hx80, _⟩ := validCode_iff hr
    obtain ⟨bs, hbs⟩ : ∃ bs, reachB code = bs := ⟨_, rfl⟩
    have hbl : bs.length ≤ 1000000 := by rw [← hbs, (reachB_inv (by omega)).len]; omega
    rw [hbs] at HF
    have HBS := hid hbs
    clear hr hbs
    go_enter Try.func65, Try.ntmps65
    go_wp2_with fail
    refine (c_ValidCode _ _ _ _ H.out).mono ?_
    rintro e w1 ⟨rfl, hb1⟩
    rw [HR.out]
    have HB1 := hid hb1
    have hz1 := hb1.size
    have H1 := hid (H.out.below (Nat.le_refl _) hb1)
    clear hb1
    have HC := hid (c_reached (g0 := w1.heap.size) (w := w1.alloc (.cells #[.int .i64 0] 2)) (H1.out.alloc _) (fun b hb => by omega) HR.out (by simp) (ownQ_lit (.inl rfl) ⟨by omega, by omega⟩))
    go_wp2_with fail
    refine HC.out.mono ?_
    rw [HBS.out]
    rintro e w2 ⟨a2, p2, rfl, hs2, hb2⟩
    have HS2 := hid hs2
    have HB2 := hid (HB1.out.trans (((Below.refl w1.heap.size w1).alloc (Nat.le_refl _) (.cells #[.int .i64 0] 2)).trans hb2 |>.mono hz1))
    clear hs2 hb2
    go_wp2_with fail
    refine (c_indices HS2.out hbl).mono ?_
    rintro e w3 ⟨a3, p3, rfl, hs3, hb3⟩
    have HS3 := hid hs3
    have HB3 := hid (bel_next HB2.out HB2.out.size hb3)
    have hz2 := HB2.out.size
    clear hs3 hb3
    go_wp2
    go_ret2
    rw [HF.out]
    exact ⟨a3, p3, rfl, HS3.out.lower hz2, HB3.out⟩
end Go.Proofs.Ytlipoonopajgdaa
