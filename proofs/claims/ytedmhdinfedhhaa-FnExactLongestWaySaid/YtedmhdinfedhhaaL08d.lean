/- Contracts: the longest way without points, the program's side. -/
import Derived.Test.YtedmhdinfedhhaaL08c
import Derived.Test.YtedmhdinfedhhaaQueue
namespace Go.Proofs.Ytedmhdinfedhhaa
open Go.RowKit

theorem KeptB.refl (Bk : Nat → Prop) (w : World) : KeptB Bk w w := ⟨rfl, rfl, rfl, Nat.le_refl _, fun _ _ _ => rfl⟩
theorem KeptB.trans {Bk : Nat → Prop} {a b c : World} (h : KeptB Bk a b) (k : KeptB Bk b c) : KeptB Bk a c :=
  ⟨k.os.trans h.os, k.tape.trans h.tape, k.output.trans h.output, Nat.le_trans h.size k.size, fun i hi hn => (k.block i (Nat.lt_of_lt_of_le hi h.size) hn).trans (h.block i hi hn)⟩
theorem KeptB.of_below {Bk : Nat → Prop} {w w' : World} (h : Below w.heap.size w w') : KeptB Bk w w' := ⟨h.os, h.tape, h.output, h.size, fun k hk _ => h.block k hk⟩
theorem KeptB.cell {Bk : Nat → Prop} {w w' : World} (h : KeptB Bk w w') {b o : Nat} {u : Value} (hl : b < w.heap.size) (hn : ¬ Bk b) (hc : w.cell? ⟨b, o, none⟩ = some u) : w'.cell? ⟨b, o, none⟩ = some u :=
  (World.cell?_of_block (w := w) (a := ⟨b, o, none⟩) (h.block b hl hn)).trans hc
theorem KeptB.setCell (w : World) (g k : Nat) (v : Value) : KeptB (fun b => b = g) w (w.setCell ⟨g, k, none⟩ v) :=
  ⟨rfl, rfl, rfl, Nat.le_of_eq (size_set _ _ _).symm, fun _ _ hn => heap_setCell_ne _ _ _ hn⟩
/-- The world in which the closure is called: its three boxes, and the numbers that are known. -/
structure LgS (w : World) (gk ga gl g1 : Nat) (a0 : Option Addr) (n0 p0 : Nat) (a1 : Option Addr) (n1 p1 : Nat) (a2 : Option Addr) (p2 : Nat) (d2 : List Instr) (a3 : Option Addr) (p3 : Nat) (d3 : List Pt) (KN : List Int) : Prop where
  an : AnB w ga a0 n0 p0 a1 n1 p1 a2 d2.length p2 a3 d3.length p3
  code : SlRd cInstr (fun b => b < g1) w a2 p2 d2
  pts : SlRd cPoint (fun b => b < g1) w a3 p3 d3
  bk : w.cell? ⟨gk, 0, none⟩ = some (.slice (some ⟨g1, 0, none⟩) d2.length d2.length)
  bl : w.cell? ⟨gl, 0, none⟩ = some (.func (.func 65) #[] #[.pointer (some ⟨gk, 0, none⟩), .pointer (some ⟨ga, 0, none⟩), .pointer (some ⟨gl, 0, none⟩)])
  lk : gk < w.heap.size
  ll : gl < w.heap.size
  nk : gk ≠ g1
  nl : gl ≠ g1
  na : ga ≠ g1
  own : OwnSl cInt (fun _ => False) w g1 2 (.slice (some ⟨g1, 0, none⟩) d2.length d2.length) KN
  len : KN.length = d2.length
  ok : ∀ (j : Nat) (v : Int), KN[j]? = some v → v = 0 ∨ v = lw d2.length (bareF d2 d3) j
section
variable {w w' : World} {gk ga gl g1 : Nat} {a0 : Option Addr} {n0 p0 : Nat} {a1 : Option Addr} {n1 p1 : Nat} {a2 : Option Addr} {p2 : Nat} {d2 : List Instr} {a3 : Option Addr} {p3 : Nat} {d3 : List Pt} {KN : List Int}
theorem LgS.kept (h : LgS w gk ga gl g1 a0 n0 p0 a1 n1 p1 a2 p2 d2 a3 p3 d3 KN) (hk : KeptB (fun b => b = g1) w w') {KN' : List Int} (ho : OwnSl cInt (fun _ => False) w' g1 2 (.slice (some ⟨g1, 0, none⟩) d2.length d2.length) KN') (hl : KN'.length = d2.length)
    (hok : ∀ (j : Nat) (v : Int), KN'[j]? = some v → v = 0 ∨ v = lw d2.length (bareF d2 d3) j) : LgS w' gk ga gl g1 a0 n0 p0 a1 n1 p1 a2 p2 d2 a3 p3 d3 KN' :=
  ⟨⟨Nat.lt_of_lt_of_le h.an.lt hk.size, hk.cell h.an.lt h.na h.an.c0, hk.cell h.an.lt h.na h.an.c1, hk.cell h.an.lt h.na h.an.c2, hk.cell h.an.lt h.na h.an.c3⟩,
    h.code.keep fun b hb hlt => ⟨hb, hk.block b hlt (by omega)⟩, h.pts.keep fun b hb hlt => ⟨hb, hk.block b hlt (by omega)⟩, hk.cell h.lk h.nk h.bk, hk.cell h.ll h.nl h.bl,
    Nat.lt_of_lt_of_le h.lk hk.size, Nat.lt_of_lt_of_le h.ll hk.size, h.nk, h.nl, h.na, ho, hl, hok⟩
theorem LgS.below (h : LgS w gk ga gl g1 a0 n0 p0 a1 n1 p1 a2 p2 d2 a3 p3 d3 KN) (hb : Below w.heap.size w w') : LgS w' gk ga gl g1 a0 n0 p0 a1 n1 p1 a2 p2 d2 a3 p3 d3 KN :=
  h.kept (KeptB.of_below hb) (own_below h.own (Nat.le_refl _) hb) h.len h.ok
theorem LgS.set (h : LgS w gk ga gl g1 a0 n0 p0 a1 n1 p1 a2 p2 d2 a3 p3 d3 KN) {k : Nat} (hk : k < d2.length) {v : Int} (hv : I64 v) (he : v = lw d2.length (bareF d2 d3) k) : LgS (w.setCell ⟨g1, k, none⟩ (.int .i64 v)) gk ga gl g1 a0 n0 p0 a1 n1 p1 a2 p2 d2 a3 p3 d3 (KN.set k v) :=
  h.kept (KeptB.setCell _ _ _ _) (own_set_int h.own h.len k hk v hv).1 (by rw [List.length_set]; exact h.len) fun j x hj => by
    by_cases e : k = j
    · subst e
      rw [List.getElem?_set] at hj
      simp only [if_true] at hj
      split at hj
      · have : v = x := Option.some.inj hj
        exact .inr (by rw [← this]; exact he)
      · cases hj
    · rw [List.getElem?_set_ne e] at hj; exact h.ok j x hj
set_option maxHeartbeats 4000000 in
set_option maxRecDepth 100000 in
theorem c_longest {R : Nat → Prop} (hA : Acy d2.length (bareF d2 d3) R) (hn : d2.length ≤ 80) : ∀ (N k : Nat) (KN : List Int) (w : World), R k → k < d2.length → lw d2.length (bareF d2 d3) k ≤ N → LgS w gk ga gl g1 a0 n0 p0 a1 n1 p1 a2 p2 d2 a3 p3 d3 KN →
    Calls Try.prog 65 #[.int .i64 k, .pointer (some ⟨gk, 0, none⟩), .pointer (some ⟨ga, 0, none⟩), .pointer (some ⟨gl, 0, none⟩)] w fun e w' => e = .returned (.int .i64 (lw d2.length (bareF d2 d3) k)) ∧ (∃ KN', LgS w' gk ga gl g1 a0 n0 p0 a1 n1 p1 a2 p2 d2 a3 p3 d3 KN') ∧ KeptB (fun b => b = g1) w w' := by
  intro N
  induction N with
  | zero => intro k KN w hR hk hle _; have := hA.lw_pos hR; omega
  | succ N ih =>
    intro k KN w hR hk hle hL
    have HL := hid hL
    have HIH := hid ih
    have bk := hL.bk
    obtain ⟨v, hv, hv64, hcv, hfv, hgl, hgb⟩ := own_at_int hL.own hL.len k hk
    have hok := hL.ok k v hv
    have i0 : (0 : Int) ≤ (k : Int) := by omega
    have i1 : (k : Int) < (d2.length : Int) := by omega
    have HEQ := hid (hA.lw_eq hR)
    have HLT := hid fun t (ht : t ∈ bareF d2 d3 k) => (⟨hA.rng k t ht, hA.cl k hR t ht, hA.lw_lt hR ht⟩ : (0 ≤ t ∧ t < (d2.length : Int)) ∧ R t.toNat ∧ lw d2.length (bareF d2 d3) t < lw d2.length (bareF d2 d3) k)
    have hpos := hA.lw_pos hR
    have hlw := (lw_le d2.length (bareF d2 d3) k).2
    have HBL := hid (bareF_len d2 d3 k)
    clear hL ih hv hR
    by_cases hv0 : v = 0
    · subst hv0
      clear hok
      have x0 := HL.out.an.c0
      have x1 := HL.out.an.c1
      have x2 := HL.out.an.c2
      have x3 := HL.out.an.c3
      have HCB := hid (c_bare (a0 := a0) (n0 := n0) (p0 := p0) (a1 := a1) (n1 := n1) (p1 := p1) HL.out.code HL.out.pts hk hn)
      go_enter Try.func65, Try.ntmps65
      go_wp2_with fail
      refine HCB.out.mono ?_
      rintro e w4 ⟨v4, rfl, hO4, hb4⟩
      obtain ⟨a4, c4, rfl⟩ := own_len hO4
      obtain ⟨a5, c5, he5, hs5⟩ := own_rd (own_keep (S' := Fresh w.heap.size w4) hO4 (fun _ h => h.elim) fun _ _ _ => rfl) (Nat.le_refl _)
      cases he5
      have HL4 := hid (HL.out.below hb4)
      have HK4 : Hid (KeptB (fun b => b = g1) w w4) := KeptB.of_below hb4
      have HS4 := hid (hs5.keep (S' := fun b => g1 < b) (w' := w4) fun b hb _ => ⟨by have := hb.1; omega, rfl⟩)
      clear hO4 hb4 hs5 HCB x0 x1 x2 x3 bk HL hcv hfv
      obtain ⟨T, hT⟩ : ∃ T, bareF d2 d3 k = T := ⟨_, rfl⟩
      rw [hT] at HS4 HLT HBL HEQ ⊢
      have hTl := HBL.out
      clear hT HBL
      obtain ⟨g, hg⟩ : ∃ g, g = lw d2.length (bareF d2 d3) := ⟨_, rfl⟩
      rw [← hg] at HEQ HLT hle hpos hlw
      have HG := hid hg
      clear hg
      go_wp2
      go_loopw [6, 18] (fun m i wr => ∃ (j : Nat) (KN : List Int), j ≤ T.length ∧ i = .int .i64 j ∧ m = .int .i64 (mx (T.take j) g) ∧ Hid (LgS wr gk ga gl g1 a0 n0 p0 a1 n1 p1 a2 p2 d2 a3 p3 d3 KN) ∧ Hid (SlRd cInt (fun b => g1 < b) wr a4 c4 T) ∧ Hid (KeptB (fun b => b = g1) w wr)) (fun _ i _ => T.length - (intOf i).toNat)
      case atStart => exact ⟨0, KN, Nat.zero_le _, rfl, rfl, HL4, HS4, HK4⟩
      case round =>
        obtain ⟨j, KN2, hj, rfl, rfl, HLR, HSR, HKR⟩ := hrel
        by_cases hlt : j < T.length
        · obtain ⟨b, off, rfl⟩ := HSR.out.some_of hlt
          obtain ⟨t, ht, ht64, hct, hbt⟩ := HSR.out.int_at j hlt
          obtain ⟨⟨ht0, htn⟩, hRt, hltt⟩ := HLT.out t (List.mem_of_getElem? ht)
          have HM := hid (mx_take g ht)
          obtain ⟨q, rfl⟩ := Int.eq_ofNat_of_zero_le ht0
          rw [Int.toNat_natCast] at hRt
          have HCL := hid (HIH.out q KN2 wr hRt (by omega) (by rw [← HG.out]; omega) HLR.out)
          rw [← HG.out] at HCL
          have bl := HLR.out.bl
          have j0 : (0 : Int) ≤ (j : Int) := by omega
          have j1 : (j : Int) < (T.length : Int) := by omega
          clear ht hRt
          go_wp2_with (go_at_call 65; refine HCL.out.mono ?_; rintro e w6 ⟨rfl, ⟨KN6, hL6⟩, hk6⟩; have HL6 := hid hL6; have HK6 := hid (HKR.out.trans hk6); have HS6 := hid (HSR.out.keep (S' := fun b => g1 < b) (w' := w6) fun b hb hl => ⟨hb, hk6.block b hl (by omega)⟩); clear hL6 hk6)
          go_roundw
          case rel => exact ⟨j + 1, KN6, by omega, by go_num, by rw [HM.out], HL6, HS6, HK6⟩
          case measure => simp [intOf]; omega
        · have hje : j = T.length := by omega
          subst hje
          have HM : Hid (g k = 1 + mx (T.take T.length) g) := by unfold Hid; rw [List.take_length]; exact HEQ.out
          have HMM := HM.out
          have h0 := mx_nonneg (T.take T.length) g
          obtain ⟨M, hM⟩ : ∃ M, mx (T.take T.length) g = M := ⟨_, rfl⟩
          rw [hM] at HMM h0 ⊢
          have bk := HLR.out.bk
          obtain ⟨v, hv, hv64, hcv, hfv, hgl, hgb⟩ := own_at_int HLR.out.own HLR.out.len k hk
          have hw : IntKind.i64.wrap (1 + M) = 1 + M := wrap_in _ (by omega) (by omega)
          have HSET := hid (HLR.out.set hk (v := 1 + M) ⟨by omega, by omega⟩ (by rw [← HG.out, HMM]))
          have bk2 := HSET.out.bk
          obtain ⟨v2, hv2, hv264, hcv2, hfv2, hgl2, hgb2⟩ := own_at_int HSET.out.own HSET.out.len k hk
          have hkl : k < KN2.length := by rw [HLR.out.len]; exact hk
          rw [List.getElem?_set_self hkl] at hv2
          cases hv2
          have HKS := hid (HKR.out.trans (KeptB.setCell wr g1 k (.int .i64 (1 + M))))
          clear hv HM hM
          go_wp2
          go_ret
          rw [← HG.out, HMM]
          exact ⟨rfl, ⟨_, HSET.out⟩, HKS.out⟩
    · have hne : (v == 0) = false := by simpa using hv0
      have hve : v = lw d2.length (bareF d2 d3) k := hok.resolve_left hv0
      have HVE := hid hve
      clear hok hve
      go_enter Try.func65, Try.ntmps65
      go_wp2
      go_ret
      rw [HVE.out]
      exact ⟨rfl, ⟨KN, HL.out⟩, KeptB.refl _ _⟩
end
end Go.Proofs.Ytedmhdinfedhhaa
