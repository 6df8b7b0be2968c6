/- Contracts: terms over variables, and whether they hold in a state. -/
import Derived.Test.YtmpanchappoejaaL03
import Derived.Test.YtmpanchappoejaaL02s
import Derived.Test.YtmpanchappoejaaL02v
import Derived.Test.YtmpanchappoejaaL07c
namespace Go.Proofs.Ytmpanchappoejaa
open Go.RowKit

def overT (t : Term) : Bool := validTerm t && decide (t.2.length ≤ 4)
def areOverF (ts : List Term) (most : Int) : Bool := decide ((ts.length : Int) ≤ most) && ts.all overT
def holdsF (ts : List Term) (vs : List Int) : Bool := ts.all fun t => decide (0 ≤ evalT t vs)
def holdsInF (ts : List Term) (s : St) : Bool × Bool := if areOverF ts 14 && validState s then (holdsF ts s.1, true) else (false, false)
theorem areOverF_iff {ts : List Term} {most : Int} (h : areOverF ts most = true) : ∀ t ∈ ts, validTerm t = true ∧ t.2.length ≤ 4 := by
  simp only [areOverF, Bool.and_eq_true, List.all_eq_true] at h
  intro t ht
  have := h.2 t ht
  simpa [overT] using this
theorem validState_iff {s : St} (h : validState s = true) : s.1.length = 4 ∧ s.2.length = 8 ∧ (∀ v ∈ s.1, Big v) ∧ (∀ v ∈ s.2, Big v) := by
  simp only [validState, numsOk, Bool.and_eq_true, decide_eq_true_eq] at h
  exact ⟨h.1.1, h.2.1, big_of h.1.2, big_of h.2.2⟩
theorem c_isOver {S : Nat → Prop} (c : Int) (a : Option Addr) (cap : Nat) (zs : List Int) (w : World) (h : SlRd cInt S w a cap zs) :
    Calls Try.prog 86 #[.agg #[.int .i64 c, .slice a zs.length cap]] w fun e w' => e = .returned (.bool (overT (c, zs))) ∧ Below w.heap.size w w' := by
  have H := hid (h.alloc (.cells #[.int .i64 c, .slice a zs.length cap] 43))
  have hl := h.len_le
  clear h
  obtain ⟨r, hr⟩ : ∃ r, validTerm (c, zs) = r := ⟨_, rfl⟩
  have HR := hid hr
  clear hr
  cases r
  all_goals
    go_enter Try.func86, Try.ntmps86
    go_wp2_with (go_at_call 79; refine (c_ValidTerm _ _ _ _ _ H.out).mono ?_; rintro e w1 ⟨rfl, hb1⟩; rw [HR.out]; have t1 := cell_below hb1 (b := w.heap.size) (o := 1) (v := .slice a zs.length cap) (by simp) (by simp [go_sem]))
    go_ret
    exact ⟨ret_bool (by unfold overT; rw [HR.out, Bool.eq_iff_iff]; simp <;> omega), bel_box (Below.refl _ _) (Nat.le_refl _) hb1⟩
theorem c_areOver1 {S : Nat → Prop} (c : Int) (a : Option Addr) (cap : Nat) (zs : List Int) (w : World) (h : SlRd cInt S w a cap zs) :
    Calls Try.prog 130 #[.agg #[.int .i64 c, .slice a zs.length cap]] w fun e w' => e = .returned (.bool (!overT (c, zs))) ∧ Below w.heap.size w w' := by
  have H := hid (h.alloc (.cells #[.int .i64 c, .slice a zs.length cap] 43))
  clear h
  obtain ⟨r, hr⟩ : ∃ r, overT (c, zs) = r := ⟨_, rfl⟩
  have HR := hid hr
  clear hr
  go_enter Try.func130, Try.ntmps130
  go_wp2_with (go_at_call 86; refine (c_isOver _ _ _ _ _ H.out).mono ?_; rintro e w1 ⟨rfl, hb1⟩; rw [HR.out])
  go_ret
  exact ⟨ret_bool (by rw [HR.out]), bel_box (Below.refl _ _) (Nat.le_refl _) hb1⟩
theorem c_idxNotOver {S : Nat → Prop} (a : Option Addr) (cap : Nat) (xs : List Term) (w : World) (h : SlRd cTerm S w a cap xs) :
    Calls Try.prog 139 #[.slice a xs.length cap, .func (.func 130) #[] #[]] w (RetIdx (fun x => !overT x) xs w) := by
  have hl := h.len_le
  have H := hid h
  clear h
  go_enter Try.func139, Try.ntmps139
  go_wp2
  go_loopw [8] (fun i wr => ∃ k : Nat, k ≤ xs.length ∧ i = .int .i64 k ∧ Hid ((xs.take k).all (fun x => !!overT x) = true) ∧ Below w.heap.size w wr) (fun i _ => xs.length - (intOf i).toNat)
  case atStart => exact ⟨0, Nat.zero_le _, rfl, rfl, Below.refl _ _⟩
  case round =>
    obtain ⟨k, hk, rfl, HA, hbe⟩ := hrel
    have hsz := hbe.size
    by_cases hlt : k < xs.length
    · obtain ⟨b, off, rfl⟩ := H.out.some_of hlt
      obtain ⟨c, zs, a', cap', hz, hc1, hsl, hc, hc', hb⟩ := (H.out.below (Nat.le_refl _) hbe).term_at k hlt
      have HZ := hid hz
      have HS := hid hsl
      clear hz hsl
      obtain ⟨r, hr⟩ : ∃ r, overT (c, zs) = r := ⟨_, rfl⟩
      have HR := hid hr
      clear hr
      cases r
      · go_wp2_with (go_at_call 130; refine (c_areOver1 _ _ _ _ _ HS.out).mono ?_; rintro e w1 ⟨rfl, hb1⟩; rw [HR.out])
        go_ret
        exact ⟨k, rfl, .inr ⟨k, _, rfl, HZ.out, by simp [HR.out], HA.out⟩, bel_next hbe hsz hb1⟩
      · go_wp2_with (go_at_call 130; refine (c_areOver1 _ _ _ _ _ HS.out).mono ?_; rintro e w1 ⟨rfl, hb1⟩; rw [HR.out])
        go_roundw
        case rel => exact ⟨k + 1, by omega, by go_num, (all_take HA.out HZ.out).trans (by simp [HR.out]), bel_next hbe hsz hb1⟩
        case measure => simp [intOf]; omega
    · have HE := hid (all_end HA.out (Nat.le_of_not_lt hlt))
      go_wp2
      go_ret
      exact ⟨-1, rfl, .inl ⟨rfl, HE.out⟩, hbe⟩
theorem c_areOver {S : Nat → Prop} (a : Option Addr) (cap : Nat) (ts : List Term) (most : Int) (w : World) (h : SlRd cTerm S w a cap ts) :
    Calls Try.prog 108 #[.slice a ts.length cap, .int .i64 most] w fun e w' => e = .returned (.bool (areOverF ts most)) ∧ Below w.heap.size w w' := by
  have H := hid h
  have hl := h.len_le
  clear h
  by_cases h1 : (ts.length : Int) ≤ most
  · have HF : Hid (areOverF ts most = ts.all overT) := by unfold Hid; simp [areOverF, h1]
    go_enter Try.func108, Try.ntmps108
    go_wp2_with (first | (go_at_call 139; refine (c_idxNotOver _ _ _ _ H.out).mono ?_; rintro e w1 ⟨r, rfl, hok, hb1⟩; have hd := hok.all; have HD := hid hd; clear hd hok) | go_in)
    go_ret
    exact ⟨ret_bool (by rw [HF.out, HD.out]; simp), hb1⟩
  · have HF : Hid (areOverF ts most = false) := by unfold Hid; simp [areOverF]; omega
    go_enter Try.func108, Try.ntmps108
    go_wp2
    go_ret
    exact ⟨ret_bool HF.out.symm, Below.refl _ _⟩
theorem c_hold {S T : Nat → Prop} (a b : Option Addr) (ca cb : Nat) (ts : List Term) (vs : List Int) (w : World) (hx : SlRd cTerm S w a ca ts) (hy : SlRd cInt T w b cb vs) (ht : ∀ t ∈ ts, validTerm t = true ∧ t.2.length ≤ vs.length) (hv : ∀ v ∈ vs, Big v) :
    Calls Try.prog 103 #[.slice a ts.length ca, .slice b vs.length cb] w fun e w' => e = .returned (.bool (holdsF ts vs)) ∧ Below w.heap.size w w' := by
  have hl := hx.len_le
  have H := hid hx
  have HY := hid hy
  have HV := hid hv
  have HT := hid ht
  clear hx hy hv ht
  go_enter Try.func103, Try.ntmps103
  go_wp2
  go_loopw [9] (fun i wr => ∃ k : Nat, k ≤ ts.length ∧ i = .int .i64 k ∧ Hid ((ts.take k).all (fun t => decide (0 ≤ evalT t vs)) = true) ∧ Below w.heap.size w wr) (fun i _ => ts.length - (intOf i).toNat)
  case atStart => exact ⟨0, Nat.zero_le _, rfl, rfl, Below.refl _ _⟩
  case round =>
    obtain ⟨k, hk, rfl, HA, hbe⟩ := hrel
    have hsz := hbe.size
    by_cases hlt : k < ts.length
    · obtain ⟨b1, off, rfl⟩ := H.out.some_of hlt
      obtain ⟨c, zs, a', cap', hz, hc1, hsl, hc, hc', hb⟩ := (H.out.below (Nat.le_refl _) hbe).term_at k hlt
      obtain ⟨hv1, hlz⟩ := HT.out _ (List.mem_of_getElem? hz)
      obtain ⟨hlt10, hcm, hzm, _⟩ := validTerm_iff hv1
      have HZM := hid hzm
      have HCM := hid hcm
      have HZ := hid hz
      have HS := hid (hsl.alloc (.cells #[.int .i64 c, .slice a' zs.length cap'] 43))
      have HY1 := hid ((HY.out.below (Nat.le_refl _) hbe).alloc (.cells #[.int .i64 c, .slice a' zs.length cap'] 43))
      simp only at hlz hlt10
      clear hz hsl hv1 hzm hcm
      by_cases hneg : evalT (c, zs) vs < 0
      · obtain ⟨r, hr⟩ : ∃ r, evalT (c, zs) vs = r := ⟨_, rfl⟩
        have HR := hid hr
        rw [hr] at hneg
        clear hr
        have HF : Hid (holdsF ts vs = false) := all_false HZ.out (by rw [HR.out]; simp; omega)
        go_wp2_with (go_at_call 104; refine (c_eval _ _ _ _ _ _ _ _ HS.out HY1.out HCM.out HZM.out HV.out hlt10 hlz).mono ?_; rintro e w1 ⟨rfl, hb1⟩; rw [HR.out])
        go_ret
        exact ⟨ret_bool HF.out.symm, bel_box hbe hsz hb1⟩
      · obtain ⟨r, hr⟩ : ∃ r, evalT (c, zs) vs = r := ⟨_, rfl⟩
        have HR := hid hr
        rw [hr] at hneg
        clear hr
        go_wp2_with (go_at_call 104; refine (c_eval _ _ _ _ _ _ _ _ HS.out HY1.out HCM.out HZM.out HV.out hlt10 hlz).mono ?_; rintro e w1 ⟨rfl, hb1⟩; rw [HR.out])
        go_roundw
        case rel => exact ⟨k + 1, by omega, by go_num, (all_take HA.out HZ.out).trans (by rw [HR.out]; simp; omega), bel_box hbe hsz hb1⟩
        case measure => simp [intOf]; omega
    · go_wp2
      go_ret
      exact ⟨ret_bool (all_end HA.out (by omega)).symm, hbe⟩
set_option maxRecDepth 100000 in
theorem c_HoldsIn {S T : Nat → Prop} (a b b' : Option Addr) (ca cb cb' : Nat) (ts : List Term) (us vs : List Int) (w : World) (hx : SlRd cTerm S w a ca ts) (hu : SlRd cInt T w b cb us) (hv : SlRd cInt T w b' cb' vs) :
    Calls Try.prog 61 #[.slice a ts.length ca, .agg #[.slice b us.length cb, .slice b' vs.length cb']] w fun e w' => e = .returned (.tuple #[.bool (holdsInF ts (us, vs)).1, .bool (holdsInF ts (us, vs)).2]) ∧ Below w.heap.size w w' := by
  have HX := hid (hx.alloc (.cells #[.slice b us.length cb, .slice b' vs.length cb'] 88))
  have HU := hid (hu.alloc (.cells #[.slice b us.length cb, .slice b' vs.length cb'] 88))
  have HV := hid (hv.alloc (.cells #[.slice b us.length cb, .slice b' vs.length cb'] 88))
  have HB0 : Hid (Below w.heap.size w (w.alloc (.cells #[.slice b us.length cb, .slice b' vs.length cb'] 88))) := (Below.refl _ _).alloc (Nat.le_refl _) _
  clear hx hu hv
  obtain ⟨p, hp⟩ : ∃ p, areOverF ts 14 = p := ⟨_, rfl⟩
  obtain ⟨q, hq⟩ : ∃ q, validState (us, vs) = q := ⟨_, rfl⟩
  have HP := hid hp
  have HQ := hid hq
  clear hp hq
  cases p
  · have HF : Hid (holdsInF ts (us, vs) = (false, false)) := by unfold Hid holdsInF; rw [HP.out]; rfl
    go_enter Try.func61, Try.ntmps61
    go_wp2_with (go_at_call 108; refine (c_areOver _ _ _ _ _ HX.out).mono ?_; rintro e w1 ⟨rfl, hb1⟩; rw [HP.out])
    go_ret2
    exact ⟨by rw [HF.out]; rfl, bel_next HB0.out HB0.out.size hb1⟩
  · cases q
    · have HF : Hid (holdsInF ts (us, vs) = (false, false)) := by unfold Hid holdsInF; rw [HQ.out]; simp
      go_enter Try.func61, Try.ntmps61
      go_wp2_with fail
      refine (c_areOver _ _ _ _ _ HX.out).mono ?_
      rintro e w1 ⟨rfl, hb1⟩
      rw [HP.out]
      have t0 := cell_below hb1 (b := w.heap.size) (o := 0) (v := .slice b us.length cb) (by simp) (by simp [go_sem])
      have t1 := cell_below hb1 (b := w.heap.size) (o := 1) (v := .slice b' vs.length cb') (by simp) (by simp [go_sem])
      have HB1 := hid (bel_next HB0.out HB0.out.size hb1)
      have HU1 := hid (HU.out.below (Nat.le_refl _) hb1)
      have HV1 := hid (HV.out.below (Nat.le_refl _) hb1)
      clear hb1
      go_wp2_with (go_at_call 109; refine (c_ValidState _ _ _ _ _ _ _ HU1.out HV1.out).mono ?_; rintro e w2 ⟨rfl, hb2⟩; rw [HQ.out])
      go_ret2
      exact ⟨by rw [HF.out]; rfl, bel_next HB1.out HB1.out.size hb2⟩
    · have HF : Hid (holdsInF ts (us, vs) = (holdsF ts us, true)) := by unfold Hid holdsInF; rw [HP.out, HQ.out]; rfl
      obtain ⟨l4, l8, hbig, hbig2⟩ := validState_iff HQ.out
      have HBG := hid hbig
      have HO : Hid (∀ t ∈ ts, validTerm t = true ∧ t.2.length ≤ us.length) := fun t ht => by have := areOverF_iff HP.out t ht; simp only at l4; exact ⟨this.1, by omega⟩
      clear l4 l8 hbig hbig2
      go_enter Try.func61, Try.ntmps61
      go_wp2_with fail
      refine (c_areOver _ _ _ _ _ HX.out).mono ?_
      rintro e w1 ⟨rfl, hb1⟩
      rw [HP.out]
      have t0 := cell_below hb1 (b := w.heap.size) (o := 0) (v := .slice b us.length cb) (by simp) (by simp [go_sem])
      have t1 := cell_below hb1 (b := w.heap.size) (o := 1) (v := .slice b' vs.length cb') (by simp) (by simp [go_sem])
      have z1 : w.heap.size < w1.heap.size := by have := hb1.size; simp at this; omega
      have HB1 := hid (bel_next HB0.out HB0.out.size hb1)
      have HU1 := hid (HU.out.below (Nat.le_refl _) hb1)
      have HX1 := hid (HX.out.below (Nat.le_refl _) hb1)
      have HV1 := hid (HV.out.below (Nat.le_refl _) hb1)
      clear hb1
      go_wp2_with fail
      refine (c_ValidState _ _ _ _ _ _ _ HU1.out HV1.out).mono ?_
      rintro e w2 ⟨rfl, hb2⟩
      rw [HQ.out]
      have s0 := cell_below hb2 z1 t0
      have s1 := cell_below hb2 z1 t1
      have HB2 := hid (bel_next HB1.out HB1.out.size hb2)
      have HU2 := hid (HU1.out.below (Nat.le_refl _) hb2)
      have HX2 := hid (HX1.out.below (Nat.le_refl _) hb2)
      clear hb2 t0 t1
      go_wp2_with fail
      refine (c_hold _ _ _ _ _ _ _ HX2.out HU2.out HO.out HBG.out).mono ?_
      rintro e w3 ⟨rfl, hb3⟩
      go_wp2
      go_ret2
      exact ⟨by rw [HF.out]; rfl, bel_next HB2.out HB2.out.size hb3⟩
theorem c_l03Term {S : Nat → Prop} (b off : Nat) (c : Int) (a : Option Addr) (cap : Nat) (zs : List Int) (w : World) (hc : w.cell? ⟨b, off, none⟩ = some (.int .i64 c)) (hc' : w.cell? ⟨b, off + 1, none⟩ = some (.slice a zs.length cap)) (h : SlRd cInt S w a cap zs) :
    Calls Try.prog 84 #[.pointer (some ⟨b, off, none⟩)] w fun e w' => e = .returned (.bool (overT (c, zs))) ∧ w = w' := by
  have hl := h.len_le
  have HC := hid (c_l02Is _ _ _ _ _ _ _ hc hc' h)
  clear h
  obtain ⟨r, hr⟩ : ∃ r, validTerm (c, zs) = r := ⟨_, rfl⟩
  have HR := hid hr
  clear hr
  cases r
  all_goals
    go_enter Try.func84, Try.ntmps84
    go_wp2_with (go_at_call 119; refine HC.out.mono ?_; rintro e w' ⟨rfl, rfl⟩; rw [HR.out])
    go_ret
    exact ⟨ret_bool (by unfold overT; rw [HR.out, Bool.eq_iff_iff]; simp <;> omega), rfl⟩
theorem c_l03Terms {S : Nat → Prop} (a : Option Addr) (cap : Nat) (ts : List Term) (most : Int) (w : World) (h : SlRd cTerm S w a cap ts) :
    Calls Try.prog 105 #[.slice a ts.length cap, .int .i64 most] w fun e w' => e = .returned (.bool (areOverF ts most)) ∧ w = w' := by
  have hl := h.len_le
  have H := hid h
  clear h
  go_enter Try.func105, Try.ntmps105
  go_wp2
  go_loop [5] (fun i => ∃ k : Nat, k ≤ ts.length ∧ i = .int .i64 k ∧ Hid ((ts.take k).all overT = true)) (fun i => ts.length - (intOf i).toNat)
  case atStart => exact ⟨0, Nat.zero_le _, rfl, rfl⟩
  case round =>
    obtain ⟨k, hk, rfl, HA⟩ := hrel
    by_cases hlt : k < ts.length
    · obtain ⟨b, off, rfl⟩ := H.out.some_of hlt
      obtain ⟨c, zs, a', cap', hz, hc1, hsl, hc, hc', hb⟩ := H.out.term_at k hlt
      have HZ := hid hz
      clear hz
      by_cases hin : overT (c, zs) = true
      · go_wp2_with (go_at_call 84; refine (c_l03Term _ _ _ _ _ _ _ hc hc' hsl).mono ?_; rintro e w' ⟨rfl, rfl⟩)
        go_round
        case rel => exact ⟨k + 1, by omega, by go_num, (all_take HA.out HZ.out).trans hin⟩
        case measure => simp [intOf]; omega
      · have hin' : overT (c, zs) = false := by simpa using hin
        go_wp2_with (go_at_call 84; refine (c_l03Term _ _ _ _ _ _ _ hc hc' hsl).mono ?_; rintro e w' ⟨rfl, rfl⟩)
        go_ret
        exact ⟨ret_bool (by simp [areOverF, all_false HZ.out hin']), rfl⟩
    · go_wp2
      go_ret
      exact ⟨ret_bool (by simp [areOverF, all_end HA.out (by omega)]), rfl⟩
theorem c_l03Eval {S T : Nat → Prop} (b0 o0 b3 o3 : Nat) (c : Int) (a b : Option Addr) (ca cb : Nat) (zs vs : List Int) (w : World) (ht0 : w.cell? ⟨b0, o0, none⟩ = some (.int .i64 c)) (ht1 : w.cell? ⟨b0, o0 + 1, none⟩ = some (.slice a zs.length ca)) (hb0 : b0 < w.heap.size)
    (hs0 : w.cell? ⟨b3, o3, none⟩ = some (.slice b vs.length cb)) (hb3 : b3 < w.heap.size) (hx : SlRd cInt S w a ca zs) (hy : SlRd cInt T w b cb vs)
    (hc : Mid c) (hz : ∀ z ∈ zs, Mid z) (hv : ∀ v ∈ vs, Big v) (hl : zs.length ≤ 10) (hlv : zs.length ≤ vs.length) :
    Calls Try.prog 128 #[.pointer (some ⟨b0, o0, none⟩), .pointer (some ⟨b3, o3, none⟩)] w fun e w' => e = .returned (.int .i64 (evalT (c, zs) vs)) ∧ Below w.heap.size w w' := by
  have HX := hid hx
  have HY := hid hy
  have hlen := hy.len_le
  have HZ := hid hz
  have HV := hid hv
  have HD := hid (dotK_bd hz hv)
  obtain ⟨hc1, hc2⟩ := hc
  clear hx hy hz hv
  go_enter Try.func128, Try.ntmps128
  go_wp2
  go_loopw [5, 6] (fun n i wr => ∃ k : Nat, k ≤ zs.length ∧ i = .int .i64 k ∧ n = .int .i64 (c + dotK zs vs k) ∧ Below w.heap.size w wr) (fun _ i _ => zs.length - (intOf i).toNat)
  case atStart => exact ⟨0, Nat.zero_le _, rfl, by simp [dotK], Below.refl _ _⟩
  case round =>
    obtain ⟨k, hk, rfl, rfl, hbe⟩ := hrel
    have ht0 := cell_below hbe hb0 ht0
    have ht1 := cell_below hbe hb0 ht1
    have hs0 := cell_below hbe hb3 hs0
    by_cases hlt : k < zs.length
    · obtain ⟨b1, off1, rfl⟩ := HX.out.some_of hlt
      obtain ⟨b2, off2, rfl⟩ := HY.out.some_of (k := k) (by omega)
      obtain ⟨z, hzk, _, hcz, _⟩ := (HX.out.below (Nat.le_refl _) hbe).int_at k hlt
      obtain ⟨v, hvk, _, hcv, _⟩ := (HY.out.below (Nat.le_refl _) hbe).int_at k (by omega)
      obtain ⟨d, hd⟩ : ∃ d, dotK zs vs k = d := ⟨_, rfl⟩
      have hdb := HD.out k
      rw [hd] at hdb ⊢
      obtain ⟨p1, p2⟩ := mul_bd (HZ.out z (List.mem_of_getElem? hzk)) (HV.out v (List.mem_of_getElem? hvk))
      have HS : Hid (dotK zs vs (k + 1) = d + z * v) := by unfold Hid; rw [dotK_succ hzk hvk, hd]
      obtain ⟨d1, d2⟩ := hdb
      have d3 : -10000000000000000 ≤ d := by omega
      have d4 : d ≤ 10000000000000000 := by omega
      have i1 : (0 : Int) ≤ (k : Int) := by omega
      have i2 : (k : Int) < (zs.length : Int) := by omega
      have i3 : (k : Int) < (vs.length : Int) := by omega
      clear hzk hvk hd d1 d2
      go_wp2
      go_quiet (fail)
      go_wp2
      go_roundw
      case rel => exact ⟨k + 1, by omega, by go_num, by rw [HS.out]; congr 1; omega, hbe.trans (below_drewN _ _ _)⟩
      case measure => simp [intOf]; omega
    · go_wp2
      go_ret
      have hkk : k = zs.length := by omega
      exact ⟨ret_int (by rw [hkk]; rfl), hbe⟩
theorem c_l03Holds {S T : Nat → Prop} (a b : Option Addr) (ca cb b3 o3 : Nat) (ts : List Term) (vs : List Int) (w : World) (hx : SlRd cTerm S w a ca ts) (hy : SlRd cInt T w b cb vs) (hs0 : w.cell? ⟨b3, o3, none⟩ = some (.slice b vs.length cb)) (hb3 : b3 < w.heap.size) (ht : ∀ t ∈ ts, validTerm t = true ∧ t.2.length ≤ vs.length) (hv : ∀ v ∈ vs, Big v) :
    Calls Try.prog 107 #[.slice a ts.length ca, .pointer (some ⟨b3, o3, none⟩)] w fun e w' => e = .returned (.bool (holdsF ts vs)) ∧ Below w.heap.size w w' := by
  have hl := hx.len_le
  have H := hid hx
  have HY := hid hy
  have HV := hid hv
  have HT := hid ht
  clear hx hy hv ht
  go_enter Try.func107, Try.ntmps107
  go_wp2
  go_loopw [5] (fun i wr => ∃ k : Nat, k ≤ ts.length ∧ i = .int .i64 k ∧ Hid ((ts.take k).all (fun t => decide (0 ≤ evalT t vs)) = true) ∧ Below w.heap.size w wr) (fun i _ => ts.length - (intOf i).toNat)
  case atStart => exact ⟨0, Nat.zero_le _, rfl, rfl, Below.refl _ _⟩
  case round =>
    obtain ⟨k, hk, rfl, HA, hbe⟩ := hrel
    have hsz := hbe.size
    by_cases hlt : k < ts.length
    · obtain ⟨b1, off, rfl⟩ := H.out.some_of hlt
      obtain ⟨c, zs, a', cap', hz, hc1, hsl, hc, hc', hb⟩ := (H.out.below (Nat.le_refl _) hbe).term_at k hlt
      obtain ⟨hv1, hlz⟩ := HT.out _ (List.mem_of_getElem? hz)
      obtain ⟨hlt10, hcm, hzm, _⟩ := validTerm_iff hv1
      have HZ := hid hz
      have HC := hid (c_l03Eval _ _ _ _ _ _ _ _ _ _ _ _ hc hc' hb (cell_below hbe hb3 hs0) (by omega) hsl (HY.out.below (Nat.le_refl _) hbe) hcm hzm HV.out hlt10 hlz)
      clear hz hsl hv1 hzm hcm
      obtain ⟨r, hr⟩ : ∃ r, evalT (c, zs) vs = r := ⟨_, rfl⟩
      have HR := hid hr
      clear hr
      by_cases hneg : r < 0
      · have HF : Hid (holdsF ts vs = false) := all_false HZ.out (by rw [HR.out]; simp; omega)
        go_wp2_with (go_at_call 128; refine HC.out.mono ?_; rintro e w1 ⟨rfl, hb1⟩; rw [HR.out])
        go_ret
        exact ⟨ret_bool HF.out.symm, bel_next hbe hsz hb1⟩
      · go_wp2_with (go_at_call 128; refine HC.out.mono ?_; rintro e w1 ⟨rfl, hb1⟩; rw [HR.out])
        go_roundw
        case rel => exact ⟨k + 1, by omega, by go_num, (all_take HA.out HZ.out).trans (by rw [HR.out]; simp; omega), bel_next hbe hsz hb1⟩
        case measure => simp [intOf]; omega
    · go_wp2
      go_ret
      exact ⟨ret_bool (all_end HA.out (by omega)).symm, hbe⟩
set_option maxRecDepth 100000 in
theorem c_sHoldsIn {S T : Nat → Prop} (a b b' : Option Addr) (ca cb cb' : Nat) (ts : List Term) (us vs : List Int) (w : World) (hx : SlRd cTerm S w a ca ts) (hu : SlRd cInt T w b cb us) (hv : SlRd cInt T w b' cb' vs) :
    Calls Try.prog 58 #[.slice a ts.length ca, .agg #[.slice b us.length cb, .slice b' vs.length cb']] w fun e w' => e = .returned (.tuple #[.bool (holdsInF ts (us, vs)).1, .bool (holdsInF ts (us, vs)).2]) ∧ Below w.heap.size w w' := by
  have HX := hid (hx.alloc (.cells #[.slice b us.length cb, .slice b' vs.length cb'] 88))
  have HU := hid (hu.alloc (.cells #[.slice b us.length cb, .slice b' vs.length cb'] 88))
  have HV := hid (hv.alloc (.cells #[.slice b us.length cb, .slice b' vs.length cb'] 88))
  have HB0 : Hid (Below w.heap.size w (w.alloc (.cells #[.slice b us.length cb, .slice b' vs.length cb'] 88))) := (Below.refl _ _).alloc (Nat.le_refl _) _
  have t0 : (w.alloc (.cells #[.slice b us.length cb, .slice b' vs.length cb'] 88)).cell? ⟨w.heap.size, 0, none⟩ = some (.slice b us.length cb) := by rw [World.cell?_alloc_at _ _ _ _ rfl]; rfl
  have t1 : (w.alloc (.cells #[.slice b us.length cb, .slice b' vs.length cb'] 88)).cell? ⟨w.heap.size, 0 + 1, none⟩ = some (.slice b' vs.length cb') := by rw [World.cell?_alloc_at _ _ _ _ rfl]; rfl
  have HT := hid (c_l03State _ _ _ _ _ _ _ _ _ t0 t1 HU.out HV.out)
  have HT0 := hid t0
  clear hx hu hv t0 t1
  obtain ⟨p, hp⟩ : ∃ p, areOverF ts 14 = p := ⟨_, rfl⟩
  obtain ⟨q, hq⟩ : ∃ q, validState (us, vs) = q := ⟨_, rfl⟩
  have HP := hid hp
  have HQ := hid hq
  clear hp hq
  cases p
  · have HF : Hid (holdsInF ts (us, vs) = (false, false)) := by unfold Hid holdsInF; rw [HP.out]; rfl
    go_enter Try.func58, Try.ntmps58
    go_wp2_with (go_at_call 105; refine (c_l03Terms _ _ _ _ _ HX.out).mono ?_; rintro e w1 ⟨rfl, rfl⟩; rw [HP.out])
    go_ret2
    exact ⟨by rw [HF.out]; rfl, HB0.out⟩
  · cases q
    · have HF : Hid (holdsInF ts (us, vs) = (false, false)) := by unfold Hid holdsInF; rw [HQ.out]; simp
      go_enter Try.func58, Try.ntmps58
      go_wp2_with (first | (go_at_call 105; refine (c_l03Terms _ _ _ _ _ HX.out).mono ?_; rintro e w1 ⟨rfl, rfl⟩; rw [HP.out]) | (go_at_call 106; refine HT.out.mono ?_; rintro e w1 ⟨rfl, rfl⟩; rw [HQ.out]))
      go_ret2
      exact ⟨by rw [HF.out]; rfl, HB0.out⟩
    · have HF : Hid (holdsInF ts (us, vs) = (holdsF ts us, true)) := by unfold Hid holdsInF; rw [HP.out, HQ.out]; rfl
      obtain ⟨l4, l8, hbig, hbig2⟩ := validState_iff HQ.out
      have HBG := hid hbig
      have HO : Hid (∀ t ∈ ts, validTerm t = true ∧ t.2.length ≤ us.length) := fun t ht => by have := areOverF_iff HP.out t ht; simp only at l4; exact ⟨this.1, by omega⟩
      have HC := hid (c_l03Holds _ _ _ _ _ _ _ _ _ HX.out HU.out HT0.out (by simp) HO.out HBG.out)
      clear l4 l8 hbig hbig2
      go_enter Try.func58, Try.ntmps58
      go_wp2_with (first | (go_at_call 105; refine (c_l03Terms _ _ _ _ _ HX.out).mono ?_; rintro e w1 ⟨rfl, rfl⟩; rw [HP.out]) | (go_at_call 106; refine HT.out.mono ?_; rintro e w1 ⟨rfl, rfl⟩; rw [HQ.out]) | (go_at_call 107; refine HC.out.mono ?_; rintro e w2 ⟨rfl, hb2⟩))
      go_ret2
      exact ⟨by rw [HF.out]; rfl, bel_next HB0.out HB0.out.size hb2⟩
end Go.Proofs.Ytmpanchappoejaa
