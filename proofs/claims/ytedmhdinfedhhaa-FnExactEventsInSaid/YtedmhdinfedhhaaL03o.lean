/- Contracts: terms over variables, and whether they hold in a state. -/
import Derived.Test.YtedmhdinfedhhaaL03
import Derived.Test.YtedmhdinfedhhaaL02s
import Derived.Test.YtedmhdinfedhhaaL02v
import Derived.Test.YtedmhdinfedhhaaL07c
namespace Go.Proofs.Ytedmhdinfedhhaa
open Go.RowKit

def overT (t : Term) : Bool := validTerm t && decide (t.2.length ≤ 4)
def areOverF (ts : List Term) (most : Int) : Bool := decide ((ts.length : Int) ≤ most) && ts.all overT
def holdsF (ts : List Term) (vs : List Int) : Bool := ts.all fun t => decide (0 ≤ evalT t vs)
def holdsInF (ts : List Term) (s : St) : Bool × Bool := if areOverF ts 14 && validState s then (holdsF ts s.1, true) else (false, false)
theorem areOverF_iff {ts : List Term} {most : Int} (h : areOverF ts most = true) : ∀ t ∈ ts, validTerm t = true ∧ t.2.length ≤ 4 := by
  simp only [areOverF, Bool.and_eq_true, List.all_eq_true] at h
  intro t ht
  have := h.2 t ht
  simpa [overT] using this
theorem validState_iff {s : St} (h : validState s = true) : s.1.length = 4 ∧ s.2.length = 8 ∧ (∀ v ∈ s.1, Big v) ∧ (∀ v ∈ s.2, Big v) := by
  simp only [validState, numsOk, Bool.and_eq_true, decide_eq_true_eq] at h
  exact ⟨h.1.1, h.2.1, big_of h.1.2, big_of h.2.2⟩
theorem c_isOver {S : Nat → Prop} (c : Int) (a : Option Addr) (cap : Nat) (zs : List Int) (w : World) (h : SlRd cInt S w a cap zs) :
    Calls Try.prog 152 #[.agg #[.int .i64 c, .slice a zs.length cap]] w fun e w' => e = .returned (.bool (overT (c, zs))) ∧ Below w.heap.size w w' := by
  have H := hid (h.alloc (.cells #[.int .i64 c, .slice a zs.length cap] 50))
  have hl := h.len_le
  clear h
  obtain ⟨r, hr⟩ : ∃ r, validTerm (c, zs) = r := ⟨_, rfl⟩
  have HR := hid hr
  clear hr
  cases r
  all_goals
    go_enter Try.func152, Try.ntmps152
    go_wp2_with (go_at_call 94; refine (c_ValidTerm _ _ _ _ _ H.out).mono ?_; rintro e w1 ⟨rfl, hb1⟩; rw [HR.out]; have t1 := cell_below hb1 (b := w.heap.size) (o := 1) (v := .slice a zs.length cap) (by simp) (by simp [go_sem]))
    go_ret
    exact ⟨ret_bool (by unfold overT; rw [HR.out, Bool.eq_iff_iff]; simp <;> omega), bel_box (Below.refl _ _) (Nat.le_refl _) hb1⟩
theorem c_areOver1 {S : Nat → Prop} (c : Int) (a : Option Addr) (cap : Nat) (zs : List Int) (w : World) (h : SlRd cInt S w a cap zs) :
    Calls Try.prog 151 #[.agg #[.int .i64 c, .slice a zs.length cap]] w fun e w' => e = .returned (.bool (!overT (c, zs))) ∧ Below w.heap.size w w' := by
  have H := hid (h.alloc (.cells #[.int .i64 c, .slice a zs.length cap] 50))
  clear h
  obtain ⟨r, hr⟩ : ∃ r, overT (c, zs) = r := ⟨_, rfl⟩
  have HR := hid hr
  clear hr
  go_enter Try.func151, Try.ntmps151
  go_wp2_with (go_at_call 152; refine (c_isOver _ _ _ _ _ H.out).mono ?_; rintro e w1 ⟨rfl, hb1⟩; rw [HR.out])
  go_ret
  exact ⟨ret_bool (by rw [HR.out]), bel_box (Below.refl _ _) (Nat.le_refl _) hb1⟩
theorem c_idxNotOver {S : Nat → Prop} (a : Option Addr) (cap : Nat) (xs : List Term) (w : World) (h : SlRd cTerm S w a cap xs) :
    Calls Try.prog 156 #[.slice a xs.length cap, .func (.func 151) #[] #[]] w (RetIdx (fun x => !overT x) xs w) := by
  have hl := h.len_le
  have H := hid h
  clear h
  go_enter Try.func156, Try.ntmps156
  go_wp2
  go_loopw [8] (fun i wr => ∃ k : Nat, k ≤ xs.length ∧ i = .int .i64 k ∧ Hid ((xs.take k).all (fun x => !!overT x) = true) ∧ Below w.heap.size w wr) (fun i _ => xs.length - (intOf i).toNat)
  case atStart => exact ⟨0, Nat.zero_le _, rfl, rfl, Below.refl _ _⟩
  case round =>
    obtain ⟨k, hk, rfl, HA, hbe⟩ := hrel
    have hsz := hbe.size
    by_cases hlt : k < xs.length
    · obtain ⟨b, off, rfl⟩ := H.out.some_of hlt
      obtain ⟨c, zs, a', cap', hz, hc1, hsl, hc, hc', hb⟩ := (H.out.below (Nat.le_refl _) hbe).term_at k hlt
      have HZ := hid hz
      have HS := hid hsl
      clear hz hsl
      obtain ⟨r, hr⟩ : ∃ r, overT (c, zs) = r := ⟨_, rfl⟩
      have HR := hid hr
      clear hr
      cases r
      · go_wp2_with (go_at_call 151; refine (c_areOver1 _ _ _ _ _ HS.out).mono ?_; rintro e w1 ⟨rfl, hb1⟩; rw [HR.out])
        go_ret
        exact ⟨k, rfl, .inr ⟨k, _, rfl, HZ.out, by simp [HR.out], HA.out⟩, bel_next hbe hsz hb1⟩
      · go_wp2_with (go_at_call 151; refine (c_areOver1 _ _ _ _ _ HS.out).mono ?_; rintro e w1 ⟨rfl, hb1⟩; rw [HR.out])
        go_roundw
        case rel => exact ⟨k + 1, by omega, by go_num, (all_take HA.out HZ.out).trans (by simp [HR.out]), bel_next hbe hsz hb1⟩
        case measure => simp [intOf]; omega
    · have HE := hid (all_end HA.out (Nat.le_of_not_lt hlt))
      go_wp2
      go_ret
      exact ⟨-1, rfl, .inl ⟨rfl, HE.out⟩, hbe⟩
theorem c_areOver {S : Nat → Prop} (a : Option Addr) (cap : Nat) (ts : List Term) (most : Int) (w : World) (h : SlRd cTerm S w a cap ts) :
    Calls Try.prog 116 #[.slice a ts.length cap, .int .i64 most] w fun e w' => e = .returned (.bool (areOverF ts most)) ∧ Below w.heap.size w w' := by
  have H := hid h
  have hl := h.len_le
  clear h
  by_cases h1 : (ts.length : Int) ≤ most
  · have HF : Hid (areOverF ts most = ts.all overT) := by unfold Hid; simp [areOverF, h1]
    go_enter Try.func116, Try.ntmps116
    go_wp2_with (first | (go_at_call 156; refine (c_idxNotOver _ _ _ _ H.out).mono ?_; rintro e w1 ⟨r, rfl, hok, hb1⟩; have hd := hok.all; have HD := hid hd; clear hd hok) | go_in)
    go_ret
    exact ⟨ret_bool (by rw [HF.out, HD.out]; simp), hb1⟩
  · have HF : Hid (areOverF ts most = false) := by unfold Hid; simp [areOverF]; omega
    go_enter Try.func116, Try.ntmps116
    go_wp2
    go_ret
    exact ⟨ret_bool HF.out.symm, Below.refl _ _⟩
theorem c_hold {S T : Nat → Prop} (a b : Option Addr) (ca cb : Nat) (ts : List Term) (vs : List Int) (w : World) (hx : SlRd cTerm S w a ca ts) (hy : SlRd cInt T w b cb vs) (ht : ∀ t ∈ ts, validTerm t = true ∧ t.2.length ≤ vs.length) (hv : ∀ v ∈ vs, Big v) :
    Calls Try.prog 127 #[.slice a ts.length ca, .slice b vs.length cb] w fun e w' => e = .returned (.bool (holdsF ts vs)) ∧ Below w.heap.size w w' := by
  have hl := hx.len_le
  have H := hid hx
  have HY := hid hy
  have HV := hid hv
  have HT := hid ht
  clear hx hy hv ht
  go_enter Try.func127, Try.ntmps127
  go_wp2
  go_loopw [9] (fun i wr => ∃ k : Nat, k ≤ ts.length ∧ i = .int .i64 k ∧ Hid ((ts.take k).all (fun t => decide (0 ≤ evalT t vs)) = true) ∧ Below w.heap.size w wr) (fun i _ => ts.length - (intOf i).toNat)
  case atStart => exact ⟨0, Nat.zero_le _, rfl, rfl, Below.refl _ _⟩
  case round =>
    obtain ⟨k, hk, rfl, HA, hbe⟩ := hrel
    have hsz := hbe.size
    by_cases hlt : k < ts.length
    · obtain ⟨b1, off, rfl⟩ := H.out.some_of hlt
      obtain ⟨c, zs, a', cap', hz, hc1, hsl, hc, hc', hb⟩ := (H.out.below (Nat.le_refl _) hbe).term_at k hlt
      obtain ⟨hv1, hlz⟩ := HT.out _ (List.mem_of_getElem? hz)
      obtain ⟨hlt10, hcm, hzm, _⟩ := validTerm_iff hv1
      have HZM := hid hzm
      have HCM := hid hcm
      have HZ := hid hz
      have HS := hid (hsl.alloc (.cells #[.int .i64 c, .slice a' zs.length cap'] 50))
      have HY1 := hid ((HY.out.below (Nat.le_refl _) hbe).alloc (.cells #[.int .i64 c, .slice a' zs.length cap'] 50))
      simp only at hlz hlt10
      clear hz hsl hv1 hzm hcm
      by_cases hneg : evalT (c, zs) vs < 0
      · obtain ⟨r, hr⟩ : ∃ r, evalT (c, zs) vs = r := ⟨_, rfl⟩
        have HR := hid hr
        rw [hr] at hneg
        clear hr
        have HF : Hid (holdsF ts vs = false) := all_false HZ.out (by rw [HR.out]; simp; omega)
        go_wp2_with (go_at_call 128; refine (c_eval _ _ _ _ _ _ _ _ HS.out HY1.out HCM.out HZM.out HV.out hlt10 hlz).mono ?_; rintro e w1 ⟨rfl, hb1⟩; rw [HR.out])
        go_ret
        exact ⟨ret_bool HF.out.symm, bel_box hbe hsz hb1⟩
      · obtain ⟨r, hr⟩ : ∃ r, evalT (c, zs) vs = r := ⟨_, rfl⟩
        have HR := hid hr
        rw [hr] at hneg
        clear hr
        go_wp2_with (go_at_call 128; refine (c_eval _ _ _ _ _ _ _ _ HS.out HY1.out HCM.out HZM.out HV.out hlt10 hlz).mono ?_; rintro e w1 ⟨rfl, hb1⟩; rw [HR.out])
        go_roundw
        case rel => exact ⟨k + 1, by omega, by go_num, (all_take HA.out HZ.out).trans (by rw [HR.out]; simp; omega), bel_box hbe hsz hb1⟩
        case measure => simp [intOf]; omega
    · go_wp2
      go_ret
      exact ⟨ret_bool (all_end HA.out (by omega)).symm, hbe⟩
theorem c_l03Term {S : Nat → Prop} (b off : Nat) (c : Int) (a : Option Addr) (cap : Nat) (zs : List Int) (w : World) (hc : w.cell? ⟨b, off, none⟩ = some (.int .i64 c)) (hc' : w.cell? ⟨b, off + 1, none⟩ = some (.slice a zs.length cap)) (h : SlRd cInt S w a cap zs) :
    Calls Try.prog 159 #[.pointer (some ⟨b, off, none⟩)] w fun e w' => e = .returned (.bool (overT (c, zs))) ∧ w = w' := by
  have hl := h.len_le
  have HC := hid (c_l02Is _ _ _ _ _ _ _ hc hc' h)
  clear h
  obtain ⟨r, hr⟩ : ∃ r, validTerm (c, zs) = r := ⟨_, rfl⟩
  have HR := hid hr
  clear hr
  cases r
  all_goals
    go_enter Try.func159, Try.ntmps159
    go_wp2_with (go_at_call 86; refine HC.out.mono ?_; rintro e w' ⟨rfl, rfl⟩; rw [HR.out])
    go_ret
    exact ⟨ret_bool (by unfold overT; rw [HR.out, Bool.eq_iff_iff]; simp <;> omega), rfl⟩
theorem c_l03Terms {S : Nat → Prop} (a : Option Addr) (cap : Nat) (ts : List Term) (most : Int) (w : World) (h : SlRd cTerm S w a cap ts) :
    Calls Try.prog 139 #[.slice a ts.length cap, .int .i64 most] w fun e w' => e = .returned (.bool (areOverF ts most)) ∧ w = w' := by
  have hl := h.len_le
  have H := hid h
  clear h
  go_enter Try.func139, Try.ntmps139
  go_wp2
  go_loop [5] (fun i => ∃ k : Nat, k ≤ ts.length ∧ i = .int .i64 k ∧ Hid ((ts.take k).all overT = true)) (fun i => ts.length - (intOf i).toNat)
  case atStart => exact ⟨0, Nat.zero_le _, rfl, rfl⟩
  case round =>
    obtain ⟨k, hk, rfl, HA⟩ := hrel
    by_cases hlt : k < ts.length
    · obtain ⟨b, off, rfl⟩ := H.out.some_of hlt
      obtain ⟨c, zs, a', cap', hz, hc1, hsl, hc, hc', hb⟩ := H.out.term_at k hlt
      have HZ := hid hz
      clear hz
      by_cases hin : overT (c, zs) = true
      · go_wp2_with (go_at_call 159; refine (c_l03Term _ _ _ _ _ _ _ hc hc' hsl).mono ?_; rintro e w' ⟨rfl, rfl⟩)
        go_round
        case rel => exact ⟨k + 1, by omega, by go_num, (all_take HA.out HZ.out).trans hin⟩
        case measure => simp [intOf]; omega
      · have hin' : overT (c, zs) = false := by simpa using hin
        go_wp2_with (go_at_call 159; refine (c_l03Term _ _ _ _ _ _ _ hc hc' hsl).mono ?_; rintro e w' ⟨rfl, rfl⟩)
        go_ret
        exact ⟨ret_bool (by simp [areOverF, all_false HZ.out hin']), rfl⟩
    · go_wp2
      go_ret
      exact ⟨ret_bool (by simp [areOverF, all_end HA.out (by omega)]), rfl⟩
end Go.Proofs.Ytedmhdinfedhhaa
