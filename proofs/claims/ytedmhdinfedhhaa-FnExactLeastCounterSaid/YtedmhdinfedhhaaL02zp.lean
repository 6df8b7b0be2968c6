/- Plain: the least counterexample, found by counting through the numbers of some symbols. No program in sight. -/
import Derived.Test.YtedmhdinfedhhaaL02q
import Derived.Test.YtedmhdinfedhhaaL02yp
namespace Go.Proofs.Ytedmhdinfedhhaa

/-- The symbols: their number is small, they differ and lie below 10. -/
structure SyOk (sy : List Int) : Prop where
  le : sy.length ≤ 10
  rng : ∀ x ∈ sy, 0 ≤ x ∧ x < 10
  srt : Srt sy
theorem SyOk.ne {sy : List Int} (h : SyOk sy) {i j : Nat} {x y : Int} (hi : sy[i]? = some x) (hj : sy[j]? = some y) (hij : i < j) : x.toNat ≠ y.toNat := by
  have h1 := List.getElem?_eq_some_iff.1 hi
  have h2 := List.getElem?_eq_some_iff.1 hj
  obtain ⟨a1, a2⟩ := h1
  obtain ⟨b1, b2⟩ := h2
  have := (List.pairwise_iff_getElem.1 h.srt) i j a1 b1 hij
  have r1 := h.rng x (List.mem_of_getElem? hi)
  have r2 := h.rng y (List.mem_of_getElem? hj)
  rw [a2, b2] at this
  omega
theorem symF_ok (ts : List Term) : SyOk (symF ts) :=
  ⟨symK_len ts 10, fun x hx => by obtain ⟨j, rfl, hj, _⟩ := mem_symK.1 hx; omega, symK_srt ts 10⟩
/-- Values within bounds. -/
def VOk (r : Int) (vs : List Int) : Prop := vs.length = 10 ∧ ∀ v ∈ vs, -r ≤ v ∧ v ≤ r
theorem VOk.set {r : Int} {vs : List Int} (h : VOk r vs) {q : Nat} {z : Int} (h1 : -r ≤ z) (h2 : z ≤ r) : VOk r (vs.set q z) :=
  ⟨by rw [List.length_set]; exact h.1, fun v hv => by
    rcases List.mem_or_eq_of_mem_set hv with g | g
    · exact h.2 v g
    · subst g; exact ⟨h1, h2⟩⟩
theorem VOk.at {r : Int} {vs : List Int} (h : VOk r vs) {q : Nat} {v : Int} (hv : vs[q]? = some v) : -r ≤ v ∧ v ≤ r := h.2 v (List.mem_of_getElem? hv)
theorem VOk.zero {r : Int} (hr : 0 ≤ r) : VOk r (List.replicate 10 0) := ⟨by simp, fun v hv => by rw [(List.mem_replicate.1 hv).2]; omega⟩
def valAt (sy : List Int) (vs : List Int) (j : Nat) : Int := vs.getD (sy.getD j 0).toNat 0
theorem valAt_eq {sy vs : List Int} {j : Nat} {x v : Int} (h : sy[j]? = some x) (hv : vs[x.toNat]? = some v) : valAt sy vs j = v := by
  unfold valAt; rw [List.getD_eq_getElem?_getD, List.getD_eq_getElem?_getD, h]; simp [hv]
/-- The next values, the first so many symbols counted up. -/
def incF (sy : List Int) (r : Int) : Nat → List Int → Option (List Int)
  | 0, _ => none
  | j + 1, vs => if valAt sy vs j = r then incF sy r j (vs.set (sy.getD j 0).toNat (-r)) else some (vs.set (sy.getD j 0).toNat (valAt sy vs j + 1))
theorem incF_full {sy : List Int} {r : Int} {j : Nat} {vs : List Int} {x v : Int} (h : sy[j]? = some x) (hv : vs[x.toNat]? = some v) (hr : v = r) : incF sy r (j + 1) vs = incF sy r j (vs.set x.toNat (-r)) := by
  conv => lhs; unfold incF
  rw [if_pos (by rw [valAt_eq h hv]; exact hr), List.getD_eq_getElem?_getD, h]; rfl
theorem incF_step {sy : List Int} {r : Int} {j : Nat} {vs : List Int} {x v : Int} (h : sy[j]? = some x) (hv : vs[x.toNat]? = some v) (hr : v ≠ r) : incF sy r (j + 1) vs = some (vs.set x.toNat (v + 1)) := by
  conv => lhs; unfold incF
  rw [valAt_eq h hv, if_neg hr, List.getD_eq_getElem?_getD, h]; rfl
/-- How much is still to be counted. -/
def rkF (sy : List Int) (r : Int) (vs : List Int) : Nat → Int
  | 0 => 0
  | j + 1 => rkF sy r vs j * (2 * r + 1) + (r - valAt sy vs j)
theorem rkF_nonneg {sy : List Int} {r : Int} {vs : List Int} (hr : 0 ≤ r) (hv : VOk r vs) (j : Nat) : 0 ≤ rkF sy r vs j := by
  induction j with
  | zero => exact Int.le_refl _
  | succ j ih =>
    have h1 : valAt sy vs j ≤ r := by
      unfold valAt; rw [List.getD_eq_getElem?_getD]
      cases e : vs[(sy.getD j 0).toNat]? with
      | none => simpa using hr
      | some v => simpa using (hv.at e).2
    have h2 : 0 ≤ rkF sy r vs j * (2 * r + 1) := Int.mul_nonneg ih (by omega)
    show 0 ≤ rkF sy r vs j * (2 * r + 1) + (r - valAt sy vs j)
    omega
theorem rkF_le {sy : List Int} {r : Int} {vs : List Int} (hr : 0 ≤ r) (hr4 : r ≤ 4) (hv : VOk r vs) : ∀ (j : Nat), j ≤ 4 → rkF sy r vs j + 1 ≤ 6561 ∧ rkF sy r vs j + 1 ≤ 9 ^ j := by
  have hval : ∀ j, -r ≤ valAt sy vs j := fun j => by
    unfold valAt; rw [List.getD_eq_getElem?_getD]
    cases e : vs[(sy.getD j 0).toNat]? with
    | none => simp; omega
    | some v => simpa using (hv.at e).1
  have key : ∀ j : Nat, rkF sy r vs j + 1 ≤ 9 ^ j := by
    intro j
    induction j with
    | zero => simp [rkF]
    | succ j ih =>
      have h1 := hval j
      have h0 := rkF_nonneg (sy := sy) hr hv j
      have h2 : rkF sy r vs j * (2 * r + 1) ≤ rkF sy r vs j * 9 := Int.mul_le_mul_of_nonneg_left (by omega) h0
      have h3 : (9 : Int) ^ (j + 1) = 9 ^ j * 9 := Int.pow_succ 9 j
      show rkF sy r vs j * (2 * r + 1) + (r - valAt sy vs j) + 1 ≤ _
      rw [h3]; omega
  intro j hj
  refine ⟨?_, key j⟩
  have := key j
  have h9 : (9 : Int) ^ j ≤ 6561 := by
    match j, hj with
    | 0, _ => decide
    | 1, _ => decide
    | 2, _ => decide
    | 3, _ => decide
    | 4, _ => decide
  omega
theorem valAt_set_ne {sy vs : List Int} (hs : SyOk sy) {i j : Nat} {x y : Int} (hi : sy[i]? = some x) (hj : sy[j]? = some y) (hij : i < j) (z : Int) : valAt sy (vs.set y.toNat z) i = valAt sy vs i := by
  unfold valAt
  rw [List.getD_eq_getElem?_getD (l := sy), hi]
  simp only [Option.getD_some]
  rw [List.getD_eq_getElem?_getD, List.getD_eq_getElem?_getD, List.getElem?_set_ne (hs.ne hi hj hij).symm]
theorem rkF_set {sy vs : List Int} (hs : SyOk sy) {r : Int} {j : Nat} {y : Int} (hj : sy[j]? = some y) (z : Int) : ∀ m, m ≤ j → rkF sy r (vs.set y.toNat z) m = rkF sy r vs m := by
  intro m
  induction m with
  | zero => intro _; rfl
  | succ m ih =>
    intro hm
    have hlt : m < sy.length := by have := (List.getElem?_eq_some_iff.1 hj).1; omega
    show _ * _ + _ = _ * _ + _
    rw [ih (by omega), valAt_set_ne hs (List.getElem?_eq_getElem hlt) hj (by omega)]
theorem valAt_set_eq {sy vs : List Int} {j : Nat} {y : Int} (hj : sy[j]? = some y) (hl : y.toNat < vs.length) (z : Int) : valAt sy (vs.set y.toNat z) j = z :=
  valAt_eq hj (List.getElem?_set_self hl)
theorem incF_keep {sy : List Int} (hs : SyOk sy) {r : Int} : ∀ (m : Nat) (vs vs' : List Int) (j : Nat) (y : Int), sy[j]? = some y → m ≤ j → incF sy r m vs = some vs' → valAt sy vs' j = valAt sy vs j := by
  intro m
  induction m with
  | zero => intro vs vs' j y _ _ h; cases h
  | succ m ih =>
    intro vs vs' j y hj hm h
    have hlt : m < sy.length := by have := (List.getElem?_eq_some_iff.1 hj).1; omega
    have hx := List.getElem?_eq_getElem hlt
    have hkeep : ∀ z, valAt sy (vs.set (sy.getD m 0).toNat z) j = valAt sy vs j := fun z => by
      have hne := (hs.ne hx hj (by omega))
      unfold valAt
      rw [List.getD_eq_getElem?_getD (l := sy) (i := j), hj, List.getD_eq_getElem?_getD (l := sy) (i := m), hx]
      simp only [Option.getD_some]
      rw [List.getD_eq_getElem?_getD, List.getD_eq_getElem?_getD, List.getElem?_set_ne hne]
    unfold incF at h
    split at h
    · rw [ih _ _ _ _ hj (by omega) h, hkeep]
    · cases h; exact hkeep _
theorem incF_dec {sy : List Int} (hs : SyOk sy) {r : Int} (hr : 0 ≤ r) : ∀ (m : Nat) (vs vs' : List Int), VOk r vs → m ≤ sy.length → incF sy r m vs = some vs' → VOk r vs' ∧ rkF sy r vs' m + 1 ≤ rkF sy r vs m := by
  intro m
  induction m with
  | zero => intro vs vs' _ _ h; cases h
  | succ m ih =>
    intro vs vs' hv hm h
    have hlt : m < sy.length := by omega
    have hx := List.getElem?_eq_getElem hlt
    obtain ⟨y, hy⟩ : ∃ y, sy[m] = y := ⟨_, rfl⟩
    rw [hy] at hx
    have hyr := hs.rng y (List.mem_of_getElem? hx)
    have hyl : y.toNat < vs.length := by rw [hv.1]; omega
    have hvy := List.getElem?_eq_getElem hyl
    obtain ⟨v, hve⟩ : ∃ v, vs[y.toNat] = v := ⟨_, rfl⟩
    rw [hve] at hvy
    have hvr := hv.at hvy
    by_cases hvx : v = r
    · rw [incF_full hx hvy hvx] at h
      obtain ⟨g1, g2⟩ := ih _ _ (hv.set (q := y.toNat) (z := -r) (by omega) (by omega)) (by omega) h
      refine ⟨g1, ?_⟩
      rw [rkF_set hs hx (-r) m (Nat.le_refl _)] at g2
      have g3 : valAt sy vs' m = -r := by rw [incF_keep hs m _ _ m y hx (Nat.le_refl _) h, valAt_set_eq hx hyl]
      have g4 : valAt sy vs m = r := by rw [valAt_eq hx hvy, hvx]
      show rkF sy r vs' m * (2 * r + 1) + (r - valAt sy vs' m) + 1 ≤ rkF sy r vs m * (2 * r + 1) + (r - valAt sy vs m)
      rw [g3, g4]
      have h5 : (rkF sy r vs' m + 1) * (2 * r + 1) ≤ rkF sy r vs m * (2 * r + 1) := Int.mul_le_mul_of_nonneg_right g2 (by omega)
      rw [Int.add_mul, Int.one_mul] at h5
      omega
    · rw [incF_step hx hvy hvx] at h
      cases h
      refine ⟨hv.set (by omega) (by omega), ?_⟩
      show rkF sy r (vs.set y.toNat (v + 1)) m * (2 * r + 1) + (r - valAt sy (vs.set y.toNat (v + 1)) m) + 1 ≤ rkF sy r vs m * (2 * r + 1) + (r - valAt sy vs m)
      rw [rkF_set hs hx (v + 1) m (Nat.le_refl _), valAt_set_eq hx hyl, valAt_eq hx hvy]
      omega
/-- Counted on until the sequent is refuted. -/
def runL (s : Sq) (sy : List Int) (r : Int) : Nat → List Int → Option (List Int)
  | 0, _ => none
  | f + 1, vs => if counterB s vs then some vs else (match incF sy r sy.length vs with
    | none => none
    | some vs' => runL s sy r f vs')
/-- The first values. -/
def begF (sy : List Int) (r : Int) (k : Nat) : List Int := (sy.take k).foldl (fun vs x => vs.set x.toNat (-r)) (List.replicate 10 0)
theorem begF_succ {sy : List Int} {r : Int} {k : Nat} {x : Int} (h : sy[k]? = some x) : begF sy r (k + 1) = (begF sy r k).set x.toNat (-r) := by
  unfold begF; rw [List.take_add_one, h, List.foldl_append]; rfl
theorem begF_ok {sy : List Int} {r : Int} (hr : 0 ≤ r) (k : Nat) : VOk r (begF sy r k) := by
  induction k with
  | zero => exact VOk.zero hr
  | succ k ih =>
    cases h : sy[k]? with
    | none =>
      have : begF sy r (k + 1) = begF sy r k := by unfold begF; rw [List.take_add_one, h]; simp
      rw [this]; exact ih
    | some x => rw [begF_succ h]; exact ih.set (by omega) (by omega)
/-- The state of the count: from these values on the same is found. -/
def LInv (s : Sq) (sy : List Int) (r : Int) (res : Option (List Int)) (K : Nat) (vs : List Int) : Prop :=
  VOk r vs ∧ rkF sy r vs sy.length ≤ K ∧ ∃ f : Nat, rkF sy r vs sy.length < f ∧ runL s sy r f vs = res
theorem LInv.next {s : Sq} {sy : List Int} {r : Int} {res : Option (List Int)} {K : Nat} {vs vs' : List Int} (hs : SyOk sy) (hr : 0 ≤ r) (h : LInv s sy r res K vs) (hc : counterB s vs = false) (hn : incF sy r sy.length vs = some vs') : ∃ K', K' < K ∧ LInv s sy r res K' vs' := by
  obtain ⟨h1, h2, f, h3, h4⟩ := h
  obtain ⟨g1, g2⟩ := incF_dec hs hr _ _ _ h1 (Nat.le_refl _) hn
  have g0 := rkF_nonneg (sy := sy) hr g1 sy.length
  obtain ⟨f, rfl⟩ : ∃ f', f = f' + 1 := ⟨f - 1, by omega⟩
  refine ⟨(rkF sy r vs' sy.length).toNat, by omega, g1, by omega, f, by omega, ?_⟩
  rw [← h4]
  conv => rhs; unfold runL
  rw [if_neg (by rw [hc]; simp), hn]
theorem LInv.stop {s : Sq} {sy : List Int} {r : Int} {res : Option (List Int)} {K : Nat} {vs : List Int} (hr : 0 ≤ r) (h : LInv s sy r res K vs) (hc : counterB s vs = false) (hn : incF sy r sy.length vs = none) : res = none := by
  obtain ⟨h1, h2, f, h3, h4⟩ := h
  have g0 := rkF_nonneg (sy := sy) hr h1 sy.length
  obtain ⟨f, rfl⟩ : ∃ f', f = f' + 1 := ⟨f - 1, by omega⟩
  rw [← h4]
  unfold runL
  rw [if_neg (by rw [hc]; simp), hn]
theorem LInv.found {s : Sq} {sy : List Int} {r : Int} {res : Option (List Int)} {K : Nat} {vs : List Int} (hr : 0 ≤ r) (h : LInv s sy r res K vs) (hc : counterB s vs = true) : res = some vs := by
  obtain ⟨h1, h2, f, h3, h4⟩ := h
  have g0 := rkF_nonneg (sy := sy) hr h1 sy.length
  obtain ⟨f, rfl⟩ : ∃ f', f = f' + 1 := ⟨f - 1, by omega⟩
  rw [← h4]
  unfold runL
  rw [if_pos hc]
def leastO (s : Sq) (sy : List Int) (r : Int) : Option (List Int) := runL s sy r 6562 (begF sy r sy.length)
theorem LInv.begin (s : Sq) {sy : List Int} {r : Int} (hr : 0 ≤ r) (hr4 : r ≤ 4) (h4 : sy.length ≤ 4) : LInv s sy r (leastO s sy r) 6561 (begF sy r sy.length) := by
  have h1 := begF_ok (sy := sy) hr sy.length
  have h2 := (rkF_le (sy := sy) hr hr4 h1 sy.length h4).1
  exact ⟨h1, by omega, 6562, by omega, rfl⟩
def optB : Option (List Int) → List Int × Bool
  | none => ([], false)
  | some v => (v, true)
def leastF (s : Sq) (r : Int) : List Int × Bool := if (validSq s && inB r 0 4) && decide ((symF (s.1 ++ [s.2])).length ≤ 4) then optB (leastO s (symF (s.1 ++ [s.2])) r) else ([], false)
theorem runL_len {s : Sq} {sy : List Int} {r : Int} (hs : SyOk sy) (hr : 0 ≤ r) : ∀ (f : Nat) (vs : List Int) {o : List Int}, VOk r vs → runL s sy r f vs = some o → VOk r o
  | 0, _, _, _, h => by cases h
  | f + 1, vs, o, hv, h => by
    unfold runL at h
    split at h
    · cases h; exact hv
    · cases hn : incF sy r sy.length vs with
      | none => rw [hn] at h; cases h
      | some vs' =>
        rw [hn] at h
        exact runL_len hs hr f vs' (incF_dec hs hr _ _ _ hv (Nat.le_refl _) hn).1 h
theorem leastF_len (s : Sq) (r : Int) : (leastF s r).1.length ≤ 1048576 := by
  unfold leastF
  split
  · rename_i h
    simp only [Bool.and_eq_true] at h
    have hr := inB_iff.1 h.1.2
    cases e : leastO s (symF (s.1 ++ [s.2])) r with
    | none => simp [optB]
    | some v =>
      have := runL_len (symF_ok _) hr.1 _ _ (begF_ok hr.1 _) e
      simp only [optB]; rw [this.1]; omega
  · simp
end Go.Proofs.Ytedmhdinfedhhaa
