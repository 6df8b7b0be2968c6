/- Plain: the longest way without points. No program in sight but the places behind an instruction. -/
import Derived.Test.YtedmhdinfedhhaaL08o
namespace Go.Proofs.Ytedmhdinfedhhaa

def mx (L : List Int) (g : Int → Int) : Int := L.foldl (fun m t => max m (g t)) 0
theorem mx_snoc (L : List Int) (t : Int) (g : Int → Int) : mx (L ++ [t]) g = max (mx L g) (g t) := by simp [mx, List.foldl_append]
theorem mx_take {L : List Int} {j : Nat} {t : Int} (g : Int → Int) (h : L[j]? = some t) : mx (L.take (j + 1)) g = max (mx (L.take j) g) (g t) := by
  rw [List.take_add_one, h]; exact mx_snoc _ _ _
theorem mxA_ge (g : Int → Int) : ∀ (L : List Int) (m : Int), m ≤ L.foldl (fun m t => max m (g t)) m ∧ ∀ t ∈ L, g t ≤ L.foldl (fun m t => max m (g t)) m
  | [], m => ⟨Int.le_refl _, fun t h => by cases h⟩
  | x :: L, m => by
    obtain ⟨h1, h2⟩ := mxA_ge g L (max m (g x))
    simp only [List.foldl_cons]
    refine ⟨by omega, fun t ht => ?_⟩
    rcases List.mem_cons.1 ht with rfl | ht
    · omega
    · exact h2 t ht
theorem mxA_le (g : Int → Int) (B : Int) : ∀ (L : List Int) (m : Int), m ≤ B → (∀ t ∈ L, g t ≤ B) → L.foldl (fun m t => max m (g t)) m ≤ B
  | [], m, hm, _ => hm
  | x :: L, m, hm, h => by
    simp only [List.foldl_cons]
    have := h x (by simp)
    exact mxA_le g B L _ (by omega) fun t ht => h t (List.mem_cons_of_mem _ ht)
theorem mx_nonneg (L : List Int) (g : Int → Int) : 0 ≤ mx L g := (mxA_ge g L 0).1
theorem mx_ge {L : List Int} {g : Int → Int} {t : Int} (h : t ∈ L) : g t ≤ mx L g := (mxA_ge g L 0).2 t h
theorem mx_le {L : List Int} {g : Int → Int} {B : Int} (h0 : 0 ≤ B) (h : ∀ t ∈ L, g t ≤ B) : mx L g ≤ B := mxA_le g B L 0 h0 h
theorem mx_congr {L : List Int} {g1 g2 : Int → Int} (h : ∀ t ∈ L, g1 t = g2 t) : mx L g1 = mx L g2 := by
  have h1 : mx L g1 ≤ mx L g2 := mx_le (mx_nonneg _ _) fun t ht => by rw [h t ht]; exact mx_ge ht
  have h2 : mx L g2 ≤ mx L g1 := mx_le (mx_nonneg _ _) fun t ht => by rw [← h t ht]; exact mx_ge ht
  omega
theorem mx_mono {L : List Int} {g1 g2 : Int → Int} (h : ∀ t ∈ L, g1 t ≤ g2 t) : mx L g1 ≤ mx L g2 :=
  mx_le (mx_nonneg _ _) fun t ht => Int.le_trans (h t ht) (mx_ge ht)
/-- The longest way from a place, with so many steps at most. -/
def lwF (su : Nat → List Int) : Nat → Nat → Int
  | 0, _ => 0
  | f + 1, k => 1 + mx (su k) (fun t => lwF su f t.toNat)
theorem lwF_le (su : Nat → List Int) : ∀ (f k : Nat), 0 ≤ lwF su f k ∧ lwF su f k ≤ f
  | 0, _ => by simp [lwF]
  | f + 1, k => by
    simp only [lwF]
    have h1 := mx_nonneg (su k) (fun t => lwF su f t.toNat)
    have h2 : mx (su k) (fun t => lwF su f t.toNat) ≤ f := mx_le (by omega) fun t _ => (lwF_le su f t.toNat).2
    omega
theorem lwF_mono (su : Nat → List Int) : ∀ (f k : Nat), lwF su f k ≤ lwF su (f + 1) k
  | 0, k => (lwF_le su 1 k).1
  | f + 1, k => by
    have : mx (su k) (fun t => lwF su f t.toNat) ≤ mx (su k) (fun t => lwF su (f + 1) t.toNat) := mx_mono fun t _ => lwF_mono su f t.toNat
    show 1 + _ ≤ 1 + _
    omega
theorem count_lt {a b : List Bool} (hl : a.length = b.length) (hs : ∀ i : Nat, a[i]? = some true → b[i]? = some true) : a.count true ≤ b.count true := by
  induction a generalizing b with
  | nil => simp
  | cons x a ih =>
    cases b with
    | nil => simp at hl
    | cons y b =>
      have h1 := ih (b := b) (by simpa using hl) fun i hi => by have := hs (i + 1) (by simpa using hi); simpa using this
      have h2 := hs 0
      simp only [List.getElem?_cons_zero] at h2
      cases x <;> cases y <;> simp_all <;> omega
theorem count_ltS {a b : List Bool} (hl : a.length = b.length) (hs : ∀ i : Nat, a[i]? = some true → b[i]? = some true) {k : Nat} (hk : b[k]? = some true) (ha : a[k]? ≠ some true) : a.count true < b.count true := by
  induction a generalizing b k with
  | nil => cases b with
    | nil => simp at hk
    | cons _ _ => simp at hl
  | cons x a ih =>
    cases b with
    | nil => simp at hl
    | cons y b =>
      have hl2 : a.length = b.length := by simpa using hl
      have hs2 : ∀ i : Nat, a[i]? = some true → b[i]? = some true := fun i hi => by have := hs (i + 1) (by simpa using hi); simpa using this
      have h2 := hs 0
      simp only [List.getElem?_cons_zero] at h2
      cases k with
      | zero =>
        have h1 := count_lt hl2 hs2
        simp only [List.getElem?_cons_zero] at hk ha
        cases x <;> cases y <;> simp_all <;> omega
      | succ k =>
        have h1 := ih hl2 hs2 (k := k) (by simpa using hk) (by simpa using ha)
        cases x <;> cases y <;> simp_all <;> omega
/-- A part of the graph without circles. -/
structure Acy (n : Nat) (su : Nat → List Int) (R : Nat → Prop) : Prop where
  rng : Rng n su
  two : ∀ k, (su k).length ≤ 2
  cl : ∀ k, R k → ∀ t ∈ su k, R t.toNat
  ac : ∀ k, R k → ¬ Gr su (su k) k
def rnk (n : Nat) (su : Nat → List Int) (k : Nat) : Nat := (metF n su k).count true
theorem Gr.trans {su : Nat → List Int} {k : Nat} {t : Int} (ht0 : 0 ≤ t) (ht : t ∈ su k) {x : Int} (h : Gr su (su t.toNat) x) : Gr su (su k) x := by
  induction h with
  | base hm => exact .step (k := t.toNat) (by rw [Int.toNat_of_nonneg ht0]; exact .base ht) hm
  | step _ hm ih => exact .step ih hm
theorem Acy.rank {n : Nat} {su : Nat → List Int} {R : Nat → Prop} (h : Acy n su R) {k : Nat} (hk : R k) {t : Int} (ht : t ∈ su k) : rnk n su t.toNat < rnk n su k := by
  obtain ⟨ht0, htn⟩ := h.rng k t ht
  have hI := metF_inv h.rng h.two k
  have hT := metF_inv h.rng h.two t.toNat
  refine count_ltS (by rw [hI.len, hT.len]) (fun i hi => ?_) (k := t.toNat) (hI.complete h.rng (.base ht)) fun hc => ?_
  · have := hI.complete h.rng (Gr.trans ht0 ht (hT.sound i hi))
    rwa [Int.toNat_natCast] at this
  · exact h.ac _ (h.cl k hk t ht) (hT.sound _ hc)
theorem rnk_le {n : Nat} {su : Nat → List Int} (h1 : Rng n su) (h2 : ∀ k, (su k).length ≤ 2) (k : Nat) : rnk n su k ≤ n := by
  have := (metF_inv h1 h2 k).len
  unfold rnk
  have h3 := List.count_le_length (a := true) (l := metF n su k)
  omega
theorem Acy.stable {n : Nat} {su : Nat → List Int} {R : Nat → Prop} (h : Acy n su R) : ∀ (r k : Nat), R k → rnk n su k ≤ r → ∀ f g : Nat, r + 1 ≤ f → r + 1 ≤ g → lwF su f k = lwF su g k := by
  intro r
  induction r with
  | zero =>
    intro k hk hr f g hf hg
    obtain ⟨f, rfl⟩ : ∃ f', f = f' + 1 := ⟨f - 1, by omega⟩
    obtain ⟨g, rfl⟩ : ∃ g', g = g' + 1 := ⟨g - 1, by omega⟩
    simp only [lwF]
    rw [mx_congr fun t ht => ?_]
    have := h.rank hk ht
    omega
  | succ r ih =>
    intro k hk hr f g hf hg
    obtain ⟨f, rfl⟩ : ∃ f', f = f' + 1 := ⟨f - 1, by omega⟩
    obtain ⟨g, rfl⟩ : ∃ g', g = g' + 1 := ⟨g - 1, by omega⟩
    simp only [lwF]
    rw [mx_congr fun t ht => ?_]
    have := h.rank hk ht
    exact ih _ (h.cl k hk t ht) (by omega) _ _ (by omega) (by omega)
/-- The longest way from a place. -/
def lw (n : Nat) (su : Nat → List Int) (t : Int) : Int := lwF su (n + 1) t.toNat
theorem lw_le (n : Nat) (su : Nat → List Int) (t : Int) : 0 ≤ lw n su t ∧ lw n su t ≤ n + 1 := by
  have := lwF_le su (n + 1) t.toNat; unfold lw; omega
theorem Acy.lw_eq {n : Nat} {su : Nat → List Int} {R : Nat → Prop} (h : Acy n su R) {k : Nat} (hk : R k) : lw n su (k : Int) = 1 + mx (su k) (lw n su) := by
  unfold lw
  rw [Int.toNat_natCast]
  show 1 + _ = 1 + _
  rw [mx_congr fun t ht => ?_]
  have h1 := h.rank hk ht
  have h2 := rnk_le h.rng h.two k
  exact h.stable _ _ (h.cl k hk t ht) (Nat.le_refl _) _ _ (by omega) (by omega)
theorem Acy.lw_pos {n : Nat} {su : Nat → List Int} {R : Nat → Prop} (h : Acy n su R) {k : Nat} (hk : R k) : 1 ≤ lw n su (k : Int) := by
  rw [h.lw_eq hk]; have := mx_nonneg (su k) (lw n su); omega
theorem Acy.lw_lt {n : Nat} {su : Nat → List Int} {R : Nat → Prop} (h : Acy n su R) {k : Nat} (hk : R k) {t : Int} (ht : t ∈ su k) : lw n su t < lw n su (k : Int) := by
  rw [h.lw_eq hk]; have := mx_ge (g := lw n su) ht; omega
theorem Acy.lwF_lw {n : Nat} {su : Nat → List Int} {R : Nat → Prop} (h : Acy n su R) {k : Nat} (hk : R k) (f : Nat) (hf : n + 1 ≤ f) : lwF su f k = lw n su (k : Int) := by
  unfold lw; rw [Int.toNat_natCast]
  have := rnk_le h.rng h.two k
  exact h.stable n k hk this _ _ hf (Nat.le_refl _)
/-- Heights and reach. -/
theorem Ht.rch {code : List Instr} {t h : Int} (H : Ht code t h) : Rch code t := by
  induction H with
  | zero => exact .zero
  | step _ h2 _ h4 ih => exact .step ih h2 h4
theorem HInv.reach {code : List Instr} {o : List Int} {k : Nat} (h : HInv code o [] k []) (hn : 1 ≤ code.length) : o.map (fun x => decide (0 ≤ x)) = reachB code := by
  have hg : ∀ i : Nat, (o.map (fun x => decide (0 ≤ x)))[i]? = some true → ∃ v, o[i]? = some v ∧ 0 ≤ v := fun i hi => by
    rw [List.getElem?_map] at hi
    cases e : o[i]? with
    | none => rw [e] at hi; cases hi
    | some v => rw [e] at hi; exact ⟨v, rfl, by simpa using hi⟩
  refine reachB_of hn ⟨by rw [List.length_map]; exact h.len, fun i hi => ?_, fun t ht => (by cases ht), fun i hi t ht => ?_, ?_⟩
  · obtain ⟨v, h1, h2⟩ := hg i hi
    exact (h.sound i v h1 h2).rch
  · obtain ⟨v, h1, h2⟩ := hg i hi
    rcases h.closed i v h1 h2 with g | ⟨g1, g2⟩
    · cases g
    · rcases g2 t ht with ⟨_, g⟩ | ⟨g3, g4, g5⟩
      · cases g
      · exact .inr (.inl ⟨by rw [List.getElem?_map, g5]; simp [nxt_nonneg g1], g3⟩)
  · exact .inr (by rw [List.getElem?_map, h.start]; rfl)
theorem HInv.next {code : List Instr} {o : List Int} {k : Nat} (h : HInv code o [] k []) (hn : 1 ≤ code.length) {i : Nat} (hi : (reachB code)[i]? = some true) {t : Int} (ht : t ∈ targF code i) : (0 ≤ t ∧ t < (code.length : Int)) ∧ (reachB code)[t.toNat]? = some true := by
  rw [← h.reach hn] at hi ⊢
  rw [List.getElem?_map] at hi
  cases e : o[i]? with
  | none => rw [e] at hi; cases hi
  | some v =>
    rw [e] at hi
    have hv : 0 ≤ v := by simpa using hi
    rcases h.closed i v e hv with g | ⟨g1, g2⟩
    · cases g
    · rcases g2 t ht with ⟨_, g⟩ | ⟨g3, g4, g5⟩
      · cases g
      · exact ⟨⟨g3, g4⟩, by rw [List.getElem?_map, g5]; simp [nxt_nonneg g1]⟩
theorem annO_inv {code : List Instr} {ps : List Pt} {o : List Int} (hn : 1 ≤ code.length) (h : annO code ps = (o, true)) : ∃ k, HInv code o [] k [] := by
  unfold annO at h
  split at h
  · unfold heightsF at h
    split at h
    · rcases heights_spec hn with ⟨o', k', e, g⟩ | ⟨e, g⟩
      · rw [e] at h; cases h; exact ⟨k', g⟩
      · rw [e] at h; cases h
    · cases h
  · cases h
/-- What is reached and what lies on a circle. -/
def hitB (code : List Instr) (ps : List Pt) (k : Nat) : Bool := (reachB code).getD k false && openB code ps k
def hitN (code : List Instr) (ps : List Pt) (m : Nat) : Bool := (List.range m).any (hitB code ps)
theorem hitN_succ (code : List Instr) (ps : List Pt) (m : Nat) : hitN code ps (m + 1) = (hitN code ps m || hitB code ps m) := by
  unfold hitN; rw [List.range_succ, List.any_append]; simp
theorem hitN_at {code : List Instr} {ps : List Pt} {m k : Nat} (h : hitB code ps k = true) (hk : k < m) : hitN code ps m = true := by
  unfold hitN; rw [List.any_eq_true]; exact ⟨k, by simpa using hk, h⟩
theorem hitN_no {code : List Instr} {ps : List Pt} {m k : Nat} (h : hitN code ps m = false) (hk : k < m) : hitB code ps k = false := by
  cases e : hitB code ps k with
  | false => rfl
  | true => rw [hitN_at e hk] at h; cases h
def longV (code : List Instr) (ps : List Pt) : Int := mx (idxL (reachB code)) (lw code.length (bareF code ps))
def longO (code : List Instr) (ps : List Pt) : Int × Bool := if (annO code ps).2 = true ∧ hitN code ps code.length = false then (longV code ps, true) else (0, false)
def longF (a : An) : Int × Bool := if validAn a then longO a.2.2.1 a.2.2.2 else (0, false)
theorem acy_of {code : List Instr} {ps : List Pt} {o : List Int} {k0 : Nat} (hI : HInv code o [] k0 []) (hn : 1 ≤ code.length) (hh : hitN code ps code.length = false) : Acy code.length (bareF code ps) (fun k => (reachB code)[k]? = some true) := by
  refine ⟨bareF_rng code ps, bareF_len code ps, fun k hk t ht => (hI.next hn hk (nextL_mem.1 (bareF_mem.1 ht).1)).2, fun k hk hc => ?_⟩
  have hlt : k < code.length := by
    have := (List.getElem?_eq_some_iff.1 hk).1
    rwa [(reachB_inv hn).len] at this
  have hno := hitN_no hh hlt
  have hP : noPt ps k = true := by
    cases hc with
    | base h => exact (bareF_mem.1 h).2.2
    | step _ h => exact (bareF_mem.1 h).2.2
  have hm := (metF_inv (bareF_rng code ps) (bareF_len code ps) k).complete (bareF_rng code ps) hc
  rw [Int.toNat_natCast] at hm
  unfold hitB openB at hno
  rw [List.getD_eq_getElem?_getD, hk, hP, List.getD_eq_getElem?_getD, hm] at hno
  cases hno
theorem longV_le (code : List Instr) (ps : List Pt) : 0 ≤ longV code ps ∧ longV code ps ≤ code.length + 1 :=
  ⟨mx_nonneg _ _, mx_le (by omega) fun t _ => (lw_le _ _ t).2⟩
theorem idxL_mem {bs : List Bool} {t : Int} : t ∈ idxL bs ↔ 0 ≤ t ∧ bs[t.toNat]? = some true := by
  unfold idxL idxK
  rw [List.mem_map]
  constructor
  · rintro ⟨j, hj, rfl⟩
    rw [List.mem_filter, List.mem_range] at hj
    refine ⟨by omega, ?_⟩
    rw [Int.toNat_natCast]
    have h2 := hj.2
    rw [List.getD_eq_getElem?_getD, List.getElem?_eq_getElem hj.1] at h2
    rw [List.getElem?_eq_getElem hj.1]
    simpa using h2
  · rintro ⟨h0, h1⟩
    obtain ⟨j, rfl⟩ := Int.eq_ofNat_of_zero_le h0
    rw [Int.toNat_natCast] at h1
    refine ⟨j, ?_, rfl⟩
    rw [List.mem_filter, List.mem_range]
    exact ⟨(List.getElem?_eq_some_iff.1 h1).1, by rw [List.getD_eq_getElem?_getD, h1]; rfl⟩
theorem HInv.reach_at {code : List Instr} {o : List Int} {k : Nat} (h : HInv code o [] k []) (hn : 1 ≤ code.length) {i : Nat} {v : Int} (hv : o[i]? = some v) : (reachB code)[i]? = some (decide (0 ≤ v)) := by
  rw [← h.reach hn, List.getElem?_map, hv]; rfl
theorem hit_of {code : List Instr} {ps : List Pt} {o : List Int} {k i : Nat} {v : Int} (h : HInv code o [] k []) (hn : 1 ≤ code.length) (hv : o[i]? = some v) (ho : (openBs code ps)[i]? = some true) : hitB code ps i = decide (0 ≤ v) := by
  have hlt : i < code.length := by rw [← openBs_len code ps]; exact (List.getElem?_eq_some_iff.1 ho).1
  have h2 := openBs_at (ps := ps) hlt
  rw [ho] at h2
  unfold hitB
  rw [List.getD_eq_getElem?_getD, h.reach_at hn hv, ← Option.some.inj h2]; simp
theorem hit_none {code : List Instr} {ps : List Pt} (h : ∀ t ∈ idxL (openBs code ps), hitB code ps t.toNat = false) : hitN code ps code.length = false := by
  cases e : hitN code ps code.length with
  | false => rfl
  | true =>
    unfold hitN at e
    rw [List.any_eq_true] at e
    obtain ⟨k, hk, hh⟩ := e
    have hlt : k < code.length := by simpa using hk
    have ho : openB code ps k = true := by unfold hitB at hh; simp only [Bool.and_eq_true] at hh; exact hh.2
    have := h (k : Int) (idxL_mem.2 ⟨by omega, by rw [Int.toNat_natCast, openBs_at hlt, ho]⟩)
    rw [Int.toNat_natCast, hh] at this
    cases this
/-- The reference's rounds: how far is known to be gone. -/
structure FInv (n : Nat) (su : Nat → List Int) (R : Nat → Prop) (far : List Int) (best : Int) (r i : Nat) : Prop where
  len : far.length = n
  lo : ∀ (j : Nat) (v : Int), far[j]? = some v → R j → lwF su r j ≤ v ∧ (j < i → lwF su (r + 1) j ≤ v)
  hi : ∀ (j : Nat) (v : Int), far[j]? = some v → (R j → v ≤ lw n su j) ∧ v ≤ best
  b0 : 0 ≤ best ∧ best ≤ n + 1
  up : ∀ B : Int, 0 ≤ B → (∀ j, R j → lw n su (j : Int) ≤ B) → best ≤ B
theorem FInv.begin (n : Nat) (su : Nat → List Int) (R : Nat → Prop) : FInv n su R (List.replicate n 0) 0 0 0 := by
  have h0 : ∀ (j : Nat) (v : Int), (List.replicate n (0 : Int))[j]? = some v → v = 0 := fun j v h => by
    rw [List.getElem?_replicate] at h; split at h <;> simp at h; exact h.symm
  exact ⟨by simp, fun j v h _ => by rw [h0 j v h]; exact ⟨Int.le_refl _, fun h9 => by omega⟩, fun j v h => by rw [h0 j v h]; exact ⟨fun _ => (lw_le n su j).1, Int.le_refl _⟩, by omega, fun B hB _ => hB⟩
theorem FInv.round {n : Nat} {su : Nat → List Int} {R : Nat → Prop} {far : List Int} {best : Int} {r : Nat} (h : FInv n su R far best r n) : FInv n su R far best (r + 1) 0 :=
  ⟨h.len, fun j v hj hR => ⟨(h.lo j v hj hR).2 (by rw [← h.len]; exact (List.getElem?_eq_some_iff.1 hj).1), fun h9 => by omega⟩, h.hi, h.b0, h.up⟩
theorem FInv.skip {n : Nat} {su : Nat → List Int} {R : Nat → Prop} {far : List Int} {best : Int} {r i : Nat} (h : FInv n su R far best r i) (hi : ¬ R i) : FInv n su R far best r (i + 1) :=
  ⟨h.len, fun j v hj hR => ⟨(h.lo j v hj hR).1, fun h9 => (h.lo j v hj hR).2 (by rcases Nat.lt_or_eq_of_le (Nat.le_of_lt_succ h9) with g | g; exact g; subst g; exact absurd hR hi)⟩, h.hi, h.b0, h.up⟩
theorem FInv.put {n : Nat} {su : Nat → List Int} {R : Nat → Prop} {far : List Int} {best : Int} {r i : Nat} (hA : Acy n su R) (h : FInv n su R far best r i) (hR : R i) {v : Int} (h1 : 1 ≤ v) (hge : ∀ t ∈ su i, 1 + far.getD t.toNat 0 ≤ v) (hle : v ≤ lw n su i) : FInv n su R (far.set i v) (max best v) r (i + 1) := by
  have hset : ∀ (j : Nat) (x : Int), (far.set i v)[j]? = some x → (j = i ∧ x = v) ∨ far[j]? = some x := fun j x hj => by
    by_cases e : i = j
    · subst e
      rw [List.getElem?_set] at hj
      simp only [if_true] at hj
      split at hj
      · exact .inl ⟨rfl, (Option.some.inj hj).symm⟩
      · cases hj
    · rw [List.getElem?_set_ne e] at hj; exact .inr hj
  have hnew : lwF su (r + 1) i ≤ v := by
    show 1 + mx (su i) (fun t => lwF su r t.toNat) ≤ v
    have : mx (su i) (fun t => lwF su r t.toNat) ≤ v - 1 := mx_le (by omega) fun t ht => by
      obtain ⟨ht0, htn⟩ := hA.rng i t ht
      have hlt : t.toNat < far.length := by rw [h.len]; omega
      have h3 := (h.lo t.toNat _ (List.getElem?_eq_getElem hlt) (hA.cl i hR t ht)).1
      have h4 := hge t ht
      rw [List.getD_eq_getElem?_getD, List.getElem?_eq_getElem hlt] at h4
      simp only [Option.getD_some] at h4
      omega
    omega
  have hlw := (lw_le n su i).2
  refine ⟨by rw [List.length_set]; exact h.len, fun j x hj hRj => ?_, fun j x hj => ?_, by have := h.b0; omega, fun B hB hall => ?_⟩
  · rcases hset j x hj with ⟨rfl, rfl⟩ | g
    · exact ⟨Int.le_trans (lwF_mono su r j) hnew, fun _ => hnew⟩
    · refine ⟨(h.lo j x g hRj).1, fun h9 => ?_⟩
      rcases Nat.lt_or_eq_of_le (Nat.le_of_lt_succ h9) with g9 | g9
      · exact (h.lo j x g hRj).2 g9
      · subst g9
        have : j < far.length := (List.getElem?_eq_some_iff.1 g).1
        rw [List.getElem?_set_self this] at hj
        cases hj; exact hnew
  · rcases hset j x hj with ⟨rfl, rfl⟩ | g
    · exact ⟨fun _ => hle, by omega⟩
    · exact ⟨(h.hi j x g).1, by have := (h.hi j x g).2; omega⟩
  · have h1 := h.up B hB hall
    have h2 := hall i hR
    omega
theorem FInv.done {n : Nat} {su : Nat → List Int} {bs : List Bool} {far : List Int} {best : Int} {r : Nat} (hl : bs.length = n) (hA : Acy n su (fun k => bs[k]? = some true)) (h : FInv n su (fun k => bs[k]? = some true) far best r 0) (hr : n + 1 ≤ r) : best = mx (idxL bs) (lw n su) := by
  have h1 : best ≤ mx (idxL bs) (lw n su) := h.up _ (mx_nonneg _ _) fun j hj => mx_ge (idxL_mem.2 ⟨by omega, by rw [Int.toNat_natCast]; exact hj⟩)
  have h2 : mx (idxL bs) (lw n su) ≤ best := mx_le h.b0.1 fun t ht => by
    obtain ⟨ht0, htr⟩ := idxL_mem.1 ht
    obtain ⟨j, rfl⟩ := Int.eq_ofNat_of_zero_le ht0
    rw [Int.toNat_natCast] at htr
    have hlt : j < far.length := by rw [h.len, ← hl]; exact (List.getElem?_eq_some_iff.1 htr).1
    have g1 := (h.lo j _ (List.getElem?_eq_getElem hlt) htr).1
    have g2 := (h.hi j _ (List.getElem?_eq_getElem hlt)).2
    rw [hA.lwF_lw htr r hr] at g1
    omega
  omega
end Go.Proofs.Ytedmhdinfedhhaa
