/- Plain: how high the stack is at each instruction. No program in sight but the places behind an instruction. -/
import Derived.Test.YtedmhdinfedhhaaReach
namespace Go.Proofs.Ytedmhdinfedhhaa

def popsI (op : Int) : Int := if op = 2 ∨ op = 4 ∨ op = 6 ∨ op = 7 ∨ op = 10 then 1 else if op = 3 ∨ op = 8 then 2 else 0
def pushI (op : Int) : Int := if op = 0 ∨ op = 1 ∨ op = 3 ∨ op = 4 ∨ op = 7 then 1 else 0
theorem popsI_bd (op : Int) : 0 ≤ popsI op ∧ popsI op ≤ 2 := by unfold popsI; split; omega; split <;> omega
theorem pushI_bd (op : Int) : 0 ≤ pushI op ∧ pushI op ≤ 1 := by unfold pushI; split <;> omega
def opAt (code : List Instr) (k : Nat) : Int := match code[k]? with
  | some x => x.1
  | none => 0
/-- How high it is behind instruction k, if it is h there. -/
def nxt (code : List Instr) (k : Nat) (h : Int) : Int := h - popsI (opAt code k) + pushI (opAt code k)
def okAt (code : List Instr) (k : Nat) (h : Int) : Prop := 0 ≤ h - popsI (opAt code k) ∧ nxt code k h ≤ 6
theorem nxt_nonneg {code : List Instr} {k : Nat} {h : Int} (ho : okAt code k h) : 0 ≤ nxt code k h := by
  have := (pushI_bd (opAt code k)).1
  have := ho.1
  unfold nxt; omega
inductive Ht (code : List Instr) : Int → Int → Prop
  | zero : Ht code 0 0
  | step {k : Nat} {h t : Int} : Ht code k h → k < code.length → okAt code k h → t ∈ targF code k → Ht code t (nxt code k h)
def BadH (code : List Instr) : Prop := ∃ (k : Nat) (h : Int), Ht code k h ∧ k < code.length ∧ (¬ okAt code k h ∨ (okAt code k h ∧ ∃ t ∈ targF code k, ¬ (0 ≤ t ∧ t < (code.length : Int)) ∨ ∃ h', Ht code t h' ∧ h' ≠ nxt code k h))
/-- The state of the search: what is known, what is still to be visited, and of instruction k the places ts that are still to be looked at. -/
structure HInv (code : List Instr) (out work : List Int) (k : Nat) (ts : List Int) : Prop where
  len : out.length = code.length
  sound : ∀ (i : Nat) (h : Int), out[i]? = some h → 0 ≤ h → Ht code i h
  lo : ∀ (i : Nat) (h : Int), out[i]? = some h → -1 ≤ h ∧ h ≤ 6
  workS : ∀ t ∈ work, 0 ≤ t ∧ t < (code.length : Int) ∧ ∃ h, out[t.toNat]? = some h ∧ 0 ≤ h
  closed : ∀ (i : Nat) (h : Int), out[i]? = some h → 0 ≤ h → (i : Int) ∈ work ∨ (okAt code i h ∧ ∀ t ∈ targF code i, (i = k ∧ t ∈ ts) ∨ (0 ≤ t ∧ t < (code.length : Int) ∧ out[t.toNat]? = some (nxt code i h)))
  start : out[0]? = some 0
theorem HInv.begin {code : List Instr} (hn : 1 ≤ code.length) : HInv code ((List.replicate code.length (-1)).set 0 0) [0] 0 [] := by
  have hat : ∀ (i : Nat) (h : Int), ((List.replicate code.length (-1 : Int)).set 0 0)[i]? = some h → (i = 0 ∧ h = 0) ∨ (i ≠ 0 ∧ h = -1) := fun i h hi => by
    by_cases e : i = 0
    · subst e; rw [List.getElem?_set_self (by rw [List.length_replicate]; omega)] at hi; simp at hi; exact .inl ⟨rfl, hi.symm⟩
    · rw [List.getElem?_set_ne (fun h => e h.symm), List.getElem?_replicate] at hi
      split at hi
      · simp at hi; exact .inr ⟨e, hi.symm⟩
      · cases hi
  have h0 : ((List.replicate code.length (-1 : Int)).set 0 0)[0]? = some 0 := List.getElem?_set_self (by rw [List.length_replicate]; omega)
  refine ⟨by simp, fun i h hi h1 => ?_, fun i h hi => ?_, fun t ht => ?_, fun i h hi h1 => ?_, h0⟩
  · rcases hat i h hi with ⟨rfl, rfl⟩ | ⟨_, rfl⟩
    · exact .zero
    · omega
  · rcases hat i h hi with ⟨rfl, rfl⟩ | ⟨_, rfl⟩ <;> omega
  · simp at ht; subst ht; exact ⟨by omega, by omega, 0, h0, by omega⟩
  · rcases hat i h hi with ⟨rfl, rfl⟩ | ⟨_, rfl⟩
    · exact .inl (by simp)
    · omega
theorem HInv.same {code : List Instr} {out w1 w2 : List Int} {k : Nat} {ts : List Int} (h : HInv code out w1 k ts) (he : ∀ x, x ∈ w1 ↔ x ∈ w2) : HInv code out w2 k ts :=
  ⟨h.len, h.sound, h.lo, fun t ht => h.workS t ((he t).2 ht), fun i v hi hv => (h.closed i v hi hv).imp (fun g => (he _).1 g) id, h.start⟩
theorem HInv.pop {code : List Instr} {out work : List Int} {k k0 : Nat} {h : Int} (hI : HInv code out ((k : Int) :: work) k0 []) (hk : out[k]? = some h) (ho : okAt code k h) : HInv code out work k (targF code k) := by
  refine ⟨hI.len, hI.sound, hI.lo, fun t ht => hI.workS t (List.mem_cons_of_mem _ ht), fun i v hi hv => ?_, hI.start⟩
  rcases hI.closed i v hi hv with g | ⟨g1, g2⟩
  · rcases List.mem_cons.1 g with g | g
    · have : i = k := by omega
      subst this
      rw [hk] at hi; cases hi
      exact .inr ⟨ho, fun t ht => .inl ⟨rfl, ht⟩⟩
    · exact .inl g
  · exact .inr ⟨g1, fun t ht => .inr (by rcases g2 t ht with ⟨_, g⟩ | g; cases g; exact g)⟩
theorem HInv.put {code : List Instr} {out work : List Int} {k : Nat} {ts : List Int} {h t v : Int} (hI : HInv code out work k (t :: ts)) (hkn : k < code.length) (hk : out[k]? = some h) (h0 : 0 ≤ h) (ho : okAt code k h) (htm : t ∈ targF code k) (ht0 : 0 ≤ t) (htn : t < (code.length : Int)) (hv : out[t.toNat]? = some v) (hneg : v < 0) :
    HInv code (out.set t.toNat (nxt code k h)) (work ++ [t]) k ts := by
  have hnx := nxt_nonneg ho
  have hHt : Ht code t (nxt code k h) := .step (hI.sound k h hk h0) hkn ho htm
  have hlt : t.toNat < out.length := (List.getElem?_eq_some_iff.1 hv).1
  have hne : ∀ (i : Nat) (u : Int), out[i]? = some u → 0 ≤ u → t.toNat ≠ i := fun i u hi hu e => by subst e; rw [hv] at hi; cases hi; omega
  have hkeep : ∀ (i : Nat) (u : Int), out[i]? = some u → 0 ≤ u → (out.set t.toNat (nxt code k h))[i]? = some u := fun i u hi hu => by rw [List.getElem?_set_ne (hne i u hi hu)]; exact hi
  have hself : (out.set t.toNat (nxt code k h))[t.toNat]? = some (nxt code k h) := List.getElem?_set_self hlt
  have hback : ∀ (i : Nat) (u : Int), (out.set t.toNat (nxt code k h))[i]? = some u → (i = t.toNat ∧ u = nxt code k h) ∨ out[i]? = some u := fun i u hi => by
    by_cases e : t.toNat = i
    · subst e; rw [hself] at hi; cases hi; exact .inl ⟨rfl, rfl⟩
    · rw [List.getElem?_set_ne e] at hi; exact .inr hi
  have htt : ((t.toNat : Nat) : Int) = t := by omega
  refine ⟨by rw [List.length_set]; exact hI.len, fun i u hi hu => ?_, fun i u hi => ?_, fun x hx => ?_, fun i u hi hu => ?_, hkeep 0 0 hI.start (by omega)⟩
  · rcases hback i u hi with ⟨rfl, rfl⟩ | g
    · rw [htt]; exact hHt
    · exact hI.sound i u g hu
  · rcases hback i u hi with ⟨rfl, rfl⟩ | g
    · exact ⟨by omega, ho.2⟩
    · exact hI.lo i u g
  · rcases List.mem_append.1 hx with g | g
    · obtain ⟨a1, a2, u, a3, a4⟩ := hI.workS x g
      exact ⟨a1, a2, u, hkeep _ u a3 a4, a4⟩
    · simp at g; subst g; exact ⟨ht0, htn, _, hself, hnx⟩
  · rcases hback i u hi with ⟨rfl, rfl⟩ | g
    · rw [htt]; exact .inl (by simp)
    · rcases hI.closed i u g hu with g | ⟨g1, g2⟩
      · exact .inl (List.mem_append_left _ g)
      · refine .inr ⟨g1, fun t' ht' => ?_⟩
        rcases g2 t' ht' with ⟨rfl, g3⟩ | ⟨g3, g4, g5⟩
        · rcases List.mem_cons.1 g3 with rfl | g3
          · rw [hk] at g; cases g
            exact .inr ⟨ht0, htn, hself⟩
          · exact .inl ⟨rfl, g3⟩
        · exact .inr ⟨g3, g4, hkeep _ _ g5 (nxt_nonneg g1)⟩
theorem HInv.seen {code : List Instr} {out work : List Int} {k : Nat} {ts : List Int} {h t : Int} (hI : HInv code out work k (t :: ts)) (hk : out[k]? = some h) (_h0 : 0 ≤ h) (ht0 : 0 ≤ t) (htn : t < (code.length : Int)) (hv : out[t.toNat]? = some (nxt code k h)) : HInv code out work k ts := by
  refine ⟨hI.len, hI.sound, hI.lo, hI.workS, fun i u hi hu => ?_, hI.start⟩
  rcases hI.closed i u hi hu with g | ⟨g1, g2⟩
  · exact .inl g
  · refine .inr ⟨g1, fun t' ht' => ?_⟩
    rcases g2 t' ht' with ⟨rfl, g3⟩ | g3
    · rcases List.mem_cons.1 g3 with rfl | g3
      · rw [hk] at hi; cases hi
        exact .inr ⟨ht0, htn, hv⟩
      · exact .inl ⟨rfl, g3⟩
    · exact .inr g3
theorem HInv.all {code : List Instr} {out : List Int} {k : Nat} (hI : HInv code out [] k []) {t h : Int} (ht : Ht code t h) (hn : 1 ≤ code.length) : 0 ≤ t ∧ t < (code.length : Int) ∧ out[t.toNat]? = some h ∧ 0 ≤ h := by
  induction ht with
  | zero => exact ⟨by omega, by omega, hI.start, by omega⟩
  | step hk hlt hok hm ih =>
    obtain ⟨a1, a2, a3, a4⟩ := ih
    rw [Int.toNat_natCast] at a3
    rcases hI.closed _ _ a3 a4 with g | ⟨g1, g2⟩
    · cases g
    · rcases g2 _ hm with ⟨_, g⟩ | ⟨g3, g4, g5⟩
      · cases g
      · exact ⟨g3, g4, g5, nxt_nonneg hok⟩
theorem HInv.good {code : List Instr} {out : List Int} {k : Nat} (hI : HInv code out [] k []) (hn : 1 ≤ code.length) : ¬ BadH code := by
  rintro ⟨i, h, hH, hlt, hbad⟩
  obtain ⟨a1, a2, a3, a4⟩ := hI.all hH hn
  rw [Int.toNat_natCast] at a3
  rcases hI.closed _ _ a3 a4 with g | ⟨g1, g2⟩
  · cases g
  · rcases hbad with hb | ⟨_, t, htm, hb⟩
    · exact hb g1
    · rcases g2 t htm with ⟨_, g⟩ | ⟨g3, g4, g5⟩
      · cases g
      · rcases hb with hb | ⟨h', hh, hne⟩
        · exact hb ⟨g3, g4⟩
        · obtain ⟨_, _, b3, _⟩ := hI.all hh hn
          rw [g5] at b3
          exact hne (Option.some.inj b3).symm
theorem HInv.unique {code : List Instr} {o1 o2 : List Int} {k1 k2 : Nat} (h1 : HInv code o1 [] k1 []) (h2 : HInv code o2 [] k2 []) (hn : 1 ≤ code.length) : o1 = o2 := by
  apply List.ext_getElem (by rw [h1.len, h2.len])
  intro i hi hi'
  have g1 := List.getElem?_eq_getElem hi
  have g2 := List.getElem?_eq_getElem hi'
  have l1 := h1.lo i _ g1
  have l2 := h2.lo i _ g2
  by_cases p1 : 0 ≤ o1[i]
  · have := (h2.all (h1.sound i _ g1 p1) hn).2.2.1
    rw [Int.toNat_natCast, g2] at this
    exact (Option.some.inj this).symm
  · by_cases p2 : 0 ≤ o2[i]
    · have := (h1.all (h2.sound i _ g2 p2) hn).2.2.1
      rw [Int.toNat_natCast, g1] at this
      exact Option.some.inj this
    · omega
def negs (out : List Int) : Nat := out.countP (fun v => decide (v < 0))
def msrH (out work : List Int) : Nat := 2 * negs out + work.length
theorem negs_set {out : List Int} {k : Nat} {v x : Int} (h : out[k]? = some v) (hv : v < 0) (hx : 0 ≤ x) : negs (out.set k x) + 1 = negs out := by
  unfold negs
  induction out generalizing k with
  | nil => simp at h
  | cons b bs ih =>
    cases k with
    | zero =>
      simp at h; subst h
      simp only [List.set_cons_zero, List.countP_cons, decide_eq_true_eq]
      rw [if_neg (by omega), if_pos hv]
    | succ k =>
      simp only [List.getElem?_cons_succ] at h
      simp only [List.set_cons_succ, List.countP_cons]
      have := ih h
      omega
theorem msrH_put {out work : List Int} {t v x : Int} (h : out[t.toNat]? = some v) (hv : v < 0) (hx : 0 ≤ x) : msrH (out.set t.toNat x) (work ++ [t]) + 1 = msrH out work := by
  have := negs_set h hv hx
  unfold msrH; rw [List.length_append]; simp only [List.length_singleton]; omega
theorem bad_of {code : List Instr} {out work : List Int} {k k0 : Nat} {h : Int} (hI : HInv code out work k0 []) (hk : out[k]? = some h) (h0 : 0 ≤ h) (hn : k < code.length) (ho : ¬ okAt code k h) : BadH code := ⟨k, h, hI.sound k h hk h0, hn, .inl ho⟩
theorem bad_to {code : List Instr} {out work ts : List Int} {k k0 : Nat} {h t : Int} (hI : HInv code out work k0 ts) (hk : out[k]? = some h) (h0 : 0 ≤ h) (hn : k < code.length) (ho : okAt code k h) (htm : t ∈ targF code k) (ht : ¬ (0 ≤ t ∧ t < (code.length : Int))) : BadH code :=
  ⟨k, h, hI.sound k h hk h0, hn, .inr ⟨ho, t, htm, .inl ht⟩⟩
theorem bad_two {code : List Instr} {out work ts : List Int} {k k0 : Nat} {h t v : Int} (hI : HInv code out work k0 ts) (hk : out[k]? = some h) (h0 : 0 ≤ h) (hn : k < code.length) (ho : okAt code k h) (htm : t ∈ targF code k) (ht : 0 ≤ t) (hv : out[t.toNat]? = some v) (hv0 : 0 ≤ v) (hne : v ≠ nxt code k h) : BadH code :=
  ⟨k, h, hI.sound k h hk h0, hn, .inr ⟨ho, t, htm, .inr ⟨v, by have := hI.sound _ v hv hv0; rwa [show ((t.toNat : Nat) : Int) = t by omega] at this, hne⟩⟩⟩
/-- The places behind an instruction, one after another. -/
def procT (n : Nat) (nx : Int) : List Int → List Int → List Int → Option (List Int × List Int)
  | [], out, work => some (out, work)
  | t :: ts, out, work => if decide (0 ≤ t) && decide (t < (n : Int)) then
      (match out[t.toNat]? with
        | some v => if v < 0 then procT n nx ts (out.set t.toNat nx) (work ++ [t]) else if v = nx then procT n nx ts out work else none
        | none => none)
    else none
theorem procT_spec {code : List Instr} {k : Nat} {h : Int} (hkn : k < code.length) (h0 : 0 ≤ h) (ho : okAt code k h) : ∀ (ts out work : List Int), HInv code out work k ts → out[k]? = some h → (∀ t ∈ ts, t ∈ targF code k) →
    (∃ o w, procT code.length (nxt code k h) ts out work = some (o, w) ∧ HInv code o w k [] ∧ msrH o w ≤ msrH out work) ∨ (procT code.length (nxt code k h) ts out work = none ∧ BadH code)
  | [], out, work, hI, _, _ => .inl ⟨out, work, rfl, hI, Nat.le_refl _⟩
  | t :: ts, out, work, hI, hk, hm => by
    have htm := hm t (by simp)
    unfold procT
    by_cases hb : 0 ≤ t ∧ t < (code.length : Int)
    · rw [if_pos (by simp [hb.1, hb.2])]
      have hlt : t.toNat < out.length := by rw [hI.len]; omega
      obtain ⟨v, hv⟩ : ∃ v, out[t.toNat]? = some v := ⟨_, List.getElem?_eq_getElem hlt⟩
      rw [hv]
      simp only
      by_cases hneg : v < 0
      · rw [if_pos hneg]
        have hI' := hI.put hkn hk h0 ho htm hb.1 hb.2 hv hneg
        have hne : t.toNat ≠ k := fun e => by rw [e, hk] at hv; cases hv; omega
        have hk' : (out.set t.toNat (nxt code k h))[k]? = some h := by rw [List.getElem?_set_ne hne]; exact hk
        have hms := msrH_put (work := work) hv hneg (nxt_nonneg ho)
        rcases procT_spec hkn h0 ho ts _ _ hI' hk' (fun x hx => hm x (List.mem_cons_of_mem _ hx)) with ⟨o, w, e, g1, g2⟩ | g
        · exact .inl ⟨o, w, e, g1, by omega⟩
        · exact .inr g
      · rw [if_neg hneg]
        by_cases he : v = nxt code k h
        · rw [if_pos he]
          exact procT_spec hkn h0 ho ts _ _ (hI.seen hk h0 hb.1 hb.2 (by rw [hv, he])) hk (fun x hx => hm x (List.mem_cons_of_mem _ hx))
        · rw [if_neg he]
          exact .inr ⟨rfl, bad_two hI hk h0 hkn ho htm hb.1 hv (by omega) he⟩
    · rw [if_neg (by simp; omega)]
      exact .inr ⟨rfl, bad_to hI hk h0 hkn ho htm hb⟩
def runH (code : List Instr) : Nat → List Int → List Int → Option (List Int)
  | 0, out, _ => some out
  | _ + 1, out, [] => some out
  | f + 1, out, t :: rest => match out[t.toNat]? with
    | some h => if decide (0 ≤ h - popsI (opAt code t.toNat)) && decide (nxt code t.toNat h ≤ 6) then
        (match procT code.length (nxt code t.toNat h) (targF code t.toNat) out rest with
          | some (o, w) => runH code f o w
          | none => none)
      else none
    | none => none
theorem runH_spec {code : List Instr} : ∀ (f : Nat) (out work : List Int) (k0 : Nat), HInv code out work k0 [] → msrH out work ≤ f →
    (∃ o k, runH code f out work = some o ∧ HInv code o [] k []) ∨ (runH code f out work = none ∧ BadH code)
  | 0, out, work, k0, hI, hm => by
    cases work with
    | nil => exact .inl ⟨out, k0, rfl, hI⟩
    | cons t rest => unfold msrH at hm; simp at hm
  | f + 1, out, [], k0, hI, hm => .inl ⟨out, k0, rfl, hI⟩
  | f + 1, out, t :: rest, k0, hI, hm => by
    obtain ⟨a1, a2, h, a3, a4⟩ := hI.workS t (by simp)
    obtain ⟨k, rfl⟩ := Int.eq_ofNat_of_zero_le a1
    rw [Int.toNat_natCast] at a3
    unfold runH
    rw [Int.toNat_natCast, a3]
    simp only
    by_cases ho : okAt code k h
    · rw [if_pos (by rw [decide_eq_true ho.1, decide_eq_true ho.2]; rfl)]
      have hI' := hI.pop a3 ho
      have hms : msrH out rest ≤ f := by unfold msrH at hm ⊢; simp only [List.length_cons] at hm; omega
      rcases procT_spec (by omega) a4 ho (targF code k) out rest hI' a3 (fun _ h => h) with ⟨o, w, e, g1, g2⟩ | ⟨e, g⟩
      · rw [e]
        exact runH_spec f o w k g1 (by omega)
      · rw [e]; exact .inr ⟨rfl, g⟩
    · rw [if_neg (by unfold okAt at ho; simp; omega)]
      exact .inr ⟨rfl, bad_of hI a3 a4 (by omega) ho⟩
def heightsO (code : List Instr) : Option (List Int) := runH code (2 * code.length + 1) ((List.replicate code.length (-1)).set 0 0) [0]
def heightsF (code : List Instr) : List Int × Bool := if validCode code then (match heightsO code with
  | some o => (o, true)
  | none => ([], false)) else ([], false)
theorem heights_spec {code : List Instr} (hn : 1 ≤ code.length) : (∃ o k, heightsO code = some o ∧ HInv code o [] k []) ∨ (heightsO code = none ∧ BadH code) := by
  refine runH_spec _ _ _ 0 (.begin hn) ?_
  have h1 : negs (List.replicate code.length (-1 : Int)) ≤ code.length := by
    unfold negs; exact Nat.le_trans List.countP_le_length (by simp)
  have h2 := negs_set (out := List.replicate code.length (-1 : Int)) (k := 0) (v := -1) (x := 0) (by rw [List.getElem?_replicate, if_pos (by omega)]) (by omega) (by omega)
  unfold msrH
  simp only [List.length_singleton]
  omega
theorem heights_yes {code : List Instr} (hv : validCode code = true) (hn : 1 ≤ code.length) {out : List Int} {k : Nat} (hI : HInv code out [] k []) : heightsF code = (out, true) := by
  unfold heightsF
  rw [if_pos hv]
  rcases heights_spec hn with ⟨o, k', e, g⟩ | ⟨e, g⟩
  · rw [e, g.unique hI hn]
  · exact absurd g (hI.good hn)
theorem heights_no {code : List Instr} (hv : validCode code = true) (hn : 1 ≤ code.length) (hb : BadH code) : heightsF code = ([], false) := by
  unfold heightsF
  rw [if_pos hv]
  rcases heights_spec hn with ⟨o, k', e, g⟩ | ⟨e, g⟩
  · exact absurd hb (g.good hn)
  · rw [e]
theorem heights_inv {code : List Instr} (hv : validCode code = false) : heightsF code = ([], false) := by
  unfold heightsF; rw [if_neg (by rw [hv]; simp)]
theorem heightsF_len (code : List Instr) : (heightsF code).1.length ≤ 1048576 := by
  cases hv : validCode code with
  | false => rw [heights_inv hv]; simp
  | true =>
    obtain ⟨h1, h80, _⟩ := validCode_iff hv
    unfold heightsF
    rw [if_pos hv]
    rcases heights_spec (code := code) (by omega) with ⟨o, k', e, g⟩ | ⟨e, g⟩
    · rw [e]; have := g.len; simp only; omega
    · rw [e]; simp
end Go.Proofs.Ytedmhdinfedhhaa
