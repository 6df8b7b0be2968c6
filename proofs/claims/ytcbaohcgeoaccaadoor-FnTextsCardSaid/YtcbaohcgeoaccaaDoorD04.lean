/- Contracts: the words of a line and the lines of a text. -/
import Derived.Test.YtcbaohcgeoaccaaDoorD03
import Derived.Test.YtcbaohcgeoaccaaDoorEnvM
namespace Go.Proofs.YtcbaohcgeoaccaaDoor
open Go.RowKit

theorem cut_last (c : UInt8) : ∀ (n : Nat) (l : List UInt8), l.length ≤ n → ((cutL c l).getLast? = some [] ↔ l = [] ∨ l.getLast? = some c) := by
  intro n
  induction n with
  | zero => intro l h; obtain rfl : l = [] := List.eq_nil_of_length_eq_zero (by omega); simp [cutL]
  | succ n ih =>
    intro l h
    by_cases hm : c ∈ l
    · obtain ⟨a, b, rfl, ha⟩ := List.eq_append_cons_of_mem hm
      rw [cutL_hit c a b ha]
      have hb := ih b (by simp at h; omega)
      obtain ⟨p, ps, e⟩ := List.exists_cons_of_ne_nil (cutL_ne c b)
      rw [e] at hb ⊢
      rw [List.getLast?_cons_cons, hb]
      cases b with
      | nil => simp
      | cons x b => simp [List.getLast?_append, List.getLast?_cons_cons]
    · rw [cutL_none c l hm]
      constructor
      · intro e; simp at e; exact .inl e
      · rintro (rfl | e)
        · rfl
        · exact absurd (List.mem_of_getLast? e) hm
def linesF (l : List UInt8) : List (List UInt8) × Bool := if l.length ≤ 40000 ∧ (cutL 10 l).getLast? = some [] then ((cutL 10 l).dropLast, true) else ([], false)
theorem SlRd.take {α : Type} {C : Codec α} {S : Nat → Prop} {w : World} {a : Option Addr} {cap : Nat} {zs : List α} (h : SlRd C S w a cap zs) (k : Nat) : SlRd C S w a cap (zs.take k) := by
  obtain ⟨h1, h2, h3, h4⟩ := h
  refine ⟨Nat.le_trans (by simp; omega) h1, h2, h3, fun x hx i d hi => h4 x hx i d ?_⟩
  rw [List.getElem?_take] at hi
  split at hi
  · exact hi
  · cases hi
/-- strings.Split's new array, read as a list. -/
theorem split_rd (s : ByteArray) (c : UInt8) (hs : s.size ≤ 1099511627775) (w : World) (e : TypeId) :
    (cutL c s.data.toList).length = Lib.countB s ⟨#[c]⟩ + 1 ∧ SlRd cStr (Fresh w.heap.size (w.alloc (.cells ((Lib.splitB ⟨#[c]⟩ 0 (Lib.countB s ⟨#[c]⟩) s).map Value.string).toArray e))) (w.alloc (.cells ((Lib.splitB ⟨#[c]⟩ 0 (Lib.countB s ⟨#[c]⟩) s).map Value.string).toArray e)) (some ⟨w.heap.size, 0, none⟩) (Lib.countB s ⟨#[c]⟩ + 1) (cutL c s.data.toList) := by
  have hl := Lib.splitB_all ⟨#[c]⟩ (by simp [ByteArray.size]) 0 (Lib.countB s ⟨#[c]⟩) s rfl
  have hm := split_cut c s
  have hcl : (cutL c s.data.toList).length = Lib.countB s ⟨#[c]⟩ + 1 := by rw [← hm, List.length_map, hl]
  have hp := cutL_piece c s.data.toList
  have hsz : s.data.toList.length = s.size := by simp
  have hcb : Lib.countB s ⟨#[c]⟩ ≤ s.size := Lib.countB_le ⟨#[c]⟩ (by simp [ByteArray.size]) s.size s (Nat.le_refl _)
  generalize Lib.splitB ⟨#[c]⟩ 0 (Lib.countB s ⟨#[c]⟩) s = xs at *
  refine ⟨hcl, by omega, by omega, by simp, ?_⟩
  rintro x ⟨⟩ i d hi
  rw [← hm, List.getElem?_map] at hi
  cases hx : xs[i]? with
  | none => rw [hx] at hi; cases hi
  | some b =>
    rw [hx] at hi
    simp only [Option.map_some, Option.some.injEq] at hi
    subst hi
    have hpl := hp b.data.toList (by rw [← hm]; exact List.mem_map_of_mem (List.mem_of_getElem? hx))
    refine ⟨⟨rfl, ⟨Nat.le_refl _, _, _, heap_new w _⟩, by simp⟩, [.string b], ⟨rfl, by omega⟩, fun j u hj => ?_⟩
    match j, hj with
    | 0, hj =>
      simp at hj; subst hj
      rw [World.cell?_alloc_at _ _ _ _ rfl]
      simp [cStr, hx]
theorem cut_bound (c : UInt8) (s : ByteArray) (h : s.size ≤ 1048576) : (cutL c s.data.toList).length ≤ 1048577 := by
  have h1 := cutL_len c s.data.toList
  have h2 := List.count_le_length (a := c) (l := s.data.toList)
  have hsz : s.data.toList.length = s.size := by simp
  omega
theorem lines_bound (s : ByteArray) (h : s.size ≤ 1048576) : (linesF s.data.toList).1.length ≤ 1048577 := by
  unfold linesF
  split
  · have := cut_bound 10 s h; simp; omega
  · simp
theorem c_sWordsOf (s : ByteArray) (w : World) (hs : s.size ≤ 1099511627775) : Calls Tryd.prog 17 #[.string s] w (RetSl cStr (cutL 32 s.data.toList) w) := by
  have HC := hid (c_l01Cut s 32 w hs)
  go_enter Tryd.func17, Tryd.ntmps17
  go_wp2_with (go_at_call 63; refine HC.out.mono ?_; rintro e w1 ⟨a1, p1, rfl, hs1, hb1⟩; have HS1 := hid hs1; have HB1 := hid hb1; clear hs1 hb1)
  go_ret
  exact ⟨a1, p1, rfl, HS1.out, HB1.out⟩
theorem c_WordsOf {B : Nat} (s : ByteArray) (w : World) (hs : s.size ≤ 4294967280) (hE : MaxE B w) : Calls Tryd.prog 18 #[.string s] w (RetSl cStr (cutL 32 s.data.toList) w) := by
  obtain ⟨⟨m, hm⟩, _, _⟩ := hE
  have HC := hid (Tryd.strings_Split s ⟨#[32]⟩ m w (by omega) hm (by simp [ByteArray.size]))
  have HR := hid (split_rd s 32 (by omega) w 9)
  have HB : Hid (Below w.heap.size w (w.alloc (.cells ((Lib.splitB ⟨#[32]⟩ 0 (Lib.countB s ⟨#[32]⟩) s).map Value.string).toArray 9))) := (Below.refl _ _).alloc (Nat.le_refl _) _
  clear hm
  generalize w.alloc (.cells ((Lib.splitB ⟨#[32]⟩ 0 (Lib.countB s ⟨#[32]⟩) s).map Value.string).toArray 9) = w1 at *
  generalize Lib.countB s ⟨#[32]⟩ = n at *
  go_enter Tryd.func18, Tryd.ntmps18
  go_wp2_with (go_at_call 64; refine HC.out.mono ?_; rintro e w2 ⟨rfl, rfl⟩)
  go_ret
  exact ⟨some ⟨w.heap.size, 0, none⟩, n + 1, by rw [HR.out.1]; rfl, HR.out.2, HB.out⟩
theorem last_byte (s : ByteArray) (h : 0 < s.size) : s.data.toList.getLast? = some s[s.size - 1] := by
  rw [List.getLast?_eq_getElem?, List.getElem?_eq_getElem (by simp; omega)]
  congr 1
theorem take_last {α : Type} (l : List α) : l.take (l.length - 1) = l.dropLast := by rw [List.dropLast_eq_take]
set_option maxRecDepth 100000 in
theorem c_LinesOf {B : Nat} (s : ByteArray) (w : World) (hs : s.size ≤ 4294967280) (hE : MaxE B w) : Calls Tryd.prog 23 #[.string s] w (RetSlB cStr (linesF s.data.toList).1 (linesF s.data.toList).2 w) := by
  obtain ⟨⟨m, hm⟩, _, _⟩ := hE
  have HC := hid (Tryd.strings_Split s ⟨#[10]⟩ m w (by omega) hm (by simp [ByteArray.size]))
  have HR := hid (split_rd s 10 (by omega) w 9)
  have HB : Hid (Below w.heap.size w (w.alloc (.cells ((Lib.splitB ⟨#[10]⟩ 0 (Lib.countB s ⟨#[10]⟩) s).map Value.string).toArray 9))) := (Below.refl _ _).alloc (Nat.le_refl _) _
  have hcb : Lib.countB s ⟨#[10]⟩ ≤ s.size := Lib.countB_le ⟨#[10]⟩ (by simp [ByteArray.size]) s.size s (Nat.le_refl _)
  have hL := cut_last 10 _ s.data.toList (Nat.le_refl _)
  have hsz : s.data.toList.length = s.size := by simp
  clear hm
  generalize w.alloc (.cells ((Lib.splitB ⟨#[10]⟩ 0 (Lib.countB s ⟨#[10]⟩) s).map Value.string).toArray 9) = w1 at *
  generalize Lib.countB s ⟨#[10]⟩ = n at *
  by_cases hbig : s.size ≤ 40000
  · by_cases hlast : s.data.toList = [] ∨ s.data.toList.getLast? = some 10
    · have HF : Hid (linesF s.data.toList = ((cutL 10 s.data.toList).take n, true)) := by
        unfold Hid linesF
        rw [if_pos ⟨by omega, hL.2 hlast⟩, List.dropLast_eq_take, HR.out.1]; rfl
      have hn1 : IntKind.i64.wrap ((n : Int) + 1 - 1) = (n : Int) := by rw [wrap_in _ (by omega) (by omega)]; omega
      rcases Nat.eq_zero_or_pos s.size with h0 | h0
      · have h0' : s.data.toList = [] := List.eq_nil_of_length_eq_zero (by omega)
        clear hL hlast hsz
        have t1 : s.toList = [] := by rw [ByteArray.toList_eq]; exact h0'
        clear h0'
        go_enter Tryd.func23, Tryd.ntmps23
        go_wp2_with (go_at_call 64; refine HC.out.mono ?_; rintro e w2 ⟨rfl, rfl⟩)
        go_ret2
        rw [HF.out]
        refine ⟨some ⟨w.heap.size, 0, none⟩, n + 1, ?_, HR.out.2.take n, HB.out⟩
        rw [List.length_take, HR.out.1, Nat.min_eq_left (by omega)]; rfl
      · have hl8 := last_byte s h0
        have hc : s[s.size - 1]'(Nat.sub_lt h0 Nat.one_pos) = 10 := by
          rcases hlast with e | e
          · rw [e] at hsz; simp at hsz; omega
          · rw [hl8] at e; exact Option.some.inj e
        have hne : s.toList ≠ [] := by rw [ByteArray.toList_eq]; intro e; rw [e] at hsz; simp at hsz; omega
        have i1 : (0 : Int) ≤ (s.size : Int) - 1 := by omega
        have i2 : ((s.size : Int) - 1) < (s.size : Int) := by omega
        have i3 : ((s.size : Int) - 1).toNat = s.size - 1 := by omega
        clear hL hlast hsz hl8
        go_enter Tryd.func23, Tryd.ntmps23
        go_wp2_with (go_at_call 64; refine HC.out.mono ?_; rintro e w2 ⟨rfl, rfl⟩)
        go_ret2
        rw [HF.out]
        refine ⟨some ⟨w.heap.size, 0, none⟩, n + 1, ?_, HR.out.2.take n, HB.out⟩
        rw [List.length_take, HR.out.1, Nat.min_eq_left (by omega)]; rfl
    · have h0 : 0 < s.size := by
        rcases Nat.eq_zero_or_pos s.size with h | h
        · exact absurd (.inl (List.eq_nil_of_length_eq_zero (by omega))) hlast
        · exact h
      have hl8 := last_byte s h0
      have hc : s[s.size - 1]'(Nat.sub_lt h0 Nat.one_pos) ≠ 10 := by
        intro e; rw [e] at hl8; exact hlast (.inr hl8)
      obtain ⟨x, hx⟩ : ∃ x, s[s.size - 1]'(Nat.sub_lt h0 Nat.one_pos) = x := ⟨_, rfl⟩
      rw [hx] at hc
      have hxc : ((x.toNat : Int) == 10) = false := by
        simp only [beq_eq_false_iff_ne, ne_eq]; intro e; exact hc (UInt8.toNat_inj.1 (by simp; omega))
      have HF : Hid (linesF s.data.toList = ([], false)) := by
        unfold Hid linesF
        rw [if_neg]; rintro ⟨_, h⟩; exact hlast (hL.1 h)
      have hne : s.toList ≠ [] := by rw [ByteArray.toList_eq]; intro e; exact hlast (.inl e)
      have t1 : (!s.toList.isEmpty) = true := by cases h : s.toList with | nil => exact absurd h hne | cons _ _ => rfl
      have t2 : ((x.toNat : Int) != 10) = true := by rw [bne, hxc]; rfl
      have i1 : (0 : Int) ≤ (s.size : Int) - 1 := by omega
      have i2 : ((s.size : Int) - 1) < (s.size : Int) := by omega
      have i3 : ((s.size : Int) - 1).toNat = s.size - 1 := by omega
      clear hL hlast hl8 hc hsz
      go_enter Tryd.func23, Tryd.ntmps23
      go_wp2
      go_ret2
      rw [HF.out]
      exact ⟨none, 0, rfl, nil_rd _ _ _, Below.refl _ _⟩
  · have HF : Hid (linesF s.data.toList = ([], false)) := by
      unfold Hid linesF
      rw [if_neg]; rintro ⟨h, _⟩; omega
    clear hL hsz
    go_enter Tryd.func23, Tryd.ntmps23
    go_wp2
    go_ret2
    rw [HF.out]
    exact ⟨none, 0, rfl, nil_rd _ _ _, Below.refl _ _⟩
def RetLn (l : List UInt8) (w : World) (e : Ending) (w' : World) : Prop :=
  ∃ (a : Option Addr) (cap : Nat) (zs : List (List UInt8)) (ok : Bool), e = .returned (.tuple #[.slice a zs.length cap, .bool ok]) ∧ SlRd cStr (Fresh w.heap.size w') w' a cap zs ∧ Below w.heap.size w w' ∧ ((ok = true ∧ linesF l = (zs, true)) ∨ (ok = false ∧ linesF l = ([], false)))
set_option maxRecDepth 100000 in
theorem c_l01Lines (s : ByteArray) (w : World) (hs : s.size ≤ 1099511627775) : Calls Tryd.prog 66 #[.string s] w (RetLn s.data.toList w) := by
  have hsz : s.data.toList.length = s.size := by simp
  by_cases hbig : s.size ≤ 40000
  · have HC := hid (c_l01Cut s 10 w hs)
    obtain ⟨k, hk⟩ : ∃ k, (cutL 10 s.data.toList).length = k + 1 := ⟨(cutL 10 s.data.toList).length - 1, by have := List.length_pos_iff.2 (cutL_ne 10 s.data.toList); omega⟩
    have hkl : k ≤ 40000 := by have h1 := cutL_len 10 s.data.toList; have h2 := List.count_le_length (a := (10 : UInt8)) (l := s.data.toList); omega
    have HK := hid hk
    have hx1 : IntKind.i64.wrap ((k : Int) + 1 - 1) = (k : Int) := by rw [wrap_in _ (by omega) (by omega)]; omega
    clear hk
    go_enter Tryd.func66, Tryd.ntmps66
    go_wp2_with fail
    refine HC.out.mono ?_
    rintro e w1 ⟨a1, p1, rfl, hs1, hb1⟩
    rw [HK.out]
    obtain ⟨b, off, rfl⟩ := hs1.some_of (k := k) (by rw [HK.out]; omega)
    obtain ⟨z, hz, hz2, hc, hb, _⟩ := hs1.str_at k (by rw [HK.out]; omega)
    have hp1 : k + 1 ≤ p1 := by rw [← HK.out]; exact hs1.1
    have hp2 := hs1.2.1
    have HS := hid (hs1.take k)
    have HB := hid hb1
    have HZ := hid hz
    have HLK : Hid ((cutL 10 s.data.toList).getLast? = some z) := by unfold Hid; rw [List.getLast?_eq_getElem?, HK.out]; exact hz
    have hlt : ((cutL 10 s.data.toList).take k).length = k := by rw [List.length_take, HK.out]; omega
    have HLT := hid hlt
    have i0 : (0 : Int) ≤ (k : Int) := by omega
    have i1 : (k : Int) < (k : Int) + 1 := by omega
    clear hs1 hb1 hz hlt
    have HDT : Hid ((cutL 10 s.data.toList).dropLast = (cutL 10 s.data.toList).take k) := by unfold Hid; rw [List.dropLast_eq_take, HK.out]; rfl
    by_cases hzn : z = []
    · subst hzn
      have HF : Hid (linesF s.data.toList = ((cutL 10 s.data.toList).take k, true)) := by
        unfold Hid linesF; rw [if_pos ⟨by omega, HLK.out⟩, HDT.out]
      clear hsz
      go_wp2
      go_quiet (fail)
      go_wp2
      go_ret2
      exact ⟨some ⟨b, off, none⟩, p1, _, true, by rw [HLT.out]; rfl, HS.out.fresh (Nat.le_refl _) (Nat.le_refl _) (below_drewN _ _ _), HB.out.trans (below_drewN _ _ _), .inl ⟨rfl, HF.out⟩⟩
    · have HF : Hid (linesF s.data.toList = ([], false)) := by
        unfold Hid linesF; rw [if_neg]; rintro ⟨_, h⟩; rw [HLK.out] at h; exact hzn (Option.some.inj h)
      have hzz : (z == []) = false := by simpa using hzn
      clear hsz hzn
      go_wp2
      go_quiet (fail)
      go_wp2
      go_ret2
      exact ⟨some ⟨b, off, none⟩, p1, _, false, by rw [HLT.out]; rfl, HS.out.fresh (Nat.le_refl _) (Nat.le_refl _) (below_drewN _ _ _), HB.out.trans (below_drewN _ _ _), .inr ⟨rfl, HF.out⟩⟩
  · have HF : Hid (linesF s.data.toList = ([], false)) := by
      unfold Hid linesF
      rw [if_neg]; rintro ⟨h, _⟩; omega
    clear hsz
    go_enter Tryd.func66, Tryd.ntmps66
    go_wp2
    go_ret2
    exact ⟨some ⟨w.heap.size, 0, none⟩, 0, [], false, rfl, empty_rd _ _ _ _, (Below.refl _ _).alloc (Nat.le_refl _) _, .inr ⟨rfl, HF.out⟩⟩
theorem c_sLinesOf (s : ByteArray) (w : World) (hs : s.size ≤ 1099511627775) : Calls Tryd.prog 22 #[.string s] w (RetSlB cStr (linesF s.data.toList).1 (linesF s.data.toList).2 w) := by
  have HC := hid (c_l01Lines s w hs)
  go_enter Tryd.func22, Tryd.ntmps22
  go_wp2_with fail
  refine HC.out.mono ?_
  rintro e w1 ⟨a1, p1, zs, ok, rfl, hs1, hb1, hh⟩
  have HS := hid hs1
  have HB := hid hb1
  clear hs1 hb1
  rcases hh with ⟨rfl, h⟩ | ⟨rfl, h⟩
  all_goals
    have HF := hid h
    clear h
    go_wp2
    go_ret2
    rw [HF.out]
    first
      | exact ⟨a1, p1, rfl, HS.out, HB.out⟩
      | exact ⟨none, 0, rfl, nil_rd _ _ _, HB.out⟩
end Go.Proofs.YtcbaohcgeoaccaaDoor
