/- Contracts of the laws' own helpers: sizes, copies, comparisons. -/
import Derived.Test.YtkckhnpdodbffaaProg
import Derived.Test.YtkckhnpdodbffaaOwn
import Derived.Deep.QuietTactic
import Derived.BigQuiet
import Derived.StillTailTactics
namespace Go.Proofs.Ytkckhnpdodbffaa
open Go.RowKit

def szR (left n : Int) : Int := if left < n then -1 else left - n
theorem slI64 : SlT Try.prog 24 2 (.int .i64 0) 1 8 := ⟨Try.underlying24, by kernel_rfl, rfl, by decide, by decide⟩
theorem slTerm : SlT Try.prog 27 39 (.agg #[.int .i64 0, .slice none 0 0]) 2 32 := ⟨Try.underlying27, by kernel_rfl, rfl, by decide, by decide⟩
theorem c_szInt64S (a : Option Addr) (n cap : Nat) (left : Int) (w : World) (hn : n ≤ 9223372036854775807) (h0 : 0 ≤ left) (h1 : left ≤ 1048576) :
    Calls Try.prog 26 #[.slice a n cap, .int .i64 left] w fun e w' => e = .returned (.int .i64 (szR left n)) ∧ w = w' := by
  by_cases h : left < n
  · have HF : Hid (szR left n = -1) := by unfold Hid; simp [szR, h]
    have h' : left - (n : Int) < 0 := by omega
    go_enter Try.func26, Try.ntmps26
    go_wp2
    go_ret
    exact ⟨ret_int HF.out.symm, rfl⟩
  · have HF : Hid (szR left n = left - n) := by unfold Hid; simp [szR, h]
    go_enter Try.func26, Try.ntmps26
    go_wp2
    go_ret
    exact ⟨ret_int HF.out.symm, rfl⟩
theorem c_szTerm (c : Int) (a : Option Addr) (n cap : Nat) (left : Int) (w : World) (hn : n ≤ 9223372036854775807) (h0 : 0 ≤ left) (h1 : left ≤ 1048576) :
    Calls Try.prog 14 #[.agg #[.int .i64 c, .slice a n cap], .int .i64 left] w fun e w' => e = .returned (.int .i64 (szR left n)) ∧ Below w.heap.size w w' := by
  obtain ⟨r, hr⟩ : ∃ r, r = szR left n := ⟨_, rfl⟩
  have hr1 : r < 0 → r = -1 := by rw [hr]; unfold szR; split <;> omega
  have HR := hid hr
  by_cases h : r < 0
  · have h1 := hid (hr1 h)
    clear hr1 hr
    go_enter Try.func14, Try.ntmps14
    go_wp2_with (go_at_call 26; refine (c_szInt64S _ _ _ _ _ hn (by omega) (by omega)).mono ?_; rintro e w' ⟨rfl, rfl⟩; rw [← HR.out])
    go_ret
    exact ⟨ret_int (by rw [← HR.out, h1.out]), (Below.refl _ _).alloc (Nat.le_refl _) _⟩
  · clear hr1 hr
    go_enter Try.func14, Try.ntmps14
    go_wp2_with (go_at_call 26; refine (c_szInt64S _ _ _ _ _ hn (by omega) (by omega)).mono ?_; rintro e w' ⟨rfl, rfl⟩; rw [← HR.out])
    go_ret
    exact ⟨ret_int HR.out, (Below.refl _ _).alloc (Nat.le_refl _) _⟩
theorem c_toInt64S {S : Nat → Prop} (a : Option Addr) (cap : Nat) (zs : List Int) (w : World) (h : SlRd cInt S w a cap zs) (hn : zs.length ≤ 1048576) :
    Calls Try.prog 34 #[.slice a zs.length cap] w (RetSl cInt zs w) := by
  have H := hid h
  clear h
  go_enter Try.func34, Try.ntmps34
  go_wp2_with (at_make; go_loud (refine wpList_mk rfl (.tmp 6) (.tmp 6) _ rfl rfl rfl (own_mk slI64 (C := cInt) (base := w.heap.size) (fun _ => False) zs.length (by omega) (Nat.le_refl _) 0 (fun _ _ => ⟨rfl, i64_0⟩) _ _) ?_); rintro w1 ⟨hown, hg⟩)
  go_loopw [4] (fun i wr => ∃ k : Nat, k ≤ zs.length ∧ i = .int .i64 k ∧ OwnSl cInt (fun _ => False) wr w.heap.size 2 (.slice (some ⟨w.heap.size, 0, none⟩) zs.length zs.length) (zs.take k ++ List.replicate (zs.length - k) 0) ∧ Below w.heap.size w wr) (fun i _ => zs.length - (intOf i).toNat)
  case atStart => exact ⟨0, Nat.zero_le _, rfl, by simpa using hown, (Below.refl _ _).grown hg (Nat.le_refl _) (by simp)⟩
  case round =>
    obtain ⟨k, hk, rfl, hown, hbe⟩ := hrel
    by_cases hlt : k < zs.length
    · obtain ⟨b, off, rfl⟩ := H.out.some_of hlt
      obtain ⟨z, hz, hz2, hc, hb⟩ := (H.out.below (Nat.le_refl _) hbe).int_at k hlt
      obtain ⟨z', _, _, hc', hf', _, _⟩ := own_at_int hown (fill_len rfl hk) k hlt
      have HZ := hid hz
      have HO := hid hown
      clear hz hown hg
      go_wp2
      go_roundw
      case rel =>
        obtain ⟨h1, h2⟩ := own_set_int HO.out (fill_len rfl hk) k hlt z hz2
        rw [fill_set rfl hlt HZ.out] at h1
        exact ⟨k + 1, by omega, by go_num, h1, hbe.setCell (Nat.le_refl _) _⟩
      case measure => simp [intOf]; omega
    · go_wp2
      go_ret
      rw [fill_end rfl (by omega)] at hown
      exact retSl_own hown (fun _ h => h.elim) hbe
theorem c_toTerm {S : Nat → Prop} (c : Int) (a : Option Addr) (cap : Nat) (zs : List Int) (w : World) (h : SlRd cInt S w a cap zs) (hn : zs.length ≤ 1048576) :
    Calls Try.prog 16 #[.agg #[.int .i64 c, .slice a zs.length cap]] w (RetTerm (c, zs) w) := by
  have H := hid h
  clear h
  go_enter Try.func16, Try.ntmps16
  go_wp2_with (go_at_call 34; refine (c_toInt64S _ _ _ _ (((H.out.alloc _).alloc _).alloc _) hn).mono ?_; rintro e w1 ⟨a1, cap1, rfl, hs1, hb1⟩; obtain ⟨hc1, hf1⟩ := bcell hb1; have hz1 := hb1.size; simp only [World.size_alloc] at hz1 hc1 hf1; have HB := hid hb1; have HS := hid hs1; clear hb1 hs1)
  refine bodyPost_ret (v := .agg #[.int .i64 c, .slice a1 zs.length cap1]) (by simp [results, Try.results16, go_sem, hc1]) rfl ⟨a1, cap1, rfl, ?_, ?_⟩
  · have h1 := HS.out
    simp only [World.size_alloc] at h1
    exact ((((h1.setC (by simp) _).setC (by simp) _).setC (by simp) _).lower (by omega))
  · refine Below.setCell (Below.setCell (Below.setCell ?_ (by simp; omega) _) (by simp) _) (by simp) _
    exact (((Below.refl _ _).alloc (Nat.le_refl _) _).alloc (by simp) _).alloc (by simp; omega) _ |>.trans (HB.out.mono (by simp; omega))
theorem take_eq_snoc {α : Type} {xs ys : List α} {k : Nat} {x y : α} (h : xs.take k = ys.take k) (hx : xs[k]? = some x) (hy : ys[k]? = some y) (e : x = y) : xs.take (k + 1) = ys.take (k + 1) := by
  rw [List.take_add_one, List.take_add_one, h, hx, hy, e]
theorem ne_at {α : Type} {xs ys : List α} {k : Nat} {x y : α} (hx : xs[k]? = some x) (hy : ys[k]? = some y) (e : x ≠ y) : xs ≠ ys := by
  rintro rfl; rw [hx] at hy; exact e (by simpa using hy)
theorem take_all_eq {α : Type} {xs ys : List α} {k : Nat} (h : xs.take k = ys.take k) (h1 : xs.length ≤ k) (h2 : ys.length ≤ k) : xs = ys := by
  rwa [List.take_of_length_le h1, List.take_of_length_le h2] at h
theorem c_eqInt64S {S T : Nat → Prop} (a b : Option Addr) (ca cb : Nat) (xs ys : List Int) (w : World) (hx : SlRd cInt S w a ca xs) (hy : SlRd cInt T w b cb ys) :
    Calls Try.prog 9 #[.slice a xs.length ca, .slice b ys.length cb] w fun e w' => e = .returned (.bool (decide (xs = ys))) ∧ Below w.heap.size w w' := by
  have HX := hid hx
  have HY := hid hy
  have hlx := hx.len_le
  have hly := hy.len_le
  clear hx hy
  by_cases hl : xs.length = ys.length
  · have h1 : ((xs.length : Int) != ys.length) = false := by simp [hl]
    have HL := hid hl
    have hl1 : xs.length ≤ ys.length := by omega
    have hl2 : ys.length ≤ xs.length := by omega
    clear hl
    go_enter Try.func9, Try.ntmps9
    go_wp2
    go_loopw [5] (fun i wr => ∃ k : Nat, k ≤ xs.length ∧ i = .int .i64 k ∧ Hid (xs.take k = ys.take k) ∧ Below w.heap.size w wr) (fun i _ => xs.length - (intOf i).toNat)
    case atStart => exact ⟨0, Nat.zero_le _, rfl, rfl, Below.refl _ _⟩
    case round =>
      obtain ⟨k, hk, rfl, HA, hbe⟩ := hrel
      by_cases hlt : k < xs.length
      · obtain ⟨b1, off1, rfl⟩ := HX.out.some_of hlt
        obtain ⟨b2, off2, rfl⟩ := HY.out.some_of (k := k) (by omega)
        obtain ⟨x, hxk, _, hcx, _⟩ := (HX.out.below (Nat.le_refl _) hbe).int_at k hlt
        obtain ⟨y, hyk, _, hcy, _⟩ := (HY.out.below (Nat.le_refl _) hbe).int_at k (by omega)
        have HXK := hid hxk
        have HYK := hid hyk
        clear hxk hyk
        have i1 : (0 : Int) ≤ (k : Int) := by omega
        have i2 : (k : Int) < (xs.length : Int) := by omega
        have i3 : (k : Int) < (ys.length : Int) := by omega
        by_cases he : x = y
        · have he' : (x != y) = false := by simp [he]
          have HE := hid he
          clear he
          go_wp2
          go_quiet (fail)
          go_wp2
          go_roundw
          case rel => exact ⟨k + 1, by omega, by go_num, take_eq_snoc HA.out HXK.out HYK.out HE.out, hbe.trans (below_drewN _ _ _)⟩
          case measure => simp [intOf]; omega
        · have he' : (x != y) = true := by simp [he]
          have HE := hid he
          clear he
          go_wp2
          go_quiet (fail)
          go_wp2
          go_ret
          exact ⟨ret_bool (by simp [ne_at HXK.out HYK.out HE.out]), hbe.trans (below_drewN _ _ _)⟩
      · go_wp2
        go_ret
        exact ⟨ret_bool (by simp [take_all_eq HA.out (by omega) (by omega)]), hbe⟩
  · have h1 : ((xs.length : Int) != ys.length) = true := by simp; omega
    have HF : Hid (decide (xs = ys) = false) := by unfold Hid; simp; rintro rfl; exact hl rfl
    clear hl
    go_enter Try.func9, Try.ntmps9
    go_wp2
    go_ret
    exact ⟨ret_bool HF.out.symm, Below.refl _ _⟩
theorem c_eqTerm {S T : Nat → Prop} (c d : Int) (a b : Option Addr) (ca cb : Nat) (xs ys : List Int) (w : World) (hx : SlRd cInt S w a ca xs) (hy : SlRd cInt T w b cb ys) :
    Calls Try.prog 18 #[.agg #[.int .i64 c, .slice a xs.length ca], .agg #[.int .i64 d, .slice b ys.length cb]] w fun e w' => e = .returned (.bool (decide (((c, xs) : Term) = (d, ys)))) ∧ Below w.heap.size w w' := by
  have HX := hid hx
  have HY := hid hy
  clear hx hy
  by_cases hc : c = d
  · have h1 : (c != d) = false := by simp [hc]
    have HF : Hid (decide (((c, xs) : Term) = (d, ys)) = decide (xs = ys)) := by unfold Hid; simp [hc]
    have HC := hid hc
    clear hc
    obtain ⟨r, hr⟩ : ∃ r, decide (xs = ys) = r := ⟨_, rfl⟩
    have HR := hid hr
    clear hr
    cases r
    all_goals
      go_enter Try.func18, Try.ntmps18
      go_wp2_with (go_at_call 9; refine (c_eqInt64S _ _ _ _ _ _ _ ((HX.out.alloc _).alloc _) ((HY.out.alloc _).alloc _)).mono ?_; rintro e w1 ⟨rfl, hb1⟩; rw [HR.out])
      go_ret
      exact ⟨ret_bool (by rw [HF.out, HR.out]), (((Below.refl _ _).alloc (Nat.le_refl _) _).alloc (by simp) _).trans (hb1.mono (by simp; omega))⟩
  · have h1 : (c != d) = true := by simp [hc]
    have HF : Hid (decide (((c, xs) : Term) = (d, ys)) = false) := by unfold Hid; simp [hc]
    clear hc
    go_enter Try.func18, Try.ntmps18
    go_wp2
    go_ret
    exact ⟨ret_bool HF.out.symm, ((Below.refl _ _).alloc (Nat.le_refl _) _).alloc (by simp) _⟩
def szT (t : Term) : Nat := t.2.length
def szTs (ts : List Term) : Nat := ts.length + (ts.map szT).sum
theorem szR_neg {left : Int} {n m : Nat} (h : szR left n < 0) : szR left (n + m : Nat) = -1 := by unfold szR at *; split at h <;> split <;> omega
theorem szR_add {left : Int} {n m : Nat} (h : 0 ≤ szR left n) : szR (szR left n) m = szR left (n + m : Nat) := by unfold szR at *; split at h <;> (split <;> split <;> omega)
theorem szR_ge {left : Int} {n : Nat} (h : 0 ≤ szR left n) : (n : Int) ≤ left ∧ szR left n ≤ left := by unfold szR at *; split at h <;> (try split) <;> omega
theorem sum_take {ts : List Term} {k : Nat} {t : Term} (h : ts[k]? = some t) : ((ts.take (k + 1)).map szT).sum = ((ts.take k).map szT).sum + szT t := by
  rw [List.take_add_one, h]; simp
theorem sum_take_le (ts : List Term) (k : Nat) : ((ts.take k).map szT).sum ≤ (ts.map szT).sum := by
  have : (ts.map szT).sum = ((ts.take k).map szT).sum + ((ts.drop k).map szT).sum := by rw [← List.sum_append, ← List.map_append, List.take_append_drop]
  omega
theorem szTs_le {ts : List Term} {t : Term} (h : t ∈ ts) : t.2.length ≤ szTs ts := by
  have : ∀ ts : List Term, t ∈ ts → t.2.length ≤ (ts.map szT).sum := by
    intro ts
    induction ts with
    | nil => intro h; cases h
    | cons u ts ih =>
      intro h
      rcases List.mem_cons.1 h with rfl | h
      · simp [szT]
      · have := ih h; simp; omega
  have := this ts h
  unfold szTs; omega
theorem c_szTermS {S : Nat → Prop} (a : Option Addr) (cap : Nat) (ts : List Term) (left : Int) (w : World) (h : SlRd cTerm S w a cap ts) (h0 : 0 ≤ left) (h1 : left ≤ 1048576) :
    Calls Try.prog 5 #[.slice a ts.length cap, .int .i64 left] w fun e w' => e = .returned (.int .i64 (szR left (szTs ts))) ∧ Below w.heap.size w w' := by
  have H := hid h
  have hl := h.len_le
  clear h
  by_cases hs : left < ts.length
  · have HF : Hid (szR left (szTs ts) = -1) := szR_neg (n := ts.length) (by unfold szR; rw [if_pos hs]; omega)
    have h' : left - (ts.length : Int) < 0 := by omega
    go_enter Try.func5, Try.ntmps5
    go_wp2
    go_ret
    exact ⟨ret_int HF.out.symm, Below.refl _ _⟩
  · have h' : 0 ≤ left - (ts.length : Int) := by omega
    go_enter Try.func5, Try.ntmps5
    go_wp2
    go_loopw [1, 5] (fun u i wr => ∃ (k : Nat) (r : Int), k ≤ ts.length ∧ i = .int .i64 k ∧ u = .int .i64 r ∧ 0 ≤ r ∧ r ≤ left ∧ Hid (r = szR left (ts.length + ((ts.take k).map szT).sum : Nat)) ∧ Below w.heap.size w wr) (fun _ i _ => ts.length - (intOf i).toNat)
    case atStart => exact ⟨0, _, Nat.zero_le _, rfl, rfl, h', by omega, by (unfold Hid szR; simp; omega), Below.refl _ _⟩
    case round =>
      obtain ⟨k, r, hk, rfl, rfl, hr0, hr1, HR, hbe⟩ := hrel
      have hsz := hbe.size
      by_cases hlt : k < ts.length
      · obtain ⟨b, off, rfl⟩ := H.out.some_of hlt
        obtain ⟨c, zs, a', cap', hz, hc1, hsl, hc, hc', hb⟩ := (H.out.below (Nat.le_refl _) hbe).term_at k hlt
        have hzl := hsl.len_le
        have HZ := hid hz
        clear hz hsl
        obtain ⟨q, hq⟩ : ∃ q, szR r zs.length = q := ⟨_, rfl⟩
        have hqs : q = szR left (ts.length + ((ts.take (k + 1)).map szT).sum : Nat) := by
          rw [← hq, sum_take HZ.out]
          have hr := HR.out
          rw [hr] at hr0
          rw [hr, szR_add hr0]
          congr 1
          show _ = ((ts.length + (((ts.take k).map szT).sum + zs.length) : Nat) : Int)
          omega
        have hq1 : q ≤ r := by rw [← hq]; unfold szR; split <;> omega
        have HQ := hid hq
        have HS := hid hqs
        clear hq hqs
        by_cases hneg : q < 0
        · have HF : Hid (szR left (szTs ts) = -1) := by
            have h2 := HS.out
            rw [h2] at hneg
            have h3 : szTs ts = (ts.length + ((ts.take (k + 1)).map szT).sum) + ((ts.map szT).sum - ((ts.take (k + 1)).map szT).sum) := by
              have := sum_take_le ts (k + 1)
              unfold szTs; omega
            unfold Hid; rw [h3]; exact szR_neg hneg
          go_wp2_with (go_at_call 14; refine (c_szTerm _ _ _ _ _ _ hzl (by omega) (by omega)).mono ?_; rintro e w1 ⟨rfl, hb1⟩; rw [HQ.out])
          go_ret
          exact ⟨ret_int HF.out.symm, bel_next hbe hsz hb1⟩
        · go_wp2_with (go_at_call 14; refine (c_szTerm _ _ _ _ _ _ hzl (by omega) (by omega)).mono ?_; rintro e w1 ⟨rfl, hb1⟩; rw [HQ.out])
          go_roundw
          case rel => exact ⟨k + 1, q, by omega, by go_num, rfl, by omega, by omega, HS, bel_next hbe hsz hb1⟩
          case measure => simp [intOf]; omega
      · go_wp2
        go_ret
        exact ⟨ret_int (by rw [HR.out, List.take_of_length_le (by omega)]; rfl), hbe⟩
theorem c_toTermS {S : Nat → Prop} (a : Option Addr) (cap : Nat) (ts : List Term) (w : World) (h : SlRd cTerm S w a cap ts) (hn : ts.length ≤ 1048576) (hn' : ∀ t ∈ ts, t.2.length ≤ 1048576) :
    Calls Try.prog 7 #[.slice a ts.length cap] w (RetSl cTerm ts w) := by
  have H := hid h
  have HN := hid hn'
  clear h hn'
  go_enter Try.func7, Try.ntmps7
  go_wp2_with (at_make; go_loud (refine wpList_mk rfl (.tmp 6) (.tmp 6) _ rfl rfl rfl (own_mk slTerm (C := cTerm) (base := w.heap.size) (fun _ => False) ts.length (by omega) (Nat.le_refl _) (0, []) (fun _ _ => ⟨[_], [_], rfl, ⟨rfl, i64_0⟩, none, 0, rfl, nil_rd _ _ _⟩) _ _) ?_); rintro w1 ⟨hown, hg⟩)
  have hlt0 : w.heap.size < w1.heap.size := (own_lt hown _ rfl).2
  have HO := hid hown
  have HG := hid hg
  clear hown hg
  go_loopw [4] (fun i wr => ∃ k : Nat, k ≤ ts.length ∧ i = .int .i64 k ∧ OwnSl cTerm (Fresh w.heap.size wr) wr w.heap.size 39 (.slice (some ⟨w.heap.size, 0, none⟩) ts.length ts.length) (ts.take k ++ List.replicate (ts.length - k) (0, [])) ∧ Below w.heap.size w wr ∧ w.heap.size < wr.heap.size) (fun i _ => ts.length - (intOf i).toNat)
  case atStart => exact ⟨0, Nat.zero_le _, rfl, by simpa using own_keep (S' := Fresh w.heap.size w1) HO.out (fun _ h => h.elim) (fun _ _ _ => rfl), (Below.refl _ _).grown HG.out (Nat.le_refl _) (by simp), hlt0⟩
  case round =>
    obtain ⟨k, hk, rfl, hown, hbe, hgl⟩ := hrel
    have hsz := hbe.size
    by_cases hlt : k < ts.length
    · obtain ⟨b, off, rfl⟩ := H.out.some_of hlt
      obtain ⟨c, zs, a', cap', hz, hc1, hsl, hc, hc', hb⟩ := (H.out.below (Nat.le_refl _) hbe).term_at k hlt
      have hzl := HN.out _ (List.mem_of_getElem? hz)
      have HZ := hid hz
      have HW := hid hown
      clear hz hown
      go_wp2_with (go_at_call 16; refine (c_toTerm _ _ _ _ _ hsl hzl).mono ?_; rintro e w2 ⟨a2, cap2, rfl, hs2, hb2⟩; have hw2 := own_fresh HW.out (Nat.le_refl _) (Nat.le_refl _) hb2; obtain ⟨_, _, _, _, _, _, _, g1, g2, g3, g4, g5, _⟩ := own_at_term hw2 (fill_len rfl hk) k hlt; have HW2 := hid hw2; have HS2 := hid hs2; have hz2 := hb2.size; have HB2 := hid hb2; clear hw2 hs2 hb2)
      go_roundw
      case rel =>
        obtain ⟨h1, h2⟩ := own_set_term HW2.out (fill_len rfl hk) k hlt c hc1 HS2.out hsz hgl
        rw [fill_set rfl hlt HZ.out] at h1
        exact ⟨k + 1, by omega, by go_num, h1, ((hbe.trans (HB2.out.mono hsz)).setCell (Nat.le_refl _) _).setCell (Nat.le_refl _) _, by simp [World.setCell]; omega⟩
      case measure => simp [intOf]; omega
    · go_wp2
      go_ret
      rw [fill_end rfl (by omega)] at hown
      exact retSl_own hown (fun _ h _ => h) hbe
set_option maxRecDepth 100000 in
theorem c_eqTermS {S T : Nat → Prop} (a b : Option Addr) (ca cb : Nat) (xs ys : List Term) (w : World) (hx : SlRd cTerm S w a ca xs) (hy : SlRd cTerm T w b cb ys) :
    Calls Try.prog 10 #[.slice a xs.length ca, .slice b ys.length cb] w fun e w' => e = .returned (.bool (decide (xs = ys))) ∧ Below w.heap.size w w' := by
  have HX := hid hx
  have HY := hid hy
  have hlx := hx.len_le
  have hly := hy.len_le
  clear hx hy
  by_cases hl : xs.length = ys.length
  · have h1 : ((xs.length : Int) != ys.length) = false := by simp [hl]
    have hl1 : xs.length ≤ ys.length := by omega
    have hl2 : ys.length ≤ xs.length := by omega
    clear hl
    go_enter Try.func10, Try.ntmps10
    go_wp2
    go_loopw [5] (fun i wr => ∃ k : Nat, k ≤ xs.length ∧ i = .int .i64 k ∧ Hid (xs.take k = ys.take k) ∧ Below w.heap.size w wr) (fun i _ => xs.length - (intOf i).toNat)
    case atStart => exact ⟨0, Nat.zero_le _, rfl, rfl, Below.refl _ _⟩
    case round =>
      obtain ⟨k, hk, rfl, HA, hbe⟩ := hrel
      have hsz := hbe.size
      by_cases hlt : k < xs.length
      · obtain ⟨b1, off1, rfl⟩ := HX.out.some_of hlt
        obtain ⟨b2, off2, rfl⟩ := HY.out.some_of (k := k) (by omega)
        obtain ⟨x, xs', a1, p1, hxk, _, hsx, hcx, hcx', hbx⟩ := (HX.out.below (Nat.le_refl _) hbe).term_at k hlt
        obtain ⟨y, ys', a2, p2, hyk, _, hsy, hcy, hcy', hby⟩ := (HY.out.below (Nat.le_refl _) hbe).term_at k (by omega)
        have HXK := hid hxk
        have HYK := hid hyk
        have HSX := hid hsx.drew
        have HSY := hid hsy.drew
        clear hxk hyk hsx hsy
        have i1 : (0 : Int) ≤ (k : Int) := by omega
        have i2 : (k : Int) < (xs.length : Int) := by omega
        have i3 : (k : Int) < (ys.length : Int) := by omega
        obtain ⟨r, hr⟩ : ∃ r, decide (((x, xs') : Term) = (y, ys')) = r := ⟨_, rfl⟩
        have HR := hid hr
        clear hr
        cases r
        · go_wp2
          go_still_tail 8, (by kernel_rfl)
          change wpList _ _ _ _ _ wr.drew
          go_wp2_with (go_at_call 18; refine (c_eqTerm _ _ _ _ _ _ _ _ _ HSX.out HSY.out).mono ?_; rintro e w1 ⟨rfl, hb1⟩; rw [HR.out])
          go_ret
          exact ⟨ret_bool (by simp [ne_at HXK.out HYK.out (of_decide_eq_false HR.out)]), hbe.drew.trans (hb1.mono hsz)⟩
        · go_wp2
          go_still_tail 8, (by kernel_rfl)
          change wpList _ _ _ _ _ wr.drew
          go_wp2_with (go_at_call 18; refine (c_eqTerm _ _ _ _ _ _ _ _ _ HSX.out HSY.out).mono ?_; rintro e w1 ⟨rfl, hb1⟩; rw [HR.out])
          go_roundw
          case rel => exact ⟨k + 1, by omega, by go_num, take_eq_snoc HA.out HXK.out HYK.out (of_decide_eq_true HR.out), hbe.drew.trans (hb1.mono hsz)⟩
          case measure => simp [intOf]; omega
      · go_wp2
        go_ret
        exact ⟨ret_bool (by simp [take_all_eq HA.out (by omega) (by omega)]), hbe⟩
  · have h1 : ((xs.length : Int) != ys.length) = true := by simp; omega
    have HF : Hid (decide (xs = ys) = false) := by unfold Hid; simp; rintro rfl; exact hl rfl
    clear hl
    go_enter Try.func10, Try.ntmps10
    go_wp2
    go_ret
    exact ⟨ret_bool HF.out.symm, Below.refl _ _⟩
end Go.Proofs.Ytkckhnpdodbffaa
