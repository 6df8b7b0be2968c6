/- Contracts: the source of choices that the laws of properties read: what it draws lies in bounds. -/
import Derived.Test.YtcbaohcgeoaccaaDoorProg
import Derived.Test.YtcbaohcgeoaccaaDoorUni
import Derived.Test.YtcbaohcgeoaccaaDoorApp2
import Derived.Test.YtcbaohcgeoaccaaDoorOpn
import Derived.Laws.BitsAllLaws
import Derived.Deep.QuietTactic
import Derived.BigQuiet
namespace Go.Proofs.YtcbaohcgeoaccaaDoor
open Go.RowKit

def cU8 : Codec Int where
  n := 1
  rd := fun _ _ cs a => cs = [.int .u8 a] ∧ 0 ≤ a ∧ a < 256
  len := by rintro _ _ _ _ ⟨rfl, _⟩; rfl
  one := by rintro _ _ _ _ ⟨rfl, _⟩ u hu; simp at hu; subst hu; rfl
  keep := fun _ h => h
theorem SlRd.u8_at {S : Nat → Prop} {w : World} {b off cap : Nat} {zs : List Int} (h : SlRd cU8 S w (some ⟨b, off, none⟩) cap zs) (k : Nat) (hk : k < zs.length) :
    ∃ z, zs[k]? = some z ∧ 0 ≤ z ∧ z < 256 ∧ w.cell? ⟨b, off + k, none⟩ = some (.int .u8 z) ∧ b < w.heap.size := by
  obtain ⟨d, cs, h1, ⟨rfl, hz⟩, h7, _, hc⟩ := h.at k hk
  have := hc 0 _ rfl
  simp only [cU8, Nat.mul_one, Nat.add_zero] at this
  exact ⟨_, h1, hz.1, hz.2, this, h7⟩
/-- The source in block g, of which at most k choices have been read. -/
def SrcOk (g k : Nat) (w : World) : Prop := ∃ (a : Option Addr) (p : Nat) (bs : List Int) (A s : Int), w.heap[g]? = some (.cells #[.slice a bs.length p, .int .i64 A, .int .u64 s] 157 (0, 0)) ∧ SlRd cU8 (fun b => b < g) w a p bs ∧ 0 ≤ A ∧ A ≤ k ∧ 0 ≤ s ∧ s ≤ 18446744073709551615
/-- A number below n, and the source. -/
def RetNum (n : Int) (g k : Nat) (w : World) (e : Ending) (w' : World) : Prop := ∃ z : Int, e = .returned (.int .i64 z) ∧ 0 ≤ z ∧ z < n ∧ SrcOk g k w' ∧ w.grownBy w' (some g)
theorem srcOk_lt {g k : Nat} {w : World} (h : SrcOk g k w) : g < w.heap.size := by obtain ⟨_, _, _, _, _, h, _⟩ := h; exact (Array.getElem?_eq_some_iff.1 h).1
theorem srcOk_keep {g k k' : Nat} {w w' : World} (h : SrcOk g k w) (hk : k ≤ k') (hb : ∀ b, b ≤ g → w'.heap[b]? = w.heap[b]?) : SrcOk g k' w' := by
  obtain ⟨a, p, bs, A, s, h1, h2, h3, h4, h5, h6⟩ := h
  exact ⟨a, p, bs, A, s, by rw [hb g (Nat.le_refl _)]; exact h1, h2.keep fun b hb' _ => ⟨hb', hb b (by omega)⟩, h3, by omega, h5, h6⟩
theorem u64_and255 (E : Int) (h0 : 0 ≤ E) (h1 : E ≤ 18446744073709551615) : 0 ≤ bits .and .u64 E 255 ∧ bits .and .u64 E 255 < 256 := by
  obtain ⟨n, rfl⟩ := Int.eq_ofNat_of_zero_le h0
  have := u64_and_nat n 255 (by omega) (by decide)
  rw [show ((255 : Nat) : Int) = 255 from rfl] at this
  rw [this]
  have h2 : n &&& 255 ≤ 255 := Nat.and_le_right
  omega
theorem wrap64_eq {x : Int} (h0 : 0 ≤ x) (h1 : x < 256) : wrap64 x = x := by unfold wrap64; omega
theorem wrap64_lo {x : Int} (h0 : 0 ≤ x) (h1 : x < 256) : 0 ≤ wrap64 x := by rw [wrap64_eq h0 h1]; exact h0
theorem wrap64_hi {x : Int} (h0 : 0 ≤ x) (h1 : x < 256) : wrap64 x < 256 := by rw [wrap64_eq h0 h1]; exact h1
theorem u64wrap_bd (n : Int) : 0 ≤ IntKind.u64.wrap n ∧ IntKind.u64.wrap n ≤ 18446744073709551615 := by rw [IntKind.wrap_u64]; omega
theorem grown_trans {a b c : World} {row : Option Nat} (h : a.grownBy b row) (k : b.grownBy c row) : a.grownBy c row :=
  ⟨k.os.trans h.os, k.tape.trans h.tape, k.output.trans h.output, Nat.le_trans h.size k.size, fun i hi hn => (k.block i (Nat.lt_of_lt_of_le hi h.size) hn).trans (h.block i hi hn)⟩
theorem grown_refl (w : World) (row : Option Nat) : w.grownBy w row := ⟨rfl, rfl, rfl, Nat.le_refl _, fun _ _ _ => rfl⟩
theorem grown_set2 (w : World) (g : Nat) (u v : Value) (n m : Nat) : w.grownBy ((((w.drewN n).setCell ⟨g, 1, none⟩ u).setCell ⟨g, 2, none⟩ v).drewN m) (some g) :=
  ⟨rfl, rfl, rfl, by show w.heap.size ≤ (((w.drewN n).setCell ⟨g, 1, none⟩ u).setCell ⟨g, 2, none⟩ v).heap.size; rw [size_set, size_set]; exact Nat.le_refl _, fun i hi hn => by
    have h1 : i ≠ g := fun e => hn (by rw [e])
    show (((w.drewN n).setCell ⟨g, 1, none⟩ u).setCell ⟨g, 2, none⟩ v).heap[i]? = w.heap[i]?
    rw [Below.heap_setCell _ _ _ _ h1, Below.heap_setCell _ _ _ _ h1]; rfl⟩
theorem grown_below {w w' : World} {g : Nat} (h : w.grownBy w' (some g)) {B : Nat} (hB : B ≤ g) (hBs : B ≤ w.heap.size) : Below B w w' := ⟨h.os, h.tape, h.output, h.size, fun k hk => h.block k (by omega) (by simp; omega)⟩
theorem srcOk_mk {g k : Nat} {w w' : World} {a : Option Addr} {p : Nat} {bs : List Int} {A s : Int} (hg : w.grownBy w' (some g)) (hb : w'.heap[g]? = some (.cells #[.slice a bs.length p, .int .i64 A, .int .u64 s] 157 (0, 0))) (hr : SlRd cU8 (fun b => b < g) w a p bs) (_hl : g < w.heap.size) (h0 : 0 ≤ A) (h1 : A ≤ k) (h2 : 0 ≤ s) (h3 : s ≤ 18446744073709551615) : SrcOk g k w' :=
  ⟨a, p, bs, A, s, hb, hr.keep fun b hb hl => ⟨hb, hg.block b hl (by simp; omega)⟩, h0, h1, h2, h3⟩
set_option maxRecDepth 100000 in
theorem c_next (g k : Nat) (w : World) (hs : SrcOk g k w) (hk : k ≤ 1000000) : Calls Tryd.prog 161 #[.pointer (some ⟨g, 0, none⟩)] w (RetNum 256 g (k + 1) w) := by
  obtain ⟨a, p, bs, A, s, h1, h2, h3, h4, h5, h6⟩ := hs
  have hl := h2.len_le
  have hg := (Array.getElem?_eq_some_iff.1 h1).1
  have t0 := cell_of h1 (j := 0) rfl
  have t1 := cell_of h1 (j := 1) rfl
  have t2 := cell_of h1 (j := 2) rfl
  have f1 := frz_of h1 1
  have f2 := frz_of h1 2
  have H1 := hid h1
  have H2 := hid h2
  clear h1 h2
  by_cases hlt : A < bs.length
  · obtain ⟨K, rfl⟩ := Int.eq_ofNat_of_zero_le h3
    obtain ⟨b, off, rfl⟩ := H2.out.some_of (k := K) (by omega)
    obtain ⟨z, hz, hz0, hz1, hc, hb⟩ := H2.out.u8_at K (by omega)
    clear hz
    go_enter Tryd.func161, Tryd.ntmps161
    go_wp2
    go_quiet (fail)
    go_wp2
    go_quiet (fail)
    go_wp2
    have hsw := u64wrap_bd (IntKind.u64.wrap (IntKind.u64.wrap (s * 6364136223846793005) + z) + 1442695040888963407)
    generalize IntKind.u64.wrap (IntKind.u64.wrap (IntKind.u64.wrap (s * 6364136223846793005) + z) + 1442695040888963407) = s' at hsw ⊢
    go_quiet (fail)
    go_wp2
    go_ret
    exact ⟨z, rfl, hz0, hz1, srcOk_mk (grown_set2 _ _ _ _ _ _) (blk_set (blk_set H1.out 1 _) 2 _) H2.out hg (by omega) (by omega) hsw.1 hsw.2, grown_set2 _ _ _ _ _ _⟩
  · go_enter Tryd.func161, Tryd.ntmps161
    go_wp2
    go_quiet (fail)
    go_wp2
    have hsw := u64wrap_bd (IntKind.u64.wrap (IntKind.u64.wrap (s * 6364136223846793005)) + 1442695040888963407)
    generalize IntKind.u64.wrap (IntKind.u64.wrap (IntKind.u64.wrap (s * 6364136223846793005)) + 1442695040888963407) = s' at hsw ⊢
    go_quiet (fail)
    go_wp2
    go_ret
    have hb := u64_and255 (s' / 1099511627776) (by omega) (by omega)
    refine ⟨_, rfl, wrap64_lo hb.1 hb.2, wrap64_hi hb.1 hb.2, srcOk_mk (grown_set2 _ _ _ _ _ _) (blk_set (blk_set H1.out 1 _) 2 _) H2.out hg (by omega) (by omega) hsw.1 hsw.2, grown_set2 _ _ _ _ _ _⟩
set_option maxRecDepth 100000 in
theorem c_pick (g k : Nat) (n : Int) (w : World) (hs : SrcOk g k w) (hk : k ≤ 999000) (hn : n ≤ 1000) (h0 : 0 ≤ n) : Calls Tryd.prog 138 #[.pointer (some ⟨g, 0, none⟩), .int .i64 n] w (RetNum (max n 1) g (k + 2) w) := by
  have HS := hid hs
  clear hs
  by_cases h1 : n ≤ 1
  · go_enter Tryd.func138, Tryd.ntmps138
    go_wp2
    go_ret
    exact ⟨0, rfl, by omega, by omega, srcOk_keep HS.out (by omega) fun _ _ => rfl, grown_refl _ _⟩
  · by_cases h2 : n ≤ 200
    · go_enter Tryd.func138, Tryd.ntmps138
      go_wp2_with (go_at_call 161; refine (c_next _ _ _ HS.out (by omega)).mono ?_; rintro e w1 ⟨z, rfl, hz0, hz1, hs1, hg1⟩; have HS1 := hid hs1; have HG1 := hid hg1; clear hs1 hg1)
      go_ret
      exact ⟨_, rfl, Int.emod_nonneg _ (by omega), by have := Int.emod_lt_of_pos z (show 0 < n by omega); omega, srcOk_keep HS1.out (by omega) fun _ _ => rfl, HG1.out⟩
    · go_enter Tryd.func138, Tryd.ntmps138
      go_wp2_with fail
      refine (c_next _ _ _ HS.out (by omega)).mono ?_
      rintro e w1 ⟨z, rfl, hz0, hz1, hs1, hg1⟩
      have HS1 := hid hs1
      have HG1 := hid hg1
      clear hs1 hg1
      go_wp2_with fail
      refine (c_next _ _ _ HS1.out (by omega)).mono ?_
      rintro e w2 ⟨y, rfl, hy0, hy1, hs2, hg2⟩
      have HS2 := hid hs2
      have HG2 := hid hg2
      clear hs2 hg2
      go_wp2
      go_ret
      exact ⟨_, rfl, Int.emod_nonneg _ (by omega), by have := Int.emod_lt_of_pos (z * 256 + y) (show 0 < n by omega); omega, HS2.out, grown_trans HG1.out HG2.out⟩
/-- A yes or no, and the source. -/
def RetAny (g k : Nat) (w : World) (e : Ending) (w' : World) : Prop := ∃ b : Bool, e = .returned (.bool b) ∧ SrcOk g k w' ∧ w.grownBy w' (some g)
def RetAmong (zs : List Int) (g k : Nat) (w : World) (e : Ending) (w' : World) : Prop := ∃ z : Int, e = .returned (.int .i64 z) ∧ z ∈ zs ∧ SrcOk g k w' ∧ w.grownBy w' (some g)
theorem SlRd.beside {α : Type} {C : Codec α} {S : Nat → Prop} {w w' : World} {a : Option Addr} {p g : Nat} {zs : List α} (h : SlRd C S w a p zs) (hS : ∀ b, S b → b ≠ g) (hg : w.grownBy w' (some g)) : SlRd C S w' a p zs :=
  h.keep fun b hb hl => ⟨hb, hg.block b hl (by simp; exact hS b hb)⟩
theorem c_one (g k : Nat) (n : Int) (w : World) (hs : SrcOk g k w) (hk : k ≤ 999000) (hn : n ≤ 1000) (h0 : 0 ≤ n) : Calls Tryd.prog 136 #[.pointer (some ⟨g, 0, none⟩), .int .i64 n] w (RetAny g (k + 2) w) := by
  have HS := hid hs
  clear hs
  go_enter Tryd.func136, Tryd.ntmps136
  go_wp2_with (go_at_call 138; refine (c_pick _ _ _ _ HS.out hk hn h0).mono ?_; rintro e w1 ⟨z, rfl, hz0, hz1, hs1, hg1⟩; have HS1 := hid hs1; have HG1 := hid hg1; clear hs1 hg1)
  go_ret
  exact ⟨_, rfl, HS1.out, HG1.out⟩
theorem c_among {S : Nat → Prop} (g k : Nat) (a : Option Addr) (p : Nat) (zs : List Int) (w : World) (hs : SrcOk g k w) (hk : k ≤ 999000) (h : SlRd cInt S w a p zs) (hS : ∀ b, S b → b ≠ g) (h1 : 1 ≤ zs.length) (h2 : zs.length ≤ 100) : Calls Tryd.prog 139 #[.pointer (some ⟨g, 0, none⟩), .slice a zs.length p] w (RetAmong zs g (k + 2) w) := by
  have HS := hid hs
  have H := hid h
  have HD := hid hS
  obtain ⟨b, off, rfl⟩ := h.some_of (k := 0) (by omega)
  clear hs h hS
  go_enter Tryd.func139, Tryd.ntmps139
  go_wp2_with (go_at_call 138; refine (c_pick _ _ _ _ HS.out hk (by omega) (by omega)).mono ?_; rintro e w1 ⟨z, rfl, hz0, hz1, hs1, hg1⟩; obtain ⟨Z, rfl⟩ := Int.eq_ofNat_of_zero_le hz0; have hzl : Z < zs.length := (by omega); obtain ⟨y, hy, hyy, hc, hb⟩ := (H.out.beside HD.out hg1).int_at Z hzl; have HY := hid (List.mem_of_getElem? hy); have HS1 := hid hs1; have HG1 := hid hg1; clear hs1 hg1 hy)
  go_ret
  exact ⟨_, rfl, HY.out, HS1.out, HG1.out⟩
/-- A number that can be coded, and the source. -/
def RetSmall (g k : Nat) (w : World) (e : Ending) (w' : World) : Prop := ∃ z : Int, e = .returned (.int .i64 z) ∧ -1000000000000000 ≤ z ∧ z ≤ 1000000000000000 ∧ SrcOk g k w' ∧ w.grownBy w' (some g)
/-- A literal of numbers. -/
theorem lit_ints {w : World} {e : TypeId} (zs : List Int) (hz : ∀ z ∈ zs, I64 z) (hl : zs.length ≤ 1000) : SlRd cInt (fun b => b = w.heap.size) (w.alloc (.cells (zs.map (Value.int .i64)).toArray e)) (some ⟨w.heap.size, 0, none⟩) zs.length zs := by
  refine ⟨Nat.le_refl _, by omega, by simp, ?_⟩
  rintro x ⟨⟩ i d hi
  refine ⟨⟨rfl, rfl, by simp⟩, [.int .i64 d], ⟨rfl, hz d (List.mem_of_getElem? hi)⟩, fun j u hj => ?_⟩
  match j, hj with
  | 0, hj =>
    simp at hj; subst hj
    rw [World.cell?_alloc_at _ _ _ _ rfl]
    simp [cInt, hi]
theorem srcOk_alloc {g k : Nat} {w : World} (h : SrcOk g k w) (o : Obj) : SrcOk g k (w.alloc o) := srcOk_keep h (Nat.le_refl _) fun b hb => Below.heap_alloc _ _ _ (by have := srcOk_lt h; omega)
theorem c_l00From {a : Option Addr} {p : Nat} {bs : List Int} {w : World} (h : SlRd cU8 (fun b => b < w.heap.size) w a p bs) :
    Calls Tryd.prog 104 #[.slice a bs.length p] w fun e w' => e = .returned (.pointer (some ⟨w.heap.size, 0, none⟩)) ∧ SrcOk w.heap.size 0 w' ∧ Below w.heap.size w w' ∧ w'.heap.size = w.heap.size + 1 := by
  have H := hid h
  clear h
  go_enter Tryd.func104, Tryd.ntmps104
  go_wp2
  go_ret
  exact ⟨rfl, ⟨a, p, bs, 0, 0, heap_new _ _, H.out.alloc _, by omega, by omega, by omega, by omega⟩, (Below.refl _ _).alloc (Nat.le_refl _) _, by simp⟩
def RetDrawn (w : World) (e : Ending) (w' : World) : Prop := ∃ (zs : List Int) (a : Option Addr) (p : Nat), e = .returned (.slice a zs.length p) ∧ zs.length ≤ 7 ∧ (∀ z ∈ zs, -1000000000000000 ≤ z ∧ z ≤ 1000000000000000) ∧ SlRd cInt (Fresh w.heap.size w') w' a p zs ∧ Below w.heap.size w w'
theorem own_beside {α : Type} {C : Codec α} {w w' : World} {base g : Nat} {e : TypeId} {v : Value} {zl : List α} (h : OwnSl C (fun _ => False) w base e v zl) (hg : w.grownBy w' (some g)) (hb : g < base) : OwnSl C (fun _ => False) w' base e v zl :=
  own_keep h (fun _ hs _ => hs) fun b hl hs => by
    rcases hs with hs | hs
    · exact hs.elim
    · have := own_lt h b hs.symm
      exact hg.block b hl (by simp; omega)
theorem opens_u8 {P : Program} {t : TypeId} (h : P.underlying t = some (.int .u8)) (hn : P.cellsOf t = 1) : Opens P t cU8 :=
  ⟨hn, fun H enc w base spare held fuel cs x hx => by
    obtain ⟨n, rfl, _, hw⟩ := DataW.trod_int h hx
    refine ⟨n, rfl, ?_⟩
    simp [Lit.wf, IntKind.min, IntKind.max, IntKind.signed, IntKind.bits] at hw
    exact ⟨by omega, by omega⟩⟩
theorem op_bytes : Opens Tryd.prog 80 (cSl cU8) := opens_sl Tryd.underlying80 (by kernel_rfl) (opens_u8 Tryd.underlying5 (by kernel_rfl)) (by decide)
theorem c_r8Long (a a' : Option Addr) (n n' p p' : Nat) (w : World) (hn : n ≤ 9223372036854775807) (hn' : n' ≤ 9223372036854775807) : Calls Tryd.prog 56 #[.slice a n p, .slice a' n' p'] w fun e w' => e = .returned (.bool (decide (48 < n) || decide (48 < n'))) ∧ w = w' := by
  by_cases h : 48 < n
  · have h' : decide ((48 : Int) < (n : Int)) = true := by simp; omega
    have HF : Hid ((decide (48 < n) || decide (48 < n')) = true) := by unfold Hid; simp [h]
    go_enter Tryd.func56, Tryd.ntmps56
    go_wp2
    go_ret
    exact ⟨ret_bool HF.out.symm, rfl⟩
  · have h' : decide ((48 : Int) < (n : Int)) = false := by simp; omega
    have HF : Hid ((decide (48 < n) || decide (48 < n')) = decide ((48 : Int) < (n' : Int))) := by unfold Hid; simp [h]; omega
    go_enter Tryd.func56, Tryd.ntmps56
    go_wp2
    go_ret
    exact ⟨ret_bool HF.out.symm, rfl⟩
def RetBelow (n : Int) (w : World) (e : Ending) (w' : World) : Prop := ∃ z : Int, e = .returned (.int .i64 z) ∧ 0 ≤ z ∧ z < n ∧ w = w'
end Go.Proofs.YtcbaohcgeoaccaaDoor
