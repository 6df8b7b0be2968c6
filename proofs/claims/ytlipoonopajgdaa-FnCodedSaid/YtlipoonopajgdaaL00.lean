/- Contracts: the source of choices that the laws of properties read: what it draws lies in bounds. -/
import Derived.Test.YtlipoonopajgdaaProg
import Derived.Test.YtlipoonopajgdaaUni
import Derived.Test.YtlipoonopajgdaaApp2
import Derived.Test.YtlipoonopajgdaaOpn
import Derived.Laws.BitsAllLaws
import Derived.Deep.QuietTactic
import Derived.BigQuiet
namespace Go.Proofs.Ytlipoonopajgdaa
open Go.RowKit

def cU8 : Codec Int where
  n := 1
  rd := fun _ _ cs a => cs = [.int .u8 a] ∧ 0 ≤ a ∧ a < 256
  len := by rintro _ _ _ _ ⟨rfl, _⟩; rfl
  one := by rintro _ _ _ _ ⟨rfl, _⟩ u hu; simp at hu; subst hu; rfl
  keep := fun _ h => h
theorem SlRd.u8_at {S : Nat → Prop} {w : World} {b off cap : Nat} {zs : List Int} (h : SlRd cU8 S w (some ⟨b, off, none⟩) cap zs) (k : Nat) (hk : k < zs.length) :
    ∃ z, zs[k]? = some z ∧ 0 ≤ z ∧ z < 256 ∧ w.cell? ⟨b, off + k, none⟩ = some (.int .u8 z) ∧ b < w.heap.size := by
  obtain ⟨d, cs, h1, ⟨rfl, hz⟩, h7, _, hc⟩ := h.at k hk
  have := hc 0 _ rfl
  simp only [cU8, Nat.mul_one, Nat.add_zero] at this
  exact ⟨_, h1, hz.1, hz.2, this, h7⟩
/-- The source in block g, of which at most k choices have been read. -/
def SrcOk (g k : Nat) (w : World) : Prop := ∃ (a : Option Addr) (p : Nat) (bs : List Int) (A s : Int), w.heap[g]? = some (.cells #[.slice a bs.length p, .int .i64 A, .int .u64 s] 191 (0, 0)) ∧ SlRd cU8 (fun b => b < g) w a p bs ∧ 0 ≤ A ∧ A ≤ k ∧ 0 ≤ s ∧ s ≤ 18446744073709551615
/-- A number below n, and the source. -/
def RetNum (n : Int) (g k : Nat) (w : World) (e : Ending) (w' : World) : Prop := ∃ z : Int, e = .returned (.int .i64 z) ∧ 0 ≤ z ∧ z < n ∧ SrcOk g k w' ∧ w.grownBy w' (some g)
theorem srcOk_lt {g k : Nat} {w : World} (h : SrcOk g k w) : g < w.heap.size := by obtain ⟨_, _, _, _, _, h, _⟩ := h; exact (Array.getElem?_eq_some_iff.1 h).1
theorem srcOk_keep {g k k' : Nat} {w w' : World} (h : SrcOk g k w) (hk : k ≤ k') (hb : ∀ b, b ≤ g → w'.heap[b]? = w.heap[b]?) : SrcOk g k' w' := by
  obtain ⟨a, p, bs, A, s, h1, h2, h3, h4, h5, h6⟩ := h
  exact ⟨a, p, bs, A, s, by rw [hb g (Nat.le_refl _)]; exact h1, h2.keep fun b hb' _ => ⟨hb', hb b (by omega)⟩, h3, by omega, h5, h6⟩
theorem u64_and255 (E : Int) (h0 : 0 ≤ E) (h1 : E ≤ 18446744073709551615) : 0 ≤ bits .and .u64 E 255 ∧ bits .and .u64 E 255 < 256 := by
  obtain ⟨n, rfl⟩ := Int.eq_ofNat_of_zero_le h0
  have := u64_and_nat n 255 (by omega) (by decide)
  rw [show ((255 : Nat) : Int) = 255 from rfl] at this
  rw [this]
  have h2 : n &&& 255 ≤ 255 := Nat.and_le_right
  omega
theorem wrap64_eq {x : Int} (h0 : 0 ≤ x) (h1 : x < 256) : wrap64 x = x := by unfold wrap64; omega
theorem wrap64_lo {x : Int} (h0 : 0 ≤ x) (h1 : x < 256) : 0 ≤ wrap64 x := by rw [wrap64_eq h0 h1]; exact h0
theorem wrap64_hi {x : Int} (h0 : 0 ≤ x) (h1 : x < 256) : wrap64 x < 256 := by rw [wrap64_eq h0 h1]; exact h1
theorem u64wrap_bd (n : Int) : 0 ≤ IntKind.u64.wrap n ∧ IntKind.u64.wrap n ≤ 18446744073709551615 := by rw [IntKind.wrap_u64]; omega
theorem grown_trans {a b c : World} {row : Option Nat} (h : a.grownBy b row) (k : b.grownBy c row) : a.grownBy c row :=
  ⟨k.os.trans h.os, k.tape.trans h.tape, k.output.trans h.output, Nat.le_trans h.size k.size, fun i hi hn => (k.block i (Nat.lt_of_lt_of_le hi h.size) hn).trans (h.block i hi hn)⟩
theorem grown_refl (w : World) (row : Option Nat) : w.grownBy w row := ⟨rfl, rfl, rfl, Nat.le_refl _, fun _ _ _ => rfl⟩
theorem grown_set2 (w : World) (g : Nat) (u v : Value) (n m : Nat) : w.grownBy ((((w.drewN n).setCell ⟨g, 1, none⟩ u).setCell ⟨g, 2, none⟩ v).drewN m) (some g) :=
  ⟨rfl, rfl, rfl, by show w.heap.size ≤ (((w.drewN n).setCell ⟨g, 1, none⟩ u).setCell ⟨g, 2, none⟩ v).heap.size; rw [size_set, size_set]; exact Nat.le_refl _, fun i hi hn => by
    have h1 : i ≠ g := fun e => hn (by rw [e])
    show (((w.drewN n).setCell ⟨g, 1, none⟩ u).setCell ⟨g, 2, none⟩ v).heap[i]? = w.heap[i]?
    rw [Below.heap_setCell _ _ _ _ h1, Below.heap_setCell _ _ _ _ h1]; rfl⟩
theorem grown_below {w w' : World} {g : Nat} (h : w.grownBy w' (some g)) {B : Nat} (hB : B ≤ g) (hBs : B ≤ w.heap.size) : Below B w w' := ⟨h.os, h.tape, h.output, h.size, fun k hk => h.block k (by omega) (by simp; omega)⟩
theorem srcOk_mk {g k : Nat} {w w' : World} {a : Option Addr} {p : Nat} {bs : List Int} {A s : Int} (hg : w.grownBy w' (some g)) (hb : w'.heap[g]? = some (.cells #[.slice a bs.length p, .int .i64 A, .int .u64 s] 191 (0, 0))) (hr : SlRd cU8 (fun b => b < g) w a p bs) (_hl : g < w.heap.size) (h0 : 0 ≤ A) (h1 : A ≤ k) (h2 : 0 ≤ s) (h3 : s ≤ 18446744073709551615) : SrcOk g k w' :=
  ⟨a, p, bs, A, s, hb, hr.keep fun b hb hl => ⟨hb, hg.block b hl (by simp; omega)⟩, h0, h1, h2, h3⟩
set_option maxRecDepth 100000 in
theorem c_next (g k : Nat) (w : World) (hs : SrcOk g k w) (hk : k ≤ 1000000) : Calls Try.prog 135 #[.pointer (some ⟨g, 0, none⟩)] w (RetNum 256 g (k + 1) w) := by
  obtain ⟨a, p, bs, A, s, h1, h2, h3, h4, h5, h6⟩ := hs
  have hl := h2.len_le
  have hg := (Array.getElem?_eq_some_iff.1 h1).1
  have t0 := cell_of h1 (j := 0) rfl
  have t1 := cell_of h1 (j := 1) rfl
  have t2 := cell_of h1 (j := 2) rfl
  have f1 := frz_of h1 1
  have f2 := frz_of h1 2
  have H1 := hid h1
  have H2 := hid h2
  clear h1 h2
  by_cases hlt : A < bs.length
  · obtain ⟨K, rfl⟩ := Int.eq_ofNat_of_zero_le h3
    obtain ⟨b, off, rfl⟩ := H2.out.some_of (k := K) (by omega)
    obtain ⟨z, hz, hz0, hz1, hc, hb⟩ := H2.out.u8_at K (by omega)
    clear hz
    go_enter Try.func135, Try.ntmps135
    go_wp2
    go_quiet (fail)
    go_wp2
    go_quiet (fail)
    go_wp2
    have hsw := u64wrap_bd (IntKind.u64.wrap (IntKind.u64.wrap (s * 6364136223846793005) + z) + 1442695040888963407)
    generalize IntKind.u64.wrap (IntKind.u64.wrap (IntKind.u64.wrap (s * 6364136223846793005) + z) + 1442695040888963407) = s' at hsw ⊢
    go_quiet (fail)
    go_wp2
    go_ret
    exact ⟨z, rfl, hz0, hz1, srcOk_mk (grown_set2 _ _ _ _ _ _) (blk_set (blk_set H1.out 1 _) 2 _) H2.out hg (by omega) (by omega) hsw.1 hsw.2, grown_set2 _ _ _ _ _ _⟩
  · go_enter Try.func135, Try.ntmps135
    go_wp2
    go_quiet (fail)
    go_wp2
    have hsw := u64wrap_bd (IntKind.u64.wrap (IntKind.u64.wrap (s * 6364136223846793005)) + 1442695040888963407)
    generalize IntKind.u64.wrap (IntKind.u64.wrap (IntKind.u64.wrap (s * 6364136223846793005)) + 1442695040888963407) = s' at hsw ⊢
    go_quiet (fail)
    go_wp2
    go_ret
    have hb := u64_and255 (s' / 1099511627776) (by omega) (by omega)
    refine ⟨_, rfl, wrap64_lo hb.1 hb.2, wrap64_hi hb.1 hb.2, srcOk_mk (grown_set2 _ _ _ _ _ _) (blk_set (blk_set H1.out 1 _) 2 _) H2.out hg (by omega) (by omega) hsw.1 hsw.2, grown_set2 _ _ _ _ _ _⟩
set_option maxRecDepth 100000 in
theorem c_pick (g k : Nat) (n : Int) (w : World) (hs : SrcOk g k w) (hk : k ≤ 999000) (hn : n ≤ 1000) (h0 : 0 ≤ n) : Calls Try.prog 75 #[.pointer (some ⟨g, 0, none⟩), .int .i64 n] w (RetNum (max n 1) g (k + 2) w) := by
  have HS := hid hs
  clear hs
  by_cases h1 : n ≤ 1
  · go_enter Try.func75, Try.ntmps75
    go_wp2
    go_ret
    exact ⟨0, rfl, by omega, by omega, srcOk_keep HS.out (by omega) fun _ _ => rfl, grown_refl _ _⟩
  · by_cases h2 : n ≤ 200
    · go_enter Try.func75, Try.ntmps75
      go_wp2_with (go_at_call 135; refine (c_next _ _ _ HS.out (by omega)).mono ?_; rintro e w1 ⟨z, rfl, hz0, hz1, hs1, hg1⟩; have HS1 := hid hs1; have HG1 := hid hg1; clear hs1 hg1)
      go_ret
      exact ⟨_, rfl, Int.emod_nonneg _ (by omega), by have := Int.emod_lt_of_pos z (show 0 < n by omega); omega, srcOk_keep HS1.out (by omega) fun _ _ => rfl, HG1.out⟩
    · go_enter Try.func75, Try.ntmps75
      go_wp2_with fail
      refine (c_next _ _ _ HS.out (by omega)).mono ?_
      rintro e w1 ⟨z, rfl, hz0, hz1, hs1, hg1⟩
      have HS1 := hid hs1
      have HG1 := hid hg1
      clear hs1 hg1
      go_wp2_with fail
      refine (c_next _ _ _ HS1.out (by omega)).mono ?_
      rintro e w2 ⟨y, rfl, hy0, hy1, hs2, hg2⟩
      have HS2 := hid hs2
      have HG2 := hid hg2
      clear hs2 hg2
      go_wp2
      go_ret
      exact ⟨_, rfl, Int.emod_nonneg _ (by omega), by have := Int.emod_lt_of_pos (z * 256 + y) (show 0 < n by omega); omega, HS2.out, grown_trans HG1.out HG2.out⟩
/-- A yes or no, and the source. -/
def RetAny (g k : Nat) (w : World) (e : Ending) (w' : World) : Prop := ∃ b : Bool, e = .returned (.bool b) ∧ SrcOk g k w' ∧ w.grownBy w' (some g)
def RetAmong (zs : List Int) (g k : Nat) (w : World) (e : Ending) (w' : World) : Prop := ∃ z : Int, e = .returned (.int .i64 z) ∧ z ∈ zs ∧ SrcOk g k w' ∧ w.grownBy w' (some g)
theorem SlRd.beside {α : Type} {C : Codec α} {S : Nat → Prop} {w w' : World} {a : Option Addr} {p g : Nat} {zs : List α} (h : SlRd C S w a p zs) (hS : ∀ b, S b → b ≠ g) (hg : w.grownBy w' (some g)) : SlRd C S w' a p zs :=
  h.keep fun b hb hl => ⟨hb, hg.block b hl (by simp; exact hS b hb)⟩
theorem c_one (g k : Nat) (n : Int) (w : World) (hs : SrcOk g k w) (hk : k ≤ 999000) (hn : n ≤ 1000) (h0 : 0 ≤ n) : Calls Try.prog 136 #[.pointer (some ⟨g, 0, none⟩), .int .i64 n] w (RetAny g (k + 2) w) := by
  have HS := hid hs
  clear hs
  go_enter Try.func136, Try.ntmps136
  go_wp2_with (go_at_call 75; refine (c_pick _ _ _ _ HS.out hk hn h0).mono ?_; rintro e w1 ⟨z, rfl, hz0, hz1, hs1, hg1⟩; have HS1 := hid hs1; have HG1 := hid hg1; clear hs1 hg1)
  go_ret
  exact ⟨_, rfl, HS1.out, HG1.out⟩
theorem c_among {S : Nat → Prop} (g k : Nat) (a : Option Addr) (p : Nat) (zs : List Int) (w : World) (hs : SrcOk g k w) (hk : k ≤ 999000) (h : SlRd cInt S w a p zs) (hS : ∀ b, S b → b ≠ g) (h1 : 1 ≤ zs.length) (h2 : zs.length ≤ 100) : Calls Try.prog 137 #[.pointer (some ⟨g, 0, none⟩), .slice a zs.length p] w (RetAmong zs g (k + 2) w) := by
  have HS := hid hs
  have H := hid h
  have HD := hid hS
  obtain ⟨b, off, rfl⟩ := h.some_of (k := 0) (by omega)
  clear hs h hS
  go_enter Try.func137, Try.ntmps137
  go_wp2_with (go_at_call 75; refine (c_pick _ _ _ _ HS.out hk (by omega) (by omega)).mono ?_; rintro e w1 ⟨z, rfl, hz0, hz1, hs1, hg1⟩; obtain ⟨Z, rfl⟩ := Int.eq_ofNat_of_zero_le hz0; have hzl : Z < zs.length := (by omega); obtain ⟨y, hy, hyy, hc, hb⟩ := (H.out.beside HD.out hg1).int_at Z hzl; have HY := hid (List.mem_of_getElem? hy); have HS1 := hid hs1; have HG1 := hid hg1; clear hs1 hg1 hy)
  go_ret
  exact ⟨_, rfl, HY.out, HS1.out, HG1.out⟩
/-- A number that can be coded, and the source. -/
def RetSmall (g k : Nat) (w : World) (e : Ending) (w' : World) : Prop := ∃ z : Int, e = .returned (.int .i64 z) ∧ -1000000000000000 ≤ z ∧ z ≤ 1000000000000000 ∧ SrcOk g k w' ∧ w.grownBy w' (some g)
/-- A literal of numbers. -/
theorem lit_ints {w : World} {e : TypeId} (zs : List Int) (hz : ∀ z ∈ zs, I64 z) (hl : zs.length ≤ 1000) : SlRd cInt (fun b => b = w.heap.size) (w.alloc (.cells (zs.map (Value.int .i64)).toArray e)) (some ⟨w.heap.size, 0, none⟩) zs.length zs := by
  refine ⟨Nat.le_refl _, by omega, by simp, ?_⟩
  rintro x ⟨⟩ i d hi
  refine ⟨⟨rfl, rfl, by simp⟩, [.int .i64 d], ⟨rfl, hz d (List.mem_of_getElem? hi)⟩, fun j u hj => ?_⟩
  match j, hj with
  | 0, hj =>
    simp at hj; subst hj
    rw [World.cell?_alloc_at _ _ _ _ rfl]
    simp [cInt, hi]
theorem srcOk_alloc {g k : Nat} {w : World} (h : SrcOk g k w) (o : Obj) : SrcOk g k (w.alloc o) := srcOk_keep h (Nat.le_refl _) fun b hb => Below.heap_alloc _ _ _ (by have := srcOk_lt h; omega)
set_option maxRecDepth 100000 in
theorem c_drawSmall (g k : Nat) (w : World) (hs : SrcOk g k w) (hk : k ≤ 900000) : Calls Try.prog 76 #[.pointer (some ⟨g, 0, none⟩)] w (RetSmall g (k + 10) w) := by
  have HS := hid hs
  clear hs
  go_enter Try.func76, Try.ntmps76
  go_wp2_with fail
  refine (c_pick _ _ _ _ HS.out (by omega) (by omega) (by omega)).mono ?_
  rintro e w1 ⟨z, rfl, hz0, hz1, hs1, hg1⟩
  have HS1 := hid hs1
  have HG1 := hid hg1
  clear hs1 hg1
  go_wp2_with fail
  refine (c_one _ _ _ _ HS1.out (by omega) (by omega) (by omega)).mono ?_
  rintro e w2 ⟨b, rfl, hs2, hg2⟩
  have HS2 := hid hs2
  have HG2 := hid (grown_trans HG1.out hg2)
  clear hs2 hg2
  cases b
  · go_wp2
    go_ret
    exact ⟨_, rfl, by omega, by omega, srcOk_keep HS2.out (by omega) fun _ _ => rfl, HG2.out⟩
  · have HL := hid (lit_ints (w := w2) (e := 2) [-1000000000000000, 1000000000000000, 63, 64, -64, -65] (by intro z hz; simp at hz; unfold I64; omega) (by decide))
    have hgl := srcOk_lt HS2.out
    have HS3 := hid (srcOk_alloc HS2.out (.cells #[.int .i64 (-1000000000000000), .int .i64 1000000000000000, .int .i64 63, .int .i64 64, .int .i64 (-64), .int .i64 (-65)] 2))
    go_wp2_with fail
    refine (c_among _ _ (some ⟨w2.heap.size, 0, none⟩) 6 [-1000000000000000, 1000000000000000, 63, 64, -64, -65] _ HS3.out (by omega) HL.out (fun b hb => by omega) (by decide) (by decide)).mono ?_
    rintro e w4 ⟨y, rfl, hy, hs4, hg4⟩
    have HS4 := hid hs4
    have HG4 := hid (grown_trans HG2.out (grownBy_trans_alloc hg4))
    simp only [List.mem_cons, List.not_mem_nil, or_false] at hy
    have hy0 : -1000000000000000 ≤ y ∧ y ≤ 1000000000000000 := by omega
    clear hs4 hg4 hy
    go_wp2
    go_ret
    exact ⟨_, rfl, hy0.1, hy0.2, srcOk_keep HS4.out (by omega) fun _ _ => rfl, HG4.out⟩
theorem c_l00From {a : Option Addr} {p : Nat} {bs : List Int} {w : World} (h : SlRd cU8 (fun b => b < w.heap.size) w a p bs) :
    Calls Try.prog 74 #[.slice a bs.length p] w fun e w' => e = .returned (.pointer (some ⟨w.heap.size, 0, none⟩)) ∧ SrcOk w.heap.size 0 w' ∧ Below w.heap.size w w' ∧ w'.heap.size = w.heap.size + 1 := by
  have H := hid h
  clear h
  go_enter Try.func74, Try.ntmps74
  go_wp2
  go_ret
  exact ⟨rfl, ⟨a, p, bs, 0, 0, heap_new _ _, H.out.alloc _, by omega, by omega, by omega, by omega⟩, (Below.refl _ _).alloc (Nat.le_refl _) _, by simp⟩
def RetDrawn (w : World) (e : Ending) (w' : World) : Prop := ∃ (zs : List Int) (a : Option Addr) (p : Nat), e = .returned (.slice a zs.length p) ∧ zs.length ≤ 7 ∧ (∀ z ∈ zs, -1000000000000000 ≤ z ∧ z ≤ 1000000000000000) ∧ SlRd cInt (Fresh w.heap.size w') w' a p zs ∧ Below w.heap.size w w'
theorem own_beside {α : Type} {C : Codec α} {w w' : World} {base g : Nat} {e : TypeId} {v : Value} {zl : List α} (h : OwnSl C (fun _ => False) w base e v zl) (hg : w.grownBy w' (some g)) (hb : g < base) : OwnSl C (fun _ => False) w' base e v zl :=
  own_keep h (fun _ hs _ => hs) fun b hl hs => by
    rcases hs with hs | hs
    · exact hs.elim
    · have := own_lt h b hs.symm
      exact hg.block b hl (by simp; omega)
set_option maxRecDepth 100000 in
theorem c_R8List {a : Option Addr} {p : Nat} {bs : List Int} {w : World} (h : SlRd cU8 (fun b => b < w.heap.size) w a p bs) : Calls Try.prog 16 #[.slice a bs.length p] w (RetDrawn w) := by
  have H := hid h
  clear h
  go_enter Try.func16, Try.ntmps16
  go_wp2_with fail
  refine (c_l00From H.out).mono ?_
  rintro e w1 ⟨rfl, hs1, hb1, hz1⟩
  have HS1 := hid (srcOk_alloc hs1 (.cells #[] 2))
  have HB1 := hid hb1
  have HZ1 := hid hz1
  have hz1' : w.heap.size + 1 ≤ w1.heap.size := by omega
  have HO1 : Hid (OwnSl cInt (fun _ => False) (w1.alloc (.cells #[] 2)) (w.heap.size + 1) 2 (.slice (some ⟨w1.heap.size, 0, none⟩) 0 0) []) := own_made _ _ _ _ _ hz1'
  clear hs1 hb1 hz1
  go_wp2_with fail
  refine (c_pick _ _ _ _ HS1.out (by omega) (by omega) (by omega)).mono ?_
  rintro e w2 ⟨n, rfl, hn0, hn1, hs2, hg2⟩
  have HS2 := hid hs2
  have HO2 := hid (own_beside HO1.out hg2 (by omega))
  have HB2 := hid ((HB1.out.alloc HB1.out.size _).trans (grown_below hg2 (Nat.le_refl _) (by simp; omega)))
  have hz2 : w.heap.size + 1 ≤ w2.heap.size := by have := hg2.size; simp at this; omega
  obtain ⟨N, rfl⟩ := Int.eq_ofNat_of_zero_le hn0
  have hN : N ≤ 7 := by omega
  clear hs2 hg2
  go_wp2
  go_loopw [4, 5] (fun v i wr => ∃ (k : Nat) (zs : List Int), k ≤ N ∧ i = .int .i64 ((N : Int) - k) ∧ zs.length = k ∧ Hid (∀ z ∈ zs, -1000000000000000 ≤ z ∧ z ≤ 1000000000000000) ∧ Hid (SrcOk w.heap.size (2 + 10 * k) wr) ∧ Hid (OwnSl cInt (fun _ => False) wr (w.heap.size + 1) 2 v zs) ∧ Below w.heap.size w wr ∧ w.heap.size + 1 ≤ wr.heap.size) (fun _ i _ => (intOf i).toNat)
  case atStart => exact ⟨0, [], Nat.zero_le _, by simp, rfl, by unfold Hid; simp, HS2, HO2, HB2.out, hz2⟩
  case round =>
    obtain ⟨k, zs, hk, rfl, hzl, HA, HS, HO, hbe, hsz⟩ := hrel
    have HZL := hid hzl
    have hzl2 : zs.length ≤ 7 := by omega
    clear hzl
    by_cases hlt : k < N
    · go_wp2_with (first | (go_at_call 76; refine (c_drawSmall _ _ _ HS.out (by omega)).mono ?_; rintro e w3 ⟨z, rfl, hz0, hz1, hs3, hg3⟩; have HS3 := hid hs3; have HO3 := hid (own_beside HO.out hg3 (by omega)); have HB3 := hid (hbe.trans (grown_below hg3 (Nat.le_refl _) hbe.size)); have hz3 := Nat.le_trans hsz hg3.size; clear hs3 hg3) | (at_builtin; refine app_own (C := cInt) rfl (.tmp 15) (.tmp 18) _ rfl slI64 rfl rfl HO3.out no_blk z (rd_int ⟨by omega, by omega⟩) (by omega) hz3 ?_; intro v4 w4 hO4 hb4; have HO4 := hid hO4; have HS4 := hid (srcOk_keep HS3.out (Nat.le_refl _) (w' := w4) fun b hb => hb4.block b (by omega)); have HB4 := hid (HB3.out.trans (hb4.mono (by omega))); have hz4 := Nat.le_trans hz3 hb4.size; clear hO4 hb4))
      go_roundw
      case rel =>
        refine ⟨k + 1, zs ++ [z], by omega, by go_num, by have := HZL.out; simp; omega, ?_, srcOk_keep HS4.out (by omega) fun _ _ => rfl, HO4, HB4.out, hz4⟩
        intro x hx
        rcases List.mem_append.1 hx with hx | hx
        · exact HA.out x hx
        · simp at hx; subst hx; exact ⟨hz0, hz1⟩
      case measure => simp [intOf]; omega
    · go_wp2
      go_ret
      obtain ⟨a3, p3, rfl, hs3⟩ := own_rd (own_keep (S' := Fresh w.heap.size wr) HO.out (fun _ h => h.elim) fun _ _ _ => rfl) (by omega)
      exact ⟨zs, a3, p3, rfl, hzl2, HA.out, hs3, hbe⟩
theorem opens_u8 {P : Program} {t : TypeId} (h : P.underlying t = some (.int .u8)) (hn : P.cellsOf t = 1) : Opens P t cU8 :=
  ⟨hn, fun H enc w base spare held fuel cs x hx => by
    obtain ⟨n, rfl, _, hw⟩ := DataW.trod_int h hx
    refine ⟨n, rfl, ?_⟩
    simp [Lit.wf, IntKind.min, IntKind.max, IntKind.signed, IntKind.bits] at hw
    exact ⟨by omega, by omega⟩⟩
theorem op_bytes : Opens Try.prog 22 (cSl cU8) := opens_sl Try.underlying22 (by kernel_rfl) (opens_u8 Try.underlying5 (by kernel_rfl)) (by decide)
theorem c_r8Long (a a' : Option Addr) (n n' p p' : Nat) (w : World) (hn : n ≤ 9223372036854775807) (hn' : n' ≤ 9223372036854775807) : Calls Try.prog 15 #[.slice a n p, .slice a' n' p'] w fun e w' => e = .returned (.bool (decide (48 < n) || decide (48 < n'))) ∧ w = w' := by
  by_cases h : 48 < n
  · have h' : decide ((48 : Int) < (n : Int)) = true := by simp; omega
    have HF : Hid ((decide (48 < n) || decide (48 < n')) = true) := by unfold Hid; simp [h]
    go_enter Try.func15, Try.ntmps15
    go_wp2
    go_ret
    exact ⟨ret_bool HF.out.symm, rfl⟩
  · have h' : decide ((48 : Int) < (n : Int)) = false := by simp; omega
    have HF : Hid ((decide (48 < n) || decide (48 < n')) = decide ((48 : Int) < (n' : Int))) := by unfold Hid; simp [h]; omega
    go_enter Try.func15, Try.ntmps15
    go_wp2
    go_ret
    exact ⟨ret_bool HF.out.symm, rfl⟩
def RetBelow (n : Int) (w : World) (e : Ending) (w' : World) : Prop := ∃ z : Int, e = .returned (.int .i64 z) ∧ 0 ≤ z ∧ z < n ∧ w = w'
end Go.Proofs.Ytlipoonopajgdaa
