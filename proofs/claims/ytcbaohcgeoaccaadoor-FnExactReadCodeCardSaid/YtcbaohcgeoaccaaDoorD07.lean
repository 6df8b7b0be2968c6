/- Contracts: the text of code. -/
import Derived.Test.YtcbaohcgeoaccaaDoorD06
import Derived.Test.YtcbaohcgeoaccaaDoorL07c
import Derived.Test.YtcbaohcgeoaccaaDoorL07p
namespace Go.Proofs.YtcbaohcgeoaccaaDoor
open Go.RowKit

def nlF (zs : List (List UInt8)) : List UInt8 := (zs.map fun l => l ++ [10]).flatten
theorem nlF_snoc (zs : List (List UInt8)) (z : List UInt8) : nlF (zs ++ [z]) = nlF zs ++ (z ++ [10]) := by simp [nlF]
theorem nlF_take {zs : List (List UInt8)} {k : Nat} {z : List UInt8} (h : zs[k]? = some z) : nlF (zs.take (k + 1)) = nlF (zs.take k) ++ (z ++ [10]) := by
  have hk := (List.getElem?_eq_some_iff.1 h).1
  rw [List.take_succ_eq_append_getElem hk, nlF_snoc]
  rw [List.getElem?_eq_getElem hk] at h
  rw [Option.some.inj h]
theorem nlF_append (a b : List (List UInt8)) : nlF (a ++ b) = nlF a ++ nlF b := by simp [nlF]
theorem nlF_le (zs : List (List UInt8)) (k : Nat) : (nlF (zs.take k)).length ≤ (nlF zs).length := by
  have h : nlF zs = nlF (zs.take k) ++ nlF (zs.drop k) := by rw [← nlF_append, List.take_append_drop]
  rw [h, List.length_append]; omega
theorem c_WriteString (B b : Nat) (l l' : List UInt8) (w : World) (h : Lib.IsBuilder 141 5 B b (Lib.byteCells l) w) (hlen : l.length + l'.length ≤ 140737488355328) (hBw : B ≤ w.heap.size) :
    Calls Tryd.prog 123 #[.pointer (some ⟨b, 0, none⟩), .string ⟨l'.toArray⟩] w fun e w' => e = .returned (.tuple #[.int .i64 l'.length, .nilIface]) ∧ Lib.IsBuilder 141 5 B b (Lib.byteCells (l ++ l')) w' ∧ Below B w w' := by
  refine (Any.Builder_WriteString { Tryd.lays156 with } Tryd.Builder_Extra_156 B b (Lib.byteCells l) ⟨l'.toArray⟩ w h (by rw [Lib.byteCells_length]; simpa [ByteArray.size] using hlen) hBw).mono ?_
  rintro e w' ⟨rfl, h1, h2⟩
  refine ⟨by simp [ByteArray.size], ?_, h2⟩
  rw [Lib.byteCells_append]
  exact .inr h1
theorem c_BString (B b : Nat) (l : List UInt8) (w : World) (h : Lib.IsBuilder 141 5 B b (Lib.byteCells l) w) (hBw : B ≤ w.heap.size) :
    Calls Tryd.prog 124 #[.pointer (some ⟨b, 0, none⟩)] w fun e w' => e = .returned (strOf l) ∧ Below B w w' :=
  Any.Builder_String_any { Tryd.lays156 with } Tryd.Builder_Extra_156 B b l w h hBw
set_option maxRecDepth 100000 in
theorem c_withNewlines {S : Nat → Prop} {a : Option Addr} {p : Nat} {zs : List (List UInt8)} {w : World} (h : SlRd cStr S w a p zs) (hn : (nlF zs).length ≤ 140737488355328) :
    Calls Tryd.prog 81 #[.slice a zs.length p] w fun e w' => e = .returned (strOf (nlF zs)) ∧ Below w.heap.size w w' := by
  have H := hid h
  have hl := h.len_le
  have HI := hid (Lib.fresh_isBuilder 141 5 w)
  have HB0 : Hid (Below w.heap.size w (w.alloc (.cells #[.pointer none, .slice none 0 0] 141))) := (Below.refl _ _).alloc (Nat.le_refl _) _
  clear h
  go_enter Tryd.func81, Tryd.ntmps81
  go_wp2
  generalize w.alloc (.cells #[.pointer none, .slice none 0 0] 141) = w0 at *
  go_loopw [8] (fun i wr => ∃ k : Nat, k ≤ zs.length ∧ i = .int .i64 k ∧ Hid (Lib.IsBuilder 141 5 w.heap.size w.heap.size (Lib.byteCells (nlF (zs.take k))) wr) ∧ Below w.heap.size w wr) (fun i _ => zs.length - (intOf i).toNat)
  case atStart => exact ⟨0, Nat.zero_le _, rfl, HI, HB0.out⟩
  case round =>
    obtain ⟨k, hk, rfl, HIB, hbe⟩ := hrel
    have hsz := hbe.size
    by_cases hlt : k < zs.length
    · obtain ⟨b, off, rfl⟩ := H.out.some_of hlt
      obtain ⟨z, hz, hz2, hc, hb, _⟩ := (H.out.below (Nat.le_refl _) hbe).str_at k hlt
      have i0 : (0 : Int) ≤ (k : Int) := by omega
      have i1 : (k : Int) < (zs.length : Int) := by omega
      have HT := hid (nlF_take hz)
      have hle := nlF_le zs (k + 1)
      rw [HT.out, List.length_append, List.length_append, List.length_singleton] at hle
      have HW := hid (c_WriteString w.heap.size w.heap.size (nlF (zs.take k)) (z ++ [10]) wr HIB.out (by simp; omega) hsz)
      have e1 : (⟨z.toArray⟩ ++ ⟨#[10]⟩ : ByteArray) = ⟨(z ++ [10]).toArray⟩ := Value.string.inj (strOf_add z [10])
      have n1 : ¬ 9223372036854775807 < z.length + 1 := by omega
      clear hz hle
      go_wp2_with (go_at_call 123; refine HW.out.mono ?_; rintro e w2 ⟨rfl, hi2, hb2⟩; have HI2 := hid hi2; have HB2 := hid (hbe.trans hb2); clear hi2 hb2 e1)
      go_roundw
      case rel => exact ⟨k + 1, by omega, by go_num, by rw [HT.out]; exact HI2, HB2.out⟩
      case measure => simp [intOf]; omega
    · have HK : Hid (zs.take k = zs) := List.take_of_length_le (by omega)
      rw [HK.out] at HIB
      go_wp2_with (go_at_call 124; refine (c_BString w.heap.size w.heap.size _ _ HIB.out hsz).mono ?_; rintro e w2 ⟨rfl, hb2⟩; have HB2 := hid (hbe.trans hb2); clear hb2; unfold strOf)
      go_ret
      exact ⟨rfl, HB2.out⟩
def codeTextF (xs : List Instr) : List UInt8 × Bool := if validCode xs then (nlF (xs.map lineF), true) else ([], false)
theorem lineF_len (x : Instr) (h : I64 x.2) : (lineF x).length ≤ 27 := by
  have h1 := opW_len x.1
  have h2 := Lib.itoa_length_le x.2 h.1 h.2
  unfold lineF
  split
  · rw [List.length_append, List.length_cons]; omega
  · omega
theorem nlF_len {zs : List (List UInt8)} {m : Nat} (h : ∀ z ∈ zs, z.length ≤ m) : (nlF zs).length ≤ zs.length * (m + 1) := by
  induction zs with
  | nil => simp [nlF]
  | cons z zs ih =>
    have h1 := h z (by simp)
    have h2 := ih fun y hy => h y (by simp [hy])
    have e : nlF (z :: zs) = (z ++ [10]) ++ nlF zs := by simp [nlF]
    rw [e, List.length_append, List.length_append, List.length_cons (a := z), Nat.add_mul, List.length_singleton]; omega
theorem validI_i64 {x : Instr} (h : validI x = true) : I64 x.1 ∧ I64 x.2 := by
  have h1 := validI_op h
  obtain ⟨op, arg⟩ := x
  refine ⟨⟨by omega, by omega⟩, ?_⟩
  unfold validI at h
  simp only at h ⊢
  split at h
  · have := inB_iff.1 h; exact ⟨by omega, by omega⟩
  · split at h
    · have := inB_iff.1 h; exact ⟨by omega, by omega⟩
    · split at h
      · have := inB_iff.1 h; exact ⟨by omega, by omega⟩
      · split at h
        · have := inB_iff.1 h; exact ⟨by omega, by omega⟩
        · split at h
          · simp at h; subst h; exact i64_0
          · cases h
set_option maxRecDepth 100000 in
theorem c_l07Text {S : Nat → Prop} {a : Option Addr} {p : Nat} {xs : List Instr} {w : World} (h : SlRd cInstr S w a p xs) (hv : validCode xs = true) :
    Calls Tryd.prog 79 #[.slice a xs.length p] w fun e w' => e = .returned (strOf (nlF (xs.map lineF))) ∧ Below w.heap.size w w' := by
  obtain ⟨hx1, hx80, hvx⟩ := validCode_iff hv
  have HV := hid hvx
  have H := hid h
  clear h hv hvx
  go_enter Tryd.func79, Tryd.ntmps79
  go_wp2
  go_loopw [3, 4] (fun o i wr => ∃ (k : Nat) (l : List UInt8), k ≤ xs.length ∧ i = .int .i64 k ∧ o = .string ⟨l.toArray⟩ ∧ l.length ≤ k * 28 ∧ Hid (l = nlF ((xs.take k).map lineF)) ∧ Below w.heap.size w wr) (fun _ i _ => xs.length - (intOf i).toNat)
  case atStart => exact ⟨0, [], Nat.zero_le _, rfl, rfl, by simp, rfl, Below.refl _ _⟩
  case round =>
    obtain ⟨k, l, hk, rfl, rfl, hll, HL, hbe⟩ := hrel
    have hsz := hbe.size
    by_cases hlt : k < xs.length
    · obtain ⟨b, off, rfl⟩ := H.out.some_of hlt
      obtain ⟨op, arg, hz, hi1, hi2, hc, hc', hb⟩ := (H.out.below (Nat.le_refl _) hbe).instr_at k hlt
      have hm := HV.out _ (List.mem_of_getElem? hz)
      obtain ⟨h0, h1⟩ := validI_op hm
      simp only at h0 h1
      have hle := lineF_len (op, arg) hi2
      have HN : Hid (nlF ((xs.take (k + 1)).map lineF) = nlF ((xs.take k).map lineF) ++ (lineF (op, arg) ++ [10])) := by
        unfold Hid
        rw [List.map_take, List.map_take]
        exact nlF_take (by rw [List.getElem?_map, hz]; rfl)
      obtain ⟨L, hL⟩ : ∃ L, lineF (op, arg) = L := ⟨_, rfl⟩
      have HLC := hid (c_l07Line op arg wr h0 h1 hi2)
      rw [hL] at hle HN HLC
      have i0 : (0 : Int) ≤ (k : Int) := by omega
      have i1 : (k : Int) < (xs.length : Int) := by omega
      have n1 : ¬ 9223372036854775807 < L.length + 1 := by omega
      have n2 : ¬ 9223372036854775807 < l.length + (L.length + 1) := by omega
      clear hz hm hL
      have e1 := badd L [10]
      have e2 := badd l (L ++ [10])
      go_wp2_with (go_at_call 68; refine HLC.out.mono ?_; rintro e w2 ⟨rfl, hb2⟩; have HB2 := hid (bel_next hbe hsz hb2); clear hb2; unfold strOf)
      go_roundw
      case rel => exact ⟨k + 1, l ++ (L ++ [10]), by omega, by go_num, rfl, by simp; omega, by rw [HN.out, ← HL.out]; rfl, HB2.out⟩
      case measure => simp [intOf]; omega
    · have HK : Hid (xs.take k = xs) := List.take_of_length_le (by omega)
      rw [HK.out] at HL
      go_wp2
      go_ret
      rw [← HL.out]
      exact ⟨rfl, hbe⟩
set_option maxRecDepth 100000 in
theorem c_CodeText {S : Nat → Prop} {B : Nat} {a : Option Addr} {p : Nat} {xs : List Instr} {w : World} (h : SlRd cInstr S w a p xs) (ht : TabE B w) :
    Calls Tryd.prog 35 #[.slice a xs.length p] w fun e w' => e = .returned (.tuple #[strOf (codeTextF xs).1, .bool (codeTextF xs).2]) ∧ Below w.heap.size w w' := by
  have H := hid h
  have HT := hid ht
  clear h ht
  obtain ⟨r, hr⟩ : ∃ r, validCode xs = r := ⟨_, rfl⟩
  have HR := hid hr
  cases r
  · have HF : Hid (codeTextF xs = ([], false)) := by unfold Hid codeTextF; rw [if_neg (by simp [hr])]
    clear hr
    go_enter Tryd.func35, Tryd.ntmps35
    go_wp2_with (go_at_call 80; refine (c_ValidCode _ _ _ _ H.out).mono ?_; rintro e w1 ⟨rfl, hb1⟩; rw [HR.out]; have HB1 := hid hb1; clear hb1)
    go_ret2
    rw [HF.out]
    exact ⟨rfl, HB1.out⟩
  · have HF : Hid (codeTextF xs = (nlF (xs.map lineF), true)) := by unfold Hid codeTextF; rw [if_pos hr]
    obtain ⟨hx1, hx80, hvx⟩ := validCode_iff hr
    have HV := hid hvx
    clear hr hvx
    go_enter Tryd.func35, Tryd.ntmps35
    go_wp2_with (go_at_call 80; refine (c_ValidCode _ _ _ _ H.out).mono ?_; rintro e w1 ⟨rfl, hb1⟩; rw [HR.out]; have HB1 := hid hb1; have HT1 := hid (HT.out.on hb1); have H1 := hid (H.out.below (Nat.le_refl _) hb1); clear hb1)
    go_loopw [4, 12] (fun v i wr => ∃ k : Nat, k ≤ xs.length ∧ i = .int .i64 k ∧ Hid (OwnSl cStr (fun _ => False) wr w1.heap.size 9 v ((xs.take k).map lineF)) ∧ Below w1.heap.size w1 wr) (fun _ i _ => xs.length - (intOf i).toNat)
    case atStart => exact ⟨0, Nat.zero_le _, rfl, own_nil _ _ _ _ _, Below.refl _ _⟩
    case round =>
      obtain ⟨k, hk, rfl, HO, hbe⟩ := hrel
      have hsz := hbe.size
      by_cases hlt : k < xs.length
      · obtain ⟨b, off, rfl⟩ := H1.out.some_of hlt
        obtain ⟨op, arg, hz, hi1, hi2, hc, hc', hb⟩ := (H1.out.below (Nat.le_refl _) hbe).instr_at k hlt
        have hm := HV.out _ (List.mem_of_getElem? hz)
        obtain ⟨h0, h1⟩ := validI_op hm
        simp only at h0 h1
        have hle := lineF_len (op, arg) hi2
        have HN : Hid ((xs.take (k + 1)).map lineF = (xs.take k).map lineF ++ [lineF (op, arg)]) := by
          unfold Hid
          rw [List.take_succ_eq_append_getElem hlt, List.map_append]
          rw [List.getElem?_eq_getElem hlt] at hz
          rw [Option.some.inj hz]; rfl
        have hlk : ((xs.take k).map lineF).length = k := by simp; omega
        have HLK := hid hlk
        have i0 : (0 : Int) ≤ (k : Int) := by omega
        have i1 : (k : Int) < (xs.length : Int) := by omega
        clear hz hm hlk
        have hbx : Below wr.heap.size wr (wr.alloc (.cells #[.int .i64 op, .int .i64 arg] 35)) := (Below.refl _ _).alloc (Nat.le_refl _) _
        have HBX := hid hbx
        have HTX := hid (HT1.out.belows ((hbe.trans (hbx.mono hsz)).mono HT1.out.2))
        have HI := hid (c_instrText op arg _ h0 h1 hi2 HTX.out)
        have hszx : w1.heap.size ≤ (wr.alloc (.cells #[.int .i64 op, .int .i64 arg] 35)).heap.size := by simp; omega
        clear hbx
        go_wp2_with (first | (go_at_call 70; refine HI.out.mono ?_; rintro e w2 ⟨rfl, hb2⟩; have HB2 := hid (bel_next (hbe.trans (HBX.out.mono hsz)) hszx hb2); have HO2 := hid (own_below (own_below HO.out (Nat.le_refl _) HBX.out) (Nat.le_refl _) hb2); have hsz2 := Nat.le_trans hszx hb2.size; clear hb2; unfold strOf) | (at_builtin; refine app_own (C := cStr) rfl (.tmp 16) (.tmp 19) _ rfl slStr rfl rfl HO2.out no_blk (lineF (op, arg)) (rd_str (by omega)) (by rw [HLK.out]; omega) hsz2 ?_; intro v3 w3 hO3 hb3; have HO3 := hid hO3; have HB3 := hid (HB2.out.trans hb3); clear hO3 hb3))
        go_roundw
        case rel => exact ⟨k + 1, by omega, by go_num, by rw [HN.out]; exact HO3, HB3.out⟩
        case measure => simp [intOf]; omega
      · have HK : Hid (xs.take k = xs) := List.take_of_length_le (by omega)
        rw [HK.out] at HO
        obtain ⟨a3, p3, rfl, hs3⟩ := own_rd (own_keep (S' := Fresh w1.heap.size wr) HO.out (fun _ h => h.elim) fun _ _ _ => rfl) (Nat.le_refl _)
        have HS3 := hid hs3
        have hnl : (nlF (xs.map lineF)).length ≤ 140737488355328 := by
          have h9 := nlF_len (zs := xs.map lineF) (m := 27) (by
            intro z hz
            obtain ⟨x, hx, rfl⟩ := List.mem_map.1 hz
            exact lineF_len x (validI_i64 (HV.out x hx)).2)
          rw [List.length_map] at h9; omega
        have hLM : (xs.map lineF).length = xs.length := List.length_map _
        obtain ⟨zs, hzs⟩ : ∃ zs, xs.map lineF = zs := ⟨_, rfl⟩
        rw [hzs] at HS3 hnl HF
        rw [hzs]
        have HW := hid (c_withNewlines HS3.out hnl)
        clear hs3 hnl hzs hLM
        go_wp2_with (go_at_call 81; refine HW.out.mono ?_; rintro e w2 ⟨rfl, hb2⟩; have HB2 := hid (bel_next hbe hsz hb2); clear hb2; unfold strOf)
        go_ret2
        rw [HF.out]
        exact ⟨rfl, HB1.out.trans (HB2.out.mono HB1.out.size)⟩
theorem c_sCodeText {S : Nat → Prop} {a : Option Addr} {p : Nat} {xs : List Instr} {w : World} (h : SlRd cInstr S w a p xs) :
    Calls Tryd.prog 33 #[.slice a xs.length p] w fun e w' => e = .returned (.tuple #[strOf (codeTextF xs).1, .bool (codeTextF xs).2]) ∧ Below w.heap.size w w' := by
  have H := hid h
  clear h
  obtain ⟨r, hr⟩ : ∃ r, validCode xs = r := ⟨_, rfl⟩
  have HR := hid hr
  cases r
  · have HF : Hid (codeTextF xs = ([], false)) := by unfold Hid codeTextF; rw [if_neg (by simp [hr])]
    clear hr
    go_enter Tryd.func33, Tryd.ntmps33
    go_wp2_with (go_at_call 78; refine (c_l07Is _ _ _ _ H.out).mono ?_; rintro e w1 ⟨rfl, hb1⟩; rw [HR.out]; have HB1 := hid hb1; clear hb1)
    go_ret2
    rw [HF.out]
    exact ⟨rfl, HB1.out⟩
  · have HF : Hid (codeTextF xs = (nlF (xs.map lineF), true)) := by unfold Hid codeTextF; rw [if_pos hr]
    clear hr
    go_enter Tryd.func33, Tryd.ntmps33
    go_wp2_with (first | (go_at_call 78; refine (c_l07Is _ _ _ _ H.out).mono ?_; rintro e w1 ⟨rfl, hb1⟩; rw [HR.out]; have HB1 := hid hb1; have H1 := hid (H.out.below (Nat.le_refl _) hb1); clear hb1) | (go_at_call 79; refine (c_l07Text H1.out HR.out).mono ?_; rintro e w2 ⟨rfl, hb2⟩; have HB2 := hid (bel_next HB1.out HB1.out.size hb2); clear hb2; unfold strOf))
    go_ret2
    rw [HF.out]
    exact ⟨rfl, HB2.out⟩
end Go.Proofs.YtcbaohcgeoaccaaDoor
