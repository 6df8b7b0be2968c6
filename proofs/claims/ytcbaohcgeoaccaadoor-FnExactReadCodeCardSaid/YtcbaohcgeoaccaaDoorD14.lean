/- Contracts: code read from its text. -/
import Derived.Test.YtcbaohcgeoaccaaDoorD13
import Derived.Test.YtcbaohcgeoaccaaDoorD04
namespace Go.Proofs.YtcbaohcgeoaccaaDoor
open Go.RowKit

def codB (xs : List Instr) : List Instr × Bool := if validCode xs then (xs, true) else ([], false)
def readCF (l : List UInt8) : List Instr × Bool :=
  if (linesF l).2 = true ∧ (linesF l).1.length ≤ 80 then
    if ∀ z ∈ (linesF l).1, (readIF z).2 = true then codB ((linesF l).1.map fun z => (readIF z).1) else ([], false)
  else ([], false)
theorem codB_len (xs : List Instr) : (codB xs).1.length ≤ 80 := by
  unfold codB
  split
  · rename_i h; exact (validCode_iff h).2.1
  · simp
theorem readCF_len (l : List UInt8) : (readCF l).1.length ≤ 80 := by
  unfold readCF
  split
  · split
    · exact codB_len _
    · simp
  · simp
theorem lines_piece {l z : List UInt8} (h : z ∈ (linesF l).1) : z.length ≤ l.length := by
  unfold linesF at h
  split at h
  · exact cutL_piece 10 l z ((List.dropLast_sublist _).subset h)
  · simp at h
theorem fin_val {l : List UInt8} {x : Instr} (h : (fin l x).2 = true) : validI (fin l x).1 = true := by
  unfold fin at *
  by_cases hc : validI x = true ∧ lineF x = l
  · rw [if_pos hc]; exact hc.1
  · rw [if_neg hc] at h; cases h
theorem readIF_ok {l : List UInt8} (h : (readIF l).2 = true) : validI (readIF l).1 = true := fin_val h
theorem map_take_snoc {α β : Type} {f : α → β} {zs : List α} {k : Nat} {z : α} (h : zs[k]? = some z) : (zs.take (k + 1)).map f = (zs.take k).map f ++ [f z] := by
  rw [List.take_add_one, h]; simp
theorem c_checkdCode {S : Nat → Prop} {a : Option Addr} {p : Nat} {xs : List Instr} {w : World} (h : SlRd cInstr S w a p xs) :
    Calls Tryd.prog 103 #[.slice a xs.length p] w fun e w' => e = .returned (.tuple #[if validCode xs then .slice a xs.length p else .slice none 0 0, .bool (validCode xs)]) ∧ Below w.heap.size w w' := by
  obtain ⟨r, hr⟩ : ∃ r, validCode xs = r := ⟨_, rfl⟩
  rw [hr]
  have HR := hid hr
  have H := hid h
  clear hr h
  cases r
  all_goals
    go_enter Tryd.func103, Tryd.ntmps103
    go_wp2_with (go_at_call 80; refine (c_ValidCode _ _ _ _ H.out).mono ?_; rintro e w1 ⟨rfl, hb1⟩; rw [HR.out])
    go_ret2
    exact ⟨rfl, hb1⟩
/-- What a checked code is as a result, when the code is one's own. -/
theorem retCodB {xs : List Instr} {B : Nat} {w w' : World} {a : Option Addr} {p : Nat} {e : TypeId} {w0 : World} (hB : B = w0.heap.size) (ho : OwnSl cInstr (fun _ => False) w B e (.slice a xs.length p) xs) (hb0 : Below B w0 w) (hb : Below w.heap.size w w') :
    RetSlB cInstr (codB xs).1 (codB xs).2 w0 (.returned (.tuple #[if validCode xs then .slice a xs.length p else .slice none 0 0, .bool (validCode xs)])) w' := by
  subst hB
  have hbb := bel_next hb0 hb0.size hb
  unfold codB
  cases h : validCode xs with
  | false => exact ⟨none, 0, rfl, nil_rd _ _ _, hbb⟩
  | true =>
    obtain ⟨a', p', h1, h2⟩ := own_rd (own_keep (S' := Fresh w0.heap.size w) ho (fun _ h => h.elim) fun _ _ _ => rfl) (Nat.le_refl _)
    cases h1
    exact ⟨a, p, rfl, h2.fresh (Nat.le_refl _) (Nat.le_refl _) hb, hbb⟩
set_option maxHeartbeats 1000000 in
set_option maxRecDepth 100000 in
theorem c_ReadCode {B : Nat} (s : ByteArray) (w : World) (hs : s.size ≤ 4294967280) (hT : TabE B w) (hE : ErrE B w) (hM : MaxE B w) :
    Calls Tryd.prog 53 #[.string s] w (RetSlB cInstr (readCF s.data.toList).1 (readCF s.data.toList).2 w) := by
  have hPL := fun z => lines_piece (l := s.data.toList) (z := z)
  have hsz : s.data.toList.length = s.size := by simp
  rw [hsz] at hPL
  have HF0 : Hid (readCF s.data.toList = if (linesF s.data.toList).2 = true ∧ (linesF s.data.toList).1.length ≤ 80 then
    if ∀ z ∈ (linesF s.data.toList).1, (readIF z).2 = true then codB ((linesF s.data.toList).1.map fun z => (readIF z).1) else ([], false)
    else ([], false)) := rfl
  have HLC := hid (c_LinesOf s w hs hM)
  obtain ⟨⟨zs, ok⟩, hq⟩ : ∃ q, linesF s.data.toList = q := ⟨_, rfl⟩
  rw [hq] at hPL HF0 HLC
  simp only at hPL HF0 HLC
  have HPL := hid hPL
  have HT := hid hT
  have HE := hid hE
  have HM := hid hM
  clear hq hPL hsz hT hE hM
  have HB0 : Hid (∃ B, B = w.heap.size) := ⟨_, rfl⟩
  by_cases hok : ok = true ∧ zs.length ≤ 80
  · obtain ⟨rfl, hz80⟩ := hok
    have HF1 : Hid (readCF s.data.toList = if ∀ z ∈ zs, (readIF z).2 = true then codB (zs.map fun z => (readIF z).1) else ([], false)) := by
      unfold Hid; rw [HF0.out, if_pos ⟨rfl, hz80⟩]
    have n80 : ¬ (80 : Int) < (zs.length : Int) := by omega
    clear HF0
    go_enter Tryd.func53, Tryd.ntmps53
    go_wp2_with fail
    refine HLC.out.mono ?_
    rintro e w1 ⟨a1, p1, rfl, hs1, hb1⟩
    have HS := hid hs1
    have HB1 := hid hb1
    clear hs1 hb1
    go_wp2
    go_loopw [6, 25] (fun v i wr => ∃ k : Nat, k ≤ zs.length ∧ i = .int .i64 k ∧ Hid (∀ z ∈ zs.take k, (readIF z).2 = true) ∧ Hid (OwnSl cInstr (fun _ => False) wr w1.heap.size 35 v ((zs.take k).map fun z => (readIF z).1)) ∧ Hid (Below w1.heap.size w1 wr)) (fun _ i _ => zs.length - (intOf i).toNat)
    case atStart => exact ⟨0, Nat.zero_le _, rfl, by unfold Hid; simp, own_nil _ _ _ _ _, Below.refl _ _⟩
    case round =>
      obtain ⟨k, hk, rfl, HA, HO, HBE⟩ := hrel
      have HBR := hid (bel_next HB1.out HB1.out.size HBE.out)
      have hsz := HBR.out.size
      by_cases hlt : k < zs.length
      · obtain ⟨b, off, rfl⟩ := HS.out.some_of hlt
        obtain ⟨z, hz, hz2, hc, hb, _⟩ := (HS.out.below (Nat.le_refl _) HBE.out).str_at k hlt
        have hzs := HPL.out z (List.mem_of_getElem? hz)
        have i0 : (0 : Int) ≤ (k : Int) := by omega
        have i1 : (k : Int) < (zs.length : Int) := by omega
        have HRI := hid (c_ReadInstr (B := B) ⟨z.toArray⟩ wr (by simp [ByteArray.size]; omega) (HT.out.on HBR.out) (HE.out.on HBR.out) (HM.out.on HBR.out))
        have hzz : (⟨z.toArray⟩ : ByteArray).data.toList = z := by simp
        rw [hzz] at HRI
        have HN := hid (map_take_snoc (f := fun z => (readIF z).1) hz)
        have HAN : Hid ((readIF z).2 = true → ∀ y ∈ zs.take (k + 1), (readIF y).2 = true) := by
          unfold Hid; intro h y hy
          rw [List.take_add_one, hz] at hy
          rcases List.mem_append.1 hy with h1 | h1
          · exact HA.out y h1
          · simp at h1; rw [h1]; exact h
        have hlk : ((zs.take k).map fun z => (readIF z).1).length = k := by simp; omega
        have HZ := hid hz
        have hio := readIF_ok (l := z)
        obtain ⟨⟨⟨x, y⟩, oz⟩, hr⟩ : ∃ q, readIF z = q := ⟨_, rfl⟩
        rw [hr] at HRI HAN hio
        have HR := hid hr
        have HLK := hid hlk
        clear hz hr hzz hlk
        simp only at HRI HAN hio
        cases oz
        · have HF : Hid (readCF s.data.toList = ([], false)) := by
            unfold Hid; rw [HF1.out, if_neg]; intro h
            have h9 := h z (List.mem_of_getElem? HZ.out)
            rw [HR.out] at h9; cases h9
          clear hio
          go_wp2_with (go_at_call 50; refine HRI.out.mono ?_; rintro e w2 ⟨rfl, hb2⟩; have HB2 := hid (bel_next HBR.out HBR.out.size hb2); clear hb2)
          go_ret2
          rw [HF.out]
          exact ⟨none, 0, rfl, nil_rd _ _ _, HB2.out.alloc HB2.out.size _⟩
        · have hvi := validI_i64 (hio rfl)
          obtain ⟨v1, v2⟩ := hvi
          have HV1 := hid v1
          have HV2 := hid v2
          clear hio v1 v2
          go_wp2_with (first | (go_at_call 50; refine HRI.out.mono ?_; rintro e w2 ⟨rfl, hb2⟩; have HB2 := hid ((bel_next HBR.out HBR.out.size hb2).alloc (Nat.le_trans HBR.out.size hb2.size) (.cells #[.int .i64 x, .int .i64 y] 35)); have HBW := hid ((bel_next HBE.out HBE.out.size hb2).alloc (Nat.le_trans HBE.out.size hb2.size) (.cells #[.int .i64 x, .int .i64 y] 35)); have HO2 := hid (own_alloc (own_below HO.out (Nat.le_refl _) hb2) (.cells #[.int .i64 x, .int .i64 y] 35)); clear hb2) | (at_builtin; refine app_own (C := cInstr) rfl (.tmp 36) (.tmp 38) _ rfl slInstr rfl (by rw [World.size_alloc]; rfl) HO2.out no_blk (x, y) (rd_instr HV1.out HV2.out) (by rw [HLK.out]; omega) HBW.out.size ?_; intro v3 w3 hO3 hb3; have HO3 := hid hO3; have HB3 := hid (HBW.out.trans hb3); clear hO3 hb3))
          go_roundw
          case rel => exact ⟨k + 1, by omega, by go_num, HAN.out (by simp), by rw [HN.out, HR.out]; exact HO3, HB3⟩
          case measure => simp [intOf]; omega
      · have HK : Hid (zs.take k = zs) := List.take_of_length_le (by omega)
        have HF : Hid (readCF s.data.toList = codB (zs.map fun z => (readIF z).1)) := by
          unfold Hid; rw [HF1.out, if_pos]; rw [← HK.out]; exact HA.out
        rw [HK.out] at HO
        have HO := hid (own_base HO.out HB1.out.size)
        obtain ⟨xs, hxs⟩ : ∃ xs, (zs.map fun z => (readIF z).1) = xs := ⟨_, rfl⟩
        rw [hxs] at HO HF
        clear hxs
        obtain ⟨a3, p3, rfl, hs3⟩ := own_rd (own_keep (S' := Fresh w.heap.size wr) HO.out (fun _ h => h.elim) fun _ _ _ => rfl) (Nat.le_refl _)
        have HS3 := hid hs3
        clear hs3
        obtain ⟨u, hu⟩ : ∃ u, validCode xs = u := ⟨_, rfl⟩
        have HU := hid hu
        clear hu
        cases u
        all_goals
          go_wp2_with (go_at_call 103; refine (c_checkdCode HS3.out).mono ?_; rintro e w4 ⟨rfl, hb4⟩; rw [HU.out]; have HB4 := hid hb4; clear hb4)
          go_ret2
          rw [HF.out]
          have h9 := retCodB rfl HO.out HBR.out HB4.out
          rw [HU.out] at h9
          exact h9
  · have HF : Hid (readCF s.data.toList = ([], false)) := by unfold Hid; rw [HF0.out, if_neg hok]
    clear HF0
    cases ok
    · clear hok
      go_enter Tryd.func53, Tryd.ntmps53
      go_wp2_with fail
      refine HLC.out.mono ?_
      rintro e w1 ⟨a1, p1, rfl, hs1, hb1⟩
      have HB1 := hid hb1
      clear hs1 hb1
      go_wp2
      go_ret2
      rw [HF.out]
      exact ⟨none, 0, rfl, nil_rd _ _ _, HB1.out⟩
    · have n80 : (80 : Int) < (zs.length : Int) := by
        have : ¬ zs.length ≤ 80 := fun h => hok ⟨rfl, h⟩
        omega
      clear hok
      go_enter Tryd.func53, Tryd.ntmps53
      go_wp2_with fail
      refine HLC.out.mono ?_
      rintro e w1 ⟨a1, p1, rfl, hs1, hb1⟩
      have HB1 := hid hb1
      clear hs1 hb1
      go_wp2
      go_ret2
      rw [HF.out]
      exact ⟨none, 0, rfl, nil_rd _ _ _, HB1.out⟩
set_option maxHeartbeats 1000000 in
set_option maxRecDepth 100000 in
theorem c_sReadCode (s : ByteArray) (w : World) (hs : s.size ≤ 1099511627775) :
    Calls Tryd.prog 52 #[.string s] w (RetSlB cInstr (readCF s.data.toList).1 (readCF s.data.toList).2 w) := by
  have hPL := fun z => lines_piece (l := s.data.toList) (z := z)
  have hsz : s.data.toList.length = s.size := by simp
  rw [hsz] at hPL
  have HF0 : Hid (readCF s.data.toList = if (linesF s.data.toList).2 = true ∧ (linesF s.data.toList).1.length ≤ 80 then
    if ∀ z ∈ (linesF s.data.toList).1, (readIF z).2 = true then codB ((linesF s.data.toList).1.map fun z => (readIF z).1) else ([], false)
    else ([], false)) := rfl
  have HLC := hid (c_l01Lines s w hs)
  have HPL := hid hPL
  clear hsz hPL
  go_enter Tryd.func52, Tryd.ntmps52
  go_wp2_with fail
  refine HLC.out.mono ?_
  rintro e w1 ⟨a1, p1, zs, ok, rfl, hs1, hb1, hh⟩
  clear HLC
  have HS := hid hs1
  have HB1 := hid hb1
  clear hs1 hb1
  by_cases hok : ok = true ∧ zs.length ≤ 80
  · obtain ⟨rfl, hz80⟩ := hok
    have hln : linesF s.data.toList = (zs, true) := by
      rcases hh with ⟨_, h⟩ | ⟨h, _⟩
      · exact h
      · cases h
    clear hh
    have HF1 : Hid (readCF s.data.toList = if ∀ z ∈ zs, (readIF z).2 = true then codB (zs.map fun z => (readIF z).1) else ([], false)) := by
      unfold Hid; rw [HF0.out, hln, if_pos ⟨rfl, hz80⟩]
    rw [hln] at HPL
    simp only at HPL
    have n80 : ¬ (80 : Int) < (zs.length : Int) := by omega
    clear HF0 hln
    have HO1 : Hid (OwnSl cInstr (fun _ => False) (w1.alloc (.cells #[] 35)) w1.heap.size 35 (.slice (some ⟨w1.heap.size, 0, none⟩) 0 0) []) := own_made _ _ _ _ _ (Nat.le_refl _)
    go_wp2
    go_loopw [6, 7] (fun v i wr => ∃ k : Nat, k ≤ zs.length ∧ i = .int .i64 k ∧ Hid (∀ z ∈ zs.take k, (readIF z).2 = true) ∧ Hid (OwnSl cInstr (fun _ => False) wr w1.heap.size 35 v ((zs.take k).map fun z => (readIF z).1)) ∧ Hid (Below w1.heap.size w1 wr)) (fun _ i _ => zs.length - (intOf i).toNat)
    case atStart => exact ⟨0, Nat.zero_le _, rfl, by unfold Hid; simp, HO1, (Below.refl _ _).alloc (Nat.le_refl _) _⟩
    case round =>
      obtain ⟨k, hk, rfl, HA, HO, HBE⟩ := hrel
      have HBR := hid (bel_next HB1.out HB1.out.size HBE.out)
      have hsz := HBR.out.size
      by_cases hlt : k < zs.length
      · obtain ⟨b, off, rfl⟩ := HS.out.some_of hlt
        obtain ⟨z, hz, hz2, hc, hb, _⟩ := (HS.out.below (Nat.le_refl _) HBE.out).str_at k hlt
        have hzs := HPL.out z (List.mem_of_getElem? hz)
        have i0 : (0 : Int) ≤ (k : Int) := by omega
        have i1 : (k : Int) < (zs.length : Int) := by omega
        have HRI : Hid (∀ w, Calls Tryd.prog 98 #[.string ⟨z.toArray⟩] w fun e w' => e = .returned (.tuple #[.agg #[.int .i64 (readIF z).1.1, .int .i64 (readIF z).1.2], .bool (readIF z).2]) ∧ Below w.heap.size w w') := fun w => by
          have h9 := c_l07Read ⟨z.toArray⟩ w (by simp [ByteArray.size]; omega)
          have hzz : (⟨z.toArray⟩ : ByteArray).data.toList = z := by simp
          rw [hzz, readIS_eq] at h9
          exact h9
        have HN := hid (map_take_snoc (f := fun z => (readIF z).1) hz)
        have HAN : Hid ((readIF z).2 = true → ∀ y ∈ zs.take (k + 1), (readIF y).2 = true) := by
          unfold Hid; intro h y hy
          rw [List.take_add_one, hz] at hy
          rcases List.mem_append.1 hy with h1 | h1
          · exact HA.out y h1
          · simp at h1; rw [h1]; exact h
        have hlk : ((zs.take k).map fun z => (readIF z).1).length = k := by simp; omega
        have HZ := hid hz
        have hio := readIF_ok (l := z)
        obtain ⟨⟨⟨x, y⟩, oz⟩, hr⟩ : ∃ q, readIF z = q := ⟨_, rfl⟩
        rw [hr] at HRI HAN hio
        have HR := hid hr
        have HLK := hid hlk
        clear hz hr hlk
        simp only at HRI HAN hio
        cases oz
        · have HF : Hid (readCF s.data.toList = ([], false)) := by
            unfold Hid; rw [HF1.out, if_neg]; intro h
            have h9 := h z (List.mem_of_getElem? HZ.out)
            rw [HR.out] at h9; cases h9
          clear hio
          go_wp2_with (go_at_call 98; refine (HRI.out _).mono ?_; rintro e w2 ⟨rfl, hb2⟩; have HB2 := hid (bel_next HBR.out HBR.out.size hb2); clear hb2)
          go_ret2
          rw [HF.out]
          exact ⟨none, 0, rfl, nil_rd _ _ _, HB2.out.alloc HB2.out.size _⟩
        · have hvi := validI_i64 (hio rfl)
          obtain ⟨v1, v2⟩ := hvi
          have HV1 := hid v1
          have HV2 := hid v2
          clear hio v1 v2
          go_wp2_with (first | (go_at_call 98; refine (HRI.out _).mono ?_; rintro e w2 ⟨rfl, hb2⟩; have HB2 := hid ((bel_next HBR.out HBR.out.size hb2).alloc (Nat.le_trans HBR.out.size hb2.size) (.cells #[.int .i64 x, .int .i64 y] 35)); have HBW := hid ((bel_next HBE.out HBE.out.size hb2).alloc (Nat.le_trans HBE.out.size hb2.size) (.cells #[.int .i64 x, .int .i64 y] 35)); have HO2 := hid (own_alloc (own_below HO.out (Nat.le_refl _) hb2) (.cells #[.int .i64 x, .int .i64 y] 35)); clear hb2) | (at_builtin; refine app_own (C := cInstr) rfl (.tmp 39) (.tmp 41) _ rfl slInstr rfl (by rw [World.size_alloc]; rfl) HO2.out no_blk (x, y) (rd_instr HV1.out HV2.out) (by rw [HLK.out]; omega) HBW.out.size ?_; intro v3 w3 hO3 hb3; have HO3 := hid hO3; have HB3 := hid (HBW.out.trans hb3); clear hO3 hb3))
          go_roundw
          case rel => exact ⟨k + 1, by omega, by go_num, HAN.out (by simp), by rw [HN.out, HR.out]; exact HO3, HB3⟩
          case measure => simp [intOf]; omega
      · have HK : Hid (zs.take k = zs) := List.take_of_length_le (by omega)
        have HF : Hid (readCF s.data.toList = codB (zs.map fun z => (readIF z).1)) := by
          unfold Hid; rw [HF1.out, if_pos]; rw [← HK.out]; exact HA.out
        rw [HK.out] at HO
        have HO := hid (own_base HO.out HB1.out.size)
        obtain ⟨xs, hxs⟩ : ∃ xs, (zs.map fun z => (readIF z).1) = xs := ⟨_, rfl⟩
        rw [hxs] at HO HF
        clear hxs
        obtain ⟨a3, p3, rfl, hs3⟩ := own_rd (own_keep (S' := Fresh w.heap.size wr) HO.out (fun _ h => h.elim) fun _ _ _ => rfl) (Nat.le_refl _)
        have HS3 := hid hs3
        clear hs3
        obtain ⟨r, hr⟩ : ∃ r, validCode xs = r := ⟨_, rfl⟩
        have HR := hid hr
        have HF2 : Hid (codB xs = if r then (xs, true) else ([], false)) := by unfold Hid codB; rw [hr]
        clear hr
        cases r
        all_goals
          go_wp2_with (go_at_call 78; refine (c_l07Is _ _ _ _ HS3.out).mono ?_; rintro e w4 ⟨rfl, hb4⟩; rw [HR.out]; have HB4 := hid hb4; clear hb4)
          go_ret2
          rw [HF.out, HF2.out]
        · exact ⟨none, 0, rfl, nil_rd _ _ _, bel_next HBR.out HBR.out.size HB4.out⟩
        · exact ⟨a3, p3, rfl, HS3.out.fresh (Nat.le_refl _) (Nat.le_refl _) HB4.out, bel_next HBR.out HBR.out.size HB4.out⟩
  · have HF : Hid (readCF s.data.toList = ([], false)) := by
      unfold Hid; rw [HF0.out, if_neg]
      rcases hh with ⟨h1, h⟩ | ⟨h1, h⟩
      · rw [h]; intro h2; exact hok ⟨h1, h2.2⟩
      · rw [h]; intro h2; cases h2.1
    clear HF0 HPL hh
    cases ok
    · clear hok
      go_wp2
      go_ret2
      rw [HF.out]
      exact ⟨none, 0, rfl, nil_rd _ _ _, HB1.out⟩
    · have n80 : (80 : Int) < (zs.length : Int) := by
        have : ¬ zs.length ≤ 80 := fun h => hok ⟨rfl, h⟩
        omega
      clear hok
      go_wp2
      go_ret2
      rw [HF.out]
      exact ⟨none, 0, rfl, nil_rd _ _ _, HB1.out⟩
end Go.Proofs.YtcbaohcgeoaccaaDoor
