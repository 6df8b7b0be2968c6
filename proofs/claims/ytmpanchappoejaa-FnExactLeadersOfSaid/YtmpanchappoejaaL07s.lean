/- Contracts: code whose places are shifted, and code that does both. -/
import Derived.Test.YtmpanchappoejaaL07c
import Derived.Test.YtmpanchappoejaaApp2
import Derived.Lib.SliceRun
import Derived.Outline
namespace Go.Proofs.Ytmpanchappoejaa
open Go.RowKit

def jumpB (op : Int) : Bool := op == 5 || op == 6
def shiftI (n : Int) (x : Instr) : Instr := if jumpB x.1 then (x.1, x.2 + n) else x
def shiftL (xs : List Instr) (n : Int) : List Instr := xs.map (shiftI n)
def codeB (xs : List Instr) : List Instr × Bool := if validCode xs then (xs, true) else ([], false)
def shiftF (xs : List Instr) (n : Int) : List Instr × Bool := if validCode xs && inB n 0 80 then codeB (shiftL xs n) else ([], false)
theorem validCode_iff {xs : List Instr} (h : validCode xs = true) : 1 ≤ xs.length ∧ xs.length ≤ 80 ∧ ∀ x ∈ xs, validI x = true := by
  simp only [validCode, Bool.and_eq_true, List.all_eq_true] at h
  have := inB_iff.1 h.1
  exact ⟨by omega, by omega, h.2⟩
theorem codeB_len {xs : List Instr} : (codeB xs).1.length ≤ 80 := by
  unfold codeB
  split
  · rename_i h; exact (validCode_iff h).2.1
  · simp
theorem shiftF_len (xs : List Instr) (n : Int) : (shiftF xs n).1.length ≤ 1048576 := by
  unfold shiftF
  split
  · have := codeB_len (xs := shiftL xs n); omega
  · simp
/-- What an instruction's argument can be. -/
theorem validI_arg {x : Instr} (h : validI x = true) : -1000000 ≤ x.2 ∧ x.2 ≤ 1000000 := by
  obtain ⟨op, arg⟩ := x
  unfold validI at h
  simp only at h ⊢
  split at h
  · have := inB_iff.1 h; omega
  · split at h
    · have := inB_iff.1 h; omega
    · split at h
      · have := inB_iff.1 h; omega
      · split at h
        · have := inB_iff.1 h; omega
        · split at h
          · simp at h; omega
          · cases h
theorem upto_set {f : Instr → Instr} {xs : List Instr} {k : Nat} {x : Instr} (hx : xs[k]? = some x) : ((xs.take k).map f ++ xs.drop k).set k (f x) = (xs.take (k + 1)).map f ++ xs.drop (k + 1) := by
  have hk := (List.getElem?_eq_some_iff.1 hx).1
  have hl : ((xs.take k).map f).length = k := by simp; omega
  have e : (xs.take (k + 1)).map f = (xs.take k).map f ++ [f x] := by rw [List.take_add_one, hx]; simp
  have ed : xs.drop k = x :: xs.drop (k + 1) := by
    rw [List.drop_eq_getElem_cons hk]; congr 1
    rw [List.getElem?_eq_getElem hk] at hx; simpa using hx
  rw [e, ed, List.set_append_right _ _ (by omega), hl, Nat.sub_self]
  simp
theorem upto_at {f : Instr → Instr} {xs : List Instr} {k : Nat} (hk : k < xs.length) : ((xs.take k).map f ++ xs.drop k)[k]? = xs[k]? := by
  have hl : ((xs.take k).map f).length = k := by simp; omega
  rw [List.getElem?_append_right (by omega), hl, Nat.sub_self, List.getElem?_drop]; simp
theorem upto_len {f : Instr → Instr} {xs : List Instr} {k : Nat} (hk : k ≤ xs.length) : ((xs.take k).map f ++ xs.drop k).length = xs.length := by simp; omega
theorem upto_same {f : Instr → Instr} {xs : List Instr} {k : Nat} {x : Instr} (hx : xs[k]? = some x) (hf : f x = x) : (xs.take (k + 1)).map f ++ xs.drop (k + 1) = (xs.take k).map f ++ xs.drop k := by
  rw [← upto_set hx, hf]
  apply List.ext_getElem?
  intro i
  by_cases hi : i = k
  · subst hi
    rw [List.getElem?_set_self (by rw [upto_len (by have := (List.getElem?_eq_some_iff.1 hx).1; omega)]; exact (List.getElem?_eq_some_iff.1 hx).1), upto_at (List.getElem?_eq_some_iff.1 hx).1, hx]
  · rw [List.getElem?_set_ne (by omega)]
theorem upto_end {f : Instr → Instr} {xs : List Instr} {k : Nat} (hk : xs.length ≤ k) : (xs.take k).map f ++ xs.drop k = xs.map f := by
  rw [List.take_of_length_le hk, List.drop_of_length_le hk]; simp
theorem c_isJump (op arg : Int) (w : World) :
    Calls Try.prog 98 #[.agg #[.int .i64 op, .int .i64 arg]] w fun e w' => e = .returned (.bool (jumpB op)) ∧ Below w.heap.size w w' := by
  by_cases h5 : op = 5
  · have h5' : (op == 5) = true := by simp [h5]
    have HF : Hid (jumpB op = true) := by unfold Hid jumpB; simp [h5]
    clear h5
    go_enter Try.func98, Try.ntmps98
    go_wp2
    go_ret
    exact ⟨ret_bool HF.out.symm, (Below.refl _ _).alloc (Nat.le_refl _) _⟩
  · have h5' : (op == 5) = false := by simp [h5]
    have HF : Hid (jumpB op = (op == 6)) := by unfold Hid jumpB; simp [h5]
    clear h5
    go_enter Try.func98, Try.ntmps98
    go_wp2
    go_ret
    exact ⟨ret_bool HF.out.symm, (Below.refl _ _).alloc (Nat.le_refl _) _⟩
theorem c_cloneCode {S : Nat → Prop} {a : Option Addr} {p : Nat} {xs : List Instr} {w : World} (h : SlRd cInstr S w a p xs) (hn : xs.length ≤ 1000000) :
    Calls Try.prog 96 #[.slice a xs.length p] w fun e w' => ∃ v, e = .returned v ∧ OwnSl cInstr (fun _ => False) w' w.heap.size 118 v xs ∧ Below w.heap.size w w' := by
  have hc := fun (w : World) (t e : TypeId) (a : Option Addr) (n c n' c' : Nat) h => Lib.run_eql_slice_nil (P := Try.prog) w t e a n c n' c' h
  cases a with
  | none =>
    have h0 : xs.length = 0 := by have := h.2.2.1 rfl; have := h.1; omega
    obtain rfl := List.eq_nil_of_length_eq_zero h0
    have hc' := fun w => Lib.run_eql_slice_nil (P := Try.prog) w 59 118 none 0 p 0 0 Try.underlying59
    clear hc h0 h
    go_enter Try.func96, Try.ntmps96
    go_wp2
    go_ret
    exact ⟨_, rfl, own_nil _ _ _ _ _, Below.refl _ _⟩
  | some x =>
    have H := hid (h.alloc (.cells #[] 118))
    have hc' := fun w => Lib.run_eql_slice_nil (P := Try.prog) w 59 118 (some x) xs.length p 0 0 Try.underlying59
    have HO : Hid (OwnSl cInstr (fun _ => False) (w.alloc (.cells #[] 118)) w.heap.size 118 (.slice (some ⟨w.heap.size, 0, none⟩) 0 0) []) := own_made _ _ _ _ _ (Nat.le_refl _)
    clear hc h
    go_enter Try.func96, Try.ntmps96
    go_wp2_with (at_builtin; refine app_all (C := cInstr) rfl (.tmp 5) (.tmp 6) _ rfl slInstr flat_instr rfl rfl HO.out H.out no_blk (by simp; omega) (by simp) ?_; intro v3 w3 hO3 hb3; have HO3 := hid hO3; clear hO3)
    go_ret
    exact ⟨_, rfl, by simpa using HO3.out, ((Below.refl _ _).alloc (Nat.le_refl _) _).trans hb3⟩
theorem small_args {xs : List Instr} (h : validCode xs = true) : ∀ x ∈ xs, -1000000 ≤ x.2 ∧ x.2 ≤ 1000000 := fun x hx => validI_arg ((validCode_iff h).2.2 x hx)
set_option maxRecDepth 100000 in
theorem c_shifted {S : Nat → Prop} {a : Option Addr} {p : Nat} {xs : List Instr} {n : Int} {w : World} (h : SlRd cInstr S w a p xs) (hn : xs.length ≤ 1000000) (hx : ∀ x ∈ xs, -1000000 ≤ x.2 ∧ x.2 ≤ 1000000) (h0 : 0 ≤ n) (h1 : n ≤ 1000000) :
    Calls Try.prog 95 #[.slice a xs.length p, .int .i64 n] w fun e w' => ∃ v, e = .returned v ∧ OwnSl cInstr (fun _ => False) w' w.heap.size 118 v (shiftL xs n) ∧ Below w.heap.size w w' := by
  have H := hid h
  have HX := hid hx
  clear h hx
  go_enter Try.func95, Try.ntmps95
  go_wp2_with (go_at_call 96; refine (c_cloneCode H.out hn).mono ?_; rintro e w1 ⟨v1, rfl, hO1, hb1⟩; obtain ⟨a1, cap1, rfl⟩ := own_len hO1; have HO1 := hid hO1; have HB1 := hid hb1; clear hO1 hb1)
  go_loopw [12] (fun i wr => ∃ k : Nat, k ≤ xs.length ∧ i = .int .i64 k ∧ Hid (OwnSl cInstr (fun _ => False) wr w.heap.size 118 (.slice a1 xs.length cap1) ((xs.take k).map (shiftI n) ++ xs.drop k)) ∧ Below w.heap.size w wr) (fun i _ => xs.length - (intOf i).toNat)
  case atStart => exact ⟨0, Nat.zero_le _, rfl, by simpa using HO1, HB1.out⟩
  case round =>
    obtain ⟨k, hk, rfl, HO, hbe⟩ := hrel
    have hsz := hbe.size
    by_cases hlt : k < xs.length
    · have hg : ∃ g, a1 = some ⟨g, 0, none⟩ := by
        obtain ⟨ys, hr, _⟩ := HO.out
        rcases hr.2 with ⟨e1, e2⟩ | ⟨g, cap, cur, e1, _⟩
        · rw [upto_len hk] at e2; omega
        · injection e1 with e1 e2 e3; exact ⟨g, e1⟩
      obtain ⟨g, rfl⟩ := hg
      obtain ⟨x, y, hz, hx1, hy1, hc, hc', hf, hf', hgl, hgb⟩ := own_at_instr HO.out (upto_len hk) k hlt
      have HZ0 := hid hz
      rw [upto_at hlt] at hz
      have hby := HX.out _ (List.mem_of_getElem? hz)
      obtain ⟨y1, y2⟩ := hby
      simp only at y1 y2
      obtain ⟨r, hr⟩ : ∃ r, jumpB x = r := ⟨_, rfl⟩
      have HR := hid hr
      cases r
      · have HN : Hid ((xs.take (k + 1)).map (shiftI n) ++ xs.drop (k + 1) = (xs.take k).map (shiftI n) ++ xs.drop k) := upto_same hz (by unfold shiftI; rw [if_neg (by simp [hr])])
        clear hz hr
        go_wp2_with (go_at_call 98; refine (c_isJump _ _ _).mono ?_; rintro e w2 ⟨rfl, hb2⟩; rw [HR.out]; have HO2 := hid (own_below (own_alloc HO.out (.cells #[.int .i64 x, .int .i64 y] 118)) (Nat.le_refl _) hb2); have HB2 := hid (bel_box hbe hsz hb2); clear hb2)
        go_roundw
        case rel => exact ⟨k + 1, by omega, by go_num, by rw [HN.out]; exact HO2, HB2.out⟩
        case measure => simp [intOf]; omega
      · have HN : Hid (((xs.take k).map (shiftI n) ++ xs.drop k).set k (x, y + n) = (xs.take (k + 1)).map (shiftI n) ++ xs.drop (k + 1)) := by
          have := upto_set (f := shiftI n) hz
          unfold Hid; rw [← this]; unfold shiftI; rw [if_pos hr]
        clear hz hr
        go_wp2_with (go_at_call 98; refine (c_isJump _ _ _).mono ?_; rintro e w2 ⟨rfl, hb2⟩; rw [HR.out]; have HO2 := hid (own_below (own_alloc HO.out (.cells #[.int .i64 x, .int .i64 y] 118)) (Nat.le_refl _) hb2); have HB2 := hid (bel_box hbe hsz hb2); obtain ⟨x', y', hz', _, _, d, d', f, f', gl, _⟩ := own_at_instr HO2.out (upto_len hk) k hlt; have hd2 := cell_below hb2 (b := g) (o := k * 2 + 1) (v := .int .i64 y) (by rw [World.size_alloc]; omega) (by rw [World.cell?_alloc_lt (h := hgl)]; exact hc'); clear hb2 hz' d d')
        go_roundw
        case rel =>
          obtain ⟨h8, h9⟩ := own_set_arg HO2.out (upto_len hk) k hlt x y (y + n) HZ0.out ⟨by omega, by omega⟩
          rw [HN.out] at h8
          exact ⟨k + 1, by omega, by go_num, h8, HB2.out.setCell hgb _⟩
        case measure => simp [intOf]; omega
    · have HF : Hid ((xs.take k).map (shiftI n) ++ xs.drop k = shiftL xs n) := upto_end (by omega)
      go_wp2
      go_ret
      exact ⟨_, rfl, by rw [← HF.out]; exact HO.out, hbe⟩
theorem c_checkedCode {S : Nat → Prop} {a : Option Addr} {p : Nat} {xs : List Instr} {w : World} (h : SlRd cInstr S w a p xs) :
    Calls Try.prog 94 #[.slice a xs.length p] w fun e w' => e = .returned (.tuple #[if validCode xs then .slice a xs.length p else .slice none 0 0, .bool (validCode xs)]) ∧ Below w.heap.size w w' := by
  obtain ⟨r, hr⟩ : ∃ r, validCode xs = r := ⟨_, rfl⟩
  rw [hr]
  have HR := hid hr
  have H := hid h
  clear hr h
  cases r
  all_goals
    go_enter Try.func94, Try.ntmps94
    go_wp2_with (go_at_call 93; refine (c_ValidCode _ _ _ _ H.out).mono ?_; rintro e w1 ⟨rfl, hb1⟩; rw [HR.out])
    go_ret2
    exact ⟨rfl, hb1⟩
/-- What a checked code is as a result, when the code is one's own. -/
theorem retCode {xs : List Instr} {w0 w w' : World} {v : Value} {e : TypeId} {a : Option Addr} {p : Nat} (ho : OwnSl cInstr (fun _ => False) w w0.heap.size e v xs) (hv : v = .slice a xs.length p) (hb0 : Below w0.heap.size w0 w) (hb : Below w.heap.size w w') :
    RetSlB cInstr (codeB xs).1 (codeB xs).2 w0 (.returned (.tuple #[if validCode xs then .slice a xs.length p else .slice none 0 0, .bool (validCode xs)])) w' := by
  have hbb := bel_next hb0 hb0.size hb
  unfold codeB
  cases h : validCode xs with
  | false => exact ⟨none, 0, rfl, nil_rd _ _ _, hbb⟩
  | true =>
    obtain ⟨a', p', h1, h2⟩ := own_rd (own_keep (S' := Fresh w0.heap.size w) ho (fun _ h => h.elim) fun _ _ _ => rfl) (Nat.le_refl _)
    rw [hv] at h1
    cases h1
    exact ⟨a, p, rfl, h2.fresh (Nat.le_refl _) (Nat.le_refl _) hb, hbb⟩
set_option maxRecDepth 100000 in
theorem c_ShiftCode {S : Nat → Prop} {a : Option Addr} {p : Nat} {xs : List Instr} {n : Int} {w : World} (h : SlRd cInstr S w a p xs) :
    Calls Try.prog 48 #[.slice a xs.length p, .int .i64 n] w (RetSlB cInstr (shiftF xs n).1 (shiftF xs n).2 w) := by
  obtain ⟨r, hr⟩ : ∃ r, validCode xs = r := ⟨_, rfl⟩
  obtain ⟨q, hq⟩ : ∃ q, inB n 0 80 = q := ⟨_, rfl⟩
  have HF : Hid (shiftF xs n = if r && q then codeB (shiftL xs n) else ([], false)) := by unfold Hid shiftF; rw [hr, hq]
  have HR := hid hr
  have HQ := hid hq
  have H := hid h
  clear h
  cases r
  · clear hr hq
    go_enter Try.func48, Try.ntmps48
    go_wp2_with (go_at_call 93; refine (c_ValidCode _ _ _ _ H.out).mono ?_; rintro e w1 ⟨rfl, hb1⟩; rw [HR.out])
    go_ret2
    rw [HF.out]
    exact ⟨none, 0, rfl, nil_rd _ _ _, hb1⟩
  · cases q
    · clear hr hq
      go_enter Try.func48, Try.ntmps48
      go_wp2_with (first | (go_at_call 93; refine (c_ValidCode _ _ _ _ H.out).mono ?_; rintro e w1 ⟨rfl, hb1⟩; rw [HR.out]; have HB1 := hid hb1; clear hb1) | (go_at_call 73; refine (c_within _ _ _ _).mono ?_; rintro e w2 ⟨rfl, rfl⟩; rw [HQ.out]))
      go_ret2
      rw [HF.out]
      exact ⟨none, 0, rfl, nil_rd _ _ _, HB1.out⟩
    · have HF2 : Hid (shiftF xs n = codeB (shiftL xs n)) := by unfold Hid; rw [HF.out]; rfl
      have hin := inB_iff.1 hq
      obtain ⟨i0, i1⟩ := hin
      have HX := hid (small_args hr)
      have hxl := (validCode_iff hr).2.1
      obtain ⟨u, hu⟩ : ∃ u, validCode (shiftL xs n) = u := ⟨_, rfl⟩
      have HU := hid hu
      clear hr hq hu
      cases u
      all_goals
        go_enter Try.func48, Try.ntmps48
        go_wp2_with fail
        refine (c_ValidCode _ _ _ _ H.out).mono ?_
        rintro e w1 ⟨rfl, hb1⟩
        rw [HR.out]
        have HB1 := hid hb1
        have H1 := hid (H.out.below (Nat.le_refl _) hb1)
        clear hb1
        go_wp2_with fail
        refine (c_within _ _ _ _).mono ?_
        rintro e w2 ⟨rfl, rfl⟩
        rw [HQ.out]
        go_wp2_with fail
        refine (c_shifted H1.out (by omega) HX.out i0 (by omega)).mono ?_
        rintro e w2 ⟨v2, rfl, hO2, hb2⟩
        obtain ⟨a2, p2, rfl⟩ := own_len hO2
        have HRD := hid (own_rd (own_keep (S' := Fresh w1.heap.size w2) hO2 (fun _ h => h.elim) fun _ _ _ => rfl) (Nat.le_refl _))
        have HO2 := hid (own_base hO2 HB1.out.size)
        have HB2 := hid (bel_next HB1.out HB1.out.size hb2)
        clear hO2 hb2
        obtain ⟨a3, p3, he, hs⟩ := HRD.out
        cases he
        have HS := hid hs
        clear HRD hs
        go_wp2_with fail
        refine (c_checkedCode HS.out).mono ?_
        rintro e w3 ⟨rfl, hb3⟩
        rw [HU.out]
        go_wp2
        go_ret2
        rw [HF2.out]
        have h9 := retCode HO2.out rfl HB2.out hb3
        rw [HU.out] at h9
        exact h9
set_option maxRecDepth 100000 in
theorem c_l07Shift {S : Nat → Prop} {a : Option Addr} {p : Nat} {xs : List Instr} {n : Int} {w : World} (h : SlRd cInstr S w a p xs) (hn : xs.length ≤ 1000000) (hx : ∀ x ∈ xs, -1000000 ≤ x.2 ∧ x.2 ≤ 1000000) (h0 : 0 ≤ n) (h1 : n ≤ 1000000) :
    Calls Try.prog 91 #[.slice a xs.length p, .int .i64 n] w fun e w' => ∃ v, e = .returned v ∧ OwnSl cInstr (fun _ => False) w' w.heap.size 118 v (shiftL xs n) ∧ Below w.heap.size w w' := by
  have H := hid (h.alloc (.cells #[] 118))
  have HO : Hid (OwnSl cInstr (fun _ => False) (w.alloc (.cells #[] 118)) w.heap.size 118 (.slice (some ⟨w.heap.size, 0, none⟩) 0 0) []) := own_made _ _ _ _ _ (Nat.le_refl _)
  have HX := hid hx
  clear h hx
  go_enter Try.func91, Try.ntmps91
  go_wp2_with (at_builtin; refine app_all (C := cInstr) rfl (.tmp 7) (.tmp 8) _ rfl slInstr flat_instr rfl rfl HO.out H.out no_blk (by simp; omega) (by simp) ?_; intro v1 w1 hO1 hb1; rw [List.nil_append] at hO1; obtain ⟨a1, cap1, rfl⟩ := own_len hO1; have HO1 := hid hO1; have HB1 := hid (((Below.refl _ _).alloc (Nat.le_refl _) _).trans hb1); clear hO1 hb1)
  go_loopw [6] (fun i wr => ∃ k : Nat, k ≤ xs.length ∧ i = .int .i64 k ∧ Hid (OwnSl cInstr (fun _ => False) wr w.heap.size 118 (.slice a1 xs.length cap1) ((xs.take k).map (shiftI n) ++ xs.drop k)) ∧ Below w.heap.size w wr) (fun i _ => xs.length - (intOf i).toNat)
  case atStart => exact ⟨0, Nat.zero_le _, rfl, by simpa using HO1, HB1.out⟩
  case round =>
    obtain ⟨k, hk, rfl, HO, hbe⟩ := hrel
    have hsz := hbe.size
    by_cases hlt : k < xs.length
    · have hg : ∃ g, a1 = some ⟨g, 0, none⟩ := by
        obtain ⟨ys, hr, _⟩ := HO.out
        rcases hr.2 with ⟨e1, e2⟩ | ⟨g, cap, cur, e1, _⟩
        · rw [upto_len hk] at e2; omega
        · injection e1 with e1 e2 e3; exact ⟨g, e1⟩
      obtain ⟨g, rfl⟩ := hg
      obtain ⟨x, y, hz, hx1, hy1, hc, hc', hf, hf', hgl, hgb⟩ := own_at_instr HO.out (upto_len hk) k hlt
      have HZ0 := hid hz
      rw [upto_at hlt] at hz
      have hby := HX.out _ (List.mem_of_getElem? hz)
      obtain ⟨y1, y2⟩ := hby
      simp only at y1 y2
      have i1 : (0 : Int) ≤ (k : Int) := by omega
      have i2 : (k : Int) < (xs.length : Int) := by omega
      by_cases h5 : x = 5
      · subst h5
        have HN : Hid (((xs.take k).map (shiftI n) ++ xs.drop k).set k (5, y + n) = (xs.take (k + 1)).map (shiftI n) ++ xs.drop (k + 1)) := by
          have := upto_set (f := shiftI n) hz
          unfold Hid; rw [← this]; rfl
        clear hz
        go_wp2
        go_roundw
        case rel =>
          obtain ⟨h8, h9⟩ := own_set_arg HO.out (upto_len hk) k hlt 5 y (y + n) HZ0.out ⟨by omega, by omega⟩
          rw [HN.out] at h8
          exact ⟨k + 1, by omega, by go_num, h8, hbe.setCell hgb _⟩
        case measure => simp [intOf]; omega
      · have h5' : (x == 5) = false := by simp [h5]
        by_cases h6 : x = 6
        · subst h6
          have HN : Hid (((xs.take k).map (shiftI n) ++ xs.drop k).set k (6, y + n) = (xs.take (k + 1)).map (shiftI n) ++ xs.drop (k + 1)) := by
            have := upto_set (f := shiftI n) hz
            unfold Hid; rw [← this]; rfl
          clear hz h5
          go_wp2
          go_roundw
          case rel =>
            obtain ⟨h8, h9⟩ := own_set_arg HO.out (upto_len hk) k hlt 6 y (y + n) HZ0.out ⟨by omega, by omega⟩
            rw [HN.out] at h8
            exact ⟨k + 1, by omega, by go_num, h8, hbe.setCell hgb _⟩
          case measure => simp [intOf]; omega
        · have h6' : (x == 6) = false := by simp [h6]
          have HN : Hid ((xs.take (k + 1)).map (shiftI n) ++ xs.drop (k + 1) = (xs.take k).map (shiftI n) ++ xs.drop k) := upto_same hz (by unfold shiftI jumpB; rw [if_neg (by simp [h5, h6])])
          clear hz h5 h6
          go_wp2
          go_roundw
          case rel => exact ⟨k + 1, by omega, by go_num, by rw [HN.out]; exact HO, hbe⟩
          case measure => simp [intOf]; omega
    · have HF : Hid ((xs.take k).map (shiftI n) ++ xs.drop k = shiftL xs n) := upto_end (by omega)
      go_wp2
      go_ret
      exact ⟨_, rfl, by rw [← HF.out]; exact HO.out, hbe⟩
set_option maxRecDepth 100000 in
theorem c_sShiftCode {S : Nat → Prop} {a : Option Addr} {p : Nat} {xs : List Instr} {n : Int} {w : World} (h : SlRd cInstr S w a p xs) :
    Calls Try.prog 46 #[.slice a xs.length p, .int .i64 n] w (RetSlB cInstr (shiftF xs n).1 (shiftF xs n).2 w) := by
  obtain ⟨r, hr⟩ : ∃ r, validCode xs = r := ⟨_, rfl⟩
  obtain ⟨q, hq⟩ : ∃ q, inB n 0 80 = q := ⟨_, rfl⟩
  have HF : Hid (shiftF xs n = if r && q then codeB (shiftL xs n) else ([], false)) := by unfold Hid shiftF; rw [hr, hq]
  have HR := hid hr
  have HQ := hid hq
  have H := hid h
  clear h
  cases r
  · clear hr hq
    go_enter Try.func46, Try.ntmps46
    go_wp2_with (go_at_call 89; refine (c_l07Is _ _ _ _ H.out).mono ?_; rintro e w1 ⟨rfl, hb1⟩; rw [HR.out])
    go_ret2
    rw [HF.out]
    exact ⟨none, 0, rfl, nil_rd _ _ _, hb1⟩
  · cases q
    · clear hr hq
      go_enter Try.func46, Try.ntmps46
      go_wp2_with (first | (go_at_call 89; refine (c_l07Is _ _ _ _ H.out).mono ?_; rintro e w1 ⟨rfl, hb1⟩; rw [HR.out]; have HB1 := hid hb1; clear hb1) | (go_at_call 90; refine (c_l00In _ _ _ _).mono ?_; rintro e w2 ⟨rfl, rfl⟩; rw [HQ.out]))
      go_ret2
      rw [HF.out]
      exact ⟨none, 0, rfl, nil_rd _ _ _, HB1.out⟩
    · have HF2 : Hid (shiftF xs n = codeB (shiftL xs n)) := by unfold Hid; rw [HF.out]; rfl
      have hin := inB_iff.1 hq
      obtain ⟨i0, i1⟩ := hin
      have HX := hid (small_args hr)
      have hxl := (validCode_iff hr).2.1
      obtain ⟨u, hu⟩ : ∃ u, validCode (shiftL xs n) = u := ⟨_, rfl⟩
      have HU := hid hu
      clear hr hq hu
      cases u
      all_goals
        go_enter Try.func46, Try.ntmps46
        go_wp2_with fail
        refine (c_l07Is _ _ _ _ H.out).mono ?_
        rintro e w1 ⟨rfl, hb1⟩
        rw [HR.out]
        have HB1 := hid hb1
        have H1 := hid (H.out.below (Nat.le_refl _) hb1)
        clear hb1
        go_wp2_with fail
        refine (c_l00In _ _ _ _).mono ?_
        rintro e w2 ⟨rfl, rfl⟩
        rw [HQ.out]
        go_wp2_with fail
        refine (c_l07Shift H1.out (by omega) HX.out i0 (by omega)).mono ?_
        rintro e w2 ⟨v2, rfl, hO2, hb2⟩
        obtain ⟨a2, p2, rfl⟩ := own_len hO2
        have HRD := hid (own_rd (own_keep (S' := Fresh w1.heap.size w2) hO2 (fun _ h => h.elim) fun _ _ _ => rfl) (Nat.le_refl _))
        have HO2 := hid (own_base hO2 HB1.out.size)
        have HB2 := hid (bel_next HB1.out HB1.out.size hb2)
        clear hO2 hb2
        obtain ⟨a3, p3, he, hs⟩ := HRD.out
        cases he
        have HS := hid hs
        clear HRD hs
        go_wp2_with fail
        refine (c_l07Is _ _ _ _ HS.out).mono ?_
        rintro e w3 ⟨rfl, hb3⟩
        rw [HU.out]
        go_wp2
        go_ret2
        rw [HF2.out]
        have h9 := retCode HO2.out rfl HB2.out hb3
        rw [HU.out] at h9
        exact h9
end Go.Proofs.Ytmpanchappoejaa
