/- Contracts: facts refuted, the reference's side. -/
import Derived.Test.YtkckhnpdodbffaaElS3
import Derived.Test.YtkckhnpdodbffaaEl4
namespace Go.Proofs.Ytkckhnpdodbffaa
open Go.RowKit

theorem SlRd.dropN {α : Type} {C : Codec α} {S : Nat → Prop} {w : World} {b o cap : Nat} {xs : List α} (h : SlRd C S w (some ⟨b, o, none⟩) cap xs) (k : Nat) (hk : k ≤ xs.length) : SlRd C S w (some ⟨b, o + k * C.n, none⟩) (cap - k) (xs.drop k) := by
  obtain ⟨h1, h2, h3, h4⟩ := h
  refine ⟨by rw [List.length_drop]; omega, by omega, by simp, fun x hx i d hi => ?_⟩
  cases hx
  rw [List.getElem?_drop] at hi
  obtain ⟨h5, cs, hr, hc⟩ := h4 _ rfl _ d hi
  refine ⟨h5, cs, hr, fun j u hj => ?_⟩
  have := hc j u hj
  rw [show o + k * C.n + i * C.n + j = o + (k + i) * C.n + j by rw [Nat.add_mul]; omega]
  exact this
theorem stage_len {k : Nat} {rows res : List Row} (h : stageF k rows = some res) : (zeroRs k rows).length ≤ res.length := by
  have key : ∀ (qs : List Row) (p : Row) (out res : List Row), goQ k p qs out = some res → out.length ≤ res.length := by
    intro qs
    induction qs with
    | nil => intro p out res h; simp [goQ] at h; subst h; exact Nat.le_refl _
    | cons q qs ih =>
      intro p out res h
      unfold goQ at h
      split at h
      · split at h
        · have := ih _ _ _ h; simp at this; omega
        · cases h
      · exact ih _ _ _ h
  have key2 : ∀ (ps out res : List Row), goP k rows ps out = some res → out.length ≤ res.length := by
    intro ps
    induction ps with
    | nil => intro out res h; simp [goP] at h; subst h; exact Nat.le_refl _
    | cons p ps ih =>
      intro out res h
      unfold goP at h
      cases h1 : goQ k p rows out with
      | none => rw [h1] at h; cases h
      | some o1 => rw [h1] at h; exact Nat.le_trans (key _ _ _ _ h1) (ih _ _ h)
  exact key2 _ _ _ h
/-- What the whole elimination hands back. -/
def everyRes (o : Option (List Row)) (w : World) (e : Ending) (w' : World) : Prop := Below w.heap.size w w' ∧ match o with
  | none => e = .returned (.tuple #[.slice none 0 0, .slice none 0 0, .bool false])
  | some rows => ∃ a p v, e = .returned (.tuple #[.slice a rows.length p, v, .bool true]) ∧ SlRd cRow (fun b => b < w'.heap.size) w' a p (rows.map rowS)
/-- append(v, s...), and which block was written. -/
theorem app_allX {α : Type} {C : Codec α} {T : Nat → Prop} {base : Nat} {e : TypeId} {v : Value} {es : List α} {P : Program} {ops : Array Oper} {rest : List Oper} {o : Oper} {a : Act} {Q : Exit → Act → World → Prop} (hgd : o.guard = none) (s x : Operand) (t : TypeId)
    (ho : o.op = .call { callee := .builtin .append, args := #[s, x], argTypes := #[t, t] }) {z : Value} {bytes : Nat} (hT : SlT P t e z C.n bytes) {w : World} {ad : Option Addr} {cap : Nat} {bs : List α}
    (hs : a.eval s = v) (hx : a.eval x = .slice ad bs.length cap) (hown : OwnSl C T w base e v es) (hsrc : SlRd C T w ad cap bs) (hTw : ∀ b, T b → b < w.heap.size) (hne : ∀ k, v.ownBlock = some k → ¬ T k) (hn : es.length + bs.length ≤ 1099511627776) (hbase : base ≤ w.heap.size)
    (h : ∀ v' w', OwnSl C T w' base e v' (es ++ bs) → (∀ k, v'.ownBlock = some k → ¬ T k) → ((∀ b, T b → w'.heap[b]? = w.heap[b]?) ∧ w.heap.size ≤ w'.heap.size) → Below base w w' → wpList P ops Q rest (a.put o.dst v') w') : wpList P ops Q (o :: rest) a w := by
  have hC : 0 < C.n := hT.hs
  obtain ⟨news, g1, g2, g3, g4⟩ := hsrc.cells_all hC
  obtain ⟨xs, hr, hel⟩ := id hown
  obtain ⟨v', w', h1, h2, h3, h4⟩ := run_app (ty := o.type) hT hr ad bs.length cap news (fun hz => by have h7 := hsrc.2.2.1 hz; have h8 := hsrc.1; exact ⟨by omega, h7⟩) g1 g2 g3 hn hbase
  refine wpList_app hgd s x t ho hs hx (R := fun v' w' => OwnSl C T w' base e v' (es ++ bs) ∧ (∀ k, v'.ownBlock = some k → ¬ T k) ∧ ((∀ b, T b → w'.heap[b]? = w.heap[b]?) ∧ w.heap.size ≤ w'.heap.size) ∧ Below base w w') ⟨v', w', h1, own_grow bs hTw hel (fun i x hi => ?_) hr.1 h2 h3 h4, fun k hk hTk => ?_, ⟨fun b hb => h3.block b (hTw b hb) fun e => hne b e.symm hb, h3.size⟩, bel_own hown h3 (Nat.le_refl _) hbase⟩ fun v' w' hr => h v' w' hr.1 hr.2.1 hr.2.2.1 hr.2.2.2
  · obtain ⟨cs, r, hc⟩ := g4 i x hi
    exact ⟨cs, C.keep (fun b hb hl => ⟨⟨hb, fun e => hne b e.symm hb⟩, rfl⟩) r, hc⟩
  · rcases h4 k hk with h9 | h9
    · exact hne k h9 hTk
    · have := hTw k hTk; omega
set_option maxHeartbeats 4000000 in
set_option maxRecDepth 100000 in
theorem c_l06Every {S : Nat → Prop} {a : Option Addr} {p : Nat} {ts : List Term} {w : World} (h : SlRd cTerm S w a p ts) (hv : ∀ t ∈ ts, validTerm t = true) (hn : ts.length ≤ 14) :
    Calls Try.prog 42 #[.slice a ts.length p] w (everyRes (allRows (List.range 10) ts) w) := by
  obtain ⟨KO, hKO⟩ : ∃ o, allRows (List.range 10) ts = o := ⟨_, rfl⟩
  rw [hKO]
  have HCR := hid (c_l06Rows h hv hn)
  have HRO0 := hid (rows0_ok hv)
  have hl0 : (rows0 ts).length ≤ 60 := by rw [rows0_len]; omega
  have HLEN : Hid (ts.length = (rows0 ts).length) := (rows0_len ts).symm
  have HAL : Hid (stagesF ((List.range 10).drop 0) (rows0 ts) = KO) := hKO
  clear hKO
  clear h hv
  go_enter Try.func42, Try.ntmps42
  go_wp2_with (go_at_call 31; refine HCR.out.mono ?_; rintro e w1 ⟨a1, p1, rfl, hs1, hb1⟩; rw [HLEN.out]; have HS1 := hid hs1; have HB1 := hid hb1; clear hs1 hb1)
  have HB2 := hid (HB1.out.alloc HB1.out.size (.cells #[] 64))
  have HO2 : Hid (OwnSl cRow (fun b => b < w1.heap.size) (w1.alloc (.cells #[] 64)) w.heap.size 64 (.slice (some ⟨w1.heap.size, 0, none⟩) 0 0) []) := own_base (own_made _ _ _ _ _ (Nat.le_refl _)) HB1.out.size
  have HS2 := hid (HS1.out.alloc (.cells #[] 64))
  have HT2 : Hid ((∀ b, b < w1.heap.size → b < (w1.alloc (.cells #[] 64)).heap.size) ∧ ∀ k, (Value.slice (some ⟨w1.heap.size, 0, none⟩) 0 0).ownBlock = some k → ¬ k < w1.heap.size) := ⟨fun b hb => by rw [World.size_alloc]; omega, fun k hk => by have h9 : w1.heap.size = k := Option.some.inj hk; omega⟩
  go_loopw [5, 6, 7] (fun v f i wr => ∃ (m : Nat) (rows : List Row) (ns : List (Term × List Int)) (T : Nat → Prop) (ar : Option Addr) (pr : Nat), m ≤ 10 ∧ i = .int .i64 m ∧ v = .slice ar rows.length pr ∧ rows.length ≤ 60 ∧ ns.length ≤ 60 * m ∧ Hid (stagesF ((List.range 10).drop m) rows = KO) ∧ Hid (RowsOk ts.length rows) ∧ Hid (SlRd cRow T wr ar pr (rows.map rowS)) ∧ Hid (OwnSl cRow T wr w.heap.size 64 f ns) ∧ Hid ((∀ b, T b → b < wr.heap.size) ∧ ∀ k, f.ownBlock = some k → ¬ T k) ∧ Hid (Below w.heap.size w wr)) (fun _ _ i _ => 10 - (intOf i).toNat)
  case atStart => exact ⟨0, rows0 ts, [], fun b => b < w1.heap.size, a1, p1, by omega, rfl, rfl, hl0, Nat.zero_le _, HAL, HRO0, HS2, HO2, HT2, HB2⟩
  case round =>
    clear HS2 HO2 HT2 HB2 HS1 HB1 HAL HRO0 hl0
    obtain ⟨m, rows, ns, T, ar, pr, hm, rfl, rfl, hrl, hnl, HST, HRO, HS, HO, HT, HBR⟩ := hrel
    by_cases hlt : m < 10
    · have hdr : (List.range 10).drop m = m :: (List.range 10).drop (m + 1) := by
        rw [List.drop_eq_getElem_cons (by simpa using hlt)]; simp
      have HST2 : Hid ((stageF m rows).bind (stagesF ((List.range 10).drop (m + 1))) = KO) := by
        have h9 := HST.out
        rw [hdr] at h9
        exact h9
      have HCS := hid (c_l06Stage HS.out HRO.out hrl hlt hn)
      unfold stageRes at HCS
      have hwr := HBR.out.size
      have i1 : (m : Int) < 10 := by omega
      clear hdr HST
      cases hst : stageF m rows with
      | none =>
        have HALL : Hid (KO = none) := by unfold Hid; rw [← HST2.out, hst]; rfl
        rw [hst] at HCS
        clear hst
        go_wp2_with (go_at_call 32; refine HCS.out.mono ?_; rintro e w3 ⟨hb3, rfl⟩; have HB3 := hid (bel_next HBR.out hwr hb3); clear hb3)
        refine bodyPost_ret (v := .tuple #[.slice none 0 0, .slice none 0 0, .bool false]) (by simp [results, Try.results42, go_sem]) rfl ?_
        unfold everyRes
        rw [HALL.out]
        exact ⟨HB3.out, rfl⟩
      | some rs =>
        have HSX : Hid (stagesF ((List.range 10).drop (m + 1)) rs = KO) := by have h9 := HST2.out; rw [hst] at h9; exact h9
        obtain ⟨hro2, hrl2⟩ := stage_ok HRO.out hrl hst
        have hkl := stage_len hst
        have HRO2 := hid hro2
        rw [hst] at HCS
        obtain ⟨kp, hkp⟩ : ∃ x, (zeroRs m rows).length = x := ⟨_, rfl⟩
        rw [hkp] at HCS hkl
        clear hst hro2 HST2 hkp
        have hnl2 : ns.length ≤ 600 := by omega
        go_wp2_with (go_at_call 32; refine HCS.out.mono ?_; rintro e w3 ⟨hb3, a3, p3, ha3, rfl, hs3⟩; have HA3 := hid ha3; clear ha3; revert HA3)
        intro HA3
        have hp3 := hs3.1
        rw [List.length_map] at hp3
        have HB3 := hid (bel_next HBR.out hwr hb3)
        have HT3 : Hid ((∀ b, (T b ∨ wr.heap.size ≤ b ∧ b < w3.heap.size) → b < w3.heap.size) ∧ ∀ k, u6.ownBlock = some k → ¬ (T k ∨ wr.heap.size ≤ k ∧ k < w3.heap.size)) := ⟨fun b hb => hb.elim (fun h => Nat.lt_of_lt_of_le (HT.out.1 b h) hb3.size) fun h => h.2, fun k hk h => by
          have h1 := (own_lt HO.out k hk).2
          rcases h with h | h
          · exact HT.out.2 k hk h
          · omega⟩
        have HO3 : Hid (OwnSl cRow (fun b => T b ∨ wr.heap.size ≤ b ∧ b < w3.heap.size) w3 w.heap.size 64 u6 ns) := own_keep HO.out (fun b hb _ => .inl hb) fun b hl _ => hb3.block b hl
        have HS3 := hid hs3
        have hw3 := HB3.out.size
        have hdl : ((rs.map rowS).drop kp).length = rs.length - kp := by rw [List.length_drop, List.length_map]
        have HDL := hid hdl
        have hnl3 : (ns ++ (rs.map rowS).drop kp).length ≤ 60 * (m + 1) := by rw [List.length_append, hdl]; omega
        have hsum : ns.length + ((rs.map rowS).drop kp).length ≤ 1099511627776 := by rw [hdl]; omega
        rcases HA3.out with ⟨rfl, rfl⟩ | ⟨g3, rfl⟩
        · have hrs0 : rs.length = 0 := by omega
          obtain rfl := List.eq_nil_of_length_eq_zero hrs0
          obtain rfl : kp = 0 := by simpa using hkl
          have HSD : Hid (SlRd cRow (fun b => T b ∨ wr.heap.size ≤ b ∧ b < w3.heap.size) w3 none 0 (([] : List Row).map rowS |>.drop 0)) := nil_rd _ _ _
          clear hb3 hs3 hdl hrs0
          go_wp2_with (at_builtin; go_loud (refine app_allX rfl (.tmp 27) (.tmp 30) _ rfl slRowS rfl rfl HO3.out HSD.out HT3.out.1 HT3.out.2 hsum hw3 ?_); intro v4 w4 ho4 ht4 hk4 hb4; have HO4 := hid ho4; have HT4 := hid ht4; have HB4 := hid (HB3.out.trans hb4); have HK4 := hid hk4; clear ho4 ht4 hk4 hb4)
          go_roundw
          case rel => exact ⟨m + 1, [], _, _, none, 0, by omega, by go_num, rfl, hrl2, hnl3, HSX, HRO2, HS3.out.keep (fun b hb _ => ⟨hb, HK4.out.1 b hb⟩), HO4, ⟨fun b hb => Nat.lt_of_lt_of_le (HT3.out.1 b hb) HK4.out.2, HT4.out⟩, HB4⟩
          case measure => simp [intOf]; omega
        · have i3 : (kp : Int) ≤ (rs.length : Int) := by omega
          have i4 : (kp : Int) ≤ (p3 : Int) := by omega
          have i5 : (0 : Int) ≤ (kp : Int) := by omega
          have hpm := hs3.2.1
          by_cases hcap : kp < p3
          · have HSD : Hid (SlRd cRow (fun b => T b ∨ wr.heap.size ≤ b ∧ b < w3.heap.size) w3 (some ⟨g3, kp * 3, none⟩) (p3 - kp) ((rs.map rowS).drop kp)) := by
              have h9 := hs3.dropN kp (by rw [List.length_map]; exact hkl)
              rw [Nat.zero_add] at h9
              exact h9
            clear hb3 hs3 hdl
            go_wp2_with (at_builtin; go_loud (refine app_allX rfl (.tmp 27) (.tmp 30) _ rfl slRowS rfl (by rw [HDL.out]; rfl) HO3.out HSD.out HT3.out.1 HT3.out.2 hsum hw3 ?_); intro v4 w4 ho4 ht4 hk4 hb4; have HO4 := hid ho4; have HT4 := hid ht4; have HB4 := hid (HB3.out.trans hb4); have HK4 := hid hk4; clear ho4 ht4 hk4 hb4)
            go_roundw
            case rel => exact ⟨m + 1, rs, _, _, some ⟨g3, 0, none⟩, p3, by omega, by go_num, rfl, hrl2, hnl3, HSX, HRO2, HS3.out.keep (fun b hb _ => ⟨hb, HK4.out.1 b hb⟩), HO4, ⟨fun b hb => Nat.lt_of_lt_of_le (HT3.out.1 b hb) HK4.out.2, HT4.out⟩, HB4⟩
            case measure => simp [intOf]; omega
          · have hkp : kp = p3 := by omega
            have hrs : rs.length = kp := by omega
            have hd0 : (rs.map rowS).drop kp = [] := List.drop_of_length_le (by rw [List.length_map]; omega)
            have HSD : Hid (SlRd cRow (fun b => T b ∨ wr.heap.size ≤ b ∧ b < w3.heap.size) w3 (some ⟨g3, 0, none⟩) 0 ((rs.map rowS).drop kp)) := by
              unfold Hid; rw [hd0]; exact empty_rd _ _ _ _
            clear hb3 hs3 hdl
            have HD0 := hid hd0
            clear hd0
            go_wp2_with (at_builtin; go_loud (refine app_allX rfl (.tmp 27) (.tmp 30) _ rfl slRowS rfl (by rw [HD0.out]; rfl) HO3.out HSD.out HT3.out.1 HT3.out.2 hsum hw3 ?_); intro v4 w4 ho4 ht4 hk4 hb4; have HO4 := hid ho4; have HT4 := hid ht4; have HB4 := hid (HB3.out.trans hb4); have HK4 := hid hk4; clear ho4 ht4 hk4 hb4)
            go_roundw
            case rel => exact ⟨m + 1, rs, _, _, some ⟨g3, 0, none⟩, p3, by omega, by go_num, (by rw [show rs.length = p3 by omega]), hrl2, hnl3, HSX, HRO2, HS3.out.keep (fun b hb _ => ⟨hb, HK4.out.1 b hb⟩), HO4, ⟨fun b hb => Nat.lt_of_lt_of_le (HT3.out.1 b hb) HK4.out.2, HT4.out⟩, HB4⟩
            case measure => simp [intOf]; omega
    · have hm10 : m = 10 := by omega
      have h9 := HST.out
      rw [hm10, List.drop_of_length_le (by simp)] at h9
      have HSX : Hid (some rows = KO) := h9
      have i1 : ¬ ((m : Int) < 10) := by omega
      clear h9 HST hm10
      go_wp2
      refine bodyPost_ret (v := .tuple #[.slice ar rows.length pr, u6, .bool true]) (by simp [results, Try.results42, go_sem]) rfl ?_
      unfold everyRes
      rw [← HSX.out]
      exact ⟨HBR.out, ar, pr, u6, rfl, HS.out.keep fun b hb hl => ⟨hl, rfl⟩⟩
theorem factsF_no (ts : List Term) (h : (factsF ts).2 = false) : (factsF ts).1 = [] := by
  unfold factsF at h ⊢
  split
  · rfl
  · rename_i rows hr
    rw [hr] at h
    simp only at h
    unfold pickF at h ⊢
    split
    · rename_i r hf; rw [hf] at h; cases h
    · rfl
theorem refuteF_len (ts : List Term) : (refuteF ts).1.length ≤ 1048576 := by
  rw [refuteF_eq]
  cases hr : areTerms ts 14 with
  | false => exact Nat.zero_le _
  | true =>
    obtain ⟨hv, hn⟩ := areTerms_valid hr
    rw [if_pos rfl]
    unfold factsF
    split
    · exact Nat.zero_le _
    · rename_i rows ho
      obtain ⟨hro, _⟩ := allRows_ok hv (by omega) ho
      unfold pickF
      split
      · rename_i r hf
        have := (hro r (List.mem_of_find?_eq_some hf)).tlen
        show r.2.2.length ≤ _
        omega
      · exact Nat.zero_le _
set_option maxHeartbeats 2000000 in
set_option maxRecDepth 100000 in
theorem c_l06Refute {S : Nat → Prop} {a : Option Addr} {p : Nat} {ts : List Term} {w : World} (h : SlRd cTerm S w a p ts) (hv : ∀ t ∈ ts, validTerm t = true) (hn : ts.length ≤ 14) :
    Calls Try.prog 20 #[.slice a ts.length p] w fun e w' => ∃ a' p', e = .returned (.tuple #[.slice a' (factsF ts).1.length p', .bool (factsF ts).2]) ∧ SlRd cInt (fun _ => True) w' a' p' (factsF ts).1 ∧ Below w.heap.size w w' ∧ (factsF ts).1.length ≤ 14 := by
  have HCE := hid (c_l06Every h hv hn)
  cases ho : allRows (List.range 10) ts with
  | none =>
    have HF : Hid (factsF ts = ([], false)) := by unfold Hid factsF; rw [ho]
    rw [ho] at HCE
    clear ho h
    go_enter Try.func20, Try.ntmps20
    go_wp2_with (go_at_call 42; refine HCE.out.mono ?_; rintro e w3 ⟨hb3, rfl⟩; have HB3 := hid hb3; clear hb3)
    refine bodyPost_ret (v := .tuple #[.slice none 0 0, .bool false]) (by simp [results, Try.results20, go_sem]) rfl ?_
    rw [HF.out]
    exact ⟨none, 0, rfl, nil_rd _ _ _, HB3.out, Nat.zero_le _⟩
  | some rows =>
    have HF : Hid (factsF ts = pickF rows) := by unfold Hid factsF; rw [ho]
    obtain ⟨hro, hrl⟩ := allRows_ok hv hn ho
    have HRO := hid hro
    rw [ho] at HCE
    clear ho hro h
    go_enter Try.func20, Try.ntmps20
    go_wp2_with (go_at_call 42; refine HCE.out.mono ?_; rintro e w3 ⟨hb3, ar, pr, nv, rfl, hs3⟩; have HB3 := hid hb3; have HS3 := hid hs3; clear hb3 hs3)
    go_loop [7] (fun i => ∃ k : Nat, k ≤ rows.length ∧ i = .int .i64 k ∧ Hid (rows.find? negR = (rows.drop k).find? negR)) (fun i => rows.length - (intOf i).toNat)
    case atStart => exact ⟨0, Nat.zero_le _, rfl, rfl⟩
    case round =>
      obtain ⟨k, hk, rfl, HP⟩ := hrel
      by_cases hlt : k < rows.length
      · obtain ⟨b0, o0, rfl⟩ := HS3.out.some_of (k := k) (by simpa using hlt)
        obtain ⟨r, a1, p1, am, pm, hrk, hr1, HRS⟩ := HS3.out.rowS_at k hlt
        have c0 := HRS.c0
        have c2 := HRS.c2
        have HS2 := hid HRS.h2
        have hlen : r.2.2.length ≤ 14 := by have := (HRO.out r (List.mem_of_getElem? hrk)).tlen; omega
        have i0 : (0 : Int) ≤ (k : Int) := by omega
        have i1 : (k : Int) < (rows.length : Int) := by omega
        have HD : Hid (rows.find? negR = (r :: rows.drop (k + 1)).find? negR) := by
          have h9 := HP.out
          rw [List.drop_eq_getElem_cons hlt] at h9
          rw [List.getElem?_eq_getElem hlt] at hrk
          cases hrk
          exact h9
        clear hrk HRS HP
        by_cases hneg : r.1 < 0
        · have HG : Hid (factsF ts = (r.2.2, true)) := by
            unfold Hid
            rw [HF.out]; unfold pickF
            rw [HD.out, List.find?_cons_of_pos (by simp [negR, hneg])]
          clear HD
          go_wp2
          refine bodyPost_ret (v := .tuple #[.slice am r.2.2.length pm, .bool true]) (by simp [results, Try.results20, go_sem]) rfl ?_
          rw [HG.out]
          exact ⟨am, pm, rfl, HS2.out.keep fun _ _ _ => ⟨trivial, rfl⟩, HB3.out, hlen⟩
        · have HX : Hid (rows.find? negR = (rows.drop (k + 1)).find? negR) := by
            unfold Hid
            rw [HD.out, List.find?_cons_of_neg (by simp [negR, hneg])]
          clear HD
          go_wp2
          go_round
          case rel => exact ⟨k + 1, by omega, by go_num, HX⟩
          case measure => simp [intOf]; omega
      · have hkl : k = rows.length := by omega
        have HG : Hid (factsF ts = ([], false)) := by
          unfold Hid
          rw [HF.out]; unfold pickF
          rw [HP.out, hkl, List.drop_length]; rfl
        clear hkl HP
        go_wp2
        refine bodyPost_ret (v := .tuple #[.slice none 0 0, .bool false]) (by simp [results, Try.results20, go_sem]) rfl ?_
        rw [HG.out]
        exact ⟨none, 0, rfl, nil_rd _ _ _, HB3.out, Nat.zero_le _⟩
theorem c_sRefuteFacts {S : Nat → Prop} {a : Option Addr} {p : Nat} {ts : List Term} {w : World} (h : SlRd cTerm S w a p ts) :
    Calls Try.prog 6 #[.slice a ts.length p] w (RetSlB cInt (refuteF ts).1 (refuteF ts).2 w) := by
  have H := hid h
  clear h
  cases hr : areTerms ts 14 with
  | false =>
    have HF : Hid (refuteF ts = ([], false)) := by unfold Hid; rw [refuteF_eq, hr]; rfl
    have HR := hid hr
    clear hr
    go_enter Try.func6, Try.ntmps6
    go_wp2_with (go_at_call 19; refine (c_l02All _ _ _ _ _ H.out).mono ?_; rintro e w1 ⟨rfl, rfl⟩; rw [HR.out])
    refine bodyPost_ret (v := .tuple #[.slice none 0 0, .bool false]) (by simp [results, Try.results6, go_sem]) rfl ?_
    rw [HF.out]
    exact ⟨none, 0, rfl, nil_rd _ _ _, Below.refl _ _⟩
  | true =>
    have HR := hid hr
    obtain ⟨hv, hn⟩ := areTerms_valid hr
    have hn14 : ts.length ≤ 14 := by omega
    have hf : refuteF ts = factsF ts := by rw [refuteF_eq, hr]; rfl
    have HCE := hid (c_l06Refute H.out hv hn14)
    rw [hf]
    cases hfb : factsF ts with
    | mk zs b =>
      have hnil : b = false → zs = [] := fun hb => by have := factsF_no ts (by rw [hfb]; exact hb); rw [hfb] at this; exact this
      rw [hfb] at HCE
      clear hr hf hv hn hfb
      cases b with
      | false =>
        obtain rfl := hnil rfl
        go_enter Try.func6, Try.ntmps6
        go_wp2_with (first | (go_at_call 19; refine (c_l02All _ _ _ _ _ H.out).mono ?_; rintro e w1 ⟨rfl, rfl⟩; rw [HR.out]) | (go_at_call 20; refine HCE.out.mono ?_; rintro e w2 ⟨a2, p2, rfl, hs2, hb2, hl2⟩; have HB2 := hid hb2; clear hs2 hb2))
        refine bodyPost_ret (v := .tuple #[.slice none 0 0, .bool false]) (by simp [results, Try.results6, go_sem]) rfl ?_
        exact ⟨none, 0, rfl, nil_rd _ _ _, HB2.out⟩
      | true =>
        go_enter Try.func6, Try.ntmps6
        go_wp2_with (first | (go_at_call 19; refine (c_l02All _ _ _ _ _ H.out).mono ?_; rintro e w1 ⟨rfl, rfl⟩; rw [HR.out]) | (go_at_call 20; refine HCE.out.mono ?_; rintro e w2 ⟨a2, p2, rfl, hs2, hb2, hl2⟩; have HB2 := hid hb2; have HOW := hid (c_l00Own hs2 (Nat.le_trans hl2 (by decide))); clear hs2 hb2) | (go_at_call 21; refine HOW.out.mono ?_; rintro e w3 ⟨a3, p3, rfl, hs3, hb3⟩; have HS3 := hid (hs3.lower HB2.out.size); have HB3 := hid (bel_next HB2.out HB2.out.size hb3); clear hs3 hb3))
        refine bodyPost_ret (v := .tuple #[.slice a3 zs.length p3, .bool true]) (by simp [results, Try.results6, go_sem]) rfl ?_
        exact ⟨a3, p3, rfl, HS3.out, HB3.out⟩
end Go.Proofs.Ytkckhnpdodbffaa
