/- Contracts of the laws' helpers that write marks into programs. -/
import Derived.Test.YtedmhdinfedhhaaLawAid
import Derived.Test.YtedmhdinfedhhaaMarkI
import Derived.Test.YtedmhdinfedhhaaHProg
namespace Go.Proofs.Ytedmhdinfedhhaa
open Go.RowKit

theorem szTs_nf {xs ys : List Term} (h : xs.map nTerm.nf = ys.map nTerm.nf) : szTs xs = szTs ys := by
  have hl := map_len h
  have e : ∀ zs : List Term, zs.map szT = (zs.map nTerm.nf).map (fun p => p.2.length) := by
    intro zs; rw [List.map_map]; congr 1; funext x; simp [nTerm, nPair, nInts, nSl, szT]
  unfold szTs; rw [hl, e, e, h]
theorem szStmt_nf {x y : Stmt} (h : nStmt.nf x = nStmt.nf y) : szStmt x = szStmt y := by
  have h1 := congrArg (fun p => p.2.2.2) h
  have h3 := congrArg (fun p => p.1.2.length) h1
  have h4 := congrArg (fun p => p.2.1.2.length) h1
  have h5 := congrArg (fun p => p.2.2) h1
  have h6 := szTs_nf h5
  simp [nStmt, nTerm, nPair, nInts, nSl, nInt] at h3 h4
  unfold szStmt; omega
theorem szSts_nf {xs ys : List Stmt} (h : xs.map nStmt.nf = ys.map nStmt.nf) : szStmts xs = szStmts ys := by
  have hl := map_len h
  have e : xs.map szStmt = ys.map szStmt := by
    apply List.ext_getElem?
    intro i
    rw [List.getElem?_map, List.getElem?_map]
    cases hx : xs[i]? with
    | none =>
      have : ys[i]? = none := by rw [List.getElem?_eq_none_iff] at hx ⊢; omega
      rw [this]
    | some x =>
      have hi := (List.getElem?_eq_some_iff.1 hx).1
      have hy : ys[i]? = some (ys[i]'(by omega)) := List.getElem?_eq_getElem (by omega)
      rw [hy]
      simp only [Option.map_some, Option.some.injEq]
      exact szStmt_nf (map_at h hx hy)
  unfold szStmts; rw [hl, e]
theorem sumSt_take {ts : List Stmt} {k : Nat} {t : Stmt} (h : ts[k]? = some t) : ((ts.take (k + 1)).map szStmt).sum = ((ts.take k).map szStmt).sum + szStmt t := by
  rw [List.take_add_one, h]; simp
theorem sumSt_take_le (ts : List Stmt) (k : Nat) : ((ts.take k).map szStmt).sum ≤ (ts.map szStmt).sum := by
  have : (ts.map szStmt).sum = ((ts.take k).map szStmt).sum + ((ts.drop k).map szStmt).sum := by rw [← List.sum_append, ← List.map_append, List.take_append_drop]
  omega
theorem Turned.slc {S : Nat → Prop} {w w' : World} {b o n c : Nat} {a : Option Addr} (h : Turned S w w') (hc : w.cell? ⟨b, o, none⟩ = some (.slice a n c)) : w'.cell? ⟨b, o, none⟩ = some (.slice a n c) := by
  obtain ⟨v, h1, h2⟩ := h.cell b o _ hc
  rcases h2 with h3 | ⟨_, _, h3, _⟩ | ⟨_, _, h3, _⟩
  · rw [h1, ← h3]
  · cases h3
  · cases h3
theorem Turned.num {S : Nat → Prop} {w w' : World} {b o : Nat} {z : Int} (h : Turned S w w') (hc : w.cell? ⟨b, o, none⟩ = some (.int .i64 z)) : ∃ z', w'.cell? ⟨b, o, none⟩ = some (.int .i64 z') := by
  obtain ⟨v, h1, h2⟩ := h.cell b o _ hc
  rcases h2 with h3 | ⟨_, z', _, h3, _⟩ | ⟨_, _, h3, _⟩
  · exact ⟨z, by rw [h1, ← h3]⟩
  · exact ⟨z', by rw [h1, h3]⟩
  · cases h3
set_option maxHeartbeats 1000000 in
set_option maxRecDepth 100000 in
theorem c_markStmtS {S : Nat → Prop} (a : Option Addr) (cap : Nat) (ts : List Stmt) (m : Int) (w : World) (h : SlRd cStmt S w a cap ts) (hS : ∀ b, S b → Thawed w b) (hm : 0 ≤ m) (hm2 : m + (5 * szStmts ts : Nat) ≤ 4611686018427387904) :
    Calls Try.prog 108 #[.slice a ts.length cap, .int .i64 m] w fun e w' => e = .returned (.int .i64 (m + ((4 * ts.length + szStmts ts : Nat) : Int))) ∧ Turned S w w' := by
  have H := hid h
  have hl := h.len_le
  have HS := hid hS
  obtain ⟨N, hN⟩ : ∃ N, 4 * ts.length + szStmts ts = N := ⟨_, rfl⟩
  have hmN : m + N ≤ 4611686018427387904 := by unfold szStmts at hm2 hN; omega
  rw [hN]
  have HN := hid hN
  clear h hS hN hm2
  go_enter Try.func108, Try.ntmps108
  go_wp2
  go_loopw [1, 5] (fun mm i wr => ∃ k q : Nat, k ≤ ts.length ∧ i = .int .i64 k ∧ mm = .int .i64 (m + q) ∧ q ≤ N ∧ Hid (q = 5 * k + ((ts.take k).map szStmt).sum) ∧ ∃ ys : List Stmt, Hid (ys.map nStmt.nf = ts.map nStmt.nf) ∧ Hid (SlRd cStmt S wr a cap ys) ∧ Hid (Turned S w wr)) (fun _ i _ => ts.length - (intOf i).toNat)
  case atStart => exact ⟨0, 0, Nat.zero_le _, rfl, by simp, Nat.zero_le _, by unfold Hid; simp, ts, rfl, H, Turned.refl _ _⟩
  case round =>
    obtain ⟨k, q, hk, rfl, rfl, hqN, HQ, ys, HL, HR, HT⟩ := hrel
    by_cases hlt : k < ts.length
    · have hlt' : k < ys.length := by have := map_len HL.out; omega
      obtain ⟨b, off, rfl⟩ := HR.out.some_of hlt'
      obtain ⟨s0, s1, s2, s3, b4, q4, s4, s5, b6, q6, s6, b7, q7, s7, hz, j0, j1, j2, j3, j5, hs4, hs6, hs7, hc0, hc1, hc2, hc3, hc4, hc5, hc6, hc7, hb⟩ := HR.out.stmt_at k hlt'
      obtain ⟨⟨h5, h6, h7⟩, _⟩ := HR.out.2.2.2 _ rfl k ys[k] (by simp [hlt'])
      have hf0 := (HT.out.thaw _ (HS.out _ h6)).frozen (off + k * 8)
      have hf1 := (HT.out.thaw _ (HS.out _ h6)).frozen (off + k * 8 + 1)
      have hf2 := (HT.out.thaw _ (HS.out _ h6)).frozen (off + k * 8 + 2)
      have hf3 := (HT.out.thaw _ (HS.out _ h6)).frozen (off + k * 8 + 3)
      have HZ : Hid (((ts.take (k + 1)).map szStmt).sum = ((ts.take k).map szStmt).sum + (s4.length + s6.length + szTs s7)) := by
        have h1 : ts[k]? = some ts[k] := by simp [hlt]
        have h2 := szStmt_nf (map_at HL.out hz h1)
        unfold Hid
        rw [sumSt_take h1, ← h2]
        unfold szStmt; simp only
      have hle : (q : Int) + 5 + s4.length + s6.length + szTs s7 ≤ N := by
        have h1 := HQ.out
        have h2 := HZ.out
        have h3 := sumSt_take_le ts (k + 1)
        have h4 := HN.out
        unfold szStmts at h4
        omega
      clear hz
      have ht1 : Turned S wr (wr.setCell ⟨b, off + k * 8, none⟩ (.int .i64 (m + q))) := Turned.set h6 hc0 ⟨by omega, by omega⟩
      obtain ⟨z1, hz1⟩ := ht1.num hc1
      have ht2 := ht1.trans (Turned.set (n' := m + q + 1) h6 hz1 ⟨by omega, by omega⟩)
      obtain ⟨z2, hz2⟩ := ht2.num hc2
      have ht3 := ht2.trans (Turned.set (n' := m + q + 1 + 1) h6 hz2 ⟨by omega, by omega⟩)
      obtain ⟨z3, hz3⟩ := ht3.num hc3
      have ht4 := ht3.trans (Turned.set (n' := m + q + 1 + 1 + 1) h6 hz3 ⟨by omega, by omega⟩)
      obtain ⟨e4, g4, k4⟩ := hs4.turned nInt ht4
      have hl4 := map_len k4
      have HT4 := hid (HT.out.trans ht4)
      have hd4 := ht4.slc hc4
      rw [← hl4] at hd4
      have HS4 := hid fun b hb => HT4.out.thaw b (HS.out b hb)
      have HSL4 := hid (u_markInt64S (m := m + q + 1 + 1 + 1 + 1) g4 HS4.out (by omega) (by rw [hl4]; omega))
      have HW4 := hid ht4
      rw [hl4] at HSL4 hd4
      have H6 := hid h6
      have H7 := hid (And.intro hc5 (And.intro hc6 hc7))
      have H8 := hid (And.intro hs6 hs7)
      clear hs4 hs6 hs7 ht1 ht2 ht3 ht4 g4 k4 hl4 h6 h5 hz1 hz2 hz3
      go_wp2_with fail
      refine HSL4.out.mono ?_
      rintro e w5 ⟨rfl, ht5⟩
      obtain ⟨hc5, hc6, hc7⟩ := H7.out
      obtain ⟨hs6, hs7⟩ := H8.out
      have ht5 := HW4.out.trans ht5
      obtain ⟨z5, hz5⟩ := ht5.num hc5
      have hd6 := ht5.slc hc6
      have hf5 := ((HT.out.trans ht5).thaw _ (HS.out _ H6.out)).frozen (off + k * 8 + 5)
      have ht6 := ht5.trans (Turned.set (n' := m + q + 1 + 1 + 1 + 1 + s4.length) H6.out hz5 ⟨by omega, by omega⟩)
      obtain ⟨e6, g6, k6⟩ := hs6.turned nInt ht6
      have hl6 := map_len k6
      have HT6 := hid (HT.out.trans ht6)
      have hd66 := ht6.slc hc6
      rw [← hl6] at hd66
      have HS6 := hid fun b hb => HT6.out.thaw b (HS.out b hb)
      have HSL6 := hid (u_markInt64S (m := m + q + 1 + 1 + 1 + 1 + s4.length + 1) g6 HS6.out (by omega) (by rw [hl6]; omega))
      rw [hl6] at HSL6 hd66
      have HW6 := hid ht6
      have H77 := hid hc7
      have H78 := hid hs7
      clear hc0 hc1 hc2 hc3 hc4 hc5 hc6 hc7 hs6 hs7 ht5 ht6 g6 k6 hl6 hf0 hf1 hf2 hf3 hd4 HT4 HS4 HSL4 HW4 H7 H8
      go_wp2_with fail
      refine HSL6.out.mono ?_
      rintro e w7 ⟨rfl, ht7⟩
      have ht7 := HW6.out.trans ht7
      have hd7 := ht7.slc H77.out
      obtain ⟨e7, g7, k7⟩ := H78.out.turned nTerm ht7
      have hl7 := map_len k7
      have hsz7 := szTs_nf k7
      have HT7 := hid (HT.out.trans ht7)
      rw [← hl7] at hd7
      have HS7 := hid fun b hb => HT7.out.thaw b (HS.out b hb)
      have HSL7 := hid (c_markTermS _ _ _ (m + q + 1 + 1 + 1 + 1 + s4.length + 1 + s6.length) _ g7 HS7.out (by omega) (by rw [hsz7]; omega))
      rw [hsz7] at HSL7
      have HW7 := hid ht7
      clear ht7 g7 k7 hl7 hsz7 hd6 hd66 hf5 hz5 HT6 HS6 HSL6 HW6 H77 H78
      obtain ⟨q9, hq9⟩ : ∃ q9, szTs s7 = q9 := ⟨_, rfl⟩
      rw [hq9] at HSL7 HZ hle
      clear hq9
      go_wp2_with fail
      refine HSL7.out.mono ?_
      rintro e w8 ⟨rfl, ht8⟩
      obtain ⟨ys', hr', hy'⟩ := HR.out.turned nStmt (HW7.out.trans ht8)
      have HT2 := hid (HT7.out.trans ht8)
      go_wp2
      go_roundw
      case rel => exact ⟨k + 1, q + 5 + s4.length + s6.length + q9, by omega, by go_num, by go_num, by omega, by (have h1 := HQ.out; have h2 := HZ.out; unfold Hid; omega), ys', hy'.trans HL.out, hr', HT2⟩
      case measure => simp [intOf]; omega
    · go_wp2
      go_ret
      have hq : q = N := by
        have h1 := HQ.out
        rw [List.take_of_length_le (by omega)] at h1
        have h4 := HN.out
        unfold szStmts at h4
        omega
      exact ⟨by rw [hq]; rfl, HT.out⟩
set_option maxRecDepth 100000 in
theorem u_markProgram {S : Nat → Prop} {a0 : Option Addr} {p0 : Nat} {d0 : List Term} {a1 : Option Addr} {p1 : Nat} {d1 : List Stmt} {a2 : Option Addr} {p2 : Nat} {d2 : List Term} {m : Int} {w : World} (h0 : SlRd cTerm S w a0 p0 d0) (h1 : SlRd cStmt S w a1 p1 d1) (h2 : SlRd cTerm S w a2 p2 d2) (hS : ∀ b, S b → Thawed w b) (hm : 0 ≤ m) (hm2 : m + ((szTs d0 + 5 * szStmts d1 + szTs d2 : Nat) : Int) ≤ 4611686018427387904) :
    Calls Try.prog 45 #[.agg #[.slice a0 d0.length p0, .slice a1 d1.length p1, .slice a2 d2.length p2], .int .i64 m] w fun e w' => e = .returned (.int .i64 (m + ((szTs d0 + (4 * d1.length + szStmts d1) + szTs d2 : Nat) : Int))) ∧ Turned S w w' := by
  have HS := hid hS
  have hbx : ∀ b, S b → b ≠ w.heap.size := fun b hb e => by
    obtain ⟨cs, t, h⟩ := hS b hb
    have := (Array.getElem?_eq_some_iff.1 h).1
    omega
  have HBX := hid hbx
  obtain ⟨W, hW⟩ : ∃ W, w.alloc (.cells #[.slice a0 d0.length p0, .slice a1 d1.length p1, .slice a2 d2.length p2] 75) = W := ⟨_, rfl⟩
  have HT0 : Hid (Turned S w W) := by rw [← hW]; exact (Turned.refl _ _).alloc _
  have H0 : Hid (SlRd cTerm S W a0 p0 d0) := by rw [← hW]; exact h0.alloc _
  have H1 : Hid (SlRd cStmt S W a1 p1 d1) := by rw [← hW]; exact h1.alloc _
  have H2 : Hid (SlRd cTerm S W a2 p2 d2) := by rw [← hW]; exact h2.alloc _
  have t0 : W.cell? ⟨w.heap.size, 0, none⟩ = some (.slice a0 d0.length p0) := by rw [← hW]; simp [go_sem]
  have t1 : W.cell? ⟨w.heap.size, 1, none⟩ = some (.slice a1 d1.length p1) := by rw [← hW]; simp [go_sem]
  have t2 : W.cell? ⟨w.heap.size, 2, none⟩ = some (.slice a2 d2.length p2) := by rw [← hW]; simp [go_sem]
  have z0 : w.heap.size < W.heap.size := by rw [← hW]; simp
  have hnS : ¬ S w.heap.size := fun hs => HBX.out _ hs rfl
  have HNS := hid hnS
  have HS0 := hid fun b hb => HT0.out.thaw b (HS.out b hb)
  have HW := hid hW
  obtain ⟨n0, hn0⟩ : ∃ n, szTs d0 = n := ⟨_, rfl⟩
  obtain ⟨n1, hn1⟩ : ∃ n, 4 * d1.length + szStmts d1 = n := ⟨_, rfl⟩
  obtain ⟨n1b, hn1b⟩ : ∃ n, szStmts d1 = n := ⟨_, rfl⟩
  obtain ⟨n2, hn2⟩ : ∃ n, szTs d2 = n := ⟨_, rfl⟩
  have hn1c : n1 ≤ 5 * n1b := by unfold szStmts at hn1 hn1b; omega
  rw [hn1, hn0, hn2]
  rw [hn0, hn1b, hn2] at hm2
  have C0 := hid (c_markTermS _ _ _ m _ H0.out HS0.out hm (by omega))
  rw [hn0] at C0
  have HN1 := hid hn1
  have HN1b := hid hn1b
  have HN2 := hid hn2
  clear h0 h1 h2 hS hbx hnS hn0 hn1 hn1b hn2
  go_enter Try.func45, Try.ntmps45
  go_wp2_with fail
  clear hW HW
  refine C0.out.mono ?_
  rintro e w1 ⟨rfl, ht1⟩
  have HT1 := hid (HT0.out.trans ht1)
  have HS1 := hid fun b hb => HT1.out.thaw b (HS.out b hb)
  have t11 := cell_sep ht1 z0 HNS.out t1
  have t12 := cell_sep ht1 z0 HNS.out t2
  have z1 := Nat.lt_of_lt_of_le z0 ht1.size
  obtain ⟨e1, g1, k1⟩ := H1.out.turned nStmt ht1
  obtain ⟨e2, g2, k2⟩ := H2.out.turned nTerm ht1
  have l1 := map_len k1
  have l2 := map_len k2
  rw [← l1] at t11
  have hs1 := (szSts_nf k1).trans HN1b.out
  have hs2 := (szTs_nf k2).trans HN2.out
  have C1 := hid (c_markStmtS _ _ _ (m + n0) _ g1 HS1.out (by omega) (by rw [hs1]; omega))
  have hs1' : 4 * e1.length + szStmts e1 = n1 := by rw [hs1, l1, ← HN1b.out]; exact HN1.out
  rw [hs1'] at C1
  have G2 := hid g2
  have L2 := hid l2
  have HS2' := hid hs2
  clear ht1 g1 k1 g2 k2 H0 H1 H2 t0 t1 t2 C0 l1 l2 hs1 hs2 hs1'
  go_wp2_with fail
  refine C1.out.mono ?_
  rintro e w2 ⟨rfl, ht2⟩
  have HT2 := hid (HT1.out.trans ht2)
  have HS2 := hid fun b hb => HT2.out.thaw b (HS.out b hb)
  have t22 := cell_sep ht2 z1 HNS.out t12
  obtain ⟨f2, g2, k2⟩ := G2.out.turned nTerm ht2
  have l2 := (map_len k2).trans L2.out
  have hs2 := (szTs_nf k2).trans HS2'.out
  rw [← l2] at t22
  have C2 := hid (c_markTermS _ _ _ (m + n0 + n1) _ g2 HS2.out (by omega) (by rw [hs2]; omega))
  rw [hs2] at C2
  clear ht2 g2 k2 G2 t11 t12 C1 l2 hs2
  go_wp2_with fail
  refine C2.out.mono ?_
  rintro e w3 ⟨rfl, ht3⟩
  have HT3 := hid (HT2.out.trans ht3)
  go_wp2
  go_ret
  exact ⟨by simp [Int.add_assoc], HT3.out⟩
end Go.Proofs.Ytedmhdinfedhhaa
