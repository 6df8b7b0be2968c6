/- Contracts of the laws' helpers that write marks into annotated code. -/
import Derived.Test.YtedmhdinfedhhaaLawAid
import Derived.Test.YtedmhdinfedhhaaMarkI
import Derived.Test.YtedmhdinfedhhaaHAnn
namespace Go.Proofs.Ytedmhdinfedhhaa
open Go.RowKit

theorem szTs_nf {xs ys : List Term} (h : xs.map nTerm.nf = ys.map nTerm.nf) : szTs xs = szTs ys := by
  have hl := map_len h
  have e : ∀ zs : List Term, zs.map szT = (zs.map nTerm.nf).map (fun p => p.2.length) := by
    intro zs; rw [List.map_map]; congr 1; funext x; simp [nTerm, nPair, nInts, nSl, szT]
  unfold szTs; rw [hl, e, e, h]
theorem szPts_nf {xs ys : List Pt} (h : xs.map nPoint.nf = ys.map nPoint.nf) : szPts xs = szPts ys := by
  have hl := map_len h
  have e : xs.map szPt = ys.map szPt := by
    apply List.ext_getElem?
    intro i
    rw [List.getElem?_map, List.getElem?_map]
    cases hx : xs[i]? with
    | none =>
      have : ys[i]? = none := by rw [List.getElem?_eq_none_iff] at hx ⊢; omega
      rw [this]
    | some x =>
      have hi := (List.getElem?_eq_some_iff.1 hx).1
      have hy : ys[i]? = some (ys[i]'(by omega)) := List.getElem?_eq_getElem (by omega)
      rw [hy]
      have h1 := map_at h hx hy
      have h2 := congrArg Prod.snd h1
      simp only [Option.map_some, Option.some.injEq]
      unfold szPt
      exact szTs_nf h2
  unfold szPts; rw [hl, e]
theorem sumPt_take {ts : List Pt} {k : Nat} {t : Pt} (h : ts[k]? = some t) : ((ts.take (k + 1)).map szPt).sum = ((ts.take k).map szPt).sum + szPt t := by
  rw [List.take_add_one, h]; simp
theorem sumPt_take_le (ts : List Pt) (k : Nat) : ((ts.take k).map szPt).sum ≤ (ts.map szPt).sum := by
  have : (ts.map szPt).sum = ((ts.take k).map szPt).sum + ((ts.drop k).map szPt).sum := by rw [← List.sum_append, ← List.map_append, List.take_append_drop]
  omega
set_option maxRecDepth 100000 in
theorem c_markPointS {S : Nat → Prop} (a : Option Addr) (cap : Nat) (ts : List Pt) (m : Int) (w : World) (h : SlRd cPoint S w a cap ts) (hS : ∀ b, S b → Thawed w b) (hm : 0 ≤ m) (hm2 : m + szPts ts ≤ 4611686018427387904) :
    Calls Try.prog 57 #[.slice a ts.length cap, .int .i64 m] w fun e w' => e = .returned (.int .i64 (m + szPts ts)) ∧ Turned S w w' := by
  have H := hid h
  have hl := h.len_le
  have HS := hid hS
  obtain ⟨N, hN⟩ : ∃ N, szPts ts = N := ⟨_, rfl⟩
  rw [hN] at hm2 ⊢
  have HN := hid hN
  clear h hS hN
  go_enter Try.func57, Try.ntmps57
  go_wp2
  go_loopw [1, 5] (fun mm i wr => ∃ k q : Nat, k ≤ ts.length ∧ i = .int .i64 k ∧ mm = .int .i64 (m + q) ∧ q ≤ N ∧ Hid (q = k + ((ts.take k).map szPt).sum) ∧ ∃ ys : List Pt, Hid (ys.map nPoint.nf = ts.map nPoint.nf) ∧ Hid (SlRd cPoint S wr a cap ys) ∧ Hid (Turned S w wr)) (fun _ i _ => ts.length - (intOf i).toNat)
  case atStart => exact ⟨0, 0, Nat.zero_le _, rfl, by simp, Nat.zero_le _, by unfold Hid; simp, ts, rfl, H, Turned.refl _ _⟩
  case round =>
    obtain ⟨k, q, hk, rfl, rfl, hqN, HQ, ys, HL, HR, HT⟩ := hrel
    by_cases hlt : k < ts.length
    · have hlt' : k < ys.length := by have := map_len HL.out; omega
      obtain ⟨b, off, rfl⟩ := HR.out.some_of hlt'
      obtain ⟨c, a', cap', zs, hz, hc1, hsl, hc, hc', hb⟩ := HR.out.pt_at k hlt'
      obtain ⟨⟨h5, h6, h7⟩, _⟩ := HR.out.2.2.2 _ rfl k ys[k] (by simp [hlt'])
      have hfz := (HT.out.thaw _ (HS.out _ h6)).frozen (off + k * 2)
      have ht1 : Turned S wr (wr.setCell ⟨b, off + k * 2, none⟩ (.int .i64 (m + q))) := Turned.set h6 hc (n' := m + q) ⟨by omega, by omega⟩
      obtain ⟨zs', hsl', hzz⟩ := hsl.turned nTerm ht1
      have hzl := map_len hzz
      have hzs := szTs_nf hzz
      have HZ : Hid (((ts.take (k + 1)).map szPt).sum = ((ts.take k).map szPt).sum + szTs zs') := by
        have h1 : ts[k]? = some ts[k] := by simp [hlt]
        have h2 := map_at HL.out hz h1
        unfold Hid
        rw [sumPt_take h1]
        have h3 := szTs_nf (congrArg Prod.snd h2)
        unfold szPt; simp only at h3; omega
      obtain ⟨q', hq'⟩ : ∃ q', szTs zs' = q' := ⟨_, rfl⟩
      rw [hq'] at HZ
      have HQ' := hid hq'
      have hle : (q : Int) + 1 + q' ≤ N := by
        have h1 := HQ.out
        have h2 := HZ.out
        have h3 := sumPt_take_le ts (k + 1)
        have h4 := HN.out
        unfold szPts at h4
        omega
      have hc1' : (wr.setCell ⟨b, off + k * 2, none⟩ (.int .i64 (m + q))).cell? ⟨b, off + k * 2 + 1, none⟩ = some (.slice a' zs'.length cap') := by simp [go_sem, hc', hzl]
      have HT1 := hid (HT.out.trans ht1)
      have HS1 := hid fun b hb => HT1.out.thaw b (HS.out b hb)
      have HSL := hid (c_markTermS _ _ _ (m + q + 1) _ hsl' HS1.out (by omega) (by rw [hq']; omega))
      rw [hq'] at HSL
      have HW1 := hid ht1
      clear hz hsl hsl' hzz ht1 hzl hc' hzs hq'
      go_wp2_with (go_at_call 34; refine HSL.out.mono ?_; rintro e w1 ⟨rfl, ht2⟩)
      obtain ⟨ys', hr', hy'⟩ := HR.out.turned nPoint (HW1.out.trans ht2)
      have HT2 := hid (HT1.out.trans ht2)
      go_roundw
      case rel => exact ⟨k + 1, q + 1 + q', by omega, by go_num, by go_num, by omega, by (have h1 := HQ.out; have h2 := HZ.out; unfold Hid; omega), ys', hy'.trans HL.out, hr', HT2⟩
      case measure => simp [intOf]; omega
    · go_wp2
      go_ret
      have hq : q = N := by
        have h1 := HQ.out
        rw [List.take_of_length_le (by omega)] at h1
        have h4 := HN.out
        unfold szPts at h4
        omega
      exact ⟨by rw [hq]; rfl, HT.out⟩
set_option maxRecDepth 100000 in
theorem u_markAnnotated {S : Nat → Prop} {a0 : Option Addr} {p0 : Nat} {d0 : List Term} {a1 : Option Addr} {p1 : Nat} {d1 : List Term} {a2 : Option Addr} {p2 : Nat} {d2 : List Instr} {a3 : Option Addr} {p3 : Nat} {d3 : List Pt} {m : Int} {w : World} (h0 : SlRd cTerm S w a0 p0 d0) (h1 : SlRd cTerm S w a1 p1 d1) (h2 : SlRd cInstr S w a2 p2 d2) (h3 : SlRd cPoint S w a3 p3 d3) (hS : ∀ b, S b → Thawed w b) (hm : 0 ≤ m) (hm2 : m + ((szTs d0 + szTs d1 + 2 * d2.length + szPts d3 : Nat) : Int) ≤ 4611686018427387904) :
    Calls Try.prog 16 #[.agg #[.slice a0 d0.length p0, .slice a1 d1.length p1, .slice a2 d2.length p2, .slice a3 d3.length p3], .int .i64 m] w fun e w' => e = .returned (.int .i64 (m + ((szTs d0 + szTs d1 + 2 * d2.length + szPts d3 : Nat) : Int))) ∧ Turned S w w' := by
  have HS := hid hS
  have hbx : ∀ b, S b → b ≠ w.heap.size := fun b hb e => by
    obtain ⟨cs, t, h⟩ := hS b hb
    have := (Array.getElem?_eq_some_iff.1 h).1
    omega
  have HBX := hid hbx
  obtain ⟨W, hW⟩ : ∃ W, w.alloc (.cells #[.slice a0 d0.length p0, .slice a1 d1.length p1, .slice a2 d2.length p2, .slice a3 d3.length p3] 35) = W := ⟨_, rfl⟩
  have HT0 : Hid (Turned S w W) := by rw [← hW]; exact (Turned.refl _ _).alloc _
  have H0 : Hid (SlRd cTerm S W a0 p0 d0) := by rw [← hW]; exact h0.alloc _
  have H1 : Hid (SlRd cTerm S W a1 p1 d1) := by rw [← hW]; exact h1.alloc _
  have H2 : Hid (SlRd cInstr S W a2 p2 d2) := by rw [← hW]; exact h2.alloc _
  have H3 : Hid (SlRd cPoint S W a3 p3 d3) := by rw [← hW]; exact h3.alloc _
  have t0 : W.cell? ⟨w.heap.size, 0, none⟩ = some (.slice a0 d0.length p0) := by rw [← hW]; simp [go_sem]
  have t1 : W.cell? ⟨w.heap.size, 1, none⟩ = some (.slice a1 d1.length p1) := by rw [← hW]; simp [go_sem]
  have t2 : W.cell? ⟨w.heap.size, 2, none⟩ = some (.slice a2 d2.length p2) := by rw [← hW]; simp [go_sem]
  have t3 : W.cell? ⟨w.heap.size, 3, none⟩ = some (.slice a3 d3.length p3) := by rw [← hW]; simp [go_sem]
  have z0 : w.heap.size < W.heap.size := by rw [← hW]; simp
  have hnS : ¬ S w.heap.size := fun hs => HBX.out _ hs rfl
  have HNS := hid hnS
  have HS0 := hid fun b hb => HT0.out.thaw b (HS.out b hb)
  have HW := hid hW
  obtain ⟨n0, hn0⟩ : ∃ n, szTs d0 = n := ⟨_, rfl⟩
  obtain ⟨n1, hn1⟩ : ∃ n, szTs d1 = n := ⟨_, rfl⟩
  obtain ⟨n3, hn3⟩ : ∃ n, szPts d3 = n := ⟨_, rfl⟩
  rw [hn0, hn1, hn3] at hm2
  have C0 := hid (c_markTermS _ _ _ m _ H0.out HS0.out hm (by omega))
  rw [hn0] at C0
  have HN0 := hid hn0
  have HN1 := hid hn1
  have HN3 := hid hn3
  clear h0 h1 h2 h3 hS hbx hnS hn0 hn1 hn3
  go_enter Try.func16, Try.ntmps16
  go_wp2_with fail
  clear hW HW
  refine C0.out.mono ?_
  rintro e w1 ⟨rfl, ht1⟩
  have HT1 := hid (HT0.out.trans ht1)
  have HS1 := hid fun b hb => HT1.out.thaw b (HS.out b hb)
  have t11 := cell_sep ht1 z0 HNS.out t1
  have t12 := cell_sep ht1 z0 HNS.out t2
  have t13 := cell_sep ht1 z0 HNS.out t3
  have z1 := Nat.lt_of_lt_of_le z0 ht1.size
  obtain ⟨e1, g1, k1⟩ := H1.out.turned nTerm ht1
  obtain ⟨e2, g2, k2⟩ := H2.out.turned nInstr ht1
  obtain ⟨e3, g3, k3⟩ := H3.out.turned nPoint ht1
  have l1 := map_len k1
  have l2 := map_len k2
  have l3 := map_len k3
  rw [← l1] at t11
  have hs1 := (szTs_nf k1).trans HN1.out
  have hs3 := (szPts_nf k3).trans HN3.out
  have C1 := hid (c_markTermS _ _ _ (m + n0) _ g1 HS1.out (by omega) (by rw [hs1]; omega))
  rw [hs1] at C1
  have G2 := hid g2
  have G3 := hid g3
  have L2 := hid l2
  have L3 := hid l3
  have HS3 := hid hs3
  clear ht1 g1 k1 g2 k2 g3 k3 H0 H1 H2 H3 t0 t1 t2 t3 C0 l1 l2 l3 hs1 hs3
  go_wp2_with fail
  refine C1.out.mono ?_
  rintro e w2 ⟨rfl, ht2⟩
  have HT2 := hid (HT1.out.trans ht2)
  have HS2 := hid fun b hb => HT2.out.thaw b (HS.out b hb)
  have t22 := cell_sep ht2 z1 HNS.out t12
  have t23 := cell_sep ht2 z1 HNS.out t13
  have z2 := Nat.lt_of_lt_of_le z1 ht2.size
  obtain ⟨f2, g2, k2⟩ := G2.out.turned nInstr ht2
  obtain ⟨f3, g3, k3⟩ := G3.out.turned nPoint ht2
  have l2 := (map_len k2).trans L2.out
  have l3 := (map_len k3).trans L3.out
  have hs3 := (szPts_nf k3).trans HS3.out
  rw [← l2] at t22
  have C2 := hid (u_markInstrS (m := m + n0 + n1) g2 HS2.out (by omega) (by omega))
  have G3 := hid g3
  have L3 := hid l3
  have L2 := hid l2
  have HS3 := hid hs3
  clear ht2 g2 k2 g3 k3 G2 t11 t12 t13 C1 l2 l3 hs3
  go_wp2_with fail
  refine C2.out.mono ?_
  rintro e w3 ⟨rfl, ht3⟩
  have HT3 := hid (HT2.out.trans ht3)
  have HS3' := hid fun b hb => HT3.out.thaw b (HS.out b hb)
  have t33 := cell_sep ht3 z2 HNS.out t23
  obtain ⟨q3, g3, k3⟩ := G3.out.turned nPoint ht3
  have l3 := (map_len k3).trans L3.out
  have hs3 := (szPts_nf k3).trans HS3.out
  rw [← l3] at t33
  have l2 := L2.out
  have C3 := hid (c_markPointS _ _ _ (m + n0 + n1 + 2 * f2.length) _ g3 HS3'.out (by omega) (by rw [hs3]; omega))
  rw [hs3] at C3
  clear ht3 g3 k3 t22 t23 C2 l3 hs3 l2
  go_wp2_with fail
  refine C3.out.mono ?_
  rintro e w4 ⟨rfl, ht4⟩
  have HT4 := hid (HT3.out.trans ht4)
  go_wp2
  go_ret
  rw [HN0.out, HN1.out, HN3.out, ← L2.out]
  exact ⟨by simp [Int.add_assoc], HT4.out⟩
end Go.Proofs.Ytedmhdinfedhhaa
