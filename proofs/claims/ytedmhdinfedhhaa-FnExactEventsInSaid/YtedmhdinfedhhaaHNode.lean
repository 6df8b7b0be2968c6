/- Contracts of the laws' helpers over nodes. -/
import Derived.Test.YtedmhdinfedhhaaUni
import Derived.Test.YtedmhdinfedhhaaOpn
namespace Go.Proofs.Ytedmhdinfedhhaa
open Go.RowKit
abbrev Nd := Int × Int × Term × List Int
abbrev cNode : Codec Nd := cPair cInt (cPair cInt (cPair cTerm cInts))
abbrev nNode : Norm cNode := nPair nInt (nPair nInt (nPair nTerm nInts))
instance dec_Nd_1 : DecidableEq (Int × Term × List Int) := inferInstance
instance dec_Nd : DecidableEq Nd := inferInstance
theorem Nd_list {S : Nat → Prop} {w : World} {cs : List Value} {d : Nd} (h : cNode.rd S w cs d) : ∃ a3 p3 a4 p4, cs = [.int .i64 d.1, .int .i64 d.2.1, .int .i64 d.2.2.1.1, .slice a3 d.2.2.1.2.length p3, .slice a4 d.2.2.2.length p4] ∧ SlRd cInt S w a3 p3 d.2.2.1.2 ∧ SlRd cInt S w a4 p4 d.2.2.2 ∧ I64 d.1 ∧ I64 d.2.1 ∧ I64 d.2.2.1.1 := by
  obtain ⟨_, _, rfl, ⟨rfl, r0⟩, ⟨_, _, rfl, ⟨rfl, r1⟩, ⟨_, _, rfl, ⟨_, _, rfl, ⟨rfl, r2⟩, ⟨a3, p3, rfl, r3⟩⟩, ⟨a4, p4, rfl, r4⟩⟩⟩⟩ := h
  exact ⟨a3, p3, a4, p4, rfl, r3, r4, r0, r1, r2⟩
theorem Nd_arr {S : Nat → Prop} {w : World} {cs : Array Value} {d : Nd} (h : cNode.rd S w cs.toList d) : ∃ a3 p3 a4 p4, cs = #[.int .i64 d.1, .int .i64 d.2.1, .int .i64 d.2.2.1.1, .slice a3 d.2.2.1.2.length p3, .slice a4 d.2.2.2.length p4] ∧ SlRd cInt S w a3 p3 d.2.2.1.2 ∧ SlRd cInt S w a4 p4 d.2.2.2 ∧ I64 d.1 ∧ I64 d.2.1 ∧ I64 d.2.2.1.1 := by
  obtain ⟨a3, p3, a4, p4, he, hr⟩ := Nd_list h
  exact ⟨a3, p3, a4, p4, by rw [← Array.toList_inj, he], hr⟩
def RetNode (x : Nd) (w : World) (e : Ending) (w' : World) : Prop :=
  ∃ a3 p3 a4 p4, e = .returned (.agg #[.int .i64 x.1, .int .i64 x.2.1, .int .i64 x.2.2.1.1, .slice a3 x.2.2.1.2.length p3, .slice a4 x.2.2.2.length p4]) ∧ SlRd cInt (Fresh w.heap.size w') w' a3 p3 x.2.2.1.2 ∧ SlRd cInt (Fresh w.heap.size w') w' a4 p4 x.2.2.2 ∧ Below w.heap.size w w'
abbrev cNodes : Codec (List Nd) := cSl cNode
abbrev nNodes : Norm cNodes := nSl nNode
def szNd (x : Nd) : Nat := (x.2.2.1.2.length + x.2.2.2.length)
def szNds (xs : List Nd) : Nat := xs.length + (xs.map szNd).sum
theorem szNds_le {x : Nd} {xs : List Nd} (h : x ∈ xs) : szNd x ≤ szNds xs := by have := sumf_mem (f := szNd) h; unfold szNds; omega
theorem SlRd.nd_at {S : Nat → Prop} {w : World} {b off cap : Nat} {xs : List Nd} (h : SlRd cNode S w (some ⟨b, off, none⟩) cap xs) (k : Nat) (hk : k < xs.length) :
    ∃ (d0 : Int) (d1 : Int) (d2 : Int) (a3 : Option Addr) (p3 : Nat) (d3 : List Int) (a4 : Option Addr) (p4 : Nat) (d4 : List Int), xs[k]? = some (d0, d1, (d2, d3), d4) ∧ I64 d0 ∧ I64 d1 ∧ I64 d2 ∧ SlRd cInt S w a3 p3 d3 ∧ SlRd cInt S w a4 p4 d4 ∧ w.cell? ⟨b, off + k * 5, none⟩ = some (.int .i64 d0) ∧ w.cell? ⟨b, off + k * 5 + 1, none⟩ = some (.int .i64 d1) ∧ w.cell? ⟨b, off + k * 5 + 2, none⟩ = some (.int .i64 d2) ∧ w.cell? ⟨b, off + k * 5 + 3, none⟩ = some (.slice a3 d3.length p3) ∧ w.cell? ⟨b, off + k * 5 + 4, none⟩ = some (.slice a4 d4.length p4) ∧ b < w.heap.size := by
  obtain ⟨x, cs, h1, hr, h7, _, hc⟩ := h.at k hk
  obtain ⟨a3, p3, a4, p4, rfl, r3, r4, r0, r1, r2⟩ := Nd_list hr
  exact ⟨x.1, x.2.1, x.2.2.1.1, a3, p3, x.2.2.1.2, a4, p4, x.2.2.2, h1, r0, r1, r2, r3, r4, hc 0 _ rfl, hc 1 _ rfl, hc 2 _ rfl, hc 3 _ rfl, hc 4 _ rfl, h7⟩
theorem own_at_Nd {S : Nat → Prop} {w : World} {base : Nat} {e : TypeId} {zl : List Nd} {g cap n : Nat} (h : OwnSl cNode S w base e (.slice (some ⟨g, 0, none⟩) n cap) zl) (hn : zl.length = n) (k : Nat) (hk : k < n) :
    ∃ (d0 : Int) (d1 : Int) (d2 : Int) (a3 : Option Addr) (p3 : Nat) (d3 : List Int) (a4 : Option Addr) (p4 : Nat) (d4 : List Int), w.cell? ⟨g, k * 5, none⟩ = some (.int .i64 d0) ∧ w.cell? ⟨g, k * 5 + 1, none⟩ = some (.int .i64 d1) ∧ w.cell? ⟨g, k * 5 + 2, none⟩ = some (.int .i64 d2) ∧ w.cell? ⟨g, k * 5 + 3, none⟩ = some (.slice a3 d3.length p3) ∧ w.cell? ⟨g, k * 5 + 4, none⟩ = some (.slice a4 d4.length p4) ∧ w.frozen? ⟨g, k * 5, none⟩ = false ∧ w.frozen? ⟨g, k * 5 + 1, none⟩ = false ∧ w.frozen? ⟨g, k * 5 + 2, none⟩ = false ∧ w.frozen? ⟨g, k * 5 + 3, none⟩ = false ∧ w.frozen? ⟨g, k * 5 + 4, none⟩ = false ∧ g < w.heap.size := by
  obtain ⟨x, cs, h1, hr, h2, h3, h4, h5⟩ := own_at h hn k hk
  obtain ⟨a3, p3, a4, p4, rfl, r3, r4, r0, r1, r2⟩ := Nd_list hr
  exact ⟨x.1, x.2.1, x.2.2.1.1, a3, p3, x.2.2.1.2, a4, p4, x.2.2.2, h4 0 _ rfl, h4 1 _ rfl, h4 2 _ rfl, h4 3 _ rfl, h4 4 _ rfl, h5 _, h5 _, h5 _, h5 _, h5 _, h2⟩
set_option maxRecDepth 100000 in
theorem own_set_Nd {B B' base : Nat} {w : World} {e : TypeId} {zl : List Nd} {g cap n : Nat} (h : OwnSl cNode (Fresh B w) w base e (.slice (some ⟨g, 0, none⟩) n cap) zl) (hn : zl.length = n) (k : Nat) (hk : k < n)
    {d0 d1 d2 : Int} {a3 : Option Addr} {p3 : Nat} {d3 : List Int} {a4 : Option Addr} {p4 : Nat} {d4 : List Int} (i0 : I64 d0) (i1 : I64 d1) (i2 : I64 d2) (h3 : SlRd cInt (Fresh B' w) w a3 p3 d3) (h4 : SlRd cInt (Fresh B' w) w a4 p4 d4) (hB : B ≤ B') (hg : g < B') :
    OwnSl cNode (Fresh B (((((w.setCell ⟨g, k * 5, none⟩ (.int .i64 d0)).setCell ⟨g, k * 5 + 1, none⟩ (.int .i64 d1)).setCell ⟨g, k * 5 + 2, none⟩ (.int .i64 d2)).setCell ⟨g, k * 5 + 3, none⟩ (.slice a3 d3.length p3)).setCell ⟨g, k * 5 + 4, none⟩ (.slice a4 d4.length p4))) (((((w.setCell ⟨g, k * 5, none⟩ (.int .i64 d0)).setCell ⟨g, k * 5 + 1, none⟩ (.int .i64 d1)).setCell ⟨g, k * 5 + 2, none⟩ (.int .i64 d2)).setCell ⟨g, k * 5 + 3, none⟩ (.slice a3 d3.length p3)).setCell ⟨g, k * 5 + 4, none⟩ (.slice a4 d4.length p4)) base e (.slice (some ⟨g, 0, none⟩) n cap) (zl.set k (d0, d1, (d2, d3), d4)) ∧ w.grownBy (((((w.setCell ⟨g, k * 5, none⟩ (.int .i64 d0)).setCell ⟨g, k * 5 + 1, none⟩ (.int .i64 d1)).setCell ⟨g, k * 5 + 2, none⟩ (.int .i64 d2)).setCell ⟨g, k * 5 + 3, none⟩ (.slice a3 d3.length p3)).setCell ⟨g, k * 5 + 4, none⟩ (.slice a4 d4.length p4)) (some g) := by
  have k3 : SlRd cInt (fun b => Fresh B w b ∧ b ≠ g) w a3 p3 d3 := h3.keep fun b hb hl => ⟨⟨⟨Nat.le_trans hB hb.1, hb.2⟩, by have := hb.1; omega⟩, rfl⟩
  have k4 : SlRd cInt (fun b => Fresh B w b ∧ b ≠ g) w a4 p4 d4 := h4.keep fun b hb hl => ⟨⟨⟨Nat.le_trans hB hb.1, hb.2⟩, by have := hb.1; omega⟩, rfl⟩
  have h9 := own_set h hn k hk [.int .i64 d0, .int .i64 d1, .int .i64 d2, .slice a3 d3.length p3, .slice a4 d4.length p4] (d0, d1, (d2, d3), d4) (rd_pair (rd_i i0) (rd_pair (rd_i i1) (rd_pair (rd_pair (rd_i i2) (rd_sl k3)) (rd_sl k4))))
  exact ⟨own_refresh h9.1 fun b hb => thawed_setCell (thawed_setCell (thawed_setCell (thawed_setCell (thawed_setCell (hb) _ _) _ _) _ _) _ _) _ _, h9.2⟩
end Go.Proofs.Ytedmhdinfedhhaa
