/- Contracts of the laws' helpers that write marks into code and look whether they hold. -/
import Derived.Test.YtedmhdinfedhhaaMark
import Derived.Test.YtedmhdinfedhhaaUni
namespace Go.Proofs.Ytedmhdinfedhhaa
open Go.RowKit

theorem cell_other {w : World} {b o o' : Nat} {u v : Value} (hne : o' ≠ o) (h : w.cell? ⟨b, o', none⟩ = some v) : (w.setCell ⟨b, o, none⟩ u).cell? ⟨b, o', none⟩ = some v := by
  rw [World.cell?_setCell_other (h := fun e => hne (by injection e with e1 e2 e3; exact e2.symm))]; exact h
theorem store_instr {S : Nat → Prop} {w : World} {b off cap : Nat} {zs : List Instr} (h : SlRd cInstr S w (some ⟨b, off, none⟩) cap zs) (k : Nat) (hk : k < zs.length) (x y : Int) (hx : I64 x) (hy : I64 y) :
    SlRd cInstr S ((w.setCell ⟨b, off + k * 2, none⟩ (.int .i64 x)).setCell ⟨b, off + k * 2 + 1, none⟩ (.int .i64 y)) (some ⟨b, off, none⟩) cap (zs.set k (x, y)) := by
  refine ⟨by simpa using h.1, h.2.1, h.2.2.1, ?_⟩
  rintro q ⟨⟩ i d hi
  have hil : i < zs.length := by
    have := (List.getElem?_eq_some_iff.1 hi).1; simpa using this
  obtain ⟨⟨h5, h6, h7⟩, cs, ⟨c1, c2, rfl, ⟨rfl, hd1⟩, ⟨rfl, hd2⟩⟩, hc⟩ := h.2.2.2 _ rfl i zs[i] (by simp [hil])
  have hc0 := hc 0 _ rfl
  have hc1 := hc 1 _ rfl
  have e2 : cInstr.n = 2 := rfl
  simp only [e2, Nat.add_zero] at hc0 hc1 h7 h6
  rw [List.getElem?_set] at hi
  by_cases hki : k = i
  · subst hki
    rw [if_pos rfl, if_pos hk] at hi
    cases hi
    refine ⟨⟨rfl, h6, by simpa [World.setCell] using h7⟩, [.int .i64 x, .int .i64 y], rd_pair (rd_i hx) (rd_i hy), ?_⟩
    intro j u hj
    match j, hj with
    | 0, hj => simp at hj; subst hj; simp [go_sem, hc0, e2]
    | 1, hj => simp at hj; subst hj; simp [go_sem, hc1, e2]
  · rw [if_neg hki, List.getElem?_eq_getElem hil] at hi
    cases hi
    refine ⟨⟨rfl, h6, by simpa [World.setCell] using h7⟩, [.int .i64 zs[i].1, .int .i64 zs[i].2], rd_pair (rd_i hd1) (rd_i hd2), ?_⟩
    intro j u hj
    match j, hj with
    | 0, hj =>
      simp at hj; subst hj
      rw [e2, Nat.add_zero]
      exact cell_other (by simp; omega) (cell_other (by simp; omega) hc0)
    | 1, hj =>
      simp at hj; subst hj
      rw [e2]
      exact cell_other (by simp; omega) (cell_other (by simp; omega) hc1)
def upFrom2 (m : Int) (ys : List Instr) : Prop := ∀ j : Nat, j < ys.length → ys[j]? = some (m + 2 * j, m + 2 * j + 1)
def RetMarkedI (n : Nat) (m : Int) (S : Nat → Prop) (a : Option Addr) (cap : Nat) (w : World) (e : Ending) (w' : World) : Prop :=
  e = .returned (.int .i64 (m + 2 * n)) ∧ (∃ ys : List Instr, ys.length = n ∧ upFrom2 m ys ∧ SlRd cInstr S w' a cap ys) ∧ Turned S w w'
set_option maxRecDepth 100000 in
theorem c_markInstrS {S : Nat → Prop} (a : Option Addr) (cap : Nat) (zs : List Instr) (n : Nat) (m : Int) (w : World) (h : SlRd cInstr S w a cap zs) (hn : zs.length = n) (hS : ∀ b, S b → Thawed w b) (hm : 0 ≤ m) (hm2 : m + 2 * n ≤ 4611686018427387904) :
    Calls Try.prog 56 #[.slice a n cap, .int .i64 m] w (RetMarkedI n m S a cap w) := by
  have H := hid h
  have HN := hid hn
  have HS := hid hS
  clear h hn hS
  go_enter Try.func56, Try.ntmps56
  go_wp2
  go_loopw [1, 5] (fun mm i wr => ∃ k : Nat, k ≤ n ∧ i = .int .i64 k ∧ mm = .int .i64 (m + 2 * k) ∧ ∃ ys : List Instr, Hid (ys.length = n) ∧ Hid (∀ j : Nat, j < k → ys[j]? = some (m + 2 * j, m + 2 * j + 1)) ∧ Hid (SlRd cInstr S wr a cap ys) ∧ Hid (Turned S w wr)) (fun _ i _ => n - (intOf i).toNat)
  case atStart => exact ⟨0, Nat.zero_le _, rfl, by simp, zs, HN, by unfold Hid; intro j hj; omega, H, Turned.refl _ _⟩
  case round =>
    obtain ⟨k, hk, rfl, rfl, ys, HL, HA, HR, HT⟩ := hrel
    by_cases hlt : k < n
    · have hlt' : k < ys.length := by have := HL.out; omega
      obtain ⟨b, off, rfl⟩ := HR.out.some_of hlt'
      obtain ⟨x, y, hz, hx, hy, hc, hc', hb⟩ := HR.out.instr_at k hlt'
      obtain ⟨⟨h5, h6, h7⟩, _⟩ := HR.out.2.2.2 _ rfl k ys[k] (by simp [hlt'])
      have hth := HT.out.thaw _ (HS.out _ h6)
      have hfz := hth.frozen (off + k * 2)
      have hfz' := hth.frozen (off + k * 2 + 1)
      have HSt := hid (store_instr HR.out k hlt' (m + 2 * k) (m + 2 * k + 1) ⟨by omega, by omega⟩ ⟨by omega, by omega⟩)
      have ht1 := Turned.set h6 hc (n' := m + 2 * k) ⟨by omega, by omega⟩
      have hc'' : (wr.setCell ⟨b, off + k * 2, none⟩ (.int .i64 (m + 2 * k))).cell? ⟨b, off + k * 2 + 1, none⟩ = some (.int .i64 y) := cell_other (by omega) hc'
      have HT2 := hid (HT.out.trans (ht1.trans (Turned.set h6 hc'' (n' := m + 2 * k + 1) ⟨by omega, by omega⟩)))
      clear hz hth ht1 hc''
      go_wp2
      go_roundw
      case rel =>
        refine ⟨k + 1, by omega, by go_num, by go_num, ys.set k (m + 2 * k, m + 2 * k + 1), by have := HL.out; unfold Hid; simpa using this, ?_, HSt, HT2⟩
        intro j hj
        rw [List.getElem?_set]
        by_cases hjk : k = j
        · subst hjk; rw [if_pos rfl, if_pos hlt']
        · rw [if_neg hjk]; exact HA.out j (by omega)
      case measure => simp [intOf]; omega
    · have hkn : k = n := by omega
      subst hkn
      go_wp2
      go_ret
      exact ⟨rfl, ⟨ys, HL.out, fun j hj => HA.out j (by rw [← HL.out]; exact hj), HR.out⟩, HT.out⟩
theorem u_markInstrS {S : Nat → Prop} {a : Option Addr} {p : Nat} {zs : List Instr} {m : Int} {w : World} (h : SlRd cInstr S w a p zs) (hS : ∀ b, S b → Thawed w b) (hm : 0 ≤ m) (hm2 : m + 2 * zs.length ≤ 4611686018427387904) :
    Calls Try.prog 56 #[.slice a zs.length p, .int .i64 m] w fun e w' => e = .returned (.int .i64 (m + 2 * zs.length)) ∧ Turned S w w' := (c_markInstrS _ _ _ _ _ _ h rfl hS hm hm2).mono fun _ _ ⟨he, _, ht⟩ => ⟨he, ht⟩
end Go.Proofs.Ytedmhdinfedhhaa
