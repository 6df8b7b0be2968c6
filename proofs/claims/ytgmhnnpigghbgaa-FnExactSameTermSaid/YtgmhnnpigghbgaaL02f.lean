/- Contracts of chapter 2's reference: equal terms. -/
import Derived.Test.YtgmhnnpigghbgaaL02e
namespace Go.Proofs.Ytgmhnnpigghbgaa
open Go.RowKit

theorem c_sSameTerm {S T : Nat → Prop} (c d : Int) (a b : Option Addr) (ca cb : Nat) (xs ys : List Int) (w : World) (hx : SlRd cInt S w a ca xs) (hy : SlRd cInt T w b cb ys) :
    Calls Try.prog 40 #[.agg #[.int .i64 c, .slice a xs.length ca], .agg #[.int .i64 d, .slice b ys.length cb]] w fun e w' => e = .returned (.bool (sameF (c, xs) (d, ys))) ∧ Below w.heap.size w w' := by
  have t0 : ((w.alloc (.cells #[.int .i64 c, .slice a xs.length ca] 47)).alloc (.cells #[.int .i64 d, .slice b ys.length cb] 47)).cell? ⟨w.heap.size, 0, none⟩ = some (.int .i64 c) := by simp [go_sem]
  have t1 : ((w.alloc (.cells #[.int .i64 c, .slice a xs.length ca] 47)).alloc (.cells #[.int .i64 d, .slice b ys.length cb] 47)).cell? ⟨w.heap.size, 0 + 1, none⟩ = some (.slice a xs.length ca) := by simp [go_sem]
  have u0 : ((w.alloc (.cells #[.int .i64 c, .slice a xs.length ca] 47)).alloc (.cells #[.int .i64 d, .slice b ys.length cb] 47)).cell? ⟨w.heap.size + 1, 0, none⟩ = some (.int .i64 d) := by simp [go_sem]
  have u1 : ((w.alloc (.cells #[.int .i64 c, .slice a xs.length ca] 47)).alloc (.cells #[.int .i64 d, .slice b ys.length cb] 47)).cell? ⟨w.heap.size + 1, 0 + 1, none⟩ = some (.slice b ys.length cb) := by simp [go_sem]
  have HX := (hx.alloc (.cells #[.int .i64 c, .slice a xs.length ca] 47)).alloc (.cells #[.int .i64 d, .slice b ys.length cb] 47)
  have HY := (hy.alloc (.cells #[.int .i64 c, .slice a xs.length ca] 47)).alloc (.cells #[.int .i64 d, .slice b ys.length cb] 47)
  have C1 := hid (c_l02Is _ _ _ _ _ _ _ t0 t1 HX)
  have C2 := hid (c_l02Is _ _ _ _ _ _ _ u0 u1 HY)
  have C3 := hid (c_l02Same _ _ _ _ _ _ _ _ _ _ _ _ _ t0 t1 u0 u1 HX HY)
  have HB0 : Hid (Below w.heap.size w ((w.alloc (.cells #[.int .i64 c, .slice a xs.length ca] 47)).alloc (.cells #[.int .i64 d, .slice b ys.length cb] 47))) := ((Below.refl _ _).alloc (Nat.le_refl _) _).alloc (by simp) _
  clear t0 t1 u0 u1 HX HY hx hy
  obtain ⟨p, hp⟩ : ∃ p, validTerm (c, xs) = p := ⟨_, rfl⟩
  have HP := hid hp
  clear hp
  cases p
  · have HF : Hid (sameF (c, xs) (d, ys) = false) := by unfold Hid; simp [sameF, HP.out]
    go_enter Try.func40, Try.ntmps40
    go_wp2_with fail
    refine C1.out.mono ?_
    rintro e w' ⟨rfl, rfl⟩
    rw [HP.out]
    go_wp2
    go_ret
    exact ⟨ret_bool HF.out.symm, HB0.out⟩
  · obtain ⟨q, hq⟩ : ∃ q, validTerm (d, ys) = q := ⟨_, rfl⟩
    have HQ := hid hq
    clear hq
    cases q
    · have HF : Hid (sameF (c, xs) (d, ys) = false) := by unfold Hid; simp [sameF, HQ.out]
      go_enter Try.func40, Try.ntmps40
      go_wp2_with fail
      refine C1.out.mono ?_
      rintro e w' ⟨rfl, rfl⟩
      rw [HP.out]
      go_wp2_with fail
      refine C2.out.mono ?_
      rintro e w' ⟨rfl, rfl⟩
      rw [HQ.out]
      go_wp2
      go_ret
      exact ⟨ret_bool HF.out.symm, HB0.out⟩
    · obtain ⟨r, hr⟩ : ∃ r, decide (((c, xs) : Term) = (d, ys)) = r := ⟨_, rfl⟩
      have HF : Hid (sameF (c, xs) (d, ys) = r) := by unfold Hid; rw [← hr]; unfold sameF; rw [HP.out, HQ.out]; simp
      have HR := hid hr
      clear hr
      go_enter Try.func40, Try.ntmps40
      go_wp2_with fail
      refine C1.out.mono ?_
      rintro e w' ⟨rfl, rfl⟩
      rw [HP.out]
      go_wp2_with fail
      refine C2.out.mono ?_
      rintro e w' ⟨rfl, rfl⟩
      rw [HQ.out]
      go_wp2_with fail
      refine C3.out.mono ?_
      rintro e w3 ⟨rfl, hb3⟩
      rw [HR.out]
      go_wp2
      go_ret
      exact ⟨ret_bool HF.out.symm, bel_next HB0.out HB0.out.size hb3⟩
end Go.Proofs.Ytgmhnnpigghbgaa
