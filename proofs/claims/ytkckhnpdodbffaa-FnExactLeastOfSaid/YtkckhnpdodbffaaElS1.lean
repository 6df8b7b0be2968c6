/- Contracts: the reference's combination of two rows. -/
import Derived.Test.YtkckhnpdodbffaaEl2
import Derived.Test.YtkckhnpdodbffaaElS0
import Derived.Test.YtkckhnpdodbffaaL02s
import Derived.Test.YtkckhnpdodbffaaL01d
namespace Go.Proofs.Ytkckhnpdodbffaa
open Go.RowKit

theorem c_l06Gcd (d : Nat) (z : Int) (w : World) (hd : d ≤ 1000000000000000) (hz : Small z) :
    Calls Try.prog 54 #[.int .i64 d, .int .i64 z] w fun e w' => e = .returned (.int .i64 (Nat.gcd d z.natAbs : Nat)) ∧ w = w' := by
  obtain ⟨z1, z2⟩ := hz
  have wn : IntKind.i64.wrap (-z) = -z := wrap_in _ (by omega) (by omega)
  obtain ⟨m, hm⟩ : ∃ m, z.natAbs = m := ⟨_, rfl⟩
  have HM : Hid (max z (-z) = (m : Int)) := by unfold Hid; omega
  have hm2 : m ≤ 1000000000000000 := by omega
  rw [hm]
  clear hm
  go_enter Try.func54, Try.ntmps54
  go_wp2_with (go_at_call 57; refine (c_l00Max _ _ _).mono ?_; rintro e w' ⟨rfl, rfl⟩; rw [HM.out])
  go_loop [0, 1] (fun x y => ∃ p q : Nat, x = .int .i64 p ∧ y = .int .i64 q ∧ p ≤ 1000000000000000 ∧ q ≤ 1000000000000000 ∧ Hid (Nat.gcd p q = Nat.gcd d m)) (fun _ y => (intOf y).toNat)
  case atStart => exact ⟨d, m, rfl, rfl, hd, hm2, rfl⟩
  case round =>
    obtain ⟨p, q, rfl, rfl, hp, hq, HG⟩ := hrel
    by_cases hq0 : q = 0
    · have h0 : ¬ ((0 : Int) < (q : Int)) := by omega
      have HP : Hid (p = Nat.gcd d m) := by unfold Hid; rw [← HG.out, hq0]; simp
      clear hq0
      go_wp2
      go_ret
      exact ⟨ret_int (by rw [← HP.out]), rfl⟩
    · have h0 : (0 : Int) < (q : Int) := by omega
      have hq1 : 1 ≤ q := by omega
      have hqi : ((q : Nat) : Int) ≠ 0 := by omega
      clear hq0
      go_wp2
      go_round
      case rel => exact ⟨q, p % q, rfl, by rw [imodc], hq, by have := Nat.mod_lt p (show q > 0 by omega); omega, by unfold Hid; rw [gcd_step]; exact HG.out⟩
      case measure => simp only [intOf]; have := Nat.mod_lt p (show q > 0 by omega); have := imodc p q; omega
theorem gcdL_one (z : Int) : Nat.gcd 0 z.natAbs = gcdL [z] := by simp [gcdL]
theorem c_l06Gcd0 (z : Int) (w : World) (hz : Small z) :
    Calls Try.prog 54 #[.int .i64 0, .int .i64 z] w fun e w' => e = .returned (.int .i64 ((gcdL [z] : Nat) : Int)) ∧ w = w' := by
  have h := c_l06Gcd 0 z w (by omega) hz
  rw [gcdL_one] at h
  exact h
theorem c_l02Coeff {S : Nat → Prop} {b o : Nat} {a : Option Addr} {p : Nat} {zs : List Int} (k : Nat) {w : World} (t1 : w.cell? ⟨b, o + 1, none⟩ = some (.slice a zs.length p)) (h : SlRd cInt S w a p zs) :
    Calls Try.prog 45 #[.pointer (some ⟨b, o, none⟩), .int .i64 k] w fun e w' => e = .returned (.int .i64 (zs.getD k 0)) ∧ w = w' := by
  have hl := h.len_le
  have H := hid h
  clear h
  by_cases hk : k < zs.length
  · obtain ⟨b', off, rfl⟩ := H.out.some_of hk
    obtain ⟨z, hz, hzz, hc, hb⟩ := H.out.int_at k hk
    have HF : Hid (zs.getD k 0 = z) := by unfold Hid; rw [List.getD_eq_getElem?_getD, hz]; rfl
    have i0 : (0 : Int) ≤ (k : Int) := by omega
    have i1 : (k : Int) < (zs.length : Int) := by omega
    clear hz
    go_enter Try.func45, Try.ntmps45
    go_wp2
    go_ret
    exact ⟨ret_int HF.out.symm, rfl⟩
  · have HF : Hid (zs.getD k 0 = 0) := by unfold Hid; rw [List.getD_eq_getElem?_getD, List.getElem?_eq_none (by omega)]; rfl
    have i1 : ¬ ((k : Int) < (zs.length : Int)) := by omega
    go_enter Try.func45, Try.ntmps45
    go_wp2
    go_ret
    exact ⟨by first | exact ret_int HF.out.symm | rfl, rfl⟩
theorem allIn_snoc {zs : List Int} {j : Nat} {z lo hi : Int} (h : zs[j]? = some z) : allIn (zs.take (j + 1)) lo hi = (allIn (zs.take j) lo hi && inB z lo hi) := by
  unfold allIn
  rw [List.take_add_one, h, List.all_append]; simp
theorem divL_at {g z : Int} {zs : List Int} {j : Nat} (h : zs[j]? = some z) : (divL g zs)[j]? = some (z.tdiv g) := by unfold divL; rw [List.getElem?_map, h]; rfl
theorem divP_end (g : Int) (zs : List Int) {j : Nat} (h : zs.length ≤ j) : divP g zs j = divL g zs := by
  unfold divP divL
  rw [List.take_of_length_le h, List.drop_of_length_le h, List.append_nil]
theorem divL_len (g : Int) (zs : List Int) : (divL g zs).length = zs.length := List.length_map _
set_option maxHeartbeats 4000000 in
set_option maxRecDepth 100000 in
theorem c_l06Mix {n k : Nat} {S : Nat → Prop} {p q : Row} {bp op bq oq : Nat} {ap1 ap2 aq1 aq2 : Option Addr} {cp1 cp2 cq1 cq2 : Nat} {w : World} (hP : RowS S w bp op p ap1 cp1 ap2 cp2) (hQ : RowS S w bq oq q aq1 cq1 aq2 cq2)
    (hp : RowOk n p) (hq : RowOk n q) (hpq : pairB p q k = true) (hk : k < 10) (hn : n ≤ 14) :
    Calls Try.prog 47 #[.pointer (some ⟨bp, op, none⟩), .pointer (some ⟨bq, oq, none⟩), .int .i64 k] w fun e w' => ∃ x1 c1 x2 c2, e = .returned (.tuple #[.agg #[.int .i64 (mixF p q k).1, .slice x1 (mixF p q k).2.1.length c1, .slice x2 (mixF p q k).2.2.length c2], .bool (fineB (mixF p q k))]) ∧ SlRd cInt (fun b => w.heap.size ≤ b ∧ b < w'.heap.size) w' x1 c1 (mixF p q k).2.1 ∧ SlRd cInt (fun b => w.heap.size ≤ b ∧ b < w'.heap.size) w' x2 c2 (mixF p q k).2.2 ∧ Below w.heap.size w w' := by
  obtain ⟨hg0, hm, hn', hm0, hn0⟩ := mixMN hp hq hpq
  have hpc := cfR_sm hp k
  have hqc := cfR_sm hq k
  have HPO := hid hp
  have HQO := hid hq
  have HB0 : Hid (Below w.heap.size w (w.alloc (.cells #[.int .i64 0, .slice none 0 0, .slice none 0 0] 64))) := (Below.refl _ _).alloc (Nat.le_refl _) _
  have HP := hid (hP.below HB0.out)
  have HQ := hid (hQ.below HB0.out)
  have HBK : Hid ((w.alloc (.cells #[.int .i64 0, .slice none 0 0, .slice none 0 0] 64)).heap[w.heap.size]? = some (.cells #[.int .i64 0, .slice none 0 0, .slice none 0 0] 64 (0, 0))) := heap_new _ _
  have hs0 : (w.alloc (.cells #[.int .i64 0, .slice none 0 0, .slice none 0 0] 64)).heap.size = w.heap.size + 1 := by simp
  have hbp := hP.lt
  have hbq := hQ.lt
  obtain ⟨pb1, o1, rfl⟩ := hP.h1.some_of (k := k) (by rw [hp.len]; exact hk)
  obtain ⟨pb2, o2, rfl⟩ := hQ.h1.some_of (k := k) (by rw [hq.len]; exact hk)
  obtain ⟨mm, hz1, _, hc1, hb1⟩ := hP.h1.int_at k (by rw [hp.len]; exact hk)
  obtain ⟨nq, hz2, _, hc2, hb2⟩ := hQ.h1.int_at k (by rw [hq.len]; exact hk)
  have t1 := hP.c1
  have t2 := hQ.c1
  have hmm : cfR p k = mm := by unfold cfR; rw [List.getD_eq_getElem?_getD, hz1]; rfl
  have hnq : cfR q k = nq := by unfold cfR; rw [List.getD_eq_getElem?_getD, hz2]; rfl
  have hMM : mixM p q k = mm.tdiv (gcd2 mm (-nq)) := by unfold mixM; rw [hmm, hnq]
  have hNN : mixN p q k = (-nq).tdiv (gcd2 mm (-nq)) := by unfold mixN; rw [hmm, hnq]
  have hmp : 0 < mm := by
    simp only [pairB, Bool.and_eq_true, decide_eq_true_eq] at hpq
    rw [← hmm]; exact hpq.1
  rw [hmm] at hpc hg0
  rw [hnq] at hqc hg0
  have HMM := hid hMM
  have HNN := hid hNN
  have wn : IntKind.i64.wrap (-nq) = -nq := by unfold sm at hqc; exact wrap_in _ (by omega) (by omega)
  have hqn : sm (-nq) := by unfold sm at hqc ⊢; omega
  have j0 : (0 : Int) ≤ (k : Int) := by omega
  have j1 : (k : Int) < (p.2.1.length : Int) := by rw [hp.len]; omega
  have j2 : (k : Int) < (q.2.1.length : Int) := by rw [hq.len]; omega
  obtain ⟨W0, hW0⟩ : ∃ x, w.alloc (.cells #[.int .i64 0, .slice none 0 0, .slice none 0 0] 64) = x := ⟨_, rfl⟩
  have HW0 := hid hW0
  rw [hW0] at HB0 HP HQ HBK hs0
  have p0 := HP.out.c0
  have p1 := HP.out.c1
  have p2 := HP.out.c2
  have q0 := HQ.out.c0
  have q1 := HQ.out.c1
  have q2 := HQ.out.c2
  obtain ⟨mi, hmi⟩ : ∃ m : Nat, mm = (m : Int) := ⟨mm.toNat, by omega⟩
  have hsmm : Small mm := by unfold sm at hpc; exact ⟨by omega, by omega⟩
  clear hz1 hz2 hmm hnq hMM hNN hW0 hP hQ
  generalize hnn : -nq = nn at *
  have hsnn : Small nn := by unfold sm at hqn; exact ⟨by omega, by omega⟩
  have HCG := hid (fun (w' : World) => c_l06Gcd mi nn w' (by unfold sm at hpc; omega) hsnn)
  have eg : Nat.gcd mi nn.natAbs = gcd2 mm nn := by unfold gcd2; rw [hmi]; rfl
  rw [eg, ← hmi] at HCG
  obtain ⟨G, hG⟩ : ∃ G, gcd2 mm nn = G := ⟨_, rfl⟩
  rw [hG] at HCG HMM HNN hg0
  have hM := HMM.out
  have hN := HNN.out
  rw [hM] at hm hm0
  rw [hN] at hn' hn0
  obtain ⟨M, hMe⟩ : ∃ x, mm.tdiv G = x := ⟨_, rfl⟩
  obtain ⟨N, hNe⟩ : ∃ x, nn.tdiv G = x := ⟨_, rfl⟩
  rw [hMe] at hm hm0 HMM
  rw [hNe] at hn' hn0 HNN
  have wM : IntKind.i64.wrap (mm.tdiv G) = M := by unfold sm at hm; rw [hMe]; exact wrap_in _ (by omega) (by omega)
  have wN : IntKind.i64.wrap (nn.tdiv G) = N := by unfold sm at hn'; rw [hNe]; exact wrap_in _ (by omega) (by omega)
  have hGi : ((G : Nat) : Int) ≠ 0 := by omega
  have hGb : (((G : Nat) : Int) == 0) = false := by simpa using hGi
  have b1 := prod_abs hn' HPO.out.c
  have b2 := prod_abs hm HQO.out.c
  obtain ⟨X, hX⟩ : ∃ X, N * p.1 = X := ⟨_, rfl⟩
  obtain ⟨Y, hY⟩ : ∃ Y, M * q.1 = Y := ⟨_, rfl⟩
  rw [hX] at b1
  rw [hY] at b2
  have wX : IntKind.i64.wrap (N * p.1) = X := by rw [hX]; exact wrap_in _ (by omega) (by omega)
  have wY : IntKind.i64.wrap (M * q.1) = Y := by rw [hY]; exact wrap_in _ (by omega) (by omega)
  have wZ : IntKind.i64.wrap (X + Y) = X + Y := wrap_in _ (by omega) (by omega)
  have HXY : Hid (N * p.1 + M * q.1 = X + Y) := by unfold Hid; rw [hX, hY]
  have hXYs : Small (X + Y) := ⟨by omega, by omega⟩
  clear eg hM hN hMe hNe hG hX hY hmi hsmm
  have hl1 : p.2.1.length ≤ 10 := Nat.le_of_eq HPO.out.len
  have hl1' : 10 ≤ p.2.1.length := Nat.le_of_eq HPO.out.len.symm
  have hl2 : q.2.1.length ≤ 10 := Nat.le_of_eq HQO.out.len
  have hl2' : 10 ≤ q.2.1.length := Nat.le_of_eq HQO.out.len.symm
  go_enter Try.func47, Try.ntmps47
  go_wp2_with (go_at_call 54; refine (HCG.out _).mono ?_; rintro e w4 ⟨rfl, rfl⟩)
  rw [HW0.out]
  clear hc1 hc2 hb1 hb2 t1 t2
  go_region
  have HB1 : Hid (Below W0.heap.size W0 (W0.alloc (.cells #[.int .i64 (X + Y), .slice none 0 0, .slice none 0 0] 64)).drew) := ((Below.refl _ _).alloc (Nat.le_refl _) _).drew
  have HR1 : Hid (RBox (W0.alloc (.cells #[.int .i64 (X + Y), .slice none 0 0, .slice none 0 0] 64)).drew (w.heap.size + 1) (w.heap.size + 1) 2 (X + Y) 1 2 (.slice none 0 0) (.slice none 0 0) [] []) := by
    have hbk : (W0.alloc (.cells #[.int .i64 (X + Y), .slice none 0 0, .slice none 0 0] 64)).drew.heap[w.heap.size + 1]? = some (.cells #[.int .i64 (X + Y), .slice none 0 0, .slice none 0 0] 64 (0, 0)) := by rw [← hs0]; exact heap_new _ _
    exact ⟨by show _ < (W0.alloc _).heap.size; rw [World.size_alloc]; omega, Nat.le_refl _, ⟨_, _, hbk⟩, cell_of hbk (j := 0) rfl, cell_of hbk (j := 1) rfl, cell_of hbk (j := 2) rfl, own_nil _ _ _ _ _, own_nil _ _ _ _ _, by simp [Value.ownBlock], by simp [Value.ownBlock], fun k hk => by simp [Value.ownBlock] at hk⟩
  generalize (W0.alloc (.cells #[.int .i64 (X + Y), .slice none 0 0, .slice none 0 0] 64)).drew = W1 at *
  have u0 := HR1.out.c0
  have HC0 : Hid (∀ w' : World, Calls Try.prog 54 #[.int .i64 0, .int .i64 (X + Y)] w' fun e w'' => e = .returned (.int .i64 ((gcdL [X + Y] : Nat) : Int)) ∧ w' = w'') := fun w' => c_l06Gcd0 (X + Y) w' hXYs
  have HGG : Hid (∀ (LS : List Int), (∀ z ∈ LS, Small z) → ∀ z, Small z → gcdL ((X + Y) :: LS) ≤ 1000000000000000 ∧ ∀ w' : World, Calls Try.prog 54 #[.int .i64 ((gcdL ((X + Y) :: LS) : Nat) : Int), .int .i64 z] w' fun e w'' => e = .returned (.int .i64 ((gcdL ((X + Y) :: (LS ++ [z])) : Nat) : Int)) ∧ w' = w'') := fun LS hLS z hz => by
    have hle : gcdL ((X + Y) :: LS) ≤ 1000000000000000 := gcdL_le _ _ (by omega) fun x hx => by
      rcases List.mem_cons.1 hx with rfl | hx
      · exact hXYs
      · exact hLS x hx
    refine ⟨hle, fun w' => ?_⟩
    rw [← List.cons_append, gcdL_snoc]
    exact c_l06Gcd _ z w' hle hz
  have hz0 : W0.heap.size ≤ w.heap.size + 1 := by omega
  have hbp0 : bp < W0.heap.size := by omega
  have hbq0 : bq < W0.heap.size := by omega
  clear hpc hqc hqn hg0 hsnn HCG hnn wn
  go_wp2_with (go_at_call 54; refine (HC0.out _).mono ?_; rintro e w4 ⟨rfl, rfl⟩)
  clear u0
  go_loopw [12, 10] (fun i g wr => ∃ (j : Nat) (lv : Value), j ≤ 10 ∧ i = .int .i64 j ∧ g = .int .i64 ((gcdL ((X + Y) :: comb N M (p.2.1.take j) (q.2.1.take j)) : Nat) : Int) ∧ Hid (RBox wr (w.heap.size + 1) (w.heap.size + 1) 2 (X + Y) 1 2 lv (.slice none 0 0) (comb N M (p.2.1.take j) (q.2.1.take j)) []) ∧ Hid (Below W0.heap.size W0 wr)) (fun i _ _ => 10 - (intOf i).toNat)
  case atStart => exact ⟨0, .slice none 0 0, by omega, rfl, rfl, HR1, HB1⟩
  case round =>
    clear HR1 HB1
    obtain ⟨j, lv, hj, rfl, rfl, HRB, HBR⟩ := hrel
    have d1 := cell_below HBR.out hbp0 p1
    have d2 := cell_below HBR.out hbq0 q1
    have m1 := HRB.out.c1
    have mf := HRB.out.fr 1
    by_cases hlt : j < 10
    · obtain ⟨x, hx, hx1, hxc, hxb⟩ := (HP.out.h1.below (Nat.le_refl _) HBR.out).int_at j (by omega)
      obtain ⟨y, hy, hy1, hyc, hyb⟩ := (HQ.out.h1.below (Nat.le_refl _) HBR.out).int_at j (by omega)
      have xs := HPO.out.ls x (List.mem_of_getElem? hx)
      have ys := HQO.out.ls y (List.mem_of_getElem? hy)
      have f1 := prod_abs hn' xs
      have f2 := prod_abs hm ys
      have HN := hid (comb_take (n := N) (m := M) hx hy)
      obtain ⟨X2, hX2⟩ : ∃ X2, N * x = X2 := ⟨_, rfl⟩
      obtain ⟨Y2, hY2⟩ : ∃ Y2, M * y = Y2 := ⟨_, rfl⟩
      rw [hX2, hY2] at HN
      rw [hX2] at f1
      rw [hY2] at f2
      have wX2 : IntKind.i64.wrap (N * x) = X2 := by rw [hX2]; exact wrap_in _ (by omega) (by omega)
      have wY2 : IntKind.i64.wrap (M * y) = Y2 := by rw [hY2]; exact wrap_in _ (by omega) (by omega)
      have wZ2 : IntKind.i64.wrap (X2 + Y2) = X2 + Y2 := wrap_in _ (by omega) (by omega)
      have k0 : (0 : Int) ≤ (j : Int) := by omega
      have k1 : (j : Int) < (p.2.1.length : Int) := by omega
      have k2 : (j : Int) < (q.2.1.length : Int) := by omega
      have e1 : decide ((j : Int) < (p.2.1.length : Int)) = true := decide_eq_true k1
      have hcl : (comb N M (p.2.1.take j) (q.2.1.take j)).length = j := by rw [comb_len (by rw [List.length_take, List.length_take]; omega), List.length_take]; omega
      have hsm : ∀ z ∈ comb N M (p.2.1.take j) (q.2.1.take j), Small z := fun z hz => by
        obtain ⟨x', y', hx', hy', rfl⟩ := comb_mem hz
        have := comb_abs hn' hm (HPO.out.ls x' (List.mem_of_mem_take hx')) (HQO.out.ls y' (List.mem_of_mem_take hy'))
        exact ⟨by omega, by omega⟩
      obtain ⟨hgle, hgc⟩ := HGG.out _ hsm (X2 + Y2) ⟨by omega, by omega⟩
      rw [← HN.out] at hgc
      have HGC := hid hgc
      obtain ⟨LS, hLS⟩ : ∃ l, comb N M (p.2.1.take j) (q.2.1.take j) = l := ⟨_, rfl⟩
      obtain ⟨LS', hLS'⟩ : ∃ l, comb N M (p.2.1.take (j + 1)) (q.2.1.take (j + 1)) = l := ⟨_, rfl⟩
      rw [hLS, hLS'] at HN
      rw [hLS] at HRB HGC hcl hgle ⊢
      rw [hLS'] at HGC
      have hcl' : LS'.length = j + 1 := by rw [HN.out, List.length_append, List.length_singleton, hcl]
      have HLS' := hid hLS'
      obtain ⟨GA, hGA⟩ : ∃ g, gcdL ((X + Y) :: LS) = g := ⟨_, rfl⟩
      rw [hGA] at HGC hgle ⊢
      obtain ⟨GB, hGB⟩ : ∃ g, gcdL ((X + Y) :: LS') = g := ⟨_, rfl⟩
      rw [hGB] at HGC
      have HGB := hid hGB
      have HLX : Hid (Below wr.heap.size wr (wr.alloc (.cells #[.int .i64 (X2 + Y2)] 2)).drew) := ((Below.refl _ _).alloc (Nat.le_refl _) _).drew
      have HBXA := hid (HRB.out.below HLX.out)
      have HBK2 : Hid ((wr.alloc (.cells #[.int .i64 (X2 + Y2)] 2)).drew.heap[wr.heap.size]? = some (.cells #[.int .i64 (X2 + Y2)] 2 (0, 0))) := heap_new wr _
      have HBA := hid (bel_next HBR.out HBR.out.size HLX.out)
      have hbxr := HRB.out.lt
      have hbpr : bp < wr.heap.size := Nat.lt_of_lt_of_le hbp0 HBR.out.size
      have hbqr : bq < wr.heap.size := Nat.lt_of_lt_of_le hbq0 HBR.out.size
      have ma1 : (wr.alloc (.cells #[.int .i64 (X2 + Y2)] 2)).cell? ⟨w.heap.size + 1, 1, none⟩ = some lv := HBXA.out.c1
      have HSS : Hid (∀ w' : World, Below W0.heap.size W0 w' → w'.cell? ⟨bp, op + 1, none⟩ = some (.slice (some ⟨pb1, o1, none⟩) p.2.1.length cp1) ∧ w'.cell? ⟨bq, oq + 1, none⟩ = some (.slice (some ⟨pb2, o2, none⟩) q.2.1.length cq1) ∧ w'.cell? ⟨pb1, o1 + j, none⟩ = some (.int .i64 x) ∧ w'.cell? ⟨pb2, o2 + j, none⟩ = some (.int .i64 y)) := fun w' hb' => by
        obtain ⟨x', hx', _, hxc', _⟩ := (HP.out.h1.below (Nat.le_refl _) hb').int_at j (by omega)
        obtain ⟨y', hy', _, hyc', _⟩ := (HQ.out.h1.below (Nat.le_refl _) hb').int_at j (by omega)
        rw [hx] at hx'
        rw [hy] at hy'
        cases hx'
        cases hy'
        exact ⟨cell_below hb' hbp0 p1, cell_below hb' hbq0 q1, hxc', hyc'⟩
      have HBD := hid (HBR.out.drew)
      clear hx hy hX2 hY2 hsm hgc hLS hLS' hGA hGB
      go_wp2
      refine wp_region_held_drew (S := (fun w' => w'.cell? ⟨bp, op + 1, none⟩ = some (.slice (some ⟨pb1, o1, none⟩) p.2.1.length cp1) ∧ w'.cell? ⟨bq, oq + 1, none⟩ = some (.slice (some ⟨pb2, o2, none⟩) q.2.1.length cq1) ∧ w'.cell? ⟨pb1, o1 + j, none⟩ = some (.int .i64 x) ∧ w'.cell? ⟨pb2, o2 + j, none⟩ = some (.int .i64 y))) (by kernel_rfl) (HSS.out _ HBD.out) (fun hHeld => ?_)
      refine rgH (i := 0) (oi := ?qo1) ?qh1 ?qr1
      case qh1 => (simp only [List.getElem?_toArray, List.getElem?_cons_zero]; rfl)
      (refine ⟨by kernel_rfl, by kernel_rfl, by kernel_rfl, by assumption, ?qv1, fun _ _ _ h => h, Or.inl ⟨by kernel_rfl, ?qy1⟩, ?qn1⟩; case qy1 => (intro w hSw; (try dsimp only at hSw); go_simp; try with_reducible rfl))
      (try simp only [Act.put, List.setIfInBounds_toArray, List.set_cons_zero, List.set_cons_succ])
      refine rgH (i := 2) (oi := ?qo2) ?qh2 ?qr2
      case qh2 => (simp only [List.getElem?_toArray, List.getElem?_cons_succ, List.getElem?_cons_zero]; rfl)
      (refine ⟨by kernel_rfl, by kernel_rfl, by kernel_rfl, by assumption, ?qv2, fun _ _ _ h => h, Or.inl ⟨by kernel_rfl, ?qy2⟩, ?qn2⟩; case qy2 => (intro w hSw; (try dsimp only at hSw); go_simp; try with_reducible rfl))
      refine rgH (i := 3) (oi := ?qo3) ?qh3 ?qr3
      case qh3 => (simp only [List.getElem?_toArray, List.getElem?_cons_succ, List.getElem?_cons_zero]; rfl)
      (refine ⟨by kernel_rfl, by kernel_rfl, by kernel_rfl, by assumption, ?qv3, fun _ _ _ h => h, Or.inl ⟨by kernel_rfl, ?qy3⟩, ?qn3⟩; case qy3 => (intro w hSw; (try dsimp only at hSw); go_simp; try with_reducible rfl))
      refine rgH (i := 4) (oi := ?qo4) ?qh4 ?qr4
      case qh4 => (simp only [List.getElem?_toArray, List.getElem?_cons_succ, List.getElem?_cons_zero]; rfl)
      (refine ⟨by kernel_rfl, by kernel_rfl, by kernel_rfl, by assumption, ?qv4, fun _ _ _ h => h, Or.inl ⟨by kernel_rfl, ?qy4⟩, ?qn4⟩; case qy4 => (intro w hSw; (try dsimp only at hSw); go_simp; try with_reducible rfl))
      (try simp only [Act.put, List.setIfInBounds_toArray, List.set_cons_zero, List.set_cons_succ])
      refine rgH (i := 5) (oi := ?qo5) ?qh5 ?qr5
      case qh5 => (simp only [List.getElem?_toArray, List.getElem?_cons_succ, List.getElem?_cons_zero]; rfl)
      (refine ⟨by kernel_rfl, by kernel_rfl, by kernel_rfl, by assumption, ?qv5, fun _ _ _ h => h, Or.inl ⟨by kernel_rfl, ?qy5⟩, ?qn5⟩; case qy5 => (intro w hSw; (try dsimp only at hSw); go_simp; try with_reducible rfl))
      refine rgH (i := 6) (oi := ?qo6) ?qh6 ?qr6
      case qh6 => (simp only [List.getElem?_toArray, List.getElem?_cons_succ, List.getElem?_cons_zero]; rfl)
      (refine ⟨by kernel_rfl, by kernel_rfl, by kernel_rfl, by assumption, ?qv6, fun _ _ _ h => h, Or.inl ⟨by kernel_rfl, ?qy6⟩, ?qn6⟩; case qy6 => (intro w hSw; (try dsimp only at hSw); go_simp; try with_reducible rfl))
      refine rgH (i := 7) (oi := ?qo7) ?qh7 ?qr7
      case qh7 => (simp only [List.getElem?_toArray, List.getElem?_cons_succ, List.getElem?_cons_zero]; rfl)
      (refine ⟨by kernel_rfl, by kernel_rfl, by kernel_rfl, by assumption, ?qv7, fun _ _ _ h => h, Or.inl ⟨by kernel_rfl, ?qy7⟩, ?qn7⟩; case qy7 => (intro w hSw; (try dsimp only at hSw); go_simp; try with_reducible rfl))
      refine rgH (i := 8) (oi := ?qo8) ?qh8 ?qr8
      case qh8 => (simp only [List.getElem?_toArray, List.getElem?_cons_succ, List.getElem?_cons_zero]; rfl)
      (refine ⟨by kernel_rfl, by kernel_rfl, by kernel_rfl, by assumption, ?qv8, fun _ _ _ h => h, Or.inl ⟨by kernel_rfl, ?qy8⟩, ?qn8⟩; case qy8 => (intro w hSw; (try dsimp only at hSw); go_simp; try with_reducible rfl))
      (try simp only [Act.put, List.setIfInBounds_toArray, List.set_cons_zero, List.set_cons_succ])
      refine rgH (i := 9) (oi := ?qo9) ?qh9 ?qr9
      case qh9 => (simp only [List.getElem?_toArray, List.getElem?_cons_succ, List.getElem?_cons_zero]; rfl)
      (refine ⟨by kernel_rfl, by kernel_rfl, by kernel_rfl, by assumption, ?qv9, fun _ _ _ h => h, Or.inl ⟨by kernel_rfl, ?qy9⟩, ?qn9⟩; case qy9 => (intro w hSw; (try dsimp only at hSw); go_simp; try with_reducible rfl))
      refine rgH (i := 10) (oi := ?qo10) ?qh10 ?qr10
      case qh10 => (simp only [List.getElem?_toArray, List.getElem?_cons_succ, List.getElem?_cons_zero]; rfl)
      (refine ⟨by kernel_rfl, by kernel_rfl, by kernel_rfl, by assumption, ?qv10, fun _ _ _ h => h, Or.inl ⟨by kernel_rfl, ?qy10⟩, ?qn10⟩; case qy10 => (intro w hSw; (try dsimp only at hSw); go_simp; try with_reducible rfl))
      refine rgH (i := 11) (oi := ?qo11) ?qh11 ?qr11
      case qh11 => (simp only [List.getElem?_toArray, List.getElem?_cons_succ, List.getElem?_cons_zero]; rfl)
      (refine ⟨by kernel_rfl, by kernel_rfl, by kernel_rfl, by assumption, ?qv11, fun _ _ _ h => h, Or.inl ⟨by kernel_rfl, ?qy11⟩, ?qn11⟩; case qy11 => (intro w hSw; (try dsimp only at hSw); go_simp; try with_reducible rfl))
      refine rgH (i := 12) (oi := ?qo12) ?qh12 ?qr12
      case qh12 => (simp only [List.getElem?_toArray, List.getElem?_cons_succ, List.getElem?_cons_zero]; rfl)
      (refine ⟨by kernel_rfl, by kernel_rfl, by kernel_rfl, by assumption, ?qv12, fun _ _ _ h => h, Or.inl ⟨by kernel_rfl, ?qy12⟩, ?qn12⟩; case qy12 => (intro w hSw; (try dsimp only at hSw); go_simp; try with_reducible rfl))
      (try simp only [Act.put, List.setIfInBounds_toArray, List.set_cons_zero, List.set_cons_succ])
      refine rgH (i := 13) (oi := ?qo13) ?qh13 ?qr13
      case qh13 => (simp only [List.getElem?_toArray, List.getElem?_cons_succ, List.getElem?_cons_zero]; rfl)
      (refine ⟨by kernel_rfl, by kernel_rfl, by kernel_rfl, by assumption, ?qv13, fun _ _ _ h => h, Or.inl ⟨by kernel_rfl, ?qy13⟩, ?qn13⟩; case qy13 => (intro w hSw; (try dsimp only at hSw); go_simp; try with_reducible rfl))
      refine rgH (i := 14) (oi := ?qo14) ?qh14 ?qr14
      case qh14 => (simp only [List.getElem?_toArray, List.getElem?_cons_succ, List.getElem?_cons_zero]; rfl)
      (refine ⟨by kernel_rfl, by kernel_rfl, by kernel_rfl, by assumption, ?qv14, fun _ _ _ h => h, Or.inl ⟨by kernel_rfl, ?qy14⟩, ?qn14⟩; case qy14 => (intro w hSw; (try dsimp only at hSw); go_simp; try with_reducible rfl))
      refine rgH (i := 15) (oi := ?qo15) ?qh15 ?qr15
      case qh15 => (simp only [List.getElem?_toArray, List.getElem?_cons_succ, List.getElem?_cons_zero]; rfl)
      (refine ⟨by kernel_rfl, by kernel_rfl, by kernel_rfl, by assumption, ?qv15, fun _ _ _ h => h, Or.inl ⟨by kernel_rfl, ?qy15⟩, ?qn15⟩; case qy15 => (intro w hSw; (try dsimp only at hSw); go_simp; try with_reducible rfl))
      refine rgH (i := 16) (oi := ?qo16) ?qh16 ?qr16
      case qh16 => (simp only [List.getElem?_toArray, List.getElem?_cons_succ, List.getElem?_cons_zero]; rfl)
      (refine ⟨by kernel_rfl, by kernel_rfl, by kernel_rfl, by assumption, ?qv16, fun _ _ _ h => h, Or.inl ⟨by kernel_rfl, ?qy16⟩, ?qn16⟩; case qy16 => (intro w hSw; (try dsimp only at hSw); go_simp; try with_reducible rfl))
      (try simp only [Act.put, List.setIfInBounds_toArray, List.set_cons_zero, List.set_cons_succ])
      refine rgH (i := 17) (oi := ?qo17) ?qh17 ?qr17
      case qh17 => (simp only [List.getElem?_toArray, List.getElem?_cons_succ, List.getElem?_cons_zero]; rfl)
      (refine ⟨by kernel_rfl, by kernel_rfl, by kernel_rfl, by assumption, ?qv17, fun _ _ _ h => h, Or.inl ⟨by kernel_rfl, ?qy17⟩, ?qn17⟩; case qy17 => (intro w hSw; (try dsimp only at hSw); go_simp; try with_reducible rfl))
      refine rgH (i := 18) (oi := ?qo18) ?qh18 ?qr18
      case qh18 => (simp only [List.getElem?_toArray, List.getElem?_cons_succ, List.getElem?_cons_zero]; rfl)
      (refine ⟨by kernel_rfl, by kernel_rfl, by kernel_rfl, by assumption, ?qv18, fun _ _ _ h => h, Or.inl ⟨by kernel_rfl, ?qy18⟩, ?qn18⟩; case qy18 => (intro w hSw; (try dsimp only at hSw); go_simp; try with_reducible rfl))
      refine rgH (i := 19) (oi := ?qo19) ?qh19 ?qr19
      case qh19 => (simp only [List.getElem?_toArray, List.getElem?_cons_succ, List.getElem?_cons_zero]; rfl)
      (refine ⟨by kernel_rfl, by kernel_rfl, by kernel_rfl, by assumption, ?qv19, fun _ _ _ h => h, Or.inl ⟨by kernel_rfl, ?qy19⟩, ?qn19⟩; case qy19 => (intro w hSw; (try dsimp only at hSw); go_simp; try with_reducible rfl))
      refine rgH (i := 20) (oi := ?qo20) ?qh20 ?qr20
      case qh20 => (simp only [List.getElem?_toArray, List.getElem?_cons_succ, List.getElem?_cons_zero]; rfl)
      (refine ⟨by kernel_rfl, by kernel_rfl, by kernel_rfl, by assumption, ?qv20, fun _ _ _ h => h, Or.inl ⟨by kernel_rfl, ?qy20⟩, ?qn20⟩; case qy20 => (intro w hSw; (try dsimp only at hSw); go_simp; try with_reducible rfl))
      (try simp only [Act.put, List.setIfInBounds_toArray, List.set_cons_zero, List.set_cons_succ])
      refine wpAnyH_ready (rs := [1, 21]) (by kernel_rfl) (by simp) ?_
      refine rgHcall2 (i := 1) (j := 21) (o := ?to1) (o' := ?to2) ?th1 ?th2 ?way1 ?way2
      case th1 => (simp only [List.getElem?_toArray, List.getElem?_cons_succ, List.getElem?_cons_zero]; rfl)
      case th2 => (simp only [List.getElem?_toArray, List.getElem?_cons_succ, List.getElem?_cons_zero]; rfl)
      case way1 =>
        intro K hK
        go_simp
        refine hK.out _ _ (HSS.out _ HBD.out) (fun hHeld => ?_)
        clear hK K
        (try simp only [Act.put, List.setIfInBounds_toArray, List.set_cons_zero, List.set_cons_succ])
        refine wpAnyH_ready (rs := [21]) (by kernel_rfl) (by simp) ?_
        refine rgHcall (i := 21) (o := ?qo21) ?qh21 ?qk21
        case qh21 => (simp only [List.getElem?_toArray, List.getElem?_cons_succ, List.getElem?_cons_zero]; rfl)
        intro K hK
        go_simp
        skip
        refine hK.out _ _ (HSS.out _ HBA.out) (fun hHeld => ?_)
        clear hK K
        (try simp only [Act.put, List.setIfInBounds_toArray, List.set_cons_zero, List.set_cons_succ])
        refine wpAnyH_ready (rs := [22]) (by kernel_rfl) (by simp) ?_
        refine rgHcall (i := 22) (o := ?qo22) ?qh22 ?qk22
        case qh22 => (simp only [List.getElem?_toArray, List.getElem?_cons_succ, List.getElem?_cons_zero]; rfl)
        intro K hK
        (refine step_box rfl (.tmp 68) (.tmp 88) _ rfl slI64 rfl rfl HBXA.out HBK2.out ⟨by omega, by omega⟩ (by omega) (by decide) (by decide) ?_; intro v8 w8 hc8 hf8 hrb8 hb8)
        rw [← HN.out] at hrb8
        obtain ⟨g9, cap9, z9, rfl, hz9, _, hc9, _, _, _, _, hcap9, hcap9'⟩ := hrb8.out.at hcl' j (Nat.lt_succ_self j)
        rw [HN.out, List.getElem?_append_right (Nat.le_of_eq hcl), hcl, Nat.sub_self] at hz9
        have hz9 : X2 + Y2 = z9 := Option.some.inj hz9
        subst hz9
        have HR8 := hid hrb8.out
        have HB7 := hid (HBA.out.trans (hb8.mono hz0))
        have HB8 := hid ((HBA.out.trans (hb8.mono hz0)).setCell (p := ⟨w.heap.size + 1, 1, none⟩) hz0 (.slice (some ⟨g9, 0, none⟩) (j + 1) cap9))
        clear hrb8 hb8
        refine hK.out _ _ (HSS.out _ HB7.out) (fun hHeld => ?_)
        clear hK K
        (try simp only [Act.put, List.setIfInBounds_toArray, List.set_cons_zero, List.set_cons_succ])
        refine rgH (i := 23) (oi := ?qo23) ?qh23 ?qr23
        case qh23 => (simp only [List.getElem?_toArray, List.getElem?_cons_succ, List.getElem?_cons_zero]; rfl)
        (refine ⟨by kernel_rfl, by kernel_rfl, by kernel_rfl, by assumption, ?qv23, fun _ _ _ h => h, Or.inl ⟨by kernel_rfl, ?qy23⟩, ?qn23⟩; case qy23 => (intro w hSw; (try dsimp only at hSw); go_simp; try with_reducible rfl))
        (try simp only [Act.put, List.setIfInBounds_toArray, List.set_cons_zero, List.set_cons_succ])
        refine wpAnyH_ready (rs := [24]) (by kernel_rfl) (by simp) ?_
        refine rgHcall (i := 24) (o := ?qo24) ?qh24 ?qk24
        case qh24 => (simp only [List.getElem?_toArray, List.getElem?_cons_succ, List.getElem?_cons_zero]; rfl)
        intro K hK
        go_simp
        skip
        refine hK.out _ _ (HSS.out _ HB8.out) (fun hHeld => ?_)
        clear hK K
        refine wpAnyH_done (by kernel_rfl) ?_ _
        generalize w8.setCell ⟨w.heap.size + 1, 1, none⟩ (.slice (some ⟨g9, 0, none⟩) (j + 1) cap9) = w9 at *
        have m2 := HR8.out.c1
        clear hc8 hf8
        go_wp2_with (go_at_call 54; refine (HGC.out _).mono ?_; rintro e w4 ⟨rfl, rfl⟩)
        go_roundw
        case rel => exact ⟨j + 1, _, by omega, by go_num, by rw [HLS'.out, HGB.out], by rw [HLS'.out]; exact HR8, HB8⟩
        case measure => simp [intOf]; omega
      case way2 =>
        intro K hK
        go_simp
        refine hK.out _ _ (HSS.out _ HBA.out) (fun hHeld => ?_)
        clear hK K
        (try simp only [Act.put, List.setIfInBounds_toArray, List.set_cons_zero, List.set_cons_succ])
        refine wpAnyH_ready (rs := [1]) (by kernel_rfl) (by simp) ?_
        refine rgHcall (i := 1) (o := ?qo25) ?qh25 ?qk25
        case qh25 => (simp only [List.getElem?_toArray, List.getElem?_cons_succ, List.getElem?_cons_zero]; rfl)
        intro K hK
        go_simp
        skip
        refine hK.out _ _ (HSS.out _ HBA.out) (fun hHeld => ?_)
        clear hK K
        (try simp only [Act.put, List.setIfInBounds_toArray, List.set_cons_zero, List.set_cons_succ])
        refine wpAnyH_ready (rs := [22]) (by kernel_rfl) (by simp) ?_
        refine rgHcall (i := 22) (o := ?qo26) ?qh26 ?qk26
        case qh26 => (simp only [List.getElem?_toArray, List.getElem?_cons_succ, List.getElem?_cons_zero]; rfl)
        intro K hK
        (refine step_box rfl (.tmp 68) (.tmp 88) _ rfl slI64 rfl rfl HBXA.out HBK2.out ⟨by omega, by omega⟩ (by omega) (by decide) (by decide) ?_; intro v8 w8 hc8 hf8 hrb8 hb8)
        rw [← HN.out] at hrb8
        obtain ⟨g9, cap9, z9, rfl, hz9, _, hc9, _, _, _, _, hcap9, hcap9'⟩ := hrb8.out.at hcl' j (Nat.lt_succ_self j)
        rw [HN.out, List.getElem?_append_right (Nat.le_of_eq hcl), hcl, Nat.sub_self] at hz9
        have hz9 : X2 + Y2 = z9 := Option.some.inj hz9
        subst hz9
        have HR8 := hid hrb8.out
        have HB7 := hid (HBA.out.trans (hb8.mono hz0))
        have HB8 := hid ((HBA.out.trans (hb8.mono hz0)).setCell (p := ⟨w.heap.size + 1, 1, none⟩) hz0 (.slice (some ⟨g9, 0, none⟩) (j + 1) cap9))
        clear hrb8 hb8
        refine hK.out _ _ (HSS.out _ HB7.out) (fun hHeld => ?_)
        clear hK K
        (try simp only [Act.put, List.setIfInBounds_toArray, List.set_cons_zero, List.set_cons_succ])
        refine rgH (i := 23) (oi := ?qo27) ?qh27 ?qr27
        case qh27 => (simp only [List.getElem?_toArray, List.getElem?_cons_succ, List.getElem?_cons_zero]; rfl)
        (refine ⟨by kernel_rfl, by kernel_rfl, by kernel_rfl, by assumption, ?qv27, fun _ _ _ h => h, Or.inl ⟨by kernel_rfl, ?qy27⟩, ?qn27⟩; case qy27 => (intro w hSw; (try dsimp only at hSw); go_simp; try with_reducible rfl))
        (try simp only [Act.put, List.setIfInBounds_toArray, List.set_cons_zero, List.set_cons_succ])
        refine wpAnyH_ready (rs := [24]) (by kernel_rfl) (by simp) ?_
        refine rgHcall (i := 24) (o := ?qo28) ?qh28 ?qk28
        case qh28 => (simp only [List.getElem?_toArray, List.getElem?_cons_succ, List.getElem?_cons_zero]; rfl)
        intro K hK
        go_simp
        skip
        refine hK.out _ _ (HSS.out _ HB8.out) (fun hHeld => ?_)
        clear hK K
        refine wpAnyH_done (by kernel_rfl) ?_ _
        generalize w8.setCell ⟨w.heap.size + 1, 1, none⟩ (.slice (some ⟨g9, 0, none⟩) (j + 1) cap9) = w9 at *
        have m2 := HR8.out.c1
        clear hc8 hf8
        go_wp2_with (go_at_call 54; refine (HGC.out _).mono ?_; rintro e w4 ⟨rfl, rfl⟩)
        go_roundw
        case rel => exact ⟨j + 1, _, by omega, by go_num, by rw [HLS'.out, HGB.out], by rw [HLS'.out]; exact HR8, HB8⟩
        case measure => simp [intOf]; omega
    · have hj10 : j = 10 := by omega
      have hr := HRB.out
      rw [List.take_of_length_le (l := p.2.1) (by omega), List.take_of_length_le (l := q.2.1) (by omega)] at hr ⊢
      have hcl : (comb N M p.2.1 q.2.1).length = 10 := by rw [comb_len (by rw [HPO.out.len, HQO.out.len]), HPO.out.len]
      have HCS : Hid (∀ z ∈ comb N M p.2.1 q.2.1, Small z) := fun z hz => by
        obtain ⟨x', y', hx', hy', rfl⟩ := comb_mem hz
        have := comb_abs hn' hm (HPO.out.ls x' hx') (HQO.out.ls y' hy')
        exact ⟨by omega, by omega⟩
      obtain ⟨CL, hCL⟩ : ∃ l, comb N M p.2.1 q.2.1 = l := ⟨_, rfl⟩
      rw [hCL] at hr HCS hcl ⊢
      have HCL := hid hCL
      have HCLl := hid hcl
      have HR1 := hid hr.swap
      have HG1 : Hid (Value.int .i64 ((gcdL ((X + Y) :: CL) : Nat) : Int) = Value.int .i64 ((gcdL ((X + Y) :: (CL ++ [])) : Nat) : Int)) := by unfold Hid; rw [List.append_nil]
      have hl3 : p.2.2.length ≤ n := Nat.le_of_eq HPO.out.tlen
      have hl3' : n ≤ p.2.2.length := Nat.le_of_eq HPO.out.tlen.symm
      have hl4 : q.2.2.length ≤ n := Nat.le_of_eq HQO.out.tlen
      have hl4' : n ≤ q.2.2.length := Nat.le_of_eq HQO.out.tlen.symm
      obtain ⟨llv, hllv⟩ : ∃ v, v = lv := ⟨_, rfl⟩
      subst hllv
      have HB1 := HBR
      have e1 : decide ((j : Int) < (p.2.1.length : Int)) = false := decide_eq_false (by omega)
      clear hr hcl hCL hj10 HRB m1 mf d2
      go_wp2
      clear e1 HBR d1 hl1 hl1' hl2 hl2'
      obtain ⟨wo, rfl⟩ : ∃ x : World, x = wr := ⟨_, rfl⟩
      generalize decide (j < p.2.1.length) = q64
      go_loopw [13, 10] (fun i g wr => ∃ (j : Nat) (lv : Value), j ≤ n ∧ i = .int .i64 j ∧ g = .int .i64 ((gcdL ((X + Y) :: (CL ++ comb N M (p.2.2.take j) (q.2.2.take j))) : Nat) : Int) ∧ Hid (RBox wr (w.heap.size + 1) (w.heap.size + 1) 2 (X + Y) 2 1 lv llv (comb N M (p.2.2.take j) (q.2.2.take j)) CL) ∧ Hid (Below W0.heap.size W0 wr)) (fun i _ _ => n - (intOf i).toNat)
      case atStart => exact ⟨0, .slice none 0 0, Nat.zero_le _, rfl, HG1.out, HR1, HB1⟩
      case round =>
        clear HR1 HB1
        obtain ⟨j, lv, hj, rfl, rfl, HRB, HBR⟩ := hrel
        have d1 := cell_below HBR.out hbp0 p2
        have d2 := cell_below HBR.out hbq0 q2
        have m1 := HRB.out.c1
        have mf := HRB.out.fr 2
        by_cases hlt : j < n
        · obtain ⟨pt1, u1, rfl⟩ := HP.out.h2.some_of (k := j) (by omega)
          obtain ⟨pt2, u2, rfl⟩ := HQ.out.h2.some_of (k := j) (by omega)
          obtain ⟨x, hx, hx1, hxc, hxb⟩ := (HP.out.h2.below (Nat.le_refl _) HBR.out).int_at j (by omega)
          obtain ⟨y, hy, hy1, hyc, hyb⟩ := (HQ.out.h2.below (Nat.le_refl _) HBR.out).int_at j (by omega)
          have xs := times_sm HPO.out x (List.mem_of_getElem? hx)
          have ys := times_sm HQO.out y (List.mem_of_getElem? hy)
          have f1 := prod_abs hn' xs
          have f2 := prod_abs hm ys
          have HN := hid (comb_take (n := N) (m := M) hx hy)
          obtain ⟨X2, hX2⟩ : ∃ X2, N * x = X2 := ⟨_, rfl⟩
          obtain ⟨Y2, hY2⟩ : ∃ Y2, M * y = Y2 := ⟨_, rfl⟩
          rw [hX2, hY2] at HN
          rw [hX2] at f1
          rw [hY2] at f2
          have wX2 : IntKind.i64.wrap (N * x) = X2 := by rw [hX2]; exact wrap_in _ (by omega) (by omega)
          have wY2 : IntKind.i64.wrap (M * y) = Y2 := by rw [hY2]; exact wrap_in _ (by omega) (by omega)
          have wZ2 : IntKind.i64.wrap (X2 + Y2) = X2 + Y2 := wrap_in _ (by omega) (by omega)
          have k0 : (0 : Int) ≤ (j : Int) := by omega
          have k1 : (j : Int) < (p.2.2.length : Int) := by omega
          have k2 : (j : Int) < (q.2.2.length : Int) := by omega
          have e1 : decide ((j : Int) < (p.2.2.length : Int)) = true := decide_eq_true k1
          have hcl : (comb N M (p.2.2.take j) (q.2.2.take j)).length = j := by rw [comb_len (by rw [List.length_take, List.length_take]; omega), List.length_take]; omega
          have hsm : ∀ z ∈ comb N M (p.2.2.take j) (q.2.2.take j), Small z := fun z hz => by
            obtain ⟨x', y', hx', hy', rfl⟩ := comb_mem hz
            have := comb_abs hn' hm (times_sm HPO.out x' (List.mem_of_mem_take hx')) (times_sm HQO.out y' (List.mem_of_mem_take hy'))
            exact ⟨by omega, by omega⟩
          obtain ⟨hgle, hgc⟩ := HGG.out (CL ++ comb N M (p.2.2.take j) (q.2.2.take j)) (fun z hz => (List.mem_append.1 hz).elim (HCS.out z) (hsm z)) (X2 + Y2) ⟨by omega, by omega⟩
          rw [List.append_assoc, ← HN.out] at hgc
          have HGC := hid hgc
          obtain ⟨LS, hLS⟩ : ∃ l, comb N M (p.2.2.take j) (q.2.2.take j) = l := ⟨_, rfl⟩
          obtain ⟨LS', hLS'⟩ : ∃ l, comb N M (p.2.2.take (j + 1)) (q.2.2.take (j + 1)) = l := ⟨_, rfl⟩
          rw [hLS, hLS'] at HN
          rw [hLS] at HRB HGC hcl hgle ⊢
          rw [hLS'] at HGC
          have hcl' : LS'.length = j + 1 := by rw [HN.out, List.length_append, List.length_singleton, hcl]
          have HLS' := hid hLS'
          obtain ⟨GA, hGA⟩ : ∃ g, gcdL ((X + Y) :: (CL ++ LS)) = g := ⟨_, rfl⟩
          rw [hGA] at HGC hgle ⊢
          obtain ⟨GB, hGB⟩ : ∃ g, gcdL ((X + Y) :: (CL ++ LS')) = g := ⟨_, rfl⟩
          rw [hGB] at HGC
          have HGB := hid hGB
          have HLX : Hid (Below wr.heap.size wr (wr.alloc (.cells #[.int .i64 (X2 + Y2)] 2)).drew) := ((Below.refl _ _).alloc (Nat.le_refl _) _).drew
          have HBXA := hid (HRB.out.below HLX.out)
          have HBK2 : Hid ((wr.alloc (.cells #[.int .i64 (X2 + Y2)] 2)).drew.heap[wr.heap.size]? = some (.cells #[.int .i64 (X2 + Y2)] 2 (0, 0))) := heap_new wr _
          have HBA := hid (bel_next HBR.out HBR.out.size HLX.out)
          have hbxr := HRB.out.lt
          have hbpr : bp < wr.heap.size := Nat.lt_of_lt_of_le hbp0 HBR.out.size
          have hbqr : bq < wr.heap.size := Nat.lt_of_lt_of_le hbq0 HBR.out.size
          have ma1 : (wr.alloc (.cells #[.int .i64 (X2 + Y2)] 2)).cell? ⟨w.heap.size + 1, 2, none⟩ = some lv := HBXA.out.c1
          have HSS : Hid (∀ w' : World, Below W0.heap.size W0 w' → w'.cell? ⟨bp, op + 2, none⟩ = some (.slice (some ⟨pt1, u1, none⟩) p.2.2.length cp2) ∧ w'.cell? ⟨bq, oq + 2, none⟩ = some (.slice (some ⟨pt2, u2, none⟩) q.2.2.length cq2) ∧ w'.cell? ⟨pt1, u1 + j, none⟩ = some (.int .i64 x) ∧ w'.cell? ⟨pt2, u2 + j, none⟩ = some (.int .i64 y)) := fun w' hb' => by
            obtain ⟨x', hx', _, hxc', _⟩ := (HP.out.h2.below (Nat.le_refl _) hb').int_at j (by omega)
            obtain ⟨y', hy', _, hyc', _⟩ := (HQ.out.h2.below (Nat.le_refl _) hb').int_at j (by omega)
            rw [hx] at hx'
            rw [hy] at hy'
            cases hx'
            cases hy'
            exact ⟨cell_below hb' hbp0 p2, cell_below hb' hbq0 q2, hxc', hyc'⟩
          have HBD := hid (HBR.out.drew)
          clear hx hy hX2 hY2 hsm hgc hLS hLS' hGA hGB
          go_wp2
          refine wp_region_held_drew (S := (fun w' => w'.cell? ⟨bp, op + 2, none⟩ = some (.slice (some ⟨pt1, u1, none⟩) p.2.2.length cp2) ∧ w'.cell? ⟨bq, oq + 2, none⟩ = some (.slice (some ⟨pt2, u2, none⟩) q.2.2.length cq2) ∧ w'.cell? ⟨pt1, u1 + j, none⟩ = some (.int .i64 x) ∧ w'.cell? ⟨pt2, u2 + j, none⟩ = some (.int .i64 y))) (by kernel_rfl) (HSS.out _ HBD.out) (fun hHeld => ?_)
          refine rgH (i := 0) (oi := ?qo29) ?qh29 ?qr29
          case qh29 => (simp only [List.getElem?_toArray, List.getElem?_cons_zero]; rfl)
          (refine ⟨by kernel_rfl, by kernel_rfl, by kernel_rfl, by assumption, ?qv29, fun _ _ _ h => h, Or.inl ⟨by kernel_rfl, ?qy29⟩, ?qn29⟩; case qy29 => (intro w hSw; (try dsimp only at hSw); go_simp; try with_reducible rfl))
          (try simp only [Act.put, List.setIfInBounds_toArray, List.set_cons_zero, List.set_cons_succ])
          refine rgH (i := 2) (oi := ?qo30) ?qh30 ?qr30
          case qh30 => (simp only [List.getElem?_toArray, List.getElem?_cons_succ, List.getElem?_cons_zero]; rfl)
          (refine ⟨by kernel_rfl, by kernel_rfl, by kernel_rfl, by assumption, ?qv30, fun _ _ _ h => h, Or.inl ⟨by kernel_rfl, ?qy30⟩, ?qn30⟩; case qy30 => (intro w hSw; (try dsimp only at hSw); go_simp; try with_reducible rfl))
          refine rgH (i := 3) (oi := ?qo31) ?qh31 ?qr31
          case qh31 => (simp only [List.getElem?_toArray, List.getElem?_cons_succ, List.getElem?_cons_zero]; rfl)
          (refine ⟨by kernel_rfl, by kernel_rfl, by kernel_rfl, by assumption, ?qv31, fun _ _ _ h => h, Or.inl ⟨by kernel_rfl, ?qy31⟩, ?qn31⟩; case qy31 => (intro w hSw; (try dsimp only at hSw); go_simp; try with_reducible rfl))
          refine rgH (i := 4) (oi := ?qo32) ?qh32 ?qr32
          case qh32 => (simp only [List.getElem?_toArray, List.getElem?_cons_succ, List.getElem?_cons_zero]; rfl)
          (refine ⟨by kernel_rfl, by kernel_rfl, by kernel_rfl, by assumption, ?qv32, fun _ _ _ h => h, Or.inl ⟨by kernel_rfl, ?qy32⟩, ?qn32⟩; case qy32 => (intro w hSw; (try dsimp only at hSw); go_simp; try with_reducible rfl))
          (try simp only [Act.put, List.setIfInBounds_toArray, List.set_cons_zero, List.set_cons_succ])
          refine rgH (i := 5) (oi := ?qo33) ?qh33 ?qr33
          case qh33 => (simp only [List.getElem?_toArray, List.getElem?_cons_succ, List.getElem?_cons_zero]; rfl)
          (refine ⟨by kernel_rfl, by kernel_rfl, by kernel_rfl, by assumption, ?qv33, fun _ _ _ h => h, Or.inl ⟨by kernel_rfl, ?qy33⟩, ?qn33⟩; case qy33 => (intro w hSw; (try dsimp only at hSw); go_simp; try with_reducible rfl))
          refine rgH (i := 6) (oi := ?qo34) ?qh34 ?qr34
          case qh34 => (simp only [List.getElem?_toArray, List.getElem?_cons_succ, List.getElem?_cons_zero]; rfl)
          (refine ⟨by kernel_rfl, by kernel_rfl, by kernel_rfl, by assumption, ?qv34, fun _ _ _ h => h, Or.inl ⟨by kernel_rfl, ?qy34⟩, ?qn34⟩; case qy34 => (intro w hSw; (try dsimp only at hSw); go_simp; try with_reducible rfl))
          refine rgH (i := 7) (oi := ?qo35) ?qh35 ?qr35
          case qh35 => (simp only [List.getElem?_toArray, List.getElem?_cons_succ, List.getElem?_cons_zero]; rfl)
          (refine ⟨by kernel_rfl, by kernel_rfl, by kernel_rfl, by assumption, ?qv35, fun _ _ _ h => h, Or.inl ⟨by kernel_rfl, ?qy35⟩, ?qn35⟩; case qy35 => (intro w hSw; (try dsimp only at hSw); go_simp; try with_reducible rfl))
          refine rgH (i := 8) (oi := ?qo36) ?qh36 ?qr36
          case qh36 => (simp only [List.getElem?_toArray, List.getElem?_cons_succ, List.getElem?_cons_zero]; rfl)
          (refine ⟨by kernel_rfl, by kernel_rfl, by kernel_rfl, by assumption, ?qv36, fun _ _ _ h => h, Or.inl ⟨by kernel_rfl, ?qy36⟩, ?qn36⟩; case qy36 => (intro w hSw; (try dsimp only at hSw); go_simp; try with_reducible rfl))
          (try simp only [Act.put, List.setIfInBounds_toArray, List.set_cons_zero, List.set_cons_succ])
          refine rgH (i := 9) (oi := ?qo37) ?qh37 ?qr37
          case qh37 => (simp only [List.getElem?_toArray, List.getElem?_cons_succ, List.getElem?_cons_zero]; rfl)
          (refine ⟨by kernel_rfl, by kernel_rfl, by kernel_rfl, by assumption, ?qv37, fun _ _ _ h => h, Or.inl ⟨by kernel_rfl, ?qy37⟩, ?qn37⟩; case qy37 => (intro w hSw; (try dsimp only at hSw); go_simp; try with_reducible rfl))
          refine rgH (i := 10) (oi := ?qo38) ?qh38 ?qr38
          case qh38 => (simp only [List.getElem?_toArray, List.getElem?_cons_succ, List.getElem?_cons_zero]; rfl)
          (refine ⟨by kernel_rfl, by kernel_rfl, by kernel_rfl, by assumption, ?qv38, fun _ _ _ h => h, Or.inl ⟨by kernel_rfl, ?qy38⟩, ?qn38⟩; case qy38 => (intro w hSw; (try dsimp only at hSw); go_simp; try with_reducible rfl))
          refine rgH (i := 11) (oi := ?qo39) ?qh39 ?qr39
          case qh39 => (simp only [List.getElem?_toArray, List.getElem?_cons_succ, List.getElem?_cons_zero]; rfl)
          (refine ⟨by kernel_rfl, by kernel_rfl, by kernel_rfl, by assumption, ?qv39, fun _ _ _ h => h, Or.inl ⟨by kernel_rfl, ?qy39⟩, ?qn39⟩; case qy39 => (intro w hSw; (try dsimp only at hSw); go_simp; try with_reducible rfl))
          refine rgH (i := 12) (oi := ?qo40) ?qh40 ?qr40
          case qh40 => (simp only [List.getElem?_toArray, List.getElem?_cons_succ, List.getElem?_cons_zero]; rfl)
          (refine ⟨by kernel_rfl, by kernel_rfl, by kernel_rfl, by assumption, ?qv40, fun _ _ _ h => h, Or.inl ⟨by kernel_rfl, ?qy40⟩, ?qn40⟩; case qy40 => (intro w hSw; (try dsimp only at hSw); go_simp; try with_reducible rfl))
          (try simp only [Act.put, List.setIfInBounds_toArray, List.set_cons_zero, List.set_cons_succ])
          refine rgH (i := 13) (oi := ?qo41) ?qh41 ?qr41
          case qh41 => (simp only [List.getElem?_toArray, List.getElem?_cons_succ, List.getElem?_cons_zero]; rfl)
          (refine ⟨by kernel_rfl, by kernel_rfl, by kernel_rfl, by assumption, ?qv41, fun _ _ _ h => h, Or.inl ⟨by kernel_rfl, ?qy41⟩, ?qn41⟩; case qy41 => (intro w hSw; (try dsimp only at hSw); go_simp; try with_reducible rfl))
          refine rgH (i := 14) (oi := ?qo42) ?qh42 ?qr42
          case qh42 => (simp only [List.getElem?_toArray, List.getElem?_cons_succ, List.getElem?_cons_zero]; rfl)
          (refine ⟨by kernel_rfl, by kernel_rfl, by kernel_rfl, by assumption, ?qv42, fun _ _ _ h => h, Or.inl ⟨by kernel_rfl, ?qy42⟩, ?qn42⟩; case qy42 => (intro w hSw; (try dsimp only at hSw); go_simp; try with_reducible rfl))
          refine rgH (i := 15) (oi := ?qo43) ?qh43 ?qr43
          case qh43 => (simp only [List.getElem?_toArray, List.getElem?_cons_succ, List.getElem?_cons_zero]; rfl)
          (refine ⟨by kernel_rfl, by kernel_rfl, by kernel_rfl, by assumption, ?qv43, fun _ _ _ h => h, Or.inl ⟨by kernel_rfl, ?qy43⟩, ?qn43⟩; case qy43 => (intro w hSw; (try dsimp only at hSw); go_simp; try with_reducible rfl))
          refine rgH (i := 16) (oi := ?qo44) ?qh44 ?qr44
          case qh44 => (simp only [List.getElem?_toArray, List.getElem?_cons_succ, List.getElem?_cons_zero]; rfl)
          (refine ⟨by kernel_rfl, by kernel_rfl, by kernel_rfl, by assumption, ?qv44, fun _ _ _ h => h, Or.inl ⟨by kernel_rfl, ?qy44⟩, ?qn44⟩; case qy44 => (intro w hSw; (try dsimp only at hSw); go_simp; try with_reducible rfl))
          (try simp only [Act.put, List.setIfInBounds_toArray, List.set_cons_zero, List.set_cons_succ])
          refine rgH (i := 17) (oi := ?qo45) ?qh45 ?qr45
          case qh45 => (simp only [List.getElem?_toArray, List.getElem?_cons_succ, List.getElem?_cons_zero]; rfl)
          (refine ⟨by kernel_rfl, by kernel_rfl, by kernel_rfl, by assumption, ?qv45, fun _ _ _ h => h, Or.inl ⟨by kernel_rfl, ?qy45⟩, ?qn45⟩; case qy45 => (intro w hSw; (try dsimp only at hSw); go_simp; try with_reducible rfl))
          refine rgH (i := 18) (oi := ?qo46) ?qh46 ?qr46
          case qh46 => (simp only [List.getElem?_toArray, List.getElem?_cons_succ, List.getElem?_cons_zero]; rfl)
          (refine ⟨by kernel_rfl, by kernel_rfl, by kernel_rfl, by assumption, ?qv46, fun _ _ _ h => h, Or.inl ⟨by kernel_rfl, ?qy46⟩, ?qn46⟩; case qy46 => (intro w hSw; (try dsimp only at hSw); go_simp; try with_reducible rfl))
          refine rgH (i := 19) (oi := ?qo47) ?qh47 ?qr47
          case qh47 => (simp only [List.getElem?_toArray, List.getElem?_cons_succ, List.getElem?_cons_zero]; rfl)
          (refine ⟨by kernel_rfl, by kernel_rfl, by kernel_rfl, by assumption, ?qv47, fun _ _ _ h => h, Or.inl ⟨by kernel_rfl, ?qy47⟩, ?qn47⟩; case qy47 => (intro w hSw; (try dsimp only at hSw); go_simp; try with_reducible rfl))
          refine rgH (i := 20) (oi := ?qo48) ?qh48 ?qr48
          case qh48 => (simp only [List.getElem?_toArray, List.getElem?_cons_succ, List.getElem?_cons_zero]; rfl)
          (refine ⟨by kernel_rfl, by kernel_rfl, by kernel_rfl, by assumption, ?qv48, fun _ _ _ h => h, Or.inl ⟨by kernel_rfl, ?qy48⟩, ?qn48⟩; case qy48 => (intro w hSw; (try dsimp only at hSw); go_simp; try with_reducible rfl))
          (try simp only [Act.put, List.setIfInBounds_toArray, List.set_cons_zero, List.set_cons_succ])
          refine wpAnyH_ready (rs := [1, 21]) (by kernel_rfl) (by simp) ?_
          refine rgHcall2 (i := 1) (j := 21) (o := ?tob1) (o' := ?tob2) ?thb1 ?thb2 ?wayb1 ?wayb2
          case thb1 => (simp only [List.getElem?_toArray, List.getElem?_cons_succ, List.getElem?_cons_zero]; rfl)
          case thb2 => (simp only [List.getElem?_toArray, List.getElem?_cons_succ, List.getElem?_cons_zero]; rfl)
          case wayb1 =>
            intro K hK
            go_simp
            refine hK.out _ _ (HSS.out _ HBD.out) (fun hHeld => ?_)
            clear hK K
            (try simp only [Act.put, List.setIfInBounds_toArray, List.set_cons_zero, List.set_cons_succ])
            refine wpAnyH_ready (rs := [21]) (by kernel_rfl) (by simp) ?_
            refine rgHcall (i := 21) (o := ?qo49) ?qh49 ?qk49
            case qh49 => (simp only [List.getElem?_toArray, List.getElem?_cons_succ, List.getElem?_cons_zero]; rfl)
            intro K hK
            go_simp
            skip
            refine hK.out _ _ (HSS.out _ HBA.out) (fun hHeld => ?_)
            clear hK K
            (try simp only [Act.put, List.setIfInBounds_toArray, List.set_cons_zero, List.set_cons_succ])
            refine wpAnyH_ready (rs := [22]) (by kernel_rfl) (by simp) ?_
            refine rgHcall (i := 22) (o := ?qo50) ?qh50 ?qk50
            case qh50 => (simp only [List.getElem?_toArray, List.getElem?_cons_succ, List.getElem?_cons_zero]; rfl)
            intro K hK
            (refine step_box rfl (.tmp 108) (.tmp 128) _ rfl slI64 rfl rfl HBXA.out HBK2.out ⟨by omega, by omega⟩ (by omega) (by decide) (by decide) ?_; intro v8 w8 hc8 hf8 hrb8 hb8)
            rw [← HN.out] at hrb8
            obtain ⟨g9, cap9, z9, rfl, hz9, _, hc9, _, _, _, _, hcap9, hcap9'⟩ := hrb8.out.at hcl' j (Nat.lt_succ_self j)
            rw [HN.out, List.getElem?_append_right (Nat.le_of_eq hcl), hcl, Nat.sub_self] at hz9
            have hz9 : X2 + Y2 = z9 := Option.some.inj hz9
            subst hz9
            have HR8 := hid hrb8.out
            have HB7 := hid (HBA.out.trans (hb8.mono hz0))
            have HB8 := hid ((HBA.out.trans (hb8.mono hz0)).setCell (p := ⟨w.heap.size + 1, 2, none⟩) hz0 (.slice (some ⟨g9, 0, none⟩) (j + 1) cap9))
            clear hrb8 hb8
            refine hK.out _ _ (HSS.out _ HB7.out) (fun hHeld => ?_)
            clear hK K
            (try simp only [Act.put, List.setIfInBounds_toArray, List.set_cons_zero, List.set_cons_succ])
            refine rgH (i := 23) (oi := ?qo51) ?qh51 ?qr51
            case qh51 => (simp only [List.getElem?_toArray, List.getElem?_cons_succ, List.getElem?_cons_zero]; rfl)
            (refine ⟨by kernel_rfl, by kernel_rfl, by kernel_rfl, by assumption, ?qv51, fun _ _ _ h => h, Or.inl ⟨by kernel_rfl, ?qy51⟩, ?qn51⟩; case qy51 => (intro w hSw; (try dsimp only at hSw); go_simp; try with_reducible rfl))
            (try simp only [Act.put, List.setIfInBounds_toArray, List.set_cons_zero, List.set_cons_succ])
            refine wpAnyH_ready (rs := [24]) (by kernel_rfl) (by simp) ?_
            refine rgHcall (i := 24) (o := ?qo52) ?qh52 ?qk52
            case qh52 => (simp only [List.getElem?_toArray, List.getElem?_cons_succ, List.getElem?_cons_zero]; rfl)
            intro K hK
            go_simp
            skip
            refine hK.out _ _ (HSS.out _ HB8.out) (fun hHeld => ?_)
            clear hK K
            refine wpAnyH_done (by kernel_rfl) ?_ _
            generalize w8.setCell ⟨w.heap.size + 1, 2, none⟩ (.slice (some ⟨g9, 0, none⟩) (j + 1) cap9) = w9 at *
            have m2 := HR8.out.c1
            clear hc8 hf8
            go_wp2_with (go_at_call 54; refine (HGC.out _).mono ?_; rintro e w4 ⟨rfl, rfl⟩)
            go_roundw
            case rel => exact ⟨j + 1, _, by omega, by go_num, by rw [HLS'.out, HGB.out], by rw [HLS'.out]; exact HR8, HB8⟩
            case measure => simp [intOf]; omega
          case wayb2 =>
            intro K hK
            go_simp
            refine hK.out _ _ (HSS.out _ HBA.out) (fun hHeld => ?_)
            clear hK K
            (try simp only [Act.put, List.setIfInBounds_toArray, List.set_cons_zero, List.set_cons_succ])
            refine wpAnyH_ready (rs := [1]) (by kernel_rfl) (by simp) ?_
            refine rgHcall (i := 1) (o := ?qo53) ?qh53 ?qk53
            case qh53 => (simp only [List.getElem?_toArray, List.getElem?_cons_succ, List.getElem?_cons_zero]; rfl)
            intro K hK
            go_simp
            skip
            refine hK.out _ _ (HSS.out _ HBA.out) (fun hHeld => ?_)
            clear hK K
            (try simp only [Act.put, List.setIfInBounds_toArray, List.set_cons_zero, List.set_cons_succ])
            refine wpAnyH_ready (rs := [22]) (by kernel_rfl) (by simp) ?_
            refine rgHcall (i := 22) (o := ?qo54) ?qh54 ?qk54
            case qh54 => (simp only [List.getElem?_toArray, List.getElem?_cons_succ, List.getElem?_cons_zero]; rfl)
            intro K hK
            (refine step_box rfl (.tmp 108) (.tmp 128) _ rfl slI64 rfl rfl HBXA.out HBK2.out ⟨by omega, by omega⟩ (by omega) (by decide) (by decide) ?_; intro v8 w8 hc8 hf8 hrb8 hb8)
            rw [← HN.out] at hrb8
            obtain ⟨g9, cap9, z9, rfl, hz9, _, hc9, _, _, _, _, hcap9, hcap9'⟩ := hrb8.out.at hcl' j (Nat.lt_succ_self j)
            rw [HN.out, List.getElem?_append_right (Nat.le_of_eq hcl), hcl, Nat.sub_self] at hz9
            have hz9 : X2 + Y2 = z9 := Option.some.inj hz9
            subst hz9
            have HR8 := hid hrb8.out
            have HB7 := hid (HBA.out.trans (hb8.mono hz0))
            have HB8 := hid ((HBA.out.trans (hb8.mono hz0)).setCell (p := ⟨w.heap.size + 1, 2, none⟩) hz0 (.slice (some ⟨g9, 0, none⟩) (j + 1) cap9))
            clear hrb8 hb8
            refine hK.out _ _ (HSS.out _ HB7.out) (fun hHeld => ?_)
            clear hK K
            (try simp only [Act.put, List.setIfInBounds_toArray, List.set_cons_zero, List.set_cons_succ])
            refine rgH (i := 23) (oi := ?qo55) ?qh55 ?qr55
            case qh55 => (simp only [List.getElem?_toArray, List.getElem?_cons_succ, List.getElem?_cons_zero]; rfl)
            (refine ⟨by kernel_rfl, by kernel_rfl, by kernel_rfl, by assumption, ?qv55, fun _ _ _ h => h, Or.inl ⟨by kernel_rfl, ?qy55⟩, ?qn55⟩; case qy55 => (intro w hSw; (try dsimp only at hSw); go_simp; try with_reducible rfl))
            (try simp only [Act.put, List.setIfInBounds_toArray, List.set_cons_zero, List.set_cons_succ])
            refine wpAnyH_ready (rs := [24]) (by kernel_rfl) (by simp) ?_
            refine rgHcall (i := 24) (o := ?qo56) ?qh56 ?qk56
            case qh56 => (simp only [List.getElem?_toArray, List.getElem?_cons_succ, List.getElem?_cons_zero]; rfl)
            intro K hK
            go_simp
            skip
            refine hK.out _ _ (HSS.out _ HB8.out) (fun hHeld => ?_)
            clear hK K
            refine wpAnyH_done (by kernel_rfl) ?_ _
            generalize w8.setCell ⟨w.heap.size + 1, 2, none⟩ (.slice (some ⟨g9, 0, none⟩) (j + 1) cap9) = w9 at *
            have m2 := HR8.out.c1
            clear hc8 hf8
            go_wp2_with (go_at_call 54; refine (HGC.out _).mono ?_; rintro e w4 ⟨rfl, rfl⟩)
            go_roundw
            case rel => exact ⟨j + 1, _, by omega, by go_num, by rw [HLS'.out, HGB.out], by rw [HLS'.out]; exact HR8, HB8⟩
            case measure => simp [intOf]; omega
        · have hjn : j = n := by omega
          have hr := HRB.out
          rw [List.take_of_length_le (l := p.2.2) (by omega), List.take_of_length_le (l := q.2.2) (by omega)] at hr ⊢
          have hbl : (comb N M p.2.2 q.2.2).length = n := by rw [comb_len (by rw [HPO.out.tlen, HQO.out.tlen]), HPO.out.tlen]
          have HRAW : Hid (rawMix p q k = (X + Y, CL, comb N M p.2.2 q.2.2)) := by unfold Hid rawMix; rw [HMM.out, HNN.out, HXY.out, HCL.out]
          have HRO := hid (raw_ok HPO.out HQO.out hpq)
          rw [HRAW.out] at HRO
          obtain ⟨BY, hBY⟩ : ∃ l, comb N M p.2.2 q.2.2 = l := ⟨_, rfl⟩
          rw [hBY] at hr hbl HRAW HRO ⊢
          have hn1 : 1 ≤ n := by
            obtain ⟨z, hz, _⟩ := HRO.out.pos
            have h9 : 0 < BY.length := List.length_pos_of_mem hz
            omega
          obtain ⟨gt, capt, _, hvt, _, _, _, _, _, _, hgtb, hct, hct'⟩ := hr.at hbl 0 (by omega)
          subst hvt
          have hr2 := hr.swap
          obtain ⟨gl, capl, _, hvl, _, _, _, _, _, _, hglb, hcl, hcl'⟩ := hr2.at HCLl.out 0 (by omega)
          subst hvl
          have hgp := rowG_pos HRO.out
          have hge : gcdL ((X + Y) :: (CL ++ BY)) = rowG (X + Y, CL, BY) := by unfold rowG; rw [List.cons_append]
          rw [hge]
          obtain ⟨G2, hG2⟩ : ∃ x, rowG (X + Y, CL, BY) = x := ⟨_, rfl⟩
          rw [hG2] at hgp ⊢
          have HG2 := hid hG2
          have hG2i : ((G2 : Nat) : Int) ≠ 0 := by omega
          have hG2b : (((G2 : Nat) : Int) == 0) = false := by simpa using hG2i
          have hcb := HRO.out.c
          simp only at hcb
          obtain ⟨C2, hC2⟩ : ∃ x, (X + Y).tdiv (G2 : Int) = x := ⟨_, rfl⟩
          have hC2b : C2.natAbs ≤ 2000000000000 := by rw [← hC2, Int.natAbs_tdiv]; exact Nat.le_trans (Nat.div_le_self _ _) (by omega)
          have wC2 : IntKind.i64.wrap ((X + Y).tdiv (G2 : Int)) = C2 := by rw [hC2]; exact wrap_in _ (by omega) (by omega)
          have HC2 := hid hC2
          have m0 := hr2.c0
          have f0 := hr2.fr 0
          have HR2 := hid (hr2.setC C2 (by decide) (by decide))
          have HB2 := hid (HBR.out.setCell (p := ⟨w.heap.size + 1, 0, none⟩) hz0 (.int .i64 C2))
          have n0 := HR2.out.c0
          have d1' : wr.cell? ⟨bp, op + 2, none⟩ = some (.slice ap2 p.2.2.length cp2) := d1
          have HBYl := hid hbl
          clear hr hr2 hbl hBY hG2 hC2 hge hjn m1 mf d2 HRB
          go_wp2_with (go_at_call 44; refine (c_l02Number _ _).mono ?_; rintro e w5 ⟨rfl, rfl⟩)
          clear n0 m0 f0
          generalize decide (j < p.2.2.length) = q104
          generalize wr.setCell ⟨w.heap.size + 1, 0, none⟩ (.int .i64 C2) = W3 at *
          clear d1 d1' HBR
          have HFB0 : Hid (inB C2 (-1000000) 1000000 = (inB C2 (-1000000) 1000000 && allIn ((divL G2 CL).take 0) (-1000000) 1000000)) := by unfold Hid; rw [List.take_zero]; simp [allIn]
          obtain ⟨fc, hfc⟩ : ∃ x, inB C2 (-1000000) 1000000 = x := ⟨_, rfl⟩
          rw [hfc] at HFB0 ⊢
          have HFC := hid hfc
          clear hfc
          obtain ⟨wo3, rfl⟩ : ∃ x : World, x = wr := ⟨_, rfl⟩
          go_loopw [15, 14] (fun i f wr => ∃ (j : Nat) (LL : List Int) (fb : Bool), j ≤ 10 ∧ i = .int .i64 j ∧ f = .bool fb ∧ Hid (LL = divP G2 CL j) ∧ Hid (fb = (fc && allIn ((divL G2 CL).take j) (-1000000) 1000000)) ∧ Hid (RBox wr (w.heap.size + 1) (w.heap.size + 1) 2 C2 1 2 (.slice (some ⟨gl, 0, none⟩) 10 capl) (.slice (some ⟨gt, 0, none⟩) n capt) LL BY) ∧ Hid (Below W0.heap.size W0 wr)) (fun i _ _ => 10 - (intOf i).toNat)
          case atStart => exact ⟨0, CL, fc, Nat.zero_le _, rfl, rfl, (divP_zero _ _).symm, HFB0, HR2, HB2⟩
          case round =>
            clear HR2 HB2 HFB0
            obtain ⟨j, LL, fb, hj, rfl, rfl, HLL, HFB, HRB, HBR⟩ := hrel
            have m1 := HRB.out.c1
            by_cases hlt : j < 10
            · have hLL : LL.length = 10 := by rw [HLL.out, divP_len, HCLl.out]
              obtain ⟨g', cap', z, hv, hz, hz1, hzc, hzf, _, hgB, _, _, _⟩ := HRB.out.at hLL j hlt
              cases hv
              have hzv : CL[j]? = some z := by rw [← divP_at (g := G2) (by rw [HCLl.out]; omega), ← HLL.out]; exact hz
              have hzb : -2000000000000 ≤ z ∧ z ≤ 2000000000000 := HRO.out.ls z (List.mem_of_getElem? hzv)
              obtain ⟨D, hD⟩ : ∃ x, z.tdiv (G2 : Int) = x := ⟨_, rfl⟩
              have hDb : D.natAbs ≤ 2000000000000 := by rw [← hD, Int.natAbs_tdiv]; exact Nat.le_trans (Nat.div_le_self _ _) (by omega)
              have wD : IntKind.i64.wrap (z.tdiv (G2 : Int)) = D := by rw [hD]; exact wrap_in _ (by omega) (by omega)
              have HSET := hid (HRB.out.set hLL j hlt D ⟨by omega, by omega⟩)
              have HPS : Hid (LL.set j D = divP G2 CL (j + 1)) := by unfold Hid; rw [HLL.out, ← hD]; exact divP_set hzv
              have HFN : Hid ((fb && inB D (-1000000) 1000000) = (fc && allIn ((divL G2 CL).take (j + 1)) (-1000000) 1000000)) := by
                unfold Hid
                rw [allIn_snoc (divL_at hzv), HFB.out, hD, Bool.and_assoc]
              have n1 := HSET.out.c1
              have n2 : (wr.setCell ⟨gl, j, none⟩ (.int .i64 D)).cell? ⟨gl, j, none⟩ = some (.int .i64 D) := World.cell?_setCell_same _ _ _ hzc
              have HB3 := hid (HBR.out.setCell (p := ⟨gl, j, none⟩) (by show W0.heap.size ≤ gl; omega) (.int .i64 D))
              have k0 : (0 : Int) ≤ (j : Int) := by omega
              have k1 : (j : Int) < 10 := by omega
              have e3 : decide ((j : Int) < 10) = true := decide_eq_true k1
              clear hz hzv hD HLL hLL HFB HRB
              cases fb with
              | true =>
                go_wp2_with (go_at_call 44; refine (c_l02Number _ _).mono ?_; rintro e w5 ⟨rfl, rfl⟩)
                go_roundw
                case rel => exact ⟨j + 1, _, inB D (-1000000) 1000000, by omega, by go_num, rfl, HPS, (by have := HFN.out; rw [Bool.true_and] at this; exact this), HSET, HB3⟩
                case measure => simp [intOf]; omega
              | false =>
                go_wp2
                go_roundw
                case rel => exact ⟨j + 1, _, false, by omega, by go_num, rfl, HPS, (by have := HFN.out; rw [Bool.false_and] at this; exact this), HSET, HB3⟩
                case measure => simp [intOf]; omega
            · have hj10 : j = 10 := by omega
              have HLE : Hid (LL = divL G2 CL) := by unfold Hid; rw [HLL.out]; exact divP_end _ _ (by rw [HCLl.out]; omega)
              have HFE : Hid (fb = (fc && allIn (divL G2 CL) (-1000000) 1000000)) := by unfold Hid; rw [HFB.out, List.take_of_length_le (by rw [divL_len, HCLl.out]; omega)]
              have HFB0 : Hid (fb = (fb && allIn ((divL G2 BY).take 0) (-1000000) 1000000)) := (Bool.and_true fb).symm
              have HR3 := HRB
              have HB3 := HBR
              have e3 : decide ((j : Int) < 10) = false := decide_eq_false (by omega)
              clear HLL HFB hj10 HRB
              go_wp2
              clear HBR m1 e3
              generalize decide (j < 10) = q150
              obtain ⟨wo4, rfl⟩ : ∃ x : World, x = wr := ⟨_, rfl⟩
              obtain ⟨fd, hfd⟩ : ∃ x, x = fb := ⟨_, rfl⟩
              subst hfd
              go_loopw [16, 14] (fun i f wr => ∃ (j : Nat) (YY : List Int) (fb : Bool), j ≤ n ∧ i = .int .i64 j ∧ f = .bool fb ∧ Hid (YY = divP G2 BY j) ∧ Hid (fb = (fd && allIn ((divL G2 BY).take j) (-1000000) 1000000)) ∧ Hid (RBox wr (w.heap.size + 1) (w.heap.size + 1) 2 C2 1 2 (.slice (some ⟨gl, 0, none⟩) 10 capl) (.slice (some ⟨gt, 0, none⟩) n capt) LL YY) ∧ Hid (Below W0.heap.size W0 wr)) (fun i _ _ => n - (intOf i).toNat)
              case atStart => exact ⟨0, BY, fd, Nat.zero_le _, rfl, rfl, (divP_zero _ _).symm, HFB0, HR3, HB3⟩
              case round =>
                clear HR3 HB3 HFB0
                obtain ⟨j, YY, fb, hj, rfl, rfl, HLL, HFB, HRB, HBR⟩ := hrel
                have m1 := HRB.out.c2
                by_cases hlt : j < n
                · have hLL : YY.length = n := by rw [HLL.out, divP_len, HBYl.out]
                  obtain ⟨g', cap', z, hv, hz, hz1, hzc, hzf, _, hgB, _, _, _⟩ := HRB.out.swap.at hLL j hlt
                  cases hv
                  have hzv : BY[j]? = some z := by rw [← divP_at (g := G2) (by rw [HBYl.out]; omega), ← HLL.out]; exact hz
                  have hzb : -2000000000000 ≤ z ∧ z ≤ 2000000000000 := (by have h7 := HRO.out.ts z (List.mem_of_getElem? hzv); exact ⟨by omega, h7.2⟩)
                  obtain ⟨D, hD⟩ : ∃ x, z.tdiv (G2 : Int) = x := ⟨_, rfl⟩
                  have hDb : D.natAbs ≤ 2000000000000 := by rw [← hD, Int.natAbs_tdiv]; exact Nat.le_trans (Nat.div_le_self _ _) (by omega)
                  have wD : IntKind.i64.wrap (z.tdiv (G2 : Int)) = D := by rw [hD]; exact wrap_in _ (by omega) (by omega)
                  have HSET := hid (HRB.out.swap.set hLL j hlt D ⟨by omega, by omega⟩).swap
                  have HPS : Hid (YY.set j D = divP G2 BY (j + 1)) := by unfold Hid; rw [HLL.out, ← hD]; exact divP_set hzv
                  have HFN : Hid ((fb && inB D (-1000000) 1000000) = (fd && allIn ((divL G2 BY).take (j + 1)) (-1000000) 1000000)) := by
                    unfold Hid
                    rw [allIn_snoc (divL_at hzv), HFB.out, hD, Bool.and_assoc]
                  have n1 := HSET.out.c2
                  have n2 : (wr.setCell ⟨gt, j, none⟩ (.int .i64 D)).cell? ⟨gt, j, none⟩ = some (.int .i64 D) := World.cell?_setCell_same _ _ _ hzc
                  have HB3 := hid (HBR.out.setCell (p := ⟨gt, j, none⟩) (by show W0.heap.size ≤ gt; omega) (.int .i64 D))
                  have k0 : (0 : Int) ≤ (j : Int) := by omega
                  have k1 : (j : Int) < n := by omega
                  have e3 : decide ((j : Int) < n) = true := decide_eq_true k1
                  clear hz hzv hD HLL hLL HFB HRB
                  cases fb with
                  | true =>
                    go_wp2_with (go_at_call 44; refine (c_l02Number _ _).mono ?_; rintro e w5 ⟨rfl, rfl⟩)
                    go_roundw
                    case rel => exact ⟨j + 1, _, inB D (-1000000) 1000000, by omega, by go_num, rfl, HPS, (by have := HFN.out; rw [Bool.true_and] at this; exact this), HSET, HB3⟩
                    case measure => simp [intOf]; omega
                  | false =>
                    go_wp2
                    go_roundw
                    case rel => exact ⟨j + 1, _, false, by omega, by go_num, rfl, HPS, (by have := HFN.out; rw [Bool.false_and] at this; exact this), HSET, HB3⟩
                    case measure => simp [intOf]; omega
                · have hjn : j = n := by omega
                  have HYE : Hid (YY = divL G2 BY) := by unfold Hid; rw [HLL.out]; exact divP_end _ _ (by rw [HBYl.out]; omega)
                  have HFE2 : Hid (fb = (fd && allIn (divL G2 BY) (-1000000) 1000000)) := by unfold Hid; rw [HFB.out, List.take_of_length_le (by rw [divL_len, HBYl.out]; omega)]
                  have HMX : Hid (mixF p q k = (C2, LL, YY)) := by
                    unfold Hid mixF
                    rw [HRAW.out, HG2.out, HLE.out, HYE.out]
                    show ((X + Y).tdiv G2, divL G2 CL, divL G2 BY) = _
                    rw [HC2.out]
                  have HFX : Hid (fineB (mixF p q k) = fb) := by
                    unfold Hid
                    rw [HMX.out, HFE2.out, HFE.out, ← HFC.out, HLE.out, HYE.out]; rfl
                  have e3 : decide ((j : Int) < (n : Int)) = false := decide_eq_false (by omega)
                  have hbk := (HBR.out.block w.heap.size (by omega)).trans HBK.out
                  have r0 := cell_of hbk (j := 0) rfl
                  have r1 := cell_of hbk (j := 1) rfl
                  have r2 := cell_of hbk (j := 2) rfl
                  have rf0 := frz_of hbk 0
                  have rf1 := frz_of hbk 1
                  have rf2 := frz_of hbk 2
                  have x0 := HRB.out.c0
                  have x1 := HRB.out.c1
                  obtain ⟨al, cl', hal, hsl⟩ := HRB.out.len
                  obtain ⟨at', ct', hat, hst⟩ := HRB.out.swap.len
                  have hLLl : LL.length = 10 := by rw [HLE.out, divL_len, HCLl.out]
                  have hYYl : YY.length = n := by rw [HYE.out, divL_len, HBYl.out]
                  rw [hLLl] at hal
                  rw [hYYl] at hat
                  injection hal with hal1 _ hal3
                  injection hat with hat1 _ hat3
                  subst hal1 hal3 hat1 hat3
                  have HSL := hid hsl
                  have HST := hid hst
                  have hbk3 := hid (blk_set (blk_set (blk_set hbk 0 (.int .i64 C2)) 1 (.slice (some ⟨gl, 0, none⟩) 10 capl)) 2 (.slice (some ⟨gt, 0, none⟩) n capt))
                  have HBF : Hid (Below w.heap.size w (((wr.setCell ⟨w.heap.size, 0, none⟩ (.int .i64 C2)).setCell ⟨w.heap.size, 1, none⟩ (.slice (some ⟨gl, 0, none⟩) 10 capl)).setCell ⟨w.heap.size, 2, none⟩ (.slice (some ⟨gt, 0, none⟩) n capt))) := (((HB0.out.trans (HBR.out.mono (by omega))).setCell (Nat.le_refl _) _).setCell (Nat.le_refl _) _).setCell (Nat.le_refl _) _
                  clear hjn HLL HFB hbk HRB hsl hst
                  go_wp2
                  have k0 := cell_of hbk3.out (j := 0) (u := .int .i64 C2) rfl
                  have k1 := cell_of hbk3.out (j := 1) (u := .slice (some ⟨gl, 0, none⟩) 10 capl) rfl
                  have k2 := cell_of hbk3.out (j := 2) (u := .slice (some ⟨gt, 0, none⟩) n capt) rfl
                  have hblk : ∀ b, w.heap.size + 1 ≤ b → (((wr.setCell ⟨w.heap.size, 0, none⟩ (.int .i64 C2)).setCell ⟨w.heap.size, 1, none⟩ (.slice (some ⟨gl, 0, none⟩) 10 capl)).setCell ⟨w.heap.size, 2, none⟩ (.slice (some ⟨gt, 0, none⟩) n capt)).heap[b]? = wr.heap[b]? := fun b hb => by
                    rw [heap_setCell_ne _ _ _ (by show b ≠ w.heap.size; omega), heap_setCell_ne _ _ _ (by show b ≠ w.heap.size; omega), heap_setCell_ne _ _ _ (by show b ≠ w.heap.size; omega)]
                  refine bodyPost_ret (v := .tuple #[.agg #[.int .i64 C2, .slice (some ⟨gl, 0, none⟩) 10 capl, .slice (some ⟨gt, 0, none⟩) n capt], .bool fb]) (by simp [results, Try.results47, go_sem, k0, k1, k2]) rfl ?_
                  rw [HFX.out, HMX.out]
                  refine ⟨some ⟨gl, 0, none⟩, capl, some ⟨gt, 0, none⟩, capt, by simp only [hLLl, hYYl], ?_, ?_, HBF.out⟩
                  · exact HSL.out.keep fun b hb hl => ⟨⟨Nat.le_of_succ_le hb.1, by simpa [size_set] using hl⟩, hblk b hb.1⟩
                  · exact HST.out.keep fun b hb hl => ⟨⟨Nat.le_of_succ_le hb.1, by simpa [size_set] using hl⟩, hblk b hb.1⟩
end Go.Proofs.Ytkckhnpdodbffaa
