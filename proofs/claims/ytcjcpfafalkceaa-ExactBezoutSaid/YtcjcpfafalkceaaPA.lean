/- Powers: the program's power. -/
import Derived.Test.YtcjcpfafalkceaaPj
import Derived.Test.YtcjcpfafalkceaaRJ
import Derived.Test.YtcjcpfafalkceaaO
import Derived.Test.YtcjcpfafalkceaaZD
set_option linter.unusedVariables false
set_option linter.unusedSimpArgs false
namespace Go.Proofs.Ytcjcpfafalkceaa
open Go.RowKit
/-- A power of a whole number. -/
def zpow (x : Int) (n : Nat) : Int := x ^ n
theorem zpow_zero (x : Int) : zpow x 0 = 1 := Int.pow_zero x
theorem zpow_succ (x : Int) (n : Nat) : zpow x (n + 1) = zpow x n * x := Int.pow_succ x n
/-- What power leaves. -/
def RetPow (x : Int) (n most : Nat) (w : World) (e : Ending) (w' : World) : Prop := ∃ (z : Int) (ok : Bool) (A : Option Addr) (c : Nat), e = .returned (.tuple #[.agg #[.bool (decide (z < 0)), .slice A (ln z.natAbs) c], .bool ok]) ∧ NN w' A c z.natAbs ∧ Below w.heap.size w w' ∧
  (ok = true → z = zpow x n) ∧ (ok = false → most < ln (zpow x n).natAbs) ∧ ln z.natAbs ≤ most + ln x.natAbs + 1
theorem pow_small {x : Int} (h : x.natAbs ≤ 1) {n : Nat} (hn : 0 < n) : zpow x n = if x < 0 ∧ n % 2 = 0 then x * x else x := by
  unfold zpow
  have hx : x = 0 ∨ x = 1 ∨ x = -1 := by omega
  rcases hx with rfl | rfl | rfl
  · rw [if_neg (by omega), Int.zero_pow (by omega)]
  · rw [if_neg (by omega), Int.one_pow]
  · rcases Nat.mod_two_eq_zero_or_one n with h0 | h0
    · rw [if_pos ⟨by omega, h0⟩]
      obtain ⟨k, rfl⟩ : ∃ k, n = 2 * k := ⟨n / 2, by omega⟩
      rw [Int.pow_mul, show (-1 : Int) ^ 2 = 1 from rfl, Int.one_pow]
      rfl
    · rw [if_neg (by omega)]
      obtain ⟨k, rfl⟩ : ∃ k, n = 2 * k + 1 := ⟨n / 2, by omega⟩
      rw [Int.pow_succ, Int.pow_mul, show (-1 : Int) ^ 2 = 1 from rfl, Int.one_pow]
      rfl
theorem pow_grow {x : Int} (h : 1 < x.natAbs) {i n : Nat} (hi : i ≤ n) : ln (zpow x i).natAbs ≤ ln (zpow x n).natAbs := by
  unfold zpow
  rw [Int.natAbs_pow, Int.natAbs_pow]
  exact ln_mono (Nat.pow_le_pow_right (by omega) hi)
theorem small_one (w : World) : Calls Try.prog 78 #[.int .u64 1] w (Got w (isN 1).p) := (small_calls 1 (by decide) w).mono fun e w' h => h.got
set_option maxHeartbeats 200000 in
set_option maxRecDepth 100000 in
theorem power_calls (x : Int) (n most : Nat) (A1 : Option Addr) (c1 : Nat) (w : World) (h1 : NN w A1 c1 x.natAbs) (l1 : ln x.natAbs ≤ 1000) (ln_ : n ≤ 1000000) (lm : most ≤ 1000) :
    Calls Try.prog 80 #[.agg #[.bool (decide (x < 0)), .slice A1 (ln x.natAbs) c1], .int .i64 (n : Int), .int .i64 (most : Int)] w (RetPow x n most w) := by
  have H1 := Hd.mk h1
  clear h1
  obtain ⟨b1, hb1⟩ : ∃ b, b = decide (x < 0) := ⟨_, rfl⟩
  have HB1 := Hd.mk hb1
  rw [← hb1]
  clear hb1
  go_enter Try.func80, Try.ntmps80
  go_wp2_with fail
  obtain ⟨W0, hW0⟩ : ∃ W : World, W = (w.alloc (.cells #[.bool b1, .slice A1 (ln x.natAbs) c1] 70)).alloc (.cells #[.bool false, .slice none 0 0] 70) := ⟨_, rfl⟩
  rw [← hW0]
  obtain ⟨hX, hR, hbw⟩ := boxes2 hW0
  have HW := Hd.mk hbw
  have QX := Hd.mk hX
  have QR := Hd.mk hR
  have HNX := Hd.mk (H1.out.to hbw)
  clear hW0 hX hR hbw
  refine (ofInt_calls 1 _ (by omega) (by omega)).mono ?_
  rintro e w1 ⟨A2, c2, rfl, hn2, hb2⟩
  go_wp2_with fail
  obtain ⟨W1, hW1⟩ : ∃ W : World, W = w1.alloc (.cells #[.bool false, .slice A2 (ln 1) c2] 70) := ⟨_, rfl⟩
  rw [← hW1]
  have HO1 : Hd (HZ W1 w1.heap.size 70 1) := ⟨by rw [hW1]; exact ⟨A2, c2, heap_alloc_new _ _, hn2.to (below_alloc (Below.refl _ _) _)⟩⟩
  have HB : Hd (Below W0.heap.size W0 W1) := ⟨by rw [hW1]; exact below_alloc hb2 _⟩
  have HG : Hd (W0.heap.size ≤ w1.heap.size) := ⟨hb2.size⟩
  obtain ⟨g8, hg8⟩ : ∃ g, g = w1.heap.size := ⟨_, rfl⟩
  rw [← hg8] at HO1 HG ⊢
  clear hW1 hg8 hn2 hb2
  have HSX : Hd (w.heap.size + 1 < W0.heap.size) := ⟨QR.out.lt⟩
  have hln0 : ln x.natAbs ≤ 1000 := l1
  go_loopw [1] (fun s1 wr => ∃ (k i : Nat), s1 = .int .i64 (k : Int) ∧ i + k = n ∧ (i = 0 ∨ 1 < x.natAbs) ∧ HZ wr g8 70 (zpow x i) ∧ ln (zpow x i).natAbs ≤ most + 1 ∧ Below W0.heap.size W0 wr) (fun s1 _ => (intOf s1).toNat)
  case atStart => exact ⟨n, 0, rfl, by omega, .inl rfl, by rw [zpow_zero]; exact HO1.out, by rw [zpow_zero]; have := ln_word (d := 1) (by omega); show ln 1 ≤ _; omega, HB.out⟩
  case round =>
    obtain ⟨k, i, rfl, hik, hi0, hz, hlz, hbel⟩ := hrel
    have HIK := Hd.mk hik
    have HI0 := Hd.mk hi0
    have HBW := Hd.mk hbel
    have HZI := Hd.mk hz
    have hkl : k ≤ 1000000 := by omega
    clear hik hi0 hbel hz HO1 HB
    by_cases hk : k = 0
    · subst hk
      have hin : i = n := by have := HIK.out; omega
      rw [hin] at HZI hlz
      obtain ⟨A3, c3, hB3, hn3⟩ := HZI.out
      have HN := Hd.mk hn3
      have x0 := hB3.c0
      have x1 := hB3.c1
      have g0 := (QR.out.to HBW.out).c0
      have g1 := (QR.out.to HBW.out).c1
      have u0 := (QR.out.to HBW.out).f0
      have u1 := (QR.out.to HBW.out).f1
      clear hin HIK HI0 HZI hB3 hn3
      go_wp2_with fail
      have HB := HBW
      obtain ⟨k0, k1, k2⟩ := two_set g0 g1 (.bool (decide (zpow x n < 0))) (.slice A3 (ln (zpow x n).natAbs) c3)
      refine bodyPost_ret (v := .tuple #[.agg #[.bool (decide (zpow x n < 0)), .slice A3 (ln (zpow x n).natAbs) c3], .bool true]) (by simp [results, Try.results80, go_sem, k0, k1]) rfl ?_
      exact ⟨zpow x n, true, A3, c3, rfl, ((HN.out.set_ g0 (by intro t; simp) _).set_ k2 (by intro t; simp) _), (by repeat (first | exact bel_then HW.out HB.out | refine below_set ?_ (by first | exact Nat.le_refl _ | omega | (simp; done) | (simp; omega)) _ | refine below_alloc ?_ _ | refine below_drewN ?_ _ | refine below_drew ?_)), fun _ => rfl, (fun h => by cases h), by omega⟩
    · have hk0 : (0 : Int) < (k : Int) := by omega
      clear hk
      go_wp2_with fail
      refine wp_region_vs 5 [14, 15, 16, 17, 18] [0, 4] [] 70 [.bool false, .slice none 0 0] [isV (.pointer (some ⟨w.heap.size, 1, none⟩)), isN x.natAbs, isN 1, isV (.int .i64 (cmpv x.natAbs 1)), isV (.bool (decide (cmpv x.natAbs 1 ≤ 0)))] (by kernel_rfl) (by kernel_rfl) (by kernel_rfl) (by rfl) alloc_whole (fun d v c a w h => by cases d <;> exact h) ?_ ?_
      · intro j hj hA a wx hb hs hd
        have HX : HZ wx w.heap.size 70 x := by
          have := (QX.out.to (bel_then HBW.out hb))
          rw [HB1.out] at this
          exact ⟨_, _, this, HNX.out.to (bel_then HBW.out hb)⟩
        match j, hj, hA with
        | 0, _, _ => exact ⟨_, op_fieldW rfl (hs 3 rfl), rfl⟩
        | 1, _, _ => exact op_magW rfl rfl (hd 0 rfl) HX
        | 2, _, _ => exact op_call1 rfl rfl Try.call78 (small_one wx)
        | 3, _, _ => exact op_call2 rfl rfl Try.call115 (n2 (fun A1 c1 A2 c2 h1 h2 => cmp_calls A1 c1 x.natAbs A2 c2 1 wx h1 h2) (fun e w' h => drew_got h) (hd 1 rfl) (hd 2 rfl))
        | 4, _, _ => exact ⟨_, op_leq0 rfl (hd 3 rfl), rfl⟩
        | j + 5, h, _ => omega
      · intro vs wx hb hv hal hne
        have e18 : vs 18 = .bool (decide (cmpv x.natAbs 1 ≤ 0)) := hv 4 (by decide) rfl
        simp only [putAll, List.foldl_cons, List.foldl_nil, Act.put, List.setIfInBounds_toArray, List.set_cons_succ, List.set_cons_zero, List.drop_succ_cons, List.drop_zero, e18]
        generalize vs 14 = s14
        generalize vs 15 = s15
        generalize vs 16 = s16
        generalize vs 17 = s17
        have HBX : Hd (Below W0.heap.size W0 wx) := ⟨bel_then HBW.out hb⟩
        have HZX := Hd.mk (HZI.out.to hb)
        clear hv hal hne e18 hb HBW HZI
        have HB := HBX
        have q0 := (QX.out.to HB.out).c0
        have q1 := (QX.out.to HB.out).c1
        have g0 := (QR.out.to HB.out).c0
        have g1 := (QR.out.to HB.out).c1
        have u0 := (QR.out.to HB.out).f0
        have u1 := (QR.out.to HB.out).f1
        have HNY := Hd.mk (HNX.out.to HB.out)
        by_cases hx1 : x.natAbs ≤ 1
        · have hd1 : decide (cmpv x.natAbs 1 ≤ 0) = true := decide_eq_true (cmpv_le hx1)
          rw [hd1]
          have hi : i = 0 := by rcases HI0.out with h | h <;> omega
          have hkn : k = n := by have := HIK.out; omega
          subst hkn
          have hps := pow_small (x := x) hx1 (show 0 < k by omega)
          by_cases hneg : x < 0 ∧ k % 2 = 0
          · have HPS : Hd (zpow x k = x * x) := ⟨by rw [hps, if_pos hneg]⟩
            have hb1t : b1 = true := by rw [HB1.out]; exact decide_eq_true hneg.1
            have hk2 : ((k : Int) % 2 == 0) = true := by rw [beq_iff_eq]; omega
            have HM := Hd.mk (wmul_calls x x A1 c1 A1 c1 wx HNY.out HNY.out (by omega) (by omega))
            rw [← HB1.out] at HM
            subst hb1t
            have hlm : ln (x * x).natAbs ≤ ln x.natAbs + 1 := by
              rw [Int.natAbs_mul]
              refine Nat.le_trans (ln_mul _ _) ?_
              have : ln x.natAbs ≤ 1 := ln_word (by omega)
              omega
            clear hx1 hd1 hi hps hneg
            go_wp2_with fail
            refine HM.out.mono ?_
            rintro e w5 ⟨A5, c5, rfl, hn5, hb5⟩
            have HN5 := Hd.mk hn5
            replace HB := Hd.mk (bel_then HB.out hb5)
            clear hn5 hb5 q0 q1 g0 g1 u0 u1
            have g0 := (QR.out.to HB.out).c0
            have g1 := (QR.out.to HB.out).c1
            have u0 := (QR.out.to HB.out).f0
            have u1 := (QR.out.to HB.out).f1
            obtain ⟨zz, hzz⟩ : ∃ z, z = x * x := ⟨_, rfl⟩
            rw [← hzz] at HPS HN5 hlm ⊢
            clear hzz
            go_wp2_with fail
            obtain ⟨k0, k1, k2⟩ := two_set g0 g1 (.bool (decide (zz < 0))) (.slice A5 (ln zz.natAbs) c5)
            refine bodyPost_ret (v := .tuple #[.agg #[.bool (decide (zz < 0)), .slice A5 (ln zz.natAbs) c5], .bool true]) (by simp [results, Try.results80, go_sem, k0, k1]) rfl ?_
            exact ⟨zz, true, A5, c5, rfl, ((HN5.out.set_ g0 (by intro t; simp) _).set_ k2 (by intro t; simp) _), (by repeat (first | exact bel_then HW.out HB.out | refine below_set ?_ (by first | exact Nat.le_refl _ | omega | (simp; done) | (simp; omega)) _ | refine below_alloc ?_ _ | refine below_drewN ?_ _ | refine below_drew ?_)), fun _ => HPS.out.symm, (fun h => by cases h), by omega⟩
          · have HPS : Hd (zpow x k = x) := ⟨by rw [hps, if_neg hneg]⟩
            have hk2 : b1 = true → ((k : Int) % 2 == 0) = false := fun h => by
              rw [beq_eq_false_iff_ne]
              have : x < 0 := by rw [h] at HB1; exact of_decide_eq_true HB1.out.symm
              omega
            clear hx1 hd1 hi hps hneg
            rcases b1 with _ | _
            · clear hk2
              go_wp2_with fail
              obtain ⟨k0, k1, k2⟩ := two_set g0 g1 (.bool false) (.slice A1 (ln x.natAbs) c1)
              refine bodyPost_ret (v := .tuple #[.agg #[.bool false, .slice A1 (ln x.natAbs) c1], .bool true]) (by simp [results, Try.results80, go_sem, k0, k1]) rfl ?_
              exact ⟨x, true, A1, c1, by rw [← HB1.out], ((HNY.out.set_ g0 (by intro t; simp) _).set_ k2 (by intro t; simp) _), (by repeat (first | exact bel_then HW.out HB.out | refine below_set ?_ (by first | exact Nat.le_refl _ | omega | (simp; done) | (simp; omega)) _ | refine below_alloc ?_ _ | refine below_drewN ?_ _ | refine below_drew ?_)), fun _ => HPS.out.symm, (fun h => by cases h), by omega⟩
            · have hk2 := hk2 rfl
              go_wp2_with fail
              obtain ⟨k0, k1, k2⟩ := two_set g0 g1 (.bool true) (.slice A1 (ln x.natAbs) c1)
              refine bodyPost_ret (v := .tuple #[.agg #[.bool true, .slice A1 (ln x.natAbs) c1], .bool true]) (by simp [results, Try.results80, go_sem, k0, k1]) rfl ?_
              exact ⟨x, true, A1, c1, by rw [← HB1.out], ((HNY.out.set_ g0 (by intro t; simp) _).set_ k2 (by intro t; simp) _), (by repeat (first | exact bel_then HW.out HB.out | refine below_set ?_ (by first | exact Nat.le_refl _ | omega | (simp; done) | (simp; omega)) _ | refine below_alloc ?_ _ | refine below_drewN ?_ _ | refine below_drew ?_)), fun _ => HPS.out.symm, (fun h => by cases h), by omega⟩
        · have hd1 : decide (cmpv x.natAbs 1 ≤ 0) = false := decide_eq_false (by rw [cmpv_gt (by omega)]; omega)
          rw [hd1]
          have HX1 : Hd (1 < x.natAbs) := ⟨by omega⟩
          obtain ⟨A3, c3, hB3, hn3⟩ := HZX.out
          have HN3 := Hd.mk hn3
          have HB3 := Hd.mk hB3
          have x0 := hB3.c0
          have x1 := hB3.c1
          have HM := Hd.mk (wmul_calls (zpow x i) x A3 c3 A1 c1 wx hn3 HNY.out (by omega) (by omega))
          rw [← HB1.out, ← zpow_succ] at HM
          clear hx1 hd1 hB3 hn3 HZX
          go_wp2_with fail
          refine HM.out.mono ?_
          rintro e w5 ⟨A5, c5, rfl, hn5, hb5⟩
          have HK5 := Hd.mk (HB3.out.to hb5)
          have HN5 := Hd.mk hn5
          replace HB := Hd.mk (bel_then HB.out hb5)
          clear HB3 HN3 q0 q1 x0 x1 g0 g1 u0 u1 hb5
          have hlz5 : ln (zpow x (i + 1)).natAbs ≤ most + 1 + ln x.natAbs := by
            rw [zpow_succ, Int.natAbs_mul]
            exact Nat.le_trans (ln_mul _ _) (by omega)
          have x0 := HK5.out.c0
          have x1 := HK5.out.c1
          have y0 := HK5.out.f0
          have y1 := HK5.out.f1
          obtain ⟨zz, hzz⟩ : ∃ z, z = zpow x (i + 1) := ⟨_, rfl⟩
          have HZZ := Hd.mk hzz
          rw [← hzz] at HN5 hn5 hlz5 ⊢
          clear hzz hlz
          go_upto_region 9 with fail
          obtain ⟨W9, hW9⟩ : ∃ W, W = put2 w5 g8 (.bool (decide (zz < 0))) (.slice A5 (ln zz.natAbs) c5) := ⟨_, rfl⟩
          unfold put2 at hW9
          rw [← hW9]
          have HZ9 : Hd (HZ W9 g8 70 zz) := ⟨by rw [hW9]; exact HZ.set ⟨_, _, _, _, HK5.out⟩ HN5.out⟩
          have hb9 : Below W0.heap.size W0 W9 := by rw [hW9]; exact below_put2 HB.out HG.out
          have hn9 : NN W9 A5 c5 zz.natAbs := by rw [hW9]; exact nn_put2 HN5.out HK5.out
          have hk9 : Blk W9 g8 70 [.bool (decide (zz < 0)), .slice A5 (ln zz.natAbs) c5] := by rw [hW9]; exact blk_put2 HK5.out
          clear hW9 HK5 HN5 x0 x1 y0 y1 hn5
          have HB9 := Hd.mk hb9
          have HN9 := Hd.mk hn9
          have x0 := hk9.c0
          have x1 := hk9.c1
          clear hk9 hb9 hn9 HB
          have HB := HB9
          clear HB9
          by_cases hmo : most < ln zz.natAbs
          · have hmo' : decide (most < ln zz.natAbs) = true := decide_eq_true hmo
            have HMO := Hd.mk hmo
            have HLE : Hd (ln zz.natAbs ≤ ln (zpow x n).natAbs) := ⟨by rw [HZZ.out]; exact pow_grow HX1.out (by have := HIK.out; omega)⟩
            have g0 := (QR.out.to HB.out).c0
            have g1 := (QR.out.to HB.out).c1
            have u0 := (QR.out.to HB.out).f0
            have u1 := (QR.out.to HB.out).f1
            clear hmo
            go_wp2_with fail
            obtain ⟨k0, k1, k2⟩ := two_set g0 g1 (.bool (decide (zz < 0))) (.slice A5 (ln zz.natAbs) c5)
            refine bodyPost_ret (v := .tuple #[.agg #[.bool (decide (zz < 0)), .slice A5 (ln zz.natAbs) c5], .bool false]) (by simp [results, Try.results80, go_sem, k0, k1]) rfl ?_
            exact ⟨zz, false, A5, c5, rfl, ((HN9.out.set_ g0 (by intro t; simp) _).set_ k2 (by intro t; simp) _), (by repeat (first | exact bel_then HW.out HB.out | refine below_set ?_ (by first | exact Nat.le_refl _ | omega | (simp; done) | (simp; omega)) _ | refine below_alloc ?_ _ | refine below_drewN ?_ _ | refine below_drew ?_)), (fun h => by cases h), fun _ => Nat.lt_of_lt_of_le HMO.out HLE.out, by omega⟩
          · have hmo' : decide (most < ln zz.natAbs) = false := decide_eq_false hmo
            have hki : i + 1 + (k - 1) = n := by have := HIK.out; omega
            have HKI := Hd.mk hki
            clear hki
            go_wp2_with fail
            go_roundw
            case rel => exact ⟨k - 1, i + 1, by congr 1; omega, HKI.out, .inr HX1.out, by rw [← HZZ.out]; exact HZ9.out, by rw [← HZZ.out]; omega, HB.out⟩
            case measure => simp [intOf]; omega
end Go.Proofs.Ytcjcpfafalkceaa
