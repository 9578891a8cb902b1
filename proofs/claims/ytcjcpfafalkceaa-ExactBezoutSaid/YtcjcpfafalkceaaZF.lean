/- The reference: Div. -/
import Derived.Test.YtcjcpfafalkceaaZE
import Derived.Test.YtcjcpfafalkceaaZC
import Derived.Test.YtcjcpfafalkceaaRH
set_option linter.unusedVariables false
set_option linter.unusedSimpArgs false
namespace Go.Proofs.Ytcjcpfafalkceaa
open Go.RowKit
set_option maxHeartbeats 4000000 in
set_option maxRecDepth 100000 in
theorem rDiv_calls (x y : Raw) (w : World) (hx : x.at_ w) (hy : y.at_ w) :
    Calls Try.prog 41 #[x.v, y.v] w (RetZZE (dvq x y) (dvr x y) (dve x y) w) := by
  unfold dvq dvr dve
  have HV1 := Hd.mk (fun W (hW : Below w.heap.size w W) => rvalid_calls x W (Raw.at_to hx hW))
  have HV2 := Hd.mk (fun W (hW : Below w.heap.size w W) => rvalid_calls y W (Raw.at_to hy hW))
  by_cases hxo : x.ok = true
  · by_cases hyo : y.ok = true
    · rw [hxo, hyo]
      have hok : (true && true) = true := rfl
      have hlx := Raw.ok_len hxo hx.2.1
      have hly := Raw.ok_len hyo hy.2.1
      have HP := Hd.mk (fun (h : y.val ≠ 0) W (hW : Below w.heap.size w W) => rOver_calls x.val y.val x.A x.c y.A y.c W ((Raw.nn hxo hx).to hW) ((Raw.nn hyo hy).to hW) h (by omega) (by omega))
      rw [← (Raw.num hxo hx.2.1).1, ← (Raw.num hyo hy.2.1).1] at HP
      have hz0 : y.xs.length = 0 ↔ y.val = 0 := by rw [← (Raw.num hyo hy.2.1).2, ln_eq_zero]; exact Int.natAbs_eq_zero
      have hly : y.xs.length ≤ 256 := by rw [← (Raw.num hyo hy.2.1).2]; exact hly
      rw [hxo] at HV1
      rw [hyo] at HV2
      obtain ⟨yv, hyv⟩ : ∃ z, z = y.val := ⟨_, rfl⟩
      rw [← hyv] at HP hz0 ⊢
      obtain ⟨q, hq⟩ : ∃ z, z = x.val / yv := ⟨_, rfl⟩
      obtain ⟨r, hr⟩ : ∃ z, z = x.val % yv := ⟨_, rfl⟩
      rw [← hq] at HP ⊢
      rw [← hr] at HP ⊢
      unfold Raw.v at HP HV1 HV2 ⊢
      clear hx hy hq hr hyv hxo hyo hlx
      obtain ⟨b1, A1, c1, xs⟩ := x
      obtain ⟨b2, A2, c2, ys⟩ := y
      simp only at HP HV1 HV2 hz0 hly ⊢
      obtain ⟨n1, hn1⟩ : ∃ n, n = xs.length := ⟨_, rfl⟩
      obtain ⟨n2, hn2⟩ : ∃ n, n = ys.length := ⟨_, rfl⟩
      rw [← hn1] at HP HV1 ⊢
      rw [← hn2] at HP HV2 hz0 hly ⊢
      clear hn1 hn2
      by_cases h0 : yv = 0
      · have hdn : decide (n2 = 0) = true := decide_eq_true (hz0.2 h0)
        rw [if_neg (fun h => h.2 h0), if_neg (fun h => h.2 h0), if_pos hok, if_pos h0]
        clear hok hz0 h0 HP
        go_enter Try.func41, Try.ntmps41
        go_wp2_with fail
        obtain ⟨W0, hW0⟩ : ∃ W : World, W = (((w.alloc (.cells #[.bool b1, .slice A1 n1 c1] 24)).alloc (.cells #[.bool b2, .slice A2 n2 c2] 24)).alloc (.cells #[.bool false, .slice none 0 0] 24)).alloc (.cells #[.bool false, .slice none 0 0] 24) := ⟨_, rfl⟩
        rw [← hW0]
        have HSZ : Hd (w.heap.size + 1 + 1 + 1 + 1 = W0.heap.size) := ⟨by rw [hW0]; simp⟩
        obtain ⟨hB0, hB1, hB2, hB3, hBW⟩ := boxes4 hW0
        have q0 := hB0.c0
        have q1 := hB0.c1
        have q2 := hB1.c0
        have q3 := hB1.c1
        have g0 := hB2.c0
        have g1 := hB2.c1
        have u0 := hB2.f0
        have u1 := hB2.f1
        have p0 := hB3.c0
        have p1 := hB3.c1
        have v0 := hB3.f0
        have v1 := hB3.f1
        have Q0 := Hd.mk hB0
        have Q1 := Hd.mk hB1
        have QR := Hd.mk hB2
        have QS := Hd.mk hB3
        have HW := Hd.mk hBW
        have HB : Hd (Below W0.heap.size W0 W0) := ⟨Below.refl _ _⟩
        clear hB0 hB1 hB2 hB3 hBW hW0
        refine (HV1.out _ HW.out).mono ?_
        rintro e w1 ⟨rfl, hb1⟩
        have HB' : Hd (Below W0.heap.size W0 _) := ⟨bel_then (by repeat (first | exact HB.out | exact Below.refl _ _ | refine below_alloc ?_ _ | refine below_drewN ?_ _ | refine below_drew ?_ | refine below_set ?_ (by first | exact Nat.le_refl _ | omega | (simp; done) | (simp; omega)) _)) hb1⟩; clear HB; have HB := HB'; clear HB' hb1; replace q0 := (Q0.out.to HB.out).c0; replace q1 := (Q0.out.to HB.out).c1; replace q2 := (Q1.out.to HB.out).c0; replace q3 := (Q1.out.to HB.out).c1; replace g0 := (QR.out.to HB.out).c0; replace g1 := (QR.out.to HB.out).c1; replace u0 := (QR.out.to HB.out).f0; replace u1 := (QR.out.to HB.out).f1; replace p0 := (QS.out.to HB.out).c0; replace p1 := (QS.out.to HB.out).c1; replace v0 := (QS.out.to HB.out).f0; replace v1 := (QS.out.to HB.out).f1
        go_wp2_with fail
        refine (HV2.out _ (bel_then HW.out (by repeat (first | exact HB.out | exact Below.refl _ _ | refine below_alloc ?_ _ | refine below_drewN ?_ _ | refine below_drew ?_ | refine below_set ?_ (by first | exact Nat.le_refl _ | omega | (simp; done) | (simp; omega)) _)))).mono ?_
        rintro e w2 ⟨rfl, hb2⟩
        have HB' : Hd (Below W0.heap.size W0 _) := ⟨bel_then (by repeat (first | exact HB.out | exact Below.refl _ _ | refine below_alloc ?_ _ | refine below_drewN ?_ _ | refine below_drew ?_ | refine below_set ?_ (by first | exact Nat.le_refl _ | omega | (simp; done) | (simp; omega)) _)) hb2⟩; clear HB; have HB := HB'; clear HB' hb2; replace q0 := (Q0.out.to HB.out).c0; replace q1 := (Q0.out.to HB.out).c1; replace q2 := (Q1.out.to HB.out).c0; replace q3 := (Q1.out.to HB.out).c1; replace g0 := (QR.out.to HB.out).c0; replace g1 := (QR.out.to HB.out).c1; replace u0 := (QR.out.to HB.out).f0; replace u1 := (QR.out.to HB.out).f1; replace p0 := (QS.out.to HB.out).c0; replace p1 := (QS.out.to HB.out).c1; replace v0 := (QS.out.to HB.out).f0; replace v1 := (QS.out.to HB.out).f1
        go_wp2_with fail
        refine (rOf_calls _ _ _ _ _).mono ?_
        rintro e w3 ⟨rfl, hb2⟩
        have HB' : Hd (Below W0.heap.size W0 _) := ⟨bel_then (by repeat (first | exact HB.out | exact Below.refl _ _ | refine below_alloc ?_ _ | refine below_drewN ?_ _ | refine below_drew ?_ | refine below_set ?_ (by first | exact Nat.le_refl _ | omega | (simp; done) | (simp; omega)) _)) hb2⟩; clear HB; have HB := HB'; clear HB' hb2; replace q0 := (Q0.out.to HB.out).c0; replace q1 := (Q0.out.to HB.out).c1; replace q2 := (Q1.out.to HB.out).c0; replace q3 := (Q1.out.to HB.out).c1; replace g0 := (QR.out.to HB.out).c0; replace g1 := (QR.out.to HB.out).c1; replace u0 := (QR.out.to HB.out).f0; replace u1 := (QR.out.to HB.out).f1; replace p0 := (QS.out.to HB.out).c0; replace p1 := (QS.out.to HB.out).c1; replace v0 := (QS.out.to HB.out).f0; replace v1 := (QS.out.to HB.out).f1
        go_wp2_with fail
        refine (rZero_calls _ _ _ _ _ (by omega)).mono ?_
        rintro e w4 ⟨rfl, hb2⟩
        rw [hdn]
        have HB' : Hd (Below W0.heap.size W0 _) := ⟨bel_then (by repeat (first | exact HB.out | exact Below.refl _ _ | refine below_alloc ?_ _ | refine below_drewN ?_ _ | refine below_drew ?_ | refine below_set ?_ (by first | exact Nat.le_refl _ | omega | (simp; done) | (simp; omega)) _)) hb2⟩; clear HB; have HB := HB'; clear HB' hb2; replace q0 := (Q0.out.to HB.out).c0; replace q1 := (Q0.out.to HB.out).c1; replace q2 := (Q1.out.to HB.out).c0; replace q3 := (Q1.out.to HB.out).c1; replace g0 := (QR.out.to HB.out).c0; replace g1 := (QR.out.to HB.out).c1; replace u0 := (QR.out.to HB.out).f0; replace u1 := (QR.out.to HB.out).f1; replace p0 := (QS.out.to HB.out).c0; replace p1 := (QS.out.to HB.out).c1; replace v0 := (QS.out.to HB.out).f0; replace v1 := (QS.out.to HB.out).f1
        go_wp2_with fail
        obtain ⟨k0, k1, k2, k3, k4, k5, k6⟩ := four_set g0 g1 p0 p1 (show w.heap.size + 1 + 1 ≠ w.heap.size + 1 + 1 + 1 by omega) (.bool false) (.slice none 0 0) (.bool false) (.slice none 0 0)
        refine bodyPost_ret (v := .tuple #[.agg #[.bool false, .slice none 0 0], .agg #[.bool false, .slice none 0 0], .int .i64 4]) (by simp [results, Try.results41, go_sem, k0, k1, k2, k3]) rfl ?_
        have nsz := HSZ.out
        exact ⟨none, 0, none, 0, by rw [show ln (Int.natAbs 0) = 0 from ln_zero]; rfl, NN.nil _ _ _ (by omega), NN.nil _ _ _ (by omega), (by repeat (first | exact bel_then HW.out HB.out | refine below_set ?_ (by first | exact Nat.le_refl _ | omega | (simp; done) | (simp; omega)) _ | refine below_alloc ?_ _ | refine below_drewN ?_ _ | refine below_drew ?_))⟩
      · have hn0 : n2 ≠ 0 := fun h => h0 (hz0.1 h)
        have hdn : decide (n2 = 0) = false := decide_eq_false hn0
        rw [if_pos ⟨hok, h0⟩, if_pos ⟨hok, h0⟩, if_pos hok, if_neg h0]
        have HP2 := Hd.mk (HP.out h0)
        clear hok hz0 h0 hn0 HP
        go_enter Try.func41, Try.ntmps41
        go_wp2_with fail
        obtain ⟨W0, hW0⟩ : ∃ W : World, W = (((w.alloc (.cells #[.bool b1, .slice A1 n1 c1] 24)).alloc (.cells #[.bool b2, .slice A2 n2 c2] 24)).alloc (.cells #[.bool false, .slice none 0 0] 24)).alloc (.cells #[.bool false, .slice none 0 0] 24) := ⟨_, rfl⟩
        rw [← hW0]
        have HSZ : Hd (w.heap.size + 1 + 1 + 1 + 1 = W0.heap.size) := ⟨by rw [hW0]; simp⟩
        obtain ⟨hB0, hB1, hB2, hB3, hBW⟩ := boxes4 hW0
        have q0 := hB0.c0
        have q1 := hB0.c1
        have q2 := hB1.c0
        have q3 := hB1.c1
        have g0 := hB2.c0
        have g1 := hB2.c1
        have u0 := hB2.f0
        have u1 := hB2.f1
        have p0 := hB3.c0
        have p1 := hB3.c1
        have v0 := hB3.f0
        have v1 := hB3.f1
        have Q0 := Hd.mk hB0
        have Q1 := Hd.mk hB1
        have QR := Hd.mk hB2
        have QS := Hd.mk hB3
        have HW := Hd.mk hBW
        have HB : Hd (Below W0.heap.size W0 W0) := ⟨Below.refl _ _⟩
        clear hB0 hB1 hB2 hB3 hBW hW0
        refine (HV1.out _ HW.out).mono ?_
        rintro e w1 ⟨rfl, hb1⟩
        have HB' : Hd (Below W0.heap.size W0 _) := ⟨bel_then (by repeat (first | exact HB.out | exact Below.refl _ _ | refine below_alloc ?_ _ | refine below_drewN ?_ _ | refine below_drew ?_ | refine below_set ?_ (by first | exact Nat.le_refl _ | omega | (simp; done) | (simp; omega)) _)) hb1⟩; clear HB; have HB := HB'; clear HB' hb1; replace q0 := (Q0.out.to HB.out).c0; replace q1 := (Q0.out.to HB.out).c1; replace q2 := (Q1.out.to HB.out).c0; replace q3 := (Q1.out.to HB.out).c1; replace g0 := (QR.out.to HB.out).c0; replace g1 := (QR.out.to HB.out).c1; replace u0 := (QR.out.to HB.out).f0; replace u1 := (QR.out.to HB.out).f1; replace p0 := (QS.out.to HB.out).c0; replace p1 := (QS.out.to HB.out).c1; replace v0 := (QS.out.to HB.out).f0; replace v1 := (QS.out.to HB.out).f1
        go_wp2_with fail
        refine (HV2.out _ (bel_then HW.out (by repeat (first | exact HB.out | exact Below.refl _ _ | refine below_alloc ?_ _ | refine below_drewN ?_ _ | refine below_drew ?_ | refine below_set ?_ (by first | exact Nat.le_refl _ | omega | (simp; done) | (simp; omega)) _)))).mono ?_
        rintro e w2 ⟨rfl, hb2⟩
        have HB' : Hd (Below W0.heap.size W0 _) := ⟨bel_then (by repeat (first | exact HB.out | exact Below.refl _ _ | refine below_alloc ?_ _ | refine below_drewN ?_ _ | refine below_drew ?_ | refine below_set ?_ (by first | exact Nat.le_refl _ | omega | (simp; done) | (simp; omega)) _)) hb2⟩; clear HB; have HB := HB'; clear HB' hb2; replace q0 := (Q0.out.to HB.out).c0; replace q1 := (Q0.out.to HB.out).c1; replace q2 := (Q1.out.to HB.out).c0; replace q3 := (Q1.out.to HB.out).c1; replace g0 := (QR.out.to HB.out).c0; replace g1 := (QR.out.to HB.out).c1; replace u0 := (QR.out.to HB.out).f0; replace u1 := (QR.out.to HB.out).f1; replace p0 := (QS.out.to HB.out).c0; replace p1 := (QS.out.to HB.out).c1; replace v0 := (QS.out.to HB.out).f0; replace v1 := (QS.out.to HB.out).f1
        go_wp2_with fail
        refine (rOf_calls _ _ _ _ _).mono ?_
        rintro e w3 ⟨rfl, hb2⟩
        have HB' : Hd (Below W0.heap.size W0 _) := ⟨bel_then (by repeat (first | exact HB.out | exact Below.refl _ _ | refine below_alloc ?_ _ | refine below_drewN ?_ _ | refine below_drew ?_ | refine below_set ?_ (by first | exact Nat.le_refl _ | omega | (simp; done) | (simp; omega)) _)) hb2⟩; clear HB; have HB := HB'; clear HB' hb2; replace q0 := (Q0.out.to HB.out).c0; replace q1 := (Q0.out.to HB.out).c1; replace q2 := (Q1.out.to HB.out).c0; replace q3 := (Q1.out.to HB.out).c1; replace g0 := (QR.out.to HB.out).c0; replace g1 := (QR.out.to HB.out).c1; replace u0 := (QR.out.to HB.out).f0; replace u1 := (QR.out.to HB.out).f1; replace p0 := (QS.out.to HB.out).c0; replace p1 := (QS.out.to HB.out).c1; replace v0 := (QS.out.to HB.out).f0; replace v1 := (QS.out.to HB.out).f1
        go_wp2_with fail
        refine (rZero_calls _ _ _ _ _ (by omega)).mono ?_
        rintro e w4 ⟨rfl, hb2⟩
        rw [hdn]
        have HB' : Hd (Below W0.heap.size W0 _) := ⟨bel_then (by repeat (first | exact HB.out | exact Below.refl _ _ | refine below_alloc ?_ _ | refine below_drewN ?_ _ | refine below_drew ?_ | refine below_set ?_ (by first | exact Nat.le_refl _ | omega | (simp; done) | (simp; omega)) _)) hb2⟩; clear HB; have HB := HB'; clear HB' hb2; replace q0 := (Q0.out.to HB.out).c0; replace q1 := (Q0.out.to HB.out).c1; replace q2 := (Q1.out.to HB.out).c0; replace q3 := (Q1.out.to HB.out).c1; replace g0 := (QR.out.to HB.out).c0; replace g1 := (QR.out.to HB.out).c1; replace u0 := (QR.out.to HB.out).f0; replace u1 := (QR.out.to HB.out).f1; replace p0 := (QS.out.to HB.out).c0; replace p1 := (QS.out.to HB.out).c1; replace v0 := (QS.out.to HB.out).f0; replace v1 := (QS.out.to HB.out).f1
        go_wp2_with fail
        refine wp_region_vs 10 [25, 26, 27, 28, 29, 24, 30, 31, 7, 8] [5, 6, 7] [8, 9] 38 [.bool false, .slice none 0 0] [isV (.agg #[.bool b1, .slice A1 n1 c1]), isV (.agg #[.bool b1, .slice A1 n1 c1]), isV (.agg #[.bool b2, .slice A2 n2 c2]), isV (.agg #[.bool b2, .slice A2 n2 c2]), isZZ q r, isZZ q r, isZ q, isZ r] (by kernel_rfl) (by kernel_rfl) (by kernel_rfl) (by rfl) alloc_Z (fun d v c a w h => by cases d <;> exact h) ?_ ?_
        · intro i hi hA a wx hb hs hd
          match i, hi, hA with
          | 0, _, _ => exact op_load rfl rfl (hs 2 rfl) (load_api (Q0.out.to (bel_then HB.out hb)).c0 (Q0.out.to (bel_then HB.out hb)).c1) rfl
          | 1, _, _ =>
            have h0 : a.eval (.tmp 25) = _ := hd 0 rfl
            exact op_call rfl rfl Try.call32 (by simp only [List.map_toArray, List.map_cons, List.map_nil, h0]) ((rOf_calls _ _ _ _ _).mono fun e w' ⟨he, hb⟩ => ⟨_, he, hb, rfl⟩)
          | 2, _, _ => exact op_load rfl rfl (hs 3 rfl) (load_api (Q1.out.to (bel_then HB.out hb)).c0 (Q1.out.to (bel_then HB.out hb)).c1) rfl
          | 3, _, _ =>
            have h0 : a.eval (.tmp 27) = _ := hd 2 rfl
            exact op_call rfl rfl Try.call32 (by simp only [List.map_toArray, List.map_cons, List.map_nil, h0]) ((rOf_calls _ _ _ _ _).mono fun e w' ⟨he, hb⟩ => ⟨_, he, hb, rfl⟩)
          | 4, _, _ =>
            have h0 : a.eval (.tmp 26) = _ := hd 1 rfl
            have h1 : a.eval (.tmp 28) = _ := hd 3 rfl
            exact op_call rfl rfl Try.call45 (by simp only [List.map_toArray, List.map_cons, List.map_nil, h0, h1]) ((HP2.out _ (bel_then HW.out (bel_then HB.out hb))).mono fun e w' ⟨A, c, A', c', he, h1, h2, hb⟩ => ⟨_, he, hb, A, c, A', c', rfl, h1, h2⟩)
          | 5, _, _ =>
            obtain ⟨A, c, A', c', h, h1, h2⟩ := hd 4 rfl
            exact ⟨_, op_move rfl h, A, c, A', c', rfl, h1, h2⟩
          | 6, _, _ =>
            obtain ⟨A, c, A', c', h, h1, h2⟩ := hd 5 rfl
            exact ⟨_, op_extract rfl h rfl, A, c, rfl, h1⟩
          | 7, _, _ =>
            obtain ⟨A, c, A', c', h, h1, h2⟩ := hd 5 rfl
            exact ⟨_, op_extract rfl h rfl, A', c', rfl, h2⟩
          | 8, _, h => cases h
          | 9, _, h => cases h
          | i + 10, h, _ => omega
        · intro vs wx hb hv hal hne
          obtain ⟨A3, c3, e6, hn3⟩ : (isZ q).p (vs 30) wx := hv 6 (by decide) rfl
          obtain ⟨A4, c4, e7, hn4⟩ : (isZ r).p (vs 31) wx := hv 7 (by decide) rfl
          obtain ⟨g7, e8, hg7, h7⟩ : ∃ g, vs 7 = .pointer (some ⟨g, 0, none⟩) ∧ _ := hal 8 rfl
          obtain ⟨g8, e9, hg8, h8⟩ : ∃ g, vs 8 = .pointer (some ⟨g, 0, none⟩) ∧ _ := hal 9 rfl
          have h78 : g7 ≠ g8 := ptr_ne (by rw [← e8, ← e9]; exact hne 8 9 rfl rfl (by decide))
          have h87 := Ne.symm h78
          simp only [putAll, List.foldl_cons, List.foldl_nil, Act.put, List.setIfInBounds_toArray, List.set_cons_succ, List.set_cons_zero, List.drop_succ_cons, List.drop_zero, e6, e7, e8, e9]
          generalize vs 25 = s23
          generalize vs 26 = s24
          generalize vs 27 = s25
          generalize vs 28 = s26
          generalize vs 29 = s27
          generalize vs 24 = s22
          clear hv hal hne e6 e7 e8 e9 q0 q1 q2 q3 g0 g1 u0 u1 p0 p1 v0 v1
          have N3 := Hd.mk hn3
          have N4 := Hd.mk hn4
          have Z7 := Hd.mk h7
          have Z8 := Hd.mk h8
          have G7 : Hd (W0.heap.size ≤ g7) := ⟨Nat.le_trans HB.out.size hg7⟩
          have G8 : Hd (W0.heap.size ≤ g8) := ⟨Nat.le_trans HB.out.size hg8⟩
          have HB' : Hd (Below W0.heap.size W0 wx) := ⟨bel_then HB.out hb⟩
          clear HB
          have HB := HB'
          have z0 := h7.c0
          have z1 := h7.c1
          have z2 := h8.c0
          have z3 := h8.c1
          have y0 := h7.f0
          have y1 := h7.f1
          have y2 := h8.f0
          have y3 := h8.f1
          clear hg7 hg8 hn3 hn4 h7 h8 hb HB'
          go_wp2_with fail
          obtain ⟨W6, hW6⟩ : ∃ W : World, W = ((((wx.setCell ⟨g7, 0, none⟩ (.bool (decide (q < 0)))).setCell ⟨g7, 1, none⟩ (.slice A3 (ln q.natAbs) c3)).setCell ⟨g8, 0, none⟩ (.bool (decide (r < 0)))).setCell ⟨g8, 1, none⟩ (.slice A4 (ln r.natAbs) c4)) := ⟨_, rfl⟩
          rw [← hW6]
          have Y7 : Hd (Blk W6 g7 38 [.bool (decide (q < 0)), .slice A3 (ln q.natAbs) c3]) := ⟨by rw [hW6]; exact blk_far2 (blk_put2 Z7.out) h78⟩
          have Y8 : Hd (Blk W6 g8 38 [.bool (decide (r < 0)), .slice A4 (ln r.natAbs) c4]) := ⟨by rw [hW6]; exact blk_put2 (blk_far2 Z8.out h87)⟩
          have M3 : Hd (NN W6 A3 c3 q.natAbs) := ⟨by rw [hW6]; exact nn_put2 (nn_put2 N3.out Z7.out) (blk_far2 Z8.out h87)⟩
          have M4 : Hd (NN W6 A4 c4 r.natAbs) := ⟨by rw [hW6]; exact nn_put2 (nn_put2 N4.out Z7.out) (blk_far2 Z8.out h87)⟩
          have HB6 : Hd (Below W0.heap.size W0 W6) := ⟨by rw [hW6]; exact below_put2 (below_put2 HB.out G7.out) G8.out⟩
          clear hW6 Z7 Z8 N3 N4 HB z0 z1 z2 z3 y0 y1 y2 y3 h78 h87 G7 G8
          refine wp_region_vs 4 [32, 33, 34, 35] [] [] 38 [.bool false, .slice none 0 0] [isV (.agg #[.bool (decide (q < 0)), .slice A3 (ln q.natAbs) c3]), isZ q, isV (.agg #[.bool (decide (r < 0)), .slice A4 (ln r.natAbs) c4]), isZ r] (by kernel_rfl) (by kernel_rfl) (by kernel_rfl) (by rfl) alloc_Z (fun d v c a w h => by cases d <;> exact h) ?_ ?_
          · intro i hi hA a wy hb hs hd
            match i, hi, hA with
            | 0, _, _ => exact op_load rfl rfl (hs 7 rfl) (load_Z (Y7.out.to hb).c0 (Y7.out.to hb).c1) rfl
            | 1, _, _ =>
              have h0 : a.eval (.tmp 32) = _ := hd 0 rfl
              exact op_call rfl rfl Try.call23 (by simp only [List.map_toArray, List.map_cons, List.map_nil, h0]) ((rInt_calls _ A3 _ c3 wy).mono fun e w' ⟨he, hb2⟩ => ⟨_, he, hb2, A3, c3, rfl, (M3.out.to hb).to hb2⟩)
            | 2, _, _ => exact op_load rfl rfl (hs 8 rfl) (load_Z (Y8.out.to hb).c0 (Y8.out.to hb).c1) rfl
            | 3, _, _ =>
              have h0 : a.eval (.tmp 34) = _ := hd 2 rfl
              exact op_call rfl rfl Try.call23 (by simp only [List.map_toArray, List.map_cons, List.map_nil, h0]) ((rInt_calls _ A4 _ c4 wy).mono fun e w' ⟨he, hb2⟩ => ⟨_, he, hb2, A4, c4, rfl, (M4.out.to hb).to hb2⟩)
            | i + 4, h, _ => omega
          · intro vs wy hb hv hal hne
            obtain ⟨A5, c5, e1, hn5⟩ : (isZ q).p (vs 33) wy := hv 1 (by decide) rfl
            obtain ⟨A6, c6, e3, hn6⟩ : (isZ r).p (vs 35) wy := hv 3 (by decide) rfl
            simp only [putAll, List.foldl_cons, List.foldl_nil, Act.put, List.setIfInBounds_toArray, List.set_cons_succ, List.set_cons_zero, List.drop_succ_cons, List.drop_zero, e1, e3]
            generalize vs 32 = s30
            generalize vs 34 = s32
            have HB : Hd (Below W0.heap.size W0 wy) := ⟨bel_then HB6.out hb⟩
            have HN5 := Hd.mk hn5
            have HN6 := Hd.mk hn6
            clear hv hal hne e1 e3 hn5 hn6 hb HB6 Y7 Y8 M3 M4
            have g0 := (QR.out.to HB.out).c0
            have g1 := (QR.out.to HB.out).c1
            have p0 := (QS.out.to HB.out).c0
            have p1 := (QS.out.to HB.out).c1
            have u0 := (QR.out.to HB.out).f0
            have u1 := (QR.out.to HB.out).f1
            have v0 := (QS.out.to HB.out).f0
            have v1 := (QS.out.to HB.out).f1
            have nsz := HSZ.out
            clear nsz
            go_wp2_with fail
            obtain ⟨k0, k1, k2, k3, k4, k5, k6⟩ := four_set g0 g1 p0 p1 (show w.heap.size + 1 + 1 ≠ w.heap.size + 1 + 1 + 1 by omega) (.bool (decide (q < 0))) (.slice A5 (ln q.natAbs) c5) (.bool (decide (r < 0))) (.slice A6 (ln r.natAbs) c6)
            refine bodyPost_ret (v := .tuple #[.agg #[.bool (decide (q < 0)), .slice A5 (ln q.natAbs) c5], .agg #[.bool (decide (r < 0)), .slice A6 (ln r.natAbs) c6], .int .i64 0]) (by simp [results, Try.results41, go_sem, k0, k1, k2, k3]) rfl ?_
            exact ⟨_, _, _, _, rfl, (((HN5.out.set_ g0 (by intro t; simp) _).set_ k4 (by intro t; simp) _).set_ k5 (by intro t; simp) _).set_ k6 (by intro t; simp) _, (((HN6.out.set_ g0 (by intro t; simp) _).set_ k4 (by intro t; simp) _).set_ k5 (by intro t; simp) _).set_ k6 (by intro t; simp) _, (by repeat (first | exact bel_then HW.out HB.out | refine below_set ?_ (by first | exact Nat.le_refl _ | omega | (simp; done) | (simp; omega)) _ | refine below_alloc ?_ _ | refine below_drewN ?_ _ | refine below_drew ?_))⟩
    · have hyf : y.ok = false := by simpa using hyo
      rw [hxo, hyf, if_neg (by simp), if_neg (by simp), if_neg (by simp)]
      rw [hxo] at HV1
      rw [hyf] at HV2
      unfold Raw.v at HV1 HV2 ⊢
      clear hx hy hxo hyo hyf
      obtain ⟨b1, A1, c1, xs⟩ := x
      obtain ⟨b2, A2, c2, ys⟩ := y
      simp only at HV1 HV2 ⊢
      obtain ⟨n1, hn1⟩ : ∃ n, n = xs.length := ⟨_, rfl⟩
      obtain ⟨n2, hn2⟩ : ∃ n, n = ys.length := ⟨_, rfl⟩
      rw [← hn1] at HV1 ⊢
      rw [← hn2] at HV2 ⊢
      clear hn1 hn2
      go_enter Try.func41, Try.ntmps41
      go_wp2_with fail
      obtain ⟨W0, hW0⟩ : ∃ W : World, W = (((w.alloc (.cells #[.bool b1, .slice A1 n1 c1] 24)).alloc (.cells #[.bool b2, .slice A2 n2 c2] 24)).alloc (.cells #[.bool false, .slice none 0 0] 24)).alloc (.cells #[.bool false, .slice none 0 0] 24) := ⟨_, rfl⟩
      rw [← hW0]
      have HSZ : Hd (w.heap.size + 1 + 1 + 1 + 1 = W0.heap.size) := ⟨by rw [hW0]; simp⟩
      obtain ⟨hB0, hB1, hB2, hB3, hBW⟩ := boxes4 hW0
      have q0 := hB0.c0
      have q1 := hB0.c1
      have q2 := hB1.c0
      have q3 := hB1.c1
      have g0 := hB2.c0
      have g1 := hB2.c1
      have u0 := hB2.f0
      have u1 := hB2.f1
      have p0 := hB3.c0
      have p1 := hB3.c1
      have v0 := hB3.f0
      have v1 := hB3.f1
      have Q0 := Hd.mk hB0
      have Q1 := Hd.mk hB1
      have QR := Hd.mk hB2
      have QS := Hd.mk hB3
      have HW := Hd.mk hBW
      have HB : Hd (Below W0.heap.size W0 W0) := ⟨Below.refl _ _⟩
      clear hB0 hB1 hB2 hB3 hBW hW0
      refine (HV1.out _ HW.out).mono ?_
      rintro e w1 ⟨rfl, hb1⟩
      have HB' : Hd (Below W0.heap.size W0 _) := ⟨bel_then (by repeat (first | exact HB.out | exact Below.refl _ _ | refine below_alloc ?_ _ | refine below_drewN ?_ _ | refine below_drew ?_ | refine below_set ?_ (by first | exact Nat.le_refl _ | omega | (simp; done) | (simp; omega)) _)) hb1⟩; clear HB; have HB := HB'; clear HB' hb1; replace q0 := (Q0.out.to HB.out).c0; replace q1 := (Q0.out.to HB.out).c1; replace q2 := (Q1.out.to HB.out).c0; replace q3 := (Q1.out.to HB.out).c1; replace g0 := (QR.out.to HB.out).c0; replace g1 := (QR.out.to HB.out).c1; replace u0 := (QR.out.to HB.out).f0; replace u1 := (QR.out.to HB.out).f1; replace p0 := (QS.out.to HB.out).c0; replace p1 := (QS.out.to HB.out).c1; replace v0 := (QS.out.to HB.out).f0; replace v1 := (QS.out.to HB.out).f1
      go_wp2_with fail
      refine (HV2.out _ (bel_then HW.out (by repeat (first | exact HB.out | exact Below.refl _ _ | refine below_alloc ?_ _ | refine below_drewN ?_ _ | refine below_drew ?_ | refine below_set ?_ (by first | exact Nat.le_refl _ | omega | (simp; done) | (simp; omega)) _)))).mono ?_
      rintro e w2 ⟨rfl, hb2⟩
      have HB' : Hd (Below W0.heap.size W0 _) := ⟨bel_then (by repeat (first | exact HB.out | exact Below.refl _ _ | refine below_alloc ?_ _ | refine below_drewN ?_ _ | refine below_drew ?_ | refine below_set ?_ (by first | exact Nat.le_refl _ | omega | (simp; done) | (simp; omega)) _)) hb2⟩; clear HB; have HB := HB'; clear HB' hb2; replace q0 := (Q0.out.to HB.out).c0; replace q1 := (Q0.out.to HB.out).c1; replace q2 := (Q1.out.to HB.out).c0; replace q3 := (Q1.out.to HB.out).c1; replace g0 := (QR.out.to HB.out).c0; replace g1 := (QR.out.to HB.out).c1; replace u0 := (QR.out.to HB.out).f0; replace u1 := (QR.out.to HB.out).f1; replace p0 := (QS.out.to HB.out).c0; replace p1 := (QS.out.to HB.out).c1; replace v0 := (QS.out.to HB.out).f0; replace v1 := (QS.out.to HB.out).f1
      go_wp2_with fail
      obtain ⟨k0, k1, k2, k3, k4, k5, k6⟩ := four_set g0 g1 p0 p1 (show w.heap.size + 1 + 1 ≠ w.heap.size + 1 + 1 + 1 by omega) (.bool false) (.slice none 0 0) (.bool false) (.slice none 0 0)
      refine bodyPost_ret (v := .tuple #[.agg #[.bool false, .slice none 0 0], .agg #[.bool false, .slice none 0 0], .int .i64 2]) (by simp [results, Try.results41, go_sem, k0, k1, k2, k3]) rfl ?_
      have nsz := HSZ.out
      exact ⟨none, 0, none, 0, by rw [show ln (Int.natAbs 0) = 0 from ln_zero]; rfl, NN.nil _ _ _ (by omega), NN.nil _ _ _ (by omega), (by repeat (first | exact bel_then HW.out HB.out | refine below_set ?_ (by first | exact Nat.le_refl _ | omega | (simp; done) | (simp; omega)) _ | refine below_alloc ?_ _ | refine below_drewN ?_ _ | refine below_drew ?_))⟩
  · have hxf : x.ok = false := by simpa using hxo
    rw [hxf, if_neg (by simp), if_neg (by simp), if_neg (by simp)]
    rw [hxf] at HV1
    unfold Raw.v at HV1 HV2 ⊢
    clear hx hy hxo hxf
    obtain ⟨b1, A1, c1, xs⟩ := x
    obtain ⟨b2, A2, c2, ys⟩ := y
    simp only at HV1 HV2 ⊢
    obtain ⟨n1, hn1⟩ : ∃ n, n = xs.length := ⟨_, rfl⟩
    obtain ⟨n2, hn2⟩ : ∃ n, n = ys.length := ⟨_, rfl⟩
    rw [← hn1] at HV1 ⊢
    rw [← hn2] at HV2 ⊢
    clear hn1 hn2
    go_enter Try.func41, Try.ntmps41
    go_wp2_with fail
    obtain ⟨W0, hW0⟩ : ∃ W : World, W = (((w.alloc (.cells #[.bool b1, .slice A1 n1 c1] 24)).alloc (.cells #[.bool b2, .slice A2 n2 c2] 24)).alloc (.cells #[.bool false, .slice none 0 0] 24)).alloc (.cells #[.bool false, .slice none 0 0] 24) := ⟨_, rfl⟩
    rw [← hW0]
    have HSZ : Hd (w.heap.size + 1 + 1 + 1 + 1 = W0.heap.size) := ⟨by rw [hW0]; simp⟩
    obtain ⟨hB0, hB1, hB2, hB3, hBW⟩ := boxes4 hW0
    have q0 := hB0.c0
    have q1 := hB0.c1
    have q2 := hB1.c0
    have q3 := hB1.c1
    have g0 := hB2.c0
    have g1 := hB2.c1
    have u0 := hB2.f0
    have u1 := hB2.f1
    have p0 := hB3.c0
    have p1 := hB3.c1
    have v0 := hB3.f0
    have v1 := hB3.f1
    have Q0 := Hd.mk hB0
    have Q1 := Hd.mk hB1
    have QR := Hd.mk hB2
    have QS := Hd.mk hB3
    have HW := Hd.mk hBW
    have HB : Hd (Below W0.heap.size W0 W0) := ⟨Below.refl _ _⟩
    clear hB0 hB1 hB2 hB3 hBW hW0
    refine (HV1.out _ HW.out).mono ?_
    rintro e w1 ⟨rfl, hb1⟩
    have HB' : Hd (Below W0.heap.size W0 _) := ⟨bel_then (by repeat (first | exact HB.out | exact Below.refl _ _ | refine below_alloc ?_ _ | refine below_drewN ?_ _ | refine below_drew ?_ | refine below_set ?_ (by first | exact Nat.le_refl _ | omega | (simp; done) | (simp; omega)) _)) hb1⟩; clear HB; have HB := HB'; clear HB' hb1; replace q0 := (Q0.out.to HB.out).c0; replace q1 := (Q0.out.to HB.out).c1; replace q2 := (Q1.out.to HB.out).c0; replace q3 := (Q1.out.to HB.out).c1; replace g0 := (QR.out.to HB.out).c0; replace g1 := (QR.out.to HB.out).c1; replace u0 := (QR.out.to HB.out).f0; replace u1 := (QR.out.to HB.out).f1; replace p0 := (QS.out.to HB.out).c0; replace p1 := (QS.out.to HB.out).c1; replace v0 := (QS.out.to HB.out).f0; replace v1 := (QS.out.to HB.out).f1
    go_wp2_with fail
    obtain ⟨k0, k1, k2, k3, k4, k5, k6⟩ := four_set g0 g1 p0 p1 (show w.heap.size + 1 + 1 ≠ w.heap.size + 1 + 1 + 1 by omega) (.bool false) (.slice none 0 0) (.bool false) (.slice none 0 0)
    refine bodyPost_ret (v := .tuple #[.agg #[.bool false, .slice none 0 0], .agg #[.bool false, .slice none 0 0], .int .i64 2]) (by simp [results, Try.results41, go_sem, k0, k1, k2, k3]) rfl ?_
    have nsz := HSZ.out
    exact ⟨none, 0, none, 0, by rw [show ln (Int.natAbs 0) = 0 from ln_zero]; rfl, NN.nil _ _ _ (by omega), NN.nil _ _ _ (by omega), (by repeat (first | exact bel_then HW.out HB.out | refine below_set ?_ (by first | exact Nat.le_refl _ | omega | (simp; done) | (simp; omega)) _ | refine below_alloc ?_ _ | refine below_drewN ?_ _ | refine below_drew ?_))⟩
end Go.Proofs.Ytcjcpfafalkceaa
