/- Package exact: Div. -/
import Derived.Test.YtcjcpfafalkceaaZB
import Derived.Test.YtcjcpfafalkceaaRJ
import Derived.Test.YtcjcpfafalkceaaPi
set_option linter.unusedVariables false
set_option linter.unusedSimpArgs false
namespace Go.Proofs.Ytcjcpfafalkceaa
open Go.RowKit
theorem emod_le (x : Int) {y : Int} (h : y ≠ 0) : (x % y).natAbs ≤ y.natAbs := by
  obtain ⟨e1, e2⟩ := ediv_abs x y h
  have lt := Nat.mod_lt x.natAbs (show 0 < y.natAbs by omega)
  by_cases c : x < 0 ∧ x.natAbs % y.natAbs ≠ 0
  · rw [(e1 c.1 c.2).2]; omega
  · rw [(e2 c).2]; omega
/-- What Div answers. -/
def dvq (x y : Raw) : Int := if (x.ok && y.ok) = true ∧ y.val ≠ 0 then x.val / y.val else 0
def dvr (x y : Raw) : Int := if (x.ok && y.ok) = true ∧ y.val ≠ 0 then x.val % y.val else 0
def dve (x y : Raw) : Int := if (x.ok && y.ok) = true then (if y.val = 0 then 4 else 0) else 2
/-- Two numbers and a code. -/
def RetZZE (z z2 err : Int) (w : World) (e : Ending) (w' : World) : Prop := ∃ A c A' c', e = .returned (.tuple #[.agg #[.bool (decide (z < 0)), .slice A (ln z.natAbs) c], .agg #[.bool (decide (z2 < 0)), .slice A' (ln z2.natAbs) c'], .int .i64 err]) ∧ NN w' A c z.natAbs ∧ NN w' A' c' z2.natAbs ∧ Below w.heap.size w w'
attribute [local go_sem] run_fld_whole
set_option maxHeartbeats 8000000 in
set_option maxRecDepth 100000 in
theorem Div_calls (x y : Raw) (w : World) (hx : x.at_ w) (hy : y.at_ w) :
    Calls Try.prog 40 #[x.v, y.v] w (RetZZE (dvq x y) (dvr x y) (dve x y) w) := by
  unfold dvq dvr dve
  have HV := Hd.mk (fun g W (h : Below w.heap.size w W) (hB : Blk W g 24 [.bool x.neg, .slice x.A x.xs.length x.c, .bool y.neg, .slice y.A y.xs.length y.c]) => valid_calls [x, y] g 2 W (raws_two h hx hy hB) rfl (Nat.le_refl _))
  rw [all_two] at HV
  by_cases hok : (x.ok && y.ok) = true
  · obtain ⟨hxo, hyo⟩ := and_ok hok
    rw [hok] at HV
    have hlx := Raw.ok_len hxo hx.2.1
    have hly := Raw.ok_len hyo hy.2.1
    have HP := Hd.mk (fun (h : y.val ≠ 0) W (hW : Below w.heap.size w W) => wdiv_calls x.val y.val x.A x.c y.A y.c W ((Raw.nn hxo hx).to hW) ((Raw.nn hyo hy).to hW) h (by omega) (by omega))
    rw [← (Raw.num hxo hx.2.1).1, ← (Raw.num hyo hy.2.1).1] at HP
    have hz0 : y.xs.length = 0 ↔ y.val = 0 := by rw [← (Raw.num hyo hy.2.1).2, ln_eq_zero]; exact Int.natAbs_eq_zero
    have hlq : ln (x.val / y.val).natAbs ≤ 1073741824 := by
      by_cases h : y.val = 0
      · rw [h, Int.ediv_zero]; show ln 0 ≤ _; rw [ln_zero]; omega
      · refine Nat.le_trans (ln_mono (Int.natAbs_ediv_le_natAbs _ _)) (by omega)
    have hlr : ln (x.val % y.val).natAbs ≤ 1073741824 := by
      by_cases h : y.val = 0
      · rw [h, Int.emod_zero]; omega
      · refine Nat.le_trans (ln_mono (emod_le _ h)) (by omega)
    have hly : y.xs.length ≤ 256 := by rw [← (Raw.num hyo hy.2.1).2]; exact hly
    obtain ⟨yv, hyv⟩ : ∃ z, z = y.val := ⟨_, rfl⟩
    rw [← hyv] at HP hz0 hlq hlr ⊢
    obtain ⟨q, hq⟩ : ∃ z, z = x.val / yv := ⟨_, rfl⟩
    obtain ⟨r, hr⟩ : ∃ z, z = x.val % yv := ⟨_, rfl⟩
    rw [← hq] at HP hlq ⊢
    rw [← hr] at HP hlr ⊢
    unfold Raw.v at HP ⊢
    clear hx hy hq hr hyv hxo hyo hlx
    obtain ⟨b1, A1, c1, xs⟩ := x
    obtain ⟨b2, A2, c2, ys⟩ := y
    simp only at HP HV hz0 hok hly ⊢
    obtain ⟨n1, hn1⟩ : ∃ n, n = xs.length := ⟨_, rfl⟩
    obtain ⟨n2, hn2⟩ : ∃ n, n = ys.length := ⟨_, rfl⟩
    rw [← hn1, ← hn2] at HP HV ⊢
    rw [← hn2] at hz0 hly
    by_cases h0 : yv = 0
    · have hdn : decide (n2 = 0) = true := decide_eq_true (hz0.2 h0)
      rw [if_neg (fun h => h.2 h0), if_neg (fun h => h.2 h0), if_pos hok, if_pos h0]
      clear hn1 hn2 hok hz0 h0 HP
      go_enter Try.func40, Try.ntmps40
      go_wp2_with fail
      obtain ⟨W0, hW0⟩ : ∃ W : World, W = (((w.alloc (.cells #[.bool b1, .slice A1 n1 c1] 24)).alloc (.cells #[.bool b2, .slice A2 n2 c2] 24)).alloc (.cells #[.bool false, .slice none 0 0] 24)).alloc (.cells #[.bool false, .slice none 0 0] 24) := ⟨_, rfl⟩
      rw [← hW0]
      have HSZ : Hd (w.heap.size + 1 + 1 + 1 + 1 = W0.heap.size) := ⟨by rw [hW0]; simp⟩
      obtain ⟨hB0, hB1, hB2, hB3, hBW⟩ := boxes4 hW0
      have q0 := hB0.c0
      have q1 := hB0.c1
      have q2 := hB1.c0
      have q3 := hB1.c1
      have g0 := hB2.c0
      have g1 := hB2.c1
      have u0 := hB2.f0
      have u1 := hB2.f1
      have p0 := hB3.c0
      have p1 := hB3.c1
      have v0 := hB3.f0
      have v1 := hB3.f1
      have Q0 := Hd.mk hB0
      have Q1 := Hd.mk hB1
      have QR := Hd.mk hB2
      have QS := Hd.mk hB3
      have HW := Hd.mk hBW
      have HB : Hd (Below W0.heap.size W0 W0) := ⟨Below.refl _ _⟩
      clear hB0 hB1 hB2 hB3 hBW hW0
      refine (HV.out _ _ (bel_then HW.out (by repeat (first | exact HB.out | exact Below.refl _ _ | refine below_alloc ?_ _ | refine below_drewN ?_ _ | refine below_drew ?_ | refine below_set ?_ (by first | exact Nat.le_refl _ | omega | (simp; done) | (simp; omega)) _))) (blk_new HSZ.out _ _)).mono ?_
      rintro e w1 ⟨rfl, hb1⟩
      have HB' : Hd (Below W0.heap.size W0 _) := ⟨bel_then (by repeat (first | exact HB.out | exact Below.refl _ _ | refine below_alloc ?_ _ | refine below_drewN ?_ _ | refine below_drew ?_ | refine below_set ?_ (by first | exact Nat.le_refl _ | omega | (simp; done) | (simp; omega)) _)) hb1⟩; clear HB; have HB := HB'; clear HB' hb1; replace q0 := (Q0.out.to HB.out).c0; replace q1 := (Q0.out.to HB.out).c1; replace q2 := (Q1.out.to HB.out).c0; replace q3 := (Q1.out.to HB.out).c1; replace g0 := (QR.out.to HB.out).c0; replace g1 := (QR.out.to HB.out).c1; replace u0 := (QR.out.to HB.out).f0; replace u1 := (QR.out.to HB.out).f1; replace p0 := (QS.out.to HB.out).c0; replace p1 := (QS.out.to HB.out).c1; replace v0 := (QS.out.to HB.out).f0; replace v1 := (QS.out.to HB.out).f1
      go_wp2_with fail
      refine (of_calls _ _ _ _ _).mono ?_
      rintro e w2 ⟨rfl, hb2⟩
      have HB' : Hd (Below W0.heap.size W0 _) := ⟨bel_then (by repeat (first | exact HB.out | exact Below.refl _ _ | refine below_alloc ?_ _ | refine below_drewN ?_ _ | refine below_drew ?_ | refine below_set ?_ (by first | exact Nat.le_refl _ | omega | (simp; done) | (simp; omega)) _)) hb2⟩; clear HB; have HB := HB'; clear HB' hb2; replace q0 := (Q0.out.to HB.out).c0; replace q1 := (Q0.out.to HB.out).c1; replace q2 := (Q1.out.to HB.out).c0; replace q3 := (Q1.out.to HB.out).c1; replace g0 := (QR.out.to HB.out).c0; replace g1 := (QR.out.to HB.out).c1; replace u0 := (QR.out.to HB.out).f0; replace u1 := (QR.out.to HB.out).f1; replace p0 := (QS.out.to HB.out).c0; replace p1 := (QS.out.to HB.out).c1; replace v0 := (QS.out.to HB.out).f0; replace v1 := (QS.out.to HB.out).f1
      go_wp2_with fail
      refine (zero_calls _ _ _ _ (by omega)).mono ?_
      rintro e w3 ⟨rfl, rfl⟩
      rw [hdn]
      go_wp2_with fail
      refine wp_region_vl 2 [20, 21] [] [1] [] 24 [.bool false, .slice none 0 0] [isV (.agg #[.bool false, .slice none 0 0]), isV (.agg #[.bool false, .slice none 0 0])] (fun _ => At2 (w.heap.size + 1 + 1 + 1) (.bool false) (.slice none 0 0)) (by kernel_rfl) (by kernel_rfl) (by kernel_rfl) (by rfl) (by kernel_rfl) ?_ alloc_api (fun d v c a w h => by cases d <;> exact h) ?_ ?_
      · exact fun i _ wx hb => (QS.out.to (bel_then HB.out hb)).at2
      · intro i hi hA a wx hb hs hd
        match i, hi, hA with
        | 0, _, _ => exact op_load rfl rfl (hs 4 rfl) (load_api (QR.out.to (bel_then HB.out hb)).c0 (QR.out.to (bel_then HB.out hb)).c1) rfl
        | 1, _, _ => exact ⟨_, op_loadY rfl (hs 5 rfl) (fun w hw => load_api hw.1 hw.2), rfl⟩
        | i + 2, h, _ => omega
      · intro vs wx hb hv hal hne
        have e0 : vs 20 = .agg #[.bool false, .slice none 0 0] := hv 0 (by decide) rfl
        have e1 : vs 21 = .agg #[.bool false, .slice none 0 0] := hv 1 (by decide) rfl
        simp only [putAll, List.foldl_cons, List.foldl_nil, Act.put, List.setIfInBounds_toArray, List.set_cons_succ, List.set_cons_zero, List.drop_succ_cons, List.drop_zero, e0, e1]
        have HB' : Hd (Below W0.heap.size W0 wx) := ⟨bel_then HB.out hb⟩
        clear HB hv hal hne e0 e1 hb
        have HB := HB'
        clear HB' q0 q1 q2 q3 g0 g1 u0 u1 p0 p1 v0 v1
        have R4 := QR.out.to HB.out
        have R5 := QS.out.to HB.out
        refine wpListS_store rfl rfl rfl rfl rfl (store_api R4.c0 R4.c1 R4.f0 R4.f1 _ _ _ _) (SK_mk [1] (by kernel_rfl) (fun i _ _ => (blk_far2 R5 (by omega)).at2)) (wpListS_done (by kernel_rfl) ?_)
        have g0 := R4.c0
        have g1 := R4.c1
        have p0 := R5.c0
        have p1 := R5.c1
        have v0 := R5.f0
        have v1 := R5.f1
        clear R4 R5
        go_wp2_with fail
        obtain ⟨k0, k1, k2, k3, k4, k5, k6⟩ := four_set g0 g1 p0 p1 (show w.heap.size + 1 + 1 ≠ w.heap.size + 1 + 1 + 1 by omega) (.bool false) (.slice none 0 0) (.bool false) (.slice none 0 0)
        refine bodyPost_ret (v := .tuple #[.agg #[.bool false, .slice none 0 0], .agg #[.bool false, .slice none 0 0], .int .i64 4]) (by simp [results, Try.results40, go_sem, k0, k1, k2, k3]) rfl ?_
        have nsz := HSZ.out
        exact ⟨none, 0, none, 0, by rw [show ln (Int.natAbs 0) = 0 from ln_zero]; rfl, NN.nil _ _ _ (by omega), NN.nil _ _ _ (by omega), (by repeat (first | exact bel_then HW.out HB.out | refine below_set ?_ (by first | exact Nat.le_refl _ | omega | (simp; done) | (simp; omega)) _ | refine below_alloc ?_ _ | refine below_drewN ?_ _ | refine below_drew ?_))⟩
    · have hn0 : n2 ≠ 0 := fun h => h0 (hz0.1 h)
      have hdn : decide (n2 = 0) = false := decide_eq_false hn0
      rw [if_pos ⟨hok, h0⟩, if_pos ⟨hok, h0⟩, if_pos hok, if_neg h0]
      have HP2 := Hd.mk (HP.out h0)
      clear hn1 hn2 hok hz0 h0 hn0 HP
      go_enter Try.func40, Try.ntmps40
      go_wp2_with fail
      obtain ⟨W0, hW0⟩ : ∃ W : World, W = (((w.alloc (.cells #[.bool b1, .slice A1 n1 c1] 24)).alloc (.cells #[.bool b2, .slice A2 n2 c2] 24)).alloc (.cells #[.bool false, .slice none 0 0] 24)).alloc (.cells #[.bool false, .slice none 0 0] 24) := ⟨_, rfl⟩
      rw [← hW0]
      have HSZ : Hd (w.heap.size + 1 + 1 + 1 + 1 = W0.heap.size) := ⟨by rw [hW0]; simp⟩
      obtain ⟨hB0, hB1, hB2, hB3, hBW⟩ := boxes4 hW0
      have q0 := hB0.c0
      have q1 := hB0.c1
      have q2 := hB1.c0
      have q3 := hB1.c1
      have g0 := hB2.c0
      have g1 := hB2.c1
      have u0 := hB2.f0
      have u1 := hB2.f1
      have p0 := hB3.c0
      have p1 := hB3.c1
      have v0 := hB3.f0
      have v1 := hB3.f1
      have Q0 := Hd.mk hB0
      have Q1 := Hd.mk hB1
      have QR := Hd.mk hB2
      have QS := Hd.mk hB3
      have HW := Hd.mk hBW
      have HB : Hd (Below W0.heap.size W0 W0) := ⟨Below.refl _ _⟩
      clear hB0 hB1 hB2 hB3 hBW hW0
      refine (HV.out _ _ (bel_then HW.out (by repeat (first | exact HB.out | exact Below.refl _ _ | refine below_alloc ?_ _ | refine below_drewN ?_ _ | refine below_drew ?_ | refine below_set ?_ (by first | exact Nat.le_refl _ | omega | (simp; done) | (simp; omega)) _))) (blk_new HSZ.out _ _)).mono ?_
      rintro e w1 ⟨rfl, hb1⟩
      have HB' : Hd (Below W0.heap.size W0 _) := ⟨bel_then (by repeat (first | exact HB.out | exact Below.refl _ _ | refine below_alloc ?_ _ | refine below_drewN ?_ _ | refine below_drew ?_ | refine below_set ?_ (by first | exact Nat.le_refl _ | omega | (simp; done) | (simp; omega)) _)) hb1⟩; clear HB; have HB := HB'; clear HB' hb1; replace q0 := (Q0.out.to HB.out).c0; replace q1 := (Q0.out.to HB.out).c1; replace q2 := (Q1.out.to HB.out).c0; replace q3 := (Q1.out.to HB.out).c1; replace g0 := (QR.out.to HB.out).c0; replace g1 := (QR.out.to HB.out).c1; replace u0 := (QR.out.to HB.out).f0; replace u1 := (QR.out.to HB.out).f1; replace p0 := (QS.out.to HB.out).c0; replace p1 := (QS.out.to HB.out).c1; replace v0 := (QS.out.to HB.out).f0; replace v1 := (QS.out.to HB.out).f1
      go_wp2_with fail
      refine (of_calls _ _ _ _ _).mono ?_
      rintro e w2 ⟨rfl, hb2⟩
      have HB' : Hd (Below W0.heap.size W0 _) := ⟨bel_then (by repeat (first | exact HB.out | exact Below.refl _ _ | refine below_alloc ?_ _ | refine below_drewN ?_ _ | refine below_drew ?_ | refine below_set ?_ (by first | exact Nat.le_refl _ | omega | (simp; done) | (simp; omega)) _)) hb2⟩; clear HB; have HB := HB'; clear HB' hb2; replace q0 := (Q0.out.to HB.out).c0; replace q1 := (Q0.out.to HB.out).c1; replace q2 := (Q1.out.to HB.out).c0; replace q3 := (Q1.out.to HB.out).c1; replace g0 := (QR.out.to HB.out).c0; replace g1 := (QR.out.to HB.out).c1; replace u0 := (QR.out.to HB.out).f0; replace u1 := (QR.out.to HB.out).f1; replace p0 := (QS.out.to HB.out).c0; replace p1 := (QS.out.to HB.out).c1; replace v0 := (QS.out.to HB.out).f0; replace v1 := (QS.out.to HB.out).f1
      go_wp2_with fail
      refine (zero_calls _ _ _ _ (by omega)).mono ?_
      rintro e w3 ⟨rfl, rfl⟩
      rw [hdn]
      go_wp2_with fail
      refine wp_region_vs 10 [23, 24, 25, 26, 27, 22, 28, 29, 7, 8] [5, 6, 7] [8, 9] 70 [.bool false, .slice none 0 0] [isV (.agg #[.bool b1, .slice A1 n1 c1]), isV (.agg #[.bool b1, .slice A1 n1 c1]), isV (.agg #[.bool b2, .slice A2 n2 c2]), isV (.agg #[.bool b2, .slice A2 n2 c2]), isZZ q r, isZZ q r, isZ q, isZ r] (by kernel_rfl) (by kernel_rfl) (by kernel_rfl) (by rfl) alloc_whole (fun d v c a w h => by cases d <;> exact h) ?_ ?_
      · intro i hi hA a wx hb hs hd
        match i, hi, hA with
        | 0, _, _ => exact op_load rfl rfl (hs 2 rfl) (load_api (Q0.out.to (bel_then HB.out hb)).c0 (Q0.out.to (bel_then HB.out hb)).c1) rfl
        | 1, _, _ =>
          have h0 : a.eval (.tmp 23) = _ := hd 0 rfl
          exact op_call rfl rfl Try.call69 (by simp only [List.map_toArray, List.map_cons, List.map_nil, h0]) ((of_calls _ _ _ _ _).mono fun e w' ⟨he, hb⟩ => ⟨_, he, hb, rfl⟩)
        | 2, _, _ => exact op_load rfl rfl (hs 3 rfl) (load_api (Q1.out.to (bel_then HB.out hb)).c0 (Q1.out.to (bel_then HB.out hb)).c1) rfl
        | 3, _, _ =>
          have h0 : a.eval (.tmp 25) = _ := hd 2 rfl
          exact op_call rfl rfl Try.call69 (by simp only [List.map_toArray, List.map_cons, List.map_nil, h0]) ((of_calls _ _ _ _ _).mono fun e w' ⟨he, hb⟩ => ⟨_, he, hb, rfl⟩)
        | 4, _, _ =>
          have h0 : a.eval (.tmp 24) = _ := hd 1 rfl
          have h1 : a.eval (.tmp 26) = _ := hd 3 rfl
          exact op_call rfl rfl Try.call90 (by simp only [List.map_toArray, List.map_cons, List.map_nil, h0, h1]) ((HP2.out _ (bel_then HW.out (bel_then HB.out hb))).mono fun e w' ⟨A, c, A', c', he, h1, h2, hb⟩ => ⟨_, he, hb, A, c, A', c', rfl, h1, h2⟩)
        | 5, _, _ =>
          obtain ⟨A, c, A', c', h, h1, h2⟩ := hd 4 rfl
          exact ⟨_, op_move rfl h, A, c, A', c', rfl, h1, h2⟩
        | 6, _, _ =>
          obtain ⟨A, c, A', c', h, h1, h2⟩ := hd 5 rfl
          exact ⟨_, op_extract rfl h rfl, A, c, rfl, h1⟩
        | 7, _, _ =>
          obtain ⟨A, c, A', c', h, h1, h2⟩ := hd 5 rfl
          exact ⟨_, op_extract rfl h rfl, A', c', rfl, h2⟩
        | 8, _, h => cases h
        | 9, _, h => cases h
        | i + 10, h, _ => omega
      · intro vs wx hb hv hal hne
        obtain ⟨A3, c3, e6, hn3⟩ : (isZ q).p (vs 28) wx := hv 6 (by decide) rfl
        obtain ⟨A4, c4, e7, hn4⟩ : (isZ r).p (vs 29) wx := hv 7 (by decide) rfl
        obtain ⟨g7, e8, hg7, h7⟩ : ∃ g, vs 7 = .pointer (some ⟨g, 0, none⟩) ∧ _ := hal 8 rfl
        obtain ⟨g8, e9, hg8, h8⟩ : ∃ g, vs 8 = .pointer (some ⟨g, 0, none⟩) ∧ _ := hal 9 rfl
        have h78 : g7 ≠ g8 := ptr_ne (by rw [← e8, ← e9]; exact hne 8 9 rfl rfl (by decide))
        have h87 := Ne.symm h78
        simp only [putAll, List.foldl_cons, List.foldl_nil, Act.put, List.setIfInBounds_toArray, List.set_cons_succ, List.set_cons_zero, List.drop_succ_cons, List.drop_zero, e6, e7, e8, e9]
        generalize vs 23 = s23
        generalize vs 24 = s24
        generalize vs 25 = s25
        generalize vs 26 = s26
        generalize vs 27 = s27
        generalize vs 22 = s22
        clear hv hal hne e6 e7 e8 e9 q0 q1 q2 q3 g0 g1 u0 u1 p0 p1 v0 v1
        have N3 := Hd.mk hn3
        have N4 := Hd.mk hn4
        have Z7 := Hd.mk h7
        have Z8 := Hd.mk h8
        have G7 : Hd (W0.heap.size ≤ g7) := ⟨Nat.le_trans HB.out.size hg7⟩
        have G8 : Hd (W0.heap.size ≤ g8) := ⟨Nat.le_trans HB.out.size hg8⟩
        have HB' : Hd (Below W0.heap.size W0 wx) := ⟨bel_then HB.out hb⟩
        clear HB
        have HB := HB'
        have z0 := h7.c0
        have z1 := h7.c1
        have z2 := h8.c0
        have z3 := h8.c1
        have y0 := h7.f0
        have y1 := h7.f1
        have y2 := h8.f0
        have y3 := h8.f1
        clear hg7 hg8 hn3 hn4 h7 h8 hb HB'
        go_wp2_with fail
        obtain ⟨W6, hW6⟩ : ∃ W : World, W = ((((wx.setCell ⟨g7, 0, none⟩ (.bool (decide (q < 0)))).setCell ⟨g7, 1, none⟩ (.slice A3 (ln q.natAbs) c3)).setCell ⟨g8, 0, none⟩ (.bool (decide (r < 0)))).setCell ⟨g8, 1, none⟩ (.slice A4 (ln r.natAbs) c4)) := ⟨_, rfl⟩
        rw [← hW6]
        have Y7 : Hd (Blk W6 g7 70 [.bool (decide (q < 0)), .slice A3 (ln q.natAbs) c3]) := ⟨by rw [hW6]; exact blk_far2 (blk_put2 Z7.out) h78⟩
        have Y8 : Hd (Blk W6 g8 70 [.bool (decide (r < 0)), .slice A4 (ln r.natAbs) c4]) := ⟨by rw [hW6]; exact blk_put2 (blk_far2 Z8.out h87)⟩
        have M3 : Hd (NN W6 A3 c3 q.natAbs) := ⟨by rw [hW6]; exact nn_put2 (nn_put2 N3.out Z7.out) (blk_far2 Z8.out h87)⟩
        have M4 : Hd (NN W6 A4 c4 r.natAbs) := ⟨by rw [hW6]; exact nn_put2 (nn_put2 N4.out Z7.out) (blk_far2 Z8.out h87)⟩
        have HB6 : Hd (Below W0.heap.size W0 W6) := ⟨by rw [hW6]; exact below_put2 (below_put2 HB.out G7.out) G8.out⟩
        clear hW6 Z7 Z8 N3 N4 HB z0 z1 z2 z3 y0 y1 y2 y3 h78 h87 G7 G8
        refine wp_region_vs 4 [30, 31, 32, 33] [] [] 70 [.bool false, .slice none 0 0] [isV (.agg #[.bool (decide (q < 0)), .slice A3 (ln q.natAbs) c3]), isZ q, isV (.agg #[.bool (decide (r < 0)), .slice A4 (ln r.natAbs) c4]), isZ r] (by kernel_rfl) (by kernel_rfl) (by kernel_rfl) (by rfl) alloc_whole (fun d v c a w h => by cases d <;> exact h) ?_ ?_
        · intro i hi hA a wy hb hs hd
          match i, hi, hA with
          | 0, _, _ => exact op_load rfl rfl (hs 7 rfl) (load_whole (Y7.out.to hb).c0 (Y7.out.to hb).c1) rfl
          | 1, _, _ =>
            have h0 : a.eval (.tmp 30) = _ := hd 0 rfl
            exact op_call rfl rfl Try.call72 (by simp only [List.map_toArray, List.map_cons, List.map_nil, h0]) ((value_calls q A3 c3 wy (M3.out.to hb) hlq).mono fun e w' ⟨A, c, he, hn, hb⟩ => ⟨_, he, hb, A, c, rfl, hn⟩)
          | 2, _, _ => exact op_load rfl rfl (hs 8 rfl) (load_whole (Y8.out.to hb).c0 (Y8.out.to hb).c1) rfl
          | 3, _, _ =>
            have h0 : a.eval (.tmp 32) = _ := hd 2 rfl
            exact op_call rfl rfl Try.call72 (by simp only [List.map_toArray, List.map_cons, List.map_nil, h0]) ((value_calls r A4 c4 wy (M4.out.to hb) hlr).mono fun e w' ⟨A, c, he, hn, hb⟩ => ⟨_, he, hb, A, c, rfl, hn⟩)
          | i + 4, h, _ => omega
        · intro vs wy hb hv hal hne
          obtain ⟨A5, c5, e1, hn5⟩ : (isZ q).p (vs 31) wy := hv 1 (by decide) rfl
          obtain ⟨A6, c6, e3, hn6⟩ : (isZ r).p (vs 33) wy := hv 3 (by decide) rfl
          simp only [putAll, List.foldl_cons, List.foldl_nil, Act.put, List.setIfInBounds_toArray, List.set_cons_succ, List.set_cons_zero, List.drop_succ_cons, List.drop_zero, e1, e3]
          generalize vs 30 = s30
          generalize vs 32 = s32
          have HB : Hd (Below W0.heap.size W0 wy) := ⟨bel_then HB6.out hb⟩
          have HN5 := Hd.mk hn5
          have HN6 := Hd.mk hn6
          clear hv hal hne e1 e3 hn5 hn6 hb HB6 Y7 Y8 M3 M4
          have g0 := (QR.out.to HB.out).c0
          have g1 := (QR.out.to HB.out).c1
          have p0 := (QS.out.to HB.out).c0
          have p1 := (QS.out.to HB.out).c1
          have u0 := (QR.out.to HB.out).f0
          have u1 := (QR.out.to HB.out).f1
          have v0 := (QS.out.to HB.out).f0
          have v1 := (QS.out.to HB.out).f1
          have nsz := HSZ.out
          clear nsz
          go_wp2_with fail
          obtain ⟨k0, k1, k2, k3, k4, k5, k6⟩ := four_set g0 g1 p0 p1 (show w.heap.size + 1 + 1 ≠ w.heap.size + 1 + 1 + 1 by omega) (.bool (decide (q < 0))) (.slice A5 (ln q.natAbs) c5) (.bool (decide (r < 0))) (.slice A6 (ln r.natAbs) c6)
          refine bodyPost_ret (v := .tuple #[.agg #[.bool (decide (q < 0)), .slice A5 (ln q.natAbs) c5], .agg #[.bool (decide (r < 0)), .slice A6 (ln r.natAbs) c6], .int .i64 0]) (by simp [results, Try.results40, go_sem, k0, k1, k2, k3]) rfl ?_
          exact ⟨_, _, _, _, rfl, (((HN5.out.set_ g0 (by intro t; simp) _).set_ k4 (by intro t; simp) _).set_ k5 (by intro t; simp) _).set_ k6 (by intro t; simp) _, (((HN6.out.set_ g0 (by intro t; simp) _).set_ k4 (by intro t; simp) _).set_ k5 (by intro t; simp) _).set_ k6 (by intro t; simp) _, (by repeat (first | exact bel_then HW.out HB.out | refine below_set ?_ (by first | exact Nat.le_refl _ | omega | (simp; done) | (simp; omega)) _ | refine below_alloc ?_ _ | refine below_drewN ?_ _ | refine below_drew ?_))⟩
  · have hno : (x.ok && y.ok) = false := by simpa using hok
    rw [hno] at HV
    rw [if_neg (fun h => hok h.1), if_neg (fun h => hok h.1), if_neg hok]
    unfold Raw.v
    clear hx hy hok hno
    obtain ⟨b1, A1, c1, xs⟩ := x
    obtain ⟨b2, A2, c2, ys⟩ := y
    simp only at HV ⊢
    obtain ⟨n1, hn1⟩ : ∃ n, n = xs.length := ⟨_, rfl⟩
    obtain ⟨n2, hn2⟩ : ∃ n, n = ys.length := ⟨_, rfl⟩
    rw [← hn1, ← hn2] at HV ⊢
    clear hn1 hn2
    go_enter Try.func40, Try.ntmps40
    go_wp2_with fail
    obtain ⟨W0, hW0⟩ : ∃ W : World, W = (((w.alloc (.cells #[.bool b1, .slice A1 n1 c1] 24)).alloc (.cells #[.bool b2, .slice A2 n2 c2] 24)).alloc (.cells #[.bool false, .slice none 0 0] 24)).alloc (.cells #[.bool false, .slice none 0 0] 24) := ⟨_, rfl⟩
    rw [← hW0]
    have HSZ : Hd (w.heap.size + 1 + 1 + 1 + 1 = W0.heap.size) := ⟨by rw [hW0]; simp⟩
    obtain ⟨hB0, hB1, hB2, hB3, hBW⟩ := boxes4 hW0
    have q0 := hB0.c0
    have q1 := hB0.c1
    have q2 := hB1.c0
    have q3 := hB1.c1
    have g0 := hB2.c0
    have g1 := hB2.c1
    have u0 := hB2.f0
    have u1 := hB2.f1
    have p0 := hB3.c0
    have p1 := hB3.c1
    have v0 := hB3.f0
    have v1 := hB3.f1
    have Q0 := Hd.mk hB0
    have Q1 := Hd.mk hB1
    have QR := Hd.mk hB2
    have QS := Hd.mk hB3
    have HW := Hd.mk hBW
    have HB : Hd (Below W0.heap.size W0 W0) := ⟨Below.refl _ _⟩
    clear hB0 hB1 hB2 hB3 hBW hW0
    refine (HV.out _ _ (bel_then HW.out (by repeat (first | exact HB.out | exact Below.refl _ _ | refine below_alloc ?_ _ | refine below_drewN ?_ _ | refine below_drew ?_ | refine below_set ?_ (by first | exact Nat.le_refl _ | omega | (simp; done) | (simp; omega)) _))) (blk_new HSZ.out _ _)).mono ?_
    rintro e w1 ⟨rfl, hb1⟩
    have HB' : Hd (Below W0.heap.size W0 _) := ⟨bel_then (by repeat (first | exact HB.out | exact Below.refl _ _ | refine below_alloc ?_ _ | refine below_drewN ?_ _ | refine below_drew ?_ | refine below_set ?_ (by first | exact Nat.le_refl _ | omega | (simp; done) | (simp; omega)) _)) hb1⟩; clear HB; have HB := HB'; clear HB' hb1; replace q0 := (Q0.out.to HB.out).c0; replace q1 := (Q0.out.to HB.out).c1; replace q2 := (Q1.out.to HB.out).c0; replace q3 := (Q1.out.to HB.out).c1; replace g0 := (QR.out.to HB.out).c0; replace g1 := (QR.out.to HB.out).c1; replace u0 := (QR.out.to HB.out).f0; replace u1 := (QR.out.to HB.out).f1; replace p0 := (QS.out.to HB.out).c0; replace p1 := (QS.out.to HB.out).c1; replace v0 := (QS.out.to HB.out).f0; replace v1 := (QS.out.to HB.out).f1
    go_wp2_with fail
    refine wp_region_vl 2 [14, 15] [] [1] [] 24 [.bool false, .slice none 0 0] [isV (.agg #[.bool false, .slice none 0 0]), isV (.agg #[.bool false, .slice none 0 0])] (fun _ => At2 (w.heap.size + 1 + 1 + 1) (.bool false) (.slice none 0 0)) (by kernel_rfl) (by kernel_rfl) (by kernel_rfl) (by rfl) (by kernel_rfl) ?_ alloc_api (fun d v c a w h => by cases d <;> exact h) ?_ ?_
    · exact fun i _ wx hb => (QS.out.to (bel_then HB.out hb)).at2
    · intro i hi hA a wx hb hs hd
      match i, hi, hA with
      | 0, _, _ => exact op_load rfl rfl (hs 4 rfl) (load_api (QR.out.to (bel_then HB.out hb)).c0 (QR.out.to (bel_then HB.out hb)).c1) rfl
      | 1, _, _ => exact ⟨_, op_loadY rfl (hs 5 rfl) (fun w hw => load_api hw.1 hw.2), rfl⟩
      | i + 2, h, _ => omega
    · intro vs wx hb hv hal hne
      have e0 : vs 14 = .agg #[.bool false, .slice none 0 0] := hv 0 (by decide) rfl
      have e1 : vs 15 = .agg #[.bool false, .slice none 0 0] := hv 1 (by decide) rfl
      simp only [putAll, List.foldl_cons, List.foldl_nil, Act.put, List.setIfInBounds_toArray, List.set_cons_succ, List.set_cons_zero, List.drop_succ_cons, List.drop_zero, e0, e1]
      have HB' : Hd (Below W0.heap.size W0 wx) := ⟨bel_then HB.out hb⟩
      clear HB hv hal hne e0 e1 hb
      have HB := HB'
      clear HB' q0 q1 q2 q3 g0 g1 u0 u1 p0 p1 v0 v1
      have R4 := QR.out.to HB.out
      have R5 := QS.out.to HB.out
      refine wpListS_store rfl rfl rfl rfl rfl (store_api R4.c0 R4.c1 R4.f0 R4.f1 _ _ _ _) (SK_mk [1] (by kernel_rfl) (fun i _ _ => (blk_far2 R5 (by omega)).at2)) (wpListS_done (by kernel_rfl) ?_)
      have g0 := R4.c0
      have g1 := R4.c1
      have p0 := R5.c0
      have p1 := R5.c1
      have v0 := R5.f0
      have v1 := R5.f1
      clear R4 R5
      go_wp2_with fail
      obtain ⟨k0, k1, k2, k3, k4, k5, k6⟩ := four_set g0 g1 p0 p1 (show w.heap.size + 1 + 1 ≠ w.heap.size + 1 + 1 + 1 by omega) (.bool false) (.slice none 0 0) (.bool false) (.slice none 0 0)
      refine bodyPost_ret (v := .tuple #[.agg #[.bool false, .slice none 0 0], .agg #[.bool false, .slice none 0 0], .int .i64 2]) (by simp [results, Try.results40, go_sem, k0, k1, k2, k3]) rfl ?_
      have nsz := HSZ.out
      exact ⟨none, 0, none, 0, by rw [show ln (Int.natAbs 0) = 0 from ln_zero]; rfl, NN.nil _ _ _ (by omega), NN.nil _ _ _ (by omega), (by repeat (first | exact bel_then HW.out HB.out | refine below_set ?_ (by first | exact Nat.le_refl _ | omega | (simp; done) | (simp; omega)) _ | refine below_alloc ?_ _ | refine below_drewN ?_ _ | refine below_drew ?_))⟩
end Go.Proofs.Ytcjcpfafalkceaa
