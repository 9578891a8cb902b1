/- Package exact: Cmp; the reference's Cmp; the call that every correct program passes. -/
import Derived.Test.YtcjcpfafalkceaaM
set_option linter.unusedVariables false
namespace Go.Proofs.Ytcjcpfafalkceaa
open Go.RowKit
set_option maxHeartbeats 1000000 in
set_option maxRecDepth 100000 in
theorem wcmp_calls (x y : Int) (A1 : Option Addr) (c1 : Nat) (A2 : Option Addr) (c2 : Nat) (w : World) (h1 : NN w A1 c1 x.natAbs) (h2 : NN w A2 c2 y.natAbs) :
    Calls Try.prog 74 #[.agg #[.bool (decide (x < 0)), .slice A1 (ln x.natAbs) c1], .agg #[.bool (decide (y < 0)), .slice A2 (ln y.natAbs) c2]] w fun e w' => e = .returned (.int .i64 (sgnv (x - y))) ∧ Below w.heap.size w w' := by
  have HC1 := Hd.mk (fun W (hW : Below w.heap.size w W) => cmp_calls A1 c1 x.natAbs A2 c2 y.natAbs W (h1.to hW) (h2.to hW))
  have HC2 := Hd.mk (fun W (hW : Below w.heap.size w W) => cmp_calls A2 c2 y.natAbs A1 c1 x.natAbs W (h2.to hW) (h1.to hW))
  clear h1 h2
  by_cases hx : x < 0
  · by_cases hy : y < 0
    · have e : cmpv y.natAbs x.natAbs = sgnv (x - y) := by unfold cmpv sgnv; split <;> split <;> (try split) <;> omega
      rw [e] at HC2
      obtain ⟨v, hv⟩ : ∃ v, v = sgnv (x - y) := ⟨_, rfl⟩
      rw [← hv] at HC2 ⊢
      rw [decide_eq_true hx, decide_eq_true hy]
      clear e hv hx hy
      go_enter Try.func74, Try.ntmps74
      go_wp2_with fail
      obtain ⟨W0, hW0⟩ : ∃ W : World, W = (w.alloc (.cells #[.bool true, .slice A1 (ln x.natAbs) c1] 70)).alloc (.cells #[.bool true, .slice A2 (ln y.natAbs) c2] 70) := ⟨_, rfl⟩
      rw [← hW0]
      have HSZ : Hd (w.heap.size + 1 + 1 = W0.heap.size) := ⟨by rw [hW0]; simp⟩
      obtain ⟨hB0, hB1, hBW⟩ := boxes2 hW0
      have q0 := hB0.c0
      have q1 := hB0.c1
      have q2 := hB1.c0
      have q3 := hB1.c1
      have Q0 := Hd.mk hB0
      have Q1 := Hd.mk hB1
      have HW := Hd.mk hBW
      have HB : Hd (Below W0.heap.size W0 W0) := ⟨Below.refl _ _⟩
      clear hB0 hB1 hBW hW0
      refine (HC2.out _ HW.out).mono ?_
      rintro e w' ⟨rfl, q, rfl⟩
      go_wp2_with fail
      go_ret
      exact ⟨rfl, (by repeat (first | exact bel_then HW.out HB.out | refine below_set ?_ (by first | exact Nat.le_refl _ | omega | (simp; done) | (simp; omega)) _ | refine below_alloc ?_ _ | refine below_drewN ?_ _ | refine below_drew ?_))⟩
    · have e : sgnv (x - y) = -1 := if_pos (by omega)
      rw [e, decide_eq_true hx, decide_eq_false hy]
      clear e hx hy
      go_enter Try.func74, Try.ntmps74
      go_wp2
      go_ret
      exact ⟨rfl, by repeat (first | exact HB.out | exact Below.refl _ _ | refine below_alloc ?_ _ | refine below_drewN ?_ _ | refine below_drew ?_ | refine below_set ?_ (by first | exact Nat.le_refl _ | omega | (simp; done) | (simp; omega)) _)⟩
  · by_cases hy : y < 0
    · have e : sgnv (x - y) = 1 := by unfold sgnv; rw [if_neg (by omega), if_neg (by omega)]
      rw [e, decide_eq_false hx, decide_eq_true hy]
      clear e hx hy
      go_enter Try.func74, Try.ntmps74
      go_wp2
      go_ret
      exact ⟨rfl, by repeat (first | exact HB.out | exact Below.refl _ _ | refine below_alloc ?_ _ | refine below_drewN ?_ _ | refine below_drew ?_ | refine below_set ?_ (by first | exact Nat.le_refl _ | omega | (simp; done) | (simp; omega)) _)⟩
    · have e : cmpv x.natAbs y.natAbs = sgnv (x - y) := by unfold cmpv sgnv; split <;> split <;> (try split) <;> omega
      rw [e] at HC1
      obtain ⟨v, hv⟩ : ∃ v, v = sgnv (x - y) := ⟨_, rfl⟩
      rw [← hv] at HC1 ⊢
      rw [decide_eq_false hx, decide_eq_false hy]
      clear e hv hx hy
      go_enter Try.func74, Try.ntmps74
      go_wp2_with fail
      obtain ⟨W0, hW0⟩ : ∃ W : World, W = (w.alloc (.cells #[.bool false, .slice A1 (ln x.natAbs) c1] 70)).alloc (.cells #[.bool false, .slice A2 (ln y.natAbs) c2] 70) := ⟨_, rfl⟩
      rw [← hW0]
      have HSZ : Hd (w.heap.size + 1 + 1 = W0.heap.size) := ⟨by rw [hW0]; simp⟩
      obtain ⟨hB0, hB1, hBW⟩ := boxes2 hW0
      have q0 := hB0.c0
      have q1 := hB0.c1
      have q2 := hB1.c0
      have q3 := hB1.c1
      have Q0 := Hd.mk hB0
      have Q1 := Hd.mk hB1
      have HW := Hd.mk hBW
      have HB : Hd (Below W0.heap.size W0 W0) := ⟨Below.refl _ _⟩
      clear hB0 hB1 hBW hW0
      refine (HC1.out _ HW.out).mono ?_
      rintro e w' ⟨rfl, q, rfl⟩
      go_wp2_with fail
      go_ret
      exact ⟨rfl, (by repeat (first | exact bel_then HW.out HB.out | refine below_set ?_ (by first | exact Nat.le_refl _ | omega | (simp; done) | (simp; omega)) _ | refine below_alloc ?_ _ | refine below_drewN ?_ _ | refine below_drew ?_))⟩
set_option maxHeartbeats 1000000 in
set_option maxRecDepth 100000 in
theorem Cmp_calls (x y : Raw) (w : World) (hx : x.at_ w) (hy : y.at_ w) :
    Calls Try.prog 25 #[x.v, y.v] w fun e w' => e = .returned (.tuple #[.int .i64 (cmpr x y), .int .i64 (cmpe x y)]) ∧ Below w.heap.size w w' := by
  unfold cmpr cmpe
  have HV := Hd.mk (fun g W (h : Below w.heap.size w W) (hB : Blk W g 24 [.bool x.neg, .slice x.A x.xs.length x.c, .bool y.neg, .slice y.A y.xs.length y.c]) => valid_calls [x, y] g 2 W (raws_two h hx hy hB) rfl (Nat.le_refl _))
  rw [all_two] at HV
  by_cases hok : (x.ok && y.ok) = true
  · obtain ⟨hxo, hyo⟩ := and_ok hok
    rw [hok] at HV
    have HP := Hd.mk (fun W (hW : Below w.heap.size w W) => wcmp_calls x.val y.val x.A x.c y.A y.c W ((Raw.nn hxo hx).to hW) ((Raw.nn hyo hy).to hW))
    rw [← (Raw.num hxo hx.2.1).1, ← (Raw.num hyo hy.2.1).1] at HP
    obtain ⟨z, hz⟩ : ∃ z, z = sgnv (x.val - y.val) := ⟨_, rfl⟩
    rw [← hz] at HP ⊢
    rw [if_pos hok, if_pos hok]
    unfold Raw.v at HP ⊢
    clear hx hy hz hxo hyo hok
    obtain ⟨b1, A1, c1, xs⟩ := x
    obtain ⟨b2, A2, c2, ys⟩ := y
    simp only at HP HV ⊢
    obtain ⟨n1, hn1⟩ : ∃ n, n = xs.length := ⟨_, rfl⟩
    obtain ⟨n2, hn2⟩ : ∃ n, n = ys.length := ⟨_, rfl⟩
    rw [← hn1] at HP HV ⊢
    rw [← hn2] at HP HV ⊢
    clear hn1 hn2
    go_enter Try.func25, Try.ntmps25
    go_wp2_with fail
    obtain ⟨W0, hW0⟩ : ∃ W : World, W = (w.alloc (.cells #[.bool b1, .slice A1 n1 c1] 24)).alloc (.cells #[.bool b2, .slice A2 n2 c2] 24) := ⟨_, rfl⟩
    rw [← hW0]
    have HSZ : Hd (w.heap.size + 1 + 1 = W0.heap.size) := ⟨by rw [hW0]; simp⟩
    obtain ⟨hB0, hB1, hBW⟩ := boxes2 hW0
    have q0 := hB0.c0
    have q1 := hB0.c1
    have q2 := hB1.c0
    have q3 := hB1.c1
    have Q0 := Hd.mk hB0
    have Q1 := Hd.mk hB1
    have HW := Hd.mk hBW
    have HB : Hd (Below W0.heap.size W0 W0) := ⟨Below.refl _ _⟩
    clear hB0 hB1 hBW hW0
    refine (HV.out _ _ (bel_then HW.out (by repeat (first | exact HB.out | exact Below.refl _ _ | refine below_alloc ?_ _ | refine below_drewN ?_ _ | refine below_drew ?_ | refine below_set ?_ (by first | exact Nat.le_refl _ | omega | (simp; done) | (simp; omega)) _))) (blk_new HSZ.out _ _)).mono ?_
    rintro e w1 ⟨rfl, hb1⟩
    have HB' : Hd (Below W0.heap.size W0 _) := ⟨bel_then (by repeat (first | exact HB.out | exact Below.refl _ _ | refine below_alloc ?_ _ | refine below_drewN ?_ _ | refine below_drew ?_ | refine below_set ?_ (by first | exact Nat.le_refl _ | omega | (simp; done) | (simp; omega)) _)) hb1⟩; clear HB; have HB := HB'; clear HB' hb1; replace q0 := (Q0.out.to HB.out).c0; replace q1 := (Q0.out.to HB.out).c1; replace q2 := (Q1.out.to HB.out).c0; replace q3 := (Q1.out.to HB.out).c1
    go_wp2_with fail
    go_region_held3 (fun w' => w'.cell? ⟨w.heap.size, 0, none⟩ = some (.bool b1) ∧ w'.cell? ⟨w.heap.size, 1, none⟩ = some (.slice A1 n1 c1) ∧ w'.cell? ⟨w.heap.size + 1, 0, none⟩ = some (.bool b2) ∧ w'.cell? ⟨w.heap.size + 1, 1, none⟩ = some (.slice A2 n2 c2)) (first | exact ⟨q0, q1, q2, q3⟩ | (repeat' apply And.intro) <;> (first | exact q0 | exact q1 | exact q2 | exact q3 | (go_keep; done) | (rw [World.cell?_setCell_far _ _ _ _ (by first | (simp; done) | (simp; omega)), World.cell?_setCell_far _ _ _ _ (by first | (simp; done) | (simp; omega))]; first | exact q0 | exact q1 | exact q2 | exact q3)))
      (first | (go_at_call 69; refine (of_calls _ _ _ _ _).mono ?_; rintro e w3 ⟨rfl, hb3⟩; have HB' : Hd (Below W0.heap.size W0 _) := ⟨bel_then (by repeat (first | exact HB.out | exact Below.refl _ _ | refine below_alloc ?_ _ | refine below_drewN ?_ _ | refine below_drew ?_ | refine below_set ?_ (by first | exact Nat.le_refl _ | omega | (simp; done) | (simp; omega)) _)) hb3⟩; clear HB; have HB := HB'; clear HB' hb3; replace q0 := (Q0.out.to HB.out).c0; replace q1 := (Q0.out.to HB.out).c1; replace q2 := (Q1.out.to HB.out).c0; replace q3 := (Q1.out.to HB.out).c1) | (go_at_call 74; refine (HP.out _ (bel_then HW.out (by repeat (first | exact HB.out | exact Below.refl _ _ | refine below_alloc ?_ _ | refine below_drewN ?_ _ | refine below_drew ?_ | refine below_set ?_ (by first | exact Nat.le_refl _ | omega | (simp; done) | (simp; omega)) _)))).mono ?_; rintro e w4 ⟨rfl, hb4⟩; have HB' : Hd (Below W0.heap.size W0 _) := ⟨bel_then (by repeat (first | exact HB.out | exact Below.refl _ _ | refine below_alloc ?_ _ | refine below_drewN ?_ _ | refine below_drew ?_ | refine below_set ?_ (by first | exact Nat.le_refl _ | omega | (simp; done) | (simp; omega)) _)) hb4⟩; clear HB; have HB := HB'; clear HB' hb4; replace q0 := (Q0.out.to HB.out).c0; replace q1 := (Q0.out.to HB.out).c1; replace q2 := (Q1.out.to HB.out).c0; replace q3 := (Q1.out.to HB.out).c1))
    go_wp2_with fail
    go_ret2
    exact ⟨rfl, (by repeat (first | exact bel_then HW.out HB.out | refine below_set ?_ (by first | exact Nat.le_refl _ | omega | (simp; done) | (simp; omega)) _ | refine below_alloc ?_ _ | refine below_drewN ?_ _ | refine below_drew ?_))⟩
  · have hno : (x.ok && y.ok) = false := by simpa using hok
    rw [hno] at HV
    rw [if_neg hok, if_neg hok]
    unfold Raw.v
    clear hx hy hok hno
    obtain ⟨b1, A1, c1, xs⟩ := x
    obtain ⟨b2, A2, c2, ys⟩ := y
    simp only at HV ⊢
    obtain ⟨n1, hn1⟩ : ∃ n, n = xs.length := ⟨_, rfl⟩
    obtain ⟨n2, hn2⟩ : ∃ n, n = ys.length := ⟨_, rfl⟩
    rw [← hn1] at HV ⊢
    rw [← hn2] at HV ⊢
    clear hn1 hn2
    go_enter Try.func25, Try.ntmps25
    go_wp2_with fail
    obtain ⟨W0, hW0⟩ : ∃ W : World, W = (w.alloc (.cells #[.bool b1, .slice A1 n1 c1] 24)).alloc (.cells #[.bool b2, .slice A2 n2 c2] 24) := ⟨_, rfl⟩
    rw [← hW0]
    have HSZ : Hd (w.heap.size + 1 + 1 = W0.heap.size) := ⟨by rw [hW0]; simp⟩
    obtain ⟨hB0, hB1, hBW⟩ := boxes2 hW0
    have q0 := hB0.c0
    have q1 := hB0.c1
    have q2 := hB1.c0
    have q3 := hB1.c1
    have Q0 := Hd.mk hB0
    have Q1 := Hd.mk hB1
    have HW := Hd.mk hBW
    have HB : Hd (Below W0.heap.size W0 W0) := ⟨Below.refl _ _⟩
    clear hB0 hB1 hBW hW0
    refine (HV.out _ _ (bel_then HW.out (by repeat (first | exact HB.out | exact Below.refl _ _ | refine below_alloc ?_ _ | refine below_drewN ?_ _ | refine below_drew ?_ | refine below_set ?_ (by first | exact Nat.le_refl _ | omega | (simp; done) | (simp; omega)) _))) (blk_new HSZ.out _ _)).mono ?_
    rintro e w1 ⟨rfl, hb1⟩
    have HB' : Hd (Below W0.heap.size W0 _) := ⟨bel_then (by repeat (first | exact HB.out | exact Below.refl _ _ | refine below_alloc ?_ _ | refine below_drewN ?_ _ | refine below_drew ?_ | refine below_set ?_ (by first | exact Nat.le_refl _ | omega | (simp; done) | (simp; omega)) _)) hb1⟩; clear HB; have HB := HB'; clear HB' hb1; replace q0 := (Q0.out.to HB.out).c0; replace q1 := (Q0.out.to HB.out).c1; replace q2 := (Q1.out.to HB.out).c0; replace q3 := (Q1.out.to HB.out).c1
    go_wp2_with fail
    go_ret2
    exact ⟨rfl, (by repeat (first | exact bel_then HW.out HB.out | refine below_set ?_ (by first | exact Nat.le_refl _ | omega | (simp; done) | (simp; omega)) _ | refine below_alloc ?_ _ | refine below_drewN ?_ _ | refine below_drew ?_))⟩
set_option maxHeartbeats 1000000 in
set_option maxRecDepth 100000 in
theorem rCmp_calls (x y : Raw) (w : World) (hx : x.at_ w) (hy : y.at_ w) :
    Calls Try.prog 26 #[x.v, y.v] w fun e w' => e = .returned (.tuple #[.int .i64 (cmpr x y), .int .i64 (cmpe x y)]) ∧ Below w.heap.size w w' := by
  unfold cmpr cmpe
  have HV1 := Hd.mk (fun W (hW : Below w.heap.size w W) => rvalid_calls x W (Raw.at_to hx hW))
  have HV2 := Hd.mk (fun W (hW : Below w.heap.size w W) => rvalid_calls y W (Raw.at_to hy hW))
  by_cases hxo : x.ok = true
  · by_cases hyo : y.ok = true
    · rw [hxo, hyo]
      have hlx := Raw.ok_len hxo hx.2.1
      have hly := Raw.ok_len hyo hy.2.1
      have HP := Hd.mk (fun W (hW : Below w.heap.size w W) => rOrder_calls x.val y.val x.A x.c y.A y.c W ((Raw.nn hxo hx).to hW) ((Raw.nn hyo hy).to hW) (by omega) (by omega))
      rw [← (Raw.num hxo hx.2.1).1, ← (Raw.num hyo hy.2.1).1] at HP
      rw [hxo] at HV1
      rw [hyo] at HV2
      obtain ⟨z, hz⟩ : ∃ z, z = sgnv (x.val - y.val) := ⟨_, rfl⟩
      rw [← hz] at HP ⊢
      rw [if_pos (show (true && true) = true from rfl), if_pos (show (true && true) = true from rfl)]
      unfold Raw.v at HP HV1 HV2 ⊢
      clear hx hy hz hxo hyo hlx hly
      obtain ⟨b1, A1, c1, xs⟩ := x
      obtain ⟨b2, A2, c2, ys⟩ := y
      simp only at HP HV1 HV2 ⊢
      obtain ⟨n1, hn1⟩ : ∃ n, n = xs.length := ⟨_, rfl⟩
      obtain ⟨n2, hn2⟩ : ∃ n, n = ys.length := ⟨_, rfl⟩
      rw [← hn1] at HP HV1 ⊢
      rw [← hn2] at HP HV2 ⊢
      clear hn1 hn2
      go_enter Try.func26, Try.ntmps26
      go_wp2_with fail
      obtain ⟨W0, hW0⟩ : ∃ W : World, W = (w.alloc (.cells #[.bool b1, .slice A1 n1 c1] 24)).alloc (.cells #[.bool b2, .slice A2 n2 c2] 24) := ⟨_, rfl⟩
      rw [← hW0]
      have HSZ : Hd (w.heap.size + 1 + 1 = W0.heap.size) := ⟨by rw [hW0]; simp⟩
      obtain ⟨hB0, hB1, hBW⟩ := boxes2 hW0
      have q0 := hB0.c0
      have q1 := hB0.c1
      have q2 := hB1.c0
      have q3 := hB1.c1
      have Q0 := Hd.mk hB0
      have Q1 := Hd.mk hB1
      have HW := Hd.mk hBW
      have HB : Hd (Below W0.heap.size W0 W0) := ⟨Below.refl _ _⟩
      clear hB0 hB1 hBW hW0
      refine (HV1.out _ HW.out).mono ?_
      rintro e w1 ⟨rfl, hb1⟩
      have HB' : Hd (Below W0.heap.size W0 _) := ⟨bel_then (by repeat (first | exact HB.out | exact Below.refl _ _ | refine below_alloc ?_ _ | refine below_drewN ?_ _ | refine below_drew ?_ | refine below_set ?_ (by first | exact Nat.le_refl _ | omega | (simp; done) | (simp; omega)) _)) hb1⟩; clear HB; have HB := HB'; clear HB' hb1; replace q0 := (Q0.out.to HB.out).c0; replace q1 := (Q0.out.to HB.out).c1; replace q2 := (Q1.out.to HB.out).c0; replace q3 := (Q1.out.to HB.out).c1
      go_wp2_with fail
      refine (HV2.out _ (bel_then HW.out (by repeat (first | exact HB.out | exact Below.refl _ _ | refine below_alloc ?_ _ | refine below_drewN ?_ _ | refine below_drew ?_ | refine below_set ?_ (by first | exact Nat.le_refl _ | omega | (simp; done) | (simp; omega)) _)))).mono ?_
      rintro e w2 ⟨rfl, hb2⟩
      have HB' : Hd (Below W0.heap.size W0 _) := ⟨bel_then (by repeat (first | exact HB.out | exact Below.refl _ _ | refine below_alloc ?_ _ | refine below_drewN ?_ _ | refine below_drew ?_ | refine below_set ?_ (by first | exact Nat.le_refl _ | omega | (simp; done) | (simp; omega)) _)) hb2⟩; clear HB; have HB := HB'; clear HB' hb2; replace q0 := (Q0.out.to HB.out).c0; replace q1 := (Q0.out.to HB.out).c1; replace q2 := (Q1.out.to HB.out).c0; replace q3 := (Q1.out.to HB.out).c1
      go_wp2_with fail
      go_region_held3 (fun w' => w'.cell? ⟨w.heap.size, 0, none⟩ = some (.bool b1) ∧ w'.cell? ⟨w.heap.size, 1, none⟩ = some (.slice A1 n1 c1) ∧ w'.cell? ⟨w.heap.size + 1, 0, none⟩ = some (.bool b2) ∧ w'.cell? ⟨w.heap.size + 1, 1, none⟩ = some (.slice A2 n2 c2)) (first | exact ⟨q0, q1, q2, q3⟩ | (repeat' apply And.intro) <;> (first | exact q0 | exact q1 | exact q2 | exact q3 | (go_keep; done) | (rw [World.cell?_setCell_far _ _ _ _ (by first | (simp; done) | (simp; omega)), World.cell?_setCell_far _ _ _ _ (by first | (simp; done) | (simp; omega))]; first | exact q0 | exact q1 | exact q2 | exact q3)))
        (first | (go_at_call 32; refine (rOf_calls _ _ _ _ _).mono ?_; rintro e w3 ⟨rfl, hb3⟩; have HB' : Hd (Below W0.heap.size W0 _) := ⟨bel_then (by repeat (first | exact HB.out | exact Below.refl _ _ | refine below_alloc ?_ _ | refine below_drewN ?_ _ | refine below_drew ?_ | refine below_set ?_ (by first | exact Nat.le_refl _ | omega | (simp; done) | (simp; omega)) _)) hb3⟩; clear HB; have HB := HB'; clear HB' hb3; replace q0 := (Q0.out.to HB.out).c0; replace q1 := (Q0.out.to HB.out).c1; replace q2 := (Q1.out.to HB.out).c0; replace q3 := (Q1.out.to HB.out).c1) | (go_at_call 34; refine (HP.out _ (bel_then HW.out (by repeat (first | exact HB.out | exact Below.refl _ _ | refine below_alloc ?_ _ | refine below_drewN ?_ _ | refine below_drew ?_ | refine below_set ?_ (by first | exact Nat.le_refl _ | omega | (simp; done) | (simp; omega)) _)))).mono ?_; rintro e w4 ⟨rfl, hb4⟩; have HB' : Hd (Below W0.heap.size W0 _) := ⟨bel_then (by repeat (first | exact HB.out | exact Below.refl _ _ | refine below_alloc ?_ _ | refine below_drewN ?_ _ | refine below_drew ?_ | refine below_set ?_ (by first | exact Nat.le_refl _ | omega | (simp; done) | (simp; omega)) _)) hb4⟩; clear HB; have HB := HB'; clear HB' hb4; replace q0 := (Q0.out.to HB.out).c0; replace q1 := (Q0.out.to HB.out).c1; replace q2 := (Q1.out.to HB.out).c0; replace q3 := (Q1.out.to HB.out).c1))
      go_wp2_with fail
      go_ret2
      exact ⟨rfl, (by repeat (first | exact bel_then HW.out HB.out | refine below_set ?_ (by first | exact Nat.le_refl _ | omega | (simp; done) | (simp; omega)) _ | refine below_alloc ?_ _ | refine below_drewN ?_ _ | refine below_drew ?_))⟩
    · have hyf : y.ok = false := by simpa using hyo
      rw [hxo, hyf, if_neg (by simp), if_neg (by simp)]
      rw [hxo] at HV1
      rw [hyf] at HV2
      unfold Raw.v at HV1 HV2 ⊢
      clear hx hy hxo hyo hyf
      obtain ⟨b1, A1, c1, xs⟩ := x
      obtain ⟨b2, A2, c2, ys⟩ := y
      simp only at HV1 HV2 ⊢
      obtain ⟨n1, hn1⟩ : ∃ n, n = xs.length := ⟨_, rfl⟩
      obtain ⟨n2, hn2⟩ : ∃ n, n = ys.length := ⟨_, rfl⟩
      rw [← hn1] at HV1 ⊢
      rw [← hn2] at HV2 ⊢
      clear hn1 hn2
      go_enter Try.func26, Try.ntmps26
      go_wp2_with fail
      obtain ⟨W0, hW0⟩ : ∃ W : World, W = (w.alloc (.cells #[.bool b1, .slice A1 n1 c1] 24)).alloc (.cells #[.bool b2, .slice A2 n2 c2] 24) := ⟨_, rfl⟩
      rw [← hW0]
      have HSZ : Hd (w.heap.size + 1 + 1 = W0.heap.size) := ⟨by rw [hW0]; simp⟩
      obtain ⟨hB0, hB1, hBW⟩ := boxes2 hW0
      have q0 := hB0.c0
      have q1 := hB0.c1
      have q2 := hB1.c0
      have q3 := hB1.c1
      have Q0 := Hd.mk hB0
      have Q1 := Hd.mk hB1
      have HW := Hd.mk hBW
      have HB : Hd (Below W0.heap.size W0 W0) := ⟨Below.refl _ _⟩
      clear hB0 hB1 hBW hW0
      refine (HV1.out _ HW.out).mono ?_
      rintro e w1 ⟨rfl, hb1⟩
      have HB' : Hd (Below W0.heap.size W0 _) := ⟨bel_then (by repeat (first | exact HB.out | exact Below.refl _ _ | refine below_alloc ?_ _ | refine below_drewN ?_ _ | refine below_drew ?_ | refine below_set ?_ (by first | exact Nat.le_refl _ | omega | (simp; done) | (simp; omega)) _)) hb1⟩; clear HB; have HB := HB'; clear HB' hb1; replace q0 := (Q0.out.to HB.out).c0; replace q1 := (Q0.out.to HB.out).c1; replace q2 := (Q1.out.to HB.out).c0; replace q3 := (Q1.out.to HB.out).c1
      go_wp2_with fail
      refine (HV2.out _ (bel_then HW.out (by repeat (first | exact HB.out | exact Below.refl _ _ | refine below_alloc ?_ _ | refine below_drewN ?_ _ | refine below_drew ?_ | refine below_set ?_ (by first | exact Nat.le_refl _ | omega | (simp; done) | (simp; omega)) _)))).mono ?_
      rintro e w2 ⟨rfl, hb2⟩
      have HB' : Hd (Below W0.heap.size W0 _) := ⟨bel_then (by repeat (first | exact HB.out | exact Below.refl _ _ | refine below_alloc ?_ _ | refine below_drewN ?_ _ | refine below_drew ?_ | refine below_set ?_ (by first | exact Nat.le_refl _ | omega | (simp; done) | (simp; omega)) _)) hb2⟩; clear HB; have HB := HB'; clear HB' hb2; replace q0 := (Q0.out.to HB.out).c0; replace q1 := (Q0.out.to HB.out).c1; replace q2 := (Q1.out.to HB.out).c0; replace q3 := (Q1.out.to HB.out).c1
      go_wp2_with fail
      go_ret2
      exact ⟨rfl, (by repeat (first | exact bel_then HW.out HB.out | refine below_set ?_ (by first | exact Nat.le_refl _ | omega | (simp; done) | (simp; omega)) _ | refine below_alloc ?_ _ | refine below_drewN ?_ _ | refine below_drew ?_))⟩
  · have hxf : x.ok = false := by simpa using hxo
    rw [hxf, if_neg (by simp), if_neg (by simp)]
    rw [hxf] at HV1
    unfold Raw.v at HV1 HV2 ⊢
    clear hx hy hxo hxf
    obtain ⟨b1, A1, c1, xs⟩ := x
    obtain ⟨b2, A2, c2, ys⟩ := y
    simp only at HV1 HV2 ⊢
    obtain ⟨n1, hn1⟩ : ∃ n, n = xs.length := ⟨_, rfl⟩
    obtain ⟨n2, hn2⟩ : ∃ n, n = ys.length := ⟨_, rfl⟩
    rw [← hn1] at HV1 ⊢
    rw [← hn2] at HV2 ⊢
    clear hn1 hn2
    go_enter Try.func26, Try.ntmps26
    go_wp2_with fail
    obtain ⟨W0, hW0⟩ : ∃ W : World, W = (w.alloc (.cells #[.bool b1, .slice A1 n1 c1] 24)).alloc (.cells #[.bool b2, .slice A2 n2 c2] 24) := ⟨_, rfl⟩
    rw [← hW0]
    have HSZ : Hd (w.heap.size + 1 + 1 = W0.heap.size) := ⟨by rw [hW0]; simp⟩
    obtain ⟨hB0, hB1, hBW⟩ := boxes2 hW0
    have q0 := hB0.c0
    have q1 := hB0.c1
    have q2 := hB1.c0
    have q3 := hB1.c1
    have Q0 := Hd.mk hB0
    have Q1 := Hd.mk hB1
    have HW := Hd.mk hBW
    have HB : Hd (Below W0.heap.size W0 W0) := ⟨Below.refl _ _⟩
    clear hB0 hB1 hBW hW0
    refine (HV1.out _ HW.out).mono ?_
    rintro e w1 ⟨rfl, hb1⟩
    have HB' : Hd (Below W0.heap.size W0 _) := ⟨bel_then (by repeat (first | exact HB.out | exact Below.refl _ _ | refine below_alloc ?_ _ | refine below_drewN ?_ _ | refine below_drew ?_ | refine below_set ?_ (by first | exact Nat.le_refl _ | omega | (simp; done) | (simp; omega)) _)) hb1⟩; clear HB; have HB := HB'; clear HB' hb1; replace q0 := (Q0.out.to HB.out).c0; replace q1 := (Q0.out.to HB.out).c1; replace q2 := (Q1.out.to HB.out).c0; replace q3 := (Q1.out.to HB.out).c1
    go_wp2_with fail
    go_ret2
    exact ⟨rfl, (by repeat (first | exact bel_then HW.out HB.out | refine below_set ?_ (by first | exact Nat.le_refl _ | omega | (simp; done) | (simp; omega)) _ | refine below_alloc ?_ _ | refine below_drewN ?_ _ | refine below_drew ?_))⟩
theorem dig_aw : dig (val [0, 0, 1]) = [0, 0, 1] := by
  refine dig_val (fun x hx => ?_) (fun k hk => ?_)
  · simp at hx
    rcases hx with rfl | rfl <;> decide
  · have : k = 2 := by simp at hk; omega
    subst this
    decide
theorem ln_aw : ln (val [0, 0, 1]) = 3 := by unfold ln; rw [dig_aw]; rfl
/-- The number of awake: the square of the base. -/
def awz : Int := ((val [0, 0, 1] : Nat) : Int)
theorem awz_ln : ln awz.natAbs = 3 := by unfold awz; rw [Int.natAbs_natCast, ln_aw]
theorem awz_nonneg : decide (awz < 0) = false := decide_eq_false (by unfold awz; omega)
theorem awz_opz (A : Option Addr) (c : Nat) : opz ⟨false, A, c, [0, 1]⟩ ⟨false, A, c, [0, 1]⟩ (Raw.val ⟨false, A, c, [0, 1]⟩ * Raw.val ⟨false, A, c, [0, 1]⟩) = awz ∧ ope ⟨false, A, c, [0, 1]⟩ ⟨false, A, c, [0, 1]⟩ (Raw.val ⟨false, A, c, [0, 1]⟩ * Raw.val ⟨false, A, c, [0, 1]⟩) = 0 := by
  have e : Raw.val ⟨false, A, c, [0, 1]⟩ * Raw.val ⟨false, A, c, [0, 1]⟩ = awz := by
    unfold Raw.val awz
    simp [val, B]
  have ho : Raw.ok ⟨false, A, c, [0, 1]⟩ = true := rfl
  rw [e]
  unfold opz ope fitz fite
  rw [ho, awz_ln]
  exact ⟨rfl, rfl⟩
theorem awz_nn {w : World} {g : Nat} {t : TypeId} (h : Blk w g t (cells [0, 0, 1])) : NN w (some ⟨g, 0, none⟩) 3 awz.natAbs := by
  have e : awz.natAbs = val [0, 0, 1] := by unfold awz; rw [Int.natAbs_natCast]
  rw [e]
  exact ⟨by rw [dig_aw]; exact h.reads, by rw [ln_aw]; exact Nat.le_refl _, by omega⟩
set_option maxRecDepth 100000 in
theorem awake_calls (w : World) : Calls Try.prog 17 #[] w fun e w' => e = .returned (.bool true) ∧ Below w.heap.size w w' := by
  go_enter Try.func17, Try.ntmps17
  go_wp2_with fail
  obtain ⟨W0, hW0⟩ : ∃ W : World, W = (w.alloc (.cells #[.int .u32 0, .int .u32 1] 72)).alloc (.cells #[.bool false, .slice (some ⟨w.heap.size, 0, none⟩) 2 2] 24) := ⟨_, rfl⟩
  rw [← hW0]
  obtain ⟨hB0, hB1, hBW⟩ := boxes2 hW0
  have HB1 := Hd.mk hB1
  have HW := Hd.mk hBW
  have ha : Raw.at_ ⟨false, some ⟨w.heap.size, 0, none⟩, 2, [0, 1]⟩ W0 := ⟨Blk.reads (ds := [0, 1]) hB0, by intro x hx; simp at hx; rcases hx with rfl | rfl <;> decide, Nat.le_refl _, by show (2 : Nat) ≤ 9223372036854775807; omega⟩
  have hm := Mul_calls _ _ W0 ha ha
  rw [(awz_opz _ _).1, (awz_opz _ _).2] at hm
  have HM : Hd (Calls Try.prog _ #[.agg #[.bool false, .slice (some ⟨w.heap.size, 0, none⟩) 2 2], .agg #[.bool false, .slice (some ⟨w.heap.size, 0, none⟩) 2 2]] W0 (RetZE awz 0 W0)) := ⟨hm⟩
  clear hW0 hB0 hB1 hBW ha hm
  refine HM.out.mono ?_
  rintro e w1 ⟨A4, c4, rfl, hn4, hb1⟩
  have HS := Hd.mk (fun W g (hW : Below w1.heap.size w1 W) (hB : Blk W g 72 (cells [0, 0, 1])) => same_calls awz awz A4 c4 (some ⟨g, 0, none⟩) 3 W (hn4.to hW) (awz_nn hB))
  rw [awz_ln, awz_nonneg] at HS
  rw [awz_ln, awz_nonneg]
  have HBB := Hd.mk (bel_then HW.out hb1)
  clear hn4 hb1 HM
  go_wp2_with fail
  refine (HS.out _ _ (by repeat (first | exact Below.refl _ _ | refine below_alloc ?_ _ | refine below_set ?_ (by first | exact Nat.le_refl _ | omega | (simp; done) | (simp; omega)) _)) (blk_new (by simp) _ _)).mono ?_
  rintro e w2 ⟨rfl, hb2⟩
  have HB2 := Hd.mk hb2
  clear hb2
  go_wp2_with fail
  go_ret
  refine ⟨by simp, bel_then HBB.out ?_⟩
  refine bel_then ?_ HB2.out
  repeat (first | exact Below.refl _ _ | refine below_alloc ?_ _ | refine below_set ?_ (by first | exact Nat.le_refl _ | omega | (simp; done) | (simp; omega)) _)
end Go.Proofs.Ytcjcpfafalkceaa
