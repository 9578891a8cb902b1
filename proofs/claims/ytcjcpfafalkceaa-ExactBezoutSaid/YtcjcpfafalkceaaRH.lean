/- The reference: Cmp, Add, Sub, Mul. -/
import Derived.Test.YtcjcpfafalkceaaRG
set_option linter.unusedVariables false
namespace Go.Proofs.Ytcjcpfafalkceaa
open Go.RowKit
/-- What an operation on two Ints answers, if its exact result is z; and its code. -/
def opz (x y : Raw) (z : Int) : Int := if (x.ok && y.ok) = true then fitz z else 0
def ope (x y : Raw) (z : Int) : Int := if (x.ok && y.ok) = true then fite z else 2
def cmpr (x y : Raw) : Int := if (x.ok && y.ok) = true then sgnv (x.val - y.val) else 0
def cmpe (x y : Raw) : Int := if (x.ok && y.ok) = true then 0 else 2
theorem Raw.num {r : Raw} (h : r.ok = true) (hd : Dg r.xs) : r.v = .agg #[.bool (decide (r.val < 0)), .slice r.A (ln r.val.natAbs) r.c] ∧ ln r.val.natAbs = r.xs.length := by
  have e : ln r.val.natAbs = r.xs.length := by unfold ln; rw [Raw.ok_dig h hd]
  exact ⟨by unfold Raw.v; rw [e, ← Raw.ok_neg h hd], e⟩
theorem Raw.nn {r : Raw} {w : World} (h : r.ok = true) (ha : r.at_ w) : NN w r.A r.c r.val.natAbs :=
  ⟨by rw [Raw.ok_dig h ha.2.1]; exact ha.1, by rw [(Raw.num h ha.2.1).2]; exact ha.2.2.1, ha.2.2.2⟩
theorem Raw.ok_len {r : Raw} (h : r.ok = true) (hd : Dg r.xs) : ln r.val.natAbs ≤ 256 := by
  rw [(Raw.num h hd).2]
  unfold Raw.ok at h
  simp only [Bool.and_eq_true, decide_eq_true_eq] at h
  exact h.1.1
set_option maxHeartbeats 1000000 in
set_option maxRecDepth 100000 in
theorem rAdd_calls (x y : Raw) (w : World) (hx : x.at_ w) (hy : y.at_ w) :
    Calls Try.prog 27 #[x.v, y.v] w (RetZE (opz x y (x.val + y.val)) (ope x y (x.val + y.val)) w) := by
  unfold opz ope
  have HV1 := Hd.mk (fun W (hW : Below w.heap.size w W) => rvalid_calls x W (Raw.at_to hx hW))
  have HV2 := Hd.mk (fun W (hW : Below w.heap.size w W) => rvalid_calls y W (Raw.at_to hy hW))
  by_cases hxo : x.ok = true
  · by_cases hyo : y.ok = true
    · rw [hxo, hyo]
      have HP := Hd.mk (fun W (hW : Below w.heap.size w W) => rPlus_calls x.val y.val x.A x.c y.A y.c W ((Raw.nn hxo hx).to hW) ((Raw.nn hyo hy).to hW) (by have := Raw.ok_len hxo hx.2.1; omega) (by have := Raw.ok_len hyo hy.2.1; omega))
      rw [← (Raw.num hxo hx.2.1).1, ← (Raw.num hyo hy.2.1).1] at HP
      rw [hxo] at HV1
      rw [hyo] at HV2
      obtain ⟨z, hz⟩ : ∃ z, z = x.val + y.val := ⟨_, rfl⟩
      rw [← hz] at HP ⊢
      rw [if_pos (show (true && true) = true from rfl), if_pos (show (true && true) = true from rfl)]
      unfold Raw.v at HP HV1 HV2 ⊢
      clear hx hy hz hxo hyo
      obtain ⟨b1, A1, c1, xs⟩ := x
      obtain ⟨b2, A2, c2, ys⟩ := y
      simp only at HP HV1 HV2 ⊢
      obtain ⟨n1, hn1⟩ : ∃ n, n = xs.length := ⟨_, rfl⟩
      obtain ⟨n2, hn2⟩ : ∃ n, n = ys.length := ⟨_, rfl⟩
      rw [← hn1] at HP HV1 ⊢
      rw [← hn2] at HP HV2 ⊢
      clear hn1 hn2
      go_enter Try.func27, Try.ntmps27
      go_wp2_with fail
      obtain ⟨W0, hW0⟩ : ∃ W : World, W = ((w.alloc (.cells #[.bool b1, .slice A1 n1 c1] 24)).alloc (.cells #[.bool b2, .slice A2 n2 c2] 24)).alloc (.cells #[.bool false, .slice none 0 0] 24) := ⟨_, rfl⟩
      rw [← hW0]
      have HSZ : Hd (w.heap.size + 1 + 1 + 1 = W0.heap.size) := ⟨by rw [hW0]; simp⟩
      obtain ⟨hB0, hB1, hB2, hBW⟩ := boxes3 hW0
      have q0 := hB0.c0
      have q1 := hB0.c1
      have q2 := hB1.c0
      have q3 := hB1.c1
      have g0 := hB2.c0
      have g1 := hB2.c1
      have u0 := hB2.f0
      have u1 := hB2.f1
      have Q0 := Hd.mk hB0
      have Q1 := Hd.mk hB1
      have QR := Hd.mk hB2
      have HW := Hd.mk hBW
      have HB : Hd (Below W0.heap.size W0 W0) := ⟨Below.refl _ _⟩
      clear hB0 hB1 hB2 hBW hW0
      refine (HV1.out _ HW.out).mono ?_
      rintro e w1 ⟨rfl, hb1⟩
      have HB' : Hd (Below W0.heap.size W0 _) := ⟨bel_then (by repeat (first | exact HB.out | exact Below.refl _ _ | refine below_alloc ?_ _ | refine below_drewN ?_ _ | refine below_drew ?_ | refine below_set ?_ (by first | exact Nat.le_refl _ | omega | (simp; done) | (simp; omega)) _)) hb1⟩; clear HB; have HB := HB'; clear HB' hb1; replace q0 := (Q0.out.to HB.out).c0; replace q1 := (Q0.out.to HB.out).c1; replace q2 := (Q1.out.to HB.out).c0; replace q3 := (Q1.out.to HB.out).c1; replace g0 := (QR.out.to HB.out).c0; replace g1 := (QR.out.to HB.out).c1; replace u0 := (QR.out.to HB.out).f0; replace u1 := (QR.out.to HB.out).f1
      go_wp2_with fail
      refine (HV2.out _ (bel_then HW.out (by repeat (first | exact HB.out | exact Below.refl _ _ | refine below_alloc ?_ _ | refine below_drewN ?_ _ | refine below_drew ?_ | refine below_set ?_ (by first | exact Nat.le_refl _ | omega | (simp; done) | (simp; omega)) _)))).mono ?_
      rintro e w2 ⟨rfl, hb2⟩
      have HB' : Hd (Below W0.heap.size W0 _) := ⟨bel_then (by repeat (first | exact HB.out | exact Below.refl _ _ | refine below_alloc ?_ _ | refine below_drewN ?_ _ | refine below_drew ?_ | refine below_set ?_ (by first | exact Nat.le_refl _ | omega | (simp; done) | (simp; omega)) _)) hb2⟩; clear HB; have HB := HB'; clear HB' hb2; replace q0 := (Q0.out.to HB.out).c0; replace q1 := (Q0.out.to HB.out).c1; replace q2 := (Q1.out.to HB.out).c0; replace q3 := (Q1.out.to HB.out).c1; replace g0 := (QR.out.to HB.out).c0; replace g1 := (QR.out.to HB.out).c1; replace u0 := (QR.out.to HB.out).f0; replace u1 := (QR.out.to HB.out).f1
      go_wp2_with fail
      go_region_held3 (fun w' => w'.cell? ⟨w.heap.size, 0, none⟩ = some (.bool b1) ∧ w'.cell? ⟨w.heap.size, 1, none⟩ = some (.slice A1 n1 c1) ∧ w'.cell? ⟨w.heap.size + 1, 0, none⟩ = some (.bool b2) ∧ w'.cell? ⟨w.heap.size + 1, 1, none⟩ = some (.slice A2 n2 c2)) (first | exact ⟨q0, q1, q2, q3⟩ | (repeat' apply And.intro) <;> (first | exact q0 | exact q1 | exact q2 | exact q3 | (go_keep; done) | (rw [World.cell?_setCell_far _ _ _ _ (by first | (simp; done) | (simp; omega)), World.cell?_setCell_far _ _ _ _ (by first | (simp; done) | (simp; omega))]; first | exact q0 | exact q1 | exact q2 | exact q3)))
        (first | (go_at_call 32; refine (rOf_calls _ _ _ _ _).mono ?_; rintro e w3 ⟨rfl, hb3⟩; have HB' : Hd (Below W0.heap.size W0 _) := ⟨bel_then (by repeat (first | exact HB.out | exact Below.refl _ _ | refine below_alloc ?_ _ | refine below_drewN ?_ _ | refine below_drew ?_ | refine below_set ?_ (by first | exact Nat.le_refl _ | omega | (simp; done) | (simp; omega)) _)) hb3⟩; clear HB; have HB := HB'; clear HB' hb3; replace q0 := (Q0.out.to HB.out).c0; replace q1 := (Q0.out.to HB.out).c1; replace q2 := (Q1.out.to HB.out).c0; replace q3 := (Q1.out.to HB.out).c1; replace g0 := (QR.out.to HB.out).c0; replace g1 := (QR.out.to HB.out).c1; replace u0 := (QR.out.to HB.out).f0; replace u1 := (QR.out.to HB.out).f1) | (go_at_call 33; refine (HP.out _ (bel_then HW.out (by repeat (first | exact HB.out | exact Below.refl _ _ | refine below_alloc ?_ _ | refine below_drewN ?_ _ | refine below_drew ?_ | refine below_set ?_ (by first | exact Nat.le_refl _ | omega | (simp; done) | (simp; omega)) _)))).mono ?_; rintro e w4 ⟨A3, c3, rfl, hn3, hb4⟩; have HN3 := Hd.mk hn3; clear hn3; have HB' : Hd (Below W0.heap.size W0 _) := ⟨bel_then (by repeat (first | exact HB.out | exact Below.refl _ _ | refine below_alloc ?_ _ | refine below_drewN ?_ _ | refine below_drew ?_ | refine below_set ?_ (by first | exact Nat.le_refl _ | omega | (simp; done) | (simp; omega)) _)) hb4⟩; clear HB; have HB := HB'; clear HB' hb4; replace q0 := (Q0.out.to HB.out).c0; replace q1 := (Q0.out.to HB.out).c1; replace q2 := (Q1.out.to HB.out).c0; replace q3 := (Q1.out.to HB.out).c1; replace g0 := (QR.out.to HB.out).c0; replace g1 := (QR.out.to HB.out).c1; replace u0 := (QR.out.to HB.out).f0; replace u1 := (QR.out.to HB.out).f1) | (go_at_call 75; refine (answer_calls z A3 c3 _ HN3.out).mono ?_; rintro e w5 ⟨A4, c4, rfl, hn4, hb5⟩; have HN4 := Hd.mk hn4; clear hn4; have HB' : Hd (Below W0.heap.size W0 _) := ⟨bel_then (by repeat (first | exact HB.out | exact Below.refl _ _ | refine below_alloc ?_ _ | refine below_drewN ?_ _ | refine below_drew ?_ | refine below_set ?_ (by first | exact Nat.le_refl _ | omega | (simp; done) | (simp; omega)) _)) hb5⟩; clear HB; have HB := HB'; clear HB' hb5; replace q0 := (Q0.out.to HB.out).c0; replace q1 := (Q0.out.to HB.out).c1; replace q2 := (Q1.out.to HB.out).c0; replace q3 := (Q1.out.to HB.out).c1; replace g0 := (QR.out.to HB.out).c0; replace g1 := (QR.out.to HB.out).c1; replace u0 := (QR.out.to HB.out).f0; replace u1 := (QR.out.to HB.out).f1))
      go_wp2_with fail
      obtain ⟨k0, k1, k2⟩ := two_set g0 g1 (.bool (decide (fitz z < 0))) (.slice A4 (ln (fitz z).natAbs) c4)
      refine bodyPost_ret (v := .tuple #[.agg #[.bool (decide (fitz z < 0)), .slice A4 (ln (fitz z).natAbs) c4], .int .i64 (fite z)]) (by simp [results, Try.results27, go_sem, k0, k1]) rfl ?_
      exact ⟨A4, c4, rfl, (HN4.out.set_ g0 (by intro t; simp) _).set_ k2 (by intro t; simp) _, (by repeat (first | exact bel_then HW.out HB.out | refine below_set ?_ (by first | exact Nat.le_refl _ | omega | (simp; done) | (simp; omega)) _ | refine below_alloc ?_ _ | refine below_drewN ?_ _ | refine below_drew ?_))⟩
    · have hyf : y.ok = false := by simpa using hyo
      rw [hxo, hyf, if_neg (by simp), if_neg (by simp)]
      rw [hxo] at HV1
      rw [hyf] at HV2
      unfold Raw.v at HV1 HV2 ⊢
      clear hx hy hxo hyo hyf
      obtain ⟨b1, A1, c1, xs⟩ := x
      obtain ⟨b2, A2, c2, ys⟩ := y
      simp only at HV1 HV2 ⊢
      obtain ⟨n1, hn1⟩ : ∃ n, n = xs.length := ⟨_, rfl⟩
      obtain ⟨n2, hn2⟩ : ∃ n, n = ys.length := ⟨_, rfl⟩
      rw [← hn1] at HV1 ⊢
      rw [← hn2] at HV2 ⊢
      clear hn1 hn2
      go_enter Try.func27, Try.ntmps27
      go_wp2_with fail
      obtain ⟨W0, hW0⟩ : ∃ W : World, W = ((w.alloc (.cells #[.bool b1, .slice A1 n1 c1] 24)).alloc (.cells #[.bool b2, .slice A2 n2 c2] 24)).alloc (.cells #[.bool false, .slice none 0 0] 24) := ⟨_, rfl⟩
      rw [← hW0]
      have HSZ : Hd (w.heap.size + 1 + 1 + 1 = W0.heap.size) := ⟨by rw [hW0]; simp⟩
      obtain ⟨hB0, hB1, hB2, hBW⟩ := boxes3 hW0
      have q0 := hB0.c0
      have q1 := hB0.c1
      have q2 := hB1.c0
      have q3 := hB1.c1
      have g0 := hB2.c0
      have g1 := hB2.c1
      have u0 := hB2.f0
      have u1 := hB2.f1
      have Q0 := Hd.mk hB0
      have Q1 := Hd.mk hB1
      have QR := Hd.mk hB2
      have HW := Hd.mk hBW
      have HB : Hd (Below W0.heap.size W0 W0) := ⟨Below.refl _ _⟩
      clear hB0 hB1 hB2 hBW hW0
      refine (HV1.out _ HW.out).mono ?_
      rintro e w1 ⟨rfl, hb1⟩
      have HB' : Hd (Below W0.heap.size W0 _) := ⟨bel_then (by repeat (first | exact HB.out | exact Below.refl _ _ | refine below_alloc ?_ _ | refine below_drewN ?_ _ | refine below_drew ?_ | refine below_set ?_ (by first | exact Nat.le_refl _ | omega | (simp; done) | (simp; omega)) _)) hb1⟩; clear HB; have HB := HB'; clear HB' hb1; replace q0 := (Q0.out.to HB.out).c0; replace q1 := (Q0.out.to HB.out).c1; replace q2 := (Q1.out.to HB.out).c0; replace q3 := (Q1.out.to HB.out).c1; replace g0 := (QR.out.to HB.out).c0; replace g1 := (QR.out.to HB.out).c1; replace u0 := (QR.out.to HB.out).f0; replace u1 := (QR.out.to HB.out).f1
      go_wp2_with fail
      refine (HV2.out _ (bel_then HW.out (by repeat (first | exact HB.out | exact Below.refl _ _ | refine below_alloc ?_ _ | refine below_drewN ?_ _ | refine below_drew ?_ | refine below_set ?_ (by first | exact Nat.le_refl _ | omega | (simp; done) | (simp; omega)) _)))).mono ?_
      rintro e w2 ⟨rfl, hb2⟩
      have HB' : Hd (Below W0.heap.size W0 _) := ⟨bel_then (by repeat (first | exact HB.out | exact Below.refl _ _ | refine below_alloc ?_ _ | refine below_drewN ?_ _ | refine below_drew ?_ | refine below_set ?_ (by first | exact Nat.le_refl _ | omega | (simp; done) | (simp; omega)) _)) hb2⟩; clear HB; have HB := HB'; clear HB' hb2; replace q0 := (Q0.out.to HB.out).c0; replace q1 := (Q0.out.to HB.out).c1; replace q2 := (Q1.out.to HB.out).c0; replace q3 := (Q1.out.to HB.out).c1; replace g0 := (QR.out.to HB.out).c0; replace g1 := (QR.out.to HB.out).c1; replace u0 := (QR.out.to HB.out).f0; replace u1 := (QR.out.to HB.out).f1
      go_wp2_with fail
      obtain ⟨k0, k1, k2⟩ := two_set g0 g1 (.bool false) (.slice none 0 0)
      refine bodyPost_ret (v := .tuple #[.agg #[.bool false, .slice none 0 0], .int .i64 2]) (by simp [results, Try.results27, go_sem, k0, k1]) rfl ?_
      exact ⟨none, 0, by rw [show ln (Int.natAbs 0) = 0 from ln_zero]; rfl, NN.nil _ _ _ (by omega), (by repeat (first | exact bel_then HW.out HB.out | refine below_set ?_ (by first | exact Nat.le_refl _ | omega | (simp; done) | (simp; omega)) _ | refine below_alloc ?_ _ | refine below_drewN ?_ _ | refine below_drew ?_))⟩
  · have hxf : x.ok = false := by simpa using hxo
    rw [hxf, if_neg (by simp), if_neg (by simp)]
    rw [hxf] at HV1
    unfold Raw.v at HV1 HV2 ⊢
    clear hx hy hxo hxf
    obtain ⟨b1, A1, c1, xs⟩ := x
    obtain ⟨b2, A2, c2, ys⟩ := y
    simp only at HV1 HV2 ⊢
    obtain ⟨n1, hn1⟩ : ∃ n, n = xs.length := ⟨_, rfl⟩
    obtain ⟨n2, hn2⟩ : ∃ n, n = ys.length := ⟨_, rfl⟩
    rw [← hn1] at HV1 ⊢
    rw [← hn2] at HV2 ⊢
    clear hn1 hn2
    go_enter Try.func27, Try.ntmps27
    go_wp2_with fail
    obtain ⟨W0, hW0⟩ : ∃ W : World, W = ((w.alloc (.cells #[.bool b1, .slice A1 n1 c1] 24)).alloc (.cells #[.bool b2, .slice A2 n2 c2] 24)).alloc (.cells #[.bool false, .slice none 0 0] 24) := ⟨_, rfl⟩
    rw [← hW0]
    have HSZ : Hd (w.heap.size + 1 + 1 + 1 = W0.heap.size) := ⟨by rw [hW0]; simp⟩
    obtain ⟨hB0, hB1, hB2, hBW⟩ := boxes3 hW0
    have q0 := hB0.c0
    have q1 := hB0.c1
    have q2 := hB1.c0
    have q3 := hB1.c1
    have g0 := hB2.c0
    have g1 := hB2.c1
    have u0 := hB2.f0
    have u1 := hB2.f1
    have Q0 := Hd.mk hB0
    have Q1 := Hd.mk hB1
    have QR := Hd.mk hB2
    have HW := Hd.mk hBW
    have HB : Hd (Below W0.heap.size W0 W0) := ⟨Below.refl _ _⟩
    clear hB0 hB1 hB2 hBW hW0
    refine (HV1.out _ HW.out).mono ?_
    rintro e w1 ⟨rfl, hb1⟩
    have HB' : Hd (Below W0.heap.size W0 _) := ⟨bel_then (by repeat (first | exact HB.out | exact Below.refl _ _ | refine below_alloc ?_ _ | refine below_drewN ?_ _ | refine below_drew ?_ | refine below_set ?_ (by first | exact Nat.le_refl _ | omega | (simp; done) | (simp; omega)) _)) hb1⟩; clear HB; have HB := HB'; clear HB' hb1; replace q0 := (Q0.out.to HB.out).c0; replace q1 := (Q0.out.to HB.out).c1; replace q2 := (Q1.out.to HB.out).c0; replace q3 := (Q1.out.to HB.out).c1; replace g0 := (QR.out.to HB.out).c0; replace g1 := (QR.out.to HB.out).c1; replace u0 := (QR.out.to HB.out).f0; replace u1 := (QR.out.to HB.out).f1
    go_wp2_with fail
    obtain ⟨k0, k1, k2⟩ := two_set g0 g1 (.bool false) (.slice none 0 0)
    refine bodyPost_ret (v := .tuple #[.agg #[.bool false, .slice none 0 0], .int .i64 2]) (by simp [results, Try.results27, go_sem, k0, k1]) rfl ?_
    exact ⟨none, 0, by rw [show ln (Int.natAbs 0) = 0 from ln_zero]; rfl, NN.nil _ _ _ (by omega), (by repeat (first | exact bel_then HW.out HB.out | refine below_set ?_ (by first | exact Nat.le_refl _ | omega | (simp; done) | (simp; omega)) _ | refine below_alloc ?_ _ | refine below_drewN ?_ _ | refine below_drew ?_))⟩
set_option maxHeartbeats 1000000 in
set_option maxRecDepth 100000 in
theorem rSub_calls (x y : Raw) (w : World) (hx : x.at_ w) (hy : y.at_ w) :
    Calls Try.prog 28 #[x.v, y.v] w (RetZE (opz x y (x.val - y.val)) (ope x y (x.val - y.val)) w) := by
  unfold opz ope
  have HV1 := Hd.mk (fun W (hW : Below w.heap.size w W) => rvalid_calls x W (Raw.at_to hx hW))
  have HV2 := Hd.mk (fun W (hW : Below w.heap.size w W) => rvalid_calls y W (Raw.at_to hy hW))
  by_cases hxo : x.ok = true
  · by_cases hyo : y.ok = true
    · rw [hxo, hyo]
      have HP := Hd.mk (fun W (hW : Below w.heap.size w W) => rLess_calls x.val y.val x.A x.c y.A y.c W ((Raw.nn hxo hx).to hW) ((Raw.nn hyo hy).to hW) (by have := Raw.ok_len hxo hx.2.1; omega) (by have := Raw.ok_len hyo hy.2.1; omega))
      rw [← (Raw.num hxo hx.2.1).1, ← (Raw.num hyo hy.2.1).1] at HP
      rw [hxo] at HV1
      rw [hyo] at HV2
      obtain ⟨z, hz⟩ : ∃ z, z = x.val - y.val := ⟨_, rfl⟩
      rw [← hz] at HP ⊢
      rw [if_pos (show (true && true) = true from rfl), if_pos (show (true && true) = true from rfl)]
      unfold Raw.v at HP HV1 HV2 ⊢
      clear hx hy hz hxo hyo
      obtain ⟨b1, A1, c1, xs⟩ := x
      obtain ⟨b2, A2, c2, ys⟩ := y
      simp only at HP HV1 HV2 ⊢
      obtain ⟨n1, hn1⟩ : ∃ n, n = xs.length := ⟨_, rfl⟩
      obtain ⟨n2, hn2⟩ : ∃ n, n = ys.length := ⟨_, rfl⟩
      rw [← hn1] at HP HV1 ⊢
      rw [← hn2] at HP HV2 ⊢
      clear hn1 hn2
      go_enter Try.func28, Try.ntmps28
      go_wp2_with fail
      obtain ⟨W0, hW0⟩ : ∃ W : World, W = ((w.alloc (.cells #[.bool b1, .slice A1 n1 c1] 24)).alloc (.cells #[.bool b2, .slice A2 n2 c2] 24)).alloc (.cells #[.bool false, .slice none 0 0] 24) := ⟨_, rfl⟩
      rw [← hW0]
      have HSZ : Hd (w.heap.size + 1 + 1 + 1 = W0.heap.size) := ⟨by rw [hW0]; simp⟩
      obtain ⟨hB0, hB1, hB2, hBW⟩ := boxes3 hW0
      have q0 := hB0.c0
      have q1 := hB0.c1
      have q2 := hB1.c0
      have q3 := hB1.c1
      have g0 := hB2.c0
      have g1 := hB2.c1
      have u0 := hB2.f0
      have u1 := hB2.f1
      have Q0 := Hd.mk hB0
      have Q1 := Hd.mk hB1
      have QR := Hd.mk hB2
      have HW := Hd.mk hBW
      have HB : Hd (Below W0.heap.size W0 W0) := ⟨Below.refl _ _⟩
      clear hB0 hB1 hB2 hBW hW0
      refine (HV1.out _ HW.out).mono ?_
      rintro e w1 ⟨rfl, hb1⟩
      have HB' : Hd (Below W0.heap.size W0 _) := ⟨bel_then (by repeat (first | exact HB.out | exact Below.refl _ _ | refine below_alloc ?_ _ | refine below_drewN ?_ _ | refine below_drew ?_ | refine below_set ?_ (by first | exact Nat.le_refl _ | omega | (simp; done) | (simp; omega)) _)) hb1⟩; clear HB; have HB := HB'; clear HB' hb1; replace q0 := (Q0.out.to HB.out).c0; replace q1 := (Q0.out.to HB.out).c1; replace q2 := (Q1.out.to HB.out).c0; replace q3 := (Q1.out.to HB.out).c1; replace g0 := (QR.out.to HB.out).c0; replace g1 := (QR.out.to HB.out).c1; replace u0 := (QR.out.to HB.out).f0; replace u1 := (QR.out.to HB.out).f1
      go_wp2_with fail
      refine (HV2.out _ (bel_then HW.out (by repeat (first | exact HB.out | exact Below.refl _ _ | refine below_alloc ?_ _ | refine below_drewN ?_ _ | refine below_drew ?_ | refine below_set ?_ (by first | exact Nat.le_refl _ | omega | (simp; done) | (simp; omega)) _)))).mono ?_
      rintro e w2 ⟨rfl, hb2⟩
      have HB' : Hd (Below W0.heap.size W0 _) := ⟨bel_then (by repeat (first | exact HB.out | exact Below.refl _ _ | refine below_alloc ?_ _ | refine below_drewN ?_ _ | refine below_drew ?_ | refine below_set ?_ (by first | exact Nat.le_refl _ | omega | (simp; done) | (simp; omega)) _)) hb2⟩; clear HB; have HB := HB'; clear HB' hb2; replace q0 := (Q0.out.to HB.out).c0; replace q1 := (Q0.out.to HB.out).c1; replace q2 := (Q1.out.to HB.out).c0; replace q3 := (Q1.out.to HB.out).c1; replace g0 := (QR.out.to HB.out).c0; replace g1 := (QR.out.to HB.out).c1; replace u0 := (QR.out.to HB.out).f0; replace u1 := (QR.out.to HB.out).f1
      go_wp2_with fail
      go_region_held3 (fun w' => w'.cell? ⟨w.heap.size, 0, none⟩ = some (.bool b1) ∧ w'.cell? ⟨w.heap.size, 1, none⟩ = some (.slice A1 n1 c1) ∧ w'.cell? ⟨w.heap.size + 1, 0, none⟩ = some (.bool b2) ∧ w'.cell? ⟨w.heap.size + 1, 1, none⟩ = some (.slice A2 n2 c2)) (first | exact ⟨q0, q1, q2, q3⟩ | (repeat' apply And.intro) <;> (first | exact q0 | exact q1 | exact q2 | exact q3 | (go_keep; done) | (rw [World.cell?_setCell_far _ _ _ _ (by first | (simp; done) | (simp; omega)), World.cell?_setCell_far _ _ _ _ (by first | (simp; done) | (simp; omega))]; first | exact q0 | exact q1 | exact q2 | exact q3)))
        (first | (go_at_call 32; refine (rOf_calls _ _ _ _ _).mono ?_; rintro e w3 ⟨rfl, hb3⟩; have HB' : Hd (Below W0.heap.size W0 _) := ⟨bel_then (by repeat (first | exact HB.out | exact Below.refl _ _ | refine below_alloc ?_ _ | refine below_drewN ?_ _ | refine below_drew ?_ | refine below_set ?_ (by first | exact Nat.le_refl _ | omega | (simp; done) | (simp; omega)) _)) hb3⟩; clear HB; have HB := HB'; clear HB' hb3; replace q0 := (Q0.out.to HB.out).c0; replace q1 := (Q0.out.to HB.out).c1; replace q2 := (Q1.out.to HB.out).c0; replace q3 := (Q1.out.to HB.out).c1; replace g0 := (QR.out.to HB.out).c0; replace g1 := (QR.out.to HB.out).c1; replace u0 := (QR.out.to HB.out).f0; replace u1 := (QR.out.to HB.out).f1) | (go_at_call 76; refine (HP.out _ (bel_then HW.out (by repeat (first | exact HB.out | exact Below.refl _ _ | refine below_alloc ?_ _ | refine below_drewN ?_ _ | refine below_drew ?_ | refine below_set ?_ (by first | exact Nat.le_refl _ | omega | (simp; done) | (simp; omega)) _)))).mono ?_; rintro e w4 ⟨A3, c3, rfl, hn3, hb4⟩; have HN3 := Hd.mk hn3; clear hn3; have HB' : Hd (Below W0.heap.size W0 _) := ⟨bel_then (by repeat (first | exact HB.out | exact Below.refl _ _ | refine below_alloc ?_ _ | refine below_drewN ?_ _ | refine below_drew ?_ | refine below_set ?_ (by first | exact Nat.le_refl _ | omega | (simp; done) | (simp; omega)) _)) hb4⟩; clear HB; have HB := HB'; clear HB' hb4; replace q0 := (Q0.out.to HB.out).c0; replace q1 := (Q0.out.to HB.out).c1; replace q2 := (Q1.out.to HB.out).c0; replace q3 := (Q1.out.to HB.out).c1; replace g0 := (QR.out.to HB.out).c0; replace g1 := (QR.out.to HB.out).c1; replace u0 := (QR.out.to HB.out).f0; replace u1 := (QR.out.to HB.out).f1) | (go_at_call 75; refine (answer_calls z A3 c3 _ HN3.out).mono ?_; rintro e w5 ⟨A4, c4, rfl, hn4, hb5⟩; have HN4 := Hd.mk hn4; clear hn4; have HB' : Hd (Below W0.heap.size W0 _) := ⟨bel_then (by repeat (first | exact HB.out | exact Below.refl _ _ | refine below_alloc ?_ _ | refine below_drewN ?_ _ | refine below_drew ?_ | refine below_set ?_ (by first | exact Nat.le_refl _ | omega | (simp; done) | (simp; omega)) _)) hb5⟩; clear HB; have HB := HB'; clear HB' hb5; replace q0 := (Q0.out.to HB.out).c0; replace q1 := (Q0.out.to HB.out).c1; replace q2 := (Q1.out.to HB.out).c0; replace q3 := (Q1.out.to HB.out).c1; replace g0 := (QR.out.to HB.out).c0; replace g1 := (QR.out.to HB.out).c1; replace u0 := (QR.out.to HB.out).f0; replace u1 := (QR.out.to HB.out).f1))
      go_wp2_with fail
      obtain ⟨k0, k1, k2⟩ := two_set g0 g1 (.bool (decide (fitz z < 0))) (.slice A4 (ln (fitz z).natAbs) c4)
      refine bodyPost_ret (v := .tuple #[.agg #[.bool (decide (fitz z < 0)), .slice A4 (ln (fitz z).natAbs) c4], .int .i64 (fite z)]) (by simp [results, Try.results28, go_sem, k0, k1]) rfl ?_
      exact ⟨A4, c4, rfl, (HN4.out.set_ g0 (by intro t; simp) _).set_ k2 (by intro t; simp) _, (by repeat (first | exact bel_then HW.out HB.out | refine below_set ?_ (by first | exact Nat.le_refl _ | omega | (simp; done) | (simp; omega)) _ | refine below_alloc ?_ _ | refine below_drewN ?_ _ | refine below_drew ?_))⟩
    · have hyf : y.ok = false := by simpa using hyo
      rw [hxo, hyf, if_neg (by simp), if_neg (by simp)]
      rw [hxo] at HV1
      rw [hyf] at HV2
      unfold Raw.v at HV1 HV2 ⊢
      clear hx hy hxo hyo hyf
      obtain ⟨b1, A1, c1, xs⟩ := x
      obtain ⟨b2, A2, c2, ys⟩ := y
      simp only at HV1 HV2 ⊢
      obtain ⟨n1, hn1⟩ : ∃ n, n = xs.length := ⟨_, rfl⟩
      obtain ⟨n2, hn2⟩ : ∃ n, n = ys.length := ⟨_, rfl⟩
      rw [← hn1] at HV1 ⊢
      rw [← hn2] at HV2 ⊢
      clear hn1 hn2
      go_enter Try.func28, Try.ntmps28
      go_wp2_with fail
      obtain ⟨W0, hW0⟩ : ∃ W : World, W = ((w.alloc (.cells #[.bool b1, .slice A1 n1 c1] 24)).alloc (.cells #[.bool b2, .slice A2 n2 c2] 24)).alloc (.cells #[.bool false, .slice none 0 0] 24) := ⟨_, rfl⟩
      rw [← hW0]
      have HSZ : Hd (w.heap.size + 1 + 1 + 1 = W0.heap.size) := ⟨by rw [hW0]; simp⟩
      obtain ⟨hB0, hB1, hB2, hBW⟩ := boxes3 hW0
      have q0 := hB0.c0
      have q1 := hB0.c1
      have q2 := hB1.c0
      have q3 := hB1.c1
      have g0 := hB2.c0
      have g1 := hB2.c1
      have u0 := hB2.f0
      have u1 := hB2.f1
      have Q0 := Hd.mk hB0
      have Q1 := Hd.mk hB1
      have QR := Hd.mk hB2
      have HW := Hd.mk hBW
      have HB : Hd (Below W0.heap.size W0 W0) := ⟨Below.refl _ _⟩
      clear hB0 hB1 hB2 hBW hW0
      refine (HV1.out _ HW.out).mono ?_
      rintro e w1 ⟨rfl, hb1⟩
      have HB' : Hd (Below W0.heap.size W0 _) := ⟨bel_then (by repeat (first | exact HB.out | exact Below.refl _ _ | refine below_alloc ?_ _ | refine below_drewN ?_ _ | refine below_drew ?_ | refine below_set ?_ (by first | exact Nat.le_refl _ | omega | (simp; done) | (simp; omega)) _)) hb1⟩; clear HB; have HB := HB'; clear HB' hb1; replace q0 := (Q0.out.to HB.out).c0; replace q1 := (Q0.out.to HB.out).c1; replace q2 := (Q1.out.to HB.out).c0; replace q3 := (Q1.out.to HB.out).c1; replace g0 := (QR.out.to HB.out).c0; replace g1 := (QR.out.to HB.out).c1; replace u0 := (QR.out.to HB.out).f0; replace u1 := (QR.out.to HB.out).f1
      go_wp2_with fail
      refine (HV2.out _ (bel_then HW.out (by repeat (first | exact HB.out | exact Below.refl _ _ | refine below_alloc ?_ _ | refine below_drewN ?_ _ | refine below_drew ?_ | refine below_set ?_ (by first | exact Nat.le_refl _ | omega | (simp; done) | (simp; omega)) _)))).mono ?_
      rintro e w2 ⟨rfl, hb2⟩
      have HB' : Hd (Below W0.heap.size W0 _) := ⟨bel_then (by repeat (first | exact HB.out | exact Below.refl _ _ | refine below_alloc ?_ _ | refine below_drewN ?_ _ | refine below_drew ?_ | refine below_set ?_ (by first | exact Nat.le_refl _ | omega | (simp; done) | (simp; omega)) _)) hb2⟩; clear HB; have HB := HB'; clear HB' hb2; replace q0 := (Q0.out.to HB.out).c0; replace q1 := (Q0.out.to HB.out).c1; replace q2 := (Q1.out.to HB.out).c0; replace q3 := (Q1.out.to HB.out).c1; replace g0 := (QR.out.to HB.out).c0; replace g1 := (QR.out.to HB.out).c1; replace u0 := (QR.out.to HB.out).f0; replace u1 := (QR.out.to HB.out).f1
      go_wp2_with fail
      obtain ⟨k0, k1, k2⟩ := two_set g0 g1 (.bool false) (.slice none 0 0)
      refine bodyPost_ret (v := .tuple #[.agg #[.bool false, .slice none 0 0], .int .i64 2]) (by simp [results, Try.results28, go_sem, k0, k1]) rfl ?_
      exact ⟨none, 0, by rw [show ln (Int.natAbs 0) = 0 from ln_zero]; rfl, NN.nil _ _ _ (by omega), (by repeat (first | exact bel_then HW.out HB.out | refine below_set ?_ (by first | exact Nat.le_refl _ | omega | (simp; done) | (simp; omega)) _ | refine below_alloc ?_ _ | refine below_drewN ?_ _ | refine below_drew ?_))⟩
  · have hxf : x.ok = false := by simpa using hxo
    rw [hxf, if_neg (by simp), if_neg (by simp)]
    rw [hxf] at HV1
    unfold Raw.v at HV1 HV2 ⊢
    clear hx hy hxo hxf
    obtain ⟨b1, A1, c1, xs⟩ := x
    obtain ⟨b2, A2, c2, ys⟩ := y
    simp only at HV1 HV2 ⊢
    obtain ⟨n1, hn1⟩ : ∃ n, n = xs.length := ⟨_, rfl⟩
    obtain ⟨n2, hn2⟩ : ∃ n, n = ys.length := ⟨_, rfl⟩
    rw [← hn1] at HV1 ⊢
    rw [← hn2] at HV2 ⊢
    clear hn1 hn2
    go_enter Try.func28, Try.ntmps28
    go_wp2_with fail
    obtain ⟨W0, hW0⟩ : ∃ W : World, W = ((w.alloc (.cells #[.bool b1, .slice A1 n1 c1] 24)).alloc (.cells #[.bool b2, .slice A2 n2 c2] 24)).alloc (.cells #[.bool false, .slice none 0 0] 24) := ⟨_, rfl⟩
    rw [← hW0]
    have HSZ : Hd (w.heap.size + 1 + 1 + 1 = W0.heap.size) := ⟨by rw [hW0]; simp⟩
    obtain ⟨hB0, hB1, hB2, hBW⟩ := boxes3 hW0
    have q0 := hB0.c0
    have q1 := hB0.c1
    have q2 := hB1.c0
    have q3 := hB1.c1
    have g0 := hB2.c0
    have g1 := hB2.c1
    have u0 := hB2.f0
    have u1 := hB2.f1
    have Q0 := Hd.mk hB0
    have Q1 := Hd.mk hB1
    have QR := Hd.mk hB2
    have HW := Hd.mk hBW
    have HB : Hd (Below W0.heap.size W0 W0) := ⟨Below.refl _ _⟩
    clear hB0 hB1 hB2 hBW hW0
    refine (HV1.out _ HW.out).mono ?_
    rintro e w1 ⟨rfl, hb1⟩
    have HB' : Hd (Below W0.heap.size W0 _) := ⟨bel_then (by repeat (first | exact HB.out | exact Below.refl _ _ | refine below_alloc ?_ _ | refine below_drewN ?_ _ | refine below_drew ?_ | refine below_set ?_ (by first | exact Nat.le_refl _ | omega | (simp; done) | (simp; omega)) _)) hb1⟩; clear HB; have HB := HB'; clear HB' hb1; replace q0 := (Q0.out.to HB.out).c0; replace q1 := (Q0.out.to HB.out).c1; replace q2 := (Q1.out.to HB.out).c0; replace q3 := (Q1.out.to HB.out).c1; replace g0 := (QR.out.to HB.out).c0; replace g1 := (QR.out.to HB.out).c1; replace u0 := (QR.out.to HB.out).f0; replace u1 := (QR.out.to HB.out).f1
    go_wp2_with fail
    obtain ⟨k0, k1, k2⟩ := two_set g0 g1 (.bool false) (.slice none 0 0)
    refine bodyPost_ret (v := .tuple #[.agg #[.bool false, .slice none 0 0], .int .i64 2]) (by simp [results, Try.results28, go_sem, k0, k1]) rfl ?_
    exact ⟨none, 0, by rw [show ln (Int.natAbs 0) = 0 from ln_zero]; rfl, NN.nil _ _ _ (by omega), (by repeat (first | exact bel_then HW.out HB.out | refine below_set ?_ (by first | exact Nat.le_refl _ | omega | (simp; done) | (simp; omega)) _ | refine below_alloc ?_ _ | refine below_drewN ?_ _ | refine below_drew ?_))⟩
set_option maxHeartbeats 1000000 in
set_option maxRecDepth 100000 in
theorem rMul_calls (x y : Raw) (w : World) (hx : x.at_ w) (hy : y.at_ w) :
    Calls Try.prog 29 #[x.v, y.v] w (RetZE (opz x y (x.val * y.val)) (ope x y (x.val * y.val)) w) := by
  unfold opz ope
  have HV1 := Hd.mk (fun W (hW : Below w.heap.size w W) => rvalid_calls x W (Raw.at_to hx hW))
  have HV2 := Hd.mk (fun W (hW : Below w.heap.size w W) => rvalid_calls y W (Raw.at_to hy hW))
  by_cases hxo : x.ok = true
  · by_cases hyo : y.ok = true
    · rw [hxo, hyo]
      have HP := Hd.mk (fun W (hW : Below w.heap.size w W) => rTimes_calls x.val y.val x.A x.c y.A y.c W ((Raw.nn hxo hx).to hW) ((Raw.nn hyo hy).to hW) (by have := Raw.ok_len hxo hx.2.1; omega) (by have := Raw.ok_len hyo hy.2.1; omega))
      rw [← (Raw.num hxo hx.2.1).1, ← (Raw.num hyo hy.2.1).1] at HP
      rw [hxo] at HV1
      rw [hyo] at HV2
      obtain ⟨z, hz⟩ : ∃ z, z = x.val * y.val := ⟨_, rfl⟩
      rw [← hz] at HP ⊢
      rw [if_pos (show (true && true) = true from rfl), if_pos (show (true && true) = true from rfl)]
      unfold Raw.v at HP HV1 HV2 ⊢
      clear hx hy hz hxo hyo
      obtain ⟨b1, A1, c1, xs⟩ := x
      obtain ⟨b2, A2, c2, ys⟩ := y
      simp only at HP HV1 HV2 ⊢
      obtain ⟨n1, hn1⟩ : ∃ n, n = xs.length := ⟨_, rfl⟩
      obtain ⟨n2, hn2⟩ : ∃ n, n = ys.length := ⟨_, rfl⟩
      rw [← hn1] at HP HV1 ⊢
      rw [← hn2] at HP HV2 ⊢
      clear hn1 hn2
      go_enter Try.func29, Try.ntmps29
      go_wp2_with fail
      obtain ⟨W0, hW0⟩ : ∃ W : World, W = ((w.alloc (.cells #[.bool b1, .slice A1 n1 c1] 24)).alloc (.cells #[.bool b2, .slice A2 n2 c2] 24)).alloc (.cells #[.bool false, .slice none 0 0] 24) := ⟨_, rfl⟩
      rw [← hW0]
      have HSZ : Hd (w.heap.size + 1 + 1 + 1 = W0.heap.size) := ⟨by rw [hW0]; simp⟩
      obtain ⟨hB0, hB1, hB2, hBW⟩ := boxes3 hW0
      have q0 := hB0.c0
      have q1 := hB0.c1
      have q2 := hB1.c0
      have q3 := hB1.c1
      have g0 := hB2.c0
      have g1 := hB2.c1
      have u0 := hB2.f0
      have u1 := hB2.f1
      have Q0 := Hd.mk hB0
      have Q1 := Hd.mk hB1
      have QR := Hd.mk hB2
      have HW := Hd.mk hBW
      have HB : Hd (Below W0.heap.size W0 W0) := ⟨Below.refl _ _⟩
      clear hB0 hB1 hB2 hBW hW0
      refine (HV1.out _ HW.out).mono ?_
      rintro e w1 ⟨rfl, hb1⟩
      have HB' : Hd (Below W0.heap.size W0 _) := ⟨bel_then (by repeat (first | exact HB.out | exact Below.refl _ _ | refine below_alloc ?_ _ | refine below_drewN ?_ _ | refine below_drew ?_ | refine below_set ?_ (by first | exact Nat.le_refl _ | omega | (simp; done) | (simp; omega)) _)) hb1⟩; clear HB; have HB := HB'; clear HB' hb1; replace q0 := (Q0.out.to HB.out).c0; replace q1 := (Q0.out.to HB.out).c1; replace q2 := (Q1.out.to HB.out).c0; replace q3 := (Q1.out.to HB.out).c1; replace g0 := (QR.out.to HB.out).c0; replace g1 := (QR.out.to HB.out).c1; replace u0 := (QR.out.to HB.out).f0; replace u1 := (QR.out.to HB.out).f1
      go_wp2_with fail
      refine (HV2.out _ (bel_then HW.out (by repeat (first | exact HB.out | exact Below.refl _ _ | refine below_alloc ?_ _ | refine below_drewN ?_ _ | refine below_drew ?_ | refine below_set ?_ (by first | exact Nat.le_refl _ | omega | (simp; done) | (simp; omega)) _)))).mono ?_
      rintro e w2 ⟨rfl, hb2⟩
      have HB' : Hd (Below W0.heap.size W0 _) := ⟨bel_then (by repeat (first | exact HB.out | exact Below.refl _ _ | refine below_alloc ?_ _ | refine below_drewN ?_ _ | refine below_drew ?_ | refine below_set ?_ (by first | exact Nat.le_refl _ | omega | (simp; done) | (simp; omega)) _)) hb2⟩; clear HB; have HB := HB'; clear HB' hb2; replace q0 := (Q0.out.to HB.out).c0; replace q1 := (Q0.out.to HB.out).c1; replace q2 := (Q1.out.to HB.out).c0; replace q3 := (Q1.out.to HB.out).c1; replace g0 := (QR.out.to HB.out).c0; replace g1 := (QR.out.to HB.out).c1; replace u0 := (QR.out.to HB.out).f0; replace u1 := (QR.out.to HB.out).f1
      go_wp2_with fail
      go_region_held3 (fun w' => w'.cell? ⟨w.heap.size, 0, none⟩ = some (.bool b1) ∧ w'.cell? ⟨w.heap.size, 1, none⟩ = some (.slice A1 n1 c1) ∧ w'.cell? ⟨w.heap.size + 1, 0, none⟩ = some (.bool b2) ∧ w'.cell? ⟨w.heap.size + 1, 1, none⟩ = some (.slice A2 n2 c2)) (first | exact ⟨q0, q1, q2, q3⟩ | (repeat' apply And.intro) <;> (first | exact q0 | exact q1 | exact q2 | exact q3 | (go_keep; done) | (rw [World.cell?_setCell_far _ _ _ _ (by first | (simp; done) | (simp; omega)), World.cell?_setCell_far _ _ _ _ (by first | (simp; done) | (simp; omega))]; first | exact q0 | exact q1 | exact q2 | exact q3)))
        (first | (go_at_call 32; refine (rOf_calls _ _ _ _ _).mono ?_; rintro e w3 ⟨rfl, hb3⟩; have HB' : Hd (Below W0.heap.size W0 _) := ⟨bel_then (by repeat (first | exact HB.out | exact Below.refl _ _ | refine below_alloc ?_ _ | refine below_drewN ?_ _ | refine below_drew ?_ | refine below_set ?_ (by first | exact Nat.le_refl _ | omega | (simp; done) | (simp; omega)) _)) hb3⟩; clear HB; have HB := HB'; clear HB' hb3; replace q0 := (Q0.out.to HB.out).c0; replace q1 := (Q0.out.to HB.out).c1; replace q2 := (Q1.out.to HB.out).c0; replace q3 := (Q1.out.to HB.out).c1; replace g0 := (QR.out.to HB.out).c0; replace g1 := (QR.out.to HB.out).c1; replace u0 := (QR.out.to HB.out).f0; replace u1 := (QR.out.to HB.out).f1) | (go_at_call 31; refine (HP.out _ (bel_then HW.out (by repeat (first | exact HB.out | exact Below.refl _ _ | refine below_alloc ?_ _ | refine below_drewN ?_ _ | refine below_drew ?_ | refine below_set ?_ (by first | exact Nat.le_refl _ | omega | (simp; done) | (simp; omega)) _)))).mono ?_; rintro e w4 ⟨A3, c3, rfl, hn3, hb4⟩; have HN3 := Hd.mk hn3; clear hn3; have HB' : Hd (Below W0.heap.size W0 _) := ⟨bel_then (by repeat (first | exact HB.out | exact Below.refl _ _ | refine below_alloc ?_ _ | refine below_drewN ?_ _ | refine below_drew ?_ | refine below_set ?_ (by first | exact Nat.le_refl _ | omega | (simp; done) | (simp; omega)) _)) hb4⟩; clear HB; have HB := HB'; clear HB' hb4; replace q0 := (Q0.out.to HB.out).c0; replace q1 := (Q0.out.to HB.out).c1; replace q2 := (Q1.out.to HB.out).c0; replace q3 := (Q1.out.to HB.out).c1; replace g0 := (QR.out.to HB.out).c0; replace g1 := (QR.out.to HB.out).c1; replace u0 := (QR.out.to HB.out).f0; replace u1 := (QR.out.to HB.out).f1) | (go_at_call 75; refine (answer_calls z A3 c3 _ HN3.out).mono ?_; rintro e w5 ⟨A4, c4, rfl, hn4, hb5⟩; have HN4 := Hd.mk hn4; clear hn4; have HB' : Hd (Below W0.heap.size W0 _) := ⟨bel_then (by repeat (first | exact HB.out | exact Below.refl _ _ | refine below_alloc ?_ _ | refine below_drewN ?_ _ | refine below_drew ?_ | refine below_set ?_ (by first | exact Nat.le_refl _ | omega | (simp; done) | (simp; omega)) _)) hb5⟩; clear HB; have HB := HB'; clear HB' hb5; replace q0 := (Q0.out.to HB.out).c0; replace q1 := (Q0.out.to HB.out).c1; replace q2 := (Q1.out.to HB.out).c0; replace q3 := (Q1.out.to HB.out).c1; replace g0 := (QR.out.to HB.out).c0; replace g1 := (QR.out.to HB.out).c1; replace u0 := (QR.out.to HB.out).f0; replace u1 := (QR.out.to HB.out).f1))
      go_wp2_with fail
      obtain ⟨k0, k1, k2⟩ := two_set g0 g1 (.bool (decide (fitz z < 0))) (.slice A4 (ln (fitz z).natAbs) c4)
      refine bodyPost_ret (v := .tuple #[.agg #[.bool (decide (fitz z < 0)), .slice A4 (ln (fitz z).natAbs) c4], .int .i64 (fite z)]) (by simp [results, Try.results29, go_sem, k0, k1]) rfl ?_
      exact ⟨A4, c4, rfl, (HN4.out.set_ g0 (by intro t; simp) _).set_ k2 (by intro t; simp) _, (by repeat (first | exact bel_then HW.out HB.out | refine below_set ?_ (by first | exact Nat.le_refl _ | omega | (simp; done) | (simp; omega)) _ | refine below_alloc ?_ _ | refine below_drewN ?_ _ | refine below_drew ?_))⟩
    · have hyf : y.ok = false := by simpa using hyo
      rw [hxo, hyf, if_neg (by simp), if_neg (by simp)]
      rw [hxo] at HV1
      rw [hyf] at HV2
      unfold Raw.v at HV1 HV2 ⊢
      clear hx hy hxo hyo hyf
      obtain ⟨b1, A1, c1, xs⟩ := x
      obtain ⟨b2, A2, c2, ys⟩ := y
      simp only at HV1 HV2 ⊢
      obtain ⟨n1, hn1⟩ : ∃ n, n = xs.length := ⟨_, rfl⟩
      obtain ⟨n2, hn2⟩ : ∃ n, n = ys.length := ⟨_, rfl⟩
      rw [← hn1] at HV1 ⊢
      rw [← hn2] at HV2 ⊢
      clear hn1 hn2
      go_enter Try.func29, Try.ntmps29
      go_wp2_with fail
      obtain ⟨W0, hW0⟩ : ∃ W : World, W = ((w.alloc (.cells #[.bool b1, .slice A1 n1 c1] 24)).alloc (.cells #[.bool b2, .slice A2 n2 c2] 24)).alloc (.cells #[.bool false, .slice none 0 0] 24) := ⟨_, rfl⟩
      rw [← hW0]
      have HSZ : Hd (w.heap.size + 1 + 1 + 1 = W0.heap.size) := ⟨by rw [hW0]; simp⟩
      obtain ⟨hB0, hB1, hB2, hBW⟩ := boxes3 hW0
      have q0 := hB0.c0
      have q1 := hB0.c1
      have q2 := hB1.c0
      have q3 := hB1.c1
      have g0 := hB2.c0
      have g1 := hB2.c1
      have u0 := hB2.f0
      have u1 := hB2.f1
      have Q0 := Hd.mk hB0
      have Q1 := Hd.mk hB1
      have QR := Hd.mk hB2
      have HW := Hd.mk hBW
      have HB : Hd (Below W0.heap.size W0 W0) := ⟨Below.refl _ _⟩
      clear hB0 hB1 hB2 hBW hW0
      refine (HV1.out _ HW.out).mono ?_
      rintro e w1 ⟨rfl, hb1⟩
      have HB' : Hd (Below W0.heap.size W0 _) := ⟨bel_then (by repeat (first | exact HB.out | exact Below.refl _ _ | refine below_alloc ?_ _ | refine below_drewN ?_ _ | refine below_drew ?_ | refine below_set ?_ (by first | exact Nat.le_refl _ | omega | (simp; done) | (simp; omega)) _)) hb1⟩; clear HB; have HB := HB'; clear HB' hb1; replace q0 := (Q0.out.to HB.out).c0; replace q1 := (Q0.out.to HB.out).c1; replace q2 := (Q1.out.to HB.out).c0; replace q3 := (Q1.out.to HB.out).c1; replace g0 := (QR.out.to HB.out).c0; replace g1 := (QR.out.to HB.out).c1; replace u0 := (QR.out.to HB.out).f0; replace u1 := (QR.out.to HB.out).f1
      go_wp2_with fail
      refine (HV2.out _ (bel_then HW.out (by repeat (first | exact HB.out | exact Below.refl _ _ | refine below_alloc ?_ _ | refine below_drewN ?_ _ | refine below_drew ?_ | refine below_set ?_ (by first | exact Nat.le_refl _ | omega | (simp; done) | (simp; omega)) _)))).mono ?_
      rintro e w2 ⟨rfl, hb2⟩
      have HB' : Hd (Below W0.heap.size W0 _) := ⟨bel_then (by repeat (first | exact HB.out | exact Below.refl _ _ | refine below_alloc ?_ _ | refine below_drewN ?_ _ | refine below_drew ?_ | refine below_set ?_ (by first | exact Nat.le_refl _ | omega | (simp; done) | (simp; omega)) _)) hb2⟩; clear HB; have HB := HB'; clear HB' hb2; replace q0 := (Q0.out.to HB.out).c0; replace q1 := (Q0.out.to HB.out).c1; replace q2 := (Q1.out.to HB.out).c0; replace q3 := (Q1.out.to HB.out).c1; replace g0 := (QR.out.to HB.out).c0; replace g1 := (QR.out.to HB.out).c1; replace u0 := (QR.out.to HB.out).f0; replace u1 := (QR.out.to HB.out).f1
      go_wp2_with fail
      obtain ⟨k0, k1, k2⟩ := two_set g0 g1 (.bool false) (.slice none 0 0)
      refine bodyPost_ret (v := .tuple #[.agg #[.bool false, .slice none 0 0], .int .i64 2]) (by simp [results, Try.results29, go_sem, k0, k1]) rfl ?_
      exact ⟨none, 0, by rw [show ln (Int.natAbs 0) = 0 from ln_zero]; rfl, NN.nil _ _ _ (by omega), (by repeat (first | exact bel_then HW.out HB.out | refine below_set ?_ (by first | exact Nat.le_refl _ | omega | (simp; done) | (simp; omega)) _ | refine below_alloc ?_ _ | refine below_drewN ?_ _ | refine below_drew ?_))⟩
  · have hxf : x.ok = false := by simpa using hxo
    rw [hxf, if_neg (by simp), if_neg (by simp)]
    rw [hxf] at HV1
    unfold Raw.v at HV1 HV2 ⊢
    clear hx hy hxo hxf
    obtain ⟨b1, A1, c1, xs⟩ := x
    obtain ⟨b2, A2, c2, ys⟩ := y
    simp only at HV1 HV2 ⊢
    obtain ⟨n1, hn1⟩ : ∃ n, n = xs.length := ⟨_, rfl⟩
    obtain ⟨n2, hn2⟩ : ∃ n, n = ys.length := ⟨_, rfl⟩
    rw [← hn1] at HV1 ⊢
    rw [← hn2] at HV2 ⊢
    clear hn1 hn2
    go_enter Try.func29, Try.ntmps29
    go_wp2_with fail
    obtain ⟨W0, hW0⟩ : ∃ W : World, W = ((w.alloc (.cells #[.bool b1, .slice A1 n1 c1] 24)).alloc (.cells #[.bool b2, .slice A2 n2 c2] 24)).alloc (.cells #[.bool false, .slice none 0 0] 24) := ⟨_, rfl⟩
    rw [← hW0]
    have HSZ : Hd (w.heap.size + 1 + 1 + 1 = W0.heap.size) := ⟨by rw [hW0]; simp⟩
    obtain ⟨hB0, hB1, hB2, hBW⟩ := boxes3 hW0
    have q0 := hB0.c0
    have q1 := hB0.c1
    have q2 := hB1.c0
    have q3 := hB1.c1
    have g0 := hB2.c0
    have g1 := hB2.c1
    have u0 := hB2.f0
    have u1 := hB2.f1
    have Q0 := Hd.mk hB0
    have Q1 := Hd.mk hB1
    have QR := Hd.mk hB2
    have HW := Hd.mk hBW
    have HB : Hd (Below W0.heap.size W0 W0) := ⟨Below.refl _ _⟩
    clear hB0 hB1 hB2 hBW hW0
    refine (HV1.out _ HW.out).mono ?_
    rintro e w1 ⟨rfl, hb1⟩
    have HB' : Hd (Below W0.heap.size W0 _) := ⟨bel_then (by repeat (first | exact HB.out | exact Below.refl _ _ | refine below_alloc ?_ _ | refine below_drewN ?_ _ | refine below_drew ?_ | refine below_set ?_ (by first | exact Nat.le_refl _ | omega | (simp; done) | (simp; omega)) _)) hb1⟩; clear HB; have HB := HB'; clear HB' hb1; replace q0 := (Q0.out.to HB.out).c0; replace q1 := (Q0.out.to HB.out).c1; replace q2 := (Q1.out.to HB.out).c0; replace q3 := (Q1.out.to HB.out).c1; replace g0 := (QR.out.to HB.out).c0; replace g1 := (QR.out.to HB.out).c1; replace u0 := (QR.out.to HB.out).f0; replace u1 := (QR.out.to HB.out).f1
    go_wp2_with fail
    obtain ⟨k0, k1, k2⟩ := two_set g0 g1 (.bool false) (.slice none 0 0)
    refine bodyPost_ret (v := .tuple #[.agg #[.bool false, .slice none 0 0], .int .i64 2]) (by simp [results, Try.results29, go_sem, k0, k1]) rfl ?_
    exact ⟨none, 0, by rw [show ln (Int.natAbs 0) = 0 from ln_zero]; rfl, NN.nil _ _ _ (by omega), (by repeat (first | exact bel_then HW.out HB.out | refine below_set ?_ (by first | exact Nat.le_refl _ | omega | (simp; done) | (simp; omega)) _ | refine below_alloc ?_ _ | refine below_drewN ?_ _ | refine below_drew ?_))⟩
end Go.Proofs.Ytcjcpfafalkceaa
