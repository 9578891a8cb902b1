/- Texts QB, QC, QD, QE, QF, Pk, Pl, QH, Bez in one. -/
import Derived.Test.YtcjcpfafalkceaaQA
import Derived.Test.YtcjcpfafalkceaaM
import Derived.Test.YtcjcpfafalkceaaPj
import Derived.Test.YtcjcpfafalkceaaZE
import Derived.Test.YtcjcpfafalkceaaRoots
import Derived.Test.YtcjcpfafalkceaaO
/- Gcd of the program and of the reference; the reference's Exactly. -/
set_option linter.unusedVariables false
set_option linter.unusedSimpArgs false
namespace Go.Proofs.Ytcjcpfafalkceaa
open Go.RowKit
set_option maxHeartbeats 1000000 in
set_option maxRecDepth 100000 in
theorem two_gcd (x y : Raw) (w : World) (hx : x.at_ w) (hy : y.at_ w) :
    Calls Try.prog 63 #[x.v, y.v, .func (.func 95) #[] #[]] w (RetZE (opz x y (zgcd x.val y.val)) (ope x y (zgcd x.val y.val)) w) := by
  unfold opz ope
  have HV := Hd.mk (fun g W (h : Below w.heap.size w W) (hB : Blk W g 24 [.bool x.neg, .slice x.A x.xs.length x.c, .bool y.neg, .slice y.A y.xs.length y.c]) => valid_calls [x, y] g 2 W (raws_two h hx hy hB) rfl (Nat.le_refl _))
  rw [all_two] at HV
  by_cases hok : (x.ok && y.ok) = true
  · obtain ⟨hxo, hyo⟩ := and_ok hok
    rw [hok] at HV
    have hlx := Raw.ok_len hxo hx.2.1
    have hly := Raw.ok_len hyo hy.2.1
    have HP := Hd.mk (fun W (hW : Below w.heap.size w W) => wgcd_calls x.val y.val x.A x.c y.A y.c W ((Raw.nn hxo hx).to hW) ((Raw.nn hyo hy).to hW) (by omega) (by omega))
    rw [← (Raw.num hxo hx.2.1).1, ← (Raw.num hyo hy.2.1).1] at HP
    obtain ⟨z, hz⟩ : ∃ z, z = zgcd x.val y.val := ⟨_, rfl⟩
    have hzl : ln z.natAbs ≤ 1073741824 := by rw [hz]; exact Nat.le_trans (zgcd_ln _ _) (by omega)
    rw [← hz] at HP ⊢
    rw [if_pos hok, if_pos hok]
    unfold Raw.v at HP ⊢
    clear hx hy hz hxo hyo hok hlx hly
    obtain ⟨b1, A1, c1, xs⟩ := x
    obtain ⟨b2, A2, c2, ys⟩ := y
    simp only at HP HV ⊢
    obtain ⟨n1, hn1⟩ : ∃ n, n = xs.length := ⟨_, rfl⟩
    obtain ⟨n2, hn2⟩ : ∃ n, n = ys.length := ⟨_, rfl⟩
    rw [← hn1, ← hn2] at HP HV ⊢
    clear hn1 hn2
    go_enter Try.func63, Try.ntmps63
    go_wp2_with fail
    obtain ⟨W0, hW0⟩ : ∃ W : World, W = ((w.alloc (.cells #[.bool b1, .slice A1 n1 c1] 24)).alloc (.cells #[.bool b2, .slice A2 n2 c2] 24)).alloc (.cells #[.bool false, .slice none 0 0] 24) := ⟨_, rfl⟩
    rw [← hW0]
    have HSZ : Hd (w.heap.size + 1 + 1 + 1 = W0.heap.size) := ⟨by rw [hW0]; simp⟩
    obtain ⟨hB0, hB1, hB2, hBW⟩ := boxes3 hW0
    have q0 := hB0.c0
    have q1 := hB0.c1
    have q2 := hB1.c0
    have q3 := hB1.c1
    have g0 := hB2.c0
    have g1 := hB2.c1
    have u0 := hB2.f0
    have u1 := hB2.f1
    have Q0 := Hd.mk hB0
    have Q1 := Hd.mk hB1
    have QR := Hd.mk hB2
    have HW := Hd.mk hBW
    have HB : Hd (Below W0.heap.size W0 W0) := ⟨Below.refl _ _⟩
    clear hB0 hB1 hB2 hBW hW0
    refine (HV.out _ _ (bel_then HW.out (by repeat (first | exact HB.out | exact Below.refl _ _ | refine below_alloc ?_ _ | refine below_drewN ?_ _ | refine below_drew ?_ | refine below_set ?_ (by first | exact Nat.le_refl _ | omega | (simp; done) | (simp; omega)) _))) (blk_new HSZ.out _ _)).mono ?_
    rintro e w1 ⟨rfl, hb1⟩
    have HB' : Hd (Below W0.heap.size W0 _) := ⟨bel_then (by repeat (first | exact HB.out | exact Below.refl _ _ | refine below_alloc ?_ _ | refine below_drewN ?_ _ | refine below_drew ?_ | refine below_set ?_ (by first | exact Nat.le_refl _ | omega | (simp; done) | (simp; omega)) _)) hb1⟩; clear HB; have HB := HB'; clear HB' hb1; replace q0 := (Q0.out.to HB.out).c0; replace q1 := (Q0.out.to HB.out).c1; replace q2 := (Q1.out.to HB.out).c0; replace q3 := (Q1.out.to HB.out).c1; replace g0 := (QR.out.to HB.out).c0; replace g1 := (QR.out.to HB.out).c1; replace u0 := (QR.out.to HB.out).f0; replace u1 := (QR.out.to HB.out).f1
    go_wp2_with fail
    go_region_held3 (fun w' => w'.cell? ⟨w.heap.size, 0, none⟩ = some (.bool b1) ∧ w'.cell? ⟨w.heap.size, 1, none⟩ = some (.slice A1 n1 c1) ∧ w'.cell? ⟨w.heap.size + 1, 0, none⟩ = some (.bool b2) ∧ w'.cell? ⟨w.heap.size + 1, 1, none⟩ = some (.slice A2 n2 c2)) (first | exact ⟨q0, q1, q2, q3⟩ | (repeat' apply And.intro) <;> (first | exact q0 | exact q1 | exact q2 | exact q3 | (go_keep; done) | (rw [World.cell?_setCell_far _ _ _ _ (by first | (simp; done) | (simp; omega)), World.cell?_setCell_far _ _ _ _ (by first | (simp; done) | (simp; omega))]; first | exact q0 | exact q1 | exact q2 | exact q3)))
      (first | (go_at_call 69; refine (of_calls _ _ _ _ _).mono ?_; rintro e w3 ⟨rfl, hb3⟩; have HB' : Hd (Below W0.heap.size W0 _) := ⟨bel_then (by repeat (first | exact HB.out | exact Below.refl _ _ | refine below_alloc ?_ _ | refine below_drewN ?_ _ | refine below_drew ?_ | refine below_set ?_ (by first | exact Nat.le_refl _ | omega | (simp; done) | (simp; omega)) _)) hb3⟩; clear HB; have HB := HB'; clear HB' hb3; replace q0 := (Q0.out.to HB.out).c0; replace q1 := (Q0.out.to HB.out).c1; replace q2 := (Q1.out.to HB.out).c0; replace q3 := (Q1.out.to HB.out).c1; replace g0 := (QR.out.to HB.out).c0; replace g1 := (QR.out.to HB.out).c1; replace u0 := (QR.out.to HB.out).f0; replace u1 := (QR.out.to HB.out).f1) | (go_at_call 95; refine (HP.out _ (bel_then HW.out (by repeat (first | exact HB.out | exact Below.refl _ _ | refine below_alloc ?_ _ | refine below_drewN ?_ _ | refine below_drew ?_ | refine below_set ?_ (by first | exact Nat.le_refl _ | omega | (simp; done) | (simp; omega)) _)))).mono ?_; rintro e w4 ⟨A3, c3, rfl, hn3, hb4⟩; have HN3 := Hd.mk hn3; clear hn3; have HB' : Hd (Below W0.heap.size W0 _) := ⟨bel_then (by repeat (first | exact HB.out | exact Below.refl _ _ | refine below_alloc ?_ _ | refine below_drewN ?_ _ | refine below_drew ?_ | refine below_set ?_ (by first | exact Nat.le_refl _ | omega | (simp; done) | (simp; omega)) _)) hb4⟩; clear HB; have HB := HB'; clear HB' hb4; replace q0 := (Q0.out.to HB.out).c0; replace q1 := (Q0.out.to HB.out).c1; replace q2 := (Q1.out.to HB.out).c0; replace q3 := (Q1.out.to HB.out).c1; replace g0 := (QR.out.to HB.out).c0; replace g1 := (QR.out.to HB.out).c1; replace u0 := (QR.out.to HB.out).f0; replace u1 := (QR.out.to HB.out).f1) | (go_at_call 85; refine (fits_calls z A3 c3 _ HN3.out hzl).mono ?_; rintro e w5 ⟨A4, c4, rfl, hn4, hb5⟩; have HN4 := Hd.mk hn4; clear hn4; have HB' : Hd (Below W0.heap.size W0 _) := ⟨bel_then (by repeat (first | exact HB.out | exact Below.refl _ _ | refine below_alloc ?_ _ | refine below_drewN ?_ _ | refine below_drew ?_ | refine below_set ?_ (by first | exact Nat.le_refl _ | omega | (simp; done) | (simp; omega)) _)) hb5⟩; clear HB; have HB := HB'; clear HB' hb5; replace q0 := (Q0.out.to HB.out).c0; replace q1 := (Q0.out.to HB.out).c1; replace q2 := (Q1.out.to HB.out).c0; replace q3 := (Q1.out.to HB.out).c1; replace g0 := (QR.out.to HB.out).c0; replace g1 := (QR.out.to HB.out).c1; replace u0 := (QR.out.to HB.out).f0; replace u1 := (QR.out.to HB.out).f1))
    go_wp2_with fail
    obtain ⟨k0, k1, k2⟩ := two_set g0 g1 (.bool (decide (fitz z < 0))) (.slice A4 (ln (fitz z).natAbs) c4)
    refine bodyPost_ret (v := .tuple #[.agg #[.bool (decide (fitz z < 0)), .slice A4 (ln (fitz z).natAbs) c4], .int .i64 (fite z)]) (by simp [results, Try.results63, go_sem, k0, k1]) rfl ?_
    exact ⟨A4, c4, rfl, (HN4.out.set_ g0 (by intro t; simp) _).set_ k2 (by intro t; simp) _, (by repeat (first | exact bel_then HW.out HB.out | refine below_set ?_ (by first | exact Nat.le_refl _ | omega | (simp; done) | (simp; omega)) _ | refine below_alloc ?_ _ | refine below_drewN ?_ _ | refine below_drew ?_))⟩
  · have hno : (x.ok && y.ok) = false := by simpa using hok
    rw [hno] at HV
    rw [if_neg hok, if_neg hok]
    unfold Raw.v
    clear hx hy hok hno
    obtain ⟨b1, A1, c1, xs⟩ := x
    obtain ⟨b2, A2, c2, ys⟩ := y
    simp only at HV ⊢
    obtain ⟨n1, hn1⟩ : ∃ n, n = xs.length := ⟨_, rfl⟩
    obtain ⟨n2, hn2⟩ : ∃ n, n = ys.length := ⟨_, rfl⟩
    rw [← hn1, ← hn2] at HV ⊢
    clear hn1 hn2
    go_enter Try.func63, Try.ntmps63
    go_wp2_with fail
    obtain ⟨W0, hW0⟩ : ∃ W : World, W = ((w.alloc (.cells #[.bool b1, .slice A1 n1 c1] 24)).alloc (.cells #[.bool b2, .slice A2 n2 c2] 24)).alloc (.cells #[.bool false, .slice none 0 0] 24) := ⟨_, rfl⟩
    rw [← hW0]
    have HSZ : Hd (w.heap.size + 1 + 1 + 1 = W0.heap.size) := ⟨by rw [hW0]; simp⟩
    obtain ⟨hB0, hB1, hB2, hBW⟩ := boxes3 hW0
    have q0 := hB0.c0
    have q1 := hB0.c1
    have q2 := hB1.c0
    have q3 := hB1.c1
    have g0 := hB2.c0
    have g1 := hB2.c1
    have u0 := hB2.f0
    have u1 := hB2.f1
    have Q0 := Hd.mk hB0
    have Q1 := Hd.mk hB1
    have QR := Hd.mk hB2
    have HW := Hd.mk hBW
    have HB : Hd (Below W0.heap.size W0 W0) := ⟨Below.refl _ _⟩
    clear hB0 hB1 hB2 hBW hW0
    refine (HV.out _ _ (bel_then HW.out (by repeat (first | exact HB.out | exact Below.refl _ _ | refine below_alloc ?_ _ | refine below_drewN ?_ _ | refine below_drew ?_ | refine below_set ?_ (by first | exact Nat.le_refl _ | omega | (simp; done) | (simp; omega)) _))) (blk_new HSZ.out _ _)).mono ?_
    rintro e w1 ⟨rfl, hb1⟩
    have HB' : Hd (Below W0.heap.size W0 _) := ⟨bel_then (by repeat (first | exact HB.out | exact Below.refl _ _ | refine below_alloc ?_ _ | refine below_drewN ?_ _ | refine below_drew ?_ | refine below_set ?_ (by first | exact Nat.le_refl _ | omega | (simp; done) | (simp; omega)) _)) hb1⟩; clear HB; have HB := HB'; clear HB' hb1; replace q0 := (Q0.out.to HB.out).c0; replace q1 := (Q0.out.to HB.out).c1; replace q2 := (Q1.out.to HB.out).c0; replace q3 := (Q1.out.to HB.out).c1; replace g0 := (QR.out.to HB.out).c0; replace g1 := (QR.out.to HB.out).c1; replace u0 := (QR.out.to HB.out).f0; replace u1 := (QR.out.to HB.out).f1
    go_wp2_with fail
    obtain ⟨k0, k1, k2⟩ := two_set g0 g1 (.bool false) (.slice none 0 0)
    refine bodyPost_ret (v := .tuple #[.agg #[.bool false, .slice none 0 0], .int .i64 2]) (by simp [results, Try.results63, go_sem, k0, k1]) rfl ?_
    exact ⟨none, 0, by rw [show ln (Int.natAbs 0) = 0 from ln_zero]; rfl, NN.nil _ _ _ (by omega), (by repeat (first | exact bel_then HW.out HB.out | refine below_set ?_ (by first | exact Nat.le_refl _ | omega | (simp; done) | (simp; omega)) _ | refine below_alloc ?_ _ | refine below_drewN ?_ _ | refine below_drew ?_))⟩
set_option maxRecDepth 100000 in
theorem Gcd_calls (x y : Raw) (w : World) (hx : x.at_ w) (hy : y.at_ w) :
    Calls Try.prog 47 #[x.v, y.v] w (RetZE (opz x y (zgcd x.val y.val)) (ope x y (zgcd x.val y.val)) w) := by
  have HT := Hd.mk (fun W (hW : Below w.heap.size w W) => two_gcd x y W (Raw.at_to hx hW) (Raw.at_to hy hW))
  obtain ⟨z, hz⟩ : ∃ z, z = opz x y (zgcd x.val y.val) := ⟨_, rfl⟩
  obtain ⟨ze, hze⟩ : ∃ z, z = ope x y (zgcd x.val y.val) := ⟨_, rfl⟩
  rw [← hz, ← hze] at HT ⊢
  clear hz hze hx hy
  unfold Raw.v at HT ⊢
  obtain ⟨b1, A1, c1, xs⟩ := x
  obtain ⟨b2, A2, c2, ys⟩ := y
  simp only at HT ⊢
  obtain ⟨n1, hn1⟩ : ∃ n, n = xs.length := ⟨_, rfl⟩
  obtain ⟨n2, hn2⟩ : ∃ n, n = ys.length := ⟨_, rfl⟩
  rw [← hn1, ← hn2] at HT ⊢
  clear hn1 hn2
  go_enter Try.func47, Try.ntmps47
  go_wp2_with fail
  obtain ⟨W0, hW0⟩ : ∃ W : World, W = ((w.alloc (.cells #[.bool b1, .slice A1 n1 c1] 24)).alloc (.cells #[.bool b2, .slice A2 n2 c2] 24)).alloc (.cells #[.bool false, .slice none 0 0] 24) := ⟨_, rfl⟩
  rw [← hW0]
  have HSZ : Hd (w.heap.size + 1 + 1 + 1 = W0.heap.size) := ⟨by rw [hW0]; simp⟩
  obtain ⟨hB0, hB1, hB2, hBW⟩ := boxes3 hW0
  have q0 := hB0.c0
  have q1 := hB0.c1
  have q2 := hB1.c0
  have q3 := hB1.c1
  have g0 := hB2.c0
  have g1 := hB2.c1
  have u0 := hB2.f0
  have u1 := hB2.f1
  have Q0 := Hd.mk hB0
  have Q1 := Hd.mk hB1
  have QR := Hd.mk hB2
  have HW := Hd.mk hBW
  have HB : Hd (Below W0.heap.size W0 W0) := ⟨Below.refl _ _⟩
  clear hB0 hB1 hB2 hBW hW0
  refine (HT.out _ HW.out).mono ?_
  rintro e w1 ⟨A4, c4, rfl, hn4, hb1⟩
  have HN4 := Hd.mk hn4
  clear hn4
  have HB' : Hd (Below W0.heap.size W0 _) := ⟨bel_then (by repeat (first | exact HB.out | exact Below.refl _ _ | refine below_alloc ?_ _ | refine below_drewN ?_ _ | refine below_drew ?_ | refine below_set ?_ (by first | exact Nat.le_refl _ | omega | (simp; done) | (simp; omega)) _)) hb1⟩; clear HB; have HB := HB'; clear HB' hb1; replace q0 := (Q0.out.to HB.out).c0; replace q1 := (Q0.out.to HB.out).c1; replace q2 := (Q1.out.to HB.out).c0; replace q3 := (Q1.out.to HB.out).c1; replace g0 := (QR.out.to HB.out).c0; replace g1 := (QR.out.to HB.out).c1; replace u0 := (QR.out.to HB.out).f0; replace u1 := (QR.out.to HB.out).f1
  go_wp2_with fail
  obtain ⟨k0, k1, k2⟩ := two_set g0 g1 (.bool (decide (z < 0))) (.slice A4 (ln z.natAbs) c4)
  refine bodyPost_ret (v := .tuple #[.agg #[.bool (decide (z < 0)), .slice A4 (ln z.natAbs) c4], .int .i64 ze]) (by simp [results, Try.results47, go_sem, k0, k1]) rfl ?_
  exact ⟨A4, c4, rfl, (HN4.out.set_ g0 (by intro t; simp) _).set_ k2 (by intro t; simp) _, (by repeat (first | exact bel_then HW.out HB.out | refine below_set ?_ (by first | exact Nat.le_refl _ | omega | (simp; done) | (simp; omega)) _ | refine below_alloc ?_ _ | refine below_drewN ?_ _ | refine below_drew ?_))⟩
theorem zgcd_fits {x y : Raw} (hx : x.ok = true) (hy : y.ok = true) (hdx : Dg x.xs) (hdy : Dg y.xs) : fitz (zgcd x.val y.val) = zgcd x.val y.val ∧ fite (zgcd x.val y.val) = 0 := by
  have h : ln (zgcd x.val y.val).natAbs ≤ 256 := Nat.le_trans (zgcd_ln _ _) (Nat.max_le.2 ⟨Raw.ok_len hx hdx, Raw.ok_len hy hdy⟩)
  unfold fitz fite
  rw [if_pos h, if_pos h]
  exact ⟨rfl, rfl⟩
set_option maxHeartbeats 1000000 in
set_option maxRecDepth 100000 in
theorem rExactly_calls (x y : Int) (A1 : Option Addr) (c1 : Nat) (A2 : Option Addr) (c2 : Nat) (w : World) (h1 : NN w A1 c1 x.natAbs) (h2 : NN w A2 c2 y.natAbs) (hy : y ≠ 0) (l1 : ln x.natAbs ≤ 268435456) (l2 : ln y.natAbs ≤ 268435456) :
    Calls Try.prog 97 #[.agg #[.bool (decide (x < 0)), .slice A1 (ln x.natAbs) c1], .agg #[.bool (decide (y < 0)), .slice A2 (ln y.natAbs) c2]] w (RetZ (x / y) w) := by
  have HO := Hd.mk (fun W (hW : Below w.heap.size w W) => rOver_calls x y A1 c1 A2 c2 W (h1.to hW) (h2.to hW) hy l1 l2)
  clear h1 h2 hy
  obtain ⟨q, hq⟩ : ∃ q, q = x / y := ⟨_, rfl⟩
  obtain ⟨r, hr⟩ : ∃ r, r = x % y := ⟨_, rfl⟩
  rw [← hq, ← hr] at HO
  rw [← hq]
  obtain ⟨b1, hb1⟩ : ∃ b, b = decide (x < 0) := ⟨_, rfl⟩
  obtain ⟨b2, hb2⟩ : ∃ b, b = decide (y < 0) := ⟨_, rfl⟩
  rw [← hb1, ← hb2] at HO ⊢
  obtain ⟨n1, hn1⟩ : ∃ n, n = ln x.natAbs := ⟨_, rfl⟩
  obtain ⟨n2, hn2⟩ : ∃ n, n = ln y.natAbs := ⟨_, rfl⟩
  rw [← hn1, ← hn2] at HO ⊢
  clear hb1 hb2 hn1 hn2 hq hr
  go_enter Try.func97, Try.ntmps97
  go_wp2_with fail
  obtain ⟨W0, hW0⟩ : ∃ W : World, W = ((w.alloc (.cells #[.bool b1, .slice A1 n1 c1] 38)).alloc (.cells #[.bool b2, .slice A2 n2 c2] 38)).alloc (.cells #[.bool false, .slice none 0 0] 38) := ⟨_, rfl⟩
  rw [← hW0]
  have HSZ : Hd (w.heap.size + 1 + 1 + 1 = W0.heap.size) := ⟨by rw [hW0]; simp⟩
  obtain ⟨hB0, hB1, hB2, hBW⟩ := boxes3 hW0
  have q0 := hB0.c0
  have q1 := hB0.c1
  have q2 := hB1.c0
  have q3 := hB1.c1
  have g0 := hB2.c0
  have g1 := hB2.c1
  have u0 := hB2.f0
  have u1 := hB2.f1
  have Q0 := Hd.mk hB0
  have Q1 := Hd.mk hB1
  have QR := Hd.mk hB2
  have HW := Hd.mk hBW
  have HB : Hd (Below W0.heap.size W0 W0) := ⟨Below.refl _ _⟩
  clear hB0 hB1 hB2 hBW hW0
  refine (HO.out _ HW.out).mono ?_
  rintro e w1 ⟨A3, c3, A4, c4, rfl, hn3, hn4, hb1⟩
  have HN3 := Hd.mk hn3
  clear hn3 hn4
  have HB' : Hd (Below W0.heap.size W0 _) := ⟨bel_then (by repeat (first | exact HB.out | exact Below.refl _ _ | refine below_alloc ?_ _ | refine below_drewN ?_ _ | refine below_drew ?_ | refine below_set ?_ (by first | exact Nat.le_refl _ | omega | (simp; done) | (simp; omega)) _)) hb1⟩; clear HB; have HB := HB'; clear HB' hb1; replace q0 := (Q0.out.to HB.out).c0; replace q1 := (Q0.out.to HB.out).c1; replace q2 := (Q1.out.to HB.out).c0; replace q3 := (Q1.out.to HB.out).c1; replace g0 := (QR.out.to HB.out).c0; replace g1 := (QR.out.to HB.out).c1; replace u0 := (QR.out.to HB.out).f0; replace u1 := (QR.out.to HB.out).f1
  go_upto_region 2 with fail
  obtain ⟨W1, hW1⟩ : ∃ W : World, W = (w1.alloc (.cells #[.bool (decide (q < 0)), .slice A3 (ln q.natAbs) c3] 38)).alloc (.cells #[.bool (decide (r < 0)), .slice A4 (ln r.natAbs) c4] 38) := ⟨_, rfl⟩
  rw [← hW1]
  obtain ⟨hX, hY, hbw⟩ := boxes2 hW1
  replace HN3 := Hd.mk (HN3.out.to hbw)
  have HB' : Hd (Below W0.heap.size W0 _) := ⟨bel_then (by repeat (first | exact HB.out | exact Below.refl _ _ | refine below_alloc ?_ _ | refine below_drewN ?_ _ | refine below_drew ?_ | refine below_set ?_ (by first | exact Nat.le_refl _ | omega | (simp; done) | (simp; omega)) _)) hbw⟩; clear HB; have HB := HB'; clear HB' hbw; replace q0 := (Q0.out.to HB.out).c0; replace q1 := (Q0.out.to HB.out).c1; replace q2 := (Q1.out.to HB.out).c0; replace q3 := (Q1.out.to HB.out).c1; replace g0 := (QR.out.to HB.out).c0; replace g1 := (QR.out.to HB.out).c1; replace u0 := (QR.out.to HB.out).f0; replace u1 := (QR.out.to HB.out).f1
  have x0 := hX.c0
  have x1 := hX.c1
  clear hW1 hX hY
  go_wp2_with fail
  obtain ⟨k0, k1, k2⟩ := two_set g0 g1 (.bool (decide (q < 0))) (.slice A3 (ln q.natAbs) c3)
  refine bodyPost_ret (v := .agg #[.bool (decide (q < 0)), .slice A3 (ln q.natAbs) c3]) (by simp [results, Try.results97, go_sem, k0, k1]) rfl ?_
  exact ⟨A3, c3, rfl, (HN3.out.set_ g0 (by intro t; simp) _).set_ k2 (by intro t; simp) _, (by repeat (first | exact bel_then HW.out HB.out | refine below_set ?_ (by first | exact Nat.le_refl _ | omega | (simp; done) | (simp; omega)) _ | refine below_alloc ?_ _ | refine below_drewN ?_ _ | refine below_drew ?_))⟩
theorem raw_ok_num (z : Int) (A : Option Addr) (c : Nat) (hl : ln z.natAbs ≤ 256) : Raw.ok ⟨decide (z < 0), A, c, dig z.natAbs⟩ = true := by
  unfold Raw.ok
  simp only [Bool.and_eq_true, decide_eq_true_eq, Bool.not_eq_true', Bool.and_eq_false_iff, decide_eq_false_iff_not]
  refine ⟨⟨hl, ?_⟩, ?_⟩
  · by_cases h0 : (dig z.natAbs).length = 0
    · right
      have := ln_eq_zero.1 h0
      omega
    · exact .inl h0
  · by_cases h0 : 0 < (dig z.natAbs).length
    · right
      exact dig_last z.natAbs _ (by omega)
    · exact .inl h0
set_option maxHeartbeats 1000000 in
set_option maxRecDepth 100000 in
theorem rGcd_num (p q : Int) (A1 : Option Addr) (c1 : Nat) (A2 : Option Addr) (c2 : Nat) (w : World) (h1 : NN w A1 c1 p.natAbs) (h2 : NN w A2 c2 q.natAbs) (l1 : ln p.natAbs ≤ 256) (l2 : ln q.natAbs ≤ 256) :
    Calls Try.prog 48 #[.agg #[.bool (decide (p < 0)), .slice A1 (ln p.natAbs) c1], .agg #[.bool (decide (q < 0)), .slice A2 (ln q.natAbs) c2]] w (RetZE (zgcd p q) 0 w) := by
  have HV1 := Hd.mk (fun W (hW : Below w.heap.size w W) => rvalid_num p A1 c1 W (h1.to hW) l1)
  have HV2 := Hd.mk (fun W (hW : Below w.heap.size w W) => rvalid_num q A2 c2 W (h2.to hW) l2)
  have H1 := Hd.mk h1
  have H2 := Hd.mk h2
  clear h1 h2
  go_enter Try.func48, Try.ntmps48
  go_wp2_with fail
  obtain ⟨W0, hW0⟩ : ∃ W : World, W = ((w.alloc (.cells #[.bool (decide (p < 0)), .slice A1 (ln p.natAbs) c1] 24)).alloc (.cells #[.bool (decide (q < 0)), .slice A2 (ln q.natAbs) c2] 24)).alloc (.cells #[.bool false, .slice none 0 0] 24) := ⟨_, rfl⟩
  rw [← hW0]
  have HSZ : Hd (w.heap.size + 1 + 1 + 1 = W0.heap.size) := ⟨by rw [hW0]; simp⟩
  obtain ⟨hB0, hB1, hB2, hBW⟩ := boxes3 hW0
  have q0 := hB0.c0
  have q1 := hB0.c1
  have q2 := hB1.c0
  have q3 := hB1.c1
  have g0 := hB2.c0
  have g1 := hB2.c1
  have u0 := hB2.f0
  have u1 := hB2.f1
  have Q0 := Hd.mk hB0
  have Q1 := Hd.mk hB1
  have QR := Hd.mk hB2
  have HW := Hd.mk hBW
  have HB : Hd (Below W0.heap.size W0 W0) := ⟨Below.refl _ _⟩
  clear hB0 hB1 hB2 hBW hW0
  refine (HV1.out _ HW.out).mono ?_
  rintro e w1 ⟨rfl, hb1⟩
  have HB' : Hd (Below W0.heap.size W0 _) := ⟨bel_then (by repeat (first | exact HB.out | exact Below.refl _ _ | refine below_alloc ?_ _ | refine below_drewN ?_ _ | refine below_drew ?_ | refine below_set ?_ (by first | exact Nat.le_refl _ | omega | (simp; done) | (simp; omega)) _)) hb1⟩; clear HB; have HB := HB'; clear HB' hb1; replace q0 := (Q0.out.to HB.out).c0; replace q1 := (Q0.out.to HB.out).c1; replace q2 := (Q1.out.to HB.out).c0; replace q3 := (Q1.out.to HB.out).c1; replace g0 := (QR.out.to HB.out).c0; replace g1 := (QR.out.to HB.out).c1; replace u0 := (QR.out.to HB.out).f0; replace u1 := (QR.out.to HB.out).f1
  go_wp2_with fail
  refine (HV2.out _ (bel_then HW.out HB.out)).mono ?_
  rintro e w2 ⟨rfl, hb2⟩
  have HB' : Hd (Below W0.heap.size W0 _) := ⟨bel_then (by repeat (first | exact HB.out | exact Below.refl _ _ | refine below_alloc ?_ _ | refine below_drewN ?_ _ | refine below_drew ?_ | refine below_set ?_ (by first | exact Nat.le_refl _ | omega | (simp; done) | (simp; omega)) _)) hb2⟩; clear HB; have HB := HB'; clear HB' hb2; replace q0 := (Q0.out.to HB.out).c0; replace q1 := (Q0.out.to HB.out).c1; replace q2 := (Q1.out.to HB.out).c0; replace q3 := (Q1.out.to HB.out).c1; replace g0 := (QR.out.to HB.out).c0; replace g1 := (QR.out.to HB.out).c1; replace u0 := (QR.out.to HB.out).f0; replace u1 := (QR.out.to HB.out).f1
  go_wp2_with fail
  have HZ1 : Hd (HZ w2 w.heap.size 24 p) := ⟨A1, c1, Q0.out.to HB.out, H1.out.to (bel_then HW.out HB.out)⟩
  have HZ2 : Hd (HZ w2 (w.heap.size + 1) 24 q) := ⟨A2, c2, Q1.out.to HB.out, H2.out.to (bel_then HW.out HB.out)⟩
  refine wp_region_vs 6 [15, 16, 17, 18, 19, 20] [] [] 24 [.bool false, .slice none 0 0] [isZ p, isZ p, isZ q, isZ q, isZ (zgcd p q), isZ (zgcd p q)] (by kernel_rfl) (by kernel_rfl) (by kernel_rfl) (by rfl) alloc_api (fun d v c a w h => by cases d <;> exact h) ?_ ?_
  · intro i hi hA a wx hb hs hd
    match i, hi, hA with
    | 0, _, _ => exact op_loadA rfl rfl (hs 2 rfl) (HZ1.out.to hb)
    | 1, _, _ => exact op_call1 rfl rfl Try.call32 (z1_same (fun A1 c1 => rOf_calls _ _ _ _ _) (hd 0 rfl))
    | 2, _, _ => exact op_loadA rfl rfl (hs 3 rfl) (HZ2.out.to hb)
    | 3, _, _ => exact op_call1 rfl rfl Try.call32 (z1_same (fun A1 c1 => rOf_calls _ _ _ _ _) (hd 2 rfl))
    | 4, _, _ => exact op_call2 rfl rfl Try.call96 (z2 (fun A1 c1 A2 c2 h1 h2 => rCommon_calls p q A1 c1 A2 c2 _ h1 h2 (by omega) (by omega)) (fun e w' h => h.got) (hd 1 rfl) (hd 3 rfl))
    | 5, _, _ => exact op_call1 rfl rfl Try.call23 (z1_same (fun A1 c1 => rInt_calls _ _ _ _ _) (hd 4 rfl))
    | i + 6, h, _ => omega
  · intro vs wx hb hv hal hne
    obtain ⟨A3, c3, e5, hn3⟩ : (isZ (zgcd p q)).p (vs 20) wx := hv 5 (by decide) rfl
    simp only [putAll, List.foldl_cons, List.foldl_nil, Act.put, List.setIfInBounds_toArray, List.set_cons_succ, List.set_cons_zero, List.drop_succ_cons, List.drop_zero, e5]
    generalize vs 15 = s15
    generalize vs 16 = s16
    generalize vs 17 = s17
    generalize vs 18 = s18
    generalize vs 19 = s19
    have HB' : Hd (Below W0.heap.size W0 wx) := ⟨bel_then HB.out hb⟩
    have HN3 := Hd.mk hn3
    clear hv hal hne e5 hb HB hn3 q0 q1 q2 q3 g0 g1 u0 u1
    have HB := HB'
    clear HB'
    have g0 := (QR.out.to HB.out).c0
    have g1 := (QR.out.to HB.out).c1
    have u0 := (QR.out.to HB.out).f0
    have u1 := (QR.out.to HB.out).f1
    obtain ⟨z, hz⟩ : ∃ z, z = zgcd p q := ⟨_, rfl⟩
    have HZE := Hd.mk hz
    rw [← hz] at HN3 ⊢
    clear hz
    go_wp2_with fail
    obtain ⟨k0, k1, k2⟩ := two_set g0 g1 (.bool (decide (z < 0))) (.slice A3 (ln z.natAbs) c3)
    refine bodyPost_ret (v := .tuple #[.agg #[.bool (decide (z < 0)), .slice A3 (ln z.natAbs) c3], .int .i64 0]) (by simp [results, Try.results48, go_sem, k0, k1]) rfl ?_
    have nsz := HSZ.out
    exact ⟨A3, c3, by rw [← HZE.out], by rw [← HZE.out]; exact (HN3.out.set_ g0 (by intro t; simp) _).set_ k2 (by intro t; simp) _, (by repeat (first | exact bel_then HW.out HB.out | refine below_set ?_ (by first | exact Nat.le_refl _ | omega | (simp; done) | (simp; omega)) _ | refine below_alloc ?_ _ | refine below_drewN ?_ _ | refine below_drew ?_))⟩
set_option maxHeartbeats 1000000 in
set_option maxRecDepth 100000 in
theorem rGcd_calls (x y : Raw) (w : World) (hx : x.at_ w) (hy : y.at_ w) :
    Calls Try.prog 48 #[x.v, y.v] w (RetZE (opz x y (zgcd x.val y.val)) (ope x y (zgcd x.val y.val)) w) := by
  unfold opz ope
  by_cases hok : (x.ok && y.ok) = true
  · obtain ⟨hxo, hyo⟩ := and_ok hok
    rw [if_pos hok, if_pos hok, (zgcd_fits hxo hyo hx.2.1 hy.2.1).1, (zgcd_fits hxo hyo hx.2.1 hy.2.1).2, (Raw.num hxo hx.2.1).1, (Raw.num hyo hy.2.1).1]
    exact rGcd_num x.val y.val x.A x.c y.A y.c w (Raw.nn hxo hx) (Raw.nn hyo hy) (Raw.ok_len hxo hx.2.1) (Raw.ok_len hyo hy.2.1)
  · rw [if_neg hok, if_neg hok]
    have HV1 := Hd.mk (fun W (hW : Below w.heap.size w W) => rvalid_calls x W (Raw.at_to hx hW))
    have HV2 := Hd.mk (fun W (hW : Below w.heap.size w W) => rvalid_calls y W (Raw.at_to hy hW))
    by_cases hxo : x.ok = true
    · have hyf : y.ok = false := by
        rw [hxo] at hok
        simpa using hok
      rw [hxo] at HV1
      rw [hyf] at HV2
      unfold Raw.v at HV1 HV2 ⊢
      clear hx hy hxo hyf hok
      obtain ⟨b1, A1, c1, xs⟩ := x
      obtain ⟨b2, A2, c2, ys⟩ := y
      simp only at HV1 HV2 ⊢
      obtain ⟨n1, hn1⟩ : ∃ n, n = xs.length := ⟨_, rfl⟩
      obtain ⟨n2, hn2⟩ : ∃ n, n = ys.length := ⟨_, rfl⟩
      rw [← hn1] at HV1 ⊢
      rw [← hn2] at HV2 ⊢
      clear hn1 hn2
      go_enter Try.func48, Try.ntmps48
      go_wp2_with fail
      obtain ⟨W0, hW0⟩ : ∃ W : World, W = ((w.alloc (.cells #[.bool b1, .slice A1 n1 c1] 24)).alloc (.cells #[.bool b2, .slice A2 n2 c2] 24)).alloc (.cells #[.bool false, .slice none 0 0] 24) := ⟨_, rfl⟩
      rw [← hW0]
      have HSZ : Hd (w.heap.size + 1 + 1 + 1 = W0.heap.size) := ⟨by rw [hW0]; simp⟩
      obtain ⟨hB0, hB1, hB2, hBW⟩ := boxes3 hW0
      have q0 := hB0.c0
      have q1 := hB0.c1
      have q2 := hB1.c0
      have q3 := hB1.c1
      have g0 := hB2.c0
      have g1 := hB2.c1
      have u0 := hB2.f0
      have u1 := hB2.f1
      have Q0 := Hd.mk hB0
      have Q1 := Hd.mk hB1
      have QR := Hd.mk hB2
      have HW := Hd.mk hBW
      have HB : Hd (Below W0.heap.size W0 W0) := ⟨Below.refl _ _⟩
      clear hB0 hB1 hB2 hBW hW0
      refine (HV1.out _ HW.out).mono ?_
      rintro e w1 ⟨rfl, hb1⟩
      have HB' : Hd (Below W0.heap.size W0 _) := ⟨bel_then (by repeat (first | exact HB.out | exact Below.refl _ _ | refine below_alloc ?_ _ | refine below_drewN ?_ _ | refine below_drew ?_ | refine below_set ?_ (by first | exact Nat.le_refl _ | omega | (simp; done) | (simp; omega)) _)) hb1⟩; clear HB; have HB := HB'; clear HB' hb1; replace q0 := (Q0.out.to HB.out).c0; replace q1 := (Q0.out.to HB.out).c1; replace q2 := (Q1.out.to HB.out).c0; replace q3 := (Q1.out.to HB.out).c1; replace g0 := (QR.out.to HB.out).c0; replace g1 := (QR.out.to HB.out).c1; replace u0 := (QR.out.to HB.out).f0; replace u1 := (QR.out.to HB.out).f1
      go_wp2_with fail
      refine (HV2.out _ (bel_then HW.out (by repeat (first | exact HB.out | exact Below.refl _ _ | refine below_alloc ?_ _ | refine below_drewN ?_ _ | refine below_drew ?_ | refine below_set ?_ (by first | exact Nat.le_refl _ | omega | (simp; done) | (simp; omega)) _)))).mono ?_
      rintro e w2 ⟨rfl, hb2⟩
      have HB' : Hd (Below W0.heap.size W0 _) := ⟨bel_then (by repeat (first | exact HB.out | exact Below.refl _ _ | refine below_alloc ?_ _ | refine below_drewN ?_ _ | refine below_drew ?_ | refine below_set ?_ (by first | exact Nat.le_refl _ | omega | (simp; done) | (simp; omega)) _)) hb2⟩; clear HB; have HB := HB'; clear HB' hb2; replace q0 := (Q0.out.to HB.out).c0; replace q1 := (Q0.out.to HB.out).c1; replace q2 := (Q1.out.to HB.out).c0; replace q3 := (Q1.out.to HB.out).c1; replace g0 := (QR.out.to HB.out).c0; replace g1 := (QR.out.to HB.out).c1; replace u0 := (QR.out.to HB.out).f0; replace u1 := (QR.out.to HB.out).f1
      go_wp2_with fail
      obtain ⟨k0, k1, k2⟩ := two_set g0 g1 (.bool false) (.slice none 0 0)
      refine bodyPost_ret (v := .tuple #[.agg #[.bool false, .slice none 0 0], .int .i64 2]) (by simp [results, Try.results48, go_sem, k0, k1]) rfl ?_
      exact ⟨none, 0, by rw [show ln (Int.natAbs 0) = 0 from ln_zero]; rfl, NN.nil _ _ _ (by omega), (by repeat (first | exact bel_then HW.out HB.out | refine below_set ?_ (by first | exact Nat.le_refl _ | omega | (simp; done) | (simp; omega)) _ | refine below_alloc ?_ _ | refine below_drewN ?_ _ | refine below_drew ?_))⟩
    · have hxf : x.ok = false := by simpa using hxo
      rw [hxf] at HV1
      unfold Raw.v at HV1 HV2 ⊢
      clear hx hy hxo hxf hok
      obtain ⟨b1, A1, c1, xs⟩ := x
      obtain ⟨b2, A2, c2, ys⟩ := y
      simp only at HV1 HV2 ⊢
      obtain ⟨n1, hn1⟩ : ∃ n, n = xs.length := ⟨_, rfl⟩
      obtain ⟨n2, hn2⟩ : ∃ n, n = ys.length := ⟨_, rfl⟩
      rw [← hn1] at HV1 ⊢
      rw [← hn2] at HV2 ⊢
      clear hn1 hn2
      go_enter Try.func48, Try.ntmps48
      go_wp2_with fail
      obtain ⟨W0, hW0⟩ : ∃ W : World, W = ((w.alloc (.cells #[.bool b1, .slice A1 n1 c1] 24)).alloc (.cells #[.bool b2, .slice A2 n2 c2] 24)).alloc (.cells #[.bool false, .slice none 0 0] 24) := ⟨_, rfl⟩
      rw [← hW0]
      have HSZ : Hd (w.heap.size + 1 + 1 + 1 = W0.heap.size) := ⟨by rw [hW0]; simp⟩
      obtain ⟨hB0, hB1, hB2, hBW⟩ := boxes3 hW0
      have q0 := hB0.c0
      have q1 := hB0.c1
      have q2 := hB1.c0
      have q3 := hB1.c1
      have g0 := hB2.c0
      have g1 := hB2.c1
      have u0 := hB2.f0
      have u1 := hB2.f1
      have Q0 := Hd.mk hB0
      have Q1 := Hd.mk hB1
      have QR := Hd.mk hB2
      have HW := Hd.mk hBW
      have HB : Hd (Below W0.heap.size W0 W0) := ⟨Below.refl _ _⟩
      clear hB0 hB1 hB2 hBW hW0
      refine (HV1.out _ HW.out).mono ?_
      rintro e w1 ⟨rfl, hb1⟩
      have HB' : Hd (Below W0.heap.size W0 _) := ⟨bel_then (by repeat (first | exact HB.out | exact Below.refl _ _ | refine below_alloc ?_ _ | refine below_drewN ?_ _ | refine below_drew ?_ | refine below_set ?_ (by first | exact Nat.le_refl _ | omega | (simp; done) | (simp; omega)) _)) hb1⟩; clear HB; have HB := HB'; clear HB' hb1; replace q0 := (Q0.out.to HB.out).c0; replace q1 := (Q0.out.to HB.out).c1; replace q2 := (Q1.out.to HB.out).c0; replace q3 := (Q1.out.to HB.out).c1; replace g0 := (QR.out.to HB.out).c0; replace g1 := (QR.out.to HB.out).c1; replace u0 := (QR.out.to HB.out).f0; replace u1 := (QR.out.to HB.out).f1
      go_wp2_with fail
      obtain ⟨k0, k1, k2⟩ := two_set g0 g1 (.bool false) (.slice none 0 0)
      refine bodyPost_ret (v := .tuple #[.agg #[.bool false, .slice none 0 0], .int .i64 2]) (by simp [results, Try.results48, go_sem, k0, k1]) rfl ?_
      exact ⟨none, 0, by rw [show ln (Int.natAbs 0) = 0 from ln_zero]; rfl, NN.nil _ _ _ (by omega), (by repeat (first | exact bel_then HW.out HB.out | refine below_set ?_ (by first | exact Nat.le_refl _ | omega | (simp; done) | (simp; omega)) _ | refine below_alloc ?_ _ | refine below_drewN ?_ _ | refine below_drew ?_))⟩
end Go.Proofs.Ytcjcpfafalkceaa

/- The reference's inverse. -/
set_option linter.unusedVariables false
set_option linter.unusedSimpArgs false
namespace Go.Proofs.Ytcjcpfafalkceaa
open Go.RowKit
/-- What inverse leaves. -/
def RetInv (a m : Int) (w : World) (e : Ending) (w' : World) : Prop := ∃ (z : Int) (A : Option Addr) (c : Nat), e = .returned (.agg #[.bool (decide (z < 0)), .slice A (ln z.natAbs) c]) ∧ NN w' A c z.natAbs ∧ Below w.heap.size w w' ∧ ∃ a' x y, EV (a % m) m a' 0 x y ∧ z = x % m
theorem ln_abs_le {x m : Int} (h : x.natAbs ≤ m.natAbs) {k : Nat} (hm : ln m.natAbs ≤ k) : ln x.natAbs ≤ k := Nat.le_trans (ln_mono h) hm
theorem whole_zero (w : World) : Calls Try.prog 24 #[.int .i64 0] w (Got w (isZ 0).p) := (Whole_calls 0 w (by omega) (by omega)).mono fun e w' h => h.got
set_option maxHeartbeats 2000000 in
set_option maxRecDepth 100000 in
theorem rinverse_calls (a m : Int) (A1 : Option Addr) (c1 : Nat) (A2 : Option Addr) (c2 : Nat) (w : World) (h1 : NN w A1 c1 a.natAbs) (h2 : NN w A2 c2 m.natAbs) (hm : 0 < m) (l1 : ln a.natAbs ≤ 1000) (l2 : ln m.natAbs ≤ 1000) :
    Calls Try.prog 98 #[.agg #[.bool (decide (a < 0)), .slice A1 (ln a.natAbs) c1], .agg #[.bool (decide (m < 0)), .slice A2 (ln m.natAbs) c2]] w (RetInv a m w) := by
  have HO := Hd.mk (fun W (hW : Below w.heap.size w W) => rOver_calls a m A1 c1 A2 c2 W (h1.to hW) (h2.to hW) (by omega) (by omega) (by omega))
  have H2 := Hd.mk h2
  have HM := Hd.mk hm
  clear h1 h2 hm
  obtain ⟨b1, hb1⟩ : ∃ b, b = decide (a < 0) := ⟨_, rfl⟩
  obtain ⟨b2, hb2⟩ : ∃ b, b = decide (m < 0) := ⟨_, rfl⟩
  have HB2' := Hd.mk hb2
  rw [← hb1, ← hb2] at HO ⊢
  obtain ⟨n1, hn1⟩ : ∃ n, n = ln a.natAbs := ⟨_, rfl⟩
  rw [← hn1] at HO ⊢
  obtain ⟨a0, ha0⟩ : ∃ r, r = a % m := ⟨_, rfl⟩
  have HA0 := Hd.mk ha0
  rw [← ha0] at HO
  have HSTART : Hd (EV a0 m a0 m 1 0) := ⟨by rw [ha0]; exact EV.start HM.out (Int.emod_nonneg _ (by have := HM.out; omega)) (Int.emod_lt_of_pos _ HM.out)⟩
  clear hb1 hb2 hn1 ha0 l1
  go_enter Try.func98, Try.ntmps98
  go_wp2_with fail
  obtain ⟨W0, hW0⟩ : ∃ W : World, W = ((w.alloc (.cells #[.bool b1, .slice A1 n1 c1] 38)).alloc (.cells #[.bool b2, .slice A2 (ln m.natAbs) c2] 38)).alloc (.cells #[.bool false, .slice none 0 0] 38) := ⟨_, rfl⟩
  rw [← hW0]
  have HSZ : Hd (w.heap.size + 1 + 1 + 1 = W0.heap.size) := ⟨by rw [hW0]; simp⟩
  obtain ⟨hB0, hB1, hB2, hBW⟩ := boxes3 hW0
  have q0 := hB0.c0
  have q1 := hB0.c1
  have q2 := hB1.c0
  have q3 := hB1.c1
  have g0 := hB2.c0
  have g1 := hB2.c1
  have u0 := hB2.f0
  have u1 := hB2.f1
  have Q0 := Hd.mk hB0
  have Q1 := Hd.mk hB1
  have QR := Hd.mk hB2
  have HW := Hd.mk hBW
  have HB : Hd (Below W0.heap.size W0 W0) := ⟨Below.refl _ _⟩
  clear hB0 hB1 hB2 hBW hW0
  refine (HO.out _ HW.out).mono ?_
  rintro e w1 ⟨A3, c3, A4, c4, rfl, hn3, hn4, hb1⟩
  have HN4 := Hd.mk hn4
  clear hn3 hn4
  have HB' : Hd (Below W0.heap.size W0 _) := ⟨bel_then (by repeat (first | exact HB.out | exact Below.refl _ _ | refine below_alloc ?_ _ | refine below_drewN ?_ _ | refine below_drew ?_ | refine below_set ?_ (by first | exact Nat.le_refl _ | omega | (simp; done) | (simp; omega)) _)) hb1⟩; clear HB; have HB := HB'; clear HB' hb1; replace q0 := (Q0.out.to HB.out).c0; replace q1 := (Q0.out.to HB.out).c1; replace q2 := (Q1.out.to HB.out).c0; replace q3 := (Q1.out.to HB.out).c1; replace g0 := (QR.out.to HB.out).c0; replace g1 := (QR.out.to HB.out).c1; replace u0 := (QR.out.to HB.out).f0; replace u1 := (QR.out.to HB.out).f1
  have f2 := (Q0.out.to HB.out).f0
  have f3 := (Q0.out.to HB.out).f1
  go_upto_region 2 with fail
  obtain ⟨W1, hW1⟩ : ∃ W, W = put2 w1 w.heap.size (.bool (decide (a0 < 0))) (.slice A4 (ln a0.natAbs) c4) := ⟨_, rfl⟩
  have J0 : Hd (HZ W1 w.heap.size 38 a0) := ⟨by rw [hW1]; exact HZ.set ⟨_, _, _, _, Q0.out.to HB.out⟩ HN4.out⟩
  have J1 : Hd (HZ W1 (w.heap.size + 1) 38 m) := ⟨by
    have hq : HZ w1 (w.heap.size + 1) 38 m := ⟨A2, c2, by
      have := Q1.out.to HB.out
      rw [HB2'.out] at this
      exact this, H2.out.to (bel_then HW.out HB.out)⟩
    rw [hW1]
    exact hq.put ⟨_, _, _, _, Q0.out.to HB.out⟩ (by omega) _ _⟩
  have J2 : Hd (HB2 W1 (w.heap.size + 1 + 1) 38) := ⟨by rw [hW1]; exact HB2.put ⟨_, _, _, _, QR.out.to HB.out⟩ (by omega) _ _⟩
  have HBW : Hd (Below w.heap.size w W1) := ⟨by rw [hW1]; exact below_put (bel_then HW.out HB.out) (Nat.le_refl _) _ _⟩
  unfold put2 at hW1
  rw [← hW1]
  clear hW1 HN4 HB q0 q1 q2 q3 g0 g1 u0 u1 f2 f3 Q0 Q1 QR HW HO
  clear HSZ W0
  go_wp2_with fail
  refine (whole_one _).mono ?_
  rintro e w2 ⟨v2, rfl, hb2, A5, c5, rfl, hn5⟩
  go_wp2_with fail
  refine (whole_zero _).mono ?_
  rintro e w3 ⟨v3, rfl, hb3, A6, c6, rfl, hn6⟩
  go_upto_region 3 with fail
  obtain ⟨W3, hW3⟩ : ∃ W : World, W = (w3.alloc (.cells #[.bool false, .slice A5 (ln 1) c5] 38)).alloc (.cells #[.bool false, .slice A6 (ln 0) c6] 38) := ⟨_, rfl⟩
  rw [← hW3]
  obtain ⟨hX, hY, hbw⟩ := boxes2 hW3
  have hb13 : Below W1.heap.size W1 W3 := bel_then hb2 (bel_then hb3 hbw)
  have K0 : Hd (HZ W3 w.heap.size 38 a0) := ⟨J0.out.to hb13⟩
  have K1 : Hd (HZ W3 (w.heap.size + 1) 38 m) := ⟨J1.out.to hb13⟩
  have K2 : Hd (HB2 W3 (w.heap.size + 1 + 1) 38) := ⟨J2.out.to hb13⟩
  have K5 : Hd (HZ W3 w3.heap.size 38 1) := ⟨A5, c5, hX, (NN.to hn5 hb3).to hbw⟩
  have K6 : Hd (HZ W3 (w3.heap.size + 1) 38 0) := ⟨A6, c6, hY, NN.to hn6 hbw⟩
  have HB3 : Hd (Below w.heap.size w W3) := ⟨bel_then HBW.out hb13⟩
  have HS3 : Hd (w.heap.size + 1 + 1 < w3.heap.size) := ⟨(J2.out.to (bel_then hb2 hb3)).lt⟩
  obtain ⟨g5, hg5⟩ : ∃ g, g = w3.heap.size := ⟨_, rfl⟩
  rw [← hg5] at K5 K6 HS3 ⊢
  clear hW3 hX hY hbw hb13 hb2 hb3 hn5 hn6 J0 J1 J2 HBW hg5
  obtain ⟨Am, cm, hBm, hnm⟩ := K1.out
  have m0 := hBm.c0; have m1 := hBm.c1
  go_upto_region 4 with fail
  obtain ⟨W4, hW4⟩ : ∃ W : World, W = W3.alloc (.cells #[.bool (decide (m < 0)), .slice Am (ln m.natAbs) cm] 38) := ⟨_, rfl⟩
  rw [← hW4]
  obtain ⟨hX, hbw⟩ := boxes1 hW4
  have L0 : Hd (HZ W4 w.heap.size 38 a0) := ⟨K0.out.to hbw⟩
  have L1 : Hd (HZ W4 (w.heap.size + 1) 38 m) := ⟨K1.out.to hbw⟩
  have L2 : Hd (HB2 W4 (w.heap.size + 1 + 1) 38) := ⟨K2.out.to hbw⟩
  have L5 : Hd (HZ W4 g5 38 1) := ⟨K5.out.to hbw⟩
  have L6 : Hd (HZ W4 (g5 + 1) 38 0) := ⟨K6.out.to hbw⟩
  have L7 : Hd (HZ W4 W3.heap.size 38 m) := ⟨Am, cm, hX, NN.to hnm hbw⟩
  have HB4 : Hd (Below w.heap.size w W4) := ⟨bel_then HB3.out hbw⟩
  have HS7 : Hd (g5 + 1 < W3.heap.size) := ⟨K6.out.lt⟩
  obtain ⟨g7, hg7⟩ : ∃ g, g = W3.heap.size := ⟨_, rfl⟩
  rw [← hg7] at L7 HS7 ⊢
  clear hW4 hX hbw hBm hnm m0 m1 K0 K1 K2 K5 K6 HB3 hg7
  go_loopg [] m.natAbs (fun g wr => ∃ a b x y : Int, HZ wr w.heap.size 38 a ∧ HZ wr (w.heap.size + 1) 38 m ∧ HB2 wr (w.heap.size + 1 + 1) 38 ∧ HZ wr g5 38 x ∧ HZ wr (g5 + 1) 38 y ∧ HZ wr g7 38 b ∧ EV a0 m a b x y ∧ b.natAbs ≤ g ∧ Below w.heap.size w wr)
  case atStart => exact ⟨a0, m, 1, 0, L0.out, L1.out, L2.out, L5.out, L6.out, L7.out, HSTART.out, Nat.le_refl _, HB4.out⟩
  case round =>
    obtain ⟨a1, b, x, y, ha, hm1, hr, hx, hy, hb, hev, hbg, hbel⟩ := hrel
    have M0 := Hd.mk ha
    have M1 := Hd.mk hm1
    have M2 := Hd.mk hr
    have M5 := Hd.mk hx
    have M6 := Hd.mk hy
    have M7 := Hd.mk hb
    have HEV := Hd.mk hev
    have HBG := Hd.mk hbg
    have HBR := Hd.mk hbel
    have hla : ln a1.natAbs ≤ 1000 := ln_abs_le (by have := hev.na; have := hev.la; omega) l2
    have hlb : ln b.natAbs ≤ 1000 := ln_abs_le (by have := hev.nb; have := hev.lb; omega) l2
    have hlx : ln x.natAbs ≤ 1000 := ln_abs_le hev.bx l2
    have hly : ln y.natAbs ≤ 1000 := ln_abs_le hev.by_ l2
    clear ha hm1 hr hx hy hb hev hbg hbel L0 L1 L2 L5 L6 L7 HB4
    obtain ⟨Ab, cb, hBb, hnb⟩ := M7.out
    have b0 := hBb.c0; have b1' := hBb.c1
    have HNb := Hd.mk hnb
    have HBb := Hd.mk hBb
    clear hnb hBb
    go_wp2_with fail
    refine (rZero_calls _ _ _ _ _ (by omega)).mono ?_
    rintro e w5 ⟨rfl, hb5⟩
    by_cases hb0 : b = 0
    · have hd0 : decide (ln b.natAbs = 0) = true := decide_eq_true (by rw [hb0]; exact ln_zero)
      rw [hd0]
      have HEV0 : Hd (EV a0 m a1 0 x y) := ⟨by rw [← hb0]; exact HEV.out⟩
      have N1 := Hd.mk (M1.out.to hb5)
      have N2 := Hd.mk (M2.out.to hb5)
      have N5 := Hd.mk (M5.out.to hb5)
      have HB5 : Hd (Below w.heap.size w w5) := ⟨bel_then HBR.out hb5⟩
      clear hd0 b0 b1' HNb HBb M0 M1 M2 M5 M6 M7 hb5 hb0 HEV HBG HBR hlb hla hly
      obtain ⟨Ax, cx, hBx, hnx⟩ := N5.out
      have x0 := hBx.c0; have x1 := hBx.c1
      obtain ⟨Am, cm, hBm, hnm⟩ := N1.out
      have m0 := hBm.c0; have m1 := hBm.c1
      have HO2 := Hd.mk (rOver_calls x m Ax cx Am cm w5 hnx hnm (by have := HM.out; omega) (by omega) (by omega))
      clear hBx hBm hnx hnm
      go_wp2_with fail
      refine HO2.out.mono ?_
      rintro e w6 ⟨A7, c7, A8, c8, rfl, hn7, hn8, hb6⟩
      have P2 := Hd.mk (N2.out.to hb6)
      have P5 := Hd.mk (N5.out.to hb6).any
      have HB6 : Hd (Below w.heap.size w w6) := ⟨bel_then HB5.out hb6⟩
      have HN8 := Hd.mk hn8
      obtain ⟨z, hz⟩ : ∃ z, z = x % m := ⟨_, rfl⟩
      have HZE := Hd.mk hz
      rw [← hz] at HN8 ⊢
      clear x0 x1 m0 m1 hn7 hn8 hb6 hz N1 N2 N5 HB5
      obtain ⟨f1, f2, f3, f4, hf⟩ := P5.out
      have x0 := hf.c0; have x1 := hf.c1
      have x2 := hf.f0; have x3 := hf.f1
      clear hf
      go_upto_region 9 with fail
      obtain ⟨W9, hW9⟩ : ∃ W, W = put2 w6 g5 (.bool (decide (z < 0))) (.slice A8 (ln z.natAbs) c8) := ⟨_, rfl⟩
      have R5 : Hd (HZ W9 g5 38 z) := ⟨by rw [hW9]; exact HZ.set P5.out HN8.out⟩
      have RN : Hd (NN W9 A8 c8 z.natAbs) := ⟨by rw [hW9]; exact HN8.out.put P5.out _ _⟩
      have RB : Hd (Blk W9 g5 38 [.bool (decide (z < 0)), .slice A8 (ln z.natAbs) c8]) := ⟨by rw [hW9]; obtain ⟨_, _, _, _, h⟩ := P5.out; exact blk_put2 h⟩
      have R2 : Hd (HB2 W9 (w.heap.size + 1 + 1) 38) := ⟨by rw [hW9]; exact P2.out.put (by have := HS3.out; omega) _ _⟩
      have HB : Hd (Below w.heap.size w W9) := ⟨by rw [hW9]; exact below_put HB6.out (by have := HS3.out; omega) _ _⟩
      unfold put2 at hW9
      rw [← hW9]
      clear hW9 x0 x1 x2 x3 P2 P5 HN8 HB6
      obtain ⟨f1, f2, f3, f4, hf⟩ := R2.out
      have g0 := hf.c0
      have g1 := hf.c1
      have u0 := hf.f0
      have u1 := hf.f1
      have x0 := RB.out.c0
      have x1 := RB.out.c1
      clear hf
      go_wp2_with fail
      obtain ⟨k0, k1, k2⟩ := two_set g0 g1 (.bool (decide (z < 0))) (.slice A8 (ln z.natAbs) c8)
      refine bodyPost_ret (v := .agg #[.bool (decide (z < 0)), .slice A8 (ln z.natAbs) c8]) (by simp [results, Try.results98, go_sem, k0, k1]) rfl ?_
      exact ⟨z, A8, c8, rfl, (RN.out.set_ g0 (by intro t; simp) _).set_ k2 (by intro t; simp) _, below_set (below_set HB.out (by omega) _) (by omega) _, a1, x, y, by rw [← HA0.out]; exact HEV0.out, HZE.out⟩
    · have hd0 : decide (ln b.natAbs = 0) = false := decide_eq_false (fun h => hb0 (by have := ln_eq_zero.1 h; omega))
      rw [hd0]
      have N0 := Hd.mk (M0.out.to hb5)
      have N1 := Hd.mk (M1.out.to hb5)
      have N2 := Hd.mk (M2.out.to hb5)
      have N5 := Hd.mk (M5.out.to hb5)
      have N6 := Hd.mk (M6.out.to hb5)
      have N7 := Hd.mk (M7.out.to hb5)
      have HB5 : Hd (Below w.heap.size w w5) := ⟨bel_then HBR.out hb5⟩
      have HBB := Hd.mk hb0
      have HNX := Hd.mk (HEV.out.step hb0)
      have HLT : Hd ((a1 % b).natAbs < b.natAbs) := ⟨by have h1 := Int.emod_nonneg a1 hb0; have h2 := Int.emod_lt a1 hb0; omega⟩
      clear hd0 b0 b1' HNb HBb M0 M1 M2 M5 M6 M7 hb5 hb0 HBR
      obtain ⟨Aa, ca, hBa, hna⟩ := N0.out
      have p0 := hBa.c0; have p1 := hBa.c1
      obtain ⟨Ab, cb, hBb, hnb⟩ := N7.out
      have b0 := hBb.c0; have b1' := hBb.c1
      have HO2 := Hd.mk (rOver_calls a1 b Aa ca Ab cb w5 hna hnb HBB.out (by omega) (by omega))
      clear hBa hBb hna hnb
      go_wp2_with fail
      refine HO2.out.mono ?_
      rintro e w6 ⟨A7, c7, A8, c8, rfl, hn7, hn8, hb6⟩
      obtain ⟨q, hq⟩ : ∃ q, q = a1 / b := ⟨_, rfl⟩
      obtain ⟨r, hr⟩ : ∃ r, r = a1 % b := ⟨_, rfl⟩
      have hlq : ln q.natAbs ≤ 1000 := by rw [hq]; exact Nat.le_trans (ln_mono (Int.natAbs_ediv_le_natAbs _ _)) hla
      rw [← hq] at hn7 HNX ⊢
      rw [← hr] at hn8 HNX HLT ⊢
      clear hq hr p0 p1 b0 b1' HO2
      go_upto_region 6 with fail
      obtain ⟨W6, hW6⟩ : ∃ W : World, W = (w6.alloc (.cells #[.bool (decide (q < 0)), .slice A7 (ln q.natAbs) c7] 38)).alloc (.cells #[.bool (decide (r < 0)), .slice A8 (ln r.natAbs) c8] 38) := ⟨_, rfl⟩
      rw [← hW6]
      obtain ⟨hX, hY, hbw⟩ := boxes2 hW6
      have hb7 : Below w5.heap.size w5 W6 := bel_then hb6 hbw
      have P0 := Hd.mk (N0.out.to hb7)
      have P1 := Hd.mk (N1.out.to hb7)
      have P2 := Hd.mk (N2.out.to hb7)
      have P5 := Hd.mk (N5.out.to hb7)
      have P6 := Hd.mk (N6.out.to hb7)
      have P7 := Hd.mk (N7.out.to hb7)
      have P8 : Hd (HZ W6 w6.heap.size 38 q) := ⟨A7, c7, hX, NN.to hn7 hbw⟩
      have P9 : Hd (Blk W6 (w6.heap.size + 1) 38 [.bool (decide (r < 0)), .slice A8 (ln r.natAbs) c8]) := ⟨hY⟩
      have PN : Hd (NN W6 A8 c8 r.natAbs) := ⟨NN.to hn8 hbw⟩
      have HB6 : Hd (Below w.heap.size w W6) := ⟨bel_then HB5.out hb7⟩
      have HS8 : Hd (g7 < w6.heap.size) := ⟨(N7.out.to hb6).lt⟩
      obtain ⟨g8, hg8⟩ : ∃ g, g = w6.heap.size := ⟨_, rfl⟩
      rw [← hg8] at P8 P9 HS8 ⊢
      clear hW6 hX hY hbw hb7 hb6 hn7 hn8 hg8 N0 N1 N2 N5 N6 N7 HB5
      refine wp_region_vl 2 [28, 29] [] [1] [] 38 [.bool false, .slice none 0 0] [isZ b, isV (.agg #[.bool (decide (r < 0)), .slice A8 (ln r.natAbs) c8])] (fun _ => At2 (g8 + 1) (.bool (decide (r < 0))) (.slice A8 (ln r.natAbs) c8)) (by kernel_rfl) (by kernel_rfl) (by kernel_rfl) (by rfl) (by kernel_rfl) ?_ alloc_Z (fun d v c a w h => by cases d <;> exact h) ?_ ?_
      · exact fun i _ wx hb => (P9.out.to hb).at2
      · intro i hi hA a wx hb hs hd
        match i, hi, hA with
        | 0, _, _ => exact op_loadR rfl rfl (hs 7 rfl) (P7.out.to hb)
        | 1, _, _ => exact ⟨_, op_loadY rfl (hs 9 rfl) (fun w hw => load_Z hw.1 hw.2), rfl⟩
        | i + 2, h, _ => omega
      · intro vs wx hb hv hal hne
        obtain ⟨Ab, cb, e0, hnb⟩ : (isZ b).p (vs 28) wx := hv 0 (by decide) rfl
        have e1 : vs 29 = .agg #[.bool (decide (r < 0)), .slice A8 (ln r.natAbs) c8] := hv 1 (by decide) rfl
        simp only [putAll, List.foldl_cons, List.foldl_nil, Act.put, List.setIfInBounds_toArray, List.set_cons_succ, List.set_cons_zero, List.drop_succ_cons, List.drop_zero, e0, e1]
        have Q0 := P0.out.to hb
        have Q1 := P1.out.to hb
        have Q2 := P2.out.to hb
        have Q5 := P5.out.to hb
        have Q6 := P6.out.to hb
        have Q7 := P7.out.to hb
        have Q8 := P8.out.to hb
        have Q9 := P9.out.to hb
        have QN := PN.out.to hb
        have QB := bel_then HB6.out hb
        have s3 := HS3.out
        have s7 := HS7.out
        have s8 := HS8.out
        clear hv hal hne e0 e1 hb P0 P1 P2 P5 P6 P7 P8 P9 PN HB6
        obtain ⟨f1, f2, f3, f4, hf⟩ := Q0.any
        refine wpListS_store rfl rfl rfl rfl rfl (store_Z hf.c0 hf.c1 hf.f0 hf.f1 _ _ _ _) (SK_mk [1] (by kernel_rfl) (fun i _ _ => (Q9.put_ (by omega) _ _).at2)) (wpListS_done (by kernel_rfl) ?_)
        obtain ⟨WA, hWA⟩ : ∃ W, W = put2 wx w.heap.size (.bool (decide (b < 0))) (.slice Ab (ln b.natAbs) cb) := ⟨_, rfl⟩
        have R0 : HZ WA w.heap.size 38 b := by rw [hWA]; exact HZ.set Q0.any hnb
        have R1 : HZ WA (w.heap.size + 1) 38 m := by rw [hWA]; exact Q1.put Q0.any (by omega) _ _
        have R2 : HB2 WA (w.heap.size + 1 + 1) 38 := by rw [hWA]; exact Q2.put (by omega) _ _
        have R5 : HZ WA g5 38 x := by rw [hWA]; exact Q5.put Q0.any (by omega) _ _
        have R6 : HZ WA (g5 + 1) 38 y := by rw [hWA]; exact Q6.put Q0.any (by omega) _ _
        have R7 : HB2 WA g7 38 := by rw [hWA]; exact Q7.any.put (by omega) _ _
        have R8 : HZ WA g8 38 q := by rw [hWA]; exact Q8.put Q0.any (by omega) _ _
        have RN : NN WA A8 c8 r.natAbs := by rw [hWA]; exact QN.put Q0.any _ _
        have RB : Below w.heap.size w WA := by rw [hWA]; exact below_put QB (Nat.le_refl _) _ _
        unfold put2 at hWA
        rw [← hWA]
        clear hWA hf Q0 Q1 Q2 Q5 Q6 Q7 Q8 Q9 QN QB hnb
        obtain ⟨WB, hWB⟩ : ∃ W, W = put2 WA g7 (.bool (decide (r < 0))) (.slice A8 (ln r.natAbs) c8) := ⟨_, rfl⟩
        have S0 : Hd (HZ WB w.heap.size 38 b) := ⟨by rw [hWB]; exact R0.put R7 (by omega) _ _⟩
        have S1 : Hd (HZ WB (w.heap.size + 1) 38 m) := ⟨by rw [hWB]; exact R1.put R7 (by omega) _ _⟩
        have S2 : Hd (HB2 WB (w.heap.size + 1 + 1) 38) := ⟨by rw [hWB]; exact R2.put (by omega) _ _⟩
        have S5 : Hd (HZ WB g5 38 x) := ⟨by rw [hWB]; exact R5.put R7 (by omega) _ _⟩
        have S6 : Hd (HZ WB (g5 + 1) 38 y) := ⟨by rw [hWB]; exact R6.put R7 (by omega) _ _⟩
        have S7 : Hd (HZ WB g7 38 r) := ⟨by rw [hWB]; exact HZ.set R7 RN⟩
        have S8 : Hd (HZ WB g8 38 q) := ⟨by rw [hWB]; exact R8.put R7 (by omega) _ _⟩
        have SB : Hd (Below w.heap.size w WB) := ⟨by rw [hWB]; exact below_put RB (by omega) _ _⟩
        obtain ⟨f1, f2, f3, f4, hf⟩ := R7
        have x0 := hf.c0; have x1 := hf.c1
        have x2 := hf.f0; have x3 := hf.f1
        unfold put2 at hWB
        clear hf R0 R1 R2 R5 R6 R8 RN RB s3 s7 s8
        go_upto_region 7 with fail
        rw [← hWB]
        clear hWB x0 x1 x2 x3
        have hlqy : ln (q * y).natAbs ≤ 2000 := by rw [Int.natAbs_mul]; exact Nat.le_trans (ln_mul _ _) (by omega)
        refine wp_region_vs 6 [30, 31, 32, 33, 34, 35] [] [] 38 [.bool false, .slice none 0 0] [isZ y, isZ x, isZ q, isZ y, isZ (q * y), isZ (x - q * y)] (by kernel_rfl) (by kernel_rfl) (by kernel_rfl) (by rfl) alloc_Z (fun d v c a w h => by cases d <;> exact h) ?_ ?_
        · intro i hi hA a wy hb hs hd
          match i, hi, hA with
          | 0, _, _ => exact op_loadR rfl rfl (hs 6 rfl) (S6.out.to hb)
          | 1, _, _ => exact op_loadR rfl rfl (hs 5 rfl) (S5.out.to hb)
          | 2, _, _ => exact op_loadR rfl rfl (hs 8 rfl) (S8.out.to hb)
          | 3, _, _ => exact op_loadR rfl rfl (hs 6 rfl) (S6.out.to hb)
          | 4, _, _ => exact op_call2 rfl rfl Try.call31 (z2 (fun A1 c1 A2 c2 h1 h2 => rTimes_calls q y A1 c1 A2 c2 _ h1 h2 (by omega) (by omega)) (fun e w' h => h.got) (hd 2 rfl) (hd 3 rfl))
          | 5, _, _ => exact op_call2 rfl rfl Try.call76 (z2 (fun A1 c1 A2 c2 h1 h2 => rLess_calls x (q * y) A1 c1 A2 c2 _ h1 h2 (by omega) (by omega)) (fun e w' h => h.got) (hd 1 rfl) (hd 4 rfl))
          | i + 6, h, _ => omega
        · intro vs wy hb hv hal hne
          obtain ⟨Ay, cy, e0, hny⟩ : (isZ y).p (vs 30) wy := hv 0 (by decide) rfl
          obtain ⟨An, cn, e5, hnn⟩ : (isZ (x - q * y)).p (vs 35) wy := hv 5 (by decide) rfl
          simp only [putAll, List.foldl_cons, List.foldl_nil, Act.put, List.setIfInBounds_toArray, List.set_cons_succ, List.set_cons_zero, List.drop_succ_cons, List.drop_zero, e0, e5]
          generalize vs 31 = s31
          generalize vs 32 = s32
          generalize vs 33 = s33
          generalize vs 34 = s34
          have T0 := S0.out.to hb
          have T1 := S1.out.to hb
          have T2 := S2.out.to hb
          have T5 := (S5.out.to hb).any
          have T6 := (S6.out.to hb).any
          have T7 := S7.out.to hb
          have TB := bel_then SB.out hb
          have s3 := HS3.out
          have s7 := HS7.out
          clear hv hal hne e0 e5 hb S0 S1 S2 S5 S6 S7 S8 SB
          obtain ⟨n, hn⟩ : ∃ n, n = x - q * y := ⟨_, rfl⟩
          rw [← hn] at hnn HNX ⊢
          obtain ⟨WC, hWC⟩ : ∃ W, W = put2 wy g5 (.bool (decide (y < 0))) (.slice Ay (ln y.natAbs) cy) := ⟨_, rfl⟩
          have U6 : HB2 WC (g5 + 1) 38 := by rw [hWC]; exact T6.put (by omega) _ _
          obtain ⟨WD, hWD⟩ : ∃ W, W = put2 WC (g5 + 1) (.bool (decide (n < 0))) (.slice An (ln n.natAbs) cn) := ⟨_, rfl⟩
          have V0 : Hd (HZ WD w.heap.size 38 b) := ⟨by rw [hWD]; refine HZ.put ?_ U6 (by omega) _ _; rw [hWC]; exact T0.put T5 (by omega) _ _⟩
          have V1 : Hd (HZ WD (w.heap.size + 1) 38 m) := ⟨by rw [hWD]; refine HZ.put ?_ U6 (by omega) _ _; rw [hWC]; exact T1.put T5 (by omega) _ _⟩
          have V2 : Hd (HB2 WD (w.heap.size + 1 + 1) 38) := ⟨by rw [hWD]; refine HB2.put ?_ (by omega) _ _; rw [hWC]; exact T2.put (by omega) _ _⟩
          have V5 : Hd (HZ WD g5 38 y) := ⟨by rw [hWD]; refine HZ.put ?_ U6 (by omega) _ _; rw [hWC]; exact HZ.set T5 hny⟩
          have V6 : Hd (HZ WD (g5 + 1) 38 n) := ⟨by rw [hWD]; refine HZ.set U6 ?_; rw [hWC]; exact hnn.put T5 _ _⟩
          have V7 : Hd (HZ WD g7 38 r) := ⟨by rw [hWD]; refine HZ.put ?_ U6 (by omega) _ _; rw [hWC]; exact T7.put T5 (by omega) _ _⟩
          have VB : Hd (Below w.heap.size w WD) := ⟨by rw [hWD]; refine below_put ?_ (by omega) _ _; rw [hWC]; exact below_put TB (by omega) _ _⟩
          obtain ⟨f1, f2, f3, f4, hf⟩ := T5
          have x0 := hf.c0; have x1 := hf.c1
          have x2 := hf.f0; have x3 := hf.f1
          obtain ⟨f5, f6, f7, f8, hf'⟩ := T6
          have y0 := hf'.c0; have y1 := hf'.c1
          have y2 := hf'.f0; have y3 := hf'.f1
          unfold put2 at hWC hWD
          rw [hWC] at hWD
          clear hf hf' hWC U6 T0 T1 T2 T7 TB s3 s7 hny hnn hn
          go_wp2_with fail
          rw [← hWD]
          go_roundg (r.natAbs)
          case measure => have := HLT.out; have := HBG.out; omega
          case rel => exact ⟨b, r, y, n, V0.out, V1.out, V2.out, V5.out, V6.out, V7.out, HNX.out, Nat.le_refl _, VB.out⟩
end Go.Proofs.Ytcjcpfafalkceaa

/- The reference's Ext. -/
set_option linter.unusedVariables false
set_option linter.unusedSimpArgs false
namespace Go.Proofs.Ytcjcpfafalkceaa
open Go.RowKit
theorem signed_nat (n : Nat) (v : Value) (w : World) (hl : ln n ≤ 9223372036854775807) (h : (isN n).p v w) : Calls Try.prog 81 #[.bool false, v] w (Got w (isZ (n : Int)).p) := by
  obtain ⟨A, c, rfl, hn⟩ := h
  refine (signed_calls false false A (ln n) c w hl rfl).mono fun e w' ⟨he, hb⟩ => ⟨_, he, hb, A, c, ?_, ?_⟩
  · rw [Int.natAbs_natCast, show decide ((n : Int) < 0) = false from decide_eq_false (by omega)]
  · rw [Int.natAbs_natCast]
    exact hn.to hb
theorem sign_got (z : Int) (v : Value) (w : World) (hl : ln z.natAbs ≤ 9223372036854775807) (h : (isZ z).p v w) : Calls Try.prog 43 #[v] w (Got w (isV (.int .i64 (sgnv z))).p) := by
  obtain ⟨A, c, rfl, hn⟩ := h
  exact (rSign_calls z A c w hl).mono fun e w' h => same_got h
theorem whole_sgn (z : Int) (v : Value) (w : World) (h : v = .int .i64 (sgnv z)) : Calls Try.prog 24 #[v] w (Got w (isZ (sgnv z)).p) := by
  subst h
  have h1 : -1 ≤ sgnv z ∧ sgnv z ≤ 1 := by unfold sgnv; split <;> (try split) <;> omega
  exact (Whole_calls (sgnv z) w (by omega) (by omega)).mono fun e w' h => h.got
theorem op_zeroA {P : Program} {Q : Exit → Act → World → Prop} {o : Oper} {a : Act} {d : Nat} (ho : o.op = .build 24 #[]) (w : World) : (execOp a.eval o).run Try.prog w = .ok (.value (.agg #[.bool false, .slice none 0 0])) w := by
  unfold execOp
  simp only [ho]
  simp [go_sem]
set_option maxHeartbeats 4000000 in
set_option maxRecDepth 100000 in
theorem rExt_num (p q : Int) (A1 : Option Addr) (c1 : Nat) (A2 : Option Addr) (c2 : Nat) (w : World) (h1 : NN w A1 c1 p.natAbs) (h2 : NN w A2 c2 q.natAbs) (hl1 : ln p.natAbs ≤ 256) (hl2 : ln q.natAbs ≤ 256) :
    Calls Try.prog 49 #[.agg #[.bool (decide (p < 0)), .slice A1 (ln p.natAbs) c1], .agg #[.bool (decide (q < 0)), .slice A2 (ln q.natAbs) c2]] w (RetZ3 (zgcd p q) (exx p q) (exy p q) 0 w) := by
  have HV1 := Hd.mk (fun W (hW : Below w.heap.size w W) => rvalid_num p A1 c1 W (h1.to hW) hl1)
  have HV2 := Hd.mk (fun W (hW : Below w.heap.size w W) => rvalid_num q A2 c2 W (h2.to hW) hl2)
  have H1 := Hd.mk h1
  have H2 := Hd.mk h2
  have hlg : ln (zgcd p q).natAbs ≤ 256 := Nat.le_trans (zgcd_ln _ _) (Nat.max_le.2 ⟨hl1, hl2⟩)
  obtain ⟨g, hg⟩ : ∃ g, g = zgcd p q := ⟨_, rfl⟩
  have HGE := Hd.mk hg
  rw [← hg] at hlg ⊢
  clear h1 h2 hg
  obtain ⟨b1, hb1⟩ : ∃ b, b = decide (p < 0) := ⟨_, rfl⟩
  obtain ⟨b2, hb2⟩ : ∃ b, b = decide (q < 0) := ⟨_, rfl⟩
  have HB1 := Hd.mk hb1
  have HB2' := Hd.mk hb2
  rw [← hb1] at HV1 ⊢
  rw [← hb2] at HV2 ⊢
  clear hb1 hb2
  obtain ⟨ex, hex⟩ : ∃ x, x = exx p q := ⟨_, rfl⟩
  obtain ⟨ey, hey⟩ : ∃ x, x = exy p q := ⟨_, rfl⟩
  have HEX := Hd.mk hex
  have HEY := Hd.mk hey
  rw [← hex, ← hey]
  clear hex hey
  go_enter Try.func49, Try.ntmps49
  go_wp2_with fail
  obtain ⟨W0, hW0⟩ : ∃ W : World, W = ((((w.alloc (.cells #[.bool b1, .slice A1 (ln p.natAbs) c1] 24)).alloc (.cells #[.bool b2, .slice A2 (ln q.natAbs) c2] 24)).alloc (.cells #[.bool false, .slice none 0 0] 24)).alloc (.cells #[.bool false, .slice none 0 0] 24)).alloc (.cells #[.bool false, .slice none 0 0] 24) := ⟨_, rfl⟩
  rw [← hW0]
  obtain ⟨hB0, hB1, hB2, hB3, hB4, hBW⟩ := boxes5 hW0
  have HB : Hd (Below w.heap.size w W0) := ⟨hBW⟩
  have L0 : Hd (HZ W0 w.heap.size 24 p) := ⟨A1, c1, by rw [HB1.out] at hB0; exact hB0, H1.out.to hBW⟩
  have L1 : Hd (HZ W0 (w.heap.size + 1) 24 q) := ⟨A2, c2, by rw [HB2'.out] at hB1; exact hB1, H2.out.to hBW⟩
  have R4 : Hd (HB2 W0 (w.heap.size + 1 + 1) 24) := ⟨_, _, _, _, hB2⟩
  have R5 : Hd (HB2 W0 (w.heap.size + 1 + 1 + 1) 24) := ⟨_, _, _, _, hB3⟩
  have R6 : Hd (HB2 W0 (w.heap.size + 1 + 1 + 1 + 1) 24) := ⟨_, _, _, _, hB4⟩
  have Q1 := Hd.mk hB1
  clear hW0 hB0 hB1 hB2 hB3 hB4 hBW
  refine (HV1.out _ HB.out).mono ?_
  rintro e w1 ⟨rfl, hb1⟩
  have y0 := (Q1.out.to hb1).c0
  have y1 := (Q1.out.to hb1).c1
  replace L0 := Hd.mk (L0.out.to hb1)
  replace L1 := Hd.mk (L1.out.to hb1)
  replace R4 := Hd.mk (R4.out.to hb1)
  replace R5 := Hd.mk (R5.out.to hb1)
  replace R6 := Hd.mk (R6.out.to hb1)
  replace HB := Hd.mk (bel_then HB.out hb1)
  clear hb1 Q1
  go_wp2_with fail
  refine (HV2.out _ HB.out).mono ?_
  rintro e w2 ⟨rfl, hb2⟩
  replace L0 := Hd.mk (L0.out.to hb2)
  replace L1 := Hd.mk (L1.out.to hb2)
  replace R4 := Hd.mk (R4.out.to hb2)
  replace R5 := Hd.mk (R5.out.to hb2)
  replace R6 := Hd.mk (R6.out.to hb2)
  replace HB := Hd.mk (bel_then HB.out hb2)
  clear hb2 y0 y1
  go_wp2_with fail
  refine wp_region_vs 6 [25, 26, 27, 28, 8, 9] [] [4, 5] 38 [.bool false, .slice none 0 0] [isZ p, isZ p, isZ q, isZ q] (by kernel_rfl) (by kernel_rfl) (by kernel_rfl) (by rfl) alloc_Z (fun d v c a w h => by cases d <;> exact h) ?_ ?_
  · intro i hi hA a wx hb hs hd
    match i, hi, hA with
    | 0, _, _ => exact op_loadA rfl rfl (hs 2 rfl) (L0.out.to hb)
    | 1, _, _ => exact op_call1 rfl rfl Try.call32 (z1_same (fun A1 c1 => rOf_calls _ _ _ _ _) (hd 0 rfl))
    | 2, _, _ => exact op_loadA rfl rfl (hs 3 rfl) (L1.out.to hb)
    | 3, _, _ => exact op_call1 rfl rfl Try.call32 (z1_same (fun A1 c1 => rOf_calls _ _ _ _ _) (hd 2 rfl))
    | 4, _, h => cases h
    | 5, _, h => cases h
    | i + 6, h, _ => omega
  · intro vs wx hb hv hal hne
    obtain ⟨A8, c8, e8, hn8⟩ : (isZ (p)).p (vs 26) wx := hv 1 (by decide) rfl
    obtain ⟨g8, eg8, hgl8, hgb8⟩ : ∃ g, vs 8 = .pointer (some ⟨g, 0, none⟩) ∧ _ := hal 4 rfl
    obtain ⟨A9, c9, e9, hn9⟩ : (isZ (q)).p (vs 28) wx := hv 3 (by decide) rfl
    obtain ⟨g9, eg9, hgl9, hgb9⟩ : ∃ g, vs 9 = .pointer (some ⟨g, 0, none⟩) ∧ _ := hal 5 rfl
    have hgne : g8 ≠ g9 := ptr_ne (by rw [← eg8, ← eg9]; exact hne 4 5 rfl rfl (by decide))
    have hgne' := Ne.symm hgne
    simp only [putAll, List.foldl_cons, List.foldl_nil, Act.put, List.setIfInBounds_toArray, List.set_cons_succ, List.set_cons_zero, List.drop_succ_cons, List.drop_zero, e8, eg8, e9, eg9]
    generalize vs 25 = s25
    generalize vs 27 = s27
    obtain ⟨Wc0, hWc0⟩ : ∃ W, W = put2 wx g8 (.bool (decide (p < 0))) (.slice A8 (ln (p).natAbs) c8) := ⟨_, rfl⟩
    obtain ⟨Wc1, hWc1⟩ : ∃ W, W = put2 Wc0 g9 (.bool (decide (q < 0))) (.slice A9 (ln (q).natAbs) c9) := ⟨_, rfl⟩
    replace L0 : Hd (HZ Wc1 w.heap.size 24 p) := ⟨by rw [hWc1]; rw [hWc0]; exact HZ.new2 L0.out hb hgl8 ⟨_, _, _, _, hgb8⟩ hgl9 ⟨_, _, _, _, hgb9⟩ hgne _ _ _ _⟩
    replace L1 : Hd (HZ Wc1 (w.heap.size + 1) 24 q) := ⟨by rw [hWc1]; rw [hWc0]; exact HZ.new2 L1.out hb hgl8 ⟨_, _, _, _, hgb8⟩ hgl9 ⟨_, _, _, _, hgb9⟩ hgne _ _ _ _⟩
    replace R4 : Hd (HB2 Wc1 (w.heap.size + 1 + 1) 24) := ⟨by rw [hWc1]; rw [hWc0]; exact HB2.new2 R4.out hb hgl8 ⟨_, _, _, _, hgb8⟩ hgl9 ⟨_, _, _, _, hgb9⟩ hgne _ _ _ _⟩
    replace R5 : Hd (HB2 Wc1 (w.heap.size + 1 + 1 + 1) 24) := ⟨by rw [hWc1]; rw [hWc0]; exact HB2.new2 R5.out hb hgl8 ⟨_, _, _, _, hgb8⟩ hgl9 ⟨_, _, _, _, hgb9⟩ hgne _ _ _ _⟩
    replace R6 : Hd (HB2 Wc1 (w.heap.size + 1 + 1 + 1 + 1) 24) := ⟨by rw [hWc1]; rw [hWc0]; exact HB2.new2 R6.out hb hgl8 ⟨_, _, _, _, hgb8⟩ hgl9 ⟨_, _, _, _, hgb9⟩ hgne _ _ _ _⟩
    have P8 : Hd (HZ Wc1 g8 38 (p)) := ⟨by rw [hWc1]; rw [hWc0]; exact HZ.put (HZ.set ⟨_, _, _, _, hgb8⟩ hn8) (HB2.put ⟨_, _, _, _, hgb9⟩ hgne' _ _) hgne _ _⟩
    have P9 : Hd (HZ Wc1 g9 38 (q)) := ⟨by rw [hWc1]; rw [hWc0]; exact HZ.set (HB2.put ⟨_, _, _, _, hgb9⟩ hgne' _ _) (hn9.put ⟨_, _, _, _, hgb8⟩ _ _)⟩
    replace HB : Hd (Below w.heap.size w Wc1) := ⟨by rw [hWc1]; rw [hWc0]; exact Below.new2 HB.out hb hgl8 hgl9 _ _ _ _⟩
    have x8a := hgb8.c0
    have x8b := hgb8.c1
    have x8c := hgb8.f0
    have x8d := hgb8.f1
    have x9a := hgb9.c0
    have x9b := hgb9.c1
    have x9c := hgb9.f0
    have x9d := hgb9.f1
    unfold put2 at hWc0 hWc1
    rw [hWc0] at hWc1
    clear hv hal hne hb e8 eg8 hgl8 hgb8 hn8 e9 eg9 hgl9 hgb9 hn9 hWc0
    go_upto_region 4 with fail
    rw [← hWc1]
    clear hWc1 x8a x8b x8c x8d x9a x9b x9c x9d hgne hgne'
    obtain ⟨Ap, cp, hBp, hnp⟩ := P8.out
    obtain ⟨Aq, cq, hBq, hnq⟩ := P9.out
    have p0 := hBp.c0; have p1 := hBp.c1
    have q0 := hBq.c0; have q1 := hBq.c1
    have HC := Hd.mk (rCommon_calls p q Ap cp Aq cq _ hnp hnq (by omega) (by omega))
    rw [← HGE.out] at HC
    clear hBp hBq hnp hnq
    go_wp2_with fail
    refine HC.out.mono ?_
    rintro e w4 ⟨A10, c10, rfl, hn10, hb4⟩
    go_upto_region 5 with fail
    obtain ⟨W4, hW4⟩ : ∃ W : World, W = w4.alloc (.cells #[.bool (decide (g < 0)), .slice A10 (ln g.natAbs) c10] 38) := ⟨_, rfl⟩
    rw [← hW4]
    obtain ⟨hX, hbw⟩ := boxes1 hW4
    have hb44 := bel_then hb4 hbw
    replace L0 := Hd.mk (L0.out.to hb44)
    replace L1 := Hd.mk (L1.out.to hb44)
    replace R4 := Hd.mk (R4.out.to hb44)
    replace R5 := Hd.mk (R5.out.to hb44)
    replace R6 := Hd.mk (R6.out.to hb44)
    replace P8 := Hd.mk (P8.out.to hb44)
    replace P9 := Hd.mk (P9.out.to hb44)
    replace HB := Hd.mk (bel_then HB.out hb44)
    have P10 : Hd (HZ W4 w4.heap.size 38 g) := ⟨A10, c10, hX, NN.to hn10 hbw⟩
    obtain ⟨g10, hg10⟩ : ∃ g, g = w4.heap.size := ⟨_, rfl⟩
    rw [← hg10] at P10 ⊢
    clear hW4 hX hbw hb4 hb44 hn10 hg10 p0 p1 q0 q1 HC
    obtain ⟨Aq, cq, hBq, hnq⟩ := P9.out
    have q0 := hBq.c0; have q1 := hBq.c1
    clear hBq hnq
    go_wp2_with fail
    refine (rZero_calls _ _ _ _ _ (by omega)).mono ?_
    rintro e w5 ⟨rfl, hb5⟩
    replace L0 := Hd.mk (L0.out.to hb5)
    replace L1 := Hd.mk (L1.out.to hb5)
    replace R4 := Hd.mk (R4.out.to hb5)
    replace R5 := Hd.mk (R5.out.to hb5)
    replace R6 := Hd.mk (R6.out.to hb5)
    replace P8 := Hd.mk (P8.out.to hb5)
    replace P9 := Hd.mk (P9.out.to hb5)
    replace P10 := Hd.mk (P10.out.to hb5)
    replace HB := Hd.mk (bel_then HB.out hb5)
    clear hb5 q0 q1
    by_cases hq : q = 0
    · have hd0 : decide (ln q.natAbs = 0) = true := decide_eq_true (by rw [hq]; exact ln_zero)
      rw [hd0]
      have HX0 : Hd (ex = sgnv p) := ⟨by rw [HEX.out]; unfold exx; rw [if_pos hq]⟩
      have HY0 : Hd (ey = 0) := ⟨by rw [HEY.out]; unfold exy; rw [if_pos hq]⟩
      clear hd0 hq
      go_wp2_with fail
      refine wp_region_vs 7 [34, 35, 36, 37, 38, 39, 40] [6] [] 24 [.bool false, .slice none 0 0] [isZ g, isZ g, isZ p, isV (.int .i64 (sgnv p)), isZ (sgnv p), isZ (sgnv p), isV (.agg #[.bool false, .slice none 0 0])] (by kernel_rfl) (by kernel_rfl) (by kernel_rfl) (by rfl) alloc_api (fun d v c a w h => by cases d <;> exact h) ?_ ?_
      · intro i hi hA a wx hb hs hd
        match i, hi, hA with
        | 0, _, _ => exact op_loadR rfl rfl (hs 10 rfl) (P10.out.to hb)
        | 1, _, _ => exact op_call1 rfl rfl Try.call23 (z1_same (fun A1 c1 => rInt_calls _ _ _ _ _) (hd 0 rfl))
        | 2, _, _ => exact op_loadR rfl rfl (hs 8 rfl) (P8.out.to hb)
        | 3, _, _ => exact op_call1 rfl rfl Try.call43 (sign_got p _ _ (by omega) (hd 2 rfl))
        | 4, _, _ => exact op_call1 rfl rfl Try.call24 (whole_sgn p _ _ (hd 3 rfl))
        | 5, _, _ => exact op_call1 rfl rfl Try.call23 (z1_same (fun A1 c1 => rInt_calls _ _ _ _ _) (hd 4 rfl))
        | 6, _, _ => exact ⟨_, op_zeroA (P := Try.prog) (Q := fun _ _ _ => True) (d := 0) rfl, rfl⟩
        | i + 7, h, _ => omega
      · intro vs wx hb hv hal hne
        obtain ⟨A3, c3, e1, hn1⟩ : (isZ g).p (vs 35) wx := hv 1 (by decide) rfl
        obtain ⟨A4, c4, e5, hn5⟩ : (isZ (sgnv p)).p (vs 39) wx := hv 5 (by decide) rfl
        have e6 : vs 40 = .agg #[.bool false, .slice none 0 0] := hv 6 (by decide) rfl
        simp only [putAll, List.foldl_cons, List.foldl_nil, Act.put, List.setIfInBounds_toArray, List.set_cons_succ, List.set_cons_zero, List.drop_succ_cons, List.drop_zero, e1, e5, e6]
        generalize vs 34 = s34
        generalize vs 36 = s36
        generalize vs 37 = s37
        generalize vs 38 = s38
        replace L0 := Hd.mk (L0.out.to hb)
        replace L1 := Hd.mk (L1.out.to hb)
        replace R4 := Hd.mk (R4.out.to hb)
        replace R5 := Hd.mk (R5.out.to hb)
        replace R6 := Hd.mk (R6.out.to hb)
        replace HB := Hd.mk (bel_then HB.out hb)
        have N3 := Hd.mk hn1
        have N4 := Hd.mk hn5
        rw [← HX0.out] at N4 ⊢
        clear hv hal hne e1 e5 e6 hb hn1 hn5 P8 P9 P10
        obtain ⟨f4a, f4b, f4c, f4d, h4⟩ := R4.out
        obtain ⟨f5a, f5b, f5c, f5d, h5⟩ := R5.out
        obtain ⟨f6a, f6b, f6c, f6d, h6⟩ := R6.out
        have y4a := h4.c0; have y4b := h4.c1
        have y4c := h4.f0; have y4d := h4.f1
        have y5a := h5.c0; have y5b := h5.c1
        have y5c := h5.f0; have y5d := h5.f1
        have y6a := h6.c0; have y6b := h6.c1
        have y6c := h6.f0; have y6d := h6.f1
        clear h4 h5 h6
        go_wp2_with fail
        obtain ⟨WF, hWF⟩ : ∃ W, W = put2 (put2 (put2 wx (w.heap.size + 1 + 1) (.bool (decide (g < 0))) (.slice A3 (ln g.natAbs) c3)) (w.heap.size + 1 + 1 + 1) (.bool (decide (ex < 0))) (.slice A4 (ln ex.natAbs) c4)) (w.heap.size + 1 + 1 + 1 + 1) (.bool false) (.slice none 0 0) := ⟨_, rfl⟩
        obtain ⟨k4, k5, k6⟩ := three_put R4.out R5.out R6.out (by omega) (by omega) (by omega) (.bool (decide (g < 0))) (.slice A3 (ln g.natAbs) c3) (.bool (decide (ex < 0))) (.slice A4 (ln ex.natAbs) c4) (.bool false) (.slice none 0 0)
        have T3 : NN WF A3 c3 g.natAbs := by rw [hWF]; exact three_nn R4.out R5.out R6.out (by omega) (by omega) (by omega) _ _ _ _ _ _ N3.out
        have T4 : NN WF A4 c4 ex.natAbs := by rw [hWF]; exact three_nn R4.out R5.out R6.out (by omega) (by omega) (by omega) _ _ _ _ _ _ N4.out
        have TB : Below w.heap.size w WF := by rw [hWF]; exact three_below HB.out (by omega) (by omega) (by omega) _ _ _ _ _ _
        rw [← hWF] at k4 k5 k6
        unfold put2 at hWF
        rw [← hWF]
        have z0 := k4.c0
        have z1 := k4.c1
        have z2 := k5.c0
        have z3 := k5.c1
        have z4 := k6.c0
        have z5 := k6.c1
        refine bodyPost_ret (v := .tuple #[.agg #[.bool (decide (g < 0)), .slice A3 (ln g.natAbs) c3], .agg #[.bool (decide (ex < 0)), .slice A4 (ln ex.natAbs) c4], .agg #[.bool false, .slice none 0 0], .int .i64 0]) (by simp [results, Try.results49, go_sem, z0, z1, z2, z3, z4, z5]) rfl ?_
        exact ⟨A3, c3, A4, c4, none, 0, by rw [HY0.out, show ln (Int.natAbs 0) = 0 from ln_zero]; rfl, T3, T4, by rw [HY0.out]; exact NN.nil _ _ _ (by omega), TB⟩
    · have hd0 : decide (ln q.natAbs = 0) = false := decide_eq_false (fun h => hq (by have := ln_eq_zero.1 h; omega))
      rw [hd0]
      have HQ0 := Hd.mk hq
      have HG0 : Hd (g ≠ 0) := ⟨by have := zgcd_pos (p := p) hq; have := HGE.out; omega⟩
      have HMX : Hd ((q.natAbs : Int) / g = exm p q) := ⟨by rw [HGE.out]; rfl⟩
      have HMP : Hd (0 < (q.natAbs : Int) / g) := ⟨by rw [HMX.out]; exact exm_pos hq⟩
      have hml : ln ((q.natAbs : Int) / g).natAbs ≤ 256 := Nat.le_trans (ln_mono (Int.natAbs_ediv_le_natAbs _ _)) (by rw [Int.natAbs_natCast]; exact hl2)
      have HLM : Hd (ln ((q.natAbs : Int) / g).natAbs ≤ 1000) := ⟨by omega⟩
      have HLP : Hd (ln (p / g).natAbs ≤ 1000) := ⟨Nat.le_trans (ln_mono (Int.natAbs_ediv_le_natAbs _ _)) (by omega)⟩
      obtain ⟨x, hx⟩ : ∃ x, x = ex := ⟨_, rfl⟩
      have HXE := Hd.mk hx
      have HINV : Hd (∀ w e w', RetInv (p / g) ((q.natAbs : Int) / g) w e w' → Got w (isZ x).p e w') := ⟨fun w e w' ⟨z, A, c, he, hn, hb, a', x', y', hev, hz⟩ => by
        have hzx : z = x := by
          rw [hx, HEX.out]
          rw [HMX.out] at hev hz
          rw [HGE.out] at hev
          rw [hz]
          exact (exx_is hq (EV.end_ hq hev)).symm
        subst hzx
        exact ⟨_, he, hb, A, c, rfl, hn⟩⟩
      have hxb : ln x.natAbs ≤ 256 := by
        have hex : ∃ s, ExtP p q s := ext_ex hq
        obtain ⟨s, hs⟩ := hex
        have h1 : x = s := by rw [hx, HEX.out]; exact exx_is hq hs
        have h2 := hs.1
        have h3 := hs.2.1
        rw [h1]
        refine Nat.le_trans (ln_mono (n := ((q.natAbs : Int) / g).natAbs) ?_) hml
        rw [HMX.out]
        omega
      have HLX : Hd (ln x.natAbs ≤ 268435456) := ⟨by omega⟩
      have hlpx : ln (p * x).natAbs ≤ 1000 := by rw [Int.natAbs_mul]; exact Nat.le_trans (ln_mul _ _) (by omega)
      have hlgp : ln (g - p * x).natAbs ≤ 2000 := Nat.le_trans (ln_mono (Int.natAbs_sub_le _ _)) (Nat.le_trans (ln_add _ _) (by omega))
      have HYE : Hd (ey = (g - p * x) / q) := ⟨by rw [HEY.out, hx, HEX.out, HGE.out]; unfold exy; rw [if_neg hq]⟩
      have hqp : ln (Int.natAbs (q.natAbs : Int)) ≤ 256 := by rw [Int.natAbs_natCast]; exact hl2
      clear hd0 hq hx
      go_wp2_with fail
      refine wp_region_vs 6 [41, 42, 43, 44, 45, 11] [0] [5] 38 [.bool false, .slice none 0 0] [isV (.pointer (some ⟨g9, 1, none⟩)), isN q.natAbs, isZ (q.natAbs : Int), isZ g, isZ ((q.natAbs : Int) / g)] (by kernel_rfl) (by kernel_rfl) (by kernel_rfl) (by rfl) alloc_Z (fun d v c a w h => by cases d <;> exact h) ?_ ?_
      · intro i hi hA a wx hb hs hd
        match i, hi, hA with
        | 0, _, _ => exact ⟨_, op_fieldR rfl (hs 9 rfl), rfl⟩
        | 1, _, _ => exact op_magR rfl rfl (hd 0 rfl) (P9.out.to hb)
        | 2, _, _ => exact op_call2 rfl rfl Try.call81 (signed_nat q.natAbs _ _ (by omega) (hd 1 rfl))
        | 3, _, _ => exact op_loadR rfl rfl (hs 10 rfl) (P10.out.to hb)
        | 4, _, _ => exact op_call2 rfl rfl Try.call97 (z2 (fun A1 c1 A2 c2 h1 h2 => rExactly_calls (q.natAbs : Int) g A1 c1 A2 c2 _ h1 h2 HG0.out (by rw [Int.natAbs_natCast]; omega) (by omega)) (fun e w' h => h.got) (hd 2 rfl) (hd 3 rfl))
        | 5, _, h => cases h
        | i + 6, h, _ => omega
      · intro vs wx hb hv hal hne
        obtain ⟨A11, c11, e11, hn11⟩ : (isZ ((q.natAbs : Int) / g)).p (vs 45) wx := hv 4 (by decide) rfl
        obtain ⟨g11, eg11, hgl11, hgb11⟩ : ∃ g, vs 11 = .pointer (some ⟨g, 0, none⟩) ∧ _ := hal 5 rfl
        simp only [putAll, List.foldl_cons, List.foldl_nil, Act.put, List.setIfInBounds_toArray, List.set_cons_succ, List.set_cons_zero, List.drop_succ_cons, List.drop_zero, e11, eg11]
        generalize vs 41 = s41
        generalize vs 42 = s42
        generalize vs 43 = s43
        generalize vs 44 = s44
        obtain ⟨We0, hWe0⟩ : ∃ W, W = put2 wx g11 (.bool (decide ((q.natAbs : Int) / g < 0))) (.slice A11 (ln ((q.natAbs : Int) / g).natAbs) c11) := ⟨_, rfl⟩
        replace L0 : Hd (HZ We0 w.heap.size 24 p) := ⟨by rw [hWe0]; exact HZ.new1 L0.out hb hgl11 ⟨_, _, _, _, hgb11⟩ _ _⟩
        replace L1 : Hd (HZ We0 (w.heap.size + 1) 24 q) := ⟨by rw [hWe0]; exact HZ.new1 L1.out hb hgl11 ⟨_, _, _, _, hgb11⟩ _ _⟩
        replace R4 : Hd (HB2 We0 (w.heap.size + 1 + 1) 24) := ⟨by rw [hWe0]; exact HB2.new1 R4.out hb hgl11 ⟨_, _, _, _, hgb11⟩ _ _⟩
        replace R5 : Hd (HB2 We0 (w.heap.size + 1 + 1 + 1) 24) := ⟨by rw [hWe0]; exact HB2.new1 R5.out hb hgl11 ⟨_, _, _, _, hgb11⟩ _ _⟩
        replace R6 : Hd (HB2 We0 (w.heap.size + 1 + 1 + 1 + 1) 24) := ⟨by rw [hWe0]; exact HB2.new1 R6.out hb hgl11 ⟨_, _, _, _, hgb11⟩ _ _⟩
        replace P8 : Hd (HZ We0 g8 38 (p)) := ⟨by rw [hWe0]; exact HZ.new1 P8.out hb hgl11 ⟨_, _, _, _, hgb11⟩ _ _⟩
        replace P9 : Hd (HZ We0 g9 38 (q)) := ⟨by rw [hWe0]; exact HZ.new1 P9.out hb hgl11 ⟨_, _, _, _, hgb11⟩ _ _⟩
        replace P10 : Hd (HZ We0 g10 38 g) := ⟨by rw [hWe0]; exact HZ.new1 P10.out hb hgl11 ⟨_, _, _, _, hgb11⟩ _ _⟩
        have P11 : Hd (HZ We0 g11 38 ((q.natAbs : Int) / g)) := ⟨by rw [hWe0]; exact HZ.set ⟨_, _, _, _, hgb11⟩ hn11⟩
        replace HB : Hd (Below w.heap.size w We0) := ⟨by rw [hWe0]; exact Below.new1 HB.out hb hgl11 _ _⟩
        have x11a := hgb11.c0
        have x11b := hgb11.c1
        have x11c := hgb11.f0
        have x11d := hgb11.f1
        unfold put2 at hWe0
        clear hv hal hne hb e11 eg11 hgl11 hgb11 hn11 
        go_upto_region 8 with fail
        rw [← hWe0]
        clear hWe0 x11a x11b x11c x11d
        refine wp_region_vs 6 [46, 47, 48, 49, 50, 12] [] [5] 38 [.bool false, .slice none 0 0] [isZ p, isZ g, isZ (p / g), isZ ((q.natAbs : Int) / g), isZ x] (by kernel_rfl) (by kernel_rfl) (by kernel_rfl) (by rfl) alloc_Z (fun d v c a w h => by cases d <;> exact h) ?_ ?_
        · intro i hi hA a wx hb hs hd
          match i, hi, hA with
          | 0, _, _ => exact op_loadR rfl rfl (hs 8 rfl) (P8.out.to hb)
          | 1, _, _ => exact op_loadR rfl rfl (hs 10 rfl) (P10.out.to hb)
          | 2, _, _ => exact op_call2 rfl rfl Try.call97 (z2 (fun A1 c1 A2 c2 h1 h2 => rExactly_calls p g A1 c1 A2 c2 _ h1 h2 HG0.out (by omega) (by omega)) (fun e w' h => h.got) (hd 0 rfl) (hd 1 rfl))
          | 3, _, _ => exact op_loadR rfl rfl (hs 11 rfl) (P11.out.to hb)
          | 4, _, _ => exact op_call2 rfl rfl Try.call98 (z2 (fun A1 c1 A2 c2 h1 h2 => rinverse_calls (p / g) ((q.natAbs : Int) / g) A1 c1 A2 c2 _ h1 h2 HMP.out HLP.out HLM.out) (fun e w' h => HINV.out _ _ _ h) (hd 2 rfl) (hd 3 rfl))
          | 5, _, h => cases h
          | i + 6, h, _ => omega
        · intro vs wx hb hv hal hne
          obtain ⟨A12, c12, e12, hn12⟩ : (isZ (x)).p (vs 50) wx := hv 4 (by decide) rfl
          obtain ⟨g12, eg12, hgl12, hgb12⟩ : ∃ g, vs 12 = .pointer (some ⟨g, 0, none⟩) ∧ _ := hal 5 rfl
          simp only [putAll, List.foldl_cons, List.foldl_nil, Act.put, List.setIfInBounds_toArray, List.set_cons_succ, List.set_cons_zero, List.drop_succ_cons, List.drop_zero, e12, eg12]
          generalize vs 46 = s46
          generalize vs 47 = s47
          generalize vs 48 = s48
          generalize vs 49 = s49
          obtain ⟨Wf0, hWf0⟩ : ∃ W, W = put2 wx g12 (.bool (decide (x < 0))) (.slice A12 (ln (x).natAbs) c12) := ⟨_, rfl⟩
          replace L0 : Hd (HZ Wf0 w.heap.size 24 p) := ⟨by rw [hWf0]; exact HZ.new1 L0.out hb hgl12 ⟨_, _, _, _, hgb12⟩ _ _⟩
          replace L1 : Hd (HZ Wf0 (w.heap.size + 1) 24 q) := ⟨by rw [hWf0]; exact HZ.new1 L1.out hb hgl12 ⟨_, _, _, _, hgb12⟩ _ _⟩
          replace R4 : Hd (HB2 Wf0 (w.heap.size + 1 + 1) 24) := ⟨by rw [hWf0]; exact HB2.new1 R4.out hb hgl12 ⟨_, _, _, _, hgb12⟩ _ _⟩
          replace R5 : Hd (HB2 Wf0 (w.heap.size + 1 + 1 + 1) 24) := ⟨by rw [hWf0]; exact HB2.new1 R5.out hb hgl12 ⟨_, _, _, _, hgb12⟩ _ _⟩
          replace R6 : Hd (HB2 Wf0 (w.heap.size + 1 + 1 + 1 + 1) 24) := ⟨by rw [hWf0]; exact HB2.new1 R6.out hb hgl12 ⟨_, _, _, _, hgb12⟩ _ _⟩
          replace P8 : Hd (HZ Wf0 g8 38 (p)) := ⟨by rw [hWf0]; exact HZ.new1 P8.out hb hgl12 ⟨_, _, _, _, hgb12⟩ _ _⟩
          replace P9 : Hd (HZ Wf0 g9 38 (q)) := ⟨by rw [hWf0]; exact HZ.new1 P9.out hb hgl12 ⟨_, _, _, _, hgb12⟩ _ _⟩
          replace P10 : Hd (HZ Wf0 g10 38 g) := ⟨by rw [hWf0]; exact HZ.new1 P10.out hb hgl12 ⟨_, _, _, _, hgb12⟩ _ _⟩
          replace P11 : Hd (HZ Wf0 g11 38 ((q.natAbs : Int) / g)) := ⟨by rw [hWf0]; exact HZ.new1 P11.out hb hgl12 ⟨_, _, _, _, hgb12⟩ _ _⟩
          have P12 : Hd (HZ Wf0 g12 38 (x)) := ⟨by rw [hWf0]; exact HZ.set ⟨_, _, _, _, hgb12⟩ hn12⟩
          replace HB : Hd (Below w.heap.size w Wf0) := ⟨by rw [hWf0]; exact Below.new1 HB.out hb hgl12 _ _⟩
          have x12a := hgb12.c0
          have x12b := hgb12.c1
          have x12c := hgb12.f0
          have x12d := hgb12.f1
          unfold put2 at hWf0
          clear hv hal hne hb e12 eg12 hgl12 hgb12 hn12 
          go_upto_region 9 with fail
          rw [← hWf0]
          clear hWf0 x12a x12b x12c x12d
          refine wp_region_vs 8 [51, 52, 53, 54, 55, 56, 57, 13] [] [7] 38 [.bool false, .slice none 0 0] [isZ g, isZ p, isZ x, isZ (p * x), isZ (g - p * x), isZ q, isZ ((g - p * x) / q)] (by kernel_rfl) (by kernel_rfl) (by kernel_rfl) (by rfl) alloc_Z (fun d v c a w h => by cases d <;> exact h) ?_ ?_
          · intro i hi hA a wx hb hs hd
            match i, hi, hA with
            | 0, _, _ => exact op_loadR rfl rfl (hs 10 rfl) (P10.out.to hb)
            | 1, _, _ => exact op_loadR rfl rfl (hs 8 rfl) (P8.out.to hb)
            | 2, _, _ => exact op_loadR rfl rfl (hs 12 rfl) (P12.out.to hb)
            | 3, _, _ => exact op_call2 rfl rfl Try.call31 (z2 (fun A1 c1 A2 c2 h1 h2 => rTimes_calls p x A1 c1 A2 c2 _ h1 h2 (by omega) HLX.out) (fun e w' h => h.got) (hd 1 rfl) (hd 2 rfl))
            | 4, _, _ => exact op_call2 rfl rfl Try.call76 (z2 (fun A1 c1 A2 c2 h1 h2 => rLess_calls g (p * x) A1 c1 A2 c2 _ h1 h2 (by omega) (by omega)) (fun e w' h => h.got) (hd 0 rfl) (hd 3 rfl))
            | 5, _, _ => exact op_loadR rfl rfl (hs 9 rfl) (P9.out.to hb)
            | 6, _, _ => exact op_call2 rfl rfl Try.call97 (z2 (fun A1 c1 A2 c2 h1 h2 => rExactly_calls (g - p * x) q A1 c1 A2 c2 _ h1 h2 HQ0.out (by omega) (by omega)) (fun e w' h => h.got) (hd 4 rfl) (hd 5 rfl))
            | 7, _, h => cases h
            | i + 8, h, _ => omega
          · intro vs wx hb hv hal hne
            obtain ⟨A13, c13, e13, hn13⟩ : (isZ ((g - p * x) / q)).p (vs 57) wx := hv 6 (by decide) rfl
            obtain ⟨g13, eg13, hgl13, hgb13⟩ : ∃ g, vs 13 = .pointer (some ⟨g, 0, none⟩) ∧ _ := hal 7 rfl
            simp only [putAll, List.foldl_cons, List.foldl_nil, Act.put, List.setIfInBounds_toArray, List.set_cons_succ, List.set_cons_zero, List.drop_succ_cons, List.drop_zero, e13, eg13]
            generalize vs 51 = s51
            generalize vs 52 = s52
            generalize vs 53 = s53
            generalize vs 54 = s54
            generalize vs 55 = s55
            generalize vs 56 = s56
            obtain ⟨Wh0, hWh0⟩ : ∃ W, W = put2 wx g13 (.bool (decide ((g - p * x) / q < 0))) (.slice A13 (ln ((g - p * x) / q).natAbs) c13) := ⟨_, rfl⟩
            replace L0 : Hd (HZ Wh0 w.heap.size 24 p) := ⟨by rw [hWh0]; exact HZ.new1 L0.out hb hgl13 ⟨_, _, _, _, hgb13⟩ _ _⟩
            replace L1 : Hd (HZ Wh0 (w.heap.size + 1) 24 q) := ⟨by rw [hWh0]; exact HZ.new1 L1.out hb hgl13 ⟨_, _, _, _, hgb13⟩ _ _⟩
            replace R4 : Hd (HB2 Wh0 (w.heap.size + 1 + 1) 24) := ⟨by rw [hWh0]; exact HB2.new1 R4.out hb hgl13 ⟨_, _, _, _, hgb13⟩ _ _⟩
            replace R5 : Hd (HB2 Wh0 (w.heap.size + 1 + 1 + 1) 24) := ⟨by rw [hWh0]; exact HB2.new1 R5.out hb hgl13 ⟨_, _, _, _, hgb13⟩ _ _⟩
            replace R6 : Hd (HB2 Wh0 (w.heap.size + 1 + 1 + 1 + 1) 24) := ⟨by rw [hWh0]; exact HB2.new1 R6.out hb hgl13 ⟨_, _, _, _, hgb13⟩ _ _⟩
            replace P8 : Hd (HZ Wh0 g8 38 (p)) := ⟨by rw [hWh0]; exact HZ.new1 P8.out hb hgl13 ⟨_, _, _, _, hgb13⟩ _ _⟩
            replace P9 : Hd (HZ Wh0 g9 38 (q)) := ⟨by rw [hWh0]; exact HZ.new1 P9.out hb hgl13 ⟨_, _, _, _, hgb13⟩ _ _⟩
            replace P10 : Hd (HZ Wh0 g10 38 g) := ⟨by rw [hWh0]; exact HZ.new1 P10.out hb hgl13 ⟨_, _, _, _, hgb13⟩ _ _⟩
            replace P11 : Hd (HZ Wh0 g11 38 ((q.natAbs : Int) / g)) := ⟨by rw [hWh0]; exact HZ.new1 P11.out hb hgl13 ⟨_, _, _, _, hgb13⟩ _ _⟩
            replace P12 : Hd (HZ Wh0 g12 38 (x)) := ⟨by rw [hWh0]; exact HZ.new1 P12.out hb hgl13 ⟨_, _, _, _, hgb13⟩ _ _⟩
            have P13 : Hd (HZ Wh0 g13 38 ((g - p * x) / q)) := ⟨by rw [hWh0]; exact HZ.set ⟨_, _, _, _, hgb13⟩ hn13⟩
            replace HB : Hd (Below w.heap.size w Wh0) := ⟨by rw [hWh0]; exact Below.new1 HB.out hb hgl13 _ _⟩
            have x13a := hgb13.c0
            have x13b := hgb13.c1
            have x13c := hgb13.f0
            have x13d := hgb13.f1
            unfold put2 at hWh0
            clear hv hal hne hb e13 eg13 hgl13 hgb13 hn13 
            go_upto_region 10 with fail
            rw [← hWh0]
            clear hWh0 x13a x13b x13c x13d
            refine wp_region_vs 6 [58, 59, 60, 61, 62, 63] [] [] 24 [.bool false, .slice none 0 0] [isZ g, isZ g, isZ x, isZ x, isZ ((g - p * x) / q), isZ ((g - p * x) / q)] (by kernel_rfl) (by kernel_rfl) (by kernel_rfl) (by rfl) alloc_api (fun d v c a w h => by cases d <;> exact h) ?_ ?_
            · intro i hi hA a wx hb hs hd
              match i, hi, hA with
              | 0, _, _ => exact op_loadR rfl rfl (hs 10 rfl) (P10.out.to hb)
              | 1, _, _ => exact op_call1 rfl rfl Try.call23 (z1_same (fun A1 c1 => rInt_calls _ _ _ _ _) (hd 0 rfl))
              | 2, _, _ => exact op_loadR rfl rfl (hs 12 rfl) (P12.out.to hb)
              | 3, _, _ => exact op_call1 rfl rfl Try.call23 (z1_same (fun A1 c1 => rInt_calls _ _ _ _ _) (hd 2 rfl))
              | 4, _, _ => exact op_loadR rfl rfl (hs 13 rfl) (P13.out.to hb)
              | 5, _, _ => exact op_call1 rfl rfl Try.call23 (z1_same (fun A1 c1 => rInt_calls _ _ _ _ _) (hd 4 rfl))
              | i + 6, h, _ => omega
            · intro vs wx hb hv hal hne
              obtain ⟨A3, c3, e1, hn1⟩ : (isZ g).p (vs 59) wx := hv 1 (by decide) rfl
              obtain ⟨A4, c4, e3, hn3⟩ : (isZ x).p (vs 61) wx := hv 3 (by decide) rfl
              obtain ⟨A5, c5, e5, hn5⟩ : (isZ ((g - p * x) / q)).p (vs 63) wx := hv 5 (by decide) rfl
              simp only [putAll, List.foldl_cons, List.foldl_nil, Act.put, List.setIfInBounds_toArray, List.set_cons_succ, List.set_cons_zero, List.drop_succ_cons, List.drop_zero, e1, e3, e5]
              generalize vs 58 = s58
              generalize vs 60 = s60
              generalize vs 62 = s62
              replace L0 := Hd.mk (L0.out.to hb)
              replace L1 := Hd.mk (L1.out.to hb)
              replace R4 := Hd.mk (R4.out.to hb)
              replace R5 := Hd.mk (R5.out.to hb)
              replace R6 := Hd.mk (R6.out.to hb)
              replace HB := Hd.mk (bel_then HB.out hb)
              have N3 := Hd.mk hn1
              have N4 := Hd.mk hn3
              have N5 := Hd.mk hn5
              rw [← HYE.out] at N5 ⊢
              rw [HXE.out] at N4 ⊢
              clear hv hal hne e1 e3 e5 hb hn1 hn3 hn5 P8 P9 P10 P11 P12 P13
              obtain ⟨f4a, f4b, f4c, f4d, h4⟩ := R4.out
              obtain ⟨f5a, f5b, f5c, f5d, h5⟩ := R5.out
              obtain ⟨f6a, f6b, f6c, f6d, h6⟩ := R6.out
              have y4a := h4.c0; have y4b := h4.c1
              have y4c := h4.f0; have y4d := h4.f1
              have y5a := h5.c0; have y5b := h5.c1
              have y5c := h5.f0; have y5d := h5.f1
              have y6a := h6.c0; have y6b := h6.c1
              have y6c := h6.f0; have y6d := h6.f1
              clear h4 h5 h6
              go_wp2_with fail
              obtain ⟨WF, hWF⟩ : ∃ W, W = put2 (put2 (put2 wx (w.heap.size + 1 + 1) (.bool (decide (g < 0))) (.slice A3 (ln g.natAbs) c3)) (w.heap.size + 1 + 1 + 1) (.bool (decide (ex < 0))) (.slice A4 (ln ex.natAbs) c4)) (w.heap.size + 1 + 1 + 1 + 1) (.bool (decide (ey < 0))) (.slice A5 (ln ey.natAbs) c5) := ⟨_, rfl⟩
              obtain ⟨k4, k5, k6⟩ := three_put R4.out R5.out R6.out (by omega) (by omega) (by omega) (.bool (decide (g < 0))) (.slice A3 (ln g.natAbs) c3) (.bool (decide (ex < 0))) (.slice A4 (ln ex.natAbs) c4) (.bool (decide (ey < 0))) (.slice A5 (ln ey.natAbs) c5)
              have T3 : NN WF A3 c3 g.natAbs := by rw [hWF]; exact three_nn R4.out R5.out R6.out (by omega) (by omega) (by omega) _ _ _ _ _ _ N3.out
              have T4 : NN WF A4 c4 ex.natAbs := by rw [hWF]; exact three_nn R4.out R5.out R6.out (by omega) (by omega) (by omega) _ _ _ _ _ _ N4.out
              have T5 : NN WF A5 c5 ey.natAbs := by rw [hWF]; exact three_nn R4.out R5.out R6.out (by omega) (by omega) (by omega) _ _ _ _ _ _ N5.out
              have TB : Below w.heap.size w WF := by rw [hWF]; exact three_below HB.out (by omega) (by omega) (by omega) _ _ _ _ _ _
              rw [← hWF] at k4 k5 k6
              unfold put2 at hWF
              rw [← hWF]
              have z0 := k4.c0
              have z1 := k4.c1
              have z2 := k5.c0
              have z3 := k5.c1
              have z4 := k6.c0
              have z5 := k6.c1
              refine bodyPost_ret (v := .tuple #[.agg #[.bool (decide (g < 0)), .slice A3 (ln g.natAbs) c3], .agg #[.bool (decide (ex < 0)), .slice A4 (ln ex.natAbs) c4], .agg #[.bool (decide (ey < 0)), .slice A5 (ln ey.natAbs) c5], .int .i64 0]) (by simp [results, Try.results49, go_sem, z0, z1, z2, z3, z4, z5]) rfl ?_
              exact ⟨A3, c3, A4, c4, A5, c5, rfl, T3, T4, T5, TB⟩
end Go.Proofs.Ytcjcpfafalkceaa

/- The program's Ext. -/
set_option linter.unusedVariables false
set_option linter.unusedSimpArgs false
namespace Go.Proofs.Ytcjcpfafalkceaa
open Go.RowKit
theorem op_zeroW {P : Program} {Q : Exit → Act → World → Prop} {o : Oper} {a : Act} {d : Nat} (ho : o.op = .build 70 #[]) (w : World) : (execOp a.eval o).run Try.prog w = .ok (.value (.agg #[.bool false, .slice none 0 0])) w := by
  unfold execOp
  simp only [ho]
  simp [go_sem]
theorem ofInt_one (w : World) : Calls Try.prog 71 #[.int .i64 1] w (Got w (isZ 1).p) := (ofInt_calls 1 w (by omega) (by omega)).mono fun e w' h => h.got
theorem wcmp_z (p : Int) (A : Option Addr) (c : Nat) (w : World) (n : NN w A c p.natAbs) : Calls Try.prog 74 #[.agg #[.bool (decide (p < 0)), .slice A (ln p.natAbs) c], .agg #[.bool false, .slice none 0 0]] w fun e w' => e = .returned (.int .i64 (sgnv p)) ∧ Below w.heap.size w w' := by
  have h := wcmp_calls p 0 A c none 0 w n (NN.nil _ _ _ (by omega))
  rw [show decide ((0 : Int) < 0) = false from rfl, show ln (Int.natAbs 0) = 0 from ln_zero, Int.sub_zero] at h
  exact h
theorem ofInt_sgn (p : Int) (v : Value) (w : World) (h : v = .int .i64 (sgnv p)) : Calls Try.prog 71 #[v] w (Got w (isZ (sgnv p)).p) := by
  subst h
  have h : sgnv p = -1 ∨ sgnv p = 0 ∨ sgnv p = 1 := by unfold sgnv; split; · simp
                                                       · split <;> simp
  exact (ofInt_calls _ w (by omega) (by omega)).mono fun e w' h => h.got
theorem ln_sgn (p : Int) : ln (sgnv p).natAbs ≤ 1000 := by
  have h : sgnv p = -1 ∨ sgnv p = 0 ∨ sgnv p = 1 := by unfold sgnv; split; · simp
                                                       · split <;> simp
  exact Nat.le_trans (ln_mono (n := 3) (by omega)) (by have := ln_word (d := 3) (by omega); omega)
theorem valid_num (p q : Int) (A1 : Option Addr) (c1 : Nat) (A2 : Option Addr) (c2 : Nat) (g : Nat) (W : World) (h1 : NN W A1 c1 p.natAbs) (h2 : NN W A2 c2 q.natAbs) (l1 : ln p.natAbs ≤ 256) (l2 : ln q.natAbs ≤ 256)
    (hB : Blk W g 24 [.bool (decide (p < 0)), .slice A1 (ln p.natAbs) c1, .bool (decide (q < 0)), .slice A2 (ln q.natAbs) c2]) :
    Calls Try.prog 68 #[.slice (some ⟨g, 0, none⟩) 2 2] W fun e w' => e = .returned (.bool true) ∧ Below W.heap.size W w' := by
  have h := valid_calls [⟨decide (p < 0), A1, c1, dig p.natAbs⟩, ⟨decide (q < 0), A2, c2, dig q.natAbs⟩] g 2 W (raws_two (Below.refl _ _) ⟨h1.1, dg_dig _, h1.2.1, h1.2.2⟩ ⟨h2.1, dg_dig _, h2.2.1, h2.2.2⟩ hB) rfl (Nat.le_refl _)
  rw [all_two, raw_ok_num p A1 c1 l1, raw_ok_num q A2 c2 l2] at h
  exact h
set_option maxHeartbeats 4000000 in
set_option maxRecDepth 100000 in
theorem Ext_num (p q : Int) (A1 : Option Addr) (c1 : Nat) (A2 : Option Addr) (c2 : Nat) (w : World) (h1 : NN w A1 c1 p.natAbs) (h2 : NN w A2 c2 q.natAbs) (hl1 : ln p.natAbs ≤ 256) (hl2 : ln q.natAbs ≤ 256) :
    Calls Try.prog 42 #[.agg #[.bool (decide (p < 0)), .slice A1 (ln p.natAbs) c1], .agg #[.bool (decide (q < 0)), .slice A2 (ln q.natAbs) c2]] w (RetZ3 (zgcd p q) (exx p q) (exy p q) 0 w) := by
  have HV := Hd.mk (fun g W (hW : Below w.heap.size w W) hB => valid_num p q A1 c1 A2 c2 g W (h1.to hW) (h2.to hW) hl1 hl2 hB)
  have H1 := Hd.mk h1
  have H2 := Hd.mk h2
  have hlg : ln (zgcd p q).natAbs ≤ 256 := Nat.le_trans (zgcd_ln _ _) (Nat.max_le.2 ⟨hl1, hl2⟩)
  obtain ⟨g, hg⟩ : ∃ g, g = zgcd p q := ⟨_, rfl⟩
  have HGE := Hd.mk hg
  rw [← hg] at hlg ⊢
  clear h1 h2 hg
  obtain ⟨b1, hb1⟩ : ∃ b, b = decide (p < 0) := ⟨_, rfl⟩
  obtain ⟨b2, hb2⟩ : ∃ b, b = decide (q < 0) := ⟨_, rfl⟩
  have HB1 := Hd.mk hb1
  have HB2' := Hd.mk hb2
  rw [← hb1, ← hb2] at HV ⊢
  clear hb1 hb2
  obtain ⟨ex, hex⟩ : ∃ x, x = exx p q := ⟨_, rfl⟩
  obtain ⟨ey, hey⟩ : ∃ x, x = exy p q := ⟨_, rfl⟩
  have HEX := Hd.mk hex
  have HEY := Hd.mk hey
  rw [← hex, ← hey]
  clear hex hey
  go_enter Try.func42, Try.ntmps42
  go_wp2_with fail
  obtain ⟨W0, hW0⟩ : ∃ W : World, W = ((((w.alloc (.cells #[.bool b1, .slice A1 (ln p.natAbs) c1] 24)).alloc (.cells #[.bool b2, .slice A2 (ln q.natAbs) c2] 24)).alloc (.cells #[.bool false, .slice none 0 0] 24)).alloc (.cells #[.bool false, .slice none 0 0] 24)).alloc (.cells #[.bool false, .slice none 0 0] 24) := ⟨_, rfl⟩
  rw [← hW0]
  obtain ⟨hB0, hB1, hB2, hB3, hB4, hBW⟩ := boxes5 hW0
  have HB : Hd (Below w.heap.size w W0) := ⟨hBW⟩
  have HSZ : Hd (w.heap.size + 1 + 1 + 1 + 1 + 1 = W0.heap.size) := ⟨by rw [hW0]; simp⟩
  have L0 : Hd (HZ W0 w.heap.size 24 p) := ⟨A1, c1, by rw [HB1.out] at hB0; exact hB0, H1.out.to hBW⟩
  have L1 : Hd (HZ W0 (w.heap.size + 1) 24 q) := ⟨A2, c2, by rw [HB2'.out] at hB1; exact hB1, H2.out.to hBW⟩
  have R4 : Hd (HB2 W0 (w.heap.size + 1 + 1) 24) := ⟨_, _, _, _, hB2⟩
  have R5 : Hd (HB2 W0 (w.heap.size + 1 + 1 + 1) 24) := ⟨_, _, _, _, hB3⟩
  have R6 : Hd (HB2 W0 (w.heap.size + 1 + 1 + 1 + 1) 24) := ⟨_, _, _, _, hB4⟩
  clear hW0 hB0 hB1 hB2 hB3 hB4 hBW
  refine (HV.out _ _ (bel_then HB.out (below_alloc (Below.refl _ _) _)) (blk_new HSZ.out _ _)).mono ?_
  rintro e w1 ⟨rfl, hb1⟩
  replace hb1 := bel_then (below_alloc (Below.refl _ _) _) hb1
  replace L0 := Hd.mk (L0.out.to hb1)
  replace L1 := Hd.mk (L1.out.to hb1)
  replace R4 := Hd.mk (R4.out.to hb1)
  replace R5 := Hd.mk (R5.out.to hb1)
  replace R6 := Hd.mk (R6.out.to hb1)
  replace HB := Hd.mk (bel_then HB.out hb1)
  clear hb1
  go_wp2_with fail
  refine wp_region_vs 6 [32, 33, 34, 35, 8, 9] [] [4, 5] 70 [.bool false, .slice none 0 0] [isZ p, isZ p, isZ q, isZ q] (by kernel_rfl) (by kernel_rfl) (by kernel_rfl) (by rfl) alloc_whole (fun d v c a w h => by cases d <;> exact h) ?_ ?_
  · intro i hi hA a wx hb hs hd
    match i, hi, hA with
    | 0, _, _ => exact op_loadA rfl rfl (hs 2 rfl) (L0.out.to hb)
    | 1, _, _ => exact op_call1 rfl rfl Try.call69 (z1_same (fun A1 c1 => of_calls _ _ _ _ _) (hd 0 rfl))
    | 2, _, _ => exact op_loadA rfl rfl (hs 3 rfl) (L1.out.to hb)
    | 3, _, _ => exact op_call1 rfl rfl Try.call69 (z1_same (fun A1 c1 => of_calls _ _ _ _ _) (hd 2 rfl))
    | 4, _, h => cases h
    | 5, _, h => cases h
    | i + 6, h, _ => omega
  · intro vs wx hb hv hal hne
    obtain ⟨A8, c8, e8, hn8⟩ : (isZ (p)).p (vs 33) wx := hv 1 (by decide) rfl
    obtain ⟨g8, eg8, hgl8, hgb8⟩ : ∃ g, vs 8 = .pointer (some ⟨g, 0, none⟩) ∧ _ := hal 4 rfl
    obtain ⟨A9, c9, e9, hn9⟩ : (isZ (q)).p (vs 35) wx := hv 3 (by decide) rfl
    obtain ⟨g9, eg9, hgl9, hgb9⟩ : ∃ g, vs 9 = .pointer (some ⟨g, 0, none⟩) ∧ _ := hal 5 rfl
    have hgne : g8 ≠ g9 := ptr_ne (by rw [← eg8, ← eg9]; exact hne 4 5 rfl rfl (by decide))
    have hgne' := Ne.symm hgne
    simp only [putAll, List.foldl_cons, List.foldl_nil, Act.put, List.setIfInBounds_toArray, List.set_cons_succ, List.set_cons_zero, List.drop_succ_cons, List.drop_zero, e8, eg8, e9, eg9]
    generalize vs 32 = s32
    generalize vs 34 = s34
    obtain ⟨Wc0, hWc0⟩ : ∃ W, W = put2 wx g8 (.bool (decide (p < 0))) (.slice A8 (ln (p).natAbs) c8) := ⟨_, rfl⟩
    obtain ⟨Wc1, hWc1⟩ : ∃ W, W = put2 Wc0 g9 (.bool (decide (q < 0))) (.slice A9 (ln (q).natAbs) c9) := ⟨_, rfl⟩
    replace L0 : Hd (HZ Wc1 w.heap.size 24 p) := ⟨by rw [hWc1]; rw [hWc0]; exact HZ.new2 L0.out hb hgl8 ⟨_, _, _, _, hgb8⟩ hgl9 ⟨_, _, _, _, hgb9⟩ hgne _ _ _ _⟩
    replace L1 : Hd (HZ Wc1 (w.heap.size + 1) 24 q) := ⟨by rw [hWc1]; rw [hWc0]; exact HZ.new2 L1.out hb hgl8 ⟨_, _, _, _, hgb8⟩ hgl9 ⟨_, _, _, _, hgb9⟩ hgne _ _ _ _⟩
    replace R4 : Hd (HB2 Wc1 (w.heap.size + 1 + 1) 24) := ⟨by rw [hWc1]; rw [hWc0]; exact HB2.new2 R4.out hb hgl8 ⟨_, _, _, _, hgb8⟩ hgl9 ⟨_, _, _, _, hgb9⟩ hgne _ _ _ _⟩
    replace R5 : Hd (HB2 Wc1 (w.heap.size + 1 + 1 + 1) 24) := ⟨by rw [hWc1]; rw [hWc0]; exact HB2.new2 R5.out hb hgl8 ⟨_, _, _, _, hgb8⟩ hgl9 ⟨_, _, _, _, hgb9⟩ hgne _ _ _ _⟩
    replace R6 : Hd (HB2 Wc1 (w.heap.size + 1 + 1 + 1 + 1) 24) := ⟨by rw [hWc1]; rw [hWc0]; exact HB2.new2 R6.out hb hgl8 ⟨_, _, _, _, hgb8⟩ hgl9 ⟨_, _, _, _, hgb9⟩ hgne _ _ _ _⟩
    have P8 : Hd (HZ Wc1 g8 70 (p)) := ⟨by rw [hWc1]; rw [hWc0]; exact HZ.put (HZ.set ⟨_, _, _, _, hgb8⟩ hn8) (HB2.put ⟨_, _, _, _, hgb9⟩ hgne' _ _) hgne _ _⟩
    have P9 : Hd (HZ Wc1 g9 70 (q)) := ⟨by rw [hWc1]; rw [hWc0]; exact HZ.set (HB2.put ⟨_, _, _, _, hgb9⟩ hgne' _ _) (hn9.put ⟨_, _, _, _, hgb8⟩ _ _)⟩
    replace HB : Hd (Below w.heap.size w Wc1) := ⟨by rw [hWc1]; rw [hWc0]; exact Below.new2 HB.out hb hgl8 hgl9 _ _ _ _⟩
    have x8a := hgb8.c0
    have x8b := hgb8.c1
    have x8c := hgb8.f0
    have x8d := hgb8.f1
    have x9a := hgb9.c0
    have x9b := hgb9.c1
    have x9c := hgb9.f0
    have x9d := hgb9.f1
    unfold put2 at hWc0 hWc1
    rw [hWc0] at hWc1
    clear hv hal hne hb e8 eg8 hgl8 hgb8 hn8 e9 eg9 hgl9 hgb9 hn9 hWc0
    go_upto_region 4 with fail
    rw [← hWc1]
    clear hWc1 x8a x8b x8c x8d x9a x9b x9c x9d hgne hgne'
    obtain ⟨Ap, cp, hBp, hnp⟩ := P8.out
    obtain ⟨Aq, cq, hBq, hnq⟩ := P9.out
    have p0 := hBp.c0; have p1 := hBp.c1
    have q0 := hBq.c0; have q1 := hBq.c1
    have HC := Hd.mk (gcd_calls Ap cp p.natAbs Aq cq q.natAbs _ hnp hnq (by omega) (by omega))
    rw [← zgcd_abs, ← HGE.out] at HC
    have hgs : decide (g < 0) = false := by rw [HGE.out]; exact zgcd_sign p q
    have HGS := Hd.mk hgs
    clear hBp hBq hnp hnq hgs
    go_wp2_with fail
    refine HC.out.mono ?_
    rintro e w4 ⟨A10, c10, rfl, hn10, hb4⟩
    go_upto_region 5 with fail
    obtain ⟨W4, hW4⟩ : ∃ W : World, W = w4.alloc (.cells #[.bool false, .slice A10 (ln g.natAbs) c10] 70) := ⟨_, rfl⟩
    rw [← hW4]
    obtain ⟨hX, hbw⟩ := boxes1 hW4
    have hb44 := bel_then hb4 hbw
    replace L0 := Hd.mk (L0.out.to hb44)
    replace L1 := Hd.mk (L1.out.to hb44)
    replace R4 := Hd.mk (R4.out.to hb44)
    replace R5 := Hd.mk (R5.out.to hb44)
    replace R6 := Hd.mk (R6.out.to hb44)
    replace P8 := Hd.mk (P8.out.to hb44)
    replace P9 := Hd.mk (P9.out.to hb44)
    replace HB := Hd.mk (bel_then HB.out hb44)
    have P10 : Hd (HZ W4 w4.heap.size 70 g) := ⟨A10, c10, by rw [HGS.out]; exact hX, NN.to hn10 hbw⟩
    obtain ⟨g10, hg10⟩ : ∃ g, g = w4.heap.size := ⟨_, rfl⟩
    rw [← hg10] at P10 ⊢
    clear hW4 hX hbw hb4 hb44 hn10 hg10 p0 p1 q0 q1 HC
    obtain ⟨Aq, cq, hBq, hnq⟩ := P9.out
    have q0 := hBq.c0; have q1 := hBq.c1
    have HQ9 := Hd.mk hBq
    have HNQ9 := Hd.mk hnq
    clear hBq hnq
    go_wp2_with fail
    refine (zero_calls _ _ _ _ (by omega)).mono ?_
    rintro e w5 ⟨rfl, rfl⟩
    by_cases hq : q = 0
    · have hd0 : decide (ln q.natAbs = 0) = true := decide_eq_true (by rw [hq]; exact ln_zero)
      rw [hd0]
      have HX0 : Hd (ex = sgnv p) := ⟨by rw [HEX.out]; unfold exx; rw [if_pos hq]⟩
      have HY0 : Hd (ey = 0) := ⟨by rw [HEY.out]; unfold exy; rw [if_pos hq]⟩
      have hsg := ln_sgn p
      clear hd0 hq HQ9 HNQ9
      obtain ⟨Ap, cp, hBp, hnp⟩ := P8.out
      have p0 := hBp.c0; have p1 := hBp.c1
      have HC := Hd.mk (wcmp_z p Ap cp _ hnp)
      clear hBp hnp
      go_wp2_with fail
      refine HC.out.mono ?_
      rintro e w6 ⟨rfl, hb6⟩
      clear HC
      go_wp2_with fail
      refine (ofInt_sgn p _ _ rfl).mono ?_
      rintro e w7 ⟨_, rfl, hb7, A11, c11, rfl, hn11⟩
      go_upto_region 7 with fail
      obtain ⟨W7, hW7⟩ : ∃ W : World, W = w7.alloc (.cells #[.bool (decide (sgnv p < 0)), .slice A11 (ln (sgnv p).natAbs) c11] 70) := ⟨_, rfl⟩
      rw [← hW7]
      obtain ⟨hX, hbw⟩ := boxes1 hW7
      have hb77 := bel_then (bel_then hb6 hb7) hbw
      replace L0 := Hd.mk (L0.out.to hb77)
      replace L1 := Hd.mk (L1.out.to hb77)
      replace R4 := Hd.mk (R4.out.to hb77)
      replace R5 := Hd.mk (R5.out.to hb77)
      replace R6 := Hd.mk (R6.out.to hb77)
      replace P8 := Hd.mk (P8.out.to hb77)
      replace P9 := Hd.mk (P9.out.to hb77)
      replace P10 := Hd.mk (P10.out.to hb77)
      replace HB := Hd.mk (bel_then HB.out hb77)
      have P11 : Hd (HZ W7 w7.heap.size 70 (sgnv p)) := ⟨A11, c11, hX, NN.to hn11 hbw⟩
      obtain ⟨g11, hg11⟩ : ∃ g, g = w7.heap.size := ⟨_, rfl⟩
      rw [← hg11] at P11 ⊢
      clear hW7 hX hbw hb6 hb7 hb77 hn11 hg11 p0 p1
      refine wp_region_vs 5 [49, 50, 51, 52, 53] [4] [] 24 [.bool false, .slice none 0 0] [isZ g, isZ g, isZ (sgnv p), isZ (sgnv p), isV (.agg #[.bool false, .slice none 0 0])] (by kernel_rfl) (by kernel_rfl) (by kernel_rfl) (by rfl) alloc_api (fun d v c a w h => by cases d <;> exact h) ?_ ?_
      · intro i hi hA a wx hb hs hd
        match i, hi, hA with
        | 0, _, _ => exact op_loadW rfl rfl (hs 10 rfl) (P10.out.to hb)
        | 1, _, _ => exact op_call1 rfl rfl Try.call72 (z1 (fun A1 c1 h1 => value_calls (g) A1 c1 _ h1 (by omega)) (fun e w' h => h.got) (hd 0 rfl))
        | 2, _, _ => exact op_loadW rfl rfl (hs 11 rfl) (P11.out.to hb)
        | 3, _, _ => exact op_call1 rfl rfl Try.call72 (z1 (fun A1 c1 h1 => value_calls (sgnv p) A1 c1 _ h1 (by omega)) (fun e w' h => h.got) (hd 2 rfl))
        | 4, _, _ => exact ⟨_, op_zeroA (P := Try.prog) (Q := fun _ _ _ => True) (d := 0) rfl, rfl⟩
        | i + 5, h, _ => omega
      · intro vs wx hb hv hal hne
        obtain ⟨A3, c3, e1, hn1⟩ : (isZ g).p (vs 50) wx := hv 1 (by decide) rfl
        obtain ⟨A4, c4, e3, hn3⟩ : (isZ (sgnv p)).p (vs 52) wx := hv 3 (by decide) rfl
        have e5 : vs 53 = .agg #[.bool (decide (ey < 0)), .slice none (ln ey.natAbs) 0] := by rw [HY0.out, show ln (Int.natAbs 0) = 0 from ln_zero]; exact hv 4 (by decide) rfl
        simp only [putAll, List.foldl_cons, List.foldl_nil, Act.put, List.setIfInBounds_toArray, List.set_cons_succ, List.set_cons_zero, List.drop_succ_cons, List.drop_zero, e1, e3, e5]
        generalize vs 49 = s49
        generalize vs 51 = s51
        replace L0 := Hd.mk (L0.out.to hb)
        replace L1 := Hd.mk (L1.out.to hb)
        replace R4 := Hd.mk (R4.out.to hb)
        replace R5 := Hd.mk (R5.out.to hb)
        replace R6 := Hd.mk (R6.out.to hb)
        replace HB := Hd.mk (bel_then HB.out hb)
        have N3 := Hd.mk hn1
        have N4 := Hd.mk hn3
        rw [← HX0.out] at N4 ⊢
        clear hv hal hne e1 e3 e5 hb hn1 hn3 P8 P9 P10 P11
        obtain ⟨f4a, f4b, f4c, f4d, h4⟩ := R4.out
        obtain ⟨f5a, f5b, f5c, f5d, h5⟩ := R5.out
        obtain ⟨f6a, f6b, f6c, f6d, h6⟩ := R6.out
        have y4a := h4.c0; have y4b := h4.c1
        have y4c := h4.f0; have y4d := h4.f1
        have y5a := h5.c0; have y5b := h5.c1
        have y5c := h5.f0; have y5d := h5.f1
        have y6a := h6.c0; have y6b := h6.c1
        have y6c := h6.f0; have y6d := h6.f1
        clear h4 h5 h6
        go_wp2_with fail
        obtain ⟨WF, hWF⟩ : ∃ W, W = put2 (put2 (put2 wx (w.heap.size + 1 + 1) (.bool (decide (g < 0))) (.slice A3 (ln g.natAbs) c3)) (w.heap.size + 1 + 1 + 1) (.bool (decide (ex < 0))) (.slice A4 (ln ex.natAbs) c4)) (w.heap.size + 1 + 1 + 1 + 1) (.bool (decide (ey < 0))) (.slice none (ln (ey).natAbs) 0) := ⟨_, rfl⟩
        obtain ⟨k4, k5, k6⟩ := three_put R4.out R5.out R6.out (by omega) (by omega) (by omega) (.bool (decide (g < 0))) (.slice A3 (ln g.natAbs) c3) (.bool (decide (ex < 0))) (.slice A4 (ln ex.natAbs) c4) (.bool (decide (ey < 0))) (.slice none (ln (ey).natAbs) 0)
        have T3 : NN WF A3 c3 g.natAbs := by rw [hWF]; exact three_nn R4.out R5.out R6.out (by omega) (by omega) (by omega) _ _ _ _ _ _ N3.out
        have T4 : NN WF A4 c4 ex.natAbs := by rw [hWF]; exact three_nn R4.out R5.out R6.out (by omega) (by omega) (by omega) _ _ _ _ _ _ N4.out
        have TB : Below w.heap.size w WF := by rw [hWF]; exact three_below HB.out (by omega) (by omega) (by omega) _ _ _ _ _ _
        have hWG := hWF
        rw [← hWF] at k4 k5 k6
        unfold put2 at hWF
        rw [← hWF]
        have z0 := k4.c0
        have z1 := k4.c1
        have z2 := k5.c0
        have z3 := k5.c1
        have z4 := k6.c0
        have z5 := k6.c1
        refine bodyPost_ret (v := .tuple #[.agg #[.bool (decide (g < 0)), .slice A3 (ln g.natAbs) c3], .agg #[.bool (decide (ex < 0)), .slice A4 (ln ex.natAbs) c4], .agg #[.bool (decide (ey < 0)), .slice none (ln (ey).natAbs) 0], .int .i64 0]) (by simp [results, Try.results42, go_sem, z0, z1, z2, z3, z4, z5]) rfl ?_
        have T5 : NN WF none 0 ey.natAbs := by rw [HY0.out]; exact NN.nil _ _ _ (by omega)
        exact ⟨A3, c3, A4, c4, none, 0, rfl, T3, T4, T5, TB⟩
    · have hd0 : decide (ln q.natAbs = 0) = false := decide_eq_false (fun h => hq (by have := ln_eq_zero.1 h; omega))
      rw [hd0]
      have HQ0 := Hd.mk hq
      clear hd0 hq q0 q1
      go_wp2_with fail
      refine wp_region_vl 8 [54, 55, 56, 57, 12, 13, 14, 15] [3] [1] [4, 5, 6, 7] 70 [.bool false, .slice none 0 0] [isZ p, isV (.agg #[.bool (decide (q < 0)), .slice Aq (ln q.natAbs) cq]), isZ 1, isV (.agg #[.bool false, .slice none 0 0])] (fun _ => At2 g9 (.bool (decide (q < 0))) (.slice Aq (ln q.natAbs) cq)) (by kernel_rfl) (by kernel_rfl) (by kernel_rfl) (by rfl) (by kernel_rfl) ?_ alloc_whole (fun d v c a w h => by cases d <;> exact h) ?_ ?_
      · exact fun i _ wx hb => (HQ9.out.to hb).at2
      · intro i hi hA a wx hb hs hd
        match i, hi, hA with
        | 0, _, _ => exact op_loadW rfl rfl (hs 8 rfl) (P8.out.to hb)
        | 1, _, _ => exact ⟨_, op_loadY rfl (hs 9 rfl) (fun w hw => load_whole hw.1 hw.2), rfl⟩
        | 2, _, _ =>
          simp only [List.getElem?_cons_succ, List.getElem?_cons_zero]
          rw [if_neg (by decide), if_neg (by decide)]
          exact op_call1 rfl rfl Try.call71 (ofInt_one wx)
        | 3, _, _ => exact ⟨_, op_zeroW (P := Try.prog) (Q := fun _ _ _ => True) (d := 0) rfl, rfl⟩
        | 4, _, h => cases h
        | 5, _, h => cases h
        | 6, _, h => cases h
        | 7, _, h => cases h
        | i + 8, h, _ => omega
      · intro vs wx hb hv hal hne
        obtain ⟨A54, c54, e54, n54⟩ : (isZ p).p (vs 54) wx := hv 0 (by decide) rfl
        have e55 : vs 55 = .agg #[.bool (decide (q < 0)), .slice Aq (ln q.natAbs) cq] := hv 1 (by decide) rfl
        obtain ⟨A56, c56, e56, n56⟩ : (isZ 1).p (vs 56) wx := hv 2 (by decide) rfl
        have e57 : vs 57 = .agg #[.bool false, .slice none 0 0] := hv 3 (by decide) rfl
        obtain ⟨g12, eg12, hgl12, hgb12⟩ : ∃ g, vs 12 = .pointer (some ⟨g, 0, none⟩) ∧ _ := hal 4 rfl
        obtain ⟨g13, eg13, hgl13, hgb13⟩ : ∃ g, vs 13 = .pointer (some ⟨g, 0, none⟩) ∧ _ := hal 5 rfl
        obtain ⟨g14, eg14, hgl14, hgb14⟩ : ∃ g, vs 14 = .pointer (some ⟨g, 0, none⟩) ∧ _ := hal 6 rfl
        obtain ⟨g15, eg15, hgl15, hgb15⟩ : ∃ g, vs 15 = .pointer (some ⟨g, 0, none⟩) ∧ _ := hal 7 rfl
        have d1213 : g12 ≠ g13 := ptr_ne (by rw [← eg12, ← eg13]; exact hne 4 5 rfl rfl (by decide))
        have d1214 : g12 ≠ g14 := ptr_ne (by rw [← eg12, ← eg14]; exact hne 4 6 rfl rfl (by decide))
        have d1215 : g12 ≠ g15 := ptr_ne (by rw [← eg12, ← eg15]; exact hne 4 7 rfl rfl (by decide))
        have d1314 : g13 ≠ g14 := ptr_ne (by rw [← eg13, ← eg14]; exact hne 5 6 rfl rfl (by decide))
        have d1315 : g13 ≠ g15 := ptr_ne (by rw [← eg13, ← eg15]; exact hne 5 7 rfl rfl (by decide))
        have d1415 : g14 ≠ g15 := ptr_ne (by rw [← eg14, ← eg15]; exact hne 6 7 rfl rfl (by decide))
        simp only [putAll, List.foldl_cons, List.foldl_nil, Act.put, List.setIfInBounds_toArray, List.set_cons_succ, List.set_cons_zero, List.drop_succ_cons, List.drop_zero, e54, e55, e56, e57, eg12, eg13, eg14, eg15]
        have ltL0 := L0.out.lt
        have ltL1 := L1.out.lt
        have ltR4 := R4.out.lt
        have ltR5 := R5.out.lt
        have ltR6 := R6.out.lt
        have ltP8 := P8.out.lt
        have ltP9 := P9.out.lt
        have ltP10 := P10.out.lt
        have qL0 := L0.out.to hb
        have qL1 := L1.out.to hb
        have qR4 := R4.out.to hb
        have qR5 := R5.out.to hb
        have qR6 := R6.out.to hb
        have qP8 := P8.out.to hb
        have qP9 := P9.out.to hb
        have qP10 := P10.out.to hb
        have qb := bel_then HB.out hb
        have hws := HB.out.size
        have n55 : NN wx Aq cq q.natAbs := HNQ9.out.to hb
        have n57 : NN wx none 0 (0 : Int).natAbs := NN.nil _ _ _ (by omega)
        have hq9w := HQ9.out.to hb
        have q12 : HB2 wx g12 70 := ⟨_, _, _, _, hgb12⟩
        have q13 : HB2 wx g13 70 := ⟨_, _, _, _, hgb13⟩
        have q14 : HB2 wx g14 70 := ⟨_, _, _, _, hgb14⟩
        have q15 : HB2 wx g15 70 := ⟨_, _, _, _, hgb15⟩
        refine wpListS_store rfl rfl rfl rfl rfl (store_whole hgb12.c0 hgb12.c1 hgb12.f0 hgb12.f1 _ _ _ _) (SK_mk [3, 1] (by kernel_rfl) (fun i _ _ => (hq9w.put_ (by omega) _ _).at2)) (wpListS_plain _ 9 _ _ (by rw [show lateAt _ _ (9 + 1) = [3] from by kernel_rfl]; intro i hi w hc; simp at hi; subst hi; cases hc) ?_)
        clear hq9w
        obtain ⟨Us0, hUs0⟩ : ∃ W, W = put2 wx g12 (.bool (decide (p < 0))) (.slice A54 (ln (p).natAbs) c54) := ⟨_, rfl⟩
        have btUs0 : HB2 wx g12 70 := q12
        replace qL0 : HZ Us0 w.heap.size 24 (p) := by rw [hUs0]; exact qL0.put btUs0 (by omega) _ _
        replace qL1 : HZ Us0 (w.heap.size + 1) 24 (q) := by rw [hUs0]; exact qL1.put btUs0 (by omega) _ _
        replace qR4 : HB2 Us0 (w.heap.size + 1 + 1) 24 := by rw [hUs0]; exact qR4.put (by omega) _ _
        replace qR5 : HB2 Us0 (w.heap.size + 1 + 1 + 1) 24 := by rw [hUs0]; exact qR5.put (by omega) _ _
        replace qR6 : HB2 Us0 (w.heap.size + 1 + 1 + 1 + 1) 24 := by rw [hUs0]; exact qR6.put (by omega) _ _
        replace qP8 : HZ Us0 g8 70 ((p)) := by rw [hUs0]; exact qP8.put btUs0 (by omega) _ _
        replace qP9 : HZ Us0 g9 70 ((q)) := by rw [hUs0]; exact qP9.put btUs0 (by omega) _ _
        replace qP10 : HZ Us0 g10 70 (g) := by rw [hUs0]; exact qP10.put btUs0 (by omega) _ _
        replace q12 : HZ Us0 g12 70 (p) := by rw [hUs0]; exact HZ.set btUs0 n54
        replace q13 : HB2 Us0 g13 70 := by rw [hUs0]; exact q13.put (by omega) _ _
        replace q14 : HB2 Us0 g14 70 := by rw [hUs0]; exact q14.put (by omega) _ _
        replace q15 : HB2 Us0 g15 70 := by rw [hUs0]; exact q15.put (by omega) _ _
        replace n55 : NN Us0 Aq cq (q).natAbs := by rw [hUs0]; exact n55.put btUs0 _ _
        replace n56 : NN Us0 A56 c56 ((1 : Int)).natAbs := by rw [hUs0]; exact n56.put btUs0 _ _
        replace n57 : NN Us0 none 0 ((0 : Int)).natAbs := by rw [hUs0]; exact n57.put btUs0 _ _
        replace qb : Below w.heap.size w Us0 := by rw [hUs0]; exact below_put qb (by omega) _ _
        obtain ⟨Us1, hUs1⟩ : ∃ W, W = put2 Us0 g13 (.bool (decide (q < 0))) (.slice Aq (ln (q).natAbs) cq) := ⟨_, rfl⟩
        have btUs1 : HB2 Us0 g13 70 := q13
        replace qL0 : HZ Us1 w.heap.size 24 (p) := by rw [hUs1]; exact qL0.put btUs1 (by omega) _ _
        replace qL1 : HZ Us1 (w.heap.size + 1) 24 (q) := by rw [hUs1]; exact qL1.put btUs1 (by omega) _ _
        replace qR4 : HB2 Us1 (w.heap.size + 1 + 1) 24 := by rw [hUs1]; exact qR4.put (by omega) _ _
        replace qR5 : HB2 Us1 (w.heap.size + 1 + 1 + 1) 24 := by rw [hUs1]; exact qR5.put (by omega) _ _
        replace qR6 : HB2 Us1 (w.heap.size + 1 + 1 + 1 + 1) 24 := by rw [hUs1]; exact qR6.put (by omega) _ _
        replace qP8 : HZ Us1 g8 70 ((p)) := by rw [hUs1]; exact qP8.put btUs1 (by omega) _ _
        replace qP9 : HZ Us1 g9 70 ((q)) := by rw [hUs1]; exact qP9.put btUs1 (by omega) _ _
        replace qP10 : HZ Us1 g10 70 (g) := by rw [hUs1]; exact qP10.put btUs1 (by omega) _ _
        replace q12 : HZ Us1 g12 70 (p) := by rw [hUs1]; exact q12.put btUs1 (by omega) _ _
        replace q13 : HZ Us1 g13 70 (q) := by rw [hUs1]; exact HZ.set btUs1 n55
        replace q14 : HB2 Us1 g14 70 := by rw [hUs1]; exact q14.put (by omega) _ _
        replace q15 : HB2 Us1 g15 70 := by rw [hUs1]; exact q15.put (by omega) _ _
        replace n56 : NN Us1 A56 c56 ((1 : Int)).natAbs := by rw [hUs1]; exact n56.put btUs1 _ _
        replace n57 : NN Us1 none 0 ((0 : Int)).natAbs := by rw [hUs1]; exact n57.put btUs1 _ _
        replace qb : Below w.heap.size w Us1 := by rw [hUs1]; exact below_put qb (by omega) _ _
        obtain ⟨Us2, hUs2⟩ : ∃ W, W = put2 Us1 g14 (.bool (decide ((1 : Int) < 0))) (.slice A56 (ln (1 : Int).natAbs) c56) := ⟨_, rfl⟩
        have btUs2 : HB2 Us1 g14 70 := q14
        replace qL0 : HZ Us2 w.heap.size 24 (p) := by rw [hUs2]; exact qL0.put btUs2 (by omega) _ _
        replace qL1 : HZ Us2 (w.heap.size + 1) 24 (q) := by rw [hUs2]; exact qL1.put btUs2 (by omega) _ _
        replace qR4 : HB2 Us2 (w.heap.size + 1 + 1) 24 := by rw [hUs2]; exact qR4.put (by omega) _ _
        replace qR5 : HB2 Us2 (w.heap.size + 1 + 1 + 1) 24 := by rw [hUs2]; exact qR5.put (by omega) _ _
        replace qR6 : HB2 Us2 (w.heap.size + 1 + 1 + 1 + 1) 24 := by rw [hUs2]; exact qR6.put (by omega) _ _
        replace qP8 : HZ Us2 g8 70 ((p)) := by rw [hUs2]; exact qP8.put btUs2 (by omega) _ _
        replace qP9 : HZ Us2 g9 70 ((q)) := by rw [hUs2]; exact qP9.put btUs2 (by omega) _ _
        replace qP10 : HZ Us2 g10 70 (g) := by rw [hUs2]; exact qP10.put btUs2 (by omega) _ _
        replace q12 : HZ Us2 g12 70 (p) := by rw [hUs2]; exact q12.put btUs2 (by omega) _ _
        replace q13 : HZ Us2 g13 70 (q) := by rw [hUs2]; exact q13.put btUs2 (by omega) _ _
        replace q14 : HZ Us2 g14 70 (1) := by rw [hUs2]; exact HZ.set btUs2 n56
        replace q15 : HB2 Us2 g15 70 := by rw [hUs2]; exact q15.put (by omega) _ _
        replace n57 : NN Us2 none 0 ((0 : Int)).natAbs := by rw [hUs2]; exact n57.put btUs2 _ _
        replace qb : Below w.heap.size w Us2 := by rw [hUs2]; exact below_put qb (by omega) _ _
        obtain ⟨Us3, hUs3⟩ : ∃ W, W = put2 Us2 g15 (.bool (decide ((0 : Int) < 0))) (.slice none (ln (0 : Int).natAbs) 0) := ⟨_, rfl⟩
        have btUs3 : HB2 Us2 g15 70 := q15
        replace qL0 : HZ Us3 w.heap.size 24 (p) := by rw [hUs3]; exact qL0.put btUs3 (by omega) _ _
        replace qL1 : HZ Us3 (w.heap.size + 1) 24 (q) := by rw [hUs3]; exact qL1.put btUs3 (by omega) _ _
        replace qR4 : HB2 Us3 (w.heap.size + 1 + 1) 24 := by rw [hUs3]; exact qR4.put (by omega) _ _
        replace qR5 : HB2 Us3 (w.heap.size + 1 + 1 + 1) 24 := by rw [hUs3]; exact qR5.put (by omega) _ _
        replace qR6 : HB2 Us3 (w.heap.size + 1 + 1 + 1 + 1) 24 := by rw [hUs3]; exact qR6.put (by omega) _ _
        replace qP8 : HZ Us3 g8 70 ((p)) := by rw [hUs3]; exact qP8.put btUs3 (by omega) _ _
        replace qP9 : HZ Us3 g9 70 ((q)) := by rw [hUs3]; exact qP9.put btUs3 (by omega) _ _
        replace qP10 : HZ Us3 g10 70 (g) := by rw [hUs3]; exact qP10.put btUs3 (by omega) _ _
        replace q12 : HZ Us3 g12 70 (p) := by rw [hUs3]; exact q12.put btUs3 (by omega) _ _
        replace q13 : HZ Us3 g13 70 (q) := by rw [hUs3]; exact q13.put btUs3 (by omega) _ _
        replace q14 : HZ Us3 g14 70 (1) := by rw [hUs3]; exact q14.put btUs3 (by omega) _ _
        replace q15 : HZ Us3 g15 70 (0) := by rw [hUs3]; exact HZ.set btUs3 n57
        replace qb : Below w.heap.size w Us3 := by rw [hUs3]; exact below_put qb (by omega) _ _
        have x13a := hgb13.c0
        have x13b := hgb13.c1
        have x13c := hgb13.f0
        have x13d := hgb13.f1
        have x14a := hgb14.c0
        have x14b := hgb14.c1
        have x14c := hgb14.f0
        have x14d := hgb14.f1
        have x15a := hgb15.c0
        have x15b := hgb15.c1
        have x15c := hgb15.f0
        have x15d := hgb15.f1
        have z13 : decide ((1 : Int) < 0) = false := rfl
        have z14 : ln (Int.natAbs 0) = 0 := ln_zero
        have z15 : decide ((0 : Int) < 0) = false := rfl
        rw [z13, show (1 : Int).natAbs = 1 from rfl] at hUs2
        rw [z15, z14] at hUs3
        unfold put2 at hUs0 hUs1 hUs2 hUs3
        rw [hUs2, hUs1, hUs0] at hUs3
        have d1312 := Ne.symm d1213
        have d1412 := Ne.symm d1214
        have d1512 := Ne.symm d1215
        have d1413 := Ne.symm d1314
        have d1513 := Ne.symm d1315
        have d1514 := Ne.symm d1415
        have KL0 : Hd (HZ Us3 w.heap.size 24 (p)) := ⟨qL0⟩
        have KL1 : Hd (HZ Us3 (w.heap.size + 1) 24 (q)) := ⟨qL1⟩
        have KR4 : Hd (HB2 Us3 (w.heap.size + 1 + 1) 24) := ⟨qR4⟩
        have KR5 : Hd (HB2 Us3 (w.heap.size + 1 + 1 + 1) 24) := ⟨qR5⟩
        have KR6 : Hd (HB2 Us3 (w.heap.size + 1 + 1 + 1 + 1) 24) := ⟨qR6⟩
        have KP8 : Hd (HZ Us3 g8 70 ((p))) := ⟨qP8⟩
        have KP9 : Hd (HZ Us3 g9 70 ((q))) := ⟨qP9⟩
        have KP10 : Hd (HZ Us3 g10 70 (g)) := ⟨qP10⟩
        have K12 : Hd (HZ Us3 g12 70 (p)) := ⟨q12⟩
        have K13 : Hd (HZ Us3 g13 70 (q)) := ⟨q13⟩
        have K14 : Hd (HZ Us3 g14 70 (1)) := ⟨q14⟩
        have K15 : Hd (HZ Us3 g15 70 (0)) := ⟨q15⟩
        have HB8 : Hd (Below w.heap.size w Us3) := ⟨qb⟩
        have HDN : Hd (g12 ≠ g13 ∧ g12 ≠ g14 ∧ g12 ≠ g15 ∧ g13 ≠ g14 ∧ g13 ≠ g15 ∧ g14 ≠ g15) := ⟨⟨d1213, d1214, d1215, d1314, d1315, d1415⟩⟩
        have HGW : Hd (w.heap.size ≤ g12 ∧ w.heap.size ≤ g13 ∧ w.heap.size ≤ g14 ∧ w.heap.size ≤ g15) := ⟨by omega⟩
        have HLTL0 : Hd (w.heap.size < g12 ∧ w.heap.size < g13 ∧ w.heap.size < g14 ∧ w.heap.size < g15) := ⟨by omega⟩
        have HLTL1 : Hd ((w.heap.size + 1) < g12 ∧ (w.heap.size + 1) < g13 ∧ (w.heap.size + 1) < g14 ∧ (w.heap.size + 1) < g15) := ⟨by omega⟩
        have HLTR4 : Hd ((w.heap.size + 1 + 1) < g12 ∧ (w.heap.size + 1 + 1) < g13 ∧ (w.heap.size + 1 + 1) < g14 ∧ (w.heap.size + 1 + 1) < g15) := ⟨by omega⟩
        have HLTR5 : Hd ((w.heap.size + 1 + 1 + 1) < g12 ∧ (w.heap.size + 1 + 1 + 1) < g13 ∧ (w.heap.size + 1 + 1 + 1) < g14 ∧ (w.heap.size + 1 + 1 + 1) < g15) := ⟨by omega⟩
        have HLTR6 : Hd ((w.heap.size + 1 + 1 + 1 + 1) < g12 ∧ (w.heap.size + 1 + 1 + 1 + 1) < g13 ∧ (w.heap.size + 1 + 1 + 1 + 1) < g14 ∧ (w.heap.size + 1 + 1 + 1 + 1) < g15) := ⟨by omega⟩
        have HLTP8 : Hd (g8 < g12 ∧ g8 < g13 ∧ g8 < g14 ∧ g8 < g15) := ⟨by omega⟩
        have HLTP9 : Hd (g9 < g12 ∧ g9 < g13 ∧ g9 < g14 ∧ g9 < g15) := ⟨by omega⟩
        have HLTP10 : Hd (g10 < g12 ∧ g10 < g13 ∧ g10 < g14 ∧ g10 < g15) := ⟨by omega⟩
        clear hv hal hne hb e54 e55 e56 e57 eg12 eg13 eg14 eg15 hgl12 hgl13 hgl14 hgl15 hgb12 hgb13 hgb14 hgb15 n54 n55 n56 n57 qb hws z13 z14 z15 hUs0 hUs1 hUs2 btUs0 btUs1 btUs2 btUs3 HQ9 HNQ9 HB qL0 qL1 qR4 qR5 qR6 qP8 qP9 qP10 q12 q13 q14 q15 ltL0 ltL1 ltR4 ltR5 ltR6 ltP8 ltP9 ltP10 L0 L1 R4 R5 R6 P8 P9 P10
        go_upto_region 9 with fail
        rw [← hUs3]
        clear hUs3 x13a x13b x13c x13d x14a x14b x14c x14d x15a x15b x15c x15d d1213 d1312 d1214 d1412 d1215 d1512 d1314 d1413 d1315 d1513 d1415 d1514
        go_loopg [] q.natAbs (fun gk wr => ∃ r0 r1 s0 s1 : Int, HZ wr w.heap.size 24 p ∧ HZ wr (w.heap.size + 1) 24 q ∧ HB2 wr (w.heap.size + 1 + 1) 24 ∧ HB2 wr (w.heap.size + 1 + 1 + 1) 24 ∧ HB2 wr (w.heap.size + 1 + 1 + 1 + 1) 24 ∧ HZ wr g8 70 (p) ∧ HZ wr g9 70 (q) ∧ HZ wr g10 70 g ∧ HZ wr g12 70 r0 ∧ HZ wr g13 70 r1 ∧ HZ wr g14 70 s0 ∧ HZ wr g15 70 s1 ∧ EU p q r0 r1 s0 s1 ∧ r1.natAbs ≤ gk ∧ Below w.heap.size w wr)
        case atStart => exact ⟨p, q, 1, 0, KL0.out, KL1.out, KR4.out, KR5.out, KR6.out, KP8.out, KP9.out, KP10.out, K12.out, K13.out, K14.out, K15.out, EU.start HQ0.out, Nat.le_refl _, HB8.out⟩
        case round =>
          obtain ⟨r0, r1, s0, s1, hL0, hL1, hR4, hR5, hR6, hP8, hP9, hP10, hP12, hP13, hP14, hP15, heu, hgk, hbel⟩ := hrel
          have L0 := Hd.mk hL0
          have L1 := Hd.mk hL1
          have R4 := Hd.mk hR4
          have R5 := Hd.mk hR5
          have R6 := Hd.mk hR6
          have P8 := Hd.mk hP8
          have P9 := Hd.mk hP9
          have P10 := Hd.mk hP10
          have P12 := Hd.mk hP12
          have P13 := Hd.mk hP13
          have P14 := Hd.mk hP14
          have P15 := Hd.mk hP15
          have HEU := Hd.mk heu
          have HGK := Hd.mk hgk
          have HB := Hd.mk hbel
          have hlr0 : ln r0.natAbs ≤ 300 := Nat.le_trans (ln_mono heu.a0) (Nat.le_trans (ln_add _ _) (by omega))
          have hlr1 : ln r1.natAbs ≤ 300 := Nat.le_trans (ln_mono heu.a1) (by omega)
          have hls0 : ln s0.natAbs ≤ 300 := Nat.le_trans (ln_mono heu.b0) (Nat.le_trans (ln_mul _ _) (by have := ln_word (d := 3) (by omega); omega))
          have hls1 : ln s1.natAbs ≤ 300 := Nat.le_trans (ln_mono heu.b1) (Nat.le_trans (ln_mul _ _) (by have := ln_word (d := 3) (by omega); omega))
          clear heu hgk hbel HB8 hL0 hL1 hR4 hR5 hR6 hP8 hP9 hP10 hP12 hP13 hP14 hP15 KL0 KL1 KR4 KR5 KR6 KP8 KP9 KP10 K12 K13 K14 K15
          obtain ⟨Ar1, cr1, hBr1, hnr1⟩ := P13.out
          have u0 := hBr1.c0; have u1 := hBr1.c1
          clear hBr1 hnr1
          go_wp2_with fail
          refine (zero_calls _ _ _ _ (by omega)).mono ?_
          rintro e w5 ⟨rfl, rfl⟩
          by_cases hr1 : r1 = 0
          · have hd0 : decide (ln r1.natAbs = 0) = true := decide_eq_true (by rw [hr1]; exact ln_zero)
            rw [hd0]
            have HEN := Hd.mk (EU.end_ (by rw [← hr1]; exact HEU.out : EU p q r0 0 s0 s1))
            clear hd0 hr1 u0 u1 HEU HGK P13 P15
            obtain ⟨Ar0, cr0, hBr0, hnr0⟩ := P12.out
            have u0 := hBr0.c0; have u1 := hBr0.c1
            clear hBr0 hnr0
            by_cases hneg : r0 < 0
            · have HSX : Hd (q ∣ p * -s0 - g) := ⟨by have := HEN.out.2; rw [if_pos hneg] at this; rw [HGE.out]; exact this⟩
              have hdn : decide (r0 < 0) = true := decide_eq_true hneg
              rw [hdn] at u0
              clear hdn hneg HEN P12
              obtain ⟨As, cs, hBs, hns⟩ := P14.out
              have v0 := hBs.c0; have v1 := hBs.c1
              have v2 := hBs.f0; have v3 := hBs.f1
              have HM := Hd.mk (minus_calls s0 As cs _ hns)
              obtain ⟨sx, hsx⟩ : ∃ s, s = -s0 := ⟨_, rfl⟩
              rw [← hsx] at HM HSX
              have HNS := Hd.mk hns
              have HSN : Hd (sx.natAbs = s0.natAbs) := ⟨by rw [hsx, Int.natAbs_neg]⟩
              clear hsx
              clear hBs hns
              go_wp2_with fail
              refine HM.out.mono ?_
              rintro e w6 ⟨rfl, hb6⟩
              have J14 := (P14.out.to hb6).any
              have hns := HNS.out.to hb6
              replace L0 := Hd.mk (L0.out.to hb6)
              replace L1 := Hd.mk (L1.out.to hb6)
              replace R4 := Hd.mk (R4.out.to hb6)
              replace R5 := Hd.mk (R5.out.to hb6)
              replace R6 := Hd.mk (R6.out.to hb6)
              replace P8 := Hd.mk (P8.out.to hb6)
              replace P9 := Hd.mk (P9.out.to hb6)
              replace P10 := Hd.mk (P10.out.to hb6)
              replace HB := Hd.mk (bel_then HB.out hb6)
              obtain ⟨f1, f2, f3, f4, hf⟩ := J14
              clear hb6 u0 u1 v0 v1 v2 v3 HM P14
              have v0 := hf.c0; have v1 := hf.c1
              have v2 := hf.f0; have v3 := hf.f1
              go_upto_region 14 with fail
              obtain ⟨WN, hWN⟩ : ∃ W, W = put2 w6 g14 (.bool (decide (sx < 0))) (.slice As (ln s0.natAbs) cs) := ⟨_, rfl⟩
              replace L0 : Hd (HZ WN w.heap.size 24 (p)) := ⟨by rw [hWN]; exact L0.out.put ⟨_, _, _, _, hf⟩ (by have := HLTL0.out; omega) _ _⟩
              replace L1 : Hd (HZ WN (w.heap.size + 1) 24 (q)) := ⟨by rw [hWN]; exact L1.out.put ⟨_, _, _, _, hf⟩ (by have := HLTL1.out; omega) _ _⟩
              replace R4 : Hd (HB2 WN (w.heap.size + 1 + 1) 24) := ⟨by rw [hWN]; exact R4.out.put (by have := HLTR4.out; omega) _ _⟩
              replace R5 : Hd (HB2 WN (w.heap.size + 1 + 1 + 1) 24) := ⟨by rw [hWN]; exact R5.out.put (by have := HLTR5.out; omega) _ _⟩
              replace R6 : Hd (HB2 WN (w.heap.size + 1 + 1 + 1 + 1) 24) := ⟨by rw [hWN]; exact R6.out.put (by have := HLTR6.out; omega) _ _⟩
              replace P8 : Hd (HZ WN g8 70 ((p))) := ⟨by rw [hWN]; exact P8.out.put ⟨_, _, _, _, hf⟩ (by have := HLTP8.out; omega) _ _⟩
              replace P9 : Hd (HZ WN g9 70 ((q))) := ⟨by rw [hWN]; exact P9.out.put ⟨_, _, _, _, hf⟩ (by have := HLTP9.out; omega) _ _⟩
              replace P10 : Hd (HZ WN g10 70 (g)) := ⟨by rw [hWN]; exact P10.out.put ⟨_, _, _, _, hf⟩ (by have := HLTP10.out; omega) _ _⟩
              have P14 : Hd (HZ WN g14 70 sx) := ⟨by rw [hWN]; have := HZ.set (z := sx) (A := As) (c := cs) ⟨_, _, _, _, hf⟩ (by rw [HSN.out]; exact hns); rw [HSN.out] at this; exact this⟩
              replace HB : Hd (Below w.heap.size w WN) := ⟨by rw [hWN]; exact below_put HB.out (by have := HGW.out; omega) _ _⟩
              have hlsx : ln sx.natAbs ≤ 300 := by rw [HSN.out]; exact hls0
              unfold put2 at hWN
              rw [← hWN]
              clear hWN hf v0 v1 v2 v3 hns HSN HNS
              have HGN : Hd (g.natAbs ≠ 0) := ⟨by have := zgcd_pos (p := p) HQ0.out; have := HGE.out; omega⟩
              obtain ⟨mm, hmm⟩ : ∃ m, m = exm p q := ⟨_, rfl⟩
              have hme : q.natAbs / g.natAbs = mm.natAbs := by
                have h1 := zgcd_pos (p := p) HQ0.out
                have h2 := HGE.out
                obtain ⟨k, hk⟩ : ∃ k : Nat, g = k := ⟨g.natAbs, by omega⟩
                rw [hmm]
                unfold exm
                rw [← h2, hk, Int.natAbs_natCast, ← Int.natCast_ediv, Int.natAbs_natCast]
              have HMM0 : Hd (0 < mm) := ⟨by rw [hmm]; exact exm_pos HQ0.out⟩
              have hlm : ln mm.natAbs ≤ 256 := by rw [← hme]; exact Nat.le_trans (ln_mono (Nat.div_le_self _ _)) hl2
              have HMD : Hd (decide (mm < 0) = false) := ⟨decide_eq_false (by have := HMM0.out; omega)⟩
              have HEX' : Hd (sx % mm = ex) := ⟨by rw [HEX.out, hmm]; exact (exx_is HQ0.out (extp_mod HQ0.out (by rw [← HGE.out]; exact HSX.out))).symm⟩
              have hlex : ln ex.natAbs ≤ 256 := by
                rw [← HEX'.out]
                exact Nat.le_trans (ln_mono (by have := HMM0.out; have := Int.emod_nonneg sx (Int.ne_of_gt HMM0.out); have := Int.emod_lt_of_pos sx HMM0.out; omega)) hlm
              have HYE : Hd (ey = (g - p * ex) / q) := ⟨by rw [HEY.out, HEX.out, HGE.out]; unfold exy; rw [if_neg HQ0.out]⟩
              have hlpx : ln (p * ex).natAbs ≤ 1000 := by rw [Int.natAbs_mul]; exact Nat.le_trans (ln_mul _ _) (by omega)
              have hlgp : ln (g - p * ex).natAbs ≤ 2000 := Nat.le_trans (ln_mono (Int.natAbs_sub_le _ _)) (Nat.le_trans (ln_add _ _) (by omega))
              have hley : ln ((g - p * ex) / q).natAbs ≤ 2000 := Nat.le_trans (ln_mono (Int.natAbs_ediv_le_natAbs _ _)) hlgp
              clear hmm
              obtain ⟨Aq', cq', hBq', hnq'⟩ := P9.out
              have u0 := hBq'.c0; have u1 := hBq'.c1
              obtain ⟨Ag, cg, hBg, hng⟩ := P10.out
              have v0 := hBg.c0; have v1 := hBg.c1
              have HD := Hd.mk (div_calls Aq' cq' q.natAbs Ag cg g.natAbs _ hnq' hng HGN.out (by omega))
              rw [hme] at HD
              clear hBq' hnq' hBg hng hme
              go_wp2_with fail
              refine HD.out.mono ?_
              rintro e w7 ⟨A18, c18, A19, c19, rfl, hn18, hn19, hb7⟩
              clear u0 u1 v0 v1 HD
              go_upto_region 15 with fail
              replace L0 := Hd.mk (L0.out.to hb7)
              replace L1 := Hd.mk (L1.out.to hb7)
              replace R4 := Hd.mk (R4.out.to hb7)
              replace R5 := Hd.mk (R5.out.to hb7)
              replace R6 := Hd.mk (R6.out.to hb7)
              replace P8 := Hd.mk (P8.out.to hb7)
              replace P9 := Hd.mk (P9.out.to hb7)
              replace P10 := Hd.mk (P10.out.to hb7)
              replace P14 := Hd.mk (P14.out.to hb7)
              replace HB := Hd.mk (bel_then HB.out hb7)
              clear hb7 hn19
              obtain ⟨As, cs, hBs, hns⟩ := P14.out
              have v0 := hBs.c0; have v1 := hBs.c1
              have HD := Hd.mk (wdiv_calls sx mm As cs A18 c18 _ hns hn18 (Int.ne_of_gt HMM0.out) (by omega) (by omega))
              rw [HMD.out, HEX'.out] at HD
              obtain ⟨kk, hkk⟩ : ∃ k, k = sx / mm := ⟨_, rfl⟩
              rw [← hkk] at HD
              clear hBs hns hn18 hkk P14
              go_wp2_with fail
              refine HD.out.mono ?_
              rintro e w8 ⟨A20, c20, A21, c21, rfl, hn20, hn21, hb8⟩
              clear HD v0 v1
              go_upto_region 16 with fail
              obtain ⟨W8, hW8⟩ : ∃ W : World, W = (w8.alloc (.cells #[.bool (decide (kk < 0)), .slice A20 (ln kk.natAbs) c20] 70)).alloc (.cells #[.bool (decide (ex < 0)), .slice A21 (ln ex.natAbs) c21] 70) := ⟨_, rfl⟩
              rw [← hW8]
              obtain ⟨hX, hY, hbw⟩ := boxes2 hW8
              have hb88 := bel_then hb8 hbw
              replace L0 := Hd.mk (L0.out.to hb88)
              replace L1 := Hd.mk (L1.out.to hb88)
              replace R4 := Hd.mk (R4.out.to hb88)
              replace R5 := Hd.mk (R5.out.to hb88)
              replace R6 := Hd.mk (R6.out.to hb88)
              replace P8 := Hd.mk (P8.out.to hb88)
              replace P9 := Hd.mk (P9.out.to hb88)
              replace P10 := Hd.mk (P10.out.to hb88)
              replace HB := Hd.mk (bel_then HB.out hb88)
              have P21 : Hd (HZ W8 (w8.heap.size + 1) 70 ex) := ⟨A21, c21, hY, NN.to hn21 hbw⟩
              obtain ⟨g21, hg21⟩ : ∃ g, g = w8.heap.size + 1 := ⟨_, rfl⟩
              rw [← hg21] at P21 ⊢
              clear hW8 hX hY hbw hb8 hb88 hn20 hn21 hg21
              refine wp_region_vs 12 [96, 97, 98, 99, 100, 101, 102, 95, 103, 104, 22, 23] [7, 8, 9] [10, 11] 70 [.bool false, .slice none 0 0] [isZ g, isZ p, isZ ex, isZ (p * ex), isZ (g - p * ex), isZ q, isZZ ((g - p * ex) / q) ((g - p * ex) % q), isZZ ((g - p * ex) / q) ((g - p * ex) % q), isZ ((g - p * ex) / q), isZ ((g - p * ex) % q)] (by kernel_rfl) (by kernel_rfl) (by kernel_rfl) (by rfl) alloc_whole (fun d v c a w h => by cases d <;> exact h) ?_ ?_
              · intro i hi hA a wx hb hs hd
                match i, hi, hA with
                | 0, _, _ => exact op_loadW rfl rfl (hs 10 rfl) (P10.out.to hb)
                | 1, _, _ => exact op_loadW rfl rfl (hs 8 rfl) (P8.out.to hb)
                | 2, _, _ => exact op_loadW rfl rfl (hs 21 rfl) (P21.out.to hb)
                | 3, _, _ => exact op_call2 rfl rfl Try.call67 (z2 (fun A1 c1 A2 c2 h1 h2 => wmul_calls (p) (ex) A1 c1 A2 c2 _ h1 h2 (by omega) (by omega)) (fun e w' h => h.got) (hd 1 rfl) (hd 2 rfl))
                | 4, _, _ => exact op_call2 rfl rfl Try.call66 (z2 (fun A1 c1 A2 c2 h1 h2 => wsub_calls (g) (p * ex) A1 c1 A2 c2 _ h1 h2 (by omega) (by omega)) (fun e w' h => h.got) (hd 0 rfl) (hd 3 rfl))
                | 5, _, _ => exact op_loadW rfl rfl (hs 9 rfl) (P9.out.to hb)
                | 6, _, _ => exact op_call2 rfl rfl Try.call90 (z2 (fun A1 c1 A2 c2 h1 h2 => wdiv_calls (g - p * ex) (q) A1 c1 A2 c2 _ h1 h2 HQ0.out (by omega) (by omega)) (fun e w' h => h.got) (hd 4 rfl) (hd 5 rfl))
                | 7, _, _ => exact (by obtain ⟨A, c, A', c', h, h1, h2⟩ := hd 6 rfl; exact ⟨_, op_move rfl h, A, c, A', c', rfl, h1, h2⟩)
                | 8, _, _ => exact (by obtain ⟨A, c, A', c', h, h1, h2⟩ := hd 7 rfl; exact ⟨_, op_extract rfl h rfl, A, c, rfl, h1⟩)
                | 9, _, _ => exact (by obtain ⟨A, c, A', c', h, h1, h2⟩ := hd 7 rfl; exact ⟨_, op_extract rfl h rfl, A', c', rfl, h2⟩)
                | 10, _, h => cases h
                | 11, _, h => cases h
                | i + 12, h, _ => omega
              · intro vs wx hb hv hal hne
                obtain ⟨A22, c22, e22, hn22⟩ : (isZ ((g - p * ex) / q)).p (vs 103) wx := hv 8 (by decide) rfl
                obtain ⟨g22, eg22, hgl22, hgb22⟩ : ∃ g, vs 22 = .pointer (some ⟨g, 0, none⟩) ∧ _ := hal 10 rfl
                obtain ⟨A23, c23, e23, hn23⟩ : (isZ ((g - p * ex) % q)).p (vs 104) wx := hv 9 (by decide) rfl
                obtain ⟨g23, eg23, hgl23, hgb23⟩ : ∃ g, vs 23 = .pointer (some ⟨g, 0, none⟩) ∧ _ := hal 11 rfl
                have hgne : g22 ≠ g23 := ptr_ne (by rw [← eg22, ← eg23]; exact hne 10 11 rfl rfl (by decide))
                have hgne' := Ne.symm hgne
                simp only [putAll, List.foldl_cons, List.foldl_nil, Act.put, List.setIfInBounds_toArray, List.set_cons_succ, List.set_cons_zero, List.drop_succ_cons, List.drop_zero, e22, eg22, e23, eg23]
                generalize vs 96 = s96
                generalize vs 97 = s97
                generalize vs 98 = s98
                generalize vs 99 = s99
                generalize vs 100 = s100
                generalize vs 101 = s101
                generalize vs 102 = s102
                generalize vs 95 = s95
                obtain ⟨Wk0, hWk0⟩ : ∃ W, W = put2 wx g22 (.bool (decide ((g - p * ex) / q < 0))) (.slice A22 (ln ((g - p * ex) / q).natAbs) c22) := ⟨_, rfl⟩
                obtain ⟨Wk1, hWk1⟩ : ∃ W, W = put2 Wk0 g23 (.bool (decide ((g - p * ex) % q < 0))) (.slice A23 (ln ((g - p * ex) % q).natAbs) c23) := ⟨_, rfl⟩
                replace L0 : Hd (HZ Wk1 w.heap.size 24 p) := ⟨by rw [hWk1]; rw [hWk0]; exact HZ.new2 L0.out hb hgl22 ⟨_, _, _, _, hgb22⟩ hgl23 ⟨_, _, _, _, hgb23⟩ hgne _ _ _ _⟩
                replace L1 : Hd (HZ Wk1 (w.heap.size + 1) 24 q) := ⟨by rw [hWk1]; rw [hWk0]; exact HZ.new2 L1.out hb hgl22 ⟨_, _, _, _, hgb22⟩ hgl23 ⟨_, _, _, _, hgb23⟩ hgne _ _ _ _⟩
                replace R4 : Hd (HB2 Wk1 (w.heap.size + 1 + 1) 24) := ⟨by rw [hWk1]; rw [hWk0]; exact HB2.new2 R4.out hb hgl22 ⟨_, _, _, _, hgb22⟩ hgl23 ⟨_, _, _, _, hgb23⟩ hgne _ _ _ _⟩
                replace R5 : Hd (HB2 Wk1 (w.heap.size + 1 + 1 + 1) 24) := ⟨by rw [hWk1]; rw [hWk0]; exact HB2.new2 R5.out hb hgl22 ⟨_, _, _, _, hgb22⟩ hgl23 ⟨_, _, _, _, hgb23⟩ hgne _ _ _ _⟩
                replace R6 : Hd (HB2 Wk1 (w.heap.size + 1 + 1 + 1 + 1) 24) := ⟨by rw [hWk1]; rw [hWk0]; exact HB2.new2 R6.out hb hgl22 ⟨_, _, _, _, hgb22⟩ hgl23 ⟨_, _, _, _, hgb23⟩ hgne _ _ _ _⟩
                replace P8 : Hd (HZ Wk1 g8 70 (p)) := ⟨by rw [hWk1]; rw [hWk0]; exact HZ.new2 P8.out hb hgl22 ⟨_, _, _, _, hgb22⟩ hgl23 ⟨_, _, _, _, hgb23⟩ hgne _ _ _ _⟩
                replace P9 : Hd (HZ Wk1 g9 70 (q)) := ⟨by rw [hWk1]; rw [hWk0]; exact HZ.new2 P9.out hb hgl22 ⟨_, _, _, _, hgb22⟩ hgl23 ⟨_, _, _, _, hgb23⟩ hgne _ _ _ _⟩
                replace P10 : Hd (HZ Wk1 g10 70 g) := ⟨by rw [hWk1]; rw [hWk0]; exact HZ.new2 P10.out hb hgl22 ⟨_, _, _, _, hgb22⟩ hgl23 ⟨_, _, _, _, hgb23⟩ hgne _ _ _ _⟩
                replace P21 : Hd (HZ Wk1 g21 70 ex) := ⟨by rw [hWk1]; rw [hWk0]; exact HZ.new2 P21.out hb hgl22 ⟨_, _, _, _, hgb22⟩ hgl23 ⟨_, _, _, _, hgb23⟩ hgne _ _ _ _⟩
                have P22 : Hd (HZ Wk1 g22 70 ((g - p * ex) / q)) := ⟨by rw [hWk1]; rw [hWk0]; exact HZ.put (HZ.set ⟨_, _, _, _, hgb22⟩ hn22) (HB2.put ⟨_, _, _, _, hgb23⟩ hgne' _ _) hgne _ _⟩
                have P23 : Hd (HZ Wk1 g23 70 ((g - p * ex) % q)) := ⟨by rw [hWk1]; rw [hWk0]; exact HZ.set (HB2.put ⟨_, _, _, _, hgb23⟩ hgne' _ _) (hn23.put ⟨_, _, _, _, hgb22⟩ _ _)⟩
                replace HB : Hd (Below w.heap.size w Wk1) := ⟨by rw [hWk1]; rw [hWk0]; exact Below.new2 HB.out hb hgl22 hgl23 _ _ _ _⟩
                have x22a := hgb22.c0
                have x22b := hgb22.c1
                have x22c := hgb22.f0
                have x22d := hgb22.f1
                have x23a := hgb23.c0
                have x23b := hgb23.c1
                have x23c := hgb23.f0
                have x23d := hgb23.f1
                unfold put2 at hWk0 hWk1
                rw [hWk0] at hWk1
                clear hv hal hne hb e22 eg22 hgl22 hgb22 hn22 e23 eg23 hgl23 hgb23 hn23 hWk0
                go_upto_region 17 with fail
                rw [← hWk1]
                clear hWk1 x22a x22b x22c x22d x23a x23b x23c x23d hgne hgne'
                refine wp_region_vs 6 [105, 106, 107, 108, 109, 110] [] [] 24 [.bool false, .slice none 0 0] [isZ g, isZ g, isZ ex, isZ ex, isZ ((g - p * ex) / q), isZ ((g - p * ex) / q)] (by kernel_rfl) (by kernel_rfl) (by kernel_rfl) (by rfl) alloc_api (fun d v c a w h => by cases d <;> exact h) ?_ ?_
                · intro i hi hA a wx hb hs hd
                  match i, hi, hA with
                  | 0, _, _ => exact op_loadW rfl rfl (hs 10 rfl) (P10.out.to hb)
                  | 1, _, _ => exact op_call1 rfl rfl Try.call72 (z1 (fun A1 c1 h1 => value_calls (g) A1 c1 _ h1 (by omega)) (fun e w' h => h.got) (hd 0 rfl))
                  | 2, _, _ => exact op_loadW rfl rfl (hs 21 rfl) (P21.out.to hb)
                  | 3, _, _ => exact op_call1 rfl rfl Try.call72 (z1 (fun A1 c1 h1 => value_calls (ex) A1 c1 _ h1 (by omega)) (fun e w' h => h.got) (hd 2 rfl))
                  | 4, _, _ => exact op_loadW rfl rfl (hs 22 rfl) (P22.out.to hb)
                  | 5, _, _ => exact op_call1 rfl rfl Try.call72 (z1 (fun A1 c1 h1 => value_calls ((g - p * ex) / q) A1 c1 _ h1 (by omega)) (fun e w' h => h.got) (hd 4 rfl))
                  | i + 6, h, _ => omega
                · intro vs wx hb hv hal hne
                  obtain ⟨A3, c3, e1, hn1⟩ : (isZ g).p (vs 106) wx := hv 1 (by decide) rfl
                  obtain ⟨A4, c4, e3, hn3⟩ : (isZ ex).p (vs 108) wx := hv 3 (by decide) rfl
                  obtain ⟨A5, c5, e5, hn5⟩ : (isZ ((g - p * ex) / q)).p (vs 110) wx := hv 5 (by decide) rfl
                  simp only [putAll, List.foldl_cons, List.foldl_nil, Act.put, List.setIfInBounds_toArray, List.set_cons_succ, List.set_cons_zero, List.drop_succ_cons, List.drop_zero, e1, e3, e5]
                  generalize vs 105 = s105
                  generalize vs 107 = s107
                  generalize vs 109 = s109
                  replace L0 := Hd.mk (L0.out.to hb)
                  replace L1 := Hd.mk (L1.out.to hb)
                  replace R4 := Hd.mk (R4.out.to hb)
                  replace R5 := Hd.mk (R5.out.to hb)
                  replace R6 := Hd.mk (R6.out.to hb)
                  replace HB := Hd.mk (bel_then HB.out hb)
                  have N3 := Hd.mk hn1
                  have N4 := Hd.mk hn3
                  have N5 := Hd.mk hn5
                  rw [← HYE.out] at N5 ⊢
                  clear hv hal hne e1 e3 e5 hb hn1 hn3 hn5 P8 P9 P10 P21 P22 P23
                  obtain ⟨f4a, f4b, f4c, f4d, h4⟩ := R4.out
                  obtain ⟨f5a, f5b, f5c, f5d, h5⟩ := R5.out
                  obtain ⟨f6a, f6b, f6c, f6d, h6⟩ := R6.out
                  have y4a := h4.c0; have y4b := h4.c1
                  have y4c := h4.f0; have y4d := h4.f1
                  have y5a := h5.c0; have y5b := h5.c1
                  have y5c := h5.f0; have y5d := h5.f1
                  have y6a := h6.c0; have y6b := h6.c1
                  have y6c := h6.f0; have y6d := h6.f1
                  clear h4 h5 h6
                  go_wp2_with fail
                  obtain ⟨WF, hWF⟩ : ∃ W, W = put2 (put2 (put2 wx (w.heap.size + 1 + 1) (.bool (decide (g < 0))) (.slice A3 (ln g.natAbs) c3)) (w.heap.size + 1 + 1 + 1) (.bool (decide (ex < 0))) (.slice A4 (ln ex.natAbs) c4)) (w.heap.size + 1 + 1 + 1 + 1) (.bool (decide (ey < 0))) (.slice A5 (ln (ey).natAbs) c5) := ⟨_, rfl⟩
                  obtain ⟨k4, k5, k6⟩ := three_put R4.out R5.out R6.out (by omega) (by omega) (by omega) (.bool (decide (g < 0))) (.slice A3 (ln g.natAbs) c3) (.bool (decide (ex < 0))) (.slice A4 (ln ex.natAbs) c4) (.bool (decide (ey < 0))) (.slice A5 (ln (ey).natAbs) c5)
                  have T3 : NN WF A3 c3 g.natAbs := by rw [hWF]; exact three_nn R4.out R5.out R6.out (by omega) (by omega) (by omega) _ _ _ _ _ _ N3.out
                  have T4 : NN WF A4 c4 ex.natAbs := by rw [hWF]; exact three_nn R4.out R5.out R6.out (by omega) (by omega) (by omega) _ _ _ _ _ _ N4.out
                  have TB : Below w.heap.size w WF := by rw [hWF]; exact three_below HB.out (by omega) (by omega) (by omega) _ _ _ _ _ _
                  have hWG := hWF
                  rw [← hWF] at k4 k5 k6
                  unfold put2 at hWF
                  rw [← hWF]
                  have z0 := k4.c0
                  have z1 := k4.c1
                  have z2 := k5.c0
                  have z3 := k5.c1
                  have z4 := k6.c0
                  have z5 := k6.c1
                  refine bodyPost_ret (v := .tuple #[.agg #[.bool (decide (g < 0)), .slice A3 (ln g.natAbs) c3], .agg #[.bool (decide (ex < 0)), .slice A4 (ln ex.natAbs) c4], .agg #[.bool (decide (ey < 0)), .slice A5 (ln (ey).natAbs) c5], .int .i64 0]) (by simp [results, Try.results42, go_sem, z0, z1, z2, z3, z4, z5]) rfl ?_
                  have T5 : NN WF A5 c5 ey.natAbs := by rw [hWG]; exact three_nn R4.out R5.out R6.out (by omega) (by omega) (by omega) _ _ _ _ _ _ N5.out
                  exact ⟨A3, c3, A4, c4, A5, c5, rfl, T3, T4, T5, TB⟩
            · have HSX : Hd (q ∣ p * s0 - g) := ⟨by have := HEN.out.2; rw [if_neg hneg] at this; rw [HGE.out]; exact this⟩
              have hdn : decide (r0 < 0) = false := decide_eq_false hneg
              rw [hdn] at u0
              have hlsx := hls0
              obtain ⟨sx, hsx⟩ : ∃ s, s = s0 := ⟨_, rfl⟩
              rw [← hsx] at HSX P14 hlsx
              clear hdn hneg HEN P12 hsx
              go_upto_region 14 with fail
              clear u0 u1
              have HGN : Hd (g.natAbs ≠ 0) := ⟨by have := zgcd_pos (p := p) HQ0.out; have := HGE.out; omega⟩
              obtain ⟨mm, hmm⟩ : ∃ m, m = exm p q := ⟨_, rfl⟩
              have hme : q.natAbs / g.natAbs = mm.natAbs := by
                have h1 := zgcd_pos (p := p) HQ0.out
                have h2 := HGE.out
                obtain ⟨k, hk⟩ : ∃ k : Nat, g = k := ⟨g.natAbs, by omega⟩
                rw [hmm]
                unfold exm
                rw [← h2, hk, Int.natAbs_natCast, ← Int.natCast_ediv, Int.natAbs_natCast]
              have HMM0 : Hd (0 < mm) := ⟨by rw [hmm]; exact exm_pos HQ0.out⟩
              have hlm : ln mm.natAbs ≤ 256 := by rw [← hme]; exact Nat.le_trans (ln_mono (Nat.div_le_self _ _)) hl2
              have HMD : Hd (decide (mm < 0) = false) := ⟨decide_eq_false (by have := HMM0.out; omega)⟩
              have HEX' : Hd (sx % mm = ex) := ⟨by rw [HEX.out, hmm]; exact (exx_is HQ0.out (extp_mod HQ0.out (by rw [← HGE.out]; exact HSX.out))).symm⟩
              have hlex : ln ex.natAbs ≤ 256 := by
                rw [← HEX'.out]
                exact Nat.le_trans (ln_mono (by have := HMM0.out; have := Int.emod_nonneg sx (Int.ne_of_gt HMM0.out); have := Int.emod_lt_of_pos sx HMM0.out; omega)) hlm
              have HYE : Hd (ey = (g - p * ex) / q) := ⟨by rw [HEY.out, HEX.out, HGE.out]; unfold exy; rw [if_neg HQ0.out]⟩
              have hlpx : ln (p * ex).natAbs ≤ 1000 := by rw [Int.natAbs_mul]; exact Nat.le_trans (ln_mul _ _) (by omega)
              have hlgp : ln (g - p * ex).natAbs ≤ 2000 := Nat.le_trans (ln_mono (Int.natAbs_sub_le _ _)) (Nat.le_trans (ln_add _ _) (by omega))
              have hley : ln ((g - p * ex) / q).natAbs ≤ 2000 := Nat.le_trans (ln_mono (Int.natAbs_ediv_le_natAbs _ _)) hlgp
              clear hmm
              obtain ⟨Aq', cq', hBq', hnq'⟩ := P9.out
              have u0 := hBq'.c0; have u1 := hBq'.c1
              obtain ⟨Ag, cg, hBg, hng⟩ := P10.out
              have v0 := hBg.c0; have v1 := hBg.c1
              have HD := Hd.mk (div_calls Aq' cq' q.natAbs Ag cg g.natAbs _ hnq' hng HGN.out (by omega))
              rw [hme] at HD
              clear hBq' hnq' hBg hng hme
              go_wp2_with fail
              refine HD.out.mono ?_
              rintro e w7 ⟨A18, c18, A19, c19, rfl, hn18, hn19, hb7⟩
              clear u0 u1 v0 v1 HD
              go_upto_region 15 with fail
              replace L0 := Hd.mk (L0.out.to hb7)
              replace L1 := Hd.mk (L1.out.to hb7)
              replace R4 := Hd.mk (R4.out.to hb7)
              replace R5 := Hd.mk (R5.out.to hb7)
              replace R6 := Hd.mk (R6.out.to hb7)
              replace P8 := Hd.mk (P8.out.to hb7)
              replace P9 := Hd.mk (P9.out.to hb7)
              replace P10 := Hd.mk (P10.out.to hb7)
              replace P14 := Hd.mk (P14.out.to hb7)
              replace HB := Hd.mk (bel_then HB.out hb7)
              clear hb7 hn19
              obtain ⟨As, cs, hBs, hns⟩ := P14.out
              have v0 := hBs.c0; have v1 := hBs.c1
              have HD := Hd.mk (wdiv_calls sx mm As cs A18 c18 _ hns hn18 (Int.ne_of_gt HMM0.out) (by omega) (by omega))
              rw [HMD.out, HEX'.out] at HD
              obtain ⟨kk, hkk⟩ : ∃ k, k = sx / mm := ⟨_, rfl⟩
              rw [← hkk] at HD
              clear hBs hns hn18 hkk P14
              go_wp2_with fail
              refine HD.out.mono ?_
              rintro e w8 ⟨A20, c20, A21, c21, rfl, hn20, hn21, hb8⟩
              clear HD v0 v1
              go_upto_region 16 with fail
              obtain ⟨W8, hW8⟩ : ∃ W : World, W = (w8.alloc (.cells #[.bool (decide (kk < 0)), .slice A20 (ln kk.natAbs) c20] 70)).alloc (.cells #[.bool (decide (ex < 0)), .slice A21 (ln ex.natAbs) c21] 70) := ⟨_, rfl⟩
              rw [← hW8]
              obtain ⟨hX, hY, hbw⟩ := boxes2 hW8
              have hb88 := bel_then hb8 hbw
              replace L0 := Hd.mk (L0.out.to hb88)
              replace L1 := Hd.mk (L1.out.to hb88)
              replace R4 := Hd.mk (R4.out.to hb88)
              replace R5 := Hd.mk (R5.out.to hb88)
              replace R6 := Hd.mk (R6.out.to hb88)
              replace P8 := Hd.mk (P8.out.to hb88)
              replace P9 := Hd.mk (P9.out.to hb88)
              replace P10 := Hd.mk (P10.out.to hb88)
              replace HB := Hd.mk (bel_then HB.out hb88)
              have P21 : Hd (HZ W8 (w8.heap.size + 1) 70 ex) := ⟨A21, c21, hY, NN.to hn21 hbw⟩
              obtain ⟨g21, hg21⟩ : ∃ g, g = w8.heap.size + 1 := ⟨_, rfl⟩
              rw [← hg21] at P21 ⊢
              clear hW8 hX hY hbw hb8 hb88 hn20 hn21 hg21
              refine wp_region_vs 12 [96, 97, 98, 99, 100, 101, 102, 95, 103, 104, 22, 23] [7, 8, 9] [10, 11] 70 [.bool false, .slice none 0 0] [isZ g, isZ p, isZ ex, isZ (p * ex), isZ (g - p * ex), isZ q, isZZ ((g - p * ex) / q) ((g - p * ex) % q), isZZ ((g - p * ex) / q) ((g - p * ex) % q), isZ ((g - p * ex) / q), isZ ((g - p * ex) % q)] (by kernel_rfl) (by kernel_rfl) (by kernel_rfl) (by rfl) alloc_whole (fun d v c a w h => by cases d <;> exact h) ?_ ?_
              · intro i hi hA a wx hb hs hd
                match i, hi, hA with
                | 0, _, _ => exact op_loadW rfl rfl (hs 10 rfl) (P10.out.to hb)
                | 1, _, _ => exact op_loadW rfl rfl (hs 8 rfl) (P8.out.to hb)
                | 2, _, _ => exact op_loadW rfl rfl (hs 21 rfl) (P21.out.to hb)
                | 3, _, _ => exact op_call2 rfl rfl Try.call67 (z2 (fun A1 c1 A2 c2 h1 h2 => wmul_calls (p) (ex) A1 c1 A2 c2 _ h1 h2 (by omega) (by omega)) (fun e w' h => h.got) (hd 1 rfl) (hd 2 rfl))
                | 4, _, _ => exact op_call2 rfl rfl Try.call66 (z2 (fun A1 c1 A2 c2 h1 h2 => wsub_calls (g) (p * ex) A1 c1 A2 c2 _ h1 h2 (by omega) (by omega)) (fun e w' h => h.got) (hd 0 rfl) (hd 3 rfl))
                | 5, _, _ => exact op_loadW rfl rfl (hs 9 rfl) (P9.out.to hb)
                | 6, _, _ => exact op_call2 rfl rfl Try.call90 (z2 (fun A1 c1 A2 c2 h1 h2 => wdiv_calls (g - p * ex) (q) A1 c1 A2 c2 _ h1 h2 HQ0.out (by omega) (by omega)) (fun e w' h => h.got) (hd 4 rfl) (hd 5 rfl))
                | 7, _, _ => exact (by obtain ⟨A, c, A', c', h, h1, h2⟩ := hd 6 rfl; exact ⟨_, op_move rfl h, A, c, A', c', rfl, h1, h2⟩)
                | 8, _, _ => exact (by obtain ⟨A, c, A', c', h, h1, h2⟩ := hd 7 rfl; exact ⟨_, op_extract rfl h rfl, A, c, rfl, h1⟩)
                | 9, _, _ => exact (by obtain ⟨A, c, A', c', h, h1, h2⟩ := hd 7 rfl; exact ⟨_, op_extract rfl h rfl, A', c', rfl, h2⟩)
                | 10, _, h => cases h
                | 11, _, h => cases h
                | i + 12, h, _ => omega
              · intro vs wx hb hv hal hne
                obtain ⟨A22, c22, e22, hn22⟩ : (isZ ((g - p * ex) / q)).p (vs 103) wx := hv 8 (by decide) rfl
                obtain ⟨g22, eg22, hgl22, hgb22⟩ : ∃ g, vs 22 = .pointer (some ⟨g, 0, none⟩) ∧ _ := hal 10 rfl
                obtain ⟨A23, c23, e23, hn23⟩ : (isZ ((g - p * ex) % q)).p (vs 104) wx := hv 9 (by decide) rfl
                obtain ⟨g23, eg23, hgl23, hgb23⟩ : ∃ g, vs 23 = .pointer (some ⟨g, 0, none⟩) ∧ _ := hal 11 rfl
                have hgne : g22 ≠ g23 := ptr_ne (by rw [← eg22, ← eg23]; exact hne 10 11 rfl rfl (by decide))
                have hgne' := Ne.symm hgne
                simp only [putAll, List.foldl_cons, List.foldl_nil, Act.put, List.setIfInBounds_toArray, List.set_cons_succ, List.set_cons_zero, List.drop_succ_cons, List.drop_zero, e22, eg22, e23, eg23]
                generalize vs 96 = s96
                generalize vs 97 = s97
                generalize vs 98 = s98
                generalize vs 99 = s99
                generalize vs 100 = s100
                generalize vs 101 = s101
                generalize vs 102 = s102
                generalize vs 95 = s95
                obtain ⟨Wk0, hWk0⟩ : ∃ W, W = put2 wx g22 (.bool (decide ((g - p * ex) / q < 0))) (.slice A22 (ln ((g - p * ex) / q).natAbs) c22) := ⟨_, rfl⟩
                obtain ⟨Wk1, hWk1⟩ : ∃ W, W = put2 Wk0 g23 (.bool (decide ((g - p * ex) % q < 0))) (.slice A23 (ln ((g - p * ex) % q).natAbs) c23) := ⟨_, rfl⟩
                replace L0 : Hd (HZ Wk1 w.heap.size 24 p) := ⟨by rw [hWk1]; rw [hWk0]; exact HZ.new2 L0.out hb hgl22 ⟨_, _, _, _, hgb22⟩ hgl23 ⟨_, _, _, _, hgb23⟩ hgne _ _ _ _⟩
                replace L1 : Hd (HZ Wk1 (w.heap.size + 1) 24 q) := ⟨by rw [hWk1]; rw [hWk0]; exact HZ.new2 L1.out hb hgl22 ⟨_, _, _, _, hgb22⟩ hgl23 ⟨_, _, _, _, hgb23⟩ hgne _ _ _ _⟩
                replace R4 : Hd (HB2 Wk1 (w.heap.size + 1 + 1) 24) := ⟨by rw [hWk1]; rw [hWk0]; exact HB2.new2 R4.out hb hgl22 ⟨_, _, _, _, hgb22⟩ hgl23 ⟨_, _, _, _, hgb23⟩ hgne _ _ _ _⟩
                replace R5 : Hd (HB2 Wk1 (w.heap.size + 1 + 1 + 1) 24) := ⟨by rw [hWk1]; rw [hWk0]; exact HB2.new2 R5.out hb hgl22 ⟨_, _, _, _, hgb22⟩ hgl23 ⟨_, _, _, _, hgb23⟩ hgne _ _ _ _⟩
                replace R6 : Hd (HB2 Wk1 (w.heap.size + 1 + 1 + 1 + 1) 24) := ⟨by rw [hWk1]; rw [hWk0]; exact HB2.new2 R6.out hb hgl22 ⟨_, _, _, _, hgb22⟩ hgl23 ⟨_, _, _, _, hgb23⟩ hgne _ _ _ _⟩
                replace P8 : Hd (HZ Wk1 g8 70 (p)) := ⟨by rw [hWk1]; rw [hWk0]; exact HZ.new2 P8.out hb hgl22 ⟨_, _, _, _, hgb22⟩ hgl23 ⟨_, _, _, _, hgb23⟩ hgne _ _ _ _⟩
                replace P9 : Hd (HZ Wk1 g9 70 (q)) := ⟨by rw [hWk1]; rw [hWk0]; exact HZ.new2 P9.out hb hgl22 ⟨_, _, _, _, hgb22⟩ hgl23 ⟨_, _, _, _, hgb23⟩ hgne _ _ _ _⟩
                replace P10 : Hd (HZ Wk1 g10 70 g) := ⟨by rw [hWk1]; rw [hWk0]; exact HZ.new2 P10.out hb hgl22 ⟨_, _, _, _, hgb22⟩ hgl23 ⟨_, _, _, _, hgb23⟩ hgne _ _ _ _⟩
                replace P21 : Hd (HZ Wk1 g21 70 ex) := ⟨by rw [hWk1]; rw [hWk0]; exact HZ.new2 P21.out hb hgl22 ⟨_, _, _, _, hgb22⟩ hgl23 ⟨_, _, _, _, hgb23⟩ hgne _ _ _ _⟩
                have P22 : Hd (HZ Wk1 g22 70 ((g - p * ex) / q)) := ⟨by rw [hWk1]; rw [hWk0]; exact HZ.put (HZ.set ⟨_, _, _, _, hgb22⟩ hn22) (HB2.put ⟨_, _, _, _, hgb23⟩ hgne' _ _) hgne _ _⟩
                have P23 : Hd (HZ Wk1 g23 70 ((g - p * ex) % q)) := ⟨by rw [hWk1]; rw [hWk0]; exact HZ.set (HB2.put ⟨_, _, _, _, hgb23⟩ hgne' _ _) (hn23.put ⟨_, _, _, _, hgb22⟩ _ _)⟩
                replace HB : Hd (Below w.heap.size w Wk1) := ⟨by rw [hWk1]; rw [hWk0]; exact Below.new2 HB.out hb hgl22 hgl23 _ _ _ _⟩
                have x22a := hgb22.c0
                have x22b := hgb22.c1
                have x22c := hgb22.f0
                have x22d := hgb22.f1
                have x23a := hgb23.c0
                have x23b := hgb23.c1
                have x23c := hgb23.f0
                have x23d := hgb23.f1
                unfold put2 at hWk0 hWk1
                rw [hWk0] at hWk1
                clear hv hal hne hb e22 eg22 hgl22 hgb22 hn22 e23 eg23 hgl23 hgb23 hn23 hWk0
                go_upto_region 17 with fail
                rw [← hWk1]
                clear hWk1 x22a x22b x22c x22d x23a x23b x23c x23d hgne hgne'
                refine wp_region_vs 6 [105, 106, 107, 108, 109, 110] [] [] 24 [.bool false, .slice none 0 0] [isZ g, isZ g, isZ ex, isZ ex, isZ ((g - p * ex) / q), isZ ((g - p * ex) / q)] (by kernel_rfl) (by kernel_rfl) (by kernel_rfl) (by rfl) alloc_api (fun d v c a w h => by cases d <;> exact h) ?_ ?_
                · intro i hi hA a wx hb hs hd
                  match i, hi, hA with
                  | 0, _, _ => exact op_loadW rfl rfl (hs 10 rfl) (P10.out.to hb)
                  | 1, _, _ => exact op_call1 rfl rfl Try.call72 (z1 (fun A1 c1 h1 => value_calls (g) A1 c1 _ h1 (by omega)) (fun e w' h => h.got) (hd 0 rfl))
                  | 2, _, _ => exact op_loadW rfl rfl (hs 21 rfl) (P21.out.to hb)
                  | 3, _, _ => exact op_call1 rfl rfl Try.call72 (z1 (fun A1 c1 h1 => value_calls (ex) A1 c1 _ h1 (by omega)) (fun e w' h => h.got) (hd 2 rfl))
                  | 4, _, _ => exact op_loadW rfl rfl (hs 22 rfl) (P22.out.to hb)
                  | 5, _, _ => exact op_call1 rfl rfl Try.call72 (z1 (fun A1 c1 h1 => value_calls ((g - p * ex) / q) A1 c1 _ h1 (by omega)) (fun e w' h => h.got) (hd 4 rfl))
                  | i + 6, h, _ => omega
                · intro vs wx hb hv hal hne
                  obtain ⟨A3, c3, e1, hn1⟩ : (isZ g).p (vs 106) wx := hv 1 (by decide) rfl
                  obtain ⟨A4, c4, e3, hn3⟩ : (isZ ex).p (vs 108) wx := hv 3 (by decide) rfl
                  obtain ⟨A5, c5, e5, hn5⟩ : (isZ ((g - p * ex) / q)).p (vs 110) wx := hv 5 (by decide) rfl
                  simp only [putAll, List.foldl_cons, List.foldl_nil, Act.put, List.setIfInBounds_toArray, List.set_cons_succ, List.set_cons_zero, List.drop_succ_cons, List.drop_zero, e1, e3, e5]
                  generalize vs 105 = s105
                  generalize vs 107 = s107
                  generalize vs 109 = s109
                  replace L0 := Hd.mk (L0.out.to hb)
                  replace L1 := Hd.mk (L1.out.to hb)
                  replace R4 := Hd.mk (R4.out.to hb)
                  replace R5 := Hd.mk (R5.out.to hb)
                  replace R6 := Hd.mk (R6.out.to hb)
                  replace HB := Hd.mk (bel_then HB.out hb)
                  have N3 := Hd.mk hn1
                  have N4 := Hd.mk hn3
                  have N5 := Hd.mk hn5
                  rw [← HYE.out] at N5 ⊢
                  clear hv hal hne e1 e3 e5 hb hn1 hn3 hn5 P8 P9 P10 P21 P22 P23
                  obtain ⟨f4a, f4b, f4c, f4d, h4⟩ := R4.out
                  obtain ⟨f5a, f5b, f5c, f5d, h5⟩ := R5.out
                  obtain ⟨f6a, f6b, f6c, f6d, h6⟩ := R6.out
                  have y4a := h4.c0; have y4b := h4.c1
                  have y4c := h4.f0; have y4d := h4.f1
                  have y5a := h5.c0; have y5b := h5.c1
                  have y5c := h5.f0; have y5d := h5.f1
                  have y6a := h6.c0; have y6b := h6.c1
                  have y6c := h6.f0; have y6d := h6.f1
                  clear h4 h5 h6
                  go_wp2_with fail
                  obtain ⟨WF, hWF⟩ : ∃ W, W = put2 (put2 (put2 wx (w.heap.size + 1 + 1) (.bool (decide (g < 0))) (.slice A3 (ln g.natAbs) c3)) (w.heap.size + 1 + 1 + 1) (.bool (decide (ex < 0))) (.slice A4 (ln ex.natAbs) c4)) (w.heap.size + 1 + 1 + 1 + 1) (.bool (decide (ey < 0))) (.slice A5 (ln (ey).natAbs) c5) := ⟨_, rfl⟩
                  obtain ⟨k4, k5, k6⟩ := three_put R4.out R5.out R6.out (by omega) (by omega) (by omega) (.bool (decide (g < 0))) (.slice A3 (ln g.natAbs) c3) (.bool (decide (ex < 0))) (.slice A4 (ln ex.natAbs) c4) (.bool (decide (ey < 0))) (.slice A5 (ln (ey).natAbs) c5)
                  have T3 : NN WF A3 c3 g.natAbs := by rw [hWF]; exact three_nn R4.out R5.out R6.out (by omega) (by omega) (by omega) _ _ _ _ _ _ N3.out
                  have T4 : NN WF A4 c4 ex.natAbs := by rw [hWF]; exact three_nn R4.out R5.out R6.out (by omega) (by omega) (by omega) _ _ _ _ _ _ N4.out
                  have TB : Below w.heap.size w WF := by rw [hWF]; exact three_below HB.out (by omega) (by omega) (by omega) _ _ _ _ _ _
                  have hWG := hWF
                  rw [← hWF] at k4 k5 k6
                  unfold put2 at hWF
                  rw [← hWF]
                  have z0 := k4.c0
                  have z1 := k4.c1
                  have z2 := k5.c0
                  have z3 := k5.c1
                  have z4 := k6.c0
                  have z5 := k6.c1
                  refine bodyPost_ret (v := .tuple #[.agg #[.bool (decide (g < 0)), .slice A3 (ln g.natAbs) c3], .agg #[.bool (decide (ex < 0)), .slice A4 (ln ex.natAbs) c4], .agg #[.bool (decide (ey < 0)), .slice A5 (ln (ey).natAbs) c5], .int .i64 0]) (by simp [results, Try.results42, go_sem, z0, z1, z2, z3, z4, z5]) rfl ?_
                  have T5 : NN WF A5 c5 ey.natAbs := by rw [hWG]; exact three_nn R4.out R5.out R6.out (by omega) (by omega) (by omega) _ _ _ _ _ _ N5.out
                  exact ⟨A3, c3, A4, c4, A5, c5, rfl, T3, T4, T5, TB⟩
          · have hd0 : decide (ln r1.natAbs = 0) = false := decide_eq_false (fun h => hr1 (by have := ln_eq_zero.1 h; omega))
            rw [hd0]
            have HR1 := Hd.mk hr1
            have HNX := Hd.mk (HEU.out.step hr1)
            have HLT : Hd ((r0 % r1).natAbs < r1.natAbs) := ⟨by have h1 := Int.emod_nonneg r0 hr1; have h2 := Int.emod_lt r0 hr1; omega⟩
            clear hd0 hr1 u0 u1 HEU
            obtain ⟨Ar0, cr0, hBr0, hnr0⟩ := P12.out
            have u0 := hBr0.c0; have u1 := hBr0.c1
            obtain ⟨Ar1, cr1, hBr1, hnr1⟩ := P13.out
            have v0 := hBr1.c0; have v1 := hBr1.c1
            have HD := Hd.mk (wdiv_calls r0 r1 Ar0 cr0 Ar1 cr1 _ hnr0 hnr1 HR1.out (by omega) (by omega))
            clear hBr0 hBr1 hnr0 hnr1
            go_wp2_with fail
            refine HD.out.mono ?_
            rintro e w6 ⟨A16, c16, A17, c17, rfl, hn16, hn17, hb6⟩
            obtain ⟨kq, hkq⟩ : ∃ k, k = r0 / r1 := ⟨_, rfl⟩
            obtain ⟨rr, hrr⟩ : ∃ k, k = r0 % r1 := ⟨_, rfl⟩
            have hlk : ln kq.natAbs ≤ 300 := by rw [hkq]; exact Nat.le_trans (ln_mono (Int.natAbs_ediv_le_natAbs _ _)) hlr0
            rw [← hkq] at hn16 HNX ⊢
            rw [← hrr] at hn17 HNX HLT ⊢
            clear hkq hrr u0 u1 v0 v1 HD
            go_upto_region 11 with fail
            obtain ⟨W6, hW6⟩ : ∃ W : World, W = (w6.alloc (.cells #[.bool (decide (kq < 0)), .slice A16 (ln kq.natAbs) c16] 70)).alloc (.cells #[.bool (decide (rr < 0)), .slice A17 (ln rr.natAbs) c17] 70) := ⟨_, rfl⟩
            rw [← hW6]
            obtain ⟨hX, hY, hbw⟩ := boxes2 hW6
            have hb7 := bel_then hb6 hbw
            have HS16 : Hd (g12 < w6.heap.size ∧ g13 < w6.heap.size ∧ g14 < w6.heap.size ∧ g15 < w6.heap.size) := ⟨(P12.out.to hb6).lt, (P13.out.to hb6).lt, (P14.out.to hb6).lt, (P15.out.to hb6).lt⟩
            replace L0 := Hd.mk (L0.out.to hb7)
            replace L1 := Hd.mk (L1.out.to hb7)
            replace R4 := Hd.mk (R4.out.to hb7)
            replace R5 := Hd.mk (R5.out.to hb7)
            replace R6 := Hd.mk (R6.out.to hb7)
            replace P8 := Hd.mk (P8.out.to hb7)
            replace P9 := Hd.mk (P9.out.to hb7)
            replace P10 := Hd.mk (P10.out.to hb7)
            replace P12 := Hd.mk (P12.out.to hb7)
            replace P13 := Hd.mk (P13.out.to hb7)
            replace P14 := Hd.mk (P14.out.to hb7)
            replace P15 := Hd.mk (P15.out.to hb7)
            replace HB := Hd.mk (bel_then HB.out hb7)
            have P16 : Hd (HZ W6 w6.heap.size 70 kq) := ⟨A16, c16, hX, NN.to hn16 hbw⟩
            have P17 : Hd (Blk W6 (w6.heap.size + 1) 70 [.bool (decide (rr < 0)), .slice A17 (ln rr.natAbs) c17]) := ⟨hY⟩
            have PN17 : Hd (NN W6 A17 c17 rr.natAbs) := ⟨NN.to hn17 hbw⟩
            obtain ⟨g16, hg16⟩ : ∃ g, g = w6.heap.size := ⟨_, rfl⟩
            rw [← hg16] at P16 P17 HS16 ⊢
            clear hW6 hX hY hbw hb6 hb7 hn16 hn17 hg16
            obtain ⟨A15, c15, hB15, hn15⟩ := P15.out
            have PB15 := Hd.mk hB15
            have PN15 := Hd.mk hn15
            clear hB15 hn15
            have hlks : ln (kq * s1).natAbs ≤ 600 := by rw [Int.natAbs_mul]; exact Nat.le_trans (ln_mul _ _) (by omega)
            refine wp_region_vl 8 [68, 69, 70, 71, 72, 73, 74, 75] [] [1, 2] [] 70 [.bool false, .slice none 0 0] [isZ r1, isV (.agg #[.bool (decide (rr < 0)), .slice A17 (ln rr.natAbs) c17]), isV (.agg #[.bool (decide (s1 < 0)), .slice A15 (ln s1.natAbs) c15]), isZ s0, isZ kq, isZ s1, isZ (kq * s1), isZ (s0 - kq * s1)] (fun i => if i = 1 then At2 (g16 + 1) (.bool (decide (rr < 0))) (.slice A17 (ln rr.natAbs) c17) else At2 g15 (.bool (decide (s1 < 0))) (.slice A15 (ln s1.natAbs) c15)) (by kernel_rfl) (by kernel_rfl) (by kernel_rfl) (by rfl) (by kernel_rfl) ?_ alloc_whole (fun d v c a w h => by cases d <;> exact h) ?_ ?_
            · intro i hi wx hb
              simp at hi
              rcases hi with rfl | rfl
              · exact (P17.out.to hb).at2
              · exact (PB15.out.to hb).at2
            · intro i hi hA a wx hb hs hd
              match i, hi, hA with
              | 0, _, _ => exact op_loadW rfl rfl (hs 13 rfl) (P13.out.to hb)
              | 1, _, _ => exact ⟨_, op_loadY rfl (hs 17 rfl) (fun w hw => load_whole hw.1 hw.2), rfl⟩
              | 2, _, _ => exact ⟨_, op_loadY rfl (hs 15 rfl) (fun w hw => load_whole hw.1 hw.2), rfl⟩
              | 3, _, _ => exact op_loadW rfl rfl (hs 14 rfl) (P14.out.to hb)
              | 4, _, _ => exact op_loadW rfl rfl (hs 16 rfl) (P16.out.to hb)
              | 5, _, _ => exact op_loadW rfl rfl (hs 15 rfl) (P15.out.to hb)
              | 6, _, _ =>
                simp only [List.getElem?_cons_succ, List.getElem?_cons_zero]
                rw [if_neg (by decide), if_neg (by decide)]
                exact op_call2 rfl rfl Try.call67 (z2 (fun A1 c1 A2 c2 h1 h2 => wmul_calls (kq) (s1) A1 c1 A2 c2 _ h1 h2 (by omega) (by omega)) (fun e w' h => h.got) (hd 4 rfl) (hd 5 rfl))
              | 7, _, _ =>
                simp only [List.getElem?_cons_succ, List.getElem?_cons_zero]
                rw [if_neg (by decide), if_neg (by decide)]
                exact op_call2 rfl rfl Try.call66 (z2 (fun A1 c1 A2 c2 h1 h2 => wsub_calls (s0) (kq * s1) A1 c1 A2 c2 _ h1 h2 (by omega) (by omega)) (fun e w' h => h.got) (hd 3 rfl) (hd 6 rfl))
              | i + 8, h, _ => omega
            · intro vs wx hb hv hal hne
              obtain ⟨A68, c68, e68, n68⟩ : (isZ r1).p (vs 68) wx := hv 0 (by decide) rfl
              have e69 : vs 69 = .agg #[.bool (decide (rr < 0)), .slice A17 (ln rr.natAbs) c17] := hv 1 (by decide) rfl
              have e70 : vs 70 = .agg #[.bool (decide (s1 < 0)), .slice A15 (ln s1.natAbs) c15] := hv 2 (by decide) rfl
              obtain ⟨A75, c75, e75, n75⟩ : (isZ (s0 - kq * s1)).p (vs 75) wx := hv 7 (by decide) rfl
              simp only [putAll, List.foldl_cons, List.foldl_nil, Act.put, List.setIfInBounds_toArray, List.set_cons_succ, List.set_cons_zero, List.drop_succ_cons, List.drop_zero, e68, e69, e70, e75]
              generalize vs 71 = s71
              generalize vs 72 = s72
              generalize vs 73 = s73
              generalize vs 74 = s74
              have qL0 := L0.out.to hb
              have qL1 := L1.out.to hb
              have qR4 := R4.out.to hb
              have qR5 := R5.out.to hb
              have qR6 := R6.out.to hb
              have qP8 := P8.out.to hb
              have qP9 := P9.out.to hb
              have qP10 := P10.out.to hb
              have qP12 := P12.out.to hb
              have qP13 := P13.out.to hb
              have qP14 := P14.out.to hb
              have qP15 := P15.out.to hb
              have qb := bel_then HB.out hb
              have n69 := PN17.out.to hb
              have n70 := PN15.out.to hb
              have b17 := P17.out.to hb
              have b15 := PB15.out.to hb
              obtain ⟨d1213, d1214, d1215, d1314, d1315, d1415⟩ := HDN.out
              have hs16 := HS16.out
              have hgw := HGW.out
              have hltL0 := HLTL0.out
              have hltL1 := HLTL1.out
              have hltR4 := HLTR4.out
              have hltR5 := HLTR5.out
              have hltR6 := HLTR6.out
              have hltP8 := HLTP8.out
              have hltP9 := HLTP9.out
              have hltP10 := HLTP10.out
              obtain ⟨sn, hsn⟩ : ∃ s, s = s0 - kq * s1 := ⟨_, rfl⟩
              rw [← hsn] at n75 HNX ⊢
              obtain ⟨f1, f2, f3, f4, hf12⟩ := qP12.any
              obtain ⟨f1', f2', f3', f4', hf13⟩ := qP13.any
              obtain ⟨f5, f6, f7, f8, hf14⟩ := qP14.any
              obtain ⟨f9, f10, f11, f12, hf15⟩ := qP15.any
              have hf13' := hf13.put_ (u := .bool (decide (r1 < 0))) (v := .slice A68 (ln r1.natAbs) c68) (g := g12) (by omega)
              have b15' := b15.put_ (u := .bool (decide (r1 < 0))) (v := .slice A68 (ln r1.natAbs) c68) (g := g12) (by omega)
              refine wpListS_store rfl rfl rfl rfl rfl (store_whole hf12.c0 hf12.c1 hf12.f0 hf12.f1 _ _ _ _) (SK_mk [1, 2] (by kernel_rfl) (fun i hi _ => ?_)) (wpListS_store rfl rfl rfl rfl rfl (store_whole hf13'.c0 hf13'.c1 hf13'.f0 hf13'.f1 _ _ _ _) (SK_mk [2] (by kernel_rfl) (fun i hi _ => ?_)) (wpListS_done (by kernel_rfl) ?_))
              · simp at hi
                rcases hi with rfl | rfl
                · exact (b17.put_ (by omega) _ _).at2
                · exact b15'.at2
              · simp at hi
                subst hi
                exact (b15'.put_ (by omega) _ _).at2
              obtain ⟨Ut0, hUt0⟩ : ∃ W, W = put2 wx g12 (.bool (decide (r1 < 0))) (.slice A68 (ln (r1).natAbs) c68) := ⟨_, rfl⟩
              have btUt0 : HB2 wx g12 70 := qP12.any
              replace qL0 : HZ Ut0 w.heap.size 24 (p) := by rw [hUt0]; exact qL0.put btUt0 (by omega) _ _
              replace qL1 : HZ Ut0 (w.heap.size + 1) 24 (q) := by rw [hUt0]; exact qL1.put btUt0 (by omega) _ _
              replace qR4 : HB2 Ut0 (w.heap.size + 1 + 1) 24 := by rw [hUt0]; exact qR4.put (by omega) _ _
              replace qR5 : HB2 Ut0 (w.heap.size + 1 + 1 + 1) 24 := by rw [hUt0]; exact qR5.put (by omega) _ _
              replace qR6 : HB2 Ut0 (w.heap.size + 1 + 1 + 1 + 1) 24 := by rw [hUt0]; exact qR6.put (by omega) _ _
              replace qP8 : HZ Ut0 g8 70 ((p)) := by rw [hUt0]; exact qP8.put btUt0 (by omega) _ _
              replace qP9 : HZ Ut0 g9 70 ((q)) := by rw [hUt0]; exact qP9.put btUt0 (by omega) _ _
              replace qP10 : HZ Ut0 g10 70 (g) := by rw [hUt0]; exact qP10.put btUt0 (by omega) _ _
              replace qP12 : HZ Ut0 g12 70 (r1) := by rw [hUt0]; exact HZ.set btUt0 n68
              replace qP13 : HZ Ut0 g13 70 (r1) := by rw [hUt0]; exact qP13.put btUt0 (by omega) _ _
              replace qP14 : HZ Ut0 g14 70 (s0) := by rw [hUt0]; exact qP14.put btUt0 (by omega) _ _
              replace qP15 : HZ Ut0 g15 70 (s1) := by rw [hUt0]; exact qP15.put btUt0 (by omega) _ _
              replace n69 : NN Ut0 A17 c17 (rr).natAbs := by rw [hUt0]; exact n69.put btUt0 _ _
              replace n70 : NN Ut0 A15 c15 (s1).natAbs := by rw [hUt0]; exact n70.put btUt0 _ _
              replace n75 : NN Ut0 A75 c75 (sn).natAbs := by rw [hUt0]; exact n75.put btUt0 _ _
              replace qb : Below w.heap.size w Ut0 := by rw [hUt0]; exact below_put qb (by omega) _ _
              obtain ⟨Ut1, hUt1⟩ : ∃ W, W = put2 Ut0 g13 (.bool (decide (rr < 0))) (.slice A17 (ln (rr).natAbs) c17) := ⟨_, rfl⟩
              have btUt1 : HB2 Ut0 g13 70 := qP13.any
              replace qL0 : HZ Ut1 w.heap.size 24 (p) := by rw [hUt1]; exact qL0.put btUt1 (by omega) _ _
              replace qL1 : HZ Ut1 (w.heap.size + 1) 24 (q) := by rw [hUt1]; exact qL1.put btUt1 (by omega) _ _
              replace qR4 : HB2 Ut1 (w.heap.size + 1 + 1) 24 := by rw [hUt1]; exact qR4.put (by omega) _ _
              replace qR5 : HB2 Ut1 (w.heap.size + 1 + 1 + 1) 24 := by rw [hUt1]; exact qR5.put (by omega) _ _
              replace qR6 : HB2 Ut1 (w.heap.size + 1 + 1 + 1 + 1) 24 := by rw [hUt1]; exact qR6.put (by omega) _ _
              replace qP8 : HZ Ut1 g8 70 ((p)) := by rw [hUt1]; exact qP8.put btUt1 (by omega) _ _
              replace qP9 : HZ Ut1 g9 70 ((q)) := by rw [hUt1]; exact qP9.put btUt1 (by omega) _ _
              replace qP10 : HZ Ut1 g10 70 (g) := by rw [hUt1]; exact qP10.put btUt1 (by omega) _ _
              replace qP12 : HZ Ut1 g12 70 (r1) := by rw [hUt1]; exact qP12.put btUt1 (by omega) _ _
              replace qP13 : HZ Ut1 g13 70 (rr) := by rw [hUt1]; exact HZ.set btUt1 n69
              replace qP14 : HZ Ut1 g14 70 (s0) := by rw [hUt1]; exact qP14.put btUt1 (by omega) _ _
              replace qP15 : HZ Ut1 g15 70 (s1) := by rw [hUt1]; exact qP15.put btUt1 (by omega) _ _
              replace n70 : NN Ut1 A15 c15 (s1).natAbs := by rw [hUt1]; exact n70.put btUt1 _ _
              replace n75 : NN Ut1 A75 c75 (sn).natAbs := by rw [hUt1]; exact n75.put btUt1 _ _
              replace qb : Below w.heap.size w Ut1 := by rw [hUt1]; exact below_put qb (by omega) _ _
              obtain ⟨Ut2, hUt2⟩ : ∃ W, W = put2 Ut1 g14 (.bool (decide (s1 < 0))) (.slice A15 (ln (s1).natAbs) c15) := ⟨_, rfl⟩
              have btUt2 : HB2 Ut1 g14 70 := qP14.any
              replace qL0 : HZ Ut2 w.heap.size 24 (p) := by rw [hUt2]; exact qL0.put btUt2 (by omega) _ _
              replace qL1 : HZ Ut2 (w.heap.size + 1) 24 (q) := by rw [hUt2]; exact qL1.put btUt2 (by omega) _ _
              replace qR4 : HB2 Ut2 (w.heap.size + 1 + 1) 24 := by rw [hUt2]; exact qR4.put (by omega) _ _
              replace qR5 : HB2 Ut2 (w.heap.size + 1 + 1 + 1) 24 := by rw [hUt2]; exact qR5.put (by omega) _ _
              replace qR6 : HB2 Ut2 (w.heap.size + 1 + 1 + 1 + 1) 24 := by rw [hUt2]; exact qR6.put (by omega) _ _
              replace qP8 : HZ Ut2 g8 70 ((p)) := by rw [hUt2]; exact qP8.put btUt2 (by omega) _ _
              replace qP9 : HZ Ut2 g9 70 ((q)) := by rw [hUt2]; exact qP9.put btUt2 (by omega) _ _
              replace qP10 : HZ Ut2 g10 70 (g) := by rw [hUt2]; exact qP10.put btUt2 (by omega) _ _
              replace qP12 : HZ Ut2 g12 70 (r1) := by rw [hUt2]; exact qP12.put btUt2 (by omega) _ _
              replace qP13 : HZ Ut2 g13 70 (rr) := by rw [hUt2]; exact qP13.put btUt2 (by omega) _ _
              replace qP14 : HZ Ut2 g14 70 (s1) := by rw [hUt2]; exact HZ.set btUt2 n70
              replace qP15 : HZ Ut2 g15 70 (s1) := by rw [hUt2]; exact qP15.put btUt2 (by omega) _ _
              replace n75 : NN Ut2 A75 c75 (sn).natAbs := by rw [hUt2]; exact n75.put btUt2 _ _
              replace qb : Below w.heap.size w Ut2 := by rw [hUt2]; exact below_put qb (by omega) _ _
              obtain ⟨Ut3, hUt3⟩ : ∃ W, W = put2 Ut2 g15 (.bool (decide (sn < 0))) (.slice A75 (ln (sn).natAbs) c75) := ⟨_, rfl⟩
              have btUt3 : HB2 Ut2 g15 70 := qP15.any
              replace qL0 : HZ Ut3 w.heap.size 24 (p) := by rw [hUt3]; exact qL0.put btUt3 (by omega) _ _
              replace qL1 : HZ Ut3 (w.heap.size + 1) 24 (q) := by rw [hUt3]; exact qL1.put btUt3 (by omega) _ _
              replace qR4 : HB2 Ut3 (w.heap.size + 1 + 1) 24 := by rw [hUt3]; exact qR4.put (by omega) _ _
              replace qR5 : HB2 Ut3 (w.heap.size + 1 + 1 + 1) 24 := by rw [hUt3]; exact qR5.put (by omega) _ _
              replace qR6 : HB2 Ut3 (w.heap.size + 1 + 1 + 1 + 1) 24 := by rw [hUt3]; exact qR6.put (by omega) _ _
              replace qP8 : HZ Ut3 g8 70 ((p)) := by rw [hUt3]; exact qP8.put btUt3 (by omega) _ _
              replace qP9 : HZ Ut3 g9 70 ((q)) := by rw [hUt3]; exact qP9.put btUt3 (by omega) _ _
              replace qP10 : HZ Ut3 g10 70 (g) := by rw [hUt3]; exact qP10.put btUt3 (by omega) _ _
              replace qP12 : HZ Ut3 g12 70 (r1) := by rw [hUt3]; exact qP12.put btUt3 (by omega) _ _
              replace qP13 : HZ Ut3 g13 70 (rr) := by rw [hUt3]; exact qP13.put btUt3 (by omega) _ _
              replace qP14 : HZ Ut3 g14 70 (s1) := by rw [hUt3]; exact qP14.put btUt3 (by omega) _ _
              replace qP15 : HZ Ut3 g15 70 (sn) := by rw [hUt3]; exact HZ.set btUt3 n75
              replace qb : Below w.heap.size w Ut3 := by rw [hUt3]; exact below_put qb (by omega) _ _
              have x14a := hf14.c0
              have x14b := hf14.c1
              have x14c := hf14.f0
              have x14d := hf14.f1
              have x15a := hf15.c0
              have x15b := hf15.c1
              have x15c := hf15.f0
              have x15d := hf15.f1
              unfold put2 at hUt0 hUt1 hUt2 hUt3
              rw [hUt2, hUt1, hUt0] at hUt3
              have d1312 := Ne.symm d1213
              have d1412 := Ne.symm d1214
              have d1512 := Ne.symm d1215
              have d1413 := Ne.symm d1314
              have d1513 := Ne.symm d1315
              have d1514 := Ne.symm d1415
              have TL0 : Hd (HZ Ut3 w.heap.size 24 (p)) := ⟨qL0⟩
              have TL1 : Hd (HZ Ut3 (w.heap.size + 1) 24 (q)) := ⟨qL1⟩
              have TR4 : Hd (HB2 Ut3 (w.heap.size + 1 + 1) 24) := ⟨qR4⟩
              have TR5 : Hd (HB2 Ut3 (w.heap.size + 1 + 1 + 1) 24) := ⟨qR5⟩
              have TR6 : Hd (HB2 Ut3 (w.heap.size + 1 + 1 + 1 + 1) 24) := ⟨qR6⟩
              have TP8 : Hd (HZ Ut3 g8 70 ((p))) := ⟨qP8⟩
              have TP9 : Hd (HZ Ut3 g9 70 ((q))) := ⟨qP9⟩
              have TP10 : Hd (HZ Ut3 g10 70 (g)) := ⟨qP10⟩
              have TP12 : Hd (HZ Ut3 g12 70 (r1)) := ⟨qP12⟩
              have TP13 : Hd (HZ Ut3 g13 70 (rr)) := ⟨qP13⟩
              have TP14 : Hd (HZ Ut3 g14 70 (s1)) := ⟨qP14⟩
              have TP15 : Hd (HZ Ut3 g15 70 (sn)) := ⟨qP15⟩
              have HBT : Hd (Below w.heap.size w Ut3) := ⟨qb⟩
              clear hv hal hne hb e68 e69 e70 e75 n68 n69 n70 n75 b17 b15 b15' hf12 hf13 hf13' hf14 hf15 hs16 hgw hsn qb hUt0 hUt1 hUt2 btUt0 btUt1 btUt2 btUt3 qL0 qL1 qR4 qR5 qR6 qP8 qP9 qP10 qP12 qP13 qP14 qP15 hltL0 hltL1 hltR4 hltR5 hltR6 hltP8 hltP9 hltP10 L0 L1 R4 R5 R6 P8 P9 P10 P12 P13 P14 P15 P16 P17 PN17 PB15 PN15 HB
              unfold put2
              go_wp2_with fail
              rw [← hUt3]
              go_roundg (rr.natAbs)
              case measure => have := HLT.out; have := HGK.out; omega
              case rel => exact ⟨r1, rr, s1, sn, TL0.out, TL1.out, TR4.out, TR5.out, TR6.out, TP8.out, TP9.out, TP10.out, TP12.out, TP13.out, TP14.out, TP15.out, HNX.out, Nat.le_refl _, HBT.out⟩
end Go.Proofs.Ytcjcpfafalkceaa

/- Ext and the reference's Ext on arguments as they came in. -/
set_option linter.unusedVariables false
set_option linter.unusedSimpArgs false
namespace Go.Proofs.Ytcjcpfafalkceaa
open Go.RowKit
/-- What a call with two arguments answers that fits always. -/
def okz (x y : Raw) (z : Int) : Int := if (x.ok && y.ok) = true then z else 0
def oke (x y : Raw) : Int := if (x.ok && y.ok) = true then 0 else 2
set_option maxHeartbeats 1000000 in
set_option maxRecDepth 100000 in
theorem rExt_calls (x y : Raw) (w : World) (hx : x.at_ w) (hy : y.at_ w) :
    Calls Try.prog 49 #[x.v, y.v] w (RetZ3 (okz x y (zgcd x.val y.val)) (okz x y (exx x.val y.val)) (okz x y (exy x.val y.val)) (oke x y) w) := by
  unfold okz oke
  by_cases hok : (x.ok && y.ok) = true
  · obtain ⟨hxo, hyo⟩ := and_ok hok
    rw [if_pos hok, if_pos hok, if_pos hok, if_pos hok, (Raw.num hxo hx.2.1).1, (Raw.num hyo hy.2.1).1]
    exact rExt_num x.val y.val x.A x.c y.A y.c w (Raw.nn hxo hx) (Raw.nn hyo hy) (Raw.ok_len hxo hx.2.1) (Raw.ok_len hyo hy.2.1)
  · rw [if_neg hok, if_neg hok, if_neg hok, if_neg hok]
    have HV1 := Hd.mk (fun W (hW : Below w.heap.size w W) => rvalid_calls x W (Raw.at_to hx hW))
    have HV2 := Hd.mk (fun W (hW : Below w.heap.size w W) => rvalid_calls y W (Raw.at_to hy hW))
    by_cases hxo : x.ok = true
    · have hyf : y.ok = false := by
        rw [hxo] at hok
        simpa using hok
      rw [hxo] at HV1
      rw [hyf] at HV2
      unfold Raw.v at HV1 HV2 ⊢
      clear hx hy hxo hyf hok
      obtain ⟨b1, A1, c1, xs⟩ := x
      obtain ⟨b2, A2, c2, ys⟩ := y
      simp only at HV1 HV2 ⊢
      obtain ⟨n1, hn1⟩ : ∃ n, n = xs.length := ⟨_, rfl⟩
      obtain ⟨n2, hn2⟩ : ∃ n, n = ys.length := ⟨_, rfl⟩
      rw [← hn1] at HV1 ⊢
      rw [← hn2] at HV2 ⊢
      clear hn1 hn2
      go_enter Try.func49, Try.ntmps49
      go_wp2_with fail
      obtain ⟨W0, hW0⟩ : ∃ W : World, W = ((((w.alloc (.cells #[.bool b1, .slice A1 n1 c1] 24)).alloc (.cells #[.bool b2, .slice A2 n2 c2] 24)).alloc (.cells #[.bool false, .slice none 0 0] 24)).alloc (.cells #[.bool false, .slice none 0 0] 24)).alloc (.cells #[.bool false, .slice none 0 0] 24) := ⟨_, rfl⟩
      rw [← hW0]
      obtain ⟨hB0, hB1, hB2, hB3, hB4, hBW⟩ := boxes5 hW0
      have HB : Hd (Below w.heap.size w W0) := ⟨hBW⟩
      have HSZ : Hd (w.heap.size + 1 + 1 + 1 + 1 + 1 = W0.heap.size) := ⟨by rw [hW0]; simp⟩
      have Q0 := Hd.mk hB0
      have Q1 := Hd.mk hB1
      have R4 := Hd.mk hB2
      have R5 := Hd.mk hB3
      have R6 := Hd.mk hB4
      have q0 := hB0.c0; have q1 := hB0.c1
      have q2 := hB1.c0; have q3 := hB1.c1
      clear hW0 hB0 hB1 hB2 hB3 hB4 hBW
      refine (HV1.out _ HB.out).mono ?_
      rintro e w1 ⟨rfl, hb1⟩
      replace HB := Hd.mk (bel_then HB.out hb1)
      replace Q0 := Hd.mk (Q0.out.to hb1)
      replace Q1 := Hd.mk (Q1.out.to hb1)
      replace R4 := Hd.mk (R4.out.to hb1)
      replace R5 := Hd.mk (R5.out.to hb1)
      replace R6 := Hd.mk (R6.out.to hb1)
      replace q0 := Q0.out.c0
      replace q1 := Q0.out.c1
      replace q2 := Q1.out.c0
      replace q3 := Q1.out.c1
      clear hb1
      go_wp2_with fail
      refine (HV2.out _ HB.out).mono ?_
      rintro e w2 ⟨rfl, hb2⟩
      replace HB := Hd.mk (bel_then HB.out hb2)
      replace Q0 := Hd.mk (Q0.out.to hb2)
      replace Q1 := Hd.mk (Q1.out.to hb2)
      replace R4 := Hd.mk (R4.out.to hb2)
      replace R5 := Hd.mk (R5.out.to hb2)
      replace R6 := Hd.mk (R6.out.to hb2)
      replace q0 := Q0.out.c0
      replace q1 := Q0.out.c1
      replace q2 := Q1.out.c0
      replace q3 := Q1.out.c1
      clear hb2
      obtain h4 := R4.out
      obtain h5 := R5.out
      obtain h6 := R6.out
      have y4a := h4.c0; have y4b := h4.c1
      have y4c := h4.f0; have y4d := h4.f1
      have y5a := h5.c0; have y5b := h5.c1
      have y5c := h5.f0; have y5d := h5.f1
      have y6a := h6.c0; have y6b := h6.c1
      have y6c := h6.f0; have y6d := h6.f1
      clear h4 h5 h6
      go_wp2_with fail
      have r4 : HB2 w2 (w.heap.size + 1 + 1) 24 := ⟨_, _, _, _, R4.out⟩
      have r5 : HB2 w2 (w.heap.size + 1 + 1 + 1) 24 := ⟨_, _, _, _, R5.out⟩
      have r6 : HB2 w2 (w.heap.size + 1 + 1 + 1 + 1) 24 := ⟨_, _, _, _, R6.out⟩
      obtain ⟨WF, hWF⟩ : ∃ W, W = put2 (put2 (put2 w2 (w.heap.size + 1 + 1) (.bool false) (.slice none 0 0)) (w.heap.size + 1 + 1 + 1) (.bool false) (.slice none 0 0)) (w.heap.size + 1 + 1 + 1 + 1) (.bool false) (.slice none 0 0) := ⟨_, rfl⟩
      obtain ⟨k4, k5, k6⟩ := three_put r4 r5 r6 (by omega) (by omega) (by omega) (.bool false) (.slice none 0 0) (.bool false) (.slice none 0 0) (.bool false) (.slice none 0 0)
      have TB : Below w.heap.size w WF := by rw [hWF]; exact three_below HB.out (by omega) (by omega) (by omega) _ _ _ _ _ _
      rw [← hWF] at k4 k5 k6
      unfold put2 at hWF
      rw [← hWF]
      have z0 := k4.c0
      have z1 := k4.c1
      have z2 := k5.c0
      have z3 := k5.c1
      have z4 := k6.c0
      have z5 := k6.c1
      refine bodyPost_ret (v := .tuple #[.agg #[.bool false, .slice none 0 0], .agg #[.bool false, .slice none 0 0], .agg #[.bool false, .slice none 0 0], .int .i64 2]) (by simp [results, Try.results49, go_sem, z0, z1, z2, z3, z4, z5]) rfl ?_
      exact ⟨none, 0, none, 0, none, 0, by rw [show ln (Int.natAbs 0) = 0 from ln_zero]; rfl, NN.nil _ _ _ (by omega), NN.nil _ _ _ (by omega), NN.nil _ _ _ (by omega), TB⟩
    · have hxf : x.ok = false := by simpa using hxo
      rw [hxf] at HV1
      unfold Raw.v at HV1 HV2 ⊢
      clear hx hy hxo hxf hok
      obtain ⟨b1, A1, c1, xs⟩ := x
      obtain ⟨b2, A2, c2, ys⟩ := y
      simp only at HV1 HV2 ⊢
      obtain ⟨n1, hn1⟩ : ∃ n, n = xs.length := ⟨_, rfl⟩
      obtain ⟨n2, hn2⟩ : ∃ n, n = ys.length := ⟨_, rfl⟩
      rw [← hn1] at HV1 ⊢
      rw [← hn2] at HV2 ⊢
      clear hn1 hn2
      go_enter Try.func49, Try.ntmps49
      go_wp2_with fail
      obtain ⟨W0, hW0⟩ : ∃ W : World, W = ((((w.alloc (.cells #[.bool b1, .slice A1 n1 c1] 24)).alloc (.cells #[.bool b2, .slice A2 n2 c2] 24)).alloc (.cells #[.bool false, .slice none 0 0] 24)).alloc (.cells #[.bool false, .slice none 0 0] 24)).alloc (.cells #[.bool false, .slice none 0 0] 24) := ⟨_, rfl⟩
      rw [← hW0]
      obtain ⟨hB0, hB1, hB2, hB3, hB4, hBW⟩ := boxes5 hW0
      have HB : Hd (Below w.heap.size w W0) := ⟨hBW⟩
      have HSZ : Hd (w.heap.size + 1 + 1 + 1 + 1 + 1 = W0.heap.size) := ⟨by rw [hW0]; simp⟩
      have Q0 := Hd.mk hB0
      have Q1 := Hd.mk hB1
      have R4 := Hd.mk hB2
      have R5 := Hd.mk hB3
      have R6 := Hd.mk hB4
      have q0 := hB0.c0; have q1 := hB0.c1
      have q2 := hB1.c0; have q3 := hB1.c1
      clear hW0 hB0 hB1 hB2 hB3 hB4 hBW
      refine (HV1.out _ HB.out).mono ?_
      rintro e w1 ⟨rfl, hb1⟩
      replace HB := Hd.mk (bel_then HB.out hb1)
      replace Q0 := Hd.mk (Q0.out.to hb1)
      replace Q1 := Hd.mk (Q1.out.to hb1)
      replace R4 := Hd.mk (R4.out.to hb1)
      replace R5 := Hd.mk (R5.out.to hb1)
      replace R6 := Hd.mk (R6.out.to hb1)
      replace q0 := Q0.out.c0
      replace q1 := Q0.out.c1
      replace q2 := Q1.out.c0
      replace q3 := Q1.out.c1
      clear hb1
      obtain h4 := R4.out
      obtain h5 := R5.out
      obtain h6 := R6.out
      have y4a := h4.c0; have y4b := h4.c1
      have y4c := h4.f0; have y4d := h4.f1
      have y5a := h5.c0; have y5b := h5.c1
      have y5c := h5.f0; have y5d := h5.f1
      have y6a := h6.c0; have y6b := h6.c1
      have y6c := h6.f0; have y6d := h6.f1
      clear h4 h5 h6
      go_wp2_with fail
      have r4 : HB2 w1 (w.heap.size + 1 + 1) 24 := ⟨_, _, _, _, R4.out⟩
      have r5 : HB2 w1 (w.heap.size + 1 + 1 + 1) 24 := ⟨_, _, _, _, R5.out⟩
      have r6 : HB2 w1 (w.heap.size + 1 + 1 + 1 + 1) 24 := ⟨_, _, _, _, R6.out⟩
      obtain ⟨WF, hWF⟩ : ∃ W, W = put2 (put2 (put2 w1 (w.heap.size + 1 + 1) (.bool false) (.slice none 0 0)) (w.heap.size + 1 + 1 + 1) (.bool false) (.slice none 0 0)) (w.heap.size + 1 + 1 + 1 + 1) (.bool false) (.slice none 0 0) := ⟨_, rfl⟩
      obtain ⟨k4, k5, k6⟩ := three_put r4 r5 r6 (by omega) (by omega) (by omega) (.bool false) (.slice none 0 0) (.bool false) (.slice none 0 0) (.bool false) (.slice none 0 0)
      have TB : Below w.heap.size w WF := by rw [hWF]; exact three_below HB.out (by omega) (by omega) (by omega) _ _ _ _ _ _
      rw [← hWF] at k4 k5 k6
      unfold put2 at hWF
      rw [← hWF]
      have z0 := k4.c0
      have z1 := k4.c1
      have z2 := k5.c0
      have z3 := k5.c1
      have z4 := k6.c0
      have z5 := k6.c1
      refine bodyPost_ret (v := .tuple #[.agg #[.bool false, .slice none 0 0], .agg #[.bool false, .slice none 0 0], .agg #[.bool false, .slice none 0 0], .int .i64 2]) (by simp [results, Try.results49, go_sem, z0, z1, z2, z3, z4, z5]) rfl ?_
      exact ⟨none, 0, none, 0, none, 0, by rw [show ln (Int.natAbs 0) = 0 from ln_zero]; rfl, NN.nil _ _ _ (by omega), NN.nil _ _ _ (by omega), NN.nil _ _ _ (by omega), TB⟩
set_option maxHeartbeats 1000000 in
set_option maxRecDepth 100000 in
theorem Ext_calls (x y : Raw) (w : World) (hx : x.at_ w) (hy : y.at_ w) :
    Calls Try.prog 42 #[x.v, y.v] w (RetZ3 (okz x y (zgcd x.val y.val)) (okz x y (exx x.val y.val)) (okz x y (exy x.val y.val)) (oke x y) w) := by
  unfold okz oke
  by_cases hok : (x.ok && y.ok) = true
  · obtain ⟨hxo, hyo⟩ := and_ok hok
    rw [if_pos hok, if_pos hok, if_pos hok, if_pos hok, (Raw.num hxo hx.2.1).1, (Raw.num hyo hy.2.1).1]
    exact Ext_num x.val y.val x.A x.c y.A y.c w (Raw.nn hxo hx) (Raw.nn hyo hy) (Raw.ok_len hxo hx.2.1) (Raw.ok_len hyo hy.2.1)
  · rw [if_neg hok, if_neg hok, if_neg hok, if_neg hok]
    have HV := Hd.mk (fun g W (h : Below w.heap.size w W) (hB : Blk W g 24 [.bool x.neg, .slice x.A x.xs.length x.c, .bool y.neg, .slice y.A y.xs.length y.c]) => valid_calls [x, y] g 2 W (raws_two h hx hy hB) rfl (Nat.le_refl _))
    have hof : (x.ok && y.ok) = false := by simpa using hok
    rw [all_two, hof] at HV
    unfold Raw.v
    clear hx hy hof hok
    obtain ⟨b1, A1, c1, xs⟩ := x
    obtain ⟨b2, A2, c2, ys⟩ := y
    simp only at HV ⊢
    obtain ⟨n1, hn1⟩ : ∃ n, n = xs.length := ⟨_, rfl⟩
    obtain ⟨n2, hn2⟩ : ∃ n, n = ys.length := ⟨_, rfl⟩
    rw [← hn1] at HV ⊢
    rw [← hn2] at HV ⊢
    clear hn1 hn2
    go_enter Try.func42, Try.ntmps42
    go_wp2_with fail
    obtain ⟨W0, hW0⟩ : ∃ W : World, W = ((((w.alloc (.cells #[.bool b1, .slice A1 n1 c1] 24)).alloc (.cells #[.bool b2, .slice A2 n2 c2] 24)).alloc (.cells #[.bool false, .slice none 0 0] 24)).alloc (.cells #[.bool false, .slice none 0 0] 24)).alloc (.cells #[.bool false, .slice none 0 0] 24) := ⟨_, rfl⟩
    rw [← hW0]
    obtain ⟨hB0, hB1, hB2, hB3, hB4, hBW⟩ := boxes5 hW0
    have HB : Hd (Below w.heap.size w W0) := ⟨hBW⟩
    have HSZ : Hd (w.heap.size + 1 + 1 + 1 + 1 + 1 = W0.heap.size) := ⟨by rw [hW0]; simp⟩
    have Q0 := Hd.mk hB0
    have Q1 := Hd.mk hB1
    have R4 := Hd.mk hB2
    have R5 := Hd.mk hB3
    have R6 := Hd.mk hB4
    have q0 := hB0.c0; have q1 := hB0.c1
    have q2 := hB1.c0; have q3 := hB1.c1
    clear hW0 hB0 hB1 hB2 hB3 hB4 hBW
    refine (HV.out _ _ (bel_then HB.out (below_alloc (Below.refl _ _) _)) (blk_new HSZ.out _ _)).mono ?_
    rintro e w1 ⟨rfl, hb1⟩
    replace hb1 := bel_then (below_alloc (Below.refl _ _) _) hb1
    replace HB := Hd.mk (bel_then HB.out hb1)
    replace Q0 := Hd.mk (Q0.out.to hb1)
    replace Q1 := Hd.mk (Q1.out.to hb1)
    replace R4 := Hd.mk (R4.out.to hb1)
    replace R5 := Hd.mk (R5.out.to hb1)
    replace R6 := Hd.mk (R6.out.to hb1)
    replace q0 := Q0.out.c0
    replace q1 := Q0.out.c1
    replace q2 := Q1.out.c0
    replace q3 := Q1.out.c1
    clear hb1
    go_upto_region 2 with fail
    clear q0 q1 q2 q3
    refine wp_region_vl 3 [29, 30, 31] [] [1, 2] [] 24 [.bool false, .slice none 0 0] [isV (.agg #[.bool false, .slice none 0 0]), isV (.agg #[.bool false, .slice none 0 0]), isV (.agg #[.bool false, .slice none 0 0])] (fun i => if i = 1 then At2 (w.heap.size + 1 + 1 + 1) (.bool false) (.slice none 0 0) else At2 (w.heap.size + 1 + 1 + 1 + 1) (.bool false) (.slice none 0 0)) (by kernel_rfl) (by kernel_rfl) (by kernel_rfl) (by rfl) (by kernel_rfl) ?_ alloc_api (fun d v c a w h => by cases d <;> exact h) ?_ ?_
    · intro i hi wx hb
      simp at hi
      rcases hi with rfl | rfl
      · exact (R5.out.to hb).at2
      · exact (R6.out.to hb).at2
    · intro i hi hA a wx hb hs hd
      match i, hi, hA with
      | 0, _, _ => exact op_load rfl rfl (hs 4 rfl) (load_api (R4.out.to hb).c0 (R4.out.to hb).c1) rfl
      | 1, _, _ => exact ⟨_, op_loadY rfl (hs 5 rfl) (fun w hw => load_api hw.1 hw.2), rfl⟩
      | 2, _, _ => exact ⟨_, op_loadY rfl (hs 6 rfl) (fun w hw => load_api hw.1 hw.2), rfl⟩
      | i + 3, h, _ => omega
    · intro vs wx hb hv hal hne
      have e0 : vs 29 = .agg #[.bool false, .slice none 0 0] := hv 0 (by decide) rfl
      have e1 : vs 30 = .agg #[.bool false, .slice none 0 0] := hv 1 (by decide) rfl
      have e2 : vs 31 = .agg #[.bool false, .slice none 0 0] := hv 2 (by decide) rfl
      simp only [putAll, List.foldl_cons, List.foldl_nil, Act.put, List.setIfInBounds_toArray, List.set_cons_succ, List.set_cons_zero, List.drop_succ_cons, List.drop_zero, e0, e1, e2]
      replace HB := Hd.mk (bel_then HB.out hb)
      replace R4 := Hd.mk (R4.out.to hb)
      replace R5 := Hd.mk (R5.out.to hb)
      replace R6 := Hd.mk (R6.out.to hb)
      clear hv hal hne e0 e1 e2 hb Q0 Q1
      have b4 := R4.out
      have b5 := R5.out.put_ (u := .bool false) (v := .slice none 0 0) (g := w.heap.size + 1 + 1) (by omega)
      have b6 := R6.out.put_ (u := .bool false) (v := .slice none 0 0) (g := w.heap.size + 1 + 1) (by omega)
      refine wpListS_store rfl rfl rfl rfl rfl (store_api b4.c0 b4.c1 b4.f0 b4.f1 _ _ _ _) (SK_mk [1, 2] (by kernel_rfl) (fun i hi _ => ?_)) (wpListS_store rfl rfl rfl rfl rfl (store_api b5.c0 b5.c1 b5.f0 b5.f1 _ _ _ _) (SK_mk [2] (by kernel_rfl) (fun i hi _ => ?_)) (wpListS_done (by kernel_rfl) ?_))
      · simp at hi
        rcases hi with rfl | rfl
        · exact b5.at2
        · exact b6.at2
      · simp at hi
        subst hi
        exact (b6.put_ (by omega) _ _).at2
      clear b4 b5 b6
      obtain h4 := R4.out
      obtain h5 := R5.out
      obtain h6 := R6.out
      have y4a := h4.c0; have y4b := h4.c1
      have y4c := h4.f0; have y4d := h4.f1
      have y5a := h5.c0; have y5b := h5.c1
      have y5c := h5.f0; have y5d := h5.f1
      have y6a := h6.c0; have y6b := h6.c1
      have y6c := h6.f0; have y6d := h6.f1
      clear h4 h5 h6
      unfold put2
      go_wp2_with fail
      have r4 : HB2 wx (w.heap.size + 1 + 1) 24 := ⟨_, _, _, _, R4.out⟩
      have r5 : HB2 wx (w.heap.size + 1 + 1 + 1) 24 := ⟨_, _, _, _, R5.out⟩
      have r6 : HB2 wx (w.heap.size + 1 + 1 + 1 + 1) 24 := ⟨_, _, _, _, R6.out⟩
      obtain ⟨WF, hWF⟩ : ∃ W, W = put2 (put2 (put2 wx (w.heap.size + 1 + 1) (.bool false) (.slice none 0 0)) (w.heap.size + 1 + 1 + 1) (.bool false) (.slice none 0 0)) (w.heap.size + 1 + 1 + 1 + 1) (.bool false) (.slice none 0 0) := ⟨_, rfl⟩
      obtain ⟨k4, k5, k6⟩ := three_put r4 r5 r6 (by omega) (by omega) (by omega) (.bool false) (.slice none 0 0) (.bool false) (.slice none 0 0) (.bool false) (.slice none 0 0)
      have TB : Below w.heap.size w WF := by rw [hWF]; exact three_below HB.out (by omega) (by omega) (by omega) _ _ _ _ _ _
      rw [← hWF] at k4 k5 k6
      unfold put2 at hWF
      rw [← hWF]
      have z0 := k4.c0
      have z1 := k4.c1
      have z2 := k5.c0
      have z3 := k5.c1
      have z4 := k6.c0
      have z5 := k6.c1
      refine bodyPost_ret (v := .tuple #[.agg #[.bool false, .slice none 0 0], .agg #[.bool false, .slice none 0 0], .agg #[.bool false, .slice none 0 0], .int .i64 2]) (by simp [results, Try.results42, go_sem, z0, z1, z2, z3, z4, z5]) rfl ?_
      exact ⟨none, 0, none, 0, none, 0, by rw [show ln (Int.natAbs 0) = 0 from ln_zero]; rfl, NN.nil _ _ _ (by omega), NN.nil _ _ _ (by omega), NN.nil _ _ _ (by omega), TB⟩
end Go.Proofs.Ytcjcpfafalkceaa

/- Regions that draw their order, with guarded operations. -/
set_option linter.unusedVariables false
set_option linter.unusedSimpArgs false
namespace Go.Proofs.Ytcjcpfafalkceaa
open Go.RowKit
def VarG (l : List Oper) (n1 : Nat) (ds E AL : List Nat) (T : TypeId) (n : Nat) : Bool :=
  decide (ds.length = n1) && decide (n1 ≤ l.length) && ds.all (fun d => decide (d < n)) && decide ds.Nodup && E.all (fun i => decide (i < n1) && !AL.contains i) && AL.all (fun i => decide (i < n1)) &&
  (List.range n1).all (fun i => match l[i]? with | none => false | some o => decide (o.dst = some (ds.getD i 0)) && (!AL.contains i || o.guard.isNone) && (!AL.contains i || match o.op with | .alloc t => t == T | _ => false))
/-- Whether a guarded operation is run. -/
def WantG (l : List Oper) (ds : List Nat) (o : Oper) (a : Act) (t : Bool) : Prop :=
  match o.guard with
  | none => t = true
  | some (j, b) => ((l[j]?).bind (·.dst)) = some (ds.getD j 0) ∧ a.eval (.tmp (ds.getD j 0)) = .bool (if t then b else !b)
theorem WantG.wanted {l : List Oper} {ds : List Nat} {o : Oper} {a : Act} {t : Bool} (h : WantG l ds o a t) : Region.wanted o (yielded l.toArray a.tmps) = t := by
  unfold WantG at h
  unfold Region.wanted
  split at h
  · next hg => rw [hg]; exact h.symm
  · next j b hg =>
    rw [hg]
    simp only
    obtain ⟨h1, h2⟩ := h
    have h3 : a.tmps.getD (ds.getD j 0) undef = .bool (if t then b else !b) := h2
    have h4 : a.tmps[ds.getD j 0]? = some (.bool (if t then b else !b)) := by
      rw [Array.getD_eq_getD_getElem?] at h3
      cases h : a.tmps[ds.getD j 0]? with
      | none => rw [h] at h3; simp [undef] at h3
      | some v => rw [h] at h3; simp at h3; rw [h3]
    have h5 : yielded l.toArray a.tmps j = some (if t then b else !b) := by
      unfold yielded
      rw [List.getElem?_toArray, h1]
      simp only [Option.bind_some, h4]
    rw [h5]
    cases t <;> cases b <;> rfl
section
variable {P : Program} {Q : Exit → Act → World → Prop}
theorem wp_region_varg {id : Nat} (n1 : Nat) {l : List Oper} {a0 : Act} {w0 : World} (ds E AL : List Nat) (T : TypeId) (z : List Value) (V : Nat → Value → World → Prop) (C : Nat → World → Prop)
    (hm : P.follows .mixedOrders = true) (hns : Region.noSelect l.toArray = true) (hB : phaseB l.toArray n1 E = true) (hF : freeB l.toArray E = true) (hD : VarG l n1 ds E AL T a0.tmps.size = true)
    (hCt : ∀ i ∈ E, ∀ j ∈ E, j ∈ edgesOf l.toArray i → ∀ w, C j w) (hC0 : ∀ i ∈ E, ∀ w, Below w0.heap.size w0 w → C i w)
    (hz : ∀ w : World, (Instr.alloc T true (.tuple #[])).run P w = .ok (.pointer (some ⟨w.heap.size, 0, none⟩)) (w.alloc (.cells z.toArray T)))
    (hQ : ∀ d v c a w, Q (.panic c) (a.put d v) w → Q (.panic c) a w)
    (hV : ∀ i v w w', V i v w → Below w.heap.size w w' → V i v w')
    (hop : ∀ i, i < n1 → AL.contains i = false → ∀ a w, Below w0.heap.size w0 w → (∀ t, ds.contains t = false → a.eval (.tmp t) = a0.eval (.tmp t)) → Deps l ds AL V i a w →
      match l[i]? with | none => True | some o => (WantG l ds o a true ∧ if E.contains i then ∃ v, (∀ w, C i w → (execOp a.eval o).run P w = .ok (.value v) w) ∧ V i v w else o.wp P a w (Post a w (ds.getD i 0) (V i)) Q) ∨ (WantG l ds o a false ∧ V i undef w))
    (hend : ∀ (vs : Nat → Value) (w : World), Below w0.heap.size w0 w → (∀ i, i < n1 → AL.contains i = false → V i (vs (ds.getD i 0)) w) →
      (∀ i, AL.contains i = true → ∃ g, vs (ds.getD i 0) = .pointer (some ⟨g, 0, none⟩) ∧ w0.heap.size ≤ g ∧ Blk w g T z) → (∀ i j, AL.contains i = true → AL.contains j = true → i ≠ j → vs (ds.getD i 0) ≠ vs (ds.getD j 0)) → wpListS P l.toArray Q E C n1 (l.drop n1) (putAll a0 ds vs) w) :
    (Code.region id l.toArray true).wp P Q a0 w0 := by
  unfold VarG at hD
  simp only [Bool.and_eq_true, decide_eq_true_eq, List.all_eq_true, List.mem_range] at hD
  obtain ⟨⟨⟨⟨⟨⟨hdl, hnl⟩, hdt⟩, hnd⟩, hEE⟩, hAA⟩, hops⟩ := hD
  have hop1 : ∀ i, i < n1 → ∃ o, l[i]? = some o ∧ o.dst = some (ds.getD i 0) ∧ (AL.contains i = true → o.guard = none) ∧ (AL.contains i = true → o.op = .alloc T) := by
    intro i hi
    have h := hops i hi
    cases ho : l[i]? with
    | none => rw [ho] at h; cases h
    | some o =>
      rw [ho] at h
      simp only [Bool.and_eq_true, decide_eq_true_eq, Bool.or_eq_true, Bool.not_eq_true', Option.isNone_iff_eq_none] at h
      refine ⟨o, rfl, h.1.1, fun hA => h.1.2.elim (fun h3 => by rw [hA] at h3; cases h3) (fun h3 => h3), fun hA => ?_⟩
      rcases h.2 with h2 | h2
      · rw [hA] at h2; cases h2
      · revert h2
        cases o.op <;> simp
  have hdi : ∀ i, i < n1 → ds.getD i 0 < a0.tmps.size := by
    intro i hi
    have : ds.getD i 0 ∈ ds := by
      rw [List.getD_eq_getElem?_getD, List.getElem?_eq_getElem (by omega)]
      exact List.getElem_mem _
    exact hdt _ this
  let F : Nat → Value → World → Prop := fun i v w => if AL.contains i then ∃ g, v = .pointer (some ⟨g, 0, none⟩) ∧ w0.heap.size ≤ g ∧ Blk w g T z else V i v w
  have hFs : ∀ i v w w', F i v w → Below w.heap.size w w' → F i v w' := by
    intro i v w w' h hb
    show if _ then _ else _
    have h' : if _ then _ else _ := h
    split at h'
    · next hA =>
      rw [if_pos hA]
      obtain ⟨g, h1, h2, h3⟩ := h'
      exact ⟨g, h1, h2, h3.to hb⟩
    · next hA => rw [if_neg hA]; exact hV _ _ _ _ h' hb
  let I : Array Bool → Act → World → Prop := fun L a w => Below w0.heap.size w0 w ∧ L.size = l.length ∧ a.defers = a0.defers ∧ a.tmps.size = a0.tmps.size ∧ (∀ t, t ∉ ds → a0.tmps[t]? = a.tmps[t]?) ∧
    (∀ i, i < n1 → L.getD i false = true → F i (a.eval (.tmp (ds.getD i 0))) w) ∧
    (∀ i j, AL.contains i = true → AL.contains j = true → i ≠ j → L.getD i false = true → L.getD j false = true → a.eval (.tmp (ds.getD i 0)) ≠ a.eval (.tmp (ds.getD j 0)))
  have hAlt : ∀ i, AL.contains i = true → i < n1 := fun i h => hAA i (by simpa using h)
  -- an operation that is no new variable
  have key : ∀ L a w i v w', I L a w → i < n1 → Below w.heap.size w w' → F i v w' → (AL.contains i = true → ∀ j, AL.contains j = true → i ≠ j → L.getD j false = true → v ≠ a.eval (.tmp (ds.getD j 0))) → I (L.setIfInBounds i true) (a.put (some (ds.getD i 0)) v) w' := by
    intro L a w i v w' ⟨hb, hsz, hdf, hts, hot, hf, hne⟩ hi hb' hv hd
    refine ⟨below_then hb hb.size hb', by simp [hsz], hdf, by simp [Act.put, hts], fun t ht => ?_, fun j hj hL => ?_, fun j k hj hk hjk hLj hLk => ?_⟩
    · have : ds.getD i 0 ≠ t := fun e => ht (by rw [← e, List.getD_eq_getElem?_getD, List.getElem?_eq_getElem (by omega)]; exact List.getElem_mem _)
      show _ = (a.tmps.setIfInBounds _ _)[t]?
      rw [Array.getElem?_setIfInBounds_ne this]
      exact hot t ht
    · by_cases hij : j = i
      · subst hij
        rw [eval_put_same (by rw [hts]; exact hdi _ hi)]
        exact hv
      · rw [eval_put_other (nodup_ne hnd (by omega) (by omega) (Ne.symm hij))]
        rw [set_getD _ (by omega), if_neg hij] at hL
        exact hFs _ _ _ _ (hf j hj hL) hb'
    · have hjn := hAlt j hj
      have hkn := hAlt k hk
      by_cases hji : j = i
      · subst hji
        rw [eval_put_same (by rw [hts]; exact hdi _ hi), eval_put_other (nodup_ne hnd (by omega) (by omega) hjk)]
        rw [set_getD _ (by omega), if_neg (Ne.symm hjk)] at hLk
        exact hd hj k hk hjk hLk
      · by_cases hki : k = i
        · subst hki
          rw [eval_put_same (by rw [hts]; exact hdi _ hi), eval_put_other (nodup_ne hnd (by omega) (by omega) (Ne.symm hji))]
          rw [set_getD _ (by omega), if_neg hji] at hLj
          exact Ne.symm (hd hk j hj (Ne.symm hjk) hLj)
        · rw [eval_put_other (nodup_ne hnd (by omega) (by omega) (Ne.symm hji)), eval_put_other (nodup_ne hnd (by omega) (by omega) (Ne.symm hki))]
          rw [set_getD _ (by omega), if_neg hji] at hLj
          rw [set_getD _ (by omega), if_neg hki] at hLk
          exact hne j k hj hk hjk hLj hLk
  have hpre : ∀ L a w i o, I L a w → i < n1 → i ∈ Region.ready .any l.toArray L → l[i]? = some o → (∀ t, ds.contains t = false → a.eval (.tmp t) = a0.eval (.tmp t)) ∧ Deps l ds AL V i a w := by
    intro L a w i o ⟨hb, hsz, hdf, hts, hot, hf, hne⟩ hi hr ho
    obtain ⟨_, o', ho', hall⟩ := mem_ready.1 hr
    have : o' = o := by simpa [ho] using ho'.symm
    subst this
    refine ⟨fun t ht => ?_, fun j hj => ?_⟩
    · have := hot t (by simpa using ht)
      show a.tmps.getD t undef = a0.tmps.getD t undef
      simp only [Array.getD_eq_getD_getElem?, this]
    · rw [ho] at hj
      simp only [Option.map_some, Option.getD_some, Bool.and_eq_true, Bool.not_eq_true', List.any_eq_true, decide_eq_true_eq] at hj
      obtain ⟨⟨e, he, hbd, heq⟩, hA⟩ := hj
      have hj1 : j < i := by rw [← heq]; exact (phaseB_back hB ho').1 e (by simpa using he) hbd
      have h1 := hf j (by omega) (by rw [← heq]; exact hall e (by simpa using he) hbd)
      have h2 : if AL.contains j then _ else _ := h1
      rw [if_neg (by rw [hA]; simp)] at h2
      exact h2
  refine wp_region_phase (n1 := n1) E C hm hns hB hF (fun i hi => by have := hEE i hi; simp at this; exact this.1) hCt hnl hQ I ?_ (fun L a w h i hi => hC0 i hi w h.1) ?_ ?_ ?_
  · refine ⟨below_drew (Below.refl _ _), by simp, rfl, rfl, fun _ _ => rfl, fun i hi hL => ?_, fun i j _ _ _ hL _ => ?_⟩
    · rw [rep_getD] at hL; cases hL
    · rw [rep_getD] at hL; cases hL
  · intro L a w i o hI hi hr ho
    have hEi := hEE i hi
    simp only [Bool.and_eq_true, decide_eq_true_eq, Bool.not_eq_true'] at hEi
    obtain ⟨h1, h2⟩ := hpre L a w i o hI hEi.1 hr ho
    have h3 := hop i hEi.1 hEi.2 a w hI.1 h1 h2
    rw [ho] at h3
    simp only at h3
    rw [if_pos (by simpa using hi)] at h3
    obtain ⟨o', ho', hdst, hg, _⟩ := hop1 i hEi.1
    have : o' = o := by rw [ho] at ho'; exact (Option.some.inj ho').symm
    subst this
    rcases h3 with ⟨hw, v, hy, hv⟩ | ⟨hw, hv⟩
    · refine ⟨v, .inl ⟨hw.wanted, hy⟩, ?_⟩
      rw [hdst]
      exact key L a w i v w hI hEi.1 (Below.refl _ _) (by show if _ then _ else _; rw [if_neg (by rw [hEi.2]; simp)]; exact hv) (fun h => by rw [hEi.2] at h; cases h)
    · refine ⟨undef, .inr ⟨hw.wanted, rfl⟩, ?_⟩
      rw [hdst]
      exact key L a w i undef w hI hEi.1 (Below.refl _ _) (by show if _ then _ else _; rw [if_neg (by rw [hEi.2]; simp)]; exact hv) (fun h => by rw [hEi.2] at h; cases h)
  · intro L a w i hI hi hE hr
    obtain ⟨o, ho, hdst, hg, hal⟩ := hop1 i hi
    obtain ⟨h1, h2⟩ := hpre L a w i o hI hi hr ho
    unfold wpOp
    have ho2 : l.toArray[i]? = some o := by simpa using ho
    rw [ho2]
    simp only
    by_cases hA : AL.contains i = true
    · rw [if_pos (by simp [Region.wanted, hg hA])]
      refine .inl ?_
      unfold Oper.wp execOp
      simp only [hal hA, Sem.run_bind, hz, Result.andThen_ok, Sem.run_pure, Oper.upon, hdst]
      refine key L a w i _ _ hI hi (below_alloc (Below.refl _ _) _) ?_ ?_
      · show if _ then _ else _
        rw [if_pos hA]
        exact ⟨_, rfl, hI.1.size, heap_alloc_new _ _⟩
      · intro _ j hj hij hL
        have h3 : if AL.contains j then _ else _ := hI.2.2.2.2.2.1 j (hAlt j hj) hL
        rw [if_pos hj] at h3
        obtain ⟨g, hg1, _, hg2⟩ := h3
        rw [hg1]
        intro he
        have := hg2.lt
        injection he with he
        injection he with he
        injection he with he
        omega
    · have hA' : AL.contains i = false := by simpa using hA
      have h3 := hop i hi hA' a w hI.1 h1 h2
      rw [ho] at h3
      simp only at h3
      rw [if_neg (by simpa using hE)] at h3
      rcases h3 with ⟨hw, h3⟩ | ⟨hw, hv⟩
      · rw [if_pos hw.wanted]
        refine .inl (Oper.wp_mono (fun a' w' h => ?_) h3)
        obtain ⟨v, rfl, hb', hv⟩ := h
        exact key L a w i v w' hI hi hb' (by show if _ then _ else _; rw [if_neg hA]; exact hv) (fun h => absurd h hA)
      · rw [if_neg (by rw [hw.wanted]; simp), hdst]
        exact key L a w i undef w hI hi (Below.refl _ _) (by show if _ then _ else _; rw [if_neg hA]; exact hv) (fun h => absurd h hA)
  · intro L a w hI hall
    obtain ⟨hb, hsz, hdf, hts, hot, hf, hne⟩ := hI
    have he := putAll_eq (a := a) ds a0 hdf.symm hts.symm (fun d hd => by rw [hts]; exact hdt d hd) hot
    rw [← he]
    refine hend (fun t => a.eval (.tmp t)) w hb (fun i hi hA => ?_) (fun i hA => ?_) (fun i j hi hj hij => hne i j hi hj hij (hall i (hAlt i hi)) (hall j (hAlt j hj)))
    · have h3 : if AL.contains i then _ else _ := hf i hi (hall i hi)
      rw [if_neg (by rw [hA]; simp)] at h3
      exact h3
    · have h3 : if AL.contains i then _ else _ := hf i (hAlt i hA) (hall i (hAlt i hA))
      rw [if_pos hA] at h3
      exact h3
end
theorem wp_region_vg {id : Nat} {l : List Oper} {a0 : Act} {w0 : World} {Q : Exit → Act → World → Prop} (n1 : Nat) (ds E AL : List Nat) (T : TypeId) (z : List Value) (Vs : List SP)
    (hns : Region.noSelect l.toArray = true) (hB : phaseB l.toArray n1 E = true) (hF : freeB l.toArray E = true) (hD : VarG l n1 ds E AL T a0.tmps.size = true)
    (hz : ∀ w : World, (Instr.alloc T true (.tuple #[])).run Try.prog w = .ok (.pointer (some ⟨w.heap.size, 0, none⟩)) (w.alloc (.cells z.toArray T)))
    (hQ : ∀ d v c a w, Q (.panic c) (a.put d v) w → Q (.panic c) a w)
    (hop : ∀ i, i < n1 → AL.contains i = false → ∀ a w, Below w0.heap.size w0 w → (∀ t, ds.contains t = false → a.eval (.tmp t) = a0.eval (.tmp t)) → Deps l ds AL (vp Vs) i a w →
      match l[i]? with | none => True | some o => (WantG l ds o a true ∧ if E.contains i then ∃ v, (∀ w, (execOp a.eval o).run Try.prog w = .ok (.value v) w) ∧ vp Vs i v w else o.wp Try.prog a w (Post a w (ds.getD i 0) (vp Vs i)) Q) ∨ (WantG l ds o a false ∧ vp Vs i undef w))
    (hend : ∀ (vs : Nat → Value) (w : World), Below w0.heap.size w0 w → (∀ i, i < n1 → AL.contains i = false → vp Vs i (vs (ds.getD i 0)) w) →
      (∀ i, AL.contains i = true → ∃ g, vs (ds.getD i 0) = .pointer (some ⟨g, 0, none⟩) ∧ w0.heap.size ≤ g ∧ Blk w g T z) → (∀ i j, AL.contains i = true → AL.contains j = true → i ≠ j → vs (ds.getD i 0) ≠ vs (ds.getD j 0)) → wpList Try.prog l.toArray Q (l.drop n1) (putAll a0 ds vs) w) :
    (Code.region id l.toArray true).wp Try.prog Q a0 w0 := by
  refine wp_region_varg n1 ds E AL T z (vp Vs) (fun _ _ => True) mixed_ hns hB hF hD (fun _ _ _ _ _ _ => trivial) (fun _ _ _ _ => trivial) hz hQ (fun i v w w' h hb => (Vs.getD i SP.any).st v w w' h hb) ?_ (fun vs w h1 h2 h3 h4 => wpListS_plain _ _ _ _ (fun _ _ _ => trivial) (hend vs w h1 h2 h3 h4))
  intro i hi hA a w hb hs hd
  have h := hop i hi hA a w hb hs hd
  cases ho : l[i]? with
  | none => trivial
  | some o =>
    rw [ho] at h
    simp only at h ⊢
    rcases h with ⟨hw, h⟩ | h
    · refine .inl ⟨hw, ?_⟩
      split at h
      · next h1 =>
        rw [if_pos h1]
        obtain ⟨v, h2, h3⟩ := h
        exact ⟨v, fun w _ => h2 w, h3⟩
      · next h1 =>
        rw [if_neg h1]
        exact h
    · exact .inr h
end Go.Proofs.Ytcjcpfafalkceaa

/- Comparisons with zero, choices. -/
set_option linter.unusedVariables false
set_option linter.unusedSimpArgs false
namespace Go.Proofs.Ytcjcpfafalkceaa
open Go.RowKit
section
variable {Q : Exit → Act → World → Prop} {o : Oper} {a : Act} {d : Nat} {x y z : Operand} {ty : TypeId} {k : Int} {b : Bool} {v v' : Value}
theorem op_neq0 (ho : o.op = .binOp .neq 3 x (.const (.int .i64 0)) ty) (hx : a.eval x = .int .i64 k) (w : World) : (execOp a.eval o).run Try.prog w = .ok (.value (.bool (!decide (k = 0)))) w := by
  unfold execOp
  have hc : a.eval (.const (.int .i64 0)) = .int .i64 0 := rfl
  simp only [ho, hx, hc]
  simp [go_sem]
  rfl
theorem op_lss0 (ho : o.op = .binOp .lss 3 x (.const (.int .i64 0)) ty) (hx : a.eval x = .int .i64 k) (w : World) : (execOp a.eval o).run Try.prog w = .ok (.value (.bool (decide (k < 0)))) w := by
  unfold execOp
  have hc : a.eval (.const (.int .i64 0)) = .int .i64 0 := rfl
  simp only [ho, hx, hc]
  simp [go_sem]
theorem op_geq0 (ho : o.op = .binOp .geq 3 x (.const (.int .i64 0)) ty) (hx : a.eval x = .int .i64 k) (w : World) : (execOp a.eval o).run Try.prog w = .ok (.value (.bool (decide (0 ≤ k)))) w := by
  unfold execOp
  have hc : a.eval (.const (.int .i64 0)) = .int .i64 0 := rfl
  simp only [ho, hx, hc]
  simp [go_sem]
theorem op_pickT (ho : o.op = .pick x y z) (hx : a.eval x = .bool true) (hy : a.eval y = v) (w : World) : (execOp a.eval o).run Try.prog w = .ok (.value v) w := by
  unfold execOp
  simp only [ho, hx, hy]
  simp [go_sem]
theorem op_pickF (ho : o.op = .pick x y z) (hx : a.eval x = .bool false) (hz : a.eval z = v) (w : World) : (execOp a.eval o).run Try.prog w = .ok (.value v) w := by
  unfold execOp
  simp only [ho, hx, hz]
  simp [go_sem]
theorem op_not (ho : o.op = .unOp .not 4 x) (hx : a.eval x = .bool b) (w : World) : (execOp a.eval o).run Try.prog w = .ok (.value (.bool (!b))) w := by
  unfold execOp
  simp only [ho, hx]
  simp [go_sem]
end
end Go.Proofs.Ytcjcpfafalkceaa

/- Plain facts for the law ExactBezout. -/
set_option linter.unusedVariables false
namespace Go.Proofs.Ytcjcpfafalkceaa
theorem bez_sum (p q : Int) : p * exx p q + q * exy p q = zgcd p q := by
  unfold exy
  by_cases hq : q = 0
  · rw [if_pos hq]
    have hx : exx p q = sgnv p := by unfold exx; rw [if_pos hq]
    have hg : zgcd p q = (p.natAbs : Int) := by rw [zgcd_eq, hq, Int.gcd_zero_right]
    rw [hx, hg, hq]
    unfold sgnv
    split
    · omega
    · split <;> omega
  · rw [if_neg hq]
    obtain ⟨s, hs⟩ := ext_ex (p := p) hq
    have hx := exx_is hq hs
    obtain ⟨k, hk⟩ := hs.2.2
    have h1 : zgcd p q - p * exx p q = q * (-k) := by rw [hx, Int.mul_neg]; omega
    rw [h1, Int.mul_ediv_cancel_left _ hq, hx, Int.mul_neg]
    omega
theorem bez_left (p q : Int) : p % zgcd p q = 0 := Int.emod_eq_zero_of_dvd (zgcd_left p q)
theorem bez_right (p q : Int) : q % zgcd p q = 0 := Int.emod_eq_zero_of_dvd (zgcd_right p q)
theorem bez_zero {p q : Int} (h : zgcd p q = 0) : p = 0 ∧ q = 0 := by
  have h1 := zgcd_left p q
  have h2 := zgcd_right p q
  rw [h] at h1 h2
  exact ⟨Int.zero_dvd.1 h1, Int.zero_dvd.1 h2⟩
theorem bez_quot {p q : Int} (hq : q ≠ 0) : ((q / zgcd p q).natAbs : Int) = exm p q := by
  have hg := zgcd_pos (p := p) hq
  have h1 := exm_mul p q
  obtain ⟨k, hk⟩ := zgcd_right p q
  have h2 : q / zgcd p q = k := by conv => lhs; lhs; rw [hk]
                                   exact Int.mul_ediv_cancel_left _ (by omega)
  have h3 : (q.natAbs : Int) = zgcd p q * (k.natAbs : Int) := by
    conv => lhs; rw [hk, Int.natAbs_mul]
    rw [Int.natCast_mul, Int.natAbs_of_nonneg (by omega)]
  rw [h2]
  rw [h3] at h1
  exact (Int.eq_of_mul_eq_mul_left (by omega) h1).symm
theorem bez_red {p q : Int} (hq : q ≠ 0) : 0 ≤ exx p q ∧ exx p q < ((q / zgcd p q).natAbs : Int) := by
  obtain ⟨s, hs⟩ := ext_ex (p := p) hq
  rw [bez_quot hq, exx_is hq hs]
  exact ⟨hs.1, hs.2.1⟩
theorem bez_x_le {p q : Int} (hq : q ≠ 0) : (exx p q).natAbs ≤ q.natAbs := by
  have h := bez_red (p := p) hq
  have h2 : (q / zgcd p q).natAbs ≤ q.natAbs := Int.natAbs_ediv_le_natAbs _ _
  omega
theorem zgcd_le_left {p q : Int} (hp : p ≠ 0) : (zgcd p q).natAbs ≤ p.natAbs := by
  obtain ⟨k, hk⟩ := zgcd_left p q
  conv => rhs; rw [hk, Int.natAbs_mul]
  have : k ≠ 0 := fun h => hp (by rw [hk, h, Int.mul_zero])
  exact Nat.le_mul_of_pos_right _ (by omega)
theorem zgcd_le_right {p q : Int} (hq : q ≠ 0) : (zgcd p q).natAbs ≤ q.natAbs := by
  obtain ⟨k, hk⟩ := zgcd_right p q
  conv => rhs; rw [hk, Int.natAbs_mul]
  have : k ≠ 0 := fun h => hq (by rw [hk, h, Int.mul_zero])
  exact Nat.le_mul_of_pos_right _ (by omega)
theorem bez_y_le (p q : Int) : (exy p q).natAbs ≤ max 1 p.natAbs := by
  by_cases hq : q = 0
  · have : exy p q = 0 := by unfold exy; rw [if_pos hq]
    rw [this]
    simp
  · have hb := bez_sum p q
    have hr := bez_red (p := p) hq
    have h1 : q * exy p q = zgcd p q - p * exx p q := by omega
    by_cases hp : p = 0
    · have h2 : q.natAbs * (exy p q).natAbs ≤ q.natAbs * 1 := by
        rw [← Int.natAbs_mul, h1, hp, Int.zero_mul, Int.sub_zero, Nat.mul_one]
        exact zgcd_le_right hq
      have := Nat.le_of_mul_le_mul_left h2 (by omega)
      omega
    · have he : (q / zgcd p q).natAbs ≤ q.natAbs := Int.natAbs_ediv_le_natAbs _ _
      have hg := zgcd_le_left (q := q) hp
      obtain ⟨e, hee⟩ : ∃ e, e + 1 = (q / zgcd p q).natAbs := ⟨(q / zgcd p q).natAbs - 1, by omega⟩
      have hx : (exx p q).natAbs ≤ e := by omega
      have h2 : q.natAbs * (exy p q).natAbs ≤ q.natAbs * p.natAbs := by
        rw [← Int.natAbs_mul, h1]
        refine Nat.le_trans (Int.natAbs_sub_le _ _) ?_
        rw [Int.natAbs_mul]
        have h3 := Nat.mul_le_mul_left p.natAbs hx
        have h4 := Nat.mul_le_mul_left p.natAbs (show e + 1 ≤ q.natAbs by omega)
        rw [Nat.mul_add, Nat.mul_one] at h4
        rw [Nat.mul_comm q.natAbs]
        omega
      have := Nat.le_of_mul_le_mul_left h2 (by omega)
      omega
theorem bez_y_ln {p q : Int} (hp : ln p.natAbs ≤ 256) : ln (exy p q).natAbs ≤ 256 := by
  refine Nat.le_trans (ln_mono (bez_y_le p q)) ?_
  by_cases h : p.natAbs ≤ 1
  · rw [Nat.max_eq_left h]
    have := ln_word (d := 1) (by omega)
    omega
  · rw [Nat.max_eq_right (by omega)]
    exact hp
end Go.Proofs.Ytcjcpfafalkceaa

/- The law ExactBezout: the divisor is the combination that Ext says. -/
set_option linter.unusedVariables false
set_option linter.unusedSimpArgs false
namespace Go.Proofs.Ytcjcpfafalkceaa
open Go.RowKit
set_option maxHeartbeats 1000000 in
set_option maxRecDepth 100000 in
theorem Bez_no (x y : Raw) (w : World) (hx : x.at_ w) (hy : y.at_ w) (hok : ¬ (x.ok && y.ok) = true) :
    Calls Try.prog 9 #[x.v, y.v] w fun e w' => e = .returned (.bool true) ∧ Below w.heap.size w w' := by
  have HE := Hd.mk (fun W (hW : Below w.heap.size w W) => Ext_calls x y W (Raw.at_to hx hW) (Raw.at_to hy hW))
  unfold okz oke at HE
  rw [if_neg hok, if_neg hok, if_neg hok, if_neg hok] at HE
  obtain ⟨zz, hzz⟩ : ∃ z : Int, z = 0 := ⟨_, rfl⟩
  rw [← hzz] at HE
  clear hzz
  have HV1 := Hd.mk (fun W (hW : Below w.heap.size w W) => rvalid_calls x W (Raw.at_to hx hW))
  have HV2 := Hd.mk (fun W (hW : Below w.heap.size w W) => rvalid_calls y W (Raw.at_to hy hW))
  have hor : x.ok = false ∨ (x.ok = true ∧ y.ok = false) := by
    cases h1 : x.ok
    · exact .inl rfl
    · cases h2 : y.ok
      · exact .inr ⟨rfl, rfl⟩
      · rw [h1, h2] at hok; exact absurd rfl hok
  obtain ⟨o1, ho1⟩ : ∃ o, o = x.ok := ⟨_, rfl⟩
  obtain ⟨o2, ho2⟩ : ∃ o, o = y.ok := ⟨_, rfl⟩
  rw [← ho1] at HV1 hor
  rw [← ho2] at HV2 hor
  unfold Raw.v at HE HV1 HV2 ⊢
  clear hx hy hok ho1 ho2
  obtain ⟨b1, A1, c1, xs⟩ := x
  obtain ⟨b2, A2, c2, ys⟩ := y
  simp only at HE HV1 HV2 ⊢
  obtain ⟨n1, hn1⟩ : ∃ n, n = xs.length := ⟨_, rfl⟩
  obtain ⟨n2, hn2⟩ : ∃ n, n = ys.length := ⟨_, rfl⟩
  rw [← hn1, ← hn2] at HE ⊢
  rw [← hn1] at HV1
  rw [← hn2] at HV2
  clear hn1 hn2
  have HOR := Hd.mk hor
  clear hor
  go_enter Try.func9, Try.ntmps9
  go_wp2_with fail
  obtain ⟨W0, hW0⟩ : ∃ W : World, W = (w.alloc (.cells #[.bool b1, .slice A1 n1 c1] 24)).alloc (.cells #[.bool b2, .slice A2 n2 c2] 24) := ⟨_, rfl⟩
  rw [← hW0]
  obtain ⟨hB0, hB1, hBW⟩ := boxes2 hW0
  have HB : Hd (Below w.heap.size w W0) := ⟨hBW⟩
  have Q0 := Hd.mk hB0
  have Q1 := Hd.mk hB1
  have q0 := hB0.c0; have q1 := hB0.c1
  have q2 := hB1.c0; have q3 := hB1.c1
  clear hW0 hB0 hB1 hBW
  refine (HE.out _ HB.out).mono ?_
  rintro e w1 ⟨A5, c5, A6, c6, A7, c7, rfl, hn5, hn6, hn7, hb1⟩
  replace HB := Hd.mk (bel_then HB.out hb1)
  replace Q0 := Hd.mk (Q0.out.to hb1)
  replace Q1 := Hd.mk (Q1.out.to hb1)
  replace q0 := Q0.out.c0
  replace q1 := Q0.out.c1
  replace q2 := Q1.out.c0
  replace q3 := Q1.out.c1
  clear hn5 hn6 hn7 hb1
  go_upto_region 2 with fail
  obtain ⟨W1, hW1⟩ : ∃ W : World, W = ((w1.alloc (.cells #[.bool (decide (zz < 0)), .slice A5 (ln zz.natAbs) c5] 24)).alloc (.cells #[.bool (decide (zz < 0)), .slice A6 (ln zz.natAbs) c6] 24)).alloc (.cells #[.bool (decide (zz < 0)), .slice A7 (ln zz.natAbs) c7] 24) := ⟨_, rfl⟩
  rw [← hW1]
  obtain ⟨hX, hY, hZ, hbw⟩ := boxes3 hW1
  replace HB := Hd.mk (bel_then HB.out hbw)
  replace Q0 := Hd.mk (Q0.out.to hbw)
  replace Q1 := Hd.mk (Q1.out.to hbw)
  replace q0 := Q0.out.c0
  replace q1 := Q0.out.c1
  replace q2 := Q1.out.c0
  replace q3 := Q1.out.c1
  clear hW1 hX hY hZ hbw
  go_wp2_with fail
  refine (HV1.out _ HB.out).mono ?_
  rintro e w2 ⟨rfl, hb2⟩
  replace HB := Hd.mk (bel_then HB.out hb2)
  replace Q0 := Hd.mk (Q0.out.to hb2)
  replace Q1 := Hd.mk (Q1.out.to hb2)
  replace q0 := Q0.out.c0
  replace q1 := Q0.out.c1
  replace q2 := Q1.out.c0
  replace q3 := Q1.out.c1
  clear hb2
  rcases HOR.out with h | ⟨h, h'⟩
  · subst h
    go_wp2_with fail
    refine (awake_calls _).mono ?_
    rintro e w4 ⟨rfl, hb4⟩
    replace HB := Hd.mk (bel_then HB.out hb4)
    clear hb4
    go_wp2_with fail
    go_ret
    exact ⟨rfl, HB.out⟩
  · subst h h'
    go_wp2_with fail
    refine (HV2.out _ HB.out).mono ?_
    rintro e w3 ⟨rfl, hb3⟩
    replace HB := Hd.mk (bel_then HB.out hb3)
    replace Q0 := Hd.mk (Q0.out.to hb3)
    replace Q1 := Hd.mk (Q1.out.to hb3)
    replace q0 := Q0.out.c0
    replace q1 := Q0.out.c1
    replace q2 := Q1.out.c0
    replace q3 := Q1.out.c1
    clear hb3
    go_wp2_with fail
    refine (awake_calls _).mono ?_
    rintro e w4 ⟨rfl, hb4⟩
    replace HB := Hd.mk (bel_then HB.out hb4)
    clear hb4
    go_wp2_with fail
    go_ret
    exact ⟨rfl, HB.out⟩
theorem plus_got (x y z : Int) (h : x + y = z) (v1 v2 : Value) (w : World) (h1 : (isZ x).p v1 w) (h2 : (isZ y).p v2 w) (l1 : ln x.natAbs ≤ 1073741824) (l2 : ln y.natAbs ≤ 1073741824) :
    Calls Try.prog 33 #[v1, v2] w (Got w (isZ z).p) := by
  subst h
  exact z2 (fun A1 c1 A2 c2 h1 h2 => rPlus_calls x y A1 c1 A2 c2 _ h1 h2 l1 l2) (fun e w' h => h.got) h1 h2
theorem ln_one {n : Nat} (h : n ≤ 1) : ln n ≤ 256 := Nat.le_trans (ln_mono (n := 1) h) (by have := ln_word (d := 1) (by omega); omega)
theorem bez_x_ln {p q : Int} (hq : ln q.natAbs ≤ 256) : ln (exx p q).natAbs ≤ 256 := by
  by_cases h : q = 0
  · refine ln_one ?_
    unfold exx
    rw [if_pos h]
    unfold sgnv
    split
    · decide
    · split <;> decide
  · exact Nat.le_trans (ln_mono (bez_x_le h)) hq
theorem order_got (x y k : Int) (h : sgnv (x - y) = k) (v1 v2 : Value) (w : World) (h1 : (isZ x).p v1 w) (h2 : (isZ y).p v2 w) (l1 : ln x.natAbs ≤ 1073741824) (l2 : ln y.natAbs ≤ 1073741824) :
    Calls Try.prog 34 #[v1, v2] w (Got w (isV (.int .i64 k)).p) := by
  subst h
  exact z2 (fun A1 c1 A2 c2 h1 h2 => rOrder_calls x y A1 c1 A2 c2 _ h1 h2 l1 l2) (fun e w' h => same_got h) h1 h2
theorem sgnv_nn {z : Int} (h : 0 ≤ z) : 0 ≤ sgnv z := by unfold sgnv; rw [if_neg (by omega)]; split <;> decide
theorem sgnv_self (z : Int) : sgnv (z - z) = 0 := by rw [Int.sub_self]; rfl
theorem over_zero (x y z : Int) (h : x % y = z) (v1 v2 : Value) (w : World) (h1 : (isZ x).p v1 w) (h2 : (isZ y).p v2 w) (hy : y ≠ 0) (l1 : ln x.natAbs ≤ 268435456) (l2 : ln y.natAbs ≤ 268435456) :
    Calls Try.prog 45 #[v1, v2] w (Got w (isZZ (x / y) z).p) := by
  subst h
  exact z2 (fun A1 c1 A2 c2 h1 h2 => rOver_calls x y A1 c1 A2 c2 _ h1 h2 hy l1 l2) (fun e w' h => h.got) h1 h2
set_option maxHeartbeats 4000000 in
set_option maxRecDepth 100000 in
theorem Bez_num (p q : Int) (A1 : Option Addr) (c1 : Nat) (A2 : Option Addr) (c2 : Nat) (w : World) (h1 : NN w A1 c1 p.natAbs) (h2 : NN w A2 c2 q.natAbs) (hl1 : ln p.natAbs ≤ 256) (hl2 : ln q.natAbs ≤ 256) :
    Calls Try.prog 9 #[.agg #[.bool (decide (p < 0)), .slice A1 (ln p.natAbs) c1], .agg #[.bool (decide (q < 0)), .slice A2 (ln q.natAbs) c2]] w fun e w' => e = .returned (.bool true) ∧ Below w.heap.size w w' := by
  have HE := Hd.mk (fun W (hW : Below w.heap.size w W) => Ext_num p q A1 c1 A2 c2 W (h1.to hW) (h2.to hW) hl1 hl2)
  have hlg : ln (zgcd p q).natAbs ≤ 256 := Nat.le_trans (zgcd_ln _ _) (Nat.max_le.2 ⟨hl1, hl2⟩)
  have hlu : ln (exx p q).natAbs ≤ 256 := bez_x_ln hl2
  have hlv : ln (exy p q).natAbs ≤ 256 := bez_y_ln hl1
  have HSUM := Hd.mk (bez_sum p q)
  have HPG := Hd.mk (bez_left p q)
  have HQG := Hd.mk (bez_right p q)
  have HG0 : Hd (zgcd p q = 0 → p = 0 ∧ q = 0) := ⟨bez_zero⟩
  have HGN : Hd (0 ≤ zgcd p q) := ⟨by rw [zgcd_eq]; omega⟩
  have HRD : Hd (q ≠ 0 → 0 ≤ exx p q ∧ exx p q < ((q / zgcd p q).natAbs : Int)) := ⟨bez_red⟩
  have hlpu : ln (p * exx p q).natAbs ≤ 600 := by rw [Int.natAbs_mul]; exact Nat.le_trans (ln_mul _ _) (by omega)
  have hlqv : ln (q * exy p q).natAbs ≤ 600 := by rw [Int.natAbs_mul]; exact Nat.le_trans (ln_mul _ _) (by omega)
  obtain ⟨g, hg⟩ : ∃ g, g = zgcd p q := ⟨_, rfl⟩
  obtain ⟨u, hu⟩ : ∃ g, g = exx p q := ⟨_, rfl⟩
  obtain ⟨v, hv⟩ : ∃ g, g = exy p q := ⟨_, rfl⟩
  rw [← hg, ← hu, ← hv] at HE HSUM
  rw [← hg] at hlg HPG HQG HG0 HGN HRD
  rw [← hu] at hlu HRD hlpu
  rw [← hv] at hlv hlqv
  have H1 := Hd.mk h1
  have H2 := Hd.mk h2
  clear hg hu hv h1 h2
  obtain ⟨b1, hb1⟩ : ∃ b, b = decide (p < 0) := ⟨_, rfl⟩
  obtain ⟨b2, hb2⟩ : ∃ b, b = decide (q < 0) := ⟨_, rfl⟩
  obtain ⟨n1, hn1⟩ : ∃ n, n = ln p.natAbs := ⟨_, rfl⟩
  obtain ⟨n2, hn2⟩ : ∃ n, n = ln q.natAbs := ⟨_, rfl⟩
  rw [← hb1, ← hb2, ← hn1, ← hn2] at HE ⊢
  have HB1 := Hd.mk hb1
  have HB2' := Hd.mk hb2
  have HN1 := Hd.mk hn1
  have HN2 := Hd.mk hn2
  clear hb1 hb2 hn1 hn2
  go_enter Try.func9, Try.ntmps9
  go_wp2_with fail
  obtain ⟨W0, hW0⟩ : ∃ W : World, W = (w.alloc (.cells #[.bool b1, .slice A1 n1 c1] 24)).alloc (.cells #[.bool b2, .slice A2 n2 c2] 24) := ⟨_, rfl⟩
  rw [← hW0]
  obtain ⟨hB0, hB1, hBW⟩ := boxes2 hW0
  have HB : Hd (Below w.heap.size w W0) := ⟨hBW⟩
  have Q0 := Hd.mk hB0
  have Q1 := Hd.mk hB1
  have q0 := hB0.c0; have q1 := hB0.c1
  have q2 := hB1.c0; have q3 := hB1.c1
  clear hW0 hB0 hB1 hBW
  refine (HE.out _ HB.out).mono ?_
  rintro e w1 ⟨A5, c5, A6, c6, A7, c7, rfl, hn5, hn6, hn7, hb1⟩
  replace HB := Hd.mk (bel_then HB.out hb1)
  replace Q0 := Hd.mk (Q0.out.to hb1)
  replace Q1 := Hd.mk (Q1.out.to hb1)
  replace q0 := Q0.out.c0
  replace q1 := Q0.out.c1
  replace q2 := Q1.out.c0
  replace q3 := Q1.out.c1
  go_upto_region 2 with fail
  obtain ⟨W1, hW1⟩ : ∃ W : World, W = ((w1.alloc (.cells #[.bool (decide (g < 0)), .slice A5 (ln g.natAbs) c5] 24)).alloc (.cells #[.bool (decide (u < 0)), .slice A6 (ln u.natAbs) c6] 24)).alloc (.cells #[.bool (decide (v < 0)), .slice A7 (ln v.natAbs) c7] 24) := ⟨_, rfl⟩
  rw [← hW1]
  obtain ⟨hX, hY, hZ, hbw⟩ := boxes3 hW1
  have L0 : Hd (HZ W1 w.heap.size 24 p) := ⟨A1, c1, by rw [← HB1.out, ← HN1.out]; exact Q0.out.to hbw, H1.out.to (bel_then HB.out hbw)⟩
  have L1 : Hd (HZ W1 (w.heap.size + 1) 24 q) := ⟨A2, c2, by rw [← HB2'.out, ← HN2.out]; exact Q1.out.to hbw, H2.out.to (bel_then HB.out hbw)⟩
  have P5 : Hd (HZ W1 w1.heap.size 24 g) := ⟨A5, c5, hX, hn5.to hbw⟩
  have P6 : Hd (HZ W1 (w1.heap.size + 1) 24 u) := ⟨A6, c6, hY, hn6.to hbw⟩
  have P7 : Hd (HZ W1 (w1.heap.size + 1 + 1) 24 v) := ⟨A7, c7, hZ, hn7.to hbw⟩
  replace HB := Hd.mk (bel_then HB.out hbw)
  obtain ⟨g5, hg5⟩ : ∃ n, n = w1.heap.size := ⟨_, rfl⟩
  rw [← hg5] at P5 P6 P7 ⊢
  clear hW1 hX hY hZ hbw hb1 hn5 hn6 hn7 hg5 Q0 Q1 q0 q1 q2 q3
  obtain ⟨X, cx, hBx, hnx⟩ := L0.out
  have x0 := hBx.c0; have x1 := hBx.c1
  have HVA := Hd.mk (rvalid_num p X cx _ hnx (by omega))
  clear hBx hnx
  go_wp2_with fail
  refine HVA.out.mono ?_
  rintro e w' ⟨rfl, hb⟩
  replace HB := Hd.mk (bel_then HB.out hb)
  replace L0 := Hd.mk (L0.out.to hb)
  replace L1 := Hd.mk (L1.out.to hb)
  replace P5 := Hd.mk (P5.out.to hb)
  replace P6 := Hd.mk (P6.out.to hb)
  replace P7 := Hd.mk (P7.out.to hb)
  clear hb HVA x0 x1
  obtain ⟨X, cx, hBx, hnx⟩ := L1.out
  have x0 := hBx.c0; have x1 := hBx.c1
  have HVA := Hd.mk (rvalid_num q X cx _ hnx (by omega))
  clear hBx hnx
  go_wp2_with fail
  refine HVA.out.mono ?_
  rintro e w' ⟨rfl, hb⟩
  replace HB := Hd.mk (bel_then HB.out hb)
  replace L0 := Hd.mk (L0.out.to hb)
  replace L1 := Hd.mk (L1.out.to hb)
  replace P5 := Hd.mk (P5.out.to hb)
  replace P6 := Hd.mk (P6.out.to hb)
  replace P7 := Hd.mk (P7.out.to hb)
  clear hb HVA x0 x1
  go_upto_region 4 with fail
  obtain ⟨X, cx, hBx, hnx⟩ := P5.out
  have x0 := hBx.c0; have x1 := hBx.c1
  have HVA := Hd.mk (rvalid_num g X cx _ hnx (by omega))
  clear hBx hnx
  go_wp2_with fail
  refine HVA.out.mono ?_
  rintro e w' ⟨rfl, hb⟩
  replace HB := Hd.mk (bel_then HB.out hb)
  replace L0 := Hd.mk (L0.out.to hb)
  replace L1 := Hd.mk (L1.out.to hb)
  replace P5 := Hd.mk (P5.out.to hb)
  replace P6 := Hd.mk (P6.out.to hb)
  replace P7 := Hd.mk (P7.out.to hb)
  clear hb HVA x0 x1
  obtain ⟨X, cx, hBx, hnx⟩ := P6.out
  have x0 := hBx.c0; have x1 := hBx.c1
  have HVA := Hd.mk (rvalid_num u X cx _ hnx (by omega))
  clear hBx hnx
  go_wp2_with fail
  refine HVA.out.mono ?_
  rintro e w' ⟨rfl, hb⟩
  replace HB := Hd.mk (bel_then HB.out hb)
  replace L0 := Hd.mk (L0.out.to hb)
  replace L1 := Hd.mk (L1.out.to hb)
  replace P5 := Hd.mk (P5.out.to hb)
  replace P6 := Hd.mk (P6.out.to hb)
  replace P7 := Hd.mk (P7.out.to hb)
  clear hb HVA x0 x1
  obtain ⟨X, cx, hBx, hnx⟩ := P7.out
  have x0 := hBx.c0; have x1 := hBx.c1
  have HVA := Hd.mk (rvalid_num v X cx _ hnx (by omega))
  clear hBx hnx
  go_wp2_with fail
  refine HVA.out.mono ?_
  rintro e w' ⟨rfl, hb⟩
  replace HB := Hd.mk (bel_then HB.out hb)
  replace L0 := Hd.mk (L0.out.to hb)
  replace L1 := Hd.mk (L1.out.to hb)
  replace P5 := Hd.mk (P5.out.to hb)
  replace P6 := Hd.mk (P6.out.to hb)
  replace P7 := Hd.mk (P7.out.to hb)
  clear hb HVA x0 x1
  go_upto_region 6 with fail
  refine wp_region_vs 12 [55, 56, 57, 58, 59, 60, 61, 62, 63, 64, 65, 9] [] [11] 38 [.bool false, .slice none 0 0] [isZ p, isZ p, isZ u, isZ u, isZ (p * u), isZ q, isZ q, isZ v, isZ v, isZ (q * v), isZ g] (by kernel_rfl) (by kernel_rfl) (by kernel_rfl) (by rfl) alloc_Z (fun d v c a w h => by cases d <;> exact h) ?_ ?_
  · intro i hi hA a wx hb hs hd
    match i, hi, hA with
    | 0, _, _ => exact op_loadA rfl rfl (hs 2 rfl) (L0.out.to hb)
    | 1, _, _ => exact op_call1 rfl rfl Try.call32 (z1_same (fun A1 c1 => rOf_calls _ _ _ _ _) (hd 0 rfl))
    | 2, _, _ => exact op_loadA rfl rfl (hs 6 rfl) (P6.out.to hb)
    | 3, _, _ => exact op_call1 rfl rfl Try.call32 (z1_same (fun A1 c1 => rOf_calls _ _ _ _ _) (hd 2 rfl))
    | 4, _, _ => exact op_call2 rfl rfl Try.call31 (z2 (fun A1 c1 A2 c2 h1 h2 => rTimes_calls (p) (u) A1 c1 A2 c2 _ h1 h2 (by omega) (by omega)) (fun e w' h => h.got) (hd 1 rfl) (hd 3 rfl))
    | 5, _, _ => exact op_loadA rfl rfl (hs 3 rfl) (L1.out.to hb)
    | 6, _, _ => exact op_call1 rfl rfl Try.call32 (z1_same (fun A1 c1 => rOf_calls _ _ _ _ _) (hd 5 rfl))
    | 7, _, _ => exact op_loadA rfl rfl (hs 7 rfl) (P7.out.to hb)
    | 8, _, _ => exact op_call1 rfl rfl Try.call32 (z1_same (fun A1 c1 => rOf_calls _ _ _ _ _) (hd 7 rfl))
    | 9, _, _ => exact op_call2 rfl rfl Try.call31 (z2 (fun A1 c1 A2 c2 h1 h2 => rTimes_calls (q) (v) A1 c1 A2 c2 _ h1 h2 (by omega) (by omega)) (fun e w' h => h.got) (hd 6 rfl) (hd 8 rfl))
    | 10, _, _ => exact op_call2 rfl rfl Try.call33 (plus_got _ _ _ HSUM.out _ _ _ (hd 4 rfl) (hd 9 rfl) (by omega) (by omega))
    | 11, _, h => cases h
    | i + 12, h, _ => omega
  · intro vs wx hb hv hal hne
    obtain ⟨A9, c9, e9, hn9⟩ : (isZ (g)).p (vs 65) wx := hv 10 (by decide) rfl
    obtain ⟨g9, eg9, hgl9, hgb9⟩ : ∃ g, vs 9 = .pointer (some ⟨g, 0, none⟩) ∧ _ := hal 11 rfl
    simp only [putAll, List.foldl_cons, List.foldl_nil, Act.put, List.setIfInBounds_toArray, List.set_cons_succ, List.set_cons_zero, List.drop_succ_cons, List.drop_zero, e9, eg9]
    generalize vs 55 = s55
    generalize vs 56 = s56
    generalize vs 57 = s57
    generalize vs 58 = s58
    generalize vs 59 = s59
    generalize vs 60 = s60
    generalize vs 61 = s61
    generalize vs 62 = s62
    generalize vs 63 = s63
    generalize vs 64 = s64
    obtain ⟨Ws0, hWs0⟩ : ∃ W, W = put2 wx g9 (.bool (decide (g < 0))) (.slice A9 (ln (g).natAbs) c9) := ⟨_, rfl⟩
    replace L0 : Hd (HZ Ws0 w.heap.size 24 p) := ⟨by rw [hWs0]; exact HZ.new1 L0.out hb hgl9 ⟨_, _, _, _, hgb9⟩ _ _⟩
    replace L1 : Hd (HZ Ws0 (w.heap.size + 1) 24 q) := ⟨by rw [hWs0]; exact HZ.new1 L1.out hb hgl9 ⟨_, _, _, _, hgb9⟩ _ _⟩
    replace P5 : Hd (HZ Ws0 g5 24 g) := ⟨by rw [hWs0]; exact HZ.new1 P5.out hb hgl9 ⟨_, _, _, _, hgb9⟩ _ _⟩
    replace P6 : Hd (HZ Ws0 (g5 + 1) 24 u) := ⟨by rw [hWs0]; exact HZ.new1 P6.out hb hgl9 ⟨_, _, _, _, hgb9⟩ _ _⟩
    replace P7 : Hd (HZ Ws0 (g5 + 1 + 1) 24 v) := ⟨by rw [hWs0]; exact HZ.new1 P7.out hb hgl9 ⟨_, _, _, _, hgb9⟩ _ _⟩
    have P9 : Hd (HZ Ws0 g9 38 (g)) := ⟨by rw [hWs0]; exact HZ.set ⟨_, _, _, _, hgb9⟩ hn9⟩
    replace HB : Hd (Below w.heap.size w Ws0) := ⟨by rw [hWs0]; exact Below.new1 HB.out hb hgl9 _ _⟩
    have x9a := hgb9.c0
    have x9b := hgb9.c1
    have x9c := hgb9.f0
    have x9d := hgb9.f1
    unfold put2 at hWs0
    clear hv hal hne hb e9 eg9 hgl9 hgb9 hn9 
    go_upto_region 7 with fail
    rw [← hWs0]
    clear hWs0 x9a x9b x9c x9d
    refine wp_region_vg 11 [66, 67, 68, 69, 70, 71, 72, 73, 74, 75, 76] [4, 5, 9, 10] [] 38 [.bool false, .slice none 0 0] [isZ g, isZ g, isZ g, isV (.int .i64 0), isV (.bool false), isV (.bool false), isZ g, isZ g, isV (.int .i64 (sgnv g)), isV (.bool false), isV (.bool false)] (by kernel_rfl) (by kernel_rfl) (by kernel_rfl) (by rfl) alloc_Z (fun d v c a w h => by cases d <;> exact h) ?_ ?_
    · intro i hi hA a wx hb hs hd
      match i, hi, hA with
      | 0, _, _ => exact .inl ⟨rfl, op_loadR rfl rfl (hs 9 rfl) (P9.out.to hb)⟩
      | 1, _, _ => exact .inl ⟨rfl, op_loadA rfl rfl (hs 5 rfl) (P5.out.to hb)⟩
      | 2, _, _ => exact .inl ⟨rfl, op_call1 rfl rfl Try.call32 (z1_same (fun A1 c1 => rOf_calls _ _ _ _ _) (hd 1 rfl))⟩
      | 3, _, _ => exact .inl ⟨rfl, op_call2 rfl rfl Try.call34 (order_got g g 0 (sgnv_self g) _ _ _ (hd 0 rfl) (hd 2 rfl) (by omega) (by omega))⟩
      | 4, _, _ => exact .inl ⟨rfl, _, op_neq0 rfl (hd 3 rfl), rfl⟩
      | 5, _, _ => exact .inl ⟨rfl, _, op_move rfl (hd 4 rfl), rfl⟩
      | 6, _, _ => exact .inl ⟨⟨rfl, hd 5 rfl⟩, op_loadA rfl rfl (hs 5 rfl) (P5.out.to hb)⟩
      | 7, _, _ => exact .inl ⟨⟨rfl, hd 5 rfl⟩, op_call1 rfl rfl Try.call32 (z1_same (fun A1 c1 => rOf_calls _ _ _ _ _) (hd 6 rfl))⟩
      | 8, _, _ => exact .inl ⟨⟨rfl, hd 5 rfl⟩, op_call1 rfl rfl Try.call43 (sign_got g _ _ (by omega) (hd 7 rfl))⟩
      | 9, _, _ => exact .inl ⟨⟨rfl, hd 5 rfl⟩, _, op_lss0 rfl (hd 8 rfl), by rw [decide_eq_false (by have := sgnv_nn HGN.out; omega)]; rfl⟩
      | 10, _, _ => exact .inl ⟨rfl, _, op_pickF rfl (hd 5 rfl) (hd 9 rfl), rfl⟩
      | i + 11, h, _ => omega
    · intro vs wx hb hv hal hne
      have e10 : vs 76 = .bool false := hv 10 (by decide) rfl
      simp only [putAll, List.foldl_cons, List.foldl_nil, Act.put, List.setIfInBounds_toArray, List.set_cons_succ, List.set_cons_zero, List.drop_succ_cons, List.drop_zero, e10]
      generalize vs 66 = s66
      generalize vs 67 = s67
      generalize vs 68 = s68
      generalize vs 69 = s69
      generalize vs 70 = s70
      generalize vs 71 = s71
      generalize vs 72 = s72
      generalize vs 73 = s73
      generalize vs 74 = s74
      generalize vs 75 = s75
      replace HB := Hd.mk (bel_then HB.out hb)
      replace L0 := Hd.mk (L0.out.to hb)
      replace L1 := Hd.mk (L1.out.to hb)
      replace P5 := Hd.mk (P5.out.to hb)
      replace P6 := Hd.mk (P6.out.to hb)
      replace P7 := Hd.mk (P7.out.to hb)
      clear hv hal hne hb e10 P9
      go_upto_region 9 with fail
      by_cases hg0 : g = 0
      · obtain ⟨hp0, hq0⟩ := HG0.out hg0
        have z1 : decide (ln g.natAbs = 0) = true := decide_eq_true (by rw [hg0]; exact ln_zero)
        have z2 : decide (ln p.natAbs = 0) = true := decide_eq_true (by rw [hp0]; exact ln_zero)
        have z3 : decide (ln q.natAbs = 0) = true := decide_eq_true (by rw [hq0]; exact ln_zero)
        clear hg0 hp0 hq0
        obtain ⟨X, cx, hBx, hnx⟩ := P5.out
        have x0 := hBx.c0; have x1 := hBx.c1
        clear hBx hnx
        go_wp2_with fail
        refine (rOf_calls _ _ _ _ _).mono ?_
        rintro e w' ⟨rfl, hb⟩
        replace HB := Hd.mk (bel_then HB.out hb)
        replace L0 := Hd.mk (L0.out.to hb)
        replace L1 := Hd.mk (L1.out.to hb)
        replace P5 := Hd.mk (P5.out.to hb)
        replace P6 := Hd.mk (P6.out.to hb)
        replace P7 := Hd.mk (P7.out.to hb)
        clear hb x0 x1
        go_wp2_with fail
        refine (rZero_calls _ _ _ _ _ (by omega)).mono ?_
        rintro e w' ⟨rfl, hb⟩
        replace HB := Hd.mk (bel_then HB.out hb)
        replace L0 := Hd.mk (L0.out.to hb)
        replace L1 := Hd.mk (L1.out.to hb)
        replace P5 := Hd.mk (P5.out.to hb)
        replace P6 := Hd.mk (P6.out.to hb)
        replace P7 := Hd.mk (P7.out.to hb)
        clear hb
        rw [z1]
        obtain ⟨X, cx, hBx, hnx⟩ := L0.out
        have x0 := hBx.c0; have x1 := hBx.c1
        clear hBx hnx
        go_wp2_with fail
        refine (rOf_calls _ _ _ _ _).mono ?_
        rintro e w' ⟨rfl, hb⟩
        replace HB := Hd.mk (bel_then HB.out hb)
        replace L0 := Hd.mk (L0.out.to hb)
        replace L1 := Hd.mk (L1.out.to hb)
        replace P5 := Hd.mk (P5.out.to hb)
        replace P6 := Hd.mk (P6.out.to hb)
        replace P7 := Hd.mk (P7.out.to hb)
        clear hb x0 x1
        go_wp2_with fail
        refine (rZero_calls _ _ _ _ _ (by omega)).mono ?_
        rintro e w' ⟨rfl, hb⟩
        replace HB := Hd.mk (bel_then HB.out hb)
        replace L0 := Hd.mk (L0.out.to hb)
        replace L1 := Hd.mk (L1.out.to hb)
        replace P5 := Hd.mk (P5.out.to hb)
        replace P6 := Hd.mk (P6.out.to hb)
        replace P7 := Hd.mk (P7.out.to hb)
        clear hb
        rw [z2]
        obtain ⟨X, cx, hBx, hnx⟩ := L1.out
        have x0 := hBx.c0; have x1 := hBx.c1
        clear hBx hnx
        go_wp2_with fail
        refine (rOf_calls _ _ _ _ _).mono ?_
        rintro e w' ⟨rfl, hb⟩
        replace HB := Hd.mk (bel_then HB.out hb)
        replace L0 := Hd.mk (L0.out.to hb)
        replace L1 := Hd.mk (L1.out.to hb)
        replace P5 := Hd.mk (P5.out.to hb)
        replace P6 := Hd.mk (P6.out.to hb)
        replace P7 := Hd.mk (P7.out.to hb)
        clear hb x0 x1
        go_wp2_with fail
        refine (rZero_calls _ _ _ _ _ (by omega)).mono ?_
        rintro e w' ⟨rfl, hb⟩
        replace HB := Hd.mk (bel_then HB.out hb)
        replace L0 := Hd.mk (L0.out.to hb)
        replace L1 := Hd.mk (L1.out.to hb)
        replace P5 := Hd.mk (P5.out.to hb)
        replace P6 := Hd.mk (P6.out.to hb)
        replace P7 := Hd.mk (P7.out.to hb)
        clear hb
        rw [z3]
        go_wp2_with fail
        refine (awake_calls _).mono ?_
        rintro e w' ⟨rfl, hb⟩
        replace HB := Hd.mk (bel_then HB.out hb)
        clear hb
        go_wp2_with fail
        go_ret
        exact ⟨rfl, HB.out⟩
      · have z1 : decide (ln g.natAbs = 0) = false := decide_eq_false (fun h => hg0 (by have := ln_eq_zero.1 h; omega))
        have HGG := Hd.mk hg0
        clear hg0
        obtain ⟨X, cx, hBx, hnx⟩ := P5.out
        have x0 := hBx.c0; have x1 := hBx.c1
        clear hBx hnx
        go_wp2_with fail
        refine (rOf_calls _ _ _ _ _).mono ?_
        rintro e w' ⟨rfl, hb⟩
        replace HB := Hd.mk (bel_then HB.out hb)
        replace L0 := Hd.mk (L0.out.to hb)
        replace L1 := Hd.mk (L1.out.to hb)
        replace P5 := Hd.mk (P5.out.to hb)
        replace P6 := Hd.mk (P6.out.to hb)
        replace P7 := Hd.mk (P7.out.to hb)
        clear hb x0 x1
        go_wp2_with fail
        refine (rZero_calls _ _ _ _ _ (by omega)).mono ?_
        rintro e w' ⟨rfl, hb⟩
        replace HB := Hd.mk (bel_then HB.out hb)
        replace L0 := Hd.mk (L0.out.to hb)
        replace L1 := Hd.mk (L1.out.to hb)
        replace P5 := Hd.mk (P5.out.to hb)
        replace P6 := Hd.mk (P6.out.to hb)
        replace P7 := Hd.mk (P7.out.to hb)
        clear hb
        rw [z1]
        clear z1
        obtain ⟨zz, hzz⟩ : ∃ z : Int, z = 0 := ⟨_, rfl⟩
        have HZZ : Hd (decide (ln zz.natAbs = 0) = true) := ⟨decide_eq_true (by rw [hzz]; exact ln_zero)⟩
        have hlz : ln zz.natAbs ≤ 256 := by rw [hzz]; exact ln_one (by simp)
        rw [← hzz] at HPG HQG
        clear hzz P7
        obtain ⟨X0, d0, hB0, hn0⟩ := L0.out
        obtain ⟨X1, d1, hB1, hn1⟩ := L1.out
        have x0 := hB0.c0; have x1 := hB0.c1
        have y0 := hB1.c0; have y1 := hB1.c1
        have N0 := Hd.mk hn0
        have N1 := Hd.mk hn1
        clear hB0 hB1 hn0 hn1
        go_wp2_with fail
        obtain ⟨W11, hW11⟩ : ∃ W : World, W = w'.alloc (.cells #[.bool (decide (p < 0)), .slice X0 (ln p.natAbs) d0, .bool (decide (q < 0)), .slice X1 (ln q.natAbs) d1] 24) := ⟨_, rfl⟩
        rw [← hW11]
        have hbw : Below w'.heap.size w' W11 := by rw [hW11]; exact below_alloc (Below.refl _ _) _
        have K : Hd (Blk W11 w'.heap.size 24 [.bool (decide (p < 0)), .slice X0 (ln p.natAbs) d0, .bool (decide (q < 0)), .slice X1 (ln q.natAbs) d1]) := ⟨by rw [hW11]; exact heap_alloc_new _ _⟩
        replace HB := Hd.mk (bel_then HB.out hbw)
        replace L0 := Hd.mk (L0.out.to hbw)
        replace L1 := Hd.mk (L1.out.to hbw)
        replace P5 := Hd.mk (P5.out.to hbw)
        replace P6 := Hd.mk (P6.out.to hbw)
        replace N0 := Hd.mk (N0.out.to hbw)
        replace N1 := Hd.mk (N1.out.to hbw)
        obtain ⟨gk, hgk⟩ : ∃ n, n = w'.heap.size := ⟨_, rfl⟩
        rw [← hgk] at K ⊢
        clear hW11 hbw hgk x0 x1 y0 y1
        go_loopw [95] (fun s wr => ∃ k : Nat, k ≤ 2 ∧ s = .int .i64 k ∧ HZ wr w.heap.size 24 p ∧ HZ wr (w.heap.size + 1) 24 q ∧ HZ wr g5 24 g ∧ HZ wr (g5 + 1) 24 u ∧ Blk wr gk 24 [.bool (decide (p < 0)), .slice X0 (ln p.natAbs) d0, .bool (decide (q < 0)), .slice X1 (ln q.natAbs) d1] ∧ NN wr X0 d0 p.natAbs ∧ NN wr X1 d1 q.natAbs ∧ Below w.heap.size w wr) (fun s _ => 2 - (intOf s).toNat)
        case atStart => exact ⟨0, by omega, rfl, L0.out, L1.out, P5.out, P6.out, K.out, N0.out, N1.out, HB.out⟩
        case round =>
          obtain ⟨k, hk, rfl, h1, h2, h3, h4, h5, h6, h7, h8⟩ := hrel
          replace L0 := Hd.mk h1
          replace L1 := Hd.mk h2
          replace P5 := Hd.mk h3
          replace P6 := Hd.mk h4
          replace K := Hd.mk h5
          replace N0 := Hd.mk h6
          replace N1 := Hd.mk h7
          replace HB := Hd.mk h8
          clear h1 h2 h3 h4 h5 h6 h7 h8
          have k0 : wr.cell? ⟨gk, 0, none⟩ = some (.bool (decide (p < 0))) := K.out.cell 0
          have k1 : wr.cell? ⟨gk, 1, none⟩ = some (.slice X0 (ln p.natAbs) d0) := K.out.cell 1
          have k2 : wr.cell? ⟨gk, 2, none⟩ = some (.bool (decide (q < 0))) := K.out.cell 2
          have k3 : wr.cell? ⟨gk, 3, none⟩ = some (.slice X1 (ln q.natAbs) d1) := K.out.cell 3
          have hk3 : k = 0 ∨ k = 1 ∨ k = 2 := by omega
          rcases hk3 with rfl | rfl | rfl
          · go_upto_region 14 with fail
            obtain ⟨W13, hW13⟩ : ∃ W : World, W = wr.alloc (.cells #[.bool (decide (p < 0)), .slice X0 (ln p.natAbs) d0] 24) := ⟨_, rfl⟩
            rw [← hW13]
            obtain ⟨hX, hbw⟩ := boxes1 hW13
            replace HB := Hd.mk (bel_then HB.out hbw)
            replace L0 := Hd.mk (L0.out.to hbw)
            replace L1 := Hd.mk (L1.out.to hbw)
            replace P5 := Hd.mk (P5.out.to hbw)
            replace P6 := Hd.mk (P6.out.to hbw)
            replace K := Hd.mk (K.out.to hbw)
            replace N0 := Hd.mk (N0.out.to hbw)
            replace N1 := Hd.mk (N1.out.to hbw)
            have P11 : Hd (HZ W13 wr.heap.size 24 p) := ⟨X0, d0, hX, N0.out⟩
            obtain ⟨g11, hg11⟩ : ∃ n, n = wr.heap.size := ⟨_, rfl⟩
            rw [← hg11] at P11 ⊢
            clear hW13 hX hbw hg11 k0 k1 k2 k3
            refine wp_region_vs 10 [100, 101, 102, 103, 104, 99, 105, 106, 12, 13] [5, 6, 7] [8, 9] 38 [.bool false, .slice none 0 0] [isZ p, isZ p, isZ g, isZ g, isZZ (p / g) zz, isZZ (p / g) zz, isZ (p / g), isZ zz] (by kernel_rfl) (by kernel_rfl) (by kernel_rfl) (by rfl) alloc_Z (fun d v c a w h => by cases d <;> exact h) ?_ ?_
            · intro i hi hA a wx hb hs hd
              match i, hi, hA with
              | 0, _, _ => exact op_loadA rfl rfl (hs 11 rfl) (P11.out.to hb)
              | 1, _, _ => exact op_call1 rfl rfl Try.call32 (z1_same (fun A1 c1 => rOf_calls _ _ _ _ _) (hd 0 rfl))
              | 2, _, _ => exact op_loadA rfl rfl (hs 5 rfl) (P5.out.to hb)
              | 3, _, _ => exact op_call1 rfl rfl Try.call32 (z1_same (fun A1 c1 => rOf_calls _ _ _ _ _) (hd 2 rfl))
              | 4, _, _ => exact op_call2 rfl rfl Try.call45 (over_zero p g zz HPG.out _ _ _ (hd 1 rfl) (hd 3 rfl) HGG.out (by omega) (by omega))
              | 5, _, _ => exact (by obtain ⟨A, c, A', c', h, h1, h2⟩ := hd 4 rfl; exact ⟨_, op_move rfl h, A, c, A', c', rfl, h1, h2⟩)
              | 6, _, _ => exact (by obtain ⟨A, c, A', c', h, h1, h2⟩ := hd 5 rfl; exact ⟨_, op_extract rfl h rfl, A, c, rfl, h1⟩)
              | 7, _, _ => exact (by obtain ⟨A, c, A', c', h, h1, h2⟩ := hd 5 rfl; exact ⟨_, op_extract rfl h rfl, A', c', rfl, h2⟩)
              | 8, _, h => cases h
              | 9, _, h => cases h
              | i + 10, h, _ => omega
            · intro vs wx hb hv hal hne
              obtain ⟨A12, c12, e12, hn12⟩ : (isZ (p / g)).p (vs 105) wx := hv 6 (by decide) rfl
              obtain ⟨g12, eg12, hgl12, hgb12⟩ : ∃ g, vs 12 = .pointer (some ⟨g, 0, none⟩) ∧ _ := hal 8 rfl
              obtain ⟨A13, c13, e13, hn13⟩ : (isZ (zz)).p (vs 106) wx := hv 7 (by decide) rfl
              obtain ⟨g13, eg13, hgl13, hgb13⟩ : ∃ g, vs 13 = .pointer (some ⟨g, 0, none⟩) ∧ _ := hal 9 rfl
              have hgne : g12 ≠ g13 := ptr_ne (by rw [← eg12, ← eg13]; exact hne 8 9 rfl rfl (by decide))
              have hgne' := Ne.symm hgne
              simp only [putAll, List.foldl_cons, List.foldl_nil, Act.put, List.setIfInBounds_toArray, List.set_cons_succ, List.set_cons_zero, List.drop_succ_cons, List.drop_zero, e12, eg12, e13, eg13]
              generalize vs 100 = s100
              generalize vs 101 = s101
              generalize vs 102 = s102
              generalize vs 103 = s103
              generalize vs 104 = s104
              generalize vs 99 = s99
              obtain ⟨Wrp0, hWrp0⟩ : ∃ W, W = put2 wx g12 (.bool (decide (p / g < 0))) (.slice A12 (ln (p / g).natAbs) c12) := ⟨_, rfl⟩
              obtain ⟨Wrp1, hWrp1⟩ : ∃ W, W = put2 Wrp0 g13 (.bool (decide (zz < 0))) (.slice A13 (ln (zz).natAbs) c13) := ⟨_, rfl⟩
              replace L0 : Hd (HZ Wrp1 w.heap.size 24 p) := ⟨by rw [hWrp1]; rw [hWrp0]; exact HZ.new2 L0.out hb hgl12 ⟨_, _, _, _, hgb12⟩ hgl13 ⟨_, _, _, _, hgb13⟩ hgne _ _ _ _⟩
              replace L1 : Hd (HZ Wrp1 (w.heap.size + 1) 24 q) := ⟨by rw [hWrp1]; rw [hWrp0]; exact HZ.new2 L1.out hb hgl12 ⟨_, _, _, _, hgb12⟩ hgl13 ⟨_, _, _, _, hgb13⟩ hgne _ _ _ _⟩
              replace P5 : Hd (HZ Wrp1 g5 24 g) := ⟨by rw [hWrp1]; rw [hWrp0]; exact HZ.new2 P5.out hb hgl12 ⟨_, _, _, _, hgb12⟩ hgl13 ⟨_, _, _, _, hgb13⟩ hgne _ _ _ _⟩
              replace P6 : Hd (HZ Wrp1 (g5 + 1) 24 u) := ⟨by rw [hWrp1]; rw [hWrp0]; exact HZ.new2 P6.out hb hgl12 ⟨_, _, _, _, hgb12⟩ hgl13 ⟨_, _, _, _, hgb13⟩ hgne _ _ _ _⟩
              replace P11 : Hd (HZ Wrp1 g11 24 p) := ⟨by rw [hWrp1]; rw [hWrp0]; exact HZ.new2 P11.out hb hgl12 ⟨_, _, _, _, hgb12⟩ hgl13 ⟨_, _, _, _, hgb13⟩ hgne _ _ _ _⟩
              have P12 : Hd (HZ Wrp1 g12 38 (p / g)) := ⟨by rw [hWrp1]; rw [hWrp0]; exact HZ.put (HZ.set ⟨_, _, _, _, hgb12⟩ hn12) (HB2.put ⟨_, _, _, _, hgb13⟩ hgne' _ _) hgne _ _⟩
              have P13 : Hd (HZ Wrp1 g13 38 (zz)) := ⟨by rw [hWrp1]; rw [hWrp0]; exact HZ.set (HB2.put ⟨_, _, _, _, hgb13⟩ hgne' _ _) (hn13.put ⟨_, _, _, _, hgb12⟩ _ _)⟩
              replace HB : Hd (Below w.heap.size w Wrp1) := ⟨by rw [hWrp1]; rw [hWrp0]; exact Below.new2 HB.out hb hgl12 hgl13 _ _ _ _⟩
              have x12a := hgb12.c0
              have x12b := hgb12.c1
              have x12c := hgb12.f0
              have x12d := hgb12.f1
              have x13a := hgb13.c0
              have x13b := hgb13.c1
              have x13c := hgb13.f0
              have x13d := hgb13.f1
              replace K : Hd (Blk Wrp1 gk 24 [.bool (decide (p < 0)), .slice X0 (ln p.natAbs) d0, .bool (decide (q < 0)), .slice X1 (ln q.natAbs) d1]) := ⟨by rw [hWrp1, hWrp0]; exact ((K.out.to hb).put_ (Nat.ne_of_lt (Nat.lt_of_lt_of_le K.out.lt hgl12)) _ _).put_ (Nat.ne_of_lt (Nat.lt_of_lt_of_le K.out.lt hgl13)) _ _⟩
              replace N0 : Hd (NN Wrp1 X0 d0 p.natAbs) := ⟨by rw [hWrp1, hWrp0]; exact ((N0.out.to hb).put ⟨_, _, _, _, hgb12⟩ _ _).put (HB2.put ⟨_, _, _, _, hgb13⟩ hgne' _ _) _ _⟩
              replace N1 : Hd (NN Wrp1 X1 d1 q.natAbs) := ⟨by rw [hWrp1, hWrp0]; exact ((N1.out.to hb).put ⟨_, _, _, _, hgb12⟩ _ _).put (HB2.put ⟨_, _, _, _, hgb13⟩ hgne' _ _) _ _⟩
              unfold put2 at hWrp0 hWrp1
              rw [hWrp0] at hWrp1
              clear hv hal hne hb e12 eg12 hgl12 hgb12 hn12 e13 eg13 hgl13 hgb13 hn13 hWrp0
              go_upto_region 15 with fail
              rw [← hWrp1]
              clear hWrp1 x12a x12b x12c x12d x13a x13b x13c x13d hgne hgne'
              obtain ⟨Y, dy, hBy, hny⟩ := P13.out
              have y0 := hBy.c0; have y1 := hBy.c1
              clear hBy hny
              go_wp2_with fail
              refine (rZero_calls _ _ _ _ _ (by omega)).mono ?_
              rintro e w'' ⟨rfl, hb⟩
              replace HB := Hd.mk (bel_then HB.out hb)
              replace L0 := Hd.mk (L0.out.to hb)
              replace L1 := Hd.mk (L1.out.to hb)
              replace P5 := Hd.mk (P5.out.to hb)
              replace P6 := Hd.mk (P6.out.to hb)
              replace K := Hd.mk (K.out.to hb)
              replace N0 := Hd.mk (N0.out.to hb)
              replace N1 := Hd.mk (N1.out.to hb)
              rw [HZZ.out]
              clear hb y0 y1 P11 P12 P13
              go_wp2_with fail
              go_roundw
              case rel => exact ⟨1, by omega, rfl, L0.out, L1.out, P5.out, P6.out, K.out, N0.out, N1.out, HB.out⟩
              case measure => simp [intOf]
          · go_upto_region 14 with fail
            obtain ⟨W13, hW13⟩ : ∃ W : World, W = wr.alloc (.cells #[.bool (decide (q < 0)), .slice X1 (ln q.natAbs) d1] 24) := ⟨_, rfl⟩
            rw [← hW13]
            obtain ⟨hX, hbw⟩ := boxes1 hW13
            replace HB := Hd.mk (bel_then HB.out hbw)
            replace L0 := Hd.mk (L0.out.to hbw)
            replace L1 := Hd.mk (L1.out.to hbw)
            replace P5 := Hd.mk (P5.out.to hbw)
            replace P6 := Hd.mk (P6.out.to hbw)
            replace K := Hd.mk (K.out.to hbw)
            replace N0 := Hd.mk (N0.out.to hbw)
            replace N1 := Hd.mk (N1.out.to hbw)
            have P11 : Hd (HZ W13 wr.heap.size 24 q) := ⟨X1, d1, hX, N1.out⟩
            obtain ⟨g11, hg11⟩ : ∃ n, n = wr.heap.size := ⟨_, rfl⟩
            rw [← hg11] at P11 ⊢
            clear hW13 hX hbw hg11 k0 k1 k2 k3
            refine wp_region_vs 10 [100, 101, 102, 103, 104, 99, 105, 106, 12, 13] [5, 6, 7] [8, 9] 38 [.bool false, .slice none 0 0] [isZ q, isZ q, isZ g, isZ g, isZZ (q / g) zz, isZZ (q / g) zz, isZ (q / g), isZ zz] (by kernel_rfl) (by kernel_rfl) (by kernel_rfl) (by rfl) alloc_Z (fun d v c a w h => by cases d <;> exact h) ?_ ?_
            · intro i hi hA a wx hb hs hd
              match i, hi, hA with
              | 0, _, _ => exact op_loadA rfl rfl (hs 11 rfl) (P11.out.to hb)
              | 1, _, _ => exact op_call1 rfl rfl Try.call32 (z1_same (fun A1 c1 => rOf_calls _ _ _ _ _) (hd 0 rfl))
              | 2, _, _ => exact op_loadA rfl rfl (hs 5 rfl) (P5.out.to hb)
              | 3, _, _ => exact op_call1 rfl rfl Try.call32 (z1_same (fun A1 c1 => rOf_calls _ _ _ _ _) (hd 2 rfl))
              | 4, _, _ => exact op_call2 rfl rfl Try.call45 (over_zero q g zz HQG.out _ _ _ (hd 1 rfl) (hd 3 rfl) HGG.out (by omega) (by omega))
              | 5, _, _ => exact (by obtain ⟨A, c, A', c', h, h1, h2⟩ := hd 4 rfl; exact ⟨_, op_move rfl h, A, c, A', c', rfl, h1, h2⟩)
              | 6, _, _ => exact (by obtain ⟨A, c, A', c', h, h1, h2⟩ := hd 5 rfl; exact ⟨_, op_extract rfl h rfl, A, c, rfl, h1⟩)
              | 7, _, _ => exact (by obtain ⟨A, c, A', c', h, h1, h2⟩ := hd 5 rfl; exact ⟨_, op_extract rfl h rfl, A', c', rfl, h2⟩)
              | 8, _, h => cases h
              | 9, _, h => cases h
              | i + 10, h, _ => omega
            · intro vs wx hb hv hal hne
              obtain ⟨A12, c12, e12, hn12⟩ : (isZ (q / g)).p (vs 105) wx := hv 6 (by decide) rfl
              obtain ⟨g12, eg12, hgl12, hgb12⟩ : ∃ g, vs 12 = .pointer (some ⟨g, 0, none⟩) ∧ _ := hal 8 rfl
              obtain ⟨A13, c13, e13, hn13⟩ : (isZ (zz)).p (vs 106) wx := hv 7 (by decide) rfl
              obtain ⟨g13, eg13, hgl13, hgb13⟩ : ∃ g, vs 13 = .pointer (some ⟨g, 0, none⟩) ∧ _ := hal 9 rfl
              have hgne : g12 ≠ g13 := ptr_ne (by rw [← eg12, ← eg13]; exact hne 8 9 rfl rfl (by decide))
              have hgne' := Ne.symm hgne
              simp only [putAll, List.foldl_cons, List.foldl_nil, Act.put, List.setIfInBounds_toArray, List.set_cons_succ, List.set_cons_zero, List.drop_succ_cons, List.drop_zero, e12, eg12, e13, eg13]
              generalize vs 100 = s100
              generalize vs 101 = s101
              generalize vs 102 = s102
              generalize vs 103 = s103
              generalize vs 104 = s104
              generalize vs 99 = s99
              obtain ⟨Wrq0, hWrq0⟩ : ∃ W, W = put2 wx g12 (.bool (decide (q / g < 0))) (.slice A12 (ln (q / g).natAbs) c12) := ⟨_, rfl⟩
              obtain ⟨Wrq1, hWrq1⟩ : ∃ W, W = put2 Wrq0 g13 (.bool (decide (zz < 0))) (.slice A13 (ln (zz).natAbs) c13) := ⟨_, rfl⟩
              replace L0 : Hd (HZ Wrq1 w.heap.size 24 p) := ⟨by rw [hWrq1]; rw [hWrq0]; exact HZ.new2 L0.out hb hgl12 ⟨_, _, _, _, hgb12⟩ hgl13 ⟨_, _, _, _, hgb13⟩ hgne _ _ _ _⟩
              replace L1 : Hd (HZ Wrq1 (w.heap.size + 1) 24 q) := ⟨by rw [hWrq1]; rw [hWrq0]; exact HZ.new2 L1.out hb hgl12 ⟨_, _, _, _, hgb12⟩ hgl13 ⟨_, _, _, _, hgb13⟩ hgne _ _ _ _⟩
              replace P5 : Hd (HZ Wrq1 g5 24 g) := ⟨by rw [hWrq1]; rw [hWrq0]; exact HZ.new2 P5.out hb hgl12 ⟨_, _, _, _, hgb12⟩ hgl13 ⟨_, _, _, _, hgb13⟩ hgne _ _ _ _⟩
              replace P6 : Hd (HZ Wrq1 (g5 + 1) 24 u) := ⟨by rw [hWrq1]; rw [hWrq0]; exact HZ.new2 P6.out hb hgl12 ⟨_, _, _, _, hgb12⟩ hgl13 ⟨_, _, _, _, hgb13⟩ hgne _ _ _ _⟩
              replace P11 : Hd (HZ Wrq1 g11 24 q) := ⟨by rw [hWrq1]; rw [hWrq0]; exact HZ.new2 P11.out hb hgl12 ⟨_, _, _, _, hgb12⟩ hgl13 ⟨_, _, _, _, hgb13⟩ hgne _ _ _ _⟩
              have P12 : Hd (HZ Wrq1 g12 38 (q / g)) := ⟨by rw [hWrq1]; rw [hWrq0]; exact HZ.put (HZ.set ⟨_, _, _, _, hgb12⟩ hn12) (HB2.put ⟨_, _, _, _, hgb13⟩ hgne' _ _) hgne _ _⟩
              have P13 : Hd (HZ Wrq1 g13 38 (zz)) := ⟨by rw [hWrq1]; rw [hWrq0]; exact HZ.set (HB2.put ⟨_, _, _, _, hgb13⟩ hgne' _ _) (hn13.put ⟨_, _, _, _, hgb12⟩ _ _)⟩
              replace HB : Hd (Below w.heap.size w Wrq1) := ⟨by rw [hWrq1]; rw [hWrq0]; exact Below.new2 HB.out hb hgl12 hgl13 _ _ _ _⟩
              have x12a := hgb12.c0
              have x12b := hgb12.c1
              have x12c := hgb12.f0
              have x12d := hgb12.f1
              have x13a := hgb13.c0
              have x13b := hgb13.c1
              have x13c := hgb13.f0
              have x13d := hgb13.f1
              replace K : Hd (Blk Wrq1 gk 24 [.bool (decide (p < 0)), .slice X0 (ln p.natAbs) d0, .bool (decide (q < 0)), .slice X1 (ln q.natAbs) d1]) := ⟨by rw [hWrq1, hWrq0]; exact ((K.out.to hb).put_ (Nat.ne_of_lt (Nat.lt_of_lt_of_le K.out.lt hgl12)) _ _).put_ (Nat.ne_of_lt (Nat.lt_of_lt_of_le K.out.lt hgl13)) _ _⟩
              replace N0 : Hd (NN Wrq1 X0 d0 p.natAbs) := ⟨by rw [hWrq1, hWrq0]; exact ((N0.out.to hb).put ⟨_, _, _, _, hgb12⟩ _ _).put (HB2.put ⟨_, _, _, _, hgb13⟩ hgne' _ _) _ _⟩
              replace N1 : Hd (NN Wrq1 X1 d1 q.natAbs) := ⟨by rw [hWrq1, hWrq0]; exact ((N1.out.to hb).put ⟨_, _, _, _, hgb12⟩ _ _).put (HB2.put ⟨_, _, _, _, hgb13⟩ hgne' _ _) _ _⟩
              unfold put2 at hWrq0 hWrq1
              rw [hWrq0] at hWrq1
              clear hv hal hne hb e12 eg12 hgl12 hgb12 hn12 e13 eg13 hgl13 hgb13 hn13 hWrq0
              go_upto_region 15 with fail
              rw [← hWrq1]
              clear hWrq1 x12a x12b x12c x12d x13a x13b x13c x13d hgne hgne'
              obtain ⟨Y, dy, hBy, hny⟩ := P13.out
              have y0 := hBy.c0; have y1 := hBy.c1
              clear hBy hny
              go_wp2_with fail
              refine (rZero_calls _ _ _ _ _ (by omega)).mono ?_
              rintro e w'' ⟨rfl, hb⟩
              replace HB := Hd.mk (bel_then HB.out hb)
              replace L0 := Hd.mk (L0.out.to hb)
              replace L1 := Hd.mk (L1.out.to hb)
              replace P5 := Hd.mk (P5.out.to hb)
              replace P6 := Hd.mk (P6.out.to hb)
              replace K := Hd.mk (K.out.to hb)
              replace N0 := Hd.mk (N0.out.to hb)
              replace N1 := Hd.mk (N1.out.to hb)
              rw [HZZ.out]
              clear hb y0 y1 P11 P12 P13
              go_wp2_with fail
              go_roundw
              case rel => exact ⟨2, by omega, rfl, L0.out, L1.out, P5.out, P6.out, K.out, N0.out, N1.out, HB.out⟩
              case measure => simp [intOf]
          · clear k0 k1 k2 k3 K N0 N1
            go_upto_region 18 with fail
            refine wp_region_vs 10 [112, 113, 114, 115, 116, 111, 117, 118, 14, 15] [5, 6, 7] [8, 9] 38 [.bool false, .slice none 0 0] [isZ q, isZ q, isZ g, isZ g, isZZ (q / g) zz, isZZ (q / g) zz, isZ (q / g), isZ zz] (by kernel_rfl) (by kernel_rfl) (by kernel_rfl) (by rfl) alloc_Z (fun d v c a w h => by cases d <;> exact h) ?_ ?_
            · intro i hi hA a wx hb hs hd
              match i, hi, hA with
              | 0, _, _ => exact op_loadA rfl rfl (hs 3 rfl) (L1.out.to hb)
              | 1, _, _ => exact op_call1 rfl rfl Try.call32 (z1_same (fun A1 c1 => rOf_calls _ _ _ _ _) (hd 0 rfl))
              | 2, _, _ => exact op_loadA rfl rfl (hs 5 rfl) (P5.out.to hb)
              | 3, _, _ => exact op_call1 rfl rfl Try.call32 (z1_same (fun A1 c1 => rOf_calls _ _ _ _ _) (hd 2 rfl))
              | 4, _, _ => exact op_call2 rfl rfl Try.call45 (over_zero q g zz HQG.out _ _ _ (hd 1 rfl) (hd 3 rfl) HGG.out (by omega) (by omega))
              | 5, _, _ => exact (by obtain ⟨A, c, A', c', h, h1, h2⟩ := hd 4 rfl; exact ⟨_, op_move rfl h, A, c, A', c', rfl, h1, h2⟩)
              | 6, _, _ => exact (by obtain ⟨A, c, A', c', h, h1, h2⟩ := hd 5 rfl; exact ⟨_, op_extract rfl h rfl, A, c, rfl, h1⟩)
              | 7, _, _ => exact (by obtain ⟨A, c, A', c', h, h1, h2⟩ := hd 5 rfl; exact ⟨_, op_extract rfl h rfl, A', c', rfl, h2⟩)
              | 8, _, h => cases h
              | 9, _, h => cases h
              | i + 10, h, _ => omega
            · intro vs wx hb hv hal hne
              obtain ⟨A14, c14, e14, hn14⟩ : (isZ (q / g)).p (vs 117) wx := hv 6 (by decide) rfl
              obtain ⟨g14, eg14, hgl14, hgb14⟩ : ∃ g, vs 14 = .pointer (some ⟨g, 0, none⟩) ∧ _ := hal 8 rfl
              obtain ⟨A15, c15, e15, hn15⟩ : (isZ (zz)).p (vs 118) wx := hv 7 (by decide) rfl
              obtain ⟨g15, eg15, hgl15, hgb15⟩ : ∃ g, vs 15 = .pointer (some ⟨g, 0, none⟩) ∧ _ := hal 9 rfl
              have hgne : g14 ≠ g15 := ptr_ne (by rw [← eg14, ← eg15]; exact hne 8 9 rfl rfl (by decide))
              have hgne' := Ne.symm hgne
              simp only [putAll, List.foldl_cons, List.foldl_nil, Act.put, List.setIfInBounds_toArray, List.set_cons_succ, List.set_cons_zero, List.drop_succ_cons, List.drop_zero, e14, eg14, e15, eg15]
              generalize vs 112 = s112
              generalize vs 113 = s113
              generalize vs 114 = s114
              generalize vs 115 = s115
              generalize vs 116 = s116
              generalize vs 111 = s111
              obtain ⟨Wo0, hWo0⟩ : ∃ W, W = put2 wx g14 (.bool (decide (q / g < 0))) (.slice A14 (ln (q / g).natAbs) c14) := ⟨_, rfl⟩
              obtain ⟨Wo1, hWo1⟩ : ∃ W, W = put2 Wo0 g15 (.bool (decide (zz < 0))) (.slice A15 (ln (zz).natAbs) c15) := ⟨_, rfl⟩
              have HP6 := Nat.lt_of_lt_of_le P6.out.lt hgl14
              have HP7 := Nat.le_trans HB.out.size hgl14
              replace L0 : Hd (HZ Wo1 w.heap.size 24 p) := ⟨by rw [hWo1]; rw [hWo0]; exact HZ.new2 L0.out hb hgl14 ⟨_, _, _, _, hgb14⟩ hgl15 ⟨_, _, _, _, hgb15⟩ hgne _ _ _ _⟩
              replace L1 : Hd (HZ Wo1 (w.heap.size + 1) 24 q) := ⟨by rw [hWo1]; rw [hWo0]; exact HZ.new2 L1.out hb hgl14 ⟨_, _, _, _, hgb14⟩ hgl15 ⟨_, _, _, _, hgb15⟩ hgne _ _ _ _⟩
              replace P5 : Hd (HZ Wo1 g5 24 g) := ⟨by rw [hWo1]; rw [hWo0]; exact HZ.new2 P5.out hb hgl14 ⟨_, _, _, _, hgb14⟩ hgl15 ⟨_, _, _, _, hgb15⟩ hgne _ _ _ _⟩
              replace P6 : Hd (HZ Wo1 (g5 + 1) 24 u) := ⟨by rw [hWo1]; rw [hWo0]; exact HZ.new2 P6.out hb hgl14 ⟨_, _, _, _, hgb14⟩ hgl15 ⟨_, _, _, _, hgb15⟩ hgne _ _ _ _⟩
              have P14 : Hd (HZ Wo1 g14 38 (q / g)) := ⟨by rw [hWo1]; rw [hWo0]; exact HZ.put (HZ.set ⟨_, _, _, _, hgb14⟩ hn14) (HB2.put ⟨_, _, _, _, hgb15⟩ hgne' _ _) hgne _ _⟩
              have P15 : Hd (HZ Wo1 g15 38 (zz)) := ⟨by rw [hWo1]; rw [hWo0]; exact HZ.set (HB2.put ⟨_, _, _, _, hgb15⟩ hgne' _ _) (hn15.put ⟨_, _, _, _, hgb14⟩ _ _)⟩
              replace HB : Hd (Below w.heap.size w Wo1) := ⟨by rw [hWo1]; rw [hWo0]; exact Below.new2 HB.out hb hgl14 hgl15 _ _ _ _⟩
              have x14a := hgb14.c0
              have x14b := hgb14.c1
              have x14c := hgb14.f0
              have x14d := hgb14.f1
              have x15a := hgb15.c0
              have x15b := hgb15.c1
              have x15c := hgb15.f0
              have x15d := hgb15.f1
              have HG14 : Hd (g5 + 1 < g14 ∧ w.heap.size ≤ g14) := ⟨by have h1 := P6.out.lt; have h2 := HB.out.size; exact ⟨HP6, HP7⟩⟩
              unfold put2 at hWo0 hWo1
              rw [hWo0] at hWo1
              clear hv hal hne hb e14 eg14 hgl14 hgb14 hn14 e15 eg15 hgl15 hgb15 hn15 hWo0
              go_upto_region 19 with fail
              rw [← hWo1]
              clear hWo1 x14a x14b x14c x14d x15a x15b x15c x15d hgne hgne'
              obtain ⟨kq, hkq⟩ : ∃ k, k = q / g := ⟨_, rfl⟩
              have hlk : ln kq.natAbs ≤ 256 := by rw [hkq]; exact Nat.le_trans (ln_mono (Int.natAbs_ediv_le_natAbs _ _)) hl2
              rw [← hkq] at P14 HRD
              have HKZ : Hd (q = 0 → kq = 0) := ⟨fun h => by rw [hkq, h, Int.zero_ediv]⟩
              clear hkq P15
              obtain ⟨Y, dy, hBy, hny⟩ := P14.out
              have y0 := hBy.c0; have y1 := hBy.c1
              clear hBy hny
              go_wp2_with fail
              refine (rSign_calls kq Y dy _ (by omega)).mono ?_
              rintro e w2 ⟨rfl, hb⟩
              replace HB := Hd.mk (bel_then HB.out hb)
              replace P6 := Hd.mk (P6.out.to hb)
              replace P14 := Hd.mk (P14.out.to hb)
              clear hb y0 y1
              by_cases hneg : kq < 0
              · have hs : sgnv kq < 0 := by unfold sgnv; rw [if_pos hneg]; decide
                obtain ⟨sk, hsk⟩ : ∃ k, k = sgnv kq := ⟨_, rfl⟩
                rw [← hsk] at hs ⊢
                clear hsk
                obtain ⟨Y, dy, hBy, hny⟩ := P14.out
                have y0 := hBy.c0; have y1 := hBy.c1
                have HM := Hd.mk (rMinus_calls kq Y dy _ hny)
                obtain ⟨m, hm⟩ : ∃ s, s = -kq := ⟨_, rfl⟩
                rw [← hm] at HM
                have HMN : Hd (m = (kq.natAbs : Int)) := ⟨by omega⟩
                have HMA : Hd (m.natAbs = kq.natAbs) := ⟨by omega⟩
                have hlm : ln m.natAbs ≤ 256 := by rw [HMA.out]; exact hlk
                have HNY := Hd.mk hny
                clear hBy hny hm hneg
                go_wp2_with fail
                refine HM.out.mono ?_
                rintro e w3 ⟨rfl, hb⟩
                replace HB := Hd.mk (bel_then HB.out hb)
                replace P6 := Hd.mk (P6.out.to hb)
                replace P14 := Hd.mk (P14.out.to hb)
                replace HNY := Hd.mk (HNY.out.to hb)
                clear hb HM y0 y1
                obtain ⟨f1, f2, f3, f4, hf⟩ := P14.out.any
                have y0 := hf.c0; have y1 := hf.c1
                have y2 := hf.f0
                have y3 := hf.f1
                go_upto_region 21 with fail
                obtain ⟨WN, hWN⟩ : ∃ W, W = put2 w3 g14 (.bool (decide (m < 0))) (.slice Y (ln kq.natAbs) dy) := ⟨_, rfl⟩
                have hg14 := HG14.out
                replace P6 : Hd (HZ WN (g5 + 1) 24 u) := ⟨by rw [hWN]; exact P6.out.put ⟨_, _, _, _, hf⟩ (by omega) _ _⟩
                have P14' : Hd (HZ WN g14 38 m) := ⟨by rw [hWN]; have := HZ.set (z := m) (A := Y) (c := dy) ⟨_, _, _, _, hf⟩ (by rw [HMA.out]; exact HNY.out); rw [HMA.out] at this; exact this⟩
                replace HB : Hd (Below w.heap.size w WN) := ⟨by rw [hWN]; exact below_put HB.out (by omega) _ _⟩
                unfold put2 at hWN
                rw [← hWN]
                clear hWN hf y0 y1 y2 y3 hs HNY hg14 L0 L1 P5 P14
                have P14 := P14'
                clear P14' HG14
                by_cases hu : 0 ≤ u
                · have hgu : decide (0 ≤ sgnv u) = true := decide_eq_true (sgnv_nn hu)
                  obtain ⟨bb, hbb⟩ : ∃ b, b = decide (sgnv (u - m) < 0) := ⟨_, rfl⟩
                  have HFIN : Hd (m = 0 ∨ bb = true) := ⟨by
                    by_cases hq : q = 0
                    · left
                      have h1 := HKZ.out hq
                      have h2 := HMN.out
                      omega
                    · right
                      have h1 := HRD.out hq
                      have h2 := HMN.out
                      rw [hbb]
                      refine decide_eq_true ?_
                      unfold sgnv
                      rw [if_pos (by omega)]
                      decide⟩
                  clear hu
                  refine wp_region_vg 11 [124, 125, 126, 127, 128, 129, 130, 131, 132, 133, 134] [3, 4, 9, 10] [] 38 [.bool false, .slice none 0 0] [isZ u, isZ u, isV (.int .i64 (sgnv u)), isV (.bool true), isV (.bool true), isZ u, isZ u, isZ m, isV (.int .i64 (sgnv (u - m))), isV (.bool bb), isV (.bool bb)] (by kernel_rfl) (by kernel_rfl) (by kernel_rfl) (by rfl) alloc_Z (fun d v c a w h => by cases d <;> exact h) ?_ ?_
                  · intro i hi hA a wx hb hs hd
                    match i, hi, hA with
                    | 0, _, _ => exact .inl ⟨rfl, op_loadA rfl rfl (hs 6 rfl) (P6.out.to hb)⟩
                    | 1, _, _ => exact .inl ⟨rfl, op_call1 rfl rfl Try.call32 (z1_same (fun A1 c1 => rOf_calls _ _ _ _ _) (hd 0 rfl))⟩
                    | 2, _, _ => exact .inl ⟨rfl, op_call1 rfl rfl Try.call43 (sign_got u _ _ (by omega) (hd 1 rfl))⟩
                    | 3, _, _ => exact .inl ⟨rfl, _, op_geq0 rfl (hd 2 rfl), by rw [hgu]; rfl⟩
                    | 4, _, _ => exact .inl ⟨rfl, _, op_move rfl (hd 3 rfl), rfl⟩
                    | 5, _, _ => exact .inl ⟨⟨rfl, hd 4 rfl⟩, op_loadA rfl rfl (hs 6 rfl) (P6.out.to hb)⟩
                    | 6, _, _ => exact .inl ⟨⟨rfl, hd 4 rfl⟩, op_call1 rfl rfl Try.call32 (z1_same (fun A1 c1 => rOf_calls _ _ _ _ _) (hd 5 rfl))⟩
                    | 7, _, _ => exact .inl ⟨⟨rfl, hd 4 rfl⟩, op_loadR rfl rfl (hs 14 rfl) (P14.out.to hb)⟩
                    | 8, _, _ => exact .inl ⟨⟨rfl, hd 4 rfl⟩, op_call2 rfl rfl Try.call34 (order_got u m _ rfl _ _ _ (hd 6 rfl) (hd 7 rfl) (by omega) (by omega))⟩
                    | 9, _, _ => exact .inl ⟨⟨rfl, hd 4 rfl⟩, _, op_lss0 rfl (hd 8 rfl), by rw [← hbb]; rfl⟩
                    | 10, _, _ => exact .inl ⟨rfl, _, op_pickT rfl (hd 4 rfl) (hd 9 rfl), rfl⟩
                    | i + 11, h, _ => omega
                  · intro vs wx hb hv hal hne
                    have e10 : vs 134 = .bool bb := hv 10 (by decide) rfl
                    simp only [putAll, List.foldl_cons, List.foldl_nil, Act.put, List.setIfInBounds_toArray, List.set_cons_succ, List.set_cons_zero, List.drop_succ_cons, List.drop_zero, e10]
                    generalize vs 124 = s124
                    generalize vs 125 = s125
                    generalize vs 126 = s126
                    generalize vs 127 = s127
                    generalize vs 128 = s128
                    generalize vs 129 = s129
                    generalize vs 130 = s130
                    generalize vs 131 = s131
                    generalize vs 132 = s132
                    generalize vs 133 = s133
                    replace HB := Hd.mk (bel_then HB.out hb)
                    replace P6 := Hd.mk (P6.out.to hb)
                    replace P14 := Hd.mk (P14.out.to hb)
                    clear hv hal hne hb e10 hbb hgu
                    obtain ⟨Y', dy', hBy, hny⟩ := P14.out
                    have y0 := hBy.c0; have y1 := hBy.c1
                    clear hBy hny
                    go_wp2_with fail
                    refine (rZero_calls _ _ _ _ _ (by omega)).mono ?_
                    rintro e w4 ⟨rfl, hb⟩
                    replace HB := Hd.mk (bel_then HB.out hb)
                    clear hb y0 y1
                    by_cases hm0 : m = 0
                    · have z1 : decide (ln (m).natAbs = 0) = true := decide_eq_true (by rw [hm0]; exact ln_zero)
                      rw [z1]
                      clear z1 hm0
                      go_wp2_with fail
                      refine (awake_calls _).mono ?_
                      rintro e w5 ⟨rfl, hb⟩
                      replace HB := Hd.mk (bel_then HB.out hb)
                      clear hb
                      go_wp2_with fail
                      go_ret
                      exact ⟨rfl, HB.out⟩
                    · have z1 : decide (ln (m).natAbs = 0) = false := decide_eq_false (fun h => hm0 (by have := ln_eq_zero.1 h; omega))
                      have hb1 := HFIN.out.resolve_left hm0
                      clear HFIN
                      subst hb1
                      rw [z1]
                      clear z1 hm0
                      go_wp2_with fail
                      refine (awake_calls _).mono ?_
                      rintro e w5 ⟨rfl, hb⟩
                      replace HB := Hd.mk (bel_then HB.out hb)
                      clear hb
                      go_wp2_with fail
                      go_ret
                      exact ⟨rfl, HB.out⟩
                · have hgu : decide (0 ≤ sgnv u) = false := decide_eq_false (by unfold sgnv; rw [if_pos (by omega)]; decide)
                  obtain ⟨bb, hbb⟩ : ∃ b, b = false := ⟨_, rfl⟩
                  have HFIN : Hd (m = 0 ∨ bb = true) := ⟨by
                    by_cases hq : q = 0
                    · left
                      have h1 := HKZ.out hq
                      have h2 := HMN.out
                      omega
                    · exact absurd (HRD.out hq).1 hu⟩
                  clear hu
                  refine wp_region_vg 11 [124, 125, 126, 127, 128, 129, 130, 131, 132, 133, 134] [3, 4, 9, 10] [] 38 [.bool false, .slice none 0 0] [isZ u, isZ u, isV (.int .i64 (sgnv u)), isV (.bool false), isV (.bool false), SP.any, SP.any, SP.any, SP.any, SP.any, isV (.bool bb)] (by kernel_rfl) (by kernel_rfl) (by kernel_rfl) (by rfl) alloc_Z (fun d v c a w h => by cases d <;> exact h) ?_ ?_
                  · intro i hi hA a wx hb hs hd
                    match i, hi, hA with
                    | 0, _, _ => exact .inl ⟨rfl, op_loadA rfl rfl (hs 6 rfl) (P6.out.to hb)⟩
                    | 1, _, _ => exact .inl ⟨rfl, op_call1 rfl rfl Try.call32 (z1_same (fun A1 c1 => rOf_calls _ _ _ _ _) (hd 0 rfl))⟩
                    | 2, _, _ => exact .inl ⟨rfl, op_call1 rfl rfl Try.call43 (sign_got u _ _ (by omega) (hd 1 rfl))⟩
                    | 3, _, _ => exact .inl ⟨rfl, _, op_geq0 rfl (hd 2 rfl), by rw [hgu]; rfl⟩
                    | 4, _, _ => exact .inl ⟨rfl, _, op_move rfl (hd 3 rfl), rfl⟩
                    | 5, _, _ => exact .inr ⟨⟨rfl, hd 4 rfl⟩, trivial⟩
                    | 6, _, _ => exact .inr ⟨⟨rfl, hd 4 rfl⟩, trivial⟩
                    | 7, _, _ => exact .inr ⟨⟨rfl, hd 4 rfl⟩, trivial⟩
                    | 8, _, _ => exact .inr ⟨⟨rfl, hd 4 rfl⟩, trivial⟩
                    | 9, _, _ => exact .inr ⟨⟨rfl, hd 4 rfl⟩, trivial⟩
                    | 10, _, _ => exact .inl ⟨rfl, _, op_pickF rfl (hd 4 rfl) rfl, by rw [hbb]; rfl⟩
                    | i + 11, h, _ => omega
                  · intro vs wx hb hv hal hne
                    have e10 : vs 134 = .bool bb := hv 10 (by decide) rfl
                    simp only [putAll, List.foldl_cons, List.foldl_nil, Act.put, List.setIfInBounds_toArray, List.set_cons_succ, List.set_cons_zero, List.drop_succ_cons, List.drop_zero, e10]
                    generalize vs 124 = s124
                    generalize vs 125 = s125
                    generalize vs 126 = s126
                    generalize vs 127 = s127
                    generalize vs 128 = s128
                    generalize vs 129 = s129
                    generalize vs 130 = s130
                    generalize vs 131 = s131
                    generalize vs 132 = s132
                    generalize vs 133 = s133
                    replace HB := Hd.mk (bel_then HB.out hb)
                    replace P6 := Hd.mk (P6.out.to hb)
                    replace P14 := Hd.mk (P14.out.to hb)
                    clear hv hal hne hb e10 hbb hgu
                    obtain ⟨Y', dy', hBy, hny⟩ := P14.out
                    have y0 := hBy.c0; have y1 := hBy.c1
                    clear hBy hny
                    go_wp2_with fail
                    refine (rZero_calls _ _ _ _ _ (by omega)).mono ?_
                    rintro e w4 ⟨rfl, hb⟩
                    replace HB := Hd.mk (bel_then HB.out hb)
                    clear hb y0 y1
                    by_cases hm0 : m = 0
                    · have z1 : decide (ln (m).natAbs = 0) = true := decide_eq_true (by rw [hm0]; exact ln_zero)
                      rw [z1]
                      clear z1 hm0
                      go_wp2_with fail
                      refine (awake_calls _).mono ?_
                      rintro e w5 ⟨rfl, hb⟩
                      replace HB := Hd.mk (bel_then HB.out hb)
                      clear hb
                      go_wp2_with fail
                      go_ret
                      exact ⟨rfl, HB.out⟩
                    · have z1 : decide (ln (m).natAbs = 0) = false := decide_eq_false (fun h => hm0 (by have := ln_eq_zero.1 h; omega))
                      have hb1 := HFIN.out.resolve_left hm0
                      clear HFIN
                      subst hb1
                      rw [z1]
                      clear z1 hm0
                      go_wp2_with fail
                      refine (awake_calls _).mono ?_
                      rintro e w5 ⟨rfl, hb⟩
                      replace HB := Hd.mk (bel_then HB.out hb)
                      clear hb
                      go_wp2_with fail
                      go_ret
                      exact ⟨rfl, HB.out⟩
              · have hs : ¬ sgnv kq < 0 := by have := sgnv_nn (z := kq) (by omega); omega
                obtain ⟨sk, hsk⟩ : ∃ k, k = sgnv kq := ⟨_, rfl⟩
                rw [← hsk] at hs ⊢
                have HMN : Hd (kq = (kq.natAbs : Int)) := ⟨by omega⟩
                have hlm := hlk
                clear hsk hneg
                go_upto_region 21 with fail
                clear hs L0 L1 P5 HG14
                by_cases hu : 0 ≤ u
                · have hgu : decide (0 ≤ sgnv u) = true := decide_eq_true (sgnv_nn hu)
                  obtain ⟨bb, hbb⟩ : ∃ b, b = decide (sgnv (u - kq) < 0) := ⟨_, rfl⟩
                  have HFIN : Hd (kq = 0 ∨ bb = true) := ⟨by
                    by_cases hq : q = 0
                    · left
                      have h1 := HKZ.out hq
                      have h2 := HMN.out
                      omega
                    · right
                      have h1 := HRD.out hq
                      have h2 := HMN.out
                      rw [hbb]
                      refine decide_eq_true ?_
                      unfold sgnv
                      rw [if_pos (by omega)]
                      decide⟩
                  clear hu
                  refine wp_region_vg 11 [124, 125, 126, 127, 128, 129, 130, 131, 132, 133, 134] [3, 4, 9, 10] [] 38 [.bool false, .slice none 0 0] [isZ u, isZ u, isV (.int .i64 (sgnv u)), isV (.bool true), isV (.bool true), isZ u, isZ u, isZ kq, isV (.int .i64 (sgnv (u - kq))), isV (.bool bb), isV (.bool bb)] (by kernel_rfl) (by kernel_rfl) (by kernel_rfl) (by rfl) alloc_Z (fun d v c a w h => by cases d <;> exact h) ?_ ?_
                  · intro i hi hA a wx hb hs hd
                    match i, hi, hA with
                    | 0, _, _ => exact .inl ⟨rfl, op_loadA rfl rfl (hs 6 rfl) (P6.out.to hb)⟩
                    | 1, _, _ => exact .inl ⟨rfl, op_call1 rfl rfl Try.call32 (z1_same (fun A1 c1 => rOf_calls _ _ _ _ _) (hd 0 rfl))⟩
                    | 2, _, _ => exact .inl ⟨rfl, op_call1 rfl rfl Try.call43 (sign_got u _ _ (by omega) (hd 1 rfl))⟩
                    | 3, _, _ => exact .inl ⟨rfl, _, op_geq0 rfl (hd 2 rfl), by rw [hgu]; rfl⟩
                    | 4, _, _ => exact .inl ⟨rfl, _, op_move rfl (hd 3 rfl), rfl⟩
                    | 5, _, _ => exact .inl ⟨⟨rfl, hd 4 rfl⟩, op_loadA rfl rfl (hs 6 rfl) (P6.out.to hb)⟩
                    | 6, _, _ => exact .inl ⟨⟨rfl, hd 4 rfl⟩, op_call1 rfl rfl Try.call32 (z1_same (fun A1 c1 => rOf_calls _ _ _ _ _) (hd 5 rfl))⟩
                    | 7, _, _ => exact .inl ⟨⟨rfl, hd 4 rfl⟩, op_loadR rfl rfl (hs 14 rfl) (P14.out.to hb)⟩
                    | 8, _, _ => exact .inl ⟨⟨rfl, hd 4 rfl⟩, op_call2 rfl rfl Try.call34 (order_got u kq _ rfl _ _ _ (hd 6 rfl) (hd 7 rfl) (by omega) (by omega))⟩
                    | 9, _, _ => exact .inl ⟨⟨rfl, hd 4 rfl⟩, _, op_lss0 rfl (hd 8 rfl), by rw [← hbb]; rfl⟩
                    | 10, _, _ => exact .inl ⟨rfl, _, op_pickT rfl (hd 4 rfl) (hd 9 rfl), rfl⟩
                    | i + 11, h, _ => omega
                  · intro vs wx hb hv hal hne
                    have e10 : vs 134 = .bool bb := hv 10 (by decide) rfl
                    simp only [putAll, List.foldl_cons, List.foldl_nil, Act.put, List.setIfInBounds_toArray, List.set_cons_succ, List.set_cons_zero, List.drop_succ_cons, List.drop_zero, e10]
                    generalize vs 124 = s124
                    generalize vs 125 = s125
                    generalize vs 126 = s126
                    generalize vs 127 = s127
                    generalize vs 128 = s128
                    generalize vs 129 = s129
                    generalize vs 130 = s130
                    generalize vs 131 = s131
                    generalize vs 132 = s132
                    generalize vs 133 = s133
                    replace HB := Hd.mk (bel_then HB.out hb)
                    replace P6 := Hd.mk (P6.out.to hb)
                    replace P14 := Hd.mk (P14.out.to hb)
                    clear hv hal hne hb e10 hbb hgu
                    obtain ⟨Y', dy', hBy, hny⟩ := P14.out
                    have y0 := hBy.c0; have y1 := hBy.c1
                    clear hBy hny
                    go_wp2_with fail
                    refine (rZero_calls _ _ _ _ _ (by omega)).mono ?_
                    rintro e w4 ⟨rfl, hb⟩
                    replace HB := Hd.mk (bel_then HB.out hb)
                    clear hb y0 y1
                    by_cases hm0 : kq = 0
                    · have z1 : decide (ln (kq).natAbs = 0) = true := decide_eq_true (by rw [hm0]; exact ln_zero)
                      rw [z1]
                      clear z1 hm0
                      go_wp2_with fail
                      refine (awake_calls _).mono ?_
                      rintro e w5 ⟨rfl, hb⟩
                      replace HB := Hd.mk (bel_then HB.out hb)
                      clear hb
                      go_wp2_with fail
                      go_ret
                      exact ⟨rfl, HB.out⟩
                    · have z1 : decide (ln (kq).natAbs = 0) = false := decide_eq_false (fun h => hm0 (by have := ln_eq_zero.1 h; omega))
                      have hb1 := HFIN.out.resolve_left hm0
                      clear HFIN
                      subst hb1
                      rw [z1]
                      clear z1 hm0
                      go_wp2_with fail
                      refine (awake_calls _).mono ?_
                      rintro e w5 ⟨rfl, hb⟩
                      replace HB := Hd.mk (bel_then HB.out hb)
                      clear hb
                      go_wp2_with fail
                      go_ret
                      exact ⟨rfl, HB.out⟩
                · have hgu : decide (0 ≤ sgnv u) = false := decide_eq_false (by unfold sgnv; rw [if_pos (by omega)]; decide)
                  obtain ⟨bb, hbb⟩ : ∃ b, b = false := ⟨_, rfl⟩
                  have HFIN : Hd (kq = 0 ∨ bb = true) := ⟨by
                    by_cases hq : q = 0
                    · left
                      have h1 := HKZ.out hq
                      have h2 := HMN.out
                      omega
                    · exact absurd (HRD.out hq).1 hu⟩
                  clear hu
                  refine wp_region_vg 11 [124, 125, 126, 127, 128, 129, 130, 131, 132, 133, 134] [3, 4, 9, 10] [] 38 [.bool false, .slice none 0 0] [isZ u, isZ u, isV (.int .i64 (sgnv u)), isV (.bool false), isV (.bool false), SP.any, SP.any, SP.any, SP.any, SP.any, isV (.bool bb)] (by kernel_rfl) (by kernel_rfl) (by kernel_rfl) (by rfl) alloc_Z (fun d v c a w h => by cases d <;> exact h) ?_ ?_
                  · intro i hi hA a wx hb hs hd
                    match i, hi, hA with
                    | 0, _, _ => exact .inl ⟨rfl, op_loadA rfl rfl (hs 6 rfl) (P6.out.to hb)⟩
                    | 1, _, _ => exact .inl ⟨rfl, op_call1 rfl rfl Try.call32 (z1_same (fun A1 c1 => rOf_calls _ _ _ _ _) (hd 0 rfl))⟩
                    | 2, _, _ => exact .inl ⟨rfl, op_call1 rfl rfl Try.call43 (sign_got u _ _ (by omega) (hd 1 rfl))⟩
                    | 3, _, _ => exact .inl ⟨rfl, _, op_geq0 rfl (hd 2 rfl), by rw [hgu]; rfl⟩
                    | 4, _, _ => exact .inl ⟨rfl, _, op_move rfl (hd 3 rfl), rfl⟩
                    | 5, _, _ => exact .inr ⟨⟨rfl, hd 4 rfl⟩, trivial⟩
                    | 6, _, _ => exact .inr ⟨⟨rfl, hd 4 rfl⟩, trivial⟩
                    | 7, _, _ => exact .inr ⟨⟨rfl, hd 4 rfl⟩, trivial⟩
                    | 8, _, _ => exact .inr ⟨⟨rfl, hd 4 rfl⟩, trivial⟩
                    | 9, _, _ => exact .inr ⟨⟨rfl, hd 4 rfl⟩, trivial⟩
                    | 10, _, _ => exact .inl ⟨rfl, _, op_pickF rfl (hd 4 rfl) rfl, by rw [hbb]; rfl⟩
                    | i + 11, h, _ => omega
                  · intro vs wx hb hv hal hne
                    have e10 : vs 134 = .bool bb := hv 10 (by decide) rfl
                    simp only [putAll, List.foldl_cons, List.foldl_nil, Act.put, List.setIfInBounds_toArray, List.set_cons_succ, List.set_cons_zero, List.drop_succ_cons, List.drop_zero, e10]
                    generalize vs 124 = s124
                    generalize vs 125 = s125
                    generalize vs 126 = s126
                    generalize vs 127 = s127
                    generalize vs 128 = s128
                    generalize vs 129 = s129
                    generalize vs 130 = s130
                    generalize vs 131 = s131
                    generalize vs 132 = s132
                    generalize vs 133 = s133
                    replace HB := Hd.mk (bel_then HB.out hb)
                    replace P6 := Hd.mk (P6.out.to hb)
                    replace P14 := Hd.mk (P14.out.to hb)
                    clear hv hal hne hb e10 hbb hgu
                    obtain ⟨Y', dy', hBy, hny⟩ := P14.out
                    have y0 := hBy.c0; have y1 := hBy.c1
                    clear hBy hny
                    go_wp2_with fail
                    refine (rZero_calls _ _ _ _ _ (by omega)).mono ?_
                    rintro e w4 ⟨rfl, hb⟩
                    replace HB := Hd.mk (bel_then HB.out hb)
                    clear hb y0 y1
                    by_cases hm0 : kq = 0
                    · have z1 : decide (ln (kq).natAbs = 0) = true := decide_eq_true (by rw [hm0]; exact ln_zero)
                      rw [z1]
                      clear z1 hm0
                      go_wp2_with fail
                      refine (awake_calls _).mono ?_
                      rintro e w5 ⟨rfl, hb⟩
                      replace HB := Hd.mk (bel_then HB.out hb)
                      clear hb
                      go_wp2_with fail
                      go_ret
                      exact ⟨rfl, HB.out⟩
                    · have z1 : decide (ln (kq).natAbs = 0) = false := decide_eq_false (fun h => hm0 (by have := ln_eq_zero.1 h; omega))
                      have hb1 := HFIN.out.resolve_left hm0
                      clear HFIN
                      subst hb1
                      rw [z1]
                      clear z1 hm0
                      go_wp2_with fail
                      refine (awake_calls _).mono ?_
                      rintro e w5 ⟨rfl, hb⟩
                      replace HB := Hd.mk (bel_then HB.out hb)
                      clear hb
                      go_wp2_with fail
                      go_ret
                      exact ⟨rfl, HB.out⟩
theorem ExactBezout_walk (x y : Raw) (w : World) (hx : x.at_ w) (hy : y.at_ w) :
    Calls Try.prog 9 #[x.v, y.v] w fun e w' => e = .returned (.bool true) ∧ Below w.heap.size w w' := by
  by_cases hok : (x.ok && y.ok) = true
  · obtain ⟨hxo, hyo⟩ := and_ok hok
    rw [(Raw.num hxo hx.2.1).1, (Raw.num hyo hy.2.1).1]
    exact Bez_num x.val y.val x.A x.c y.A y.c w (Raw.nn hxo hx) (Raw.nn hyo hy) (Raw.ok_len hxo hx.2.1) (Raw.ok_len hyo hy.2.1)
  · exact Bez_no x y w hx hy hok
end Go.Proofs.Ytcjcpfafalkceaa
