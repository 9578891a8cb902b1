/- The law ExactSums: Cmp, Add, Sub and Mul answer as the reference does. -/
import Derived.Test.YtcjcpfafalkceaaO
set_option linter.unusedVariables false
namespace Go.Proofs.Ytcjcpfafalkceaa
open Go.RowKit
theorem Blk.two {w : World} {g : Nat} {t : TypeId} {x0 x1 : Value} (h : Blk w g t [x0, x1]) (u v : Value) : Blk ((w.setCell ⟨g, 0, none⟩ u).setCell ⟨g, 1, none⟩ v) g t [u, v] := (h.set_ 0 u).set_ 1 v
theorem Blk.two_far {w : World} {g g' : Nat} {t : TypeId} {cs : List Value} (h : Blk w g t cs) (hg : g ≠ g') (u v : Value) : Blk ((w.setCell ⟨g', 0, none⟩ u).setCell ⟨g', 1, none⟩ v) g t cs := (h.far hg u).far hg v
theorem NN.two {w : World} {A : Option Addr} {c n g : Nat} {t : TypeId} {b : Bool} {A' : Option Addr} {l' c' : Nat} (h : NN w A c n) (hB : Blk w g t [.bool b, .slice A' l' c']) (u v : Value) : NN ((w.setCell ⟨g, 0, none⟩ u).setCell ⟨g, 1, none⟩ v) A c n := by
  have k1 : (w.setCell ⟨g, 0, none⟩ u).cell? ⟨g, 1, none⟩ = some (.slice A' l' c') := (hB.set_ 0 u).cell 1
  exact (h.set_ hB.c0 (by intro t; simp) _).set_ k1 (by intro t; simp) _
theorem below_two {B : Nat} {w W : World} (h : Below B w W) {g : Nat} (hg : B ≤ g) (u v : Value) : Below B w ((W.setCell ⟨g, 0, none⟩ u).setCell ⟨g, 1, none⟩ v) := below_set (below_set h hg u) hg v
theorem Blk.fresh {w w' : World} {g : Nat} {t t' : TypeId} {cs cs' : List Value} (h : Blk w g t cs) (h' : w.heap.size ≤ w'.heap.size) : g ≠ w'.heap.size := by
  have := h.lt
  omega
set_option maxHeartbeats 2000000 in
set_option maxRecDepth 100000 in
theorem ExactSums_walk (x y : Raw) (w : World) (hx : x.at_ w) (hy : y.at_ w) :
    Calls Try.prog 5 #[x.v, y.v] w fun e w' => e = .returned (.bool true) ∧ Below w.heap.size w w' := by
  have HC1 := Hd.mk (fun W (hW : Below w.heap.size w W) => Cmp_calls x y W (Raw.at_to hx hW) (Raw.at_to hy hW))
  have HC2 := Hd.mk (fun W (hW : Below w.heap.size w W) => rCmp_calls x y W (Raw.at_to hx hW) (Raw.at_to hy hW))
  have HA1 := Hd.mk (fun W (hW : Below w.heap.size w W) => Add_calls x y W (Raw.at_to hx hW) (Raw.at_to hy hW))
  have HA2 := Hd.mk (fun W (hW : Below w.heap.size w W) => rAdd_calls x y W (Raw.at_to hx hW) (Raw.at_to hy hW))
  have HS1 := Hd.mk (fun W (hW : Below w.heap.size w W) => Sub_calls x y W (Raw.at_to hx hW) (Raw.at_to hy hW))
  have HS2 := Hd.mk (fun W (hW : Below w.heap.size w W) => rSub_calls x y W (Raw.at_to hx hW) (Raw.at_to hy hW))
  have HM1 := Hd.mk (fun W (hW : Below w.heap.size w W) => Mul_calls x y W (Raw.at_to hx hW) (Raw.at_to hy hW))
  have HM2 := Hd.mk (fun W (hW : Below w.heap.size w W) => rMul_calls x y W (Raw.at_to hx hW) (Raw.at_to hy hW))
  obtain ⟨v1, hv1⟩ : ∃ v, v = cmpr x y := ⟨_, rfl⟩
  obtain ⟨v2, hv2⟩ : ∃ v, v = cmpe x y := ⟨_, rfl⟩
  obtain ⟨za, hza⟩ : ∃ v, v = opz x y (x.val + y.val) := ⟨_, rfl⟩
  obtain ⟨ea, hea⟩ : ∃ v, v = ope x y (x.val + y.val) := ⟨_, rfl⟩
  obtain ⟨zs, hzs⟩ : ∃ v, v = opz x y (x.val - y.val) := ⟨_, rfl⟩
  obtain ⟨es, hes⟩ : ∃ v, v = ope x y (x.val - y.val) := ⟨_, rfl⟩
  obtain ⟨zm, hzm⟩ : ∃ v, v = opz x y (x.val * y.val) := ⟨_, rfl⟩
  obtain ⟨em, hem⟩ : ∃ v, v = ope x y (x.val * y.val) := ⟨_, rfl⟩
  rw [← hv1, ← hv2] at HC1 HC2
  rw [← hza, ← hea] at HA1 HA2
  rw [← hzs, ← hes] at HS1 HS2
  rw [← hzm, ← hem] at HM1 HM2
  clear hv1 hv2 hza hea hzs hes hzm hem hx hy
  unfold Raw.v at HC1 HC2 HA1 HA2 HS1 HS2 HM1 HM2 ⊢
  obtain ⟨b1, A1, c1, xs⟩ := x
  obtain ⟨b2, A2, c2, ys⟩ := y
  simp only at HC1 HC2 HA1 HA2 HS1 HS2 HM1 HM2 ⊢
  obtain ⟨n1, hn1⟩ : ∃ n, n = xs.length := ⟨_, rfl⟩
  obtain ⟨n2, hn2⟩ : ∃ n, n = ys.length := ⟨_, rfl⟩
  rw [← hn1, ← hn2] at HC1 HC2 HA1 HA2 HS1 HS2 HM1 HM2 ⊢
  clear hn1 hn2
  go_enter Try.func5, Try.ntmps5
  go_wp2_with fail
  obtain ⟨W0, hW0⟩ : ∃ W : World, W = (w.alloc (.cells #[.bool b1, .slice A1 n1 c1] 24)).alloc (.cells #[.bool b2, .slice A2 n2 c2] 24) := ⟨_, rfl⟩
  rw [← hW0]
  have HSZ : Hd (w.heap.size + 1 + 1 = W0.heap.size) := ⟨by rw [hW0]; simp⟩
  obtain ⟨hB0, hB1, hBW⟩ := boxes2 hW0
  have q0 := hB0.c0
  have q1 := hB0.c1
  have q2 := hB1.c0
  have q3 := hB1.c1
  have Q0 := Hd.mk hB0
  have Q1 := Hd.mk hB1
  have HW := Hd.mk hBW
  have HB : Hd (Below W0.heap.size W0 W0) := ⟨Below.refl _ _⟩
  clear hB0 hB1 hBW hW0
  refine (HC1.out _ HW.out).mono ?_
  rintro e w1 ⟨rfl, hb1⟩
  have HB' : Hd (Below W0.heap.size W0 _) := ⟨bel_then (by repeat (first | exact HB.out | exact Below.refl _ _ | refine below_alloc ?_ _ | refine below_drewN ?_ _ | refine below_drew ?_ | refine below_set ?_ (by first | exact Nat.le_refl _ | omega | (simp; done) | (simp; omega)) _)) hb1⟩; clear HB; have HB := HB'; clear HB' hb1; replace q0 := (Q0.out.to HB.out).c0; replace q1 := (Q0.out.to HB.out).c1; replace q2 := (Q1.out.to HB.out).c0; replace q3 := (Q1.out.to HB.out).c1
  go_wp2_with fail
  refine (HC2.out _ (bel_then HW.out HB.out)).mono ?_
  rintro e w2 ⟨rfl, hb2⟩
  have HB' : Hd (Below W0.heap.size W0 _) := ⟨bel_then (by repeat (first | exact HB.out | exact Below.refl _ _ | refine below_alloc ?_ _ | refine below_drewN ?_ _ | refine below_drew ?_ | refine below_set ?_ (by first | exact Nat.le_refl _ | omega | (simp; done) | (simp; omega)) _)) hb2⟩; clear HB; have HB := HB'; clear HB' hb2; replace q0 := (Q0.out.to HB.out).c0; replace q1 := (Q0.out.to HB.out).c1; replace q2 := (Q1.out.to HB.out).c0; replace q3 := (Q1.out.to HB.out).c1
  have hvv : (v1 != v1) = false := by simp
  have hvw : (v2 != v2) = false := by simp
  go_wp2_with fail
  refine (awake_calls _).mono ?_
  rintro e w3 ⟨rfl, hb3⟩
  have HB' : Hd (Below W0.heap.size W0 _) := ⟨bel_then (by repeat (first | exact HB.out | exact Below.refl _ _ | refine below_alloc ?_ _ | refine below_drewN ?_ _ | refine below_drew ?_ | refine below_set ?_ (by first | exact Nat.le_refl _ | omega | (simp; done) | (simp; omega)) _)) hb3⟩; clear HB; have HB := HB'; clear HB' hb3; replace q0 := (Q0.out.to HB.out).c0; replace q1 := (Q0.out.to HB.out).c1; replace q2 := (Q1.out.to HB.out).c0; replace q3 := (Q1.out.to HB.out).c1
  go_wp2_with fail
  refine (HA1.out _ (bel_then HW.out HB.out)).mono ?_
  rintro e w4 ⟨A4, c4, rfl, hn4, hb4⟩
  have HB' : Hd (Below W0.heap.size W0 _) := ⟨bel_then (by repeat (first | exact HB.out | exact Below.refl _ _ | refine below_alloc ?_ _ | refine below_drewN ?_ _ | refine below_drew ?_ | refine below_set ?_ (by first | exact Nat.le_refl _ | omega | (simp; done) | (simp; omega)) _)) hb4⟩; clear HB; have HB := HB'; clear HB' hb4; replace q0 := (Q0.out.to HB.out).c0; replace q1 := (Q0.out.to HB.out).c1; replace q2 := (Q1.out.to HB.out).c0; replace q3 := (Q1.out.to HB.out).c1
  have HN4 := Hd.mk hn4
  clear hn4
  have hz0 : w.heap.size + 1 < w4.heap.size := by have h1 := HB.out.size; have h2 := HSZ.out; omega
  have hz1 : w.heap.size < w4.heap.size := by omega
  have HGX : W0.heap.size ≤ w4.heap.size := HB.out.size
  obtain ⟨b, hb⟩ : ∃ b, b = decide (za < 0) := ⟨_, rfl⟩
  have HBB := Hd.mk hb
  rw [← hb]
  clear hb
  go_wp2_with fail
  obtain ⟨W1, hW1⟩ : ∃ W : World, W = w4.alloc (.cells #[.bool b, .slice A4 (ln (za).natAbs) c4] 24) := ⟨_, rfl⟩
  rw [← hW1]
  have HX : Hd (Blk W1 w4.heap.size 24 [.bool b, .slice A4 (ln (za).natAbs) c4]) := ⟨by rw [hW1]; exact heap_alloc_new _ _⟩
  have hbw : Below w4.heap.size w4 W1 := by rw [hW1]; exact below_alloc (Below.refl _ _) _
  have HN' := Hd.mk (HN4.out.to hbw); clear HN4; have HN4 := HN'; clear HN'
  have HB' : Hd (Below W0.heap.size W0 _) := ⟨bel_then (by repeat (first | exact HB.out | exact Below.refl _ _ | refine below_alloc ?_ _ | refine below_drewN ?_ _ | refine below_drew ?_ | refine below_set ?_ (by first | exact Nat.le_refl _ | omega | (simp; done) | (simp; omega)) _)) hbw⟩; clear HB; have HB := HB'; clear HB' hbw; replace q0 := (Q0.out.to HB.out).c0; replace q1 := (Q0.out.to HB.out).c1; replace q2 := (Q1.out.to HB.out).c0; replace q3 := (Q1.out.to HB.out).c1
  clear hW1
  refine (HA2.out _ (bel_then HW.out HB.out)).mono ?_
  rintro e w5 ⟨A5, c5, rfl, hn5, hb5⟩
  rw [← HBB.out]
  have HN5 := Hd.mk hn5
  clear hn5
  have HN' := Hd.mk (HN4.out.to hb5); clear HN4; have HN4 := HN'; clear HN'
  have HX' := Hd.mk (HX.out.to hb5); clear HX; have HX := HX'; clear HX'
  have HB' : Hd (Below W0.heap.size W0 _) := ⟨bel_then (by repeat (first | exact HB.out | exact Below.refl _ _ | refine below_alloc ?_ _ | refine below_drewN ?_ _ | refine below_drew ?_ | refine below_set ?_ (by first | exact Nat.le_refl _ | omega | (simp; done) | (simp; omega)) _)) hb5⟩; clear HB; have HB := HB'; clear HB' hb5; replace q0 := (Q0.out.to HB.out).c0; replace q1 := (Q0.out.to HB.out).c1; replace q2 := (Q1.out.to HB.out).c0; replace q3 := (Q1.out.to HB.out).c1
  have hzx : w4.heap.size < w5.heap.size := HX.out.lt
  have x0 := HX.out.c0; have x1 := HX.out.c1; have xf0 := HX.out.f0; have xf1 := HX.out.f1
  go_wp2_with fail
  obtain ⟨W2, hW2⟩ : ∃ W : World, W = w5.alloc (.cells #[.bool b, .slice A5 (ln (za).natAbs) c5] 24) := ⟨_, rfl⟩
  rw [← hW2]
  have HY : Hd (Blk W2 w5.heap.size 24 [.bool b, .slice A5 (ln (za).natAbs) c5]) := ⟨by rw [hW2]; exact heap_alloc_new _ _⟩
  have hbw : Below w5.heap.size w5 W2 := by rw [hW2]; exact below_alloc (Below.refl _ _) _
  have HN' := Hd.mk (HN4.out.to hbw); clear HN4; have HN4 := HN'; clear HN'
  have HN' := Hd.mk (HN5.out.to hbw); clear HN5; have HN5 := HN'; clear HN'
  clear x0 x1 xf0 xf1
  have HX' := Hd.mk (HX.out.to hbw); clear HX; have HX := HX'; clear HX'
  have HGY : W0.heap.size ≤ w5.heap.size := HB.out.size
  have HB' : Hd (Below W0.heap.size W0 _) := ⟨bel_then (by repeat (first | exact HB.out | exact Below.refl _ _ | refine below_alloc ?_ _ | refine below_drewN ?_ _ | refine below_drew ?_ | refine below_set ?_ (by first | exact Nat.le_refl _ | omega | (simp; done) | (simp; omega)) _)) hbw⟩; clear HB; have HB := HB'; clear HB' hbw; replace q0 := (Q0.out.to HB.out).c0; replace q1 := (Q0.out.to HB.out).c1; replace q2 := (Q1.out.to HB.out).c0; replace q3 := (Q1.out.to HB.out).c1
  clear hW2
  have hs := same_calls za za A4 c4 A5 c5 _ HN4.out HN5.out
  rw [← HBB.out, decide_eq_true (rfl : za = za)] at hs
  refine hs.mono ?_
  clear hs
  rintro e w6 ⟨rfl, hb6⟩
  clear HN4 HN5
  have HX' := Hd.mk (HX.out.to hb6); clear HX; have HX := HX'; clear HX'
  have HY' := Hd.mk (HY.out.to hb6); clear HY; have HY := HY'; clear HY'
  have HB' : Hd (Below W0.heap.size W0 _) := ⟨bel_then (by repeat (first | exact HB.out | exact Below.refl _ _ | refine below_alloc ?_ _ | refine below_drewN ?_ _ | refine below_drew ?_ | refine below_set ?_ (by first | exact Nat.le_refl _ | omega | (simp; done) | (simp; omega)) _)) hb6⟩; clear HB; have HB := HB'; clear HB' hb6; replace q0 := (Q0.out.to HB.out).c0; replace q1 := (Q0.out.to HB.out).c1; replace q2 := (Q1.out.to HB.out).c0; replace q3 := (Q1.out.to HB.out).c1
  have hee : (ea != ea) = false := by simp
  go_wp2_with fail
  clear hee
  have hne0 : ¬ w.heap.size = w4.heap.size := by omega
  have hne1 : ¬ w.heap.size + 1 = w4.heap.size := by omega
  have hne2 : ¬ w.heap.size = w5.heap.size := by omega
  have hne3 : ¬ w.heap.size + 1 = w5.heap.size := by omega
  have hne4 : ¬ w4.heap.size = w5.heap.size := by omega
  have hne5 : ¬ w5.heap.size = w4.heap.size := by omega
  refine (HS1.out _ (bel_then HW.out HB.out)).mono ?_
  rintro e w7 ⟨A4, c4, rfl, hn4, hb4⟩
  have HX' := Hd.mk (HX.out.to hb4); clear HX; have HX := HX'; clear HX'
  have HY' := Hd.mk (HY.out.to hb4); clear HY; have HY := HY'; clear HY'
  have HB' : Hd (Below W0.heap.size W0 _) := ⟨bel_then (by repeat (first | exact HB.out | exact Below.refl _ _ | refine below_alloc ?_ _ | refine below_drewN ?_ _ | refine below_drew ?_ | refine below_set ?_ (by first | exact Nat.le_refl _ | omega | (simp; done) | (simp; omega)) _)) hb4⟩; clear HB; have HB := HB'; clear HB' hb4; replace q0 := (Q0.out.to HB.out).c0; replace q1 := (Q0.out.to HB.out).c1; replace q2 := (Q1.out.to HB.out).c0; replace q3 := (Q1.out.to HB.out).c1
  obtain ⟨b', hb⟩ : ∃ b, b = decide (zs < 0) := ⟨_, rfl⟩
  have HBB' := Hd.mk hb
  rw [← hb]
  clear hb
  have x0 := HX.out.c0; have x1 := HX.out.c1; have xf0 := HX.out.f0; have xf1 := HX.out.f1
  have y0 := HY.out.c0; have y1 := HY.out.c1; have yf0 := HY.out.f0; have yf1 := HY.out.f1
  go_wp2_with fail
  clear x0 x1 xf0 xf1 y0 y1 yf0 yf1
  obtain ⟨W1, hW1⟩ : ∃ W : World, W = (w7.setCell ⟨w4.heap.size, 0, none⟩ (.bool b')).setCell ⟨w4.heap.size, 1, none⟩ (.slice A4 (ln (zs).natAbs) c4) := ⟨_, rfl⟩
  rw [← hW1]
  have HN4 : Hd (NN W1 A4 c4 (zs).natAbs) := ⟨by rw [hW1]; exact hn4.two HX.out _ _⟩
  have HX' : Hd (Blk W1 w4.heap.size 24 [.bool b', .slice A4 (ln (zs).natAbs) c4]) := ⟨by rw [hW1]; exact HX.out.two _ _⟩
  have HY' : Hd (Blk W1 w5.heap.size 24 _) := ⟨by rw [hW1]; exact HY.out.two_far (Ne.symm (Nat.ne_of_lt hzx)) _ _⟩
  have HB' : Hd (Below W0.heap.size W0 W1) := ⟨by rw [hW1]; exact below_two HB.out HGX _ _⟩
  clear hn4 HX HY HB hW1
  have HX := HX'
  have HY := HY'
  have HB := HB'
  clear HX' HY' HB'
  replace q0 := (Q0.out.to HB.out).c0; replace q1 := (Q0.out.to HB.out).c1; replace q2 := (Q1.out.to HB.out).c0; replace q3 := (Q1.out.to HB.out).c1
  refine (HS2.out _ (bel_then HW.out HB.out)).mono ?_
  rintro e w8 ⟨A5, c5, rfl, hn5, hb5⟩
  rw [← HBB'.out]
  have HN' := Hd.mk (HN4.out.to hb5); clear HN4; have HN4 := HN'; clear HN'
  have HX' := Hd.mk (HX.out.to hb5); clear HX; have HX := HX'; clear HX'
  have HY' := Hd.mk (HY.out.to hb5); clear HY; have HY := HY'; clear HY'
  have HB' : Hd (Below W0.heap.size W0 _) := ⟨bel_then (by repeat (first | exact HB.out | exact Below.refl _ _ | refine below_alloc ?_ _ | refine below_drewN ?_ _ | refine below_drew ?_ | refine below_set ?_ (by first | exact Nat.le_refl _ | omega | (simp; done) | (simp; omega)) _)) hb5⟩; clear HB; have HB := HB'; clear HB' hb5; replace q0 := (Q0.out.to HB.out).c0; replace q1 := (Q0.out.to HB.out).c1; replace q2 := (Q1.out.to HB.out).c0; replace q3 := (Q1.out.to HB.out).c1
  have x0 := HX.out.c0; have x1 := HX.out.c1; have xf0 := HX.out.f0; have xf1 := HX.out.f1
  have y0 := HY.out.c0; have y1 := HY.out.c1; have yf0 := HY.out.f0; have yf1 := HY.out.f1
  go_wp2_with fail
  clear x0 x1 xf0 xf1 y0 y1 yf0 yf1
  obtain ⟨W2, hW2⟩ : ∃ W : World, W = (w8.setCell ⟨w5.heap.size, 0, none⟩ (.bool b')).setCell ⟨w5.heap.size, 1, none⟩ (.slice A5 (ln (zs).natAbs) c5) := ⟨_, rfl⟩
  rw [← hW2]
  have HN5 : Hd (NN W2 A5 c5 (zs).natAbs) := ⟨by rw [hW2]; exact hn5.two HY.out _ _⟩
  have HN4' : Hd (NN W2 A4 c4 (zs).natAbs) := ⟨by rw [hW2]; exact HN4.out.two HY.out _ _⟩
  have HY' : Hd (Blk W2 w5.heap.size 24 [.bool b', .slice A5 (ln (zs).natAbs) c5]) := ⟨by rw [hW2]; exact HY.out.two _ _⟩
  have HX' : Hd (Blk W2 w4.heap.size 24 _) := ⟨by rw [hW2]; exact HX.out.two_far (Nat.ne_of_lt hzx) _ _⟩
  have HB' : Hd (Below W0.heap.size W0 W2) := ⟨by rw [hW2]; exact below_two HB.out HGY _ _⟩
  clear hn5 HX HY HB HN4 hW2
  have HX := HX'
  have HY := HY'
  have HB := HB'
  have HN4 := HN4'
  clear HX' HY' HB' HN4'
  replace q0 := (Q0.out.to HB.out).c0; replace q1 := (Q0.out.to HB.out).c1; replace q2 := (Q1.out.to HB.out).c0; replace q3 := (Q1.out.to HB.out).c1
  have hs := same_calls zs zs A4 c4 A5 c5 _ HN4.out HN5.out
  rw [← HBB'.out, decide_eq_true (rfl : zs = zs)] at hs
  refine hs.mono ?_
  clear hs
  rintro e w6 ⟨rfl, hb6⟩
  clear HN4 HN5
  have HX' := Hd.mk (HX.out.to hb6); clear HX; have HX := HX'; clear HX'
  have HY' := Hd.mk (HY.out.to hb6); clear HY; have HY := HY'; clear HY'
  have HB' : Hd (Below W0.heap.size W0 _) := ⟨bel_then (by repeat (first | exact HB.out | exact Below.refl _ _ | refine below_alloc ?_ _ | refine below_drewN ?_ _ | refine below_drew ?_ | refine below_set ?_ (by first | exact Nat.le_refl _ | omega | (simp; done) | (simp; omega)) _)) hb6⟩; clear HB; have HB := HB'; clear HB' hb6; replace q0 := (Q0.out.to HB.out).c0; replace q1 := (Q0.out.to HB.out).c1; replace q2 := (Q1.out.to HB.out).c0; replace q3 := (Q1.out.to HB.out).c1
  have hee : (es != es) = false := by simp
  go_wp2_with fail
  clear hee HBB'
  refine (HM1.out _ (bel_then HW.out HB.out)).mono ?_
  rintro e w7 ⟨A4, c4, rfl, hn4, hb4⟩
  have HX' := Hd.mk (HX.out.to hb4); clear HX; have HX := HX'; clear HX'
  have HY' := Hd.mk (HY.out.to hb4); clear HY; have HY := HY'; clear HY'
  have HB' : Hd (Below W0.heap.size W0 _) := ⟨bel_then (by repeat (first | exact HB.out | exact Below.refl _ _ | refine below_alloc ?_ _ | refine below_drewN ?_ _ | refine below_drew ?_ | refine below_set ?_ (by first | exact Nat.le_refl _ | omega | (simp; done) | (simp; omega)) _)) hb4⟩; clear HB; have HB := HB'; clear HB' hb4; replace q0 := (Q0.out.to HB.out).c0; replace q1 := (Q0.out.to HB.out).c1; replace q2 := (Q1.out.to HB.out).c0; replace q3 := (Q1.out.to HB.out).c1
  obtain ⟨b', hb⟩ : ∃ b, b = decide (zm < 0) := ⟨_, rfl⟩
  have HBB' := Hd.mk hb
  rw [← hb]
  clear hb
  have x0 := HX.out.c0; have x1 := HX.out.c1; have xf0 := HX.out.f0; have xf1 := HX.out.f1
  have y0 := HY.out.c0; have y1 := HY.out.c1; have yf0 := HY.out.f0; have yf1 := HY.out.f1
  go_wp2_with fail
  clear x0 x1 xf0 xf1 y0 y1 yf0 yf1
  obtain ⟨W1, hW1⟩ : ∃ W : World, W = (w7.setCell ⟨w4.heap.size, 0, none⟩ (.bool b')).setCell ⟨w4.heap.size, 1, none⟩ (.slice A4 (ln (zm).natAbs) c4) := ⟨_, rfl⟩
  rw [← hW1]
  have HN4 : Hd (NN W1 A4 c4 (zm).natAbs) := ⟨by rw [hW1]; exact hn4.two HX.out _ _⟩
  have HX' : Hd (Blk W1 w4.heap.size 24 [.bool b', .slice A4 (ln (zm).natAbs) c4]) := ⟨by rw [hW1]; exact HX.out.two _ _⟩
  have HY' : Hd (Blk W1 w5.heap.size 24 _) := ⟨by rw [hW1]; exact HY.out.two_far (Ne.symm (Nat.ne_of_lt hzx)) _ _⟩
  have HB' : Hd (Below W0.heap.size W0 W1) := ⟨by rw [hW1]; exact below_two HB.out HGX _ _⟩
  clear hn4 HX HY HB hW1
  have HX := HX'
  have HY := HY'
  have HB := HB'
  clear HX' HY' HB'
  replace q0 := (Q0.out.to HB.out).c0; replace q1 := (Q0.out.to HB.out).c1; replace q2 := (Q1.out.to HB.out).c0; replace q3 := (Q1.out.to HB.out).c1
  refine (HM2.out _ (bel_then HW.out HB.out)).mono ?_
  rintro e w8 ⟨A5, c5, rfl, hn5, hb5⟩
  rw [← HBB'.out]
  have HN' := Hd.mk (HN4.out.to hb5); clear HN4; have HN4 := HN'; clear HN'
  have HX' := Hd.mk (HX.out.to hb5); clear HX; have HX := HX'; clear HX'
  have HY' := Hd.mk (HY.out.to hb5); clear HY; have HY := HY'; clear HY'
  have HB' : Hd (Below W0.heap.size W0 _) := ⟨bel_then (by repeat (first | exact HB.out | exact Below.refl _ _ | refine below_alloc ?_ _ | refine below_drewN ?_ _ | refine below_drew ?_ | refine below_set ?_ (by first | exact Nat.le_refl _ | omega | (simp; done) | (simp; omega)) _)) hb5⟩; clear HB; have HB := HB'; clear HB' hb5; replace q0 := (Q0.out.to HB.out).c0; replace q1 := (Q0.out.to HB.out).c1; replace q2 := (Q1.out.to HB.out).c0; replace q3 := (Q1.out.to HB.out).c1
  have x0 := HX.out.c0; have x1 := HX.out.c1; have xf0 := HX.out.f0; have xf1 := HX.out.f1
  have y0 := HY.out.c0; have y1 := HY.out.c1; have yf0 := HY.out.f0; have yf1 := HY.out.f1
  go_wp2_with fail
  clear x0 x1 xf0 xf1 y0 y1 yf0 yf1
  obtain ⟨W2, hW2⟩ : ∃ W : World, W = (w8.setCell ⟨w5.heap.size, 0, none⟩ (.bool b')).setCell ⟨w5.heap.size, 1, none⟩ (.slice A5 (ln (zm).natAbs) c5) := ⟨_, rfl⟩
  rw [← hW2]
  have HN5 : Hd (NN W2 A5 c5 (zm).natAbs) := ⟨by rw [hW2]; exact hn5.two HY.out _ _⟩
  have HN4' : Hd (NN W2 A4 c4 (zm).natAbs) := ⟨by rw [hW2]; exact HN4.out.two HY.out _ _⟩
  have HY' : Hd (Blk W2 w5.heap.size 24 [.bool b', .slice A5 (ln (zm).natAbs) c5]) := ⟨by rw [hW2]; exact HY.out.two _ _⟩
  have HX' : Hd (Blk W2 w4.heap.size 24 _) := ⟨by rw [hW2]; exact HX.out.two_far (Nat.ne_of_lt hzx) _ _⟩
  have HB' : Hd (Below W0.heap.size W0 W2) := ⟨by rw [hW2]; exact below_two HB.out HGY _ _⟩
  clear hn5 HX HY HB HN4 hW2
  have HX := HX'
  have HY := HY'
  have HB := HB'
  have HN4 := HN4'
  clear HX' HY' HB' HN4'
  replace q0 := (Q0.out.to HB.out).c0; replace q1 := (Q0.out.to HB.out).c1; replace q2 := (Q1.out.to HB.out).c0; replace q3 := (Q1.out.to HB.out).c1
  have hs := same_calls zm zm A4 c4 A5 c5 _ HN4.out HN5.out
  rw [← HBB'.out, decide_eq_true (rfl : zm = zm)] at hs
  refine hs.mono ?_
  clear hs
  rintro e w6 ⟨rfl, hb6⟩
  clear HN4 HN5
  have HX' := Hd.mk (HX.out.to hb6); clear HX; have HX := HX'; clear HX'
  have HY' := Hd.mk (HY.out.to hb6); clear HY; have HY := HY'; clear HY'
  have HB' : Hd (Below W0.heap.size W0 _) := ⟨bel_then (by repeat (first | exact HB.out | exact Below.refl _ _ | refine below_alloc ?_ _ | refine below_drewN ?_ _ | refine below_drew ?_ | refine below_set ?_ (by first | exact Nat.le_refl _ | omega | (simp; done) | (simp; omega)) _)) hb6⟩; clear HB; have HB := HB'; clear HB' hb6; replace q0 := (Q0.out.to HB.out).c0; replace q1 := (Q0.out.to HB.out).c1; replace q2 := (Q1.out.to HB.out).c0; replace q3 := (Q1.out.to HB.out).c1
  have hee : (em == em) = true := by simp
  go_wp2_with fail
  clear hee HBB'
  go_ret
  exact ⟨rfl, bel_then HW.out HB.out⟩
end Go.Proofs.Ytcjcpfafalkceaa
