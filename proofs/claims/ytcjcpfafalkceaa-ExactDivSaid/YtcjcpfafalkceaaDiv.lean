/- The law ExactDiv: Div answers as the reference does. -/
import Derived.Test.YtcjcpfafalkceaaO
import Derived.Test.YtcjcpfafalkceaaZF
set_option linter.unusedVariables false
namespace Go.Proofs.Ytcjcpfafalkceaa
open Go.RowKit
set_option maxHeartbeats 1000000 in
set_option maxRecDepth 100000 in
theorem ExactDiv_walk (x y : Raw) (w : World) (hx : x.at_ w) (hy : y.at_ w) :
    Calls Try.prog 8 #[x.v, y.v] w fun e w' => e = .returned (.bool true) ∧ Below w.heap.size w w' := by
  have HD1 := Hd.mk (fun W (hW : Below w.heap.size w W) => Div_calls x y W (Raw.at_to hx hW) (Raw.at_to hy hW))
  have HD2 := Hd.mk (fun W (hW : Below w.heap.size w W) => rDiv_calls x y W (Raw.at_to hx hW) (Raw.at_to hy hW))
  obtain ⟨q, hq⟩ : ∃ v, v = dvq x y := ⟨_, rfl⟩
  obtain ⟨r, hr⟩ : ∃ v, v = dvr x y := ⟨_, rfl⟩
  obtain ⟨ec, hec⟩ : ∃ v, v = dve x y := ⟨_, rfl⟩
  rw [← hq, ← hr, ← hec] at HD1 HD2
  have HS1 := Hd.mk (fun W A c A' c' h h' => same_calls q q A c A' c' W h h')
  have HS2 := Hd.mk (fun W A c A' c' h h' => same_calls r r A c A' c' W h h')
  rw [decide_eq_true (rfl : q = q)] at HS1
  rw [decide_eq_true (rfl : r = r)] at HS2
  obtain ⟨bq, hbq⟩ : ∃ b, b = decide (q < 0) := ⟨_, rfl⟩
  obtain ⟨br, hbr⟩ : ∃ b, b = decide (r < 0) := ⟨_, rfl⟩
  rw [← hbq] at HS1
  rw [← hbr] at HS2
  have HBQ := Hd.mk hbq
  have HBR := Hd.mk hbr
  clear hq hr hec hx hy hbq hbr
  unfold Raw.v at HD1 HD2 ⊢
  obtain ⟨b1, A1, c1, xs⟩ := x
  obtain ⟨b2, A2, c2, ys⟩ := y
  simp only at HD1 HD2 ⊢
  obtain ⟨n1, hn1⟩ : ∃ n, n = xs.length := ⟨_, rfl⟩
  obtain ⟨n2, hn2⟩ : ∃ n, n = ys.length := ⟨_, rfl⟩
  rw [← hn1, ← hn2] at HD1 HD2 ⊢
  clear hn1 hn2
  obtain ⟨lq, hlq⟩ : ∃ n, n = ln q.natAbs := ⟨_, rfl⟩
  obtain ⟨lr, hlr⟩ : ∃ n, n = ln r.natAbs := ⟨_, rfl⟩
  rw [← hlq] at HS1
  rw [← hlr] at HS2
  have HLQ := Hd.mk hlq
  have HLR := Hd.mk hlr
  clear hlq hlr
  have hee : (ec == ec) = true := by simp
  go_enter Try.func8, Try.ntmps8
  go_wp2_with fail
  obtain ⟨W0, hW0⟩ : ∃ W : World, W = (w.alloc (.cells #[.bool b1, .slice A1 n1 c1] 24)).alloc (.cells #[.bool b2, .slice A2 n2 c2] 24) := ⟨_, rfl⟩
  rw [← hW0]
  have HSZ : Hd (w.heap.size + 1 + 1 = W0.heap.size) := ⟨by rw [hW0]; simp⟩
  obtain ⟨hB0, hB1, hBW⟩ := boxes2 hW0
  have q0 := hB0.c0
  have q1 := hB0.c1
  have q2 := hB1.c0
  have q3 := hB1.c1
  have Q0 := Hd.mk hB0
  have Q1 := Hd.mk hB1
  have HW := Hd.mk hBW
  have HB : Hd (Below W0.heap.size W0 W0) := ⟨Below.refl _ _⟩
  clear hB0 hB1 hBW hW0
  refine (HD1.out _ HW.out).mono ?_
  rintro e w1 ⟨A3, c3, A4, c4, rfl, hn3, hn4, hb1⟩
  have HB' : Hd (Below W0.heap.size W0 _) := ⟨bel_then (by repeat (first | exact HB.out | exact Below.refl _ _ | refine below_alloc ?_ _ | refine below_drewN ?_ _ | refine below_drew ?_ | refine below_set ?_ (by first | exact Nat.le_refl _ | omega | (simp; done) | (simp; omega)) _)) hb1⟩; clear HB; have HB := HB'; clear HB' hb1; replace q0 := (Q0.out.to HB.out).c0; replace q1 := (Q0.out.to HB.out).c1; replace q2 := (Q1.out.to HB.out).c0; replace q3 := (Q1.out.to HB.out).c1
  rw [← HBQ.out, ← HBR.out, ← HLQ.out, ← HLR.out]
  have hz0 : w.heap.size + 1 < w1.heap.size := by have h1 := HB.out.size; have h2 := HSZ.out; omega
  have hz1 : w.heap.size < w1.heap.size := by omega
  go_wp2_with fail
  obtain ⟨W1, hW1⟩ : ∃ W : World, W = (w1.alloc (.cells #[.bool bq, .slice A3 lq c3] 24)).alloc (.cells #[.bool br, .slice A4 lr c4] 24) := ⟨_, rfl⟩
  rw [← hW1]
  obtain ⟨hX, hY, hbw⟩ := boxes2 hW1
  have HX := Hd.mk hX
  have HY := Hd.mk hY
  have HN3 := Hd.mk (hn3.to hbw)
  have HN4 := Hd.mk (hn4.to hbw)
  have HB' : Hd (Below W0.heap.size W0 _) := ⟨bel_then (by repeat (first | exact HB.out | exact Below.refl _ _ | refine below_alloc ?_ _ | refine below_drewN ?_ _ | refine below_drew ?_ | refine below_set ?_ (by first | exact Nat.le_refl _ | omega | (simp; done) | (simp; omega)) _)) hbw⟩; clear HB; have HB := HB'; clear HB' hbw; replace q0 := (Q0.out.to HB.out).c0; replace q1 := (Q0.out.to HB.out).c1; replace q2 := (Q1.out.to HB.out).c0; replace q3 := (Q1.out.to HB.out).c1
  clear hW1 hX hY hn3 hn4
  refine (HD2.out _ (bel_then HW.out HB.out)).mono ?_
  rintro e w2 ⟨A5, c5, A6, c6, rfl, hn5, hn6, hb2⟩
  replace HX := Hd.mk (HX.out.to hb2)
  replace HY := Hd.mk (HY.out.to hb2)
  replace HN3 := Hd.mk (HN3.out.to hb2)
  replace HN4 := Hd.mk (HN4.out.to hb2)
  have HB' : Hd (Below W0.heap.size W0 _) := ⟨bel_then (by repeat (first | exact HB.out | exact Below.refl _ _ | refine below_alloc ?_ _ | refine below_drewN ?_ _ | refine below_drew ?_ | refine below_set ?_ (by first | exact Nat.le_refl _ | omega | (simp; done) | (simp; omega)) _)) hb2⟩; clear HB; have HB := HB'; clear HB' hb2; replace q0 := (Q0.out.to HB.out).c0; replace q1 := (Q0.out.to HB.out).c1; replace q2 := (Q1.out.to HB.out).c0; replace q3 := (Q1.out.to HB.out).c1
  rw [← HBQ.out, ← HBR.out, ← HLQ.out, ← HLR.out]
  have hz2 : w1.heap.size + 1 < w2.heap.size := HY.out.lt
  have hz3 : w1.heap.size < w2.heap.size := HX.out.lt
  have x0 := HX.out.c0
  have x1 := HX.out.c1
  have y0 := HY.out.c0
  have y1 := HY.out.c1
  go_wp2_with fail
  clear x0 x1 y0 y1 hz0 hz1
  obtain ⟨W2, hW2⟩ : ∃ W : World, W = (w2.alloc (.cells #[.bool bq, .slice A5 lq c5] 24)).alloc (.cells #[.bool br, .slice A6 lr c6] 24) := ⟨_, rfl⟩
  rw [← hW2]
  obtain ⟨hX, hY, hbw⟩ := boxes2 hW2
  have HU := Hd.mk hX
  have HV := Hd.mk hY
  replace HX := Hd.mk (HX.out.to hbw)
  replace HY := Hd.mk (HY.out.to hbw)
  replace HN3 := Hd.mk (HN3.out.to hbw)
  replace HN4 := Hd.mk (HN4.out.to hbw)
  have HN5 := Hd.mk (hn5.to hbw)
  have HN6 := Hd.mk (hn6.to hbw)
  have HB' : Hd (Below W0.heap.size W0 _) := ⟨bel_then (by repeat (first | exact HB.out | exact Below.refl _ _ | refine below_alloc ?_ _ | refine below_drewN ?_ _ | refine below_drew ?_ | refine below_set ?_ (by first | exact Nat.le_refl _ | omega | (simp; done) | (simp; omega)) _)) hbw⟩; clear HB; have HB := HB'; clear HB' hbw; replace q0 := (Q0.out.to HB.out).c0; replace q1 := (Q0.out.to HB.out).c1; replace q2 := (Q1.out.to HB.out).c0; replace q3 := (Q1.out.to HB.out).c1
  clear hW2 hX hY hn5 hn6
  refine (HS1.out _ _ _ _ _ HN3.out HN5.out).mono ?_
  rintro e w3 ⟨rfl, hb3⟩
  replace HX := Hd.mk (HX.out.to hb3)
  replace HY := Hd.mk (HY.out.to hb3)
  replace HU := Hd.mk (HU.out.to hb3)
  replace HV := Hd.mk (HV.out.to hb3)
  replace HN4 := Hd.mk (HN4.out.to hb3)
  replace HN6 := Hd.mk (HN6.out.to hb3)
  have HB' : Hd (Below W0.heap.size W0 _) := ⟨bel_then (by repeat (first | exact HB.out | exact Below.refl _ _ | refine below_alloc ?_ _ | refine below_drewN ?_ _ | refine below_drew ?_ | refine below_set ?_ (by first | exact Nat.le_refl _ | omega | (simp; done) | (simp; omega)) _)) hb3⟩; clear HB; have HB := HB'; clear HB' hb3; replace q0 := (Q0.out.to HB.out).c0; replace q1 := (Q0.out.to HB.out).c1; replace q2 := (Q1.out.to HB.out).c0; replace q3 := (Q1.out.to HB.out).c1
  have x0 := HX.out.c0; have x1 := HX.out.c1; have y0 := HY.out.c0; have y1 := HY.out.c1; have u0 := HU.out.c0; have u1 := HU.out.c1; have v0 := HV.out.c0; have v1 := HV.out.c1
  go_wp2_with fail
  refine (HS2.out _ _ _ _ _ HN4.out HN6.out).mono ?_
  rintro e w4 ⟨rfl, hb4⟩
  have HB' : Hd (Below W0.heap.size W0 _) := ⟨bel_then (by repeat (first | exact HB.out | exact Below.refl _ _ | refine below_alloc ?_ _ | refine below_drewN ?_ _ | refine below_drew ?_ | refine below_set ?_ (by first | exact Nat.le_refl _ | omega | (simp; done) | (simp; omega)) _)) hb4⟩; clear HB; have HB := HB'; clear HB' hb4; replace q0 := (Q0.out.to HB.out).c0; replace q1 := (Q0.out.to HB.out).c1; replace q2 := (Q1.out.to HB.out).c0; replace q3 := (Q1.out.to HB.out).c1
  clear x0 x1 y0 y1 u0 u1 v0 v1
  go_wp2_with fail
  refine (awake_calls _).mono ?_
  rintro e w5 ⟨rfl, hb5⟩
  have HB' : Hd (Below W0.heap.size W0 _) := ⟨bel_then (by repeat (first | exact HB.out | exact Below.refl _ _ | refine below_alloc ?_ _ | refine below_drewN ?_ _ | refine below_drew ?_ | refine below_set ?_ (by first | exact Nat.le_refl _ | omega | (simp; done) | (simp; omega)) _)) hb5⟩; clear HB; have HB := HB'; clear HB' hb5; replace q0 := (Q0.out.to HB.out).c0; replace q1 := (Q0.out.to HB.out).c1; replace q2 := (Q1.out.to HB.out).c0; replace q3 := (Q1.out.to HB.out).c1
  go_wp2_with fail
  go_ret
  exact ⟨rfl, bel_then HW.out HB.out⟩
end Go.Proofs.Ytcjcpfafalkceaa
