/- The law ExactPowers: Pow, Root and Bits answer as the reference does. -/
import Derived.Test.YtcjcpfafalkceaaPE
import Derived.Test.YtcjcpfafalkceaaO
set_option linter.unusedVariables false
set_option linter.unusedSimpArgs false
namespace Go.Proofs.Ytcjcpfafalkceaa
open Go.RowKit
set_option maxHeartbeats 1000000 in
set_option maxRecDepth 100000 in
theorem ExactPowers_walk (x : Raw) (n k : Int) (w : World) (hx : x.at_ w) (hn : (Lit.int .i64 n).wf = true) (hk : (Lit.int .i64 k).wf = true) :
    Calls Try.prog 7 #[x.v, .int .i64 n, .int .i64 k] w fun e w' => e = .returned (.bool true) ∧ Below w.heap.size w w' := by
  clear hn hk
  have HP1 := Hd.mk (fun W (hW : Below w.heap.size w W) => Pow_calls x n W (Raw.at_to hx hW))
  have HP2 := Hd.mk (fun W (hW : Below w.heap.size w W) => rPow_calls x n W (Raw.at_to hx hW))
  have HR1 := Hd.mk (fun W (hW : Below w.heap.size w W) => Root_calls x k W (Raw.at_to hx hW))
  have HR2 := Hd.mk (fun W (hW : Below w.heap.size w W) => rRoot_calls x k W (Raw.at_to hx hW))
  have HT1 := Hd.mk (fun W (hW : Below w.heap.size w W) => Bits_calls x W (Raw.at_to hx hW))
  have HT2 := Hd.mk (fun W (hW : Below w.heap.size w W) => rBits_calls x W (Raw.at_to hx hW))
  obtain ⟨q, hq⟩ : ∃ v, v = powz x n := ⟨_, rfl⟩
  obtain ⟨eq, heq⟩ : ∃ v, v = powe x n := ⟨_, rfl⟩
  obtain ⟨r, hr⟩ : ∃ v, v = rootz x k := ⟨_, rfl⟩
  obtain ⟨er, her⟩ : ∃ v, v = roote x k := ⟨_, rfl⟩
  obtain ⟨tv, htv⟩ : ∃ v, v = bitr x := ⟨_, rfl⟩
  obtain ⟨te, hte⟩ : ∃ v, v = bite x := ⟨_, rfl⟩
  rw [← hq, ← heq] at HP1 HP2
  rw [← hr, ← her] at HR1 HR2
  rw [← htv, ← hte] at HT1 HT2
  have HS1 := Hd.mk (fun W A c A' c' h h' => same_calls q q A c A' c' W h h')
  have HS2 := Hd.mk (fun W A c A' c' h h' => same_calls r r A c A' c' W h h')
  rw [decide_eq_true (rfl : q = q)] at HS1
  rw [decide_eq_true (rfl : r = r)] at HS2
  obtain ⟨bq, hbq⟩ : ∃ b, b = decide (q < 0) := ⟨_, rfl⟩
  obtain ⟨br, hbr⟩ : ∃ b, b = decide (r < 0) := ⟨_, rfl⟩
  obtain ⟨lq, hlq⟩ : ∃ n, n = ln q.natAbs := ⟨_, rfl⟩
  obtain ⟨lr, hlr⟩ : ∃ n, n = ln r.natAbs := ⟨_, rfl⟩
  rw [← hbq, ← hlq] at HS1
  rw [← hbr, ← hlr] at HS2
  have HBQ := Hd.mk hbq
  have HBR := Hd.mk hbr
  have HLQ := Hd.mk hlq
  have HLR := Hd.mk hlr
  clear hq hr heq her htv hte hx hbq hbr hlq hlr
  unfold Raw.v at HP1 HP2 HR1 HR2 HT1 HT2 ⊢
  obtain ⟨b1, A1, c1, xs⟩ := x
  simp only at HP1 HP2 HR1 HR2 HT1 HT2 ⊢
  obtain ⟨n1, hn1⟩ : ∃ n, n = xs.length := ⟨_, rfl⟩
  rw [← hn1] at HP1 HP2 HR1 HR2 HT1 HT2 ⊢
  clear hn1
  have h1 : (eq != eq) = false := by simp
  have h2 : (er == er) = true := by simp
  have h3 : (tv == tv) = true := by simp
  have h4 : (te == te) = true := by simp
  go_enter Try.func7, Try.ntmps7
  go_wp2_with fail
  obtain ⟨W0, hW0⟩ : ∃ W : World, W = w.alloc (.cells #[.bool b1, .slice A1 n1 c1] 24) := ⟨_, rfl⟩
  rw [← hW0]
  have HSZ : Hd (w.heap.size + 1 = W0.heap.size) := ⟨by rw [hW0]; simp⟩
  obtain ⟨hB0, hBW⟩ := boxes1 hW0
  have q0 := hB0.c0
  have q1 := hB0.c1
  have Q0 := Hd.mk hB0
  have HW := Hd.mk hBW
  have HB : Hd (Below W0.heap.size W0 W0) := ⟨Below.refl _ _⟩
  clear hB0 hBW hW0
  refine (HP1.out _ HW.out).mono ?_
  rintro e w1 ⟨A3, c3, rfl, hn3, hb1⟩
  have HB' : Hd (Below W0.heap.size W0 _) := ⟨bel_then (by repeat (first | exact HB.out | exact Below.refl _ _ | refine below_alloc ?_ _ | refine below_drewN ?_ _ | refine below_drew ?_ | refine below_set ?_ (by first | exact Nat.le_refl _ | omega | (simp; done) | (simp; omega)) _)) hb1⟩; clear HB; have HB := HB'; clear HB' hb1; replace q0 := (Q0.out.to HB.out).c0; replace q1 := (Q0.out.to HB.out).c1
  rw [← HBQ.out, ← HLQ.out]
  have hz1 : w.heap.size < w1.heap.size := by have h1 := HB.out.size; have h2 := HSZ.out; omega
  go_wp2_with fail
  obtain ⟨W1, hW1⟩ : ∃ W : World, W = w1.alloc (.cells #[.bool bq, .slice A3 lq c3] 24) := ⟨_, rfl⟩
  rw [← hW1]
  obtain ⟨hX, hbw⟩ := boxes1 hW1
  have HX := Hd.mk hX
  have HN3 := Hd.mk (NN.to hn3 hbw)
  have HG7 : Hd (W0.heap.size ≤ w1.heap.size) := ⟨HB.out.size⟩
  have HB' : Hd (Below W0.heap.size W0 _) := ⟨bel_then (by repeat (first | exact HB.out | exact Below.refl _ _ | refine below_alloc ?_ _ | refine below_drewN ?_ _ | refine below_drew ?_ | refine below_set ?_ (by first | exact Nat.le_refl _ | omega | (simp; done) | (simp; omega)) _)) hbw⟩; clear HB; have HB := HB'; clear HB' hbw; replace q0 := (Q0.out.to HB.out).c0; replace q1 := (Q0.out.to HB.out).c1
  obtain ⟨g7, hg7⟩ : ∃ g, g = w1.heap.size := ⟨_, rfl⟩
  rw [← hg7] at HX HG7 ⊢
  clear hW1 hX hn3 hz1 hg7
  refine (HP2.out _ (bel_then HW.out HB.out)).mono ?_
  rintro e w2 ⟨A5, c5, rfl, hn5, hb2⟩
  replace HX := Hd.mk (HX.out.to hb2)
  replace HN3 := Hd.mk (HN3.out.to hb2)
  have HB' : Hd (Below W0.heap.size W0 _) := ⟨bel_then (by repeat (first | exact HB.out | exact Below.refl _ _ | refine below_alloc ?_ _ | refine below_drewN ?_ _ | refine below_drew ?_ | refine below_set ?_ (by first | exact Nat.le_refl _ | omega | (simp; done) | (simp; omega)) _)) hb2⟩; clear HB; have HB := HB'; clear HB' hb2; replace q0 := (Q0.out.to HB.out).c0; replace q1 := (Q0.out.to HB.out).c1
  rw [← HBQ.out, ← HLQ.out]
  have hz2 : g7 < w2.heap.size := HX.out.lt
  have x0 := HX.out.c0; have x1 := HX.out.c1; have x2 := HX.out.f0; have x3 := HX.out.f1
  go_wp2_with fail
  obtain ⟨W2, hW2⟩ : ∃ W : World, W = w2.alloc (.cells #[.bool bq, .slice A5 lq c5] 24) := ⟨_, rfl⟩
  rw [← hW2]
  obtain ⟨hY, hbw⟩ := boxes1 hW2
  have HY := Hd.mk hY
  replace HX := Hd.mk (HX.out.to hbw)
  replace HN3 := Hd.mk (HN3.out.to hbw)
  have HN5 := Hd.mk (NN.to hn5 hbw)
  have HG9 : Hd (W0.heap.size ≤ w2.heap.size) := ⟨HB.out.size⟩
  have HB' : Hd (Below W0.heap.size W0 _) := ⟨bel_then (by repeat (first | exact HB.out | exact Below.refl _ _ | refine below_alloc ?_ _ | refine below_drewN ?_ _ | refine below_drew ?_ | refine below_set ?_ (by first | exact Nat.le_refl _ | omega | (simp; done) | (simp; omega)) _)) hbw⟩; clear HB; have HB := HB'; clear HB' hbw; replace q0 := (Q0.out.to HB.out).c0; replace q1 := (Q0.out.to HB.out).c1
  obtain ⟨g9, hg9⟩ : ∃ g, g = w2.heap.size := ⟨_, rfl⟩
  rw [← hg9] at HY HG9 hz2 ⊢
  clear hW2 hY hn5 hg9 x0 x1 x2 x3
  have HNE : Hd (g7 ≠ g9) := ⟨Nat.ne_of_lt hz2⟩
  refine (HS1.out _ _ _ _ _ HN3.out HN5.out).mono ?_
  rintro e w3 ⟨rfl, hb3⟩
  replace HX := Hd.mk (HX.out.to hb3)
  replace HY := Hd.mk (HY.out.to hb3)
  have HB' : Hd (Below W0.heap.size W0 _) := ⟨bel_then (by repeat (first | exact HB.out | exact Below.refl _ _ | refine below_alloc ?_ _ | refine below_drewN ?_ _ | refine below_drew ?_ | refine below_set ?_ (by first | exact Nat.le_refl _ | omega | (simp; done) | (simp; omega)) _)) hb3⟩; clear HB; have HB := HB'; clear HB' hb3; replace q0 := (Q0.out.to HB.out).c0; replace q1 := (Q0.out.to HB.out).c1
  clear HN3 HN5 hz2
  go_wp2_with fail
  refine (awake_calls _).mono ?_
  rintro e w4 ⟨rfl, hb4⟩
  replace HX := Hd.mk (HX.out.to hb4)
  replace HY := Hd.mk (HY.out.to hb4)
  have HB' : Hd (Below W0.heap.size W0 _) := ⟨bel_then (by repeat (first | exact HB.out | exact Below.refl _ _ | refine below_alloc ?_ _ | refine below_drewN ?_ _ | refine below_drew ?_ | refine below_set ?_ (by first | exact Nat.le_refl _ | omega | (simp; done) | (simp; omega)) _)) hb4⟩; clear HB; have HB := HB'; clear HB' hb4; replace q0 := (Q0.out.to HB.out).c0; replace q1 := (Q0.out.to HB.out).c1
  go_wp2_with fail
  refine (HR1.out _ (bel_then HW.out HB.out)).mono ?_
  rintro e w5 ⟨A6, c6, rfl, hn6, hb5⟩
  replace HX := Hd.mk (HX.out.to hb5)
  replace HY := Hd.mk (HY.out.to hb5)
  have HB' : Hd (Below W0.heap.size W0 _) := ⟨bel_then (by repeat (first | exact HB.out | exact Below.refl _ _ | refine below_alloc ?_ _ | refine below_drewN ?_ _ | refine below_drew ?_ | refine below_set ?_ (by first | exact Nat.le_refl _ | omega | (simp; done) | (simp; omega)) _)) hb5⟩; clear HB; have HB := HB'; clear HB' hb5; replace q0 := (Q0.out.to HB.out).c0; replace q1 := (Q0.out.to HB.out).c1
  rw [← HBR.out, ← HLR.out]
  have x0 := HX.out.c0; have x1 := HX.out.c1; have x2 := HX.out.f0; have x3 := HX.out.f1
  have hne1 : ¬ w.heap.size = g7 := by have h1 := HG7.out; have h2 := HSZ.out; omega
  go_wp2_with fail
  obtain ⟨W5, hW5⟩ : ∃ W : World, W = put2 w5 g7 (.bool br) (.slice A6 lr c6) := ⟨_, rfl⟩
  have HX' : Hd (Blk W5 g7 24 [.bool br, .slice A6 lr c6]) := ⟨by rw [hW5]; exact blk_put2 HX.out⟩
  have HY' : Hd (Blk W5 g9 24 _) := ⟨by rw [hW5]; exact blk_far2 HY.out (Ne.symm HNE.out)⟩
  have HN6 : Hd (NN W5 A6 c6 r.natAbs) := ⟨by rw [hW5]; exact nn_put2 hn6 HX.out⟩
  have HB' : Hd (Below W0.heap.size W0 W5) := ⟨by rw [hW5]; exact below_put HB.out HG7.out _ _⟩
  unfold put2 at hW5
  rw [← hW5]
  clear hW5 HX HY HB hn6 x0 x1 x2 x3 hne1
  have HX := HX'
  have HY := HY'
  have HB := HB'
  clear HX' HY' HB'
  replace q0 := (Q0.out.to HB.out).c0
  replace q1 := (Q0.out.to HB.out).c1
  refine (HR2.out _ (bel_then HW.out HB.out)).mono ?_
  rintro e w6 ⟨A7, c7, rfl, hn7, hb6⟩
  replace HX := Hd.mk (HX.out.to hb6)
  replace HY := Hd.mk (HY.out.to hb6)
  replace HN6 := Hd.mk (HN6.out.to hb6)
  have HB' : Hd (Below W0.heap.size W0 _) := ⟨bel_then (by repeat (first | exact HB.out | exact Below.refl _ _ | refine below_alloc ?_ _ | refine below_drewN ?_ _ | refine below_drew ?_ | refine below_set ?_ (by first | exact Nat.le_refl _ | omega | (simp; done) | (simp; omega)) _)) hb6⟩; clear HB; have HB := HB'; clear HB' hb6; replace q0 := (Q0.out.to HB.out).c0; replace q1 := (Q0.out.to HB.out).c1
  rw [← HBR.out, ← HLR.out]
  have y0 := HY.out.c0; have y1 := HY.out.c1; have y2 := HY.out.f0; have y3 := HY.out.f1
  have hne2 : ¬ w.heap.size = g9 := by have h1 := HG9.out; have h2 := HSZ.out; omega
  go_wp2_with fail
  obtain ⟨W6, hW6⟩ : ∃ W : World, W = put2 w6 g9 (.bool br) (.slice A7 lr c7) := ⟨_, rfl⟩
  have HY' : Hd (Blk W6 g9 24 [.bool br, .slice A7 lr c7]) := ⟨by rw [hW6]; exact blk_put2 HY.out⟩
  have HX' : Hd (Blk W6 g7 24 [.bool br, .slice A6 lr c6]) := ⟨by rw [hW6]; exact blk_far2 HX.out HNE.out⟩
  have HN7 : Hd (NN W6 A7 c7 r.natAbs) := ⟨by rw [hW6]; exact nn_put2 hn7 HY.out⟩
  have HN6' : Hd (NN W6 A6 c6 r.natAbs) := ⟨by rw [hW6]; exact nn_put2 HN6.out HY.out⟩
  have HB' : Hd (Below W0.heap.size W0 W6) := ⟨by rw [hW6]; exact below_put HB.out HG9.out _ _⟩
  unfold put2 at hW6
  rw [← hW6]
  clear hW6 HX HY HB HN6 hn7 y0 y1 y2 y3 hne2
  have HX := HX'
  have HY := HY'
  have HB := HB'
  have HN6 := HN6'
  clear HX' HY' HB' HN6'
  replace q0 := (Q0.out.to HB.out).c0
  replace q1 := (Q0.out.to HB.out).c1
  refine (HT1.out _ (bel_then HW.out HB.out)).mono ?_
  rintro e w7 ⟨rfl, hb7⟩
  replace HX := Hd.mk (HX.out.to hb7)
  replace HY := Hd.mk (HY.out.to hb7)
  replace HN6 := Hd.mk (HN6.out.to hb7)
  replace HN7 := Hd.mk (HN7.out.to hb7)
  have HB' : Hd (Below W0.heap.size W0 _) := ⟨bel_then (by repeat (first | exact HB.out | exact Below.refl _ _ | refine below_alloc ?_ _ | refine below_drewN ?_ _ | refine below_drew ?_ | refine below_set ?_ (by first | exact Nat.le_refl _ | omega | (simp; done) | (simp; omega)) _)) hb7⟩; clear HB; have HB := HB'; clear HB' hb7; replace q0 := (Q0.out.to HB.out).c0; replace q1 := (Q0.out.to HB.out).c1
  go_wp2_with fail
  refine (HT2.out _ (bel_then HW.out HB.out)).mono ?_
  rintro e w8 ⟨rfl, hb8⟩
  replace HX := Hd.mk (HX.out.to hb8)
  replace HY := Hd.mk (HY.out.to hb8)
  replace HN6 := Hd.mk (HN6.out.to hb8)
  replace HN7 := Hd.mk (HN7.out.to hb8)
  have HB' : Hd (Below W0.heap.size W0 _) := ⟨bel_then (by repeat (first | exact HB.out | exact Below.refl _ _ | refine below_alloc ?_ _ | refine below_drewN ?_ _ | refine below_drew ?_ | refine below_set ?_ (by first | exact Nat.le_refl _ | omega | (simp; done) | (simp; omega)) _)) hb8⟩; clear HB; have HB := HB'; clear HB' hb8; replace q0 := (Q0.out.to HB.out).c0; replace q1 := (Q0.out.to HB.out).c1
  have x0 := HX.out.c0; have x1 := HX.out.c1; have x2 := HX.out.f0; have x3 := HX.out.f1
  have y0 := HY.out.c0; have y1 := HY.out.c1; have y2 := HY.out.f0; have y3 := HY.out.f1
  go_wp2_with fail
  refine (HS2.out _ _ _ _ _ HN6.out HN7.out).mono ?_
  rintro e w9 ⟨rfl, hb9⟩
  have HB' : Hd (Below W0.heap.size W0 _) := ⟨bel_then (by repeat (first | exact HB.out | exact Below.refl _ _ | refine below_alloc ?_ _ | refine below_drewN ?_ _ | refine below_drew ?_ | refine below_set ?_ (by first | exact Nat.le_refl _ | omega | (simp; done) | (simp; omega)) _)) hb9⟩; clear HB; have HB := HB'; clear HB' hb9; replace q0 := (Q0.out.to HB.out).c0; replace q1 := (Q0.out.to HB.out).c1
  clear x0 x1 x2 x3 y0 y1 y2 y3
  go_wp2_with fail
  go_ret
  exact ⟨rfl, bel_then HW.out HB.out⟩
end Go.Proofs.Ytcjcpfafalkceaa
