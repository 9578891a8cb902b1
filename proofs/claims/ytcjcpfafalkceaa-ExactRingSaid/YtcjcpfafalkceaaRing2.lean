/- The walk of the law ExactRing. -/
import Derived.Test.YtcjcpfafalkceaaRing
set_option linter.unusedVariables false
namespace Go.Proofs.Ytcjcpfafalkceaa
open Go.RowKit
set_option maxHeartbeats 8000000 in
set_option maxRecDepth 100000 in
theorem ExactRing_walk (x y z : Raw) (w : World) (hx : x.at_ w) (hy : y.at_ w) (hz : z.at_ w) :
    Calls Try.prog 3 #[x.v, y.v, z.v] w fun e w' => e = .returned (.bool true) ∧ Below w.heap.size w w' := by
  have H1 := Hd.mk (fun W (hW : Below w.heap.size w W) => (show Calls Try.prog 13 #[x.v, y.v] W (RetZE (n1 x y) (m1 x y) W) from Add_calls x y W (Raw.at_to hx hW) (Raw.at_to hy hW)))
  have H2 := Hd.mk (fun W (hW : Below w.heap.size w W) => (by have := Add_calls y x W (Raw.at_to hy hW) (Raw.at_to hx hW); rw [(op_comm y x (Int.add_comm y.val x.val)).1, (op_comm y x (Int.add_comm y.val x.val)).2] at this; exact this : Calls Try.prog 13 #[y.v, x.v] W (RetZE (n1 x y) (m1 x y) W)))
  have H3 := Hd.mk (fun A c W (hW : Below w.heap.size w W) (hn : NN W A c (n1 x y).natAbs) => (by have := Sub_calls (rawZ (n1 x y) A c) y W (rawZ_at hn) (Raw.at_to hy hW); rw [rawZ_val, (rawZ_op _ A none c 0 y _).1, (rawZ_op _ A none c 0 y _).2] at this; exact this : Calls Try.prog 15 #[(rawZ (n1 x y) A c).v, y.v] W (RetZE (n3 x y) (m3 x y) W)))
  have H4 := Hd.mk (fun W (hW : Below w.heap.size w W) => (show Calls Try.prog 13 #[y.v, z.v] W (RetZE (n1 y z) (m1 y z) W) from Add_calls y z W (Raw.at_to hy hW) (Raw.at_to hz hW)))
  have H5 := Hd.mk (fun A c W (hW : Below w.heap.size w W) (hn : NN W A c (n1 x y).natAbs) => (by have := Add_calls (rawZ (n1 x y) A c) z W (rawZ_at hn) (Raw.at_to hz hW); rw [rawZ_val, (rawZ_op _ A none c 0 z _).1, (rawZ_op _ A none c 0 z _).2] at this; exact this : Calls Try.prog 13 #[(rawZ (n1 x y) A c).v, z.v] W (RetZE (n5 x y z) (m5 x y z) W)))
  have H6 := Hd.mk (fun A c W (h1 : m1 x y = 0) (h4 : m1 y z = 0) (h5 : m5 x y z = 0) (hW : Below w.heap.size w W) (hn : NN W A c (n1 y z).natAbs) => (by have := Add_calls x (rawZ (n1 y z) A c) W (Raw.at_to hx hW) (rawZ_at hn); rw [rawZ_val, (law6 x y z A c h1 h4 h5).1, (law6 x y z A c h1 h4 h5).2] at this; exact this : Calls Try.prog 13 #[x.v, (rawZ (n1 y z) A c).v] W (RetZE (n5 x y z) 0 W)))
  have H7 := Hd.mk (fun W (hW : Below w.heap.size w W) => (show Calls Try.prog 16 #[x.v, y.v] W (RetZE (n7 x y) (m7 x y) W) from Mul_calls x y W (Raw.at_to hx hW) (Raw.at_to hy hW)))
  have H8 := Hd.mk (fun W (hW : Below w.heap.size w W) => (by have := Mul_calls y x W (Raw.at_to hy hW) (Raw.at_to hx hW); rw [(op_comm y x (Int.mul_comm y.val x.val)).1, (op_comm y x (Int.mul_comm y.val x.val)).2] at this; exact this : Calls Try.prog 16 #[y.v, x.v] W (RetZE (n7 x y) (m7 x y) W)))
  have H9 := Hd.mk (fun W (hW : Below w.heap.size w W) => (show Calls Try.prog 16 #[y.v, z.v] W (RetZE (n7 y z) (m7 y z) W) from Mul_calls y z W (Raw.at_to hy hW) (Raw.at_to hz hW)))
  have H10 := Hd.mk (fun A c W (hW : Below w.heap.size w W) (hn : NN W A c (n7 x y).natAbs) => (by have := Mul_calls (rawZ (n7 x y) A c) z W (rawZ_at hn) (Raw.at_to hz hW); rw [rawZ_val, (rawZ_op _ A none c 0 z _).1, (rawZ_op _ A none c 0 z _).2] at this; exact this : Calls Try.prog 16 #[(rawZ (n7 x y) A c).v, z.v] W (RetZE (n10 x y z) (m10 x y z) W)))
  have H11 := Hd.mk (fun A c W (h1 : m7 x y = 0) (h4 : m7 y z = 0) (h5 : m10 x y z = 0) (hW : Below w.heap.size w W) (hn : NN W A c (n7 y z).natAbs) => (by have := Mul_calls x (rawZ (n7 y z) A c) W (Raw.at_to hx hW) (rawZ_at hn); rw [rawZ_val, (law11 x y z A c h1 h4 h5).1, (law11 x y z A c h1 h4 h5).2] at this; exact this : Calls Try.prog 16 #[x.v, (rawZ (n7 y z) A c).v] W (RetZE (n10 x y z) 0 W)))
  have H12 := Hd.mk (fun W (hW : Below w.heap.size w W) => (show Calls Try.prog 16 #[x.v, z.v] W (RetZE (n7 x z) (m7 x z) W) from Mul_calls x z W (Raw.at_to hx hW) (Raw.at_to hz hW)))
  have H13 := Hd.mk (fun A c W (hW : Below w.heap.size w W) (hn : NN W A c (n1 y z).natAbs) => (by have := Mul_calls x (rawZ (n1 y z) A c) W (Raw.at_to hx hW) (rawZ_at hn); rw [rawZ_val, (rawZ_op2 _ A none c 0 x _).1, (rawZ_op2 _ A none c 0 x _).2] at this; exact this : Calls Try.prog 16 #[x.v, (rawZ (n1 y z) A c).v] W (RetZE (n13 x y z) (m13 x y z) W)))
  have H14 := Hd.mk (fun A c A' c' W (h1 : m7 x y = 0) (h4 : m1 y z = 0) (h12 : m7 x z = 0) (h13 : m13 x y z = 0) (hn : NN W A c (n7 x y).natAbs) (hn' : NN W A' c' (n7 x z).natAbs) => (by have := Add_calls (rawZ (n7 x y) A c) (rawZ (n7 x z) A' c') W (rawZ_at hn) (rawZ_at hn'); rw [rawZ_val, rawZ_val, (law14 x y z A A' c c' h1 h4 h12 h13).1, (law14 x y z A A' c c' h1 h4 h12 h13).2] at this; exact this : Calls Try.prog 13 #[(rawZ (n7 x y) A c).v, (rawZ (n7 x z) A' c').v] W (RetZE (n13 x y z) 0 W)))
  have HS3 := Hd.mk (fun A c W (h1 : m1 x y = 0) (h3 : m3 x y = 0) (hW : Below w.heap.size w W) (hn : NN W A c (n3 x y).natAbs) => (by have hk := law3 x y h1 h3; have := same_calls (n3 x y) x.val A c x.A x.c W hn ((Raw.nn hk.1 hx).to hW); rw [decide_eq_true hk.2, ← (Raw.num hk.1 hx.2.1).1] at this; exact this : Calls Try.prog 14 #[.agg #[.bool (decide (n3 x y < 0)), .slice A (ln (n3 x y).natAbs) c], x.v] W (fun e w' => e = .returned (.bool true) ∧ Below W.heap.size W w')))
  clear hx hy hz
  simp only [rawZ_v] at H3 H5 H6 H10 H11 H13 H14
  unfold Raw.v at H1 H2 H3 H4 H5 H6 H7 H8 H9 H10 H11 H12 H13 HS3 ⊢
  obtain ⟨d1, hd1⟩ : ∃ b, b = decide (n1 x y < 0) := ⟨_, rfl⟩
  obtain ⟨d3, hd3⟩ : ∃ b, b = decide (n3 x y < 0) := ⟨_, rfl⟩
  obtain ⟨d4, hd4⟩ : ∃ b, b = decide (n1 y z < 0) := ⟨_, rfl⟩
  obtain ⟨d5, hd5⟩ : ∃ b, b = decide (n5 x y z < 0) := ⟨_, rfl⟩
  obtain ⟨d7, hd7⟩ : ∃ b, b = decide (n7 x y < 0) := ⟨_, rfl⟩
  obtain ⟨d9, hd9⟩ : ∃ b, b = decide (n7 y z < 0) := ⟨_, rfl⟩
  obtain ⟨d10, hd10⟩ : ∃ b, b = decide (n10 x y z < 0) := ⟨_, rfl⟩
  obtain ⟨d12, hd12⟩ : ∃ b, b = decide (n7 x z < 0) := ⟨_, rfl⟩
  obtain ⟨d13, hd13⟩ : ∃ b, b = decide (n13 x y z < 0) := ⟨_, rfl⟩
  rw [← hd1] at H3 H5
  rw [← hd4] at H6 H13
  rw [← hd7] at H10
  rw [← hd9] at H11
  rw [← hd7, ← hd12] at H14
  rw [← hd3] at HS3
  have D1 := Hd.mk hd1
  have D3 := Hd.mk hd3
  have D4 := Hd.mk hd4
  have D5 := Hd.mk hd5
  have D7 := Hd.mk hd7
  have D9 := Hd.mk hd9
  have D10 := Hd.mk hd10
  have D12 := Hd.mk hd12
  have D13 := Hd.mk hd13
  clear hd1 hd3 hd4 hd5 hd7 hd9 hd10 hd12 hd13
  have hm1 : (m1 x y != m1 x y) = false := by simp
  have hm7 : (m7 x y != m7 x y) = false := by simp
  have K5 : ∃ k5 : Bool, k5 = (decide (m1 x y = 0) && decide (m1 y z = 0) && decide (m5 x y z = 0)) := ⟨_, rfl⟩
  obtain ⟨k5, K5⟩ := K5
  replace K5 := Hd.mk K5
  have K10 : ∃ k10 : Bool, k10 = (decide (m7 x y = 0) && decide (m7 y z = 0) && decide (m10 x y z = 0)) := ⟨_, rfl⟩
  obtain ⟨k10, K10⟩ := K10
  replace K10 := Hd.mk K10
  have K13 : ∃ k13 : Bool, k13 = (decide (m7 x y = 0) && decide (m1 y z = 0) && decide (m7 x z = 0) && decide (m13 x y z = 0)) := ⟨_, rfl⟩
  obtain ⟨k13, K13⟩ := K13
  replace K13 := Hd.mk K13
  go_enter Try.func3, Try.ntmps3
  go_wp2_with fail
  obtain ⟨W0, hW0⟩ : ∃ W : World, W = ((w.alloc (.cells #[.bool x.neg, .slice x.A x.xs.length x.c] 24)).alloc (.cells #[.bool y.neg, .slice y.A y.xs.length y.c] 24)).alloc (.cells #[.bool z.neg, .slice z.A z.xs.length z.c] 24) := ⟨_, rfl⟩
  rw [← hW0]
  have HSZ : Hd (w.heap.size + 1 + 1 + 1 = W0.heap.size) := ⟨by rw [hW0]; simp⟩
  obtain ⟨hB0, hB1, hB2, hBW⟩ := boxes3 hW0
  have q0 := hB0.c0
  have q1 := hB0.c1
  have q2 := hB1.c0
  have q3 := hB1.c1
  have q4 := hB2.c0
  have q5 := hB2.c1
  have Q0 := Hd.mk hB0
  have Q1 := Hd.mk hB1
  have Q2 := Hd.mk hB2
  have HW := Hd.mk hBW
  have HB : Hd (Below W0.heap.size W0 W0) := ⟨Below.refl _ _⟩
  clear hB0 hB1 hB2 hBW hW0
  refine (H1.out _ (bel_then HW.out HB.out)).mono ?_
  rintro e w1 ⟨A1, c1, rfl, hn, hb⟩
  rw [← D1.out]
  have HN1 := Hd.mk hn
  clear hn
  skip
  have HB' : Hd (Below W0.heap.size W0 _) := ⟨bel_then (by repeat (first | exact HB.out | exact Below.refl _ _ | refine below_alloc ?_ _ | refine below_drewN ?_ _ | refine below_drew ?_ | refine below_set ?_ (by first | exact Nat.le_refl _ | omega | (simp; done) | (simp; omega)) _)) hb⟩; clear HB; have HB := HB'; clear HB'; replace q0 := (Q0.out.to HB.out).c0; replace q1 := (Q0.out.to HB.out).c1; replace q2 := (Q1.out.to HB.out).c0; replace q3 := (Q1.out.to HB.out).c1; replace q4 := (Q2.out.to HB.out).c0; replace q5 := (Q2.out.to HB.out).c1
  clear hb
  go_upto_region 2 with fail
  obtain ⟨W1, hW⟩ : ∃ W : World, W = w1.alloc (.cells #[.bool d1, .slice A1 (ln (n1 x y).natAbs) c1] 24) := ⟨_, rfl⟩
  rw [← hW]
  have HL1 : Hd (Blk W1 w1.heap.size 24 [.bool d1, .slice A1 (ln (n1 x y).natAbs) c1]) := ⟨by rw [hW]; exact heap_alloc_new _ _⟩
  have hb : Below w1.heap.size w1 W1 := by rw [hW]; exact below_alloc (Below.refl _ _) _
  have HN' := Hd.mk (HN1.out.to hb)
  clear HN1
  have HN1 := HN'
  clear HN' hW
  skip
  have HB' : Hd (Below W0.heap.size W0 _) := ⟨bel_then (by repeat (first | exact HB.out | exact Below.refl _ _ | refine below_alloc ?_ _ | refine below_drewN ?_ _ | refine below_drew ?_ | refine below_set ?_ (by first | exact Nat.le_refl _ | omega | (simp; done) | (simp; omega)) _)) hb⟩; clear HB; have HB := HB'; clear HB'; replace q0 := (Q0.out.to HB.out).c0; replace q1 := (Q0.out.to HB.out).c1; replace q2 := (Q1.out.to HB.out).c0; replace q3 := (Q1.out.to HB.out).c1; replace q4 := (Q2.out.to HB.out).c0; replace q5 := (Q2.out.to HB.out).c1
  clear hb
  go_wp2_with fail
  refine (H2.out _ (bel_then HW.out HB.out)).mono ?_
  rintro e w2 ⟨A2, c2, rfl, hn, hb⟩
  rw [← D1.out]
  have HN2 := Hd.mk hn
  clear hn
  have HN' := Hd.mk (HN1.out.to hb); clear HN1; have HN1 := HN'; clear HN'; have HL' := Hd.mk (HL1.out.to hb); clear HL1; have HL1 := HL'; clear HL'
  have HB' : Hd (Below W0.heap.size W0 _) := ⟨bel_then (by repeat (first | exact HB.out | exact Below.refl _ _ | refine below_alloc ?_ _ | refine below_drewN ?_ _ | refine below_drew ?_ | refine below_set ?_ (by first | exact Nat.le_refl _ | omega | (simp; done) | (simp; omega)) _)) hb⟩; clear HB; have HB := HB'; clear HB'; replace q0 := (Q0.out.to HB.out).c0; replace q1 := (Q0.out.to HB.out).c1; replace q2 := (Q1.out.to HB.out).c0; replace q3 := (Q1.out.to HB.out).c1; replace q4 := (Q2.out.to HB.out).c0; replace q5 := (Q2.out.to HB.out).c1
  clear hb
  go_upto_region 3 with fail
  obtain ⟨W2, hW⟩ : ∃ W : World, W = w2.alloc (.cells #[.bool d1, .slice A2 (ln (n1 x y).natAbs) c2] 24) := ⟨_, rfl⟩
  rw [← hW]
  have HL2 : Hd (Blk W2 w2.heap.size 24 [.bool d1, .slice A2 (ln (n1 x y).natAbs) c2]) := ⟨by rw [hW]; exact heap_alloc_new _ _⟩
  have hb : Below w2.heap.size w2 W2 := by rw [hW]; exact below_alloc (Below.refl _ _) _
  have HN' := Hd.mk (HN2.out.to hb)
  clear HN2
  have HN2 := HN'
  clear HN' hW
  have HN' := Hd.mk (HN1.out.to hb); clear HN1; have HN1 := HN'; clear HN'; have HL' := Hd.mk (HL1.out.to hb); clear HL1; have HL1 := HL'; clear HL'
  have HB' : Hd (Below W0.heap.size W0 _) := ⟨bel_then (by repeat (first | exact HB.out | exact Below.refl _ _ | refine below_alloc ?_ _ | refine below_drewN ?_ _ | refine below_drew ?_ | refine below_set ?_ (by first | exact Nat.le_refl _ | omega | (simp; done) | (simp; omega)) _)) hb⟩; clear HB; have HB := HB'; clear HB'; replace q0 := (Q0.out.to HB.out).c0; replace q1 := (Q0.out.to HB.out).c1; replace q2 := (Q1.out.to HB.out).c0; replace q3 := (Q1.out.to HB.out).c1; replace q4 := (Q2.out.to HB.out).c0; replace q5 := (Q2.out.to HB.out).c1
  clear hb
  have l10 := HL1.out.c0; have l11 := HL1.out.c1
  have l20 := HL2.out.c0; have l21 := HL2.out.c1
  go_wp2_with fail
  have hs := same_calls (n1 x y) (n1 x y) A1 c1 A2 c2 _ HN1.out HN2.out
  rw [← D1.out, decide_eq_true (rfl : n1 x y = n1 x y)] at hs
  refine hs.mono ?_
  clear hs
  rintro e ws ⟨rfl, hb⟩
  clear l10 l11
  clear l20 l21
  have HN' := Hd.mk (HN1.out.to hb); clear HN1; have HN1 := HN'; clear HN'; have HL' := Hd.mk (HL1.out.to hb); clear HL1; have HL1 := HL'; clear HL'
  have HB' : Hd (Below W0.heap.size W0 _) := ⟨bel_then (by repeat (first | exact HB.out | exact Below.refl _ _ | refine below_alloc ?_ _ | refine below_drewN ?_ _ | refine below_drew ?_ | refine below_set ?_ (by first | exact Nat.le_refl _ | omega | (simp; done) | (simp; omega)) _)) hb⟩; clear HB; have HB := HB'; clear HB'; replace q0 := (Q0.out.to HB.out).c0; replace q1 := (Q0.out.to HB.out).c1; replace q2 := (Q1.out.to HB.out).c0; replace q3 := (Q1.out.to HB.out).c1; replace q4 := (Q2.out.to HB.out).c0; replace q5 := (Q2.out.to HB.out).c1
  clear hb HN2 HL2
  go_upto_region 5 with fail
  have l10 := HL1.out.c0; have l11 := HL1.out.c1
  go_wp2_with fail
  clear l10 l11
  refine (H3.out A1 c1 _ (bel_then HW.out HB.out) HN1.out).mono ?_
  rintro e w3 ⟨A3, c3, rfl, hn, hb⟩
  rw [← D3.out]
  have HN3 := Hd.mk hn
  clear hn
  have HN' := Hd.mk (HN1.out.to hb); clear HN1; have HN1 := HN'; clear HN'; have HL' := Hd.mk (HL1.out.to hb); clear HL1; have HL1 := HL'; clear HL'
  have HB' : Hd (Below W0.heap.size W0 _) := ⟨bel_then (by repeat (first | exact HB.out | exact Below.refl _ _ | refine below_alloc ?_ _ | refine below_drewN ?_ _ | refine below_drew ?_ | refine below_set ?_ (by first | exact Nat.le_refl _ | omega | (simp; done) | (simp; omega)) _)) hb⟩; clear HB; have HB := HB'; clear HB'; replace q0 := (Q0.out.to HB.out).c0; replace q1 := (Q0.out.to HB.out).c1; replace q2 := (Q1.out.to HB.out).c0; replace q3 := (Q1.out.to HB.out).c1; replace q4 := (Q2.out.to HB.out).c0; replace q5 := (Q2.out.to HB.out).c1
  clear hb
  go_upto_region 6 with fail
  obtain ⟨W3, hW⟩ : ∃ W : World, W = w3.alloc (.cells #[.bool d3, .slice A3 (ln (n3 x y).natAbs) c3] 24) := ⟨_, rfl⟩
  rw [← hW]
  have HL3 : Hd (Blk W3 w3.heap.size 24 [.bool d3, .slice A3 (ln (n3 x y).natAbs) c3]) := ⟨by rw [hW]; exact heap_alloc_new _ _⟩
  have hb : Below w3.heap.size w3 W3 := by rw [hW]; exact below_alloc (Below.refl _ _) _
  have HN' := Hd.mk (HN3.out.to hb)
  clear HN3
  have HN3 := HN'
  clear HN' hW
  have HN' := Hd.mk (HN1.out.to hb); clear HN1; have HN1 := HN'; clear HN'; have HL' := Hd.mk (HL1.out.to hb); clear HL1; have HL1 := HL'; clear HL'
  have HB' : Hd (Below W0.heap.size W0 _) := ⟨bel_then (by repeat (first | exact HB.out | exact Below.refl _ _ | refine below_alloc ?_ _ | refine below_drewN ?_ _ | refine below_drew ?_ | refine below_set ?_ (by first | exact Nat.le_refl _ | omega | (simp; done) | (simp; omega)) _)) hb⟩; clear HB; have HB := HB'; clear HB'; replace q0 := (Q0.out.to HB.out).c0; replace q1 := (Q0.out.to HB.out).c1; replace q2 := (Q1.out.to HB.out).c0; replace q3 := (Q1.out.to HB.out).c1; replace q4 := (Q2.out.to HB.out).c0; replace q5 := (Q2.out.to HB.out).c1
  clear hb
  have l30 := HL3.out.c0; have l31 := HL3.out.c1
  go_cut [67] (fun s wx => s = .bool false ∧ Below W3.heap.size W3 wx)
  case first => as_aux_lemma =>
    by_cases h1 : m1 x y = 0
    · have b1 : (m1 x y == 0) = true := by simp [h1]
      by_cases h3 : m3 x y = 0
      · have b3 : (m3 x y == 0) = true := by simp [h3]
        have H1' := Hd.mk h1
        have H3' := Hd.mk h3
        clear h1 h3
        go_wp2_with fail
        refine (HS3.out A3 c3 _ H1'.out H3'.out (bel_then HW.out HB.out) HN3.out).mono ?_
        rintro e ws ⟨rfl, hb⟩
        go_wp2_with fail
        go_meet
        exact ⟨rfl, hb⟩
      · have b3 : (m3 x y == 0) = false := by simp [h3]
        clear h1 h3
        go_wp2_with fail
        go_meet
        exact ⟨rfl, Below.refl _ _⟩
    · have b1 : (m1 x y == 0) = false := by simp [h1]
      clear h1
      go_wp2_with fail
      go_meet
      exact ⟨rfl, Below.refl _ _⟩
  case rest => as_aux_lemma =>
    obtain ⟨rfl, hb⟩ := hcut
    clear l30 l31
    have HN' := Hd.mk (HN1.out.to hb); clear HN1; have HN1 := HN'; clear HN'; have HL' := Hd.mk (HL1.out.to hb); clear HL1; have HL1 := HL'; clear HL'
    have HB' : Hd (Below W0.heap.size W0 _) := ⟨bel_then (by repeat (first | exact HB.out | exact Below.refl _ _ | refine below_alloc ?_ _ | refine below_drewN ?_ _ | refine below_drew ?_ | refine below_set ?_ (by first | exact Nat.le_refl _ | omega | (simp; done) | (simp; omega)) _)) hb⟩; clear HB; have HB := HB'; clear HB'; replace q0 := (Q0.out.to HB.out).c0; replace q1 := (Q0.out.to HB.out).c1; replace q2 := (Q1.out.to HB.out).c0; replace q3 := (Q1.out.to HB.out).c1; replace q4 := (Q2.out.to HB.out).c0; replace q5 := (Q2.out.to HB.out).c1
    clear hb HN3 HL3
    go_upto_region 8 with fail
    go_wp2_with fail
    refine (H4.out _ (bel_then HW.out HB.out)).mono ?_
    rintro e w4 ⟨A4, c4, rfl, hn, hb⟩
    rw [← D4.out]
    have HN4 := Hd.mk hn
    clear hn
    have HN' := Hd.mk (HN1.out.to hb); clear HN1; have HN1 := HN'; clear HN'; have HL' := Hd.mk (HL1.out.to hb); clear HL1; have HL1 := HL'; clear HL'
    have HB' : Hd (Below W0.heap.size W0 _) := ⟨bel_then (by repeat (first | exact HB.out | exact Below.refl _ _ | refine below_alloc ?_ _ | refine below_drewN ?_ _ | refine below_drew ?_ | refine below_set ?_ (by first | exact Nat.le_refl _ | omega | (simp; done) | (simp; omega)) _)) hb⟩; clear HB; have HB := HB'; clear HB'; replace q0 := (Q0.out.to HB.out).c0; replace q1 := (Q0.out.to HB.out).c1; replace q2 := (Q1.out.to HB.out).c0; replace q3 := (Q1.out.to HB.out).c1; replace q4 := (Q2.out.to HB.out).c0; replace q5 := (Q2.out.to HB.out).c1
    clear hb
    go_upto_region 9 with fail
    obtain ⟨W4, hW⟩ : ∃ W : World, W = w4.alloc (.cells #[.bool d4, .slice A4 (ln (n1 y z).natAbs) c4] 24) := ⟨_, rfl⟩
    rw [← hW]
    have HL4 : Hd (Blk W4 w4.heap.size 24 [.bool d4, .slice A4 (ln (n1 y z).natAbs) c4]) := ⟨by rw [hW]; exact heap_alloc_new _ _⟩
    have hb : Below w4.heap.size w4 W4 := by rw [hW]; exact below_alloc (Below.refl _ _) _
    have HN' := Hd.mk (HN4.out.to hb)
    clear HN4
    have HN4 := HN'
    clear HN' hW
    have HN' := Hd.mk (HN1.out.to hb); clear HN1; have HN1 := HN'; clear HN'; have HL' := Hd.mk (HL1.out.to hb); clear HL1; have HL1 := HL'; clear HL'
    have HB' : Hd (Below W0.heap.size W0 _) := ⟨bel_then (by repeat (first | exact HB.out | exact Below.refl _ _ | refine below_alloc ?_ _ | refine below_drewN ?_ _ | refine below_drew ?_ | refine below_set ?_ (by first | exact Nat.le_refl _ | omega | (simp; done) | (simp; omega)) _)) hb⟩; clear HB; have HB := HB'; clear HB'; replace q0 := (Q0.out.to HB.out).c0; replace q1 := (Q0.out.to HB.out).c1; replace q2 := (Q1.out.to HB.out).c0; replace q3 := (Q1.out.to HB.out).c1; replace q4 := (Q2.out.to HB.out).c0; replace q5 := (Q2.out.to HB.out).c1
    clear hb
    have l10 := HL1.out.c0; have l11 := HL1.out.c1
    go_wp2_with fail
    clear l10 l11
    refine (H5.out A1 c1 _ (bel_then HW.out HB.out) HN1.out).mono ?_
    rintro e w5 ⟨A5, c5, rfl, hn, hb⟩
    rw [← D5.out]
    have HN5 := Hd.mk hn
    clear hn
    have HN' := Hd.mk (HN4.out.to hb); clear HN4; have HN4 := HN'; clear HN'; have HL' := Hd.mk (HL4.out.to hb); clear HL4; have HL4 := HL'; clear HL'
    have HB' : Hd (Below W0.heap.size W0 _) := ⟨bel_then (by repeat (first | exact HB.out | exact Below.refl _ _ | refine below_alloc ?_ _ | refine below_drewN ?_ _ | refine below_drew ?_ | refine below_set ?_ (by first | exact Nat.le_refl _ | omega | (simp; done) | (simp; omega)) _)) hb⟩; clear HB; have HB := HB'; clear HB'; replace q0 := (Q0.out.to HB.out).c0; replace q1 := (Q0.out.to HB.out).c1; replace q2 := (Q1.out.to HB.out).c0; replace q3 := (Q1.out.to HB.out).c1; replace q4 := (Q2.out.to HB.out).c0; replace q5 := (Q2.out.to HB.out).c1
    clear hb
    go_upto_region 10 with fail
    obtain ⟨W5, hW⟩ : ∃ W : World, W = w5.alloc (.cells #[.bool d5, .slice A5 (ln (n5 x y z).natAbs) c5] 24) := ⟨_, rfl⟩
    rw [← hW]
    have HL5 : Hd (Blk W5 w5.heap.size 24 [.bool d5, .slice A5 (ln (n5 x y z).natAbs) c5]) := ⟨by rw [hW]; exact heap_alloc_new _ _⟩
    have hb : Below w5.heap.size w5 W5 := by rw [hW]; exact below_alloc (Below.refl _ _) _
    have HN' := Hd.mk (HN5.out.to hb)
    clear HN5
    have HN5 := HN'
    clear HN' hW
    have HN' := Hd.mk (HN4.out.to hb); clear HN4; have HN4 := HN'; clear HN'; have HL' := Hd.mk (HL4.out.to hb); clear HL4; have HL4 := HL'; clear HL'
    have HB' : Hd (Below W0.heap.size W0 _) := ⟨bel_then (by repeat (first | exact HB.out | exact Below.refl _ _ | refine below_alloc ?_ _ | refine below_drewN ?_ _ | refine below_drew ?_ | refine below_set ?_ (by first | exact Nat.le_refl _ | omega | (simp; done) | (simp; omega)) _)) hb⟩; clear HB; have HB := HB'; clear HB'; replace q0 := (Q0.out.to HB.out).c0; replace q1 := (Q0.out.to HB.out).c1; replace q2 := (Q1.out.to HB.out).c0; replace q3 := (Q1.out.to HB.out).c1; replace q4 := (Q2.out.to HB.out).c0; replace q5 := (Q2.out.to HB.out).c1
    clear hb
    clear HN1 HL1
    go_cut [89] (fun s wx => s = .bool k5 ∧ W5 = wx)
    case first => as_aux_lemma =>
      by_cases h1 : m1 x y = 0
      · have b1 : (m1 x y == 0) = true := by simp [h1]
        by_cases h2 : m1 y z = 0
        · have b2 : (m1 y z == 0) = true := by simp [h2]
          by_cases h3 : m5 x y z = 0
          · have b3 : (m5 x y z == 0) = true := by simp [h3]
            have hk := Hd.mk (K5.out.trans (by simp [h1, h2, h3] : _ = true))
            clear h1 h2 h3
            go_wp2_with fail
            go_meet
            exact ⟨by rw [hk.out], rfl⟩
          · have b3 : (m5 x y z == 0) = false := by simp [h3]
            have hk := Hd.mk (K5.out.trans (by simp [h3] : _ = false))
            clear h1 h2 h3
            go_wp2_with fail
            go_meet
            exact ⟨by rw [hk.out], rfl⟩
        · have b2 : (m1 y z == 0) = false := by simp [h2]
          have hk := Hd.mk (K5.out.trans (by simp [h2] : _ = false))
          clear h1 h2
          go_wp2_with fail
          go_meet
          exact ⟨by rw [hk.out], rfl⟩
      · have b1 : (m1 x y == 0) = false := by simp [h1]
        have hk := Hd.mk (K5.out.trans (by simp [h1] : _ = false))
        clear h1
        go_wp2_with fail
        go_meet
        exact ⟨by rw [hk.out], rfl⟩
    case rest => as_aux_lemma =>
      obtain ⟨rfl, rfl⟩ := hcut
      go_upto_if 89 with fail
      go_cut [] (fun wx => Below W5.heap.size W5 wx)
      case first => as_aux_lemma =>
        rcases k5 with _ | _
        · go_wp2_with fail
          go_meet
          exact Below.refl _ _
        · have HK : Hd ((m1 x y = 0 ∧ m1 y z = 0) ∧ m5 x y z = 0) := ⟨by simpa using K5.out.symm⟩
          have HC : Hd (Below W5.heap.size W5 W5) := ⟨Below.refl _ _⟩
          have l40 := HL4.out.c0; have l41 := HL4.out.c1
          go_wp2_with fail
          clear l40 l41
          refine (H6.out A4 c4 _ HK.out.1.1 HK.out.1.2 HK.out.2 (bel_then HW.out HB.out) HN4.out).mono ?_
          rintro e w6 ⟨A6, c6, rfl, hn, hb⟩
          rw [← D5.out]
          have HN6 := Hd.mk hn
          clear hn
          have HN' := Hd.mk (HN5.out.to hb); clear HN5; have HN5 := HN'; clear HN'; have HL' := Hd.mk (HL5.out.to hb); clear HL5; have HL5 := HL'; clear HL'; have HC' : Hd (Below W5.heap.size W5 _) := ⟨bel_then HC.out hb⟩; clear HC; have HC := HC'; clear HC'
          have HB' : Hd (Below W0.heap.size W0 _) := ⟨bel_then (by repeat (first | exact HB.out | exact Below.refl _ _ | refine below_alloc ?_ _ | refine below_drewN ?_ _ | refine below_drew ?_ | refine below_set ?_ (by first | exact Nat.le_refl _ | omega | (simp; done) | (simp; omega)) _)) hb⟩; clear HB; have HB := HB'; clear HB'; replace q0 := (Q0.out.to HB.out).c0; replace q1 := (Q0.out.to HB.out).c1; replace q2 := (Q1.out.to HB.out).c0; replace q3 := (Q1.out.to HB.out).c1; replace q4 := (Q2.out.to HB.out).c0; replace q5 := (Q2.out.to HB.out).c1
          clear hb
          go_upto_region 12 with fail
          obtain ⟨W6, hW⟩ : ∃ W : World, W = w6.alloc (.cells #[.bool d5, .slice A6 (ln (n5 x y z).natAbs) c6] 24) := ⟨_, rfl⟩
          rw [← hW]
          have HL6 : Hd (Blk W6 w6.heap.size 24 [.bool d5, .slice A6 (ln (n5 x y z).natAbs) c6]) := ⟨by rw [hW]; exact heap_alloc_new _ _⟩
          have hb : Below w6.heap.size w6 W6 := by rw [hW]; exact below_alloc (Below.refl _ _) _
          have HN' := Hd.mk (HN6.out.to hb)
          clear HN6
          have HN6 := HN'
          clear HN' hW
          have HN' := Hd.mk (HN5.out.to hb); clear HN5; have HN5 := HN'; clear HN'; have HL' := Hd.mk (HL5.out.to hb); clear HL5; have HL5 := HL'; clear HL'; have HC' : Hd (Below W5.heap.size W5 _) := ⟨bel_then HC.out hb⟩; clear HC; have HC := HC'; clear HC'
          have HB' : Hd (Below W0.heap.size W0 _) := ⟨bel_then (by repeat (first | exact HB.out | exact Below.refl _ _ | refine below_alloc ?_ _ | refine below_drewN ?_ _ | refine below_drew ?_ | refine below_set ?_ (by first | exact Nat.le_refl _ | omega | (simp; done) | (simp; omega)) _)) hb⟩; clear HB; have HB := HB'; clear HB'; replace q0 := (Q0.out.to HB.out).c0; replace q1 := (Q0.out.to HB.out).c1; replace q2 := (Q1.out.to HB.out).c0; replace q3 := (Q1.out.to HB.out).c1; replace q4 := (Q2.out.to HB.out).c0; replace q5 := (Q2.out.to HB.out).c1
          clear hb
          have l50 := HL5.out.c0; have l51 := HL5.out.c1
          have l60 := HL6.out.c0; have l61 := HL6.out.c1
          go_wp2_with fail
          have hs := same_calls (n5 x y z) (n5 x y z) A5 c5 A6 c6 _ HN5.out HN6.out
          rw [← D5.out, decide_eq_true (rfl : n5 x y z = n5 x y z)] at hs
          refine hs.mono ?_
          clear hs
          rintro e ws ⟨rfl, hb⟩
          go_wp2_with fail
          go_meet
          exact bel_then HC.out hb
      case rest => as_aux_lemma =>
        have hb := hcut
        have HN' := Hd.mk (HN4.out.to hb); clear HN4; have HN4 := HN'; clear HN'; have HL' := Hd.mk (HL4.out.to hb); clear HL4; have HL4 := HL'; clear HL'
        have HB' : Hd (Below W0.heap.size W0 _) := ⟨bel_then (by repeat (first | exact HB.out | exact Below.refl _ _ | refine below_alloc ?_ _ | refine below_drewN ?_ _ | refine below_drew ?_ | refine below_set ?_ (by first | exact Nat.le_refl _ | omega | (simp; done) | (simp; omega)) _)) hb⟩; clear HB; have HB := HB'; clear HB'; replace q0 := (Q0.out.to HB.out).c0; replace q1 := (Q0.out.to HB.out).c1; replace q2 := (Q1.out.to HB.out).c0; replace q3 := (Q1.out.to HB.out).c1; replace q4 := (Q2.out.to HB.out).c0; replace q5 := (Q2.out.to HB.out).c1
        clear hb hcut HN5 HL5
        go_upto_region 14 with fail
        go_wp2_with fail
        refine (H7.out _ (bel_then HW.out HB.out)).mono ?_
        rintro e w7 ⟨A7, c7, rfl, hn, hb⟩
        rw [← D7.out]
        have HN7 := Hd.mk hn
        clear hn
        have HN' := Hd.mk (HN4.out.to hb); clear HN4; have HN4 := HN'; clear HN'; have HL' := Hd.mk (HL4.out.to hb); clear HL4; have HL4 := HL'; clear HL'
        have HB' : Hd (Below W0.heap.size W0 _) := ⟨bel_then (by repeat (first | exact HB.out | exact Below.refl _ _ | refine below_alloc ?_ _ | refine below_drewN ?_ _ | refine below_drew ?_ | refine below_set ?_ (by first | exact Nat.le_refl _ | omega | (simp; done) | (simp; omega)) _)) hb⟩; clear HB; have HB := HB'; clear HB'; replace q0 := (Q0.out.to HB.out).c0; replace q1 := (Q0.out.to HB.out).c1; replace q2 := (Q1.out.to HB.out).c0; replace q3 := (Q1.out.to HB.out).c1; replace q4 := (Q2.out.to HB.out).c0; replace q5 := (Q2.out.to HB.out).c1
        clear hb
        go_upto_region 15 with fail
        obtain ⟨W7, hW⟩ : ∃ W : World, W = w7.alloc (.cells #[.bool d7, .slice A7 (ln (n7 x y).natAbs) c7] 24) := ⟨_, rfl⟩
        rw [← hW]
        have HL7 : Hd (Blk W7 w7.heap.size 24 [.bool d7, .slice A7 (ln (n7 x y).natAbs) c7]) := ⟨by rw [hW]; exact heap_alloc_new _ _⟩
        have hb : Below w7.heap.size w7 W7 := by rw [hW]; exact below_alloc (Below.refl _ _) _
        have HN' := Hd.mk (HN7.out.to hb)
        clear HN7
        have HN7 := HN'
        clear HN' hW
        have HN' := Hd.mk (HN4.out.to hb); clear HN4; have HN4 := HN'; clear HN'; have HL' := Hd.mk (HL4.out.to hb); clear HL4; have HL4 := HL'; clear HL'
        have HB' : Hd (Below W0.heap.size W0 _) := ⟨bel_then (by repeat (first | exact HB.out | exact Below.refl _ _ | refine below_alloc ?_ _ | refine below_drewN ?_ _ | refine below_drew ?_ | refine below_set ?_ (by first | exact Nat.le_refl _ | omega | (simp; done) | (simp; omega)) _)) hb⟩; clear HB; have HB := HB'; clear HB'; replace q0 := (Q0.out.to HB.out).c0; replace q1 := (Q0.out.to HB.out).c1; replace q2 := (Q1.out.to HB.out).c0; replace q3 := (Q1.out.to HB.out).c1; replace q4 := (Q2.out.to HB.out).c0; replace q5 := (Q2.out.to HB.out).c1
        clear hb
        go_wp2_with fail
        refine (H8.out _ (bel_then HW.out HB.out)).mono ?_
        rintro e w8 ⟨A8, c8, rfl, hn, hb⟩
        rw [← D7.out]
        have HN8 := Hd.mk hn
        clear hn
        have HN' := Hd.mk (HN4.out.to hb); clear HN4; have HN4 := HN'; clear HN'; have HL' := Hd.mk (HL4.out.to hb); clear HL4; have HL4 := HL'; clear HL'; have HN' := Hd.mk (HN7.out.to hb); clear HN7; have HN7 := HN'; clear HN'; have HL' := Hd.mk (HL7.out.to hb); clear HL7; have HL7 := HL'; clear HL'; try (have HG8 : Hd (W0.heap.size ≤ w8.heap.size) := ⟨(bel_then HB.out hb).size⟩); try (have HNE4 : Hd (w4.heap.size ≠ w8.heap.size) := ⟨Nat.ne_of_lt HL4.out.lt⟩); try (have HNE7 : Hd (w7.heap.size ≠ w8.heap.size) := ⟨Nat.ne_of_lt HL7.out.lt⟩)
        have HB' : Hd (Below W0.heap.size W0 _) := ⟨bel_then (by repeat (first | exact HB.out | exact Below.refl _ _ | refine below_alloc ?_ _ | refine below_drewN ?_ _ | refine below_drew ?_ | refine below_set ?_ (by first | exact Nat.le_refl _ | omega | (simp; done) | (simp; omega)) _)) hb⟩; clear HB; have HB := HB'; clear HB'; replace q0 := (Q0.out.to HB.out).c0; replace q1 := (Q0.out.to HB.out).c1; replace q2 := (Q1.out.to HB.out).c0; replace q3 := (Q1.out.to HB.out).c1; replace q4 := (Q2.out.to HB.out).c0; replace q5 := (Q2.out.to HB.out).c1
        clear hb
        go_upto_region 16 with fail
        obtain ⟨W8, hW⟩ : ∃ W : World, W = w8.alloc (.cells #[.bool d7, .slice A8 (ln (n7 x y).natAbs) c8] 24) := ⟨_, rfl⟩
        rw [← hW]
        have HL8 : Hd (Blk W8 w8.heap.size 24 [.bool d7, .slice A8 (ln (n7 x y).natAbs) c8]) := ⟨by rw [hW]; exact heap_alloc_new _ _⟩
        have hb : Below w8.heap.size w8 W8 := by rw [hW]; exact below_alloc (Below.refl _ _) _
        have HN' := Hd.mk (HN8.out.to hb)
        clear HN8
        have HN8 := HN'
        clear HN' hW
        have HN' := Hd.mk (HN4.out.to hb); clear HN4; have HN4 := HN'; clear HN'; have HL' := Hd.mk (HL4.out.to hb); clear HL4; have HL4 := HL'; clear HL'; have HN' := Hd.mk (HN7.out.to hb); clear HN7; have HN7 := HN'; clear HN'; have HL' := Hd.mk (HL7.out.to hb); clear HL7; have HL7 := HL'; clear HL'; try (have HG8 : Hd (W0.heap.size ≤ w8.heap.size) := ⟨(bel_then HB.out hb).size⟩); try (have HNE4 : Hd (w4.heap.size ≠ w8.heap.size) := ⟨Nat.ne_of_lt HL4.out.lt⟩); try (have HNE7 : Hd (w7.heap.size ≠ w8.heap.size) := ⟨Nat.ne_of_lt HL7.out.lt⟩)
        have HB' : Hd (Below W0.heap.size W0 _) := ⟨bel_then (by repeat (first | exact HB.out | exact Below.refl _ _ | refine below_alloc ?_ _ | refine below_drewN ?_ _ | refine below_drew ?_ | refine below_set ?_ (by first | exact Nat.le_refl _ | omega | (simp; done) | (simp; omega)) _)) hb⟩; clear HB; have HB := HB'; clear HB'; replace q0 := (Q0.out.to HB.out).c0; replace q1 := (Q0.out.to HB.out).c1; replace q2 := (Q1.out.to HB.out).c0; replace q3 := (Q1.out.to HB.out).c1; replace q4 := (Q2.out.to HB.out).c0; replace q5 := (Q2.out.to HB.out).c1
        clear hb
        have l70 := HL7.out.c0; have l71 := HL7.out.c1
        have l80 := HL8.out.c0; have l81 := HL8.out.c1
        go_wp2_with fail
        have hs := same_calls (n7 x y) (n7 x y) A7 c7 A8 c8 _ HN7.out HN8.out
        rw [← D7.out, decide_eq_true (rfl : n7 x y = n7 x y)] at hs
        refine hs.mono ?_
        clear hs
        rintro e ws ⟨rfl, hb⟩
        clear l70 l71
        clear l80 l81
        have HN' := Hd.mk (HN4.out.to hb); clear HN4; have HN4 := HN'; clear HN'; have HL' := Hd.mk (HL4.out.to hb); clear HL4; have HL4 := HL'; clear HL'
        have HN' := Hd.mk (HN7.out.to hb); clear HN7; have HN7 := HN'; clear HN'; have HL' := Hd.mk (HL7.out.to hb); clear HL7; have HL7 := HL'; clear HL'
        have HN' := Hd.mk (HN8.out.to hb); clear HN8; have HN8 := HN'; clear HN'; have HL' := Hd.mk (HL8.out.to hb); clear HL8; have HL8 := HL'; clear HL'
        have HB' : Hd (Below W0.heap.size W0 _) := ⟨bel_then (by repeat (first | exact HB.out | exact Below.refl _ _ | refine below_alloc ?_ _ | refine below_drewN ?_ _ | refine below_drew ?_ | refine below_set ?_ (by first | exact Nat.le_refl _ | omega | (simp; done) | (simp; omega)) _)) hb⟩; clear HB; have HB := HB'; clear HB'; replace q0 := (Q0.out.to HB.out).c0; replace q1 := (Q0.out.to HB.out).c1; replace q2 := (Q1.out.to HB.out).c0; replace q3 := (Q1.out.to HB.out).c1; replace q4 := (Q2.out.to HB.out).c0; replace q5 := (Q2.out.to HB.out).c1
        clear hb
        go_upto_region 18 with fail
        go_wp2_with fail
        refine (H9.out _ (bel_then HW.out HB.out)).mono ?_
        rintro e w9 ⟨A9, c9, rfl, hn, hb⟩
        rw [← D9.out]
        have HN' := Hd.mk (HN4.out.to hb); clear HN4; have HN4 := HN'; clear HN'; have HL' := Hd.mk (HL4.out.to hb); clear HL4; have HL4 := HL'; clear HL'
        have HN' := Hd.mk (HN7.out.to hb); clear HN7; have HN7 := HN'; clear HN'; have HL' := Hd.mk (HL7.out.to hb); clear HL7; have HL7 := HL'; clear HL'
        have HN' := Hd.mk (HN8.out.to hb); clear HN8; have HN8 := HN'; clear HN'; have HL' := Hd.mk (HL8.out.to hb); clear HL8; have HL8 := HL'; clear HL'
        have HB' : Hd (Below W0.heap.size W0 _) := ⟨bel_then (by repeat (first | exact HB.out | exact Below.refl _ _ | refine below_alloc ?_ _ | refine below_drewN ?_ _ | refine below_drew ?_ | refine below_set ?_ (by first | exact Nat.le_refl _ | omega | (simp; done) | (simp; omega)) _)) hb⟩; clear HB; have HB := HB'; clear HB'; replace q0 := (Q0.out.to HB.out).c0; replace q1 := (Q0.out.to HB.out).c1; replace q2 := (Q1.out.to HB.out).c0; replace q3 := (Q1.out.to HB.out).c1; replace q4 := (Q2.out.to HB.out).c0; replace q5 := (Q2.out.to HB.out).c1
        clear hb
        have l80 := HL8.out.c0
        have l81 := HL8.out.c1
        have l82 := HL8.out.f0
        have l83 := HL8.out.f1
        go_upto_region 19 with fail
        clear l80 l81 l82 l83
        obtain ⟨W9, hW⟩ : ∃ W : World, W = (w9.setCell ⟨w8.heap.size, 0, none⟩ (.bool d9)).setCell ⟨w8.heap.size, 1, none⟩ (.slice A9 (ln (n7 y z).natAbs) c9) := ⟨_, rfl⟩
        rw [← hW]
        have HL9 : Hd (Blk W9 w8.heap.size 24 [.bool d9, .slice A9 (ln (n7 y z).natAbs) c9]) := ⟨by rw [hW]; exact HL8.out.two _ _⟩
        have HN9 : Hd (NN W9 A9 c9 (n7 y z).natAbs) := ⟨by rw [hW]; exact hn.two HL8.out _ _⟩
        have HN4' : Hd (NN W9 A4 c4 (n1 y z).natAbs) := ⟨by rw [hW]; exact HN4.out.two HL8.out _ _⟩
        have HN7' : Hd (NN W9 A7 c7 (n7 x y).natAbs) := ⟨by rw [hW]; exact HN7.out.two HL8.out _ _⟩
        have HL4' : Hd (Blk W9 w4.heap.size 24 _) := ⟨by rw [hW]; exact HL4.out.two_far HNE4.out _ _⟩
        have HL7' : Hd (Blk W9 w7.heap.size 24 _) := ⟨by rw [hW]; exact HL7.out.two_far HNE7.out _ _⟩
        have HB' : Hd (Below W0.heap.size W0 W9) := ⟨by rw [hW]; exact below_two HB.out HG8.out _ _⟩
        clear hn HN4 HN7 HL4 HL7 HB hW
        have HN4 := HN4'
        have HN7 := HN7'
        have HL4 := HL4'
        have HL7 := HL7'
        have HB := HB'
        clear HN4' HN7' HL4' HL7' HB' HL8 HN8
        replace q0 := (Q0.out.to HB.out).c0; replace q1 := (Q0.out.to HB.out).c1; replace q2 := (Q1.out.to HB.out).c0; replace q3 := (Q1.out.to HB.out).c1; replace q4 := (Q2.out.to HB.out).c0; replace q5 := (Q2.out.to HB.out).c1
        have l70 := HL7.out.c0; have l71 := HL7.out.c1
        go_wp2_with fail
        clear l70 l71
        refine (H10.out A7 c7 _ (bel_then HW.out HB.out) HN7.out).mono ?_
        rintro e w10 ⟨A10, c10, rfl, hn, hb⟩
        rw [← D10.out]
        have HN10 := Hd.mk hn
        clear hn
        have HN' := Hd.mk (HN4.out.to hb); clear HN4; have HN4 := HN'; clear HN'; have HL' := Hd.mk (HL4.out.to hb); clear HL4; have HL4 := HL'; clear HL'; have HN' := Hd.mk (HN7.out.to hb); clear HN7; have HN7 := HN'; clear HN'; have HL' := Hd.mk (HL7.out.to hb); clear HL7; have HL7 := HL'; clear HL'; have HN' := Hd.mk (HN9.out.to hb); clear HN9; have HN9 := HN'; clear HN'; have HL' := Hd.mk (HL9.out.to hb); clear HL9; have HL9 := HL'; clear HL'
        have HB' : Hd (Below W0.heap.size W0 _) := ⟨bel_then (by repeat (first | exact HB.out | exact Below.refl _ _ | refine below_alloc ?_ _ | refine below_drewN ?_ _ | refine below_drew ?_ | refine below_set ?_ (by first | exact Nat.le_refl _ | omega | (simp; done) | (simp; omega)) _)) hb⟩; clear HB; have HB := HB'; clear HB'; replace q0 := (Q0.out.to HB.out).c0; replace q1 := (Q0.out.to HB.out).c1; replace q2 := (Q1.out.to HB.out).c0; replace q3 := (Q1.out.to HB.out).c1; replace q4 := (Q2.out.to HB.out).c0; replace q5 := (Q2.out.to HB.out).c1
        clear hb
        go_upto_region 20 with fail
        obtain ⟨W10, hW⟩ : ∃ W : World, W = w10.alloc (.cells #[.bool d10, .slice A10 (ln (n10 x y z).natAbs) c10] 24) := ⟨_, rfl⟩
        rw [← hW]
        have HL10 : Hd (Blk W10 w10.heap.size 24 [.bool d10, .slice A10 (ln (n10 x y z).natAbs) c10]) := ⟨by rw [hW]; exact heap_alloc_new _ _⟩
        have hb : Below w10.heap.size w10 W10 := by rw [hW]; exact below_alloc (Below.refl _ _) _
        have HN' := Hd.mk (HN10.out.to hb)
        clear HN10
        have HN10 := HN'
        clear HN' hW
        have HN' := Hd.mk (HN4.out.to hb); clear HN4; have HN4 := HN'; clear HN'; have HL' := Hd.mk (HL4.out.to hb); clear HL4; have HL4 := HL'; clear HL'; have HN' := Hd.mk (HN7.out.to hb); clear HN7; have HN7 := HN'; clear HN'; have HL' := Hd.mk (HL7.out.to hb); clear HL7; have HL7 := HL'; clear HL'; have HN' := Hd.mk (HN9.out.to hb); clear HN9; have HN9 := HN'; clear HN'; have HL' := Hd.mk (HL9.out.to hb); clear HL9; have HL9 := HL'; clear HL'
        have HB' : Hd (Below W0.heap.size W0 _) := ⟨bel_then (by repeat (first | exact HB.out | exact Below.refl _ _ | refine below_alloc ?_ _ | refine below_drewN ?_ _ | refine below_drew ?_ | refine below_set ?_ (by first | exact Nat.le_refl _ | omega | (simp; done) | (simp; omega)) _)) hb⟩; clear HB; have HB := HB'; clear HB'; replace q0 := (Q0.out.to HB.out).c0; replace q1 := (Q0.out.to HB.out).c1; replace q2 := (Q1.out.to HB.out).c0; replace q3 := (Q1.out.to HB.out).c1; replace q4 := (Q2.out.to HB.out).c0; replace q5 := (Q2.out.to HB.out).c1
        clear hb
        go_cut [146] (fun s wx => s = .bool k10 ∧ W10 = wx)
        case first => as_aux_lemma =>
          by_cases h1 : m7 x y = 0
          · have b1 : (m7 x y == 0) = true := by simp [h1]
            by_cases h2 : m7 y z = 0
            · have b2 : (m7 y z == 0) = true := by simp [h2]
              by_cases h3 : m10 x y z = 0
              · have b3 : (m10 x y z == 0) = true := by simp [h3]
                have hk := Hd.mk (K10.out.trans (by simp [h1, h2, h3] : _ = true))
                clear h1 h2 h3
                go_wp2_with fail
                go_meet
                exact ⟨by rw [hk.out], rfl⟩
              · have b3 : (m10 x y z == 0) = false := by simp [h3]
                have hk := Hd.mk (K10.out.trans (by simp [h3] : _ = false))
                clear h1 h2 h3
                go_wp2_with fail
                go_meet
                exact ⟨by rw [hk.out], rfl⟩
            · have b2 : (m7 y z == 0) = false := by simp [h2]
              have hk := Hd.mk (K10.out.trans (by simp [h2] : _ = false))
              clear h1 h2
              go_wp2_with fail
              go_meet
              exact ⟨by rw [hk.out], rfl⟩
          · have b1 : (m7 x y == 0) = false := by simp [h1]
            have hk := Hd.mk (K10.out.trans (by simp [h1] : _ = false))
            clear h1
            go_wp2_with fail
            go_meet
            exact ⟨by rw [hk.out], rfl⟩
        case rest => as_aux_lemma =>
          obtain ⟨rfl, rfl⟩ := hcut
          go_upto_if 146 with fail
          go_cut [] (fun wx => Below W10.heap.size W10 wx)
          case first => as_aux_lemma =>
            rcases k10 with _ | _
            · go_wp2_with fail
              go_meet
              exact Below.refl _ _
            · have HK : Hd ((m7 x y = 0 ∧ m7 y z = 0) ∧ m10 x y z = 0) := ⟨by simpa using K10.out.symm⟩
              have HC : Hd (Below W10.heap.size W10 W10) := ⟨Below.refl _ _⟩
              have l90 := HL9.out.c0; have l91 := HL9.out.c1
              go_wp2_with fail
              clear l90 l91
              refine (H11.out A9 c9 _ HK.out.1.1 HK.out.1.2 HK.out.2 (bel_then HW.out HB.out) HN9.out).mono ?_
              rintro e w11 ⟨A11, c11, rfl, hn, hb⟩
              rw [← D10.out]
              have HN11 := Hd.mk hn
              clear hn
              have HN' := Hd.mk (HN10.out.to hb); clear HN10; have HN10 := HN'; clear HN'; have HL' := Hd.mk (HL10.out.to hb); clear HL10; have HL10 := HL'; clear HL'; have HC' : Hd (Below W10.heap.size W10 _) := ⟨bel_then HC.out hb⟩; clear HC; have HC := HC'; clear HC'
              have HB' : Hd (Below W0.heap.size W0 _) := ⟨bel_then (by repeat (first | exact HB.out | exact Below.refl _ _ | refine below_alloc ?_ _ | refine below_drewN ?_ _ | refine below_drew ?_ | refine below_set ?_ (by first | exact Nat.le_refl _ | omega | (simp; done) | (simp; omega)) _)) hb⟩; clear HB; have HB := HB'; clear HB'; replace q0 := (Q0.out.to HB.out).c0; replace q1 := (Q0.out.to HB.out).c1; replace q2 := (Q1.out.to HB.out).c0; replace q3 := (Q1.out.to HB.out).c1; replace q4 := (Q2.out.to HB.out).c0; replace q5 := (Q2.out.to HB.out).c1
              clear hb
              go_upto_region 22 with fail
              obtain ⟨W11, hW⟩ : ∃ W : World, W = w11.alloc (.cells #[.bool d10, .slice A11 (ln (n10 x y z).natAbs) c11] 24) := ⟨_, rfl⟩
              rw [← hW]
              have HL11 : Hd (Blk W11 w11.heap.size 24 [.bool d10, .slice A11 (ln (n10 x y z).natAbs) c11]) := ⟨by rw [hW]; exact heap_alloc_new _ _⟩
              have hb : Below w11.heap.size w11 W11 := by rw [hW]; exact below_alloc (Below.refl _ _) _
              have HN' := Hd.mk (HN11.out.to hb)
              clear HN11
              have HN11 := HN'
              clear HN' hW
              have HN' := Hd.mk (HN10.out.to hb); clear HN10; have HN10 := HN'; clear HN'; have HL' := Hd.mk (HL10.out.to hb); clear HL10; have HL10 := HL'; clear HL'; have HC' : Hd (Below W10.heap.size W10 _) := ⟨bel_then HC.out hb⟩; clear HC; have HC := HC'; clear HC'
              have HB' : Hd (Below W0.heap.size W0 _) := ⟨bel_then (by repeat (first | exact HB.out | exact Below.refl _ _ | refine below_alloc ?_ _ | refine below_drewN ?_ _ | refine below_drew ?_ | refine below_set ?_ (by first | exact Nat.le_refl _ | omega | (simp; done) | (simp; omega)) _)) hb⟩; clear HB; have HB := HB'; clear HB'; replace q0 := (Q0.out.to HB.out).c0; replace q1 := (Q0.out.to HB.out).c1; replace q2 := (Q1.out.to HB.out).c0; replace q3 := (Q1.out.to HB.out).c1; replace q4 := (Q2.out.to HB.out).c0; replace q5 := (Q2.out.to HB.out).c1
              clear hb
              have l100 := HL10.out.c0; have l101 := HL10.out.c1
              have l110 := HL11.out.c0; have l111 := HL11.out.c1
              go_wp2_with fail
              have hs := same_calls (n10 x y z) (n10 x y z) A10 c10 A11 c11 _ HN10.out HN11.out
              rw [← D10.out, decide_eq_true (rfl : n10 x y z = n10 x y z)] at hs
              refine hs.mono ?_
              clear hs
              rintro e ws ⟨rfl, hb⟩
              go_wp2_with fail
              go_meet
              exact bel_then HC.out hb
          case rest => as_aux_lemma =>
            have hb := hcut
            have HN' := Hd.mk (HN4.out.to hb); clear HN4; have HN4 := HN'; clear HN'; have HL' := Hd.mk (HL4.out.to hb); clear HL4; have HL4 := HL'; clear HL'
            have HN' := Hd.mk (HN7.out.to hb); clear HN7; have HN7 := HN'; clear HN'; have HL' := Hd.mk (HL7.out.to hb); clear HL7; have HL7 := HL'; clear HL'
            have HN' := Hd.mk (HN9.out.to hb); clear HN9; have HN9 := HN'; clear HN'; have HL' := Hd.mk (HL9.out.to hb); clear HL9; have HL9 := HL'; clear HL'
            have HB' : Hd (Below W0.heap.size W0 _) := ⟨bel_then (by repeat (first | exact HB.out | exact Below.refl _ _ | refine below_alloc ?_ _ | refine below_drewN ?_ _ | refine below_drew ?_ | refine below_set ?_ (by first | exact Nat.le_refl _ | omega | (simp; done) | (simp; omega)) _)) hb⟩; clear HB; have HB := HB'; clear HB'; replace q0 := (Q0.out.to HB.out).c0; replace q1 := (Q0.out.to HB.out).c1; replace q2 := (Q1.out.to HB.out).c0; replace q3 := (Q1.out.to HB.out).c1; replace q4 := (Q2.out.to HB.out).c0; replace q5 := (Q2.out.to HB.out).c1
            clear hb hcut HN10 HL10
            go_upto_region 24 with fail
            go_wp2_with fail
            refine (H12.out _ (bel_then HW.out HB.out)).mono ?_
            rintro e w12 ⟨A12, c12, rfl, hn, hb⟩
            rw [← D12.out]
            have HN' := Hd.mk (HN4.out.to hb); clear HN4; have HN4 := HN'; clear HN'; have HL' := Hd.mk (HL4.out.to hb); clear HL4; have HL4 := HL'; clear HL'
            have HN' := Hd.mk (HN7.out.to hb); clear HN7; have HN7 := HN'; clear HN'; have HL' := Hd.mk (HL7.out.to hb); clear HL7; have HL7 := HL'; clear HL'
            have HN' := Hd.mk (HN9.out.to hb); clear HN9; have HN9 := HN'; clear HN'; have HL' := Hd.mk (HL9.out.to hb); clear HL9; have HL9 := HL'; clear HL'
            have HB' : Hd (Below W0.heap.size W0 _) := ⟨bel_then (by repeat (first | exact HB.out | exact Below.refl _ _ | refine below_alloc ?_ _ | refine below_drewN ?_ _ | refine below_drew ?_ | refine below_set ?_ (by first | exact Nat.le_refl _ | omega | (simp; done) | (simp; omega)) _)) hb⟩; clear HB; have HB := HB'; clear HB'; replace q0 := (Q0.out.to HB.out).c0; replace q1 := (Q0.out.to HB.out).c1; replace q2 := (Q1.out.to HB.out).c0; replace q3 := (Q1.out.to HB.out).c1; replace q4 := (Q2.out.to HB.out).c0; replace q5 := (Q2.out.to HB.out).c1
            clear hb
            have l80 := HL9.out.c0
            have l81 := HL9.out.c1
            have l82 := HL9.out.f0
            have l83 := HL9.out.f1
            go_upto_region 25 with fail
            clear l80 l81 l82 l83
            obtain ⟨W12, hW⟩ : ∃ W : World, W = (w12.setCell ⟨w8.heap.size, 0, none⟩ (.bool d12)).setCell ⟨w8.heap.size, 1, none⟩ (.slice A12 (ln (n7 x z).natAbs) c12) := ⟨_, rfl⟩
            rw [← hW]
            have HL12 : Hd (Blk W12 w8.heap.size 24 [.bool d12, .slice A12 (ln (n7 x z).natAbs) c12]) := ⟨by rw [hW]; exact HL9.out.two _ _⟩
            have HN12 : Hd (NN W12 A12 c12 (n7 x z).natAbs) := ⟨by rw [hW]; exact hn.two HL9.out _ _⟩
            have HN4' : Hd (NN W12 A4 c4 (n1 y z).natAbs) := ⟨by rw [hW]; exact HN4.out.two HL9.out _ _⟩
            have HN7' : Hd (NN W12 A7 c7 (n7 x y).natAbs) := ⟨by rw [hW]; exact HN7.out.two HL9.out _ _⟩
            have HL4' : Hd (Blk W12 w4.heap.size 24 _) := ⟨by rw [hW]; exact HL4.out.two_far HNE4.out _ _⟩
            have HL7' : Hd (Blk W12 w7.heap.size 24 _) := ⟨by rw [hW]; exact HL7.out.two_far HNE7.out _ _⟩
            have HB' : Hd (Below W0.heap.size W0 W12) := ⟨by rw [hW]; exact below_two HB.out HG8.out _ _⟩
            clear hn HN4 HN7 HL4 HL7 HB hW
            have HN4 := HN4'
            have HN7 := HN7'
            have HL4 := HL4'
            have HL7 := HL7'
            have HB := HB'
            clear HN4' HN7' HL4' HL7' HB' HL9 HN9
            replace q0 := (Q0.out.to HB.out).c0; replace q1 := (Q0.out.to HB.out).c1; replace q2 := (Q1.out.to HB.out).c0; replace q3 := (Q1.out.to HB.out).c1; replace q4 := (Q2.out.to HB.out).c0; replace q5 := (Q2.out.to HB.out).c1
            have l40 := HL4.out.c0; have l41 := HL4.out.c1
            go_wp2_with fail
            clear l40 l41
            refine (H13.out A4 c4 _ (bel_then HW.out HB.out) HN4.out).mono ?_
            rintro e w13 ⟨A13, c13, rfl, hn, hb⟩
            rw [← D13.out]
            have HN13 := Hd.mk hn
            clear hn
            have HN' := Hd.mk (HN7.out.to hb); clear HN7; have HN7 := HN'; clear HN'; have HL' := Hd.mk (HL7.out.to hb); clear HL7; have HL7 := HL'; clear HL'; have HN' := Hd.mk (HN12.out.to hb); clear HN12; have HN12 := HN'; clear HN'; have HL' := Hd.mk (HL12.out.to hb); clear HL12; have HL12 := HL'; clear HL'
            have HB' : Hd (Below W0.heap.size W0 _) := ⟨bel_then (by repeat (first | exact HB.out | exact Below.refl _ _ | refine below_alloc ?_ _ | refine below_drewN ?_ _ | refine below_drew ?_ | refine below_set ?_ (by first | exact Nat.le_refl _ | omega | (simp; done) | (simp; omega)) _)) hb⟩; clear HB; have HB := HB'; clear HB'; replace q0 := (Q0.out.to HB.out).c0; replace q1 := (Q0.out.to HB.out).c1; replace q2 := (Q1.out.to HB.out).c0; replace q3 := (Q1.out.to HB.out).c1; replace q4 := (Q2.out.to HB.out).c0; replace q5 := (Q2.out.to HB.out).c1
            clear hb
            go_upto_region 26 with fail
            obtain ⟨W13, hW⟩ : ∃ W : World, W = w13.alloc (.cells #[.bool d13, .slice A13 (ln (n13 x y z).natAbs) c13] 24) := ⟨_, rfl⟩
            rw [← hW]
            have HL13 : Hd (Blk W13 w13.heap.size 24 [.bool d13, .slice A13 (ln (n13 x y z).natAbs) c13]) := ⟨by rw [hW]; exact heap_alloc_new _ _⟩
            have hb : Below w13.heap.size w13 W13 := by rw [hW]; exact below_alloc (Below.refl _ _) _
            have HN' := Hd.mk (HN13.out.to hb)
            clear HN13
            have HN13 := HN'
            clear HN' hW
            have HN' := Hd.mk (HN7.out.to hb); clear HN7; have HN7 := HN'; clear HN'; have HL' := Hd.mk (HL7.out.to hb); clear HL7; have HL7 := HL'; clear HL'; have HN' := Hd.mk (HN12.out.to hb); clear HN12; have HN12 := HN'; clear HN'; have HL' := Hd.mk (HL12.out.to hb); clear HL12; have HL12 := HL'; clear HL'
            have HB' : Hd (Below W0.heap.size W0 _) := ⟨bel_then (by repeat (first | exact HB.out | exact Below.refl _ _ | refine below_alloc ?_ _ | refine below_drewN ?_ _ | refine below_drew ?_ | refine below_set ?_ (by first | exact Nat.le_refl _ | omega | (simp; done) | (simp; omega)) _)) hb⟩; clear HB; have HB := HB'; clear HB'; replace q0 := (Q0.out.to HB.out).c0; replace q1 := (Q0.out.to HB.out).c1; replace q2 := (Q1.out.to HB.out).c0; replace q3 := (Q1.out.to HB.out).c1; replace q4 := (Q2.out.to HB.out).c0; replace q5 := (Q2.out.to HB.out).c1
            clear hb
            go_cut [186] (fun s wx => s = .bool k13 ∧ W13 = wx)
            case first => as_aux_lemma =>
              by_cases h0 : m7 x y = 0
              · have b0 : (m7 x y == 0) = true := by simp [h0]
                by_cases h1 : m1 y z = 0
                · have b1 : (m1 y z == 0) = true := by simp [h1]
                  by_cases h2 : m7 x z = 0
                  · have b2 : (m7 x z == 0) = true := by simp [h2]
                    by_cases h3 : m13 x y z = 0
                    · have b3 : (m13 x y z == 0) = true := by simp [h3]
                      have hk := Hd.mk (K13.out.trans (by simp [h0, h1, h2, h3] : _ = true))
                      clear h0 h1 h2 h3
                      go_wp2_with fail
                      go_meet
                      exact ⟨by rw [hk.out], rfl⟩
                    · have b3 : (m13 x y z == 0) = false := by simp [h3]
                      have hk := Hd.mk (K13.out.trans (by simp [h3] : _ = false))
                      clear h0 h1 h2 h3
                      go_wp2_with fail
                      go_meet
                      exact ⟨by rw [hk.out], rfl⟩
                  · have b2 : (m7 x z == 0) = false := by simp [h2]
                    have hk := Hd.mk (K13.out.trans (by simp [h2] : _ = false))
                    clear h0 h1 h2
                    go_wp2_with fail
                    go_meet
                    exact ⟨by rw [hk.out], rfl⟩
                · have b1 : (m1 y z == 0) = false := by simp [h1]
                  have hk := Hd.mk (K13.out.trans (by simp [h1] : _ = false))
                  clear h0 h1
                  go_wp2_with fail
                  go_meet
                  exact ⟨by rw [hk.out], rfl⟩
              · have b0 : (m7 x y == 0) = false := by simp [h0]
                have hk := Hd.mk (K13.out.trans (by simp [h0] : _ = false))
                clear h0
                go_wp2_with fail
                go_meet
                exact ⟨by rw [hk.out], rfl⟩
            case rest => as_aux_lemma =>
              obtain ⟨rfl, rfl⟩ := hcut
              go_upto_if 186 with fail
              go_cut [] (fun wx => Below W13.heap.size W13 wx)
              case first => as_aux_lemma =>
                rcases k13 with _ | _
                · go_wp2_with fail
                  go_meet
                  exact Below.refl _ _
                · have HK : Hd (((m7 x y = 0 ∧ m1 y z = 0) ∧ m7 x z = 0) ∧ m13 x y z = 0) := ⟨by simpa using K13.out.symm⟩
                  have HC : Hd (Below W13.heap.size W13 W13) := ⟨Below.refl _ _⟩
                  have l70 := HL7.out.c0; have l71 := HL7.out.c1
                  have l120 := HL12.out.c0; have l121 := HL12.out.c1
                  go_wp2_with fail
                  clear l70 l71
                  clear l120 l121
                  refine (H14.out A7 c7 A12 c12 _ HK.out.1.1.1 HK.out.1.1.2 HK.out.1.2 HK.out.2 HN7.out HN12.out).mono ?_
                  rintro e w14 ⟨A14, c14, rfl, hn, hb⟩
                  rw [← D13.out]
                  have HN14 := Hd.mk hn
                  clear hn
                  have HN' := Hd.mk (HN13.out.to hb); clear HN13; have HN13 := HN'; clear HN'; have HL' := Hd.mk (HL13.out.to hb); clear HL13; have HL13 := HL'; clear HL'; have HC' : Hd (Below W13.heap.size W13 _) := ⟨bel_then HC.out hb⟩; clear HC; have HC := HC'; clear HC'
                  have HB' : Hd (Below W0.heap.size W0 _) := ⟨bel_then (by repeat (first | exact HB.out | exact Below.refl _ _ | refine below_alloc ?_ _ | refine below_drewN ?_ _ | refine below_drew ?_ | refine below_set ?_ (by first | exact Nat.le_refl _ | omega | (simp; done) | (simp; omega)) _)) hb⟩; clear HB; have HB := HB'; clear HB'; replace q0 := (Q0.out.to HB.out).c0; replace q1 := (Q0.out.to HB.out).c1; replace q2 := (Q1.out.to HB.out).c0; replace q3 := (Q1.out.to HB.out).c1; replace q4 := (Q2.out.to HB.out).c0; replace q5 := (Q2.out.to HB.out).c1
                  clear hb
                  go_upto_region 28 with fail
                  obtain ⟨W14, hW⟩ : ∃ W : World, W = w14.alloc (.cells #[.bool d13, .slice A14 (ln (n13 x y z).natAbs) c14] 24) := ⟨_, rfl⟩
                  rw [← hW]
                  have HL14 : Hd (Blk W14 w14.heap.size 24 [.bool d13, .slice A14 (ln (n13 x y z).natAbs) c14]) := ⟨by rw [hW]; exact heap_alloc_new _ _⟩
                  have hb : Below w14.heap.size w14 W14 := by rw [hW]; exact below_alloc (Below.refl _ _) _
                  have HN' := Hd.mk (HN14.out.to hb)
                  clear HN14
                  have HN14 := HN'
                  clear HN' hW
                  have HN' := Hd.mk (HN13.out.to hb); clear HN13; have HN13 := HN'; clear HN'; have HL' := Hd.mk (HL13.out.to hb); clear HL13; have HL13 := HL'; clear HL'; have HC' : Hd (Below W13.heap.size W13 _) := ⟨bel_then HC.out hb⟩; clear HC; have HC := HC'; clear HC'
                  have HB' : Hd (Below W0.heap.size W0 _) := ⟨bel_then (by repeat (first | exact HB.out | exact Below.refl _ _ | refine below_alloc ?_ _ | refine below_drewN ?_ _ | refine below_drew ?_ | refine below_set ?_ (by first | exact Nat.le_refl _ | omega | (simp; done) | (simp; omega)) _)) hb⟩; clear HB; have HB := HB'; clear HB'; replace q0 := (Q0.out.to HB.out).c0; replace q1 := (Q0.out.to HB.out).c1; replace q2 := (Q1.out.to HB.out).c0; replace q3 := (Q1.out.to HB.out).c1; replace q4 := (Q2.out.to HB.out).c0; replace q5 := (Q2.out.to HB.out).c1
                  clear hb
                  have l130 := HL13.out.c0; have l131 := HL13.out.c1
                  have l140 := HL14.out.c0; have l141 := HL14.out.c1
                  go_wp2_with fail
                  have hs := same_calls (n13 x y z) (n13 x y z) A13 c13 A14 c14 _ HN13.out HN14.out
                  rw [← D13.out, decide_eq_true (rfl : n13 x y z = n13 x y z)] at hs
                  refine hs.mono ?_
                  clear hs
                  rintro e ws ⟨rfl, hb⟩
                  go_wp2_with fail
                  go_meet
                  exact bel_then HC.out hb
              case rest => as_aux_lemma =>
                have hb := hcut
                have HB' : Hd (Below W0.heap.size W0 _) := ⟨bel_then (by repeat (first | exact HB.out | exact Below.refl _ _ | refine below_alloc ?_ _ | refine below_drewN ?_ _ | refine below_drew ?_ | refine below_set ?_ (by first | exact Nat.le_refl _ | omega | (simp; done) | (simp; omega)) _)) hb⟩; clear HB; have HB := HB'; clear HB'; replace q0 := (Q0.out.to HB.out).c0; replace q1 := (Q0.out.to HB.out).c1; replace q2 := (Q1.out.to HB.out).c0; replace q3 := (Q1.out.to HB.out).c1; replace q4 := (Q2.out.to HB.out).c0; replace q5 := (Q2.out.to HB.out).c1
                clear hb hcut
                go_wp2_with fail
                refine (awake_calls _).mono ?_
                rintro e we ⟨rfl, hb⟩
                go_wp2_with fail
                go_ret
                exact ⟨rfl, bel_then HW.out (bel_then HB.out hb)⟩
end Go.Proofs.Ytcjcpfafalkceaa
