/- The reference's whole numbers. -/
import Derived.Test.YtcjcpfafalkceaaRD
import Derived.Test.YtcjcpfafalkceaaK
set_option linter.unusedVariables false
namespace Go.Proofs.Ytcjcpfafalkceaa
open Go.RowKit
section
variable {w w' W : World} {g : Nat} {t t1 t2 t3 : TypeId} {x0 x1 y0 y1 r0 r1 : Value} {cs : List Value}
theorem Blk.c0 (h : Blk w g t (x0 :: cs)) : w.cell? ⟨g, 0, none⟩ = some x0 := h.cell 0
theorem Blk.c1 (h : Blk w g t (x0 :: x1 :: cs)) : w.cell? ⟨g, 1, none⟩ = some x1 := h.cell 1
theorem Blk.f0 (h : Blk w g t (x0 :: cs)) : w.frozen? ⟨g, 0, none⟩ = false := h.frozen 0
theorem Blk.f1 (h : Blk w g t (x0 :: x1 :: cs)) : w.frozen? ⟨g, 1, none⟩ = false := h.frozen 1
theorem boxes1 (h : W = w.alloc (.cells #[x0, x1] t1)) : Blk W w.heap.size t1 [x0, x1] ∧ Below w.heap.size w W := by
  subst h
  exact ⟨heap_alloc_new _ _, below_alloc (Below.refl _ _) _⟩
theorem boxes2 (h : W = (w.alloc (.cells #[x0, x1] t1)).alloc (.cells #[y0, y1] t2)) : Blk W w.heap.size t1 [x0, x1] ∧ Blk W (w.heap.size + 1) t2 [y0, y1] ∧ Below w.heap.size w W := by
  subst h
  exact ⟨Blk.alloc (heap_alloc_new _ _) _, blk_second w _ [y0, y1] t2, below_alloc (below_alloc (Below.refl _ _) _) _⟩
theorem boxes3 (h : W = ((w.alloc (.cells #[x0, x1] t1)).alloc (.cells #[y0, y1] t2)).alloc (.cells #[r0, r1] t3)) : Blk W w.heap.size t1 [x0, x1] ∧ Blk W (w.heap.size + 1) t2 [y0, y1] ∧ Blk W (w.heap.size + 1 + 1) t3 [r0, r1] ∧ Below w.heap.size w W := by
  subst h
  exact ⟨Blk.alloc (Blk.alloc (heap_alloc_new _ _) _) _, (blk_second w _ [y0, y1] t2).alloc _, blk_third w _ _ [r0, r1] t3, below_alloc (below_alloc (below_alloc (Below.refl _ _) _) _) _⟩
end
theorem ln_pos {n : Nat} : 0 < ln n ↔ 0 < n := by
  have := ln_eq_zero (n := n)
  omega
theorem signed_calls (b b2 : Bool) (A : Option Addr) (l c : Nat) (w : World) (hl : l ≤ 9223372036854775807) (h : (b && decide (0 < l)) = b2) :
    Calls Try.prog 81 #[.bool b, .slice A l c] w fun e w' => e = .returned (.agg #[.bool b2, .slice A l c]) ∧ Below w.heap.size w w' := by
  have H := Hd.mk h
  clear h
  rcases b with _ | _
  · have : b2 = false := by rw [← H.out]; rfl
    subst this
    go_enter Try.func81, Try.ntmps81
    go_wp2_with fail
    exact bodyPost_ret (v := .agg #[.bool false, .slice A l c]) (by simp [results, Try.results81, go_sem]) rfl ⟨rfl, by repeat (first | exact HB.out | exact Below.refl _ _ | refine below_alloc ?_ _ | refine below_drewN ?_ _ | refine below_drew ?_ | refine below_set ?_ (by first | exact Nat.le_refl _ | omega | (simp; done) | (simp; omega)) _)⟩
  · by_cases h0 : 0 < l
    · have : b2 = true := by rw [← H.out]; simp [h0]
      subst this
      have hd : decide (0 < l) = true := decide_eq_true h0
      go_enter Try.func81, Try.ntmps81
      go_wp2_with fail
      exact bodyPost_ret (v := .agg #[.bool true, .slice A l c]) (by simp [results, Try.results81, go_sem]) rfl ⟨rfl, by repeat (first | exact HB.out | exact Below.refl _ _ | refine below_alloc ?_ _ | refine below_drewN ?_ _ | refine below_drew ?_ | refine below_set ?_ (by first | exact Nat.le_refl _ | omega | (simp; done) | (simp; omega)) _)⟩
    · have : b2 = false := by rw [← H.out]; simp [h0]
      subst this
      have hd : decide (0 < l) = false := decide_eq_false h0
      go_enter Try.func81, Try.ntmps81
      go_wp2_with fail
      exact bodyPost_ret (v := .agg #[.bool false, .slice A l c]) (by simp [results, Try.results81, go_sem]) rfl ⟨rfl, by repeat (first | exact HB.out | exact Below.refl _ _ | refine below_alloc ?_ _ | refine below_drewN ?_ _ | refine below_drew ?_ | refine below_set ?_ (by first | exact Nat.le_refl _ | omega | (simp; done) | (simp; omega)) _)⟩
/-- The sign of a whole number. -/
def sgnv (z : Int) : Int := if z < 0 then -1 else if z = 0 then 0 else 1
theorem rSign_calls (z : Int) (A : Option Addr) (c : Nat) (w : World) (hl : ln z.natAbs ≤ 9223372036854775807) :
    Calls Try.prog 43 #[.agg #[.bool (decide (z < 0)), .slice A (ln z.natAbs) c]] w fun e w' => e = .returned (.int .i64 (sgnv z)) ∧ Below w.heap.size w w' := by
  by_cases h0 : z = 0
  · subst h0
    rw [show ln (Int.natAbs 0) = 0 from ln_zero, show decide ((0 : Int) < 0) = false from rfl, show sgnv 0 = 0 from rfl]
    go_enter Try.func43, Try.ntmps43
    go_wp2
    go_ret
    exact ⟨rfl, by repeat (first | exact HB.out | exact Below.refl _ _ | refine below_alloc ?_ _ | refine below_drewN ?_ _ | refine below_drew ?_ | refine below_set ?_ (by first | exact Nat.le_refl _ | omega | (simp; done) | (simp; omega)) _)⟩
  · have hne : ((ln z.natAbs : Int) == 0) = false := by
      have := ln_eq_zero (n := z.natAbs)
      rw [beq_eq_false_iff_ne]
      omega
    by_cases hz : z < 0
    · have hs : sgnv z = -1 := if_pos hz
      have hd : decide (z < 0) = true := decide_eq_true hz
      rw [hs, hd]
      clear hs hd hz h0
      go_enter Try.func43, Try.ntmps43
      go_wp2
      go_ret
      exact ⟨rfl, by repeat (first | exact HB.out | exact Below.refl _ _ | refine below_alloc ?_ _ | refine below_drewN ?_ _ | refine below_drew ?_ | refine below_set ?_ (by first | exact Nat.le_refl _ | omega | (simp; done) | (simp; omega)) _)⟩
    · have hs : sgnv z = 1 := by unfold sgnv; rw [if_neg hz, if_neg h0]
      have hd : decide (z < 0) = false := decide_eq_false hz
      rw [hs, hd]
      clear hs hd hz h0
      go_enter Try.func43, Try.ntmps43
      go_wp2
      go_ret
      exact ⟨rfl, by repeat (first | exact HB.out | exact Below.refl _ _ | refine below_alloc ?_ _ | refine below_drewN ?_ _ | refine below_drew ?_ | refine below_set ?_ (by first | exact Nat.le_refl _ | omega | (simp; done) | (simp; omega)) _)⟩
theorem rZero_calls (b : Bool) (A : Option Addr) (l c : Nat) (w : World) (hl : l ≤ 9223372036854775807) :
    Calls Try.prog 44 #[.agg #[.bool b, .slice A l c]] w fun e w' => e = .returned (.bool (decide (l = 0))) ∧ Below w.heap.size w w' := by
  go_enter Try.func44, Try.ntmps44
  go_wp2
  go_ret
  exact ⟨ret_bool (by rw [Bool.eq_iff_iff]; simp), by repeat (first | exact HB.out | exact Below.refl _ _ | refine below_alloc ?_ _ | refine below_drewN ?_ _ | refine below_drew ?_ | refine below_set ?_ (by first | exact Nat.le_refl _ | omega | (simp; done) | (simp; omega)) _)⟩
theorem rFits_calls (b : Bool) (A : Option Addr) (l c : Nat) (w : World) (hl : l ≤ 9223372036854775807) :
    Calls Try.prog 86 #[.agg #[.bool b, .slice A l c]] w fun e w' => e = .returned (.bool (decide (l ≤ 256))) ∧ Below w.heap.size w w' := by
  go_enter Try.func86, Try.ntmps86
  go_wp2
  go_ret
  exact ⟨ret_bool (by rw [Bool.eq_iff_iff]; simp; omega), by repeat (first | exact HB.out | exact Below.refl _ _ | refine below_alloc ?_ _ | refine below_drewN ?_ _ | refine below_drew ?_ | refine below_set ?_ (by first | exact Nat.le_refl _ | omega | (simp; done) | (simp; omega)) _)⟩
theorem rInt_calls (b : Bool) (A : Option Addr) (n c : Nat) (w : World) :
    Calls Try.prog 23 #[.agg #[.bool b, .slice A n c]] w fun e w' => e = .returned (.agg #[.bool b, .slice A n c]) ∧ Below w.heap.size w w' := by
  go_enter Try.func23, Try.ntmps23
  go_wp2_with fail
  exact bodyPost_ret (v := .agg #[.bool b, .slice A n c]) (by simp [results, Try.results23, go_sem]) rfl ⟨rfl, by repeat (first | exact HB.out | exact Below.refl _ _ | refine below_alloc ?_ _ | refine below_drewN ?_ _ | refine below_drew ?_ | refine below_set ?_ (by first | exact Nat.le_refl _ | omega | (simp; done) | (simp; omega)) _)⟩
theorem rOf_calls (b : Bool) (A : Option Addr) (n c : Nat) (w : World) :
    Calls Try.prog 32 #[.agg #[.bool b, .slice A n c]] w fun e w' => e = .returned (.agg #[.bool b, .slice A n c]) ∧ Below w.heap.size w w' := by
  go_enter Try.func32, Try.ntmps32
  go_wp2_with fail
  exact bodyPost_ret (v := .agg #[.bool b, .slice A n c]) (by simp [results, Try.results32, go_sem]) rfl ⟨rfl, by repeat (first | exact HB.out | exact Below.refl _ _ | refine below_alloc ?_ _ | refine below_drewN ?_ _ | refine below_drew ?_ | refine below_set ?_ (by first | exact Nat.le_refl _ | omega | (simp; done) | (simp; omega)) _)⟩
theorem sgn_minus (z : Int) : ((!decide (z < 0)) && decide (0 < ln z.natAbs)) = decide (-z < 0) := by
  rw [Bool.eq_iff_iff]; simp [ln_pos]; omega
theorem sgn_mul (x y : Int) : ((decide (x < 0) != decide (y < 0)) && decide (0 < ln (x * y).natAbs)) = decide (x * y < 0) := by
  have hp : decide (0 < ln (x * y).natAbs) = decide (x * y ≠ 0) := by apply decide_eq_decide.2; rw [ln_pos]; omega
  rw [hp]
  rcases Int.lt_trichotomy x 0 with hx | rfl | hx <;> rcases Int.lt_trichotomy y 0 with hy | rfl | hy <;> try simp
  · have := Int.mul_pos_of_neg_of_neg hx hy
    simp [hx, hy]; omega
  · have := Int.mul_neg_of_neg_of_pos hx hy
    have h2 : ¬ y < 0 := by omega
    simp [hx, h2, this]; omega
  · have := Int.mul_neg_of_pos_of_neg hx hy
    have h2 : ¬ x < 0 := by omega
    simp [hy, h2, this]; omega
  · have := Int.mul_pos hx hy
    have h1 : ¬ x < 0 := by omega
    have h2 : ¬ y < 0 := by omega
    simp [h1, h2]; omega
theorem rMinus_calls (z : Int) (A : Option Addr) (c : Nat) (w : World) (h : NN w A c z.natAbs) :
    Calls Try.prog 46 #[.agg #[.bool (decide (z < 0)), .slice A (ln z.natAbs) c]] w fun e w' => e = .returned (.agg #[.bool (decide (-z < 0)), .slice A (ln z.natAbs) c]) ∧ Below w.heap.size w w' := by
  have hl := Nat.le_trans h.2.1 h.2.2
  have HS := Hd.mk (sgn_minus z)
  clear h
  obtain ⟨b1, hb1⟩ : ∃ b, b = decide (z < 0) := ⟨_, rfl⟩
  obtain ⟨b2, hb2⟩ : ∃ b, b = decide (-z < 0) := ⟨_, rfl⟩
  rw [← hb1, ← hb2] at HS ⊢
  clear hb1 hb2
  go_enter Try.func46, Try.ntmps46
  go_wp2_with (first | (go_at_call 81; refine (signed_calls (!b1) b2 _ _ _ _ hl HS.out).mono ?_; rintro e w1 ⟨rfl, hb1⟩; obtain ⟨hc1, hf1⟩ := bcell hb1; have hz1 : w.heap.size + 1 < w1.heap.size := (by have := hb1.size; simp at this; omega); have HB : Hd (Below w.heap.size w w1) := ⟨bel_then (by repeat (first | exact HB.out | exact Below.refl _ _ | refine below_alloc ?_ _ | refine below_drewN ?_ _ | refine below_drew ?_ | refine below_set ?_ (by first | exact Nat.le_refl _ | omega | (simp; done) | (simp; omega)) _)) hb1⟩; clear hb1))
  have g0 : w1.cell? ⟨w.heap.size + 1, 0, none⟩ = some (.bool false) := (hc1 _ _ (by simp)).trans (blk_second w _ [.bool false, .slice none 0 0] 38).c0
  have g1 : w1.cell? ⟨w.heap.size + 1, 1, none⟩ = some (.slice none 0 0) := (hc1 _ _ (by simp)).trans (blk_second w _ [.bool false, .slice none 0 0] 38).c1
  obtain ⟨k0, k1, k2⟩ := two_set g0 g1 (.bool b2) (.slice A (ln z.natAbs) c)
  refine bodyPost_ret (v := .agg #[.bool b2, .slice A (ln z.natAbs) c]) (by simp [results, Try.results46, go_sem, k0, k1]) rfl ?_
  exact ⟨rfl, by repeat (first | exact HB.out | exact Below.refl _ _ | refine below_alloc ?_ _ | refine below_drewN ?_ _ | refine below_drew ?_ | refine below_set ?_ (by first | exact Nat.le_refl _ | omega | (simp; done) | (simp; omega)) _)⟩
set_option maxRecDepth 100000 in
theorem rTimes_calls (x y : Int) (A1 : Option Addr) (c1 : Nat) (A2 : Option Addr) (c2 : Nat) (w : World) (h1 : NN w A1 c1 x.natAbs) (h2 : NN w A2 c2 y.natAbs) (l1 : ln x.natAbs ≤ 268435456) (l2 : ln y.natAbs ≤ 268435456) :
    Calls Try.prog 31 #[.agg #[.bool (decide (x < 0)), .slice A1 (ln x.natAbs) c1], .agg #[.bool (decide (y < 0)), .slice A2 (ln y.natAbs) c2]] w (RetZ (x * y) w) := by
  have HS := Hd.mk (sgn_mul x y)
  have HT := Hd.mk (fun W (hW : Below w.heap.size w W) => rtimes_calls A1 c1 x.natAbs A2 c2 y.natAbs W (h1.to hW) (h2.to hW) (by omega) (by omega))
  rw [← Int.natAbs_mul x y] at HT
  clear h1 h2
  obtain ⟨b1, hb1⟩ : ∃ b, b = decide (x < 0) := ⟨_, rfl⟩
  obtain ⟨b2, hb2⟩ : ∃ b, b = decide (y < 0) := ⟨_, rfl⟩
  obtain ⟨b3, hb3⟩ : ∃ b, b = decide (x * y < 0) := ⟨_, rfl⟩
  rw [← hb1, ← hb2] at HS ⊢
  rw [← hb3] at HS
  have HB3 := Hd.mk hb3
  clear hb1 hb2 hb3
  go_enter Try.func31, Try.ntmps31
  go_wp2_with fail
  obtain ⟨W0, hW0⟩ : ∃ W : World, W = ((w.alloc (.cells #[.bool b1, .slice A1 (ln x.natAbs) c1] 38)).alloc (.cells #[.bool b2, .slice A2 (ln y.natAbs) c2] 38)).alloc (.cells #[.bool false, .slice none 0 0] 38) := ⟨_, rfl⟩
  rw [← hW0]
  have HSZ : Hd (w.heap.size + 1 + 1 + 1 = W0.heap.size) := ⟨by rw [hW0]; simp⟩
  obtain ⟨hB0, hB1, hB2, hBW⟩ := boxes3 hW0
  have q0 := hB0.c0
  have q1 := hB0.c1
  have q2 := hB1.c0
  have q3 := hB1.c1
  have g0 := hB2.c0
  have g1 := hB2.c1
  have u0 := hB2.f0
  have u1 := hB2.f1
  have Q0 := Hd.mk hB0
  have Q1 := Hd.mk hB1
  have QR := Hd.mk hB2
  have HW := Hd.mk hBW
  have HB : Hd (Below W0.heap.size W0 W0) := ⟨Below.refl _ _⟩
  clear hB0 hB1 hB2 hBW hW0
  go_region_held3 (fun w' => w'.cell? ⟨w.heap.size, 0, none⟩ = some (.bool b1) ∧ w'.cell? ⟨w.heap.size, 1, none⟩ = some (.slice A1 (ln x.natAbs) c1) ∧ w'.cell? ⟨w.heap.size + 1, 0, none⟩ = some (.bool b2) ∧ w'.cell? ⟨w.heap.size + 1, 1, none⟩ = some (.slice A2 (ln y.natAbs) c2)) (first | exact ⟨q0, q1, q2, q3⟩ | (repeat' apply And.intro) <;> (first | exact q0 | exact q1 | exact q2 | exact q3 | (go_keep; done) | (rw [World.cell?_setCell_far _ _ _ _ (by first | (simp; done) | (simp; omega)), World.cell?_setCell_far _ _ _ _ (by first | (simp; done) | (simp; omega))]; first | exact q0 | exact q1 | exact q2 | exact q3)))
    (first | (go_at_call 82; refine (HT.out _ (bel_then HW.out (by repeat (first | exact HB.out | exact Below.refl _ _ | refine below_alloc ?_ _ | refine below_drewN ?_ _ | refine below_drew ?_ | refine below_set ?_ (by first | exact Nat.le_refl _ | omega | (simp; done) | (simp; omega)) _)))).mono ?_; rintro e w1 ⟨A3, c3, rfl, hn1, hb1⟩; have hl3 := Nat.le_trans hn1.2.1 hn1.2.2; have HN1 := Hd.mk hn1; clear hn1; have HB' : Hd (Below W0.heap.size W0 _) := ⟨bel_then (by repeat (first | exact HB.out | exact Below.refl _ _ | refine below_alloc ?_ _ | refine below_drewN ?_ _ | refine below_drew ?_ | refine below_set ?_ (by first | exact Nat.le_refl _ | omega | (simp; done) | (simp; omega)) _)) hb1⟩; clear HB; have HB := HB'; clear HB' hb1; replace q0 := (Q0.out.to HB.out).c0; replace q1 := (Q0.out.to HB.out).c1; replace q2 := (Q1.out.to HB.out).c0; replace q3 := (Q1.out.to HB.out).c1; replace g0 := (QR.out.to HB.out).c0; replace g1 := (QR.out.to HB.out).c1; replace u0 := (QR.out.to HB.out).f0; replace u1 := (QR.out.to HB.out).f1) | (go_at_call 81; refine (signed_calls (b1 != b2) b3 _ _ _ _ hl3 HS.out).mono ?_; rintro e w2 ⟨rfl, hb2⟩; have HN := Hd.mk (HN1.out.to hb2); clear HN1; have HB' : Hd (Below W0.heap.size W0 _) := ⟨bel_then (by repeat (first | exact HB.out | exact Below.refl _ _ | refine below_alloc ?_ _ | refine below_drewN ?_ _ | refine below_drew ?_ | refine below_set ?_ (by first | exact Nat.le_refl _ | omega | (simp; done) | (simp; omega)) _)) hb2⟩; clear HB; have HB := HB'; clear HB' hb2; replace q0 := (Q0.out.to HB.out).c0; replace q1 := (Q0.out.to HB.out).c1; replace q2 := (Q1.out.to HB.out).c0; replace q3 := (Q1.out.to HB.out).c1; replace g0 := (QR.out.to HB.out).c0; replace g1 := (QR.out.to HB.out).c1; replace u0 := (QR.out.to HB.out).f0; replace u1 := (QR.out.to HB.out).f1))
  go_wp2_with fail
  obtain ⟨k0, k1, k2⟩ := two_set g0 g1 (.bool b3) (.slice A3 (ln (x * y).natAbs) c3)
  refine bodyPost_ret (v := .agg #[.bool b3, .slice A3 (ln (x * y).natAbs) c3]) (by simp [results, Try.results31, go_sem, k0, k1]) rfl ?_
  exact ⟨A3, c3, by rw [HB3.out], (HN.out.set_ g0 (by intro t; simp) _).set_ k2 (by intro t; simp) _, (by repeat (first | exact bel_then HW.out HB.out | refine below_set ?_ (by first | exact Nat.le_refl _ | omega | (simp; done) | (simp; omega)) _ | refine below_alloc ?_ _ | refine below_drewN ?_ _ | refine below_drew ?_))⟩
end Go.Proofs.Ytcjcpfafalkceaa
