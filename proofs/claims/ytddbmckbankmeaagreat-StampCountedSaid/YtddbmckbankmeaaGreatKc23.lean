/- Part 23 of the texts behind this claim. -/
import Derived.Test.YtddbmckbankmeaaGreatKc16
import Derived.Test.YtddbmckbankmeaaGreatKc19
import Derived.Test.YtddbmckbankmeaaGreatKc21
import Derived.Test.YtddbmckbankmeaaGreatKc22
set_option linter.unusedVariables false
namespace Go.Proofs.YtddbmckbankmeaaGreat.Ex
open Go.RowKit
theorem ln_one_dig {b : Nat} (h : ln b = 1) : (dig b).getD 0 0 = b ∧ b < 4294967296 := by
 have hb : b ≠ 0 := fun e => by rw [e, ln_zero] at h; omega
 have h1 := lt_pow_ln b; rw [h, Nat.pow_one] at h1; refine ⟨?_, h1⟩; rw [dig_getD, Nat.pow_zero, Nat.div_one]; exact Nat.mod_eq_of_lt h1
set_option maxHeartbeats 1000000 in
set_option maxRecDepth 100000 in
theorem div_calls (A1 : Option Addr) (c1 a : Nat) (A2 : Option Addr) (c2 b : Nat) (w : World) (h1 : NN w A1 c1 a) (h2 : NN w A2 c2 b) (hb0 : b ≠ 0) (l1 : ln a ≤ 268435456) :
  Calls Tryz.prog 97 #[.slice A1 (ln a) c1, .slice A2 (ln b) c2] w (RetNN (a / b) (a % b) w) := by
 by_cases hlt : a < b
 ·have hq : a / b = 0 := Nat.div_eq_of_lt hlt; have hr : a % b = a := Nat.mod_eq_of_lt hlt; rw [hq, hr]; have hv : cmpv a b = -1 := by unfold cmpv; rw [if_pos hlt]
  have hc := cmp_calls A1 c1 a A2 c2 b w h1 h2; rw [hv] at hc; have HCMP := Hd.mk hc; have H1 := Hd.mk h1; clear h1 h2 hlt hb0 hq hr hv hc; go_enter Tryz.func97, Tryz.ntmps97
  go_wp2_with fail
  refine HCMP.out.mono ?_; rintro e w1 ⟨rfl, q0, rfl⟩; go_wp2_with fail
  go_ret2
  exact ⟨none, 0, A1, c1, by rw [ln_zero]; rfl, NN.nil _ _ _ (by omega), H1.out.to (by repeat (first | exact Below.refl _ _ | refine below_alloc ?_ _ | refine below_drewN ?_ _)), by repeat (first | exact Below.refl _ _ | refine below_alloc ?_ _ | refine below_drewN ?_ _)⟩
 by_cases hl : 2 ≤ ln b
 ·exact div_long A1 c1 a A2 c2 b w h1 h2 (by omega) hl l1
 have hl1 : ln b = 1 := by
  have : ln b ≠ 0 := fun h => hb0 (ln_eq_zero.1 h)
  omega
 obtain ⟨hbd, hbl⟩ := ln_one_dig hl1; obtain ⟨ad, rfl, hcell⟩ := h2.at_ (k := 0) (by omega); rw [hbd, Addr.add_zero'] at hcell
 have hcp : 0 ≤ cmpv a b := by
  unfold cmpv; rw [if_neg hlt]; split <;> omega
 have hc := cmp_calls A1 c1 a (some ad) c2 b w h1 h2; obtain ⟨cv, hcv⟩ : ∃ cv, cv = cmpv a b := ⟨_, rfl⟩; rw [← hcv] at hc hcp; rw [hl1] at hc ⊢; have HCMP := Hd.mk hc; have HSH := Hd.mk (fun W (hW : Below w.heap.size w W) => short_calls A1 c1 a b W (h1.to hW) (by omega) (by omega) hbl); clear h1 h2 hlt hb0 hcv hc hl hl1 hbd; go_enter Tryz.func97, Tryz.ntmps97
 go_wp2_with fail
 refine HCMP.out.mono ?_; rintro e w1 ⟨rfl, q0, rfl⟩; go_wp2_with fail
 refine (HSH.out _ (by repeat (first | exact Below.refl _ _ | refine below_alloc ?_ _ | refine below_drewN ?_ _))).mono ?_; rintro e wz ⟨A8, c8, A9, c9, rfl, hn8, hn9, hb9⟩; have HN8 := Hd.mk hn8; have HN9 := Hd.mk hn9; have HB9 := Hd.mk hb9; clear hn8 hn9 hb9; go_wp2_with fail
 go_ret2
 exact ⟨A8, c8, A9, c9, rfl, HN8.out, HN9.out, bel_then (by repeat (first | exact Below.refl _ _ | refine below_alloc ?_ _ | refine below_drewN ?_ _)) HB9.out⟩
set_option linter.unusedSimpArgs false
theorem ediv_pos {x : Int} {M : Nat} (hM : 0 < M) {q r : Int} (h : x = (M : Int) * q + r) (h0 : 0 ≤ r) (h1 : r < (M : Int)) : x / (M : Int) = q ∧ x % (M : Int) = r :=
 (Int.ediv_emod_unique (by omega)).2 ⟨by omega, h0, h1⟩
theorem ediv_nat (x : Int) {M : Nat} (hM : 0 < M) {Q R : Nat} (hQ : Q = x.natAbs / M) (hR : R = x.natAbs % M) :
  (x < 0 → R ≠ 0 → x / (M : Int) = -((Q + 1 : Nat) : Int) ∧ x % (M : Int) = ((M - R : Nat) : Int)) ∧
  (x < 0 → R = 0 → x / (M : Int) = -(Q : Int) ∧ x % (M : Int) = 0) ∧
  (0 ≤ x → x / (M : Int) = (Q : Int) ∧ x % (M : Int) = (R : Int)) := by
 have hd : x.natAbs = M * Q + R := by rw [hQ, hR]; exact (Nat.div_add_mod _ _).symm
 have hlt : R < M := by rw [hR]; exact Nat.mod_lt _ hM
 have hd2 : (x.natAbs : Int) = (M : Int) * (Q : Int) + (R : Int) := by rw [hd]; simp
 clear hd hQ hR; refine ⟨fun hx hr => ?_, fun hx hr => ?_, fun hx => ?_⟩
 ·apply ediv_pos hM
  ·rw [Int.mul_neg, Int.natCast_add, Int.mul_add, Int.natCast_one, Int.mul_one, Int.ofNat_sub (by omega)]; omega
  ·omega
  omega
 ·apply ediv_pos hM
  ·rw [Int.mul_neg]; omega
  ·omega
  omega
 apply ediv_pos hM
 ·omega
 ·omega
 omega
theorem ediv_abs (x y : Int) (hy : y ≠ 0) :
  (x < 0 → x.natAbs % y.natAbs ≠ 0 → (x / y).natAbs = x.natAbs / y.natAbs + 1 ∧ (x % y).natAbs = y.natAbs - x.natAbs % y.natAbs) ∧
  (¬ (x < 0 ∧ x.natAbs % y.natAbs ≠ 0) → (x / y).natAbs = x.natAbs / y.natAbs ∧ (x % y).natAbs = x.natAbs % y.natAbs) := by
 have hM : 0 < y.natAbs := by omega
 obtain ⟨Q, hQ⟩ : ∃ Q, Q = x.natAbs / y.natAbs := ⟨_, rfl⟩; obtain ⟨R, hR⟩ : ∃ R, R = x.natAbs % y.natAbs := ⟨_, rfl⟩; obtain ⟨e1, e2, e3⟩ := ediv_nat x hM hQ hR; have hlt : R < y.natAbs := by rw [hR]; exact Nat.mod_lt _ hM
 have hq : (x / y).natAbs = (x / (y.natAbs : Int)).natAbs ∧ x % y = x % (y.natAbs : Int) := by
  by_cases h : 0 ≤ y
  ·have h : (y.natAbs : Int) = y := by omega
   rw [h]; exact ⟨rfl, rfl⟩
  have h : (y.natAbs : Int) = -y := by omega
  rw [h, Int.ediv_neg, Int.emod_neg]; exact ⟨(Int.natAbs_neg _).symm, rfl⟩
 rw [hq.1, hq.2, ← hQ, ← hR]; obtain ⟨A, hA⟩ : ∃ A, A = x / (y.natAbs : Int) := ⟨_, rfl⟩; obtain ⟨C, hC⟩ : ∃ C, C = x % (y.natAbs : Int) := ⟨_, rfl⟩; rw [← hA, ← hC] at e1 e2 e3 ⊢; clear hA hC hq hQ hR; refine ⟨fun hx hr => ?_, fun h => ?_⟩
 ·obtain ⟨a, b⟩ := e1 hx hr; omega
 by_cases hx : x < 0
 ·have hr : R = 0 := by
   by_cases h0 : R = 0
   ·exact h0
   exact absurd ⟨hx, h0⟩ h
  obtain ⟨a, b⟩ := e2 hx hr; omega
 obtain ⟨a, b⟩ := e3 (by omega); omega
theorem ediv_sign (x y : Int) (hy : y ≠ 0) : ((decide (x < 0) != decide (y < 0)) && !decide (ln (x / y).natAbs = 0)) = decide (x / y < 0) := by
 have hM : 0 < y.natAbs := by omega
 have hz : decide (ln (x / y).natAbs = 0) = decide (x / y = 0) := by
  apply decide_eq_decide.2; rw [ln_eq_zero]; exact Int.natAbs_eq_zero
 rw [hz]; obtain ⟨Q1, hQ1⟩ : ∃ Q, Q = x.natAbs / y.natAbs := ⟨_, rfl⟩; obtain ⟨R, hR⟩ : ∃ R, R = x.natAbs % y.natAbs := ⟨_, rfl⟩; obtain ⟨e1, e2, e3⟩ := ediv_nat x hM hQ1 hR
 have hs : (x < 0 → x / (y.natAbs : Int) ≤ 0) ∧ (0 ≤ x → 0 ≤ x / (y.natAbs : Int)) := by
  refine ⟨fun hx => ?_, fun hx => ?_⟩
  ·by_cases hr : R = 0
   ·rw [(e2 hx hr).1]; omega
   rw [(e1 hx hr).1]; omega
  rw [(e3 hx).1]; omega
 obtain ⟨Q, hQ⟩ : ∃ Q, Q = x / (y.natAbs : Int) := ⟨_, rfl⟩; rw [← hQ] at hs; clear e1 e2 e3 hR hQ1; by_cases hy0 : y < 0
 ·have : x / y = -Q := by
   rw [hQ, show (y.natAbs : Int) = -y by omega, Int.ediv_neg, Int.neg_neg]
  rw [this]; by_cases hx : x < 0
  ·have := hs.1 hx; simp [hx, hy0]; omega
  have := hs.2 (by omega); by_cases hq0 : Q = 0
  ·simp [hx, hy0, hq0]
  have h1 : 0 < Q := by omega
  simp [hx, hy0, hq0]; omega
 have : x / y = Q := by rw [hQ, show (y.natAbs : Int) = y by omega]
 rw [this]; by_cases hx : x < 0
 ·have := hs.1 hx; by_cases hq0 : Q = 0
  ·simp [hx, hy0, hq0]
  simp [hx, hy0, hq0]; omega
 have := hs.2 (by omega); simp [hx, hy0]; omega
theorem emod_sign (x y : Int) (hy : y ≠ 0) : decide (x % y < 0) = false := decide_eq_false (by have := Int.emod_nonneg x hy; omega)
section
variable {w W : World} {x0 x1 y0 y1 r0 r1 s0 s1 : Value} {t1 t2 t3 t4 : TypeId}
theorem boxes4 (h : W = (((w.alloc (.cells #[x0, x1] t1)).alloc (.cells #[y0, y1] t2)).alloc (.cells #[r0, r1] t3)).alloc (.cells #[s0, s1] t4)) : Blk W w.heap.size t1 [x0, x1] ∧ Blk W (w.heap.size + 1) t2 [y0, y1] ∧ Blk W (w.heap.size + 1 + 1) t3 [r0, r1] ∧ Blk W (w.heap.size + 1 + 1 + 1) t4 [s0, s1] ∧ Below w.heap.size w W := by
 obtain ⟨a, b, c, d⟩ := boxes3 (w := w) (x0 := x0) (x1 := x1) (y0 := y0) (y1 := y1) (r0 := r0) (r1 := r1) (t1 := t1) (t2 := t2) (t3 := t3) rfl; subst h; refine ⟨a.alloc _, b.alloc _, c.alloc _, ?_, below_alloc d _⟩; have h : (((w.alloc (.cells #[x0, x1] t1)).alloc (.cells #[y0, y1] t2)).alloc (.cells #[r0, r1] t3)).heap.size = w.heap.size + 1 + 1 + 1 := by simp
 rw [← h]; exact heap_alloc_new _ _
end
def RetZZ (z z2 : Int) (w : World) (e : Ending) (w' : World) : Prop := ∃ A c A' c', e = .returned (.tuple #[.agg #[.bool (decide (z < 0)), .slice A (ln z.natAbs) c], .agg #[.bool (decide (z2 < 0)), .slice A' (ln z2.natAbs) c']]) ∧ NN w' A c z.natAbs ∧ NN w' A' c' z2.natAbs ∧ Below w.heap.size w w'
theorem four_set {w1 : World} {g h : Nat} {x0 x1 y0 y1 : Value} (h0 : w1.cell? ⟨g, 0, none⟩ = some x0) (h1 : w1.cell? ⟨g, 1, none⟩ = some x1) (i0 : w1.cell? ⟨h, 0, none⟩ = some y0) (i1 : w1.cell? ⟨h, 1, none⟩ = some y1) (hne : g ≠ h) (u v u' v' : Value) :
  let w2 := (w1.setCell ⟨g, 0, none⟩ u).setCell ⟨g, 1, none⟩ v
  let w3 := (w2.setCell ⟨h, 0, none⟩ u').setCell ⟨h, 1, none⟩ v'
  w3.cell? ⟨g, 0, none⟩ = some u ∧ w3.cell? ⟨g, 1, none⟩ = some v ∧ w3.cell? ⟨h, 0, none⟩ = some u' ∧ w3.cell? ⟨h, 1, none⟩ = some v' ∧ (w1.setCell ⟨g, 0, none⟩ u).cell? ⟨g, 1, none⟩ = some x1 ∧ w2.cell? ⟨h, 0, none⟩ = some y0 ∧ (w2.setCell ⟨h, 0, none⟩ u').cell? ⟨h, 1, none⟩ = some y1 := by
 intro w2 w3; obtain ⟨a, b, c⟩ := two_set h0 h1 u v; have j0 : w2.cell? ⟨h, 0, none⟩ = some y0 := (World.cell?_setCell_other _ _ _ _ (by simp [hne, Ne.symm hne])).trans ((World.cell?_setCell_other _ _ _ _ (by simp [hne, Ne.symm hne])).trans i0); have j1 : w2.cell? ⟨h, 1, none⟩ = some y1 := (World.cell?_setCell_other _ _ _ _ (by simp [hne, Ne.symm hne])).trans ((World.cell?_setCell_other _ _ _ _ (by simp [hne, Ne.symm hne])).trans i1); obtain ⟨d, e, f⟩ := two_set j0 j1 u' v'; exact ⟨(World.cell?_setCell_other _ _ _ _ (by simp [hne, Ne.symm hne])).trans ((World.cell?_setCell_other _ _ _ _ (by simp [hne, Ne.symm hne])).trans a), (World.cell?_setCell_other _ _ _ _ (by simp [hne, Ne.symm hne])).trans ((World.cell?_setCell_other _ _ _ _ (by simp [hne, Ne.symm hne])).trans b), d, e, c, j0, f⟩
def HZ (w : World) (g : Nat) (t : TypeId) (z : Int) : Prop := ∃ A c, Blk w g t [.bool (decide (z < 0)), .slice A (ln z.natAbs) c] ∧ NN w A c z.natAbs
def HB2 (w : World) (g : Nat) (t : TypeId) : Prop := ∃ b A l c, Blk w g t [.bool b, .slice A l c]
section
variable {w w' : World} {g h : Nat} {t t' : TypeId} {z z' : Int} {v : Value}
theorem HZ.to (hz : HZ w g t z) (hb : Below w.heap.size w w') : HZ w' g t z := let ⟨A, c, h1, h2⟩ := hz; ⟨A, c, h1.to hb, h2.to hb⟩
theorem HZ.any (hz : HZ w g t z) : HB2 w g t := let ⟨A, c, h1, _⟩ := hz; ⟨_, _, _, _, h1⟩
theorem HZ.lt (hz : HZ w g t z) : g < w.heap.size := let ⟨_, _, h1, _⟩ := hz; h1.lt
theorem HB2.lt (hz : HB2 w g t) : g < w.heap.size := let ⟨_, _, _, _, h1⟩ := hz; h1.lt
theorem HB2.to (hz : HB2 w g t) (hb : Below w.heap.size w w') : HB2 w' g t := let ⟨b, A, l, c, h1⟩ := hz; ⟨b, A, l, c, h1.to hb⟩
theorem isZ.to (hz : (isZ z).p v w) (hb : Below w.heap.size w w') : (isZ z).p v w' := (isZ z).st _ _ _ hz hb
def put2 (w : World) (g : Nat) (u v : Value) : World := (w.setCell ⟨g, 0, none⟩ u).setCell ⟨g, 1, none⟩ v
theorem NN.put {A : Option Addr} {c n : Nat} (hn : NN w A c n) (hb : HB2 w g t) (u v : Value) : NN (put2 w g u v) A c n := let ⟨_, _, _, _, h1⟩ := hb; nn_put2 hn h1
theorem HZ.put (hz : HZ w h t' z) (hb : HB2 w g t) (hne : h ≠ g) (u v : Value) : HZ (put2 w g u v) h t' z := let ⟨A, c, h1, h2⟩ := hz; ⟨A, c, blk_far2 h1 hne, h2.put hb u v⟩
theorem HB2.put (hz : HB2 w h t') (hne : h ≠ g) (u v : Value) : HB2 (put2 w g u v) h t' := let ⟨b, A, l, c, h1⟩ := hz; ⟨b, A, l, c, blk_far2 h1 hne⟩
theorem HZ.set {A : Option Addr} {c : Nat} (hb : HB2 w g t) (hn : NN w A c z.natAbs) : HZ (put2 w g (.bool (decide (z < 0))) (.slice A (ln z.natAbs) c)) g t z :=
 let ⟨_, _, _, _, h1⟩ := hb; ⟨A, c, blk_put2 h1, hn.put hb _ _⟩
theorem isZ.put (hz : (isZ z).p v w) (hb : HB2 w g t) (u x : Value) : (isZ z).p v (put2 w g u x) := let ⟨A, c, h1, h2⟩ := hz; ⟨A, c, h1, h2.put hb u x⟩
end
section
variable {w wx w0 : World} {g g1 g2 h : Nat} {t t' t1 t2 : TypeId} {z : Int}
end
section
variable {P : Program} {f : Nat} {w : World} {x y z : Int} {v1 v2 : Value} {R : Value → World → Prop} {R0 : Ending → World → Prop}
def Got (w : World) (R : Value → World → Prop) (e : Ending) (w' : World) : Prop := ∃ v, e = .returned v ∧ Below w.heap.size w w' ∧ R v w'
theorem RetZ.got {e : Ending} {w' : World} (h : RetZ z w e w') : Got w (isZ z).p e w' := let ⟨A, c, he, hn, hb⟩ := h; ⟨_, he, hb, A, c, rfl, hn⟩
theorem RetN.got {n : Nat} {e : Ending} {w' : World} (h : RetN n w e w') : Got w (isN n).p e w' := let ⟨A, c, he, hn, hb⟩ := h; ⟨_, he, hb, A, c, rfl, hn⟩
theorem RetZZ.got {e : Ending} {w' : World} (h : RetZZ x y w e w') : Got w (isZZ x y).p e w' := let ⟨A, c, A', c', he, h1, h2, hb⟩ := h; ⟨_, he, hb, A, c, A', c', rfl, h1, h2⟩
theorem drew_got {u : Value} {e : Ending} {w' : World} (h : e = .returned u ∧ ∃ q, w' = w.drewN q) : Got w (isV u).p e w' := by
 obtain ⟨h1, q, rfl⟩ := h; exact ⟨u, h1, below_drewN (Below.refl _ _) _, rfl⟩
theorem z2 (hC : ∀ A1 c1 A2 c2, NN w A1 c1 x.natAbs → NN w A2 c2 y.natAbs → Calls P f #[.agg #[.bool (decide (x < 0)), .slice A1 (ln x.natAbs) c1], .agg #[.bool (decide (y < 0)), .slice A2 (ln y.natAbs) c2]] w R0)
  (hR : ∀ e w', R0 e w' → Got w R e w') (h1 : (isZ x).p v1 w) (h2 : (isZ y).p v2 w) : Calls P f #[v1, v2] w (Got w R) := by
 obtain ⟨A1, c1, rfl, n1⟩ := h1; obtain ⟨A2, c2, rfl, n2⟩ := h2; exact (hC A1 c1 A2 c2 n1 n2).mono hR
theorem z1 (hC : ∀ A1 c1, NN w A1 c1 x.natAbs → Calls P f #[.agg #[.bool (decide (x < 0)), .slice A1 (ln x.natAbs) c1]] w R0)
  (hR : ∀ e w', R0 e w' → Got w R e w') (h1 : (isZ x).p v1 w) : Calls P f #[v1] w (Got w R) := by
 obtain ⟨A1, c1, rfl, n1⟩ := h1; exact (hC A1 c1 n1).mono hR
theorem n2 {m n : Nat} (hC : ∀ A1 c1 A2 c2, NN w A1 c1 m → NN w A2 c2 n → Calls P f #[.slice A1 (ln m) c1, .slice A2 (ln n) c2] w R0)
  (hR : ∀ e w', R0 e w' → Got w R e w') (h1 : (isN m).p v1 w) (h2 : (isN n).p v2 w) : Calls P f #[v1, v2] w (Got w R) := by
 obtain ⟨A1, c1, rfl, n1⟩ := h1; obtain ⟨A2, c2, rfl, n2⟩ := h2; exact (hC A1 c1 A2 c2 n1 n2).mono hR
theorem n1 {m : Nat} (hC : ∀ A1 c1, NN w A1 c1 m → Calls P f #[.slice A1 (ln m) c1] w R0)
  (hR : ∀ e w', R0 e w' → Got w R e w') (h1 : (isN m).p v1 w) : Calls P f #[v1] w (Got w R) := by
 obtain ⟨A1, c1, rfl, n1⟩ := h1; exact (hC A1 c1 n1).mono hR
end
section
variable {P : Program} {Q : Exit → Act → World → Prop} {o : Oper} {a : Act} {w : World} {d : Nat} {R : Value → World → Prop} {f : Nat} {x1 x2 : Operand} {ts : Array TypeId}
theorem op_call1 (ho : o.op = .call { callee := .value (.func f), args := #[x1], argTypes := ts }) (hd : o.dst = some d)
  (hcf : ∀ args w, (callFunc f args).run P w = .ok (.enter f args) w) (hc : Calls P f #[a.eval x1] w (Got w R)) : o.wp P a w (Post a w d R) Q :=
 op_call ho hd hcf (by simp) hc
theorem op_call2 (ho : o.op = .call { callee := .value (.func f), args := #[x1, x2], argTypes := ts }) (hd : o.dst = some d)
  (hcf : ∀ args w, (callFunc f args).run P w = .ok (.enter f args) w) (hc : Calls P f #[a.eval x1, a.eval x2] w (Got w R)) : o.wp P a w (Post a w d R) Q :=
 op_call ho hd hcf (by simp) hc
end
section
variable {Q : Exit → Act → World → Prop} {o : Oper} {a : Act} {w : World} {d : Nat} {z : Int} {g : Nat} {x : Operand}
theorem op_fieldW (ho : o.op = .fieldAddr 100 x 1) (hx : a.eval x = .pointer (some ⟨g, 0, none⟩)) (w : World) : (execOp a.eval o).run Tryz.prog w = .ok (.value (.pointer (some ⟨g, 1, none⟩))) w := by
 unfold execOp; simp only [ho, hx]; simp [go_sem]
theorem load_nat {v : Value} (h : w.cell? ⟨g, 1, none⟩ = some v) : (Instr.loadAt 98 (.pointer (some ⟨g, 1, none⟩))).run Tryz.prog w = .ok v w := by
 simp [go_sem, h]
theorem op_magW (ho : o.op = .load 98 x) (hd : o.dst = some d) (hx : a.eval x = .pointer (some ⟨g, 1, none⟩)) (hz : HZ w g 100 z) : o.wp Tryz.prog a w (Post a w d (isN z.natAbs).p) Q :=
 let ⟨A, c, h1, h2⟩ := hz; op_load ho hd hx (load_nat h1.c1) ⟨A, c, rfl, h2⟩
theorem op_leq0 {ty : TypeId} {k : Int} (ho : o.op = .binOp .leq 3 x (.const (.int .i64 0)) ty) (hx : a.eval x = .int .i64 k) (w : World) : (execOp a.eval o).run Tryz.prog w = .ok (.value (.bool (decide (k ≤ 0)))) w := by
 unfold execOp; have hc : a.eval (.const (.int .i64 0)) = .int .i64 0 := rfl; simp only [ho, hx, hc]; simp [go_sem]
end
section
variable {w W : World} {t1 t2 t3 t4 t5 : TypeId} {x0 x1 y0 y1 r0 r1 s0 s1 p0 p1 : Value}
end
theorem ln_word {d : Nat} (h : d < 4294967296) : ln d ≤ 1 := ln_le (by rw [Nat.pow_one]; exact h)
theorem cmpv_le {m n : Nat} (h : m ≤ n) : cmpv m n ≤ 0 := by unfold cmpv; split; · omega
                                                             rw [if_pos (by omega)]; omega
theorem cmpv_gt {m n : Nat} (h : n < m) : cmpv m n = 1 := by unfold cmpv; rw [if_neg (by omega), if_neg (by omega)]
def zpow (x : Int) (n : Nat) : Int := x ^ n
theorem zpow_zero (x : Int) : zpow x 0 = 1 := Int.pow_zero x
theorem zpow_succ (x : Int) (n : Nat) : zpow x (n + 1) = zpow x n * x := Int.pow_succ x n
def RetPow (x : Int) (n most : Nat) (w : World) (e : Ending) (w' : World) : Prop := ∃ (z : Int) (ok : Bool) (A : Option Addr) (c : Nat), e = .returned (.tuple #[.agg #[.bool (decide (z < 0)), .slice A (ln z.natAbs) c], .bool ok]) ∧ NN w' A c z.natAbs ∧ Below w.heap.size w w' ∧
 (ok = true → z = zpow x n) ∧ (ok = false → most < ln (zpow x n).natAbs) ∧ ln z.natAbs ≤ most + ln x.natAbs + 1
theorem pow_small {x : Int} (h : x.natAbs ≤ 1) {n : Nat} (hn : 0 < n) : zpow x n = if x < 0 ∧ n % 2 = 0 then x * x else x := by
 unfold zpow; have hx : x = 0 ∨ x = 1 ∨ x = -1 := by omega
 rcases hx with rfl | rfl | rfl
 ·rw [if_neg (by omega), Int.zero_pow (by omega)]
 ·rw [if_neg (by omega), Int.one_pow]
 rcases Nat.mod_two_eq_zero_or_one n with h0 | h0
 ·rw [if_pos ⟨by omega, h0⟩]; obtain ⟨k, rfl⟩ : ∃ k, n = 2 * k := ⟨n / 2, by omega⟩; rw [Int.pow_mul, show (-1 : Int) ^ 2 = 1 from rfl, Int.one_pow]; rfl
 rw [if_neg (by omega)]; obtain ⟨k, rfl⟩ : ∃ k, n = 2 * k + 1 := ⟨n / 2, by omega⟩; rw [Int.pow_succ, Int.pow_mul, show (-1 : Int) ^ 2 = 1 from rfl, Int.one_pow]; rfl
theorem pow_grow {x : Int} (h : 1 < x.natAbs) {i n : Nat} (hi : i ≤ n) : ln (zpow x i).natAbs ≤ ln (zpow x n).natAbs := by
 unfold zpow; rw [Int.natAbs_pow, Int.natAbs_pow]; exact ln_mono (Nat.pow_le_pow_right (by omega) hi)
theorem small_one (w : World) : Calls Tryz.prog 92 #[.int .u64 1] w (Got w (isN 1).p) := (small_calls 1 (by decide) w).mono fun e w' h => h.got
set_option maxHeartbeats 200000 in
set_option maxRecDepth 100000 in
theorem power_calls (x : Int) (n most : Nat) (A1 : Option Addr) (c1 : Nat) (w : World) (h1 : NN w A1 c1 x.natAbs) (l1 : ln x.natAbs ≤ 1000) (ln_ : n ≤ 1000000) (lm : most ≤ 1000) :
  Calls Tryz.prog 58 #[.agg #[.bool (decide (x < 0)), .slice A1 (ln x.natAbs) c1], .int .i64 (n : Int), .int .i64 (most : Int)] w (RetPow x n most w) := by
 have H1 := Hd.mk h1; clear h1; obtain ⟨b1, hb1⟩ : ∃ b, b = decide (x < 0) := ⟨_, rfl⟩; have HB1 := Hd.mk hb1; rw [← hb1]; clear hb1; go_enter Tryz.func58, Tryz.ntmps58
 go_wp2_with fail
 obtain ⟨W0, hW0⟩ : ∃ W : World, W = (w.alloc (.cells #[.bool b1, .slice A1 (ln x.natAbs) c1] 100)).alloc (.cells #[.bool false, .slice none 0 0] 100) := ⟨_, rfl⟩; rw [← hW0]; obtain ⟨hX, hR, hbw⟩ := boxes2 hW0; have HW := Hd.mk hbw; have QX := Hd.mk hX; have QR := Hd.mk hR; have HNX := Hd.mk (H1.out.to hbw); clear hW0 hX hR hbw; refine (ofInt_calls 1 _ (by omega) (by omega)).mono ?_; rintro e w1 ⟨A2, c2, rfl, hn2, hb2⟩; go_wp2_with fail
 obtain ⟨W1, hW1⟩ : ∃ W : World, W = w1.alloc (.cells #[.bool false, .slice A2 (ln 1) c2] 100) := ⟨_, rfl⟩; rw [← hW1]; have HO1 : Hd (HZ W1 w1.heap.size 100 1) := ⟨by rw [hW1]; exact ⟨A2, c2, heap_alloc_new _ _, hn2.to (below_alloc (Below.refl _ _) _)⟩⟩; have HB : Hd (Below W0.heap.size W0 W1) := ⟨by rw [hW1]; exact below_alloc hb2 _⟩; have HG : Hd (W0.heap.size ≤ w1.heap.size) := ⟨hb2.size⟩; obtain ⟨g8, hg8⟩ : ∃ g, g = w1.heap.size := ⟨_, rfl⟩; rw [← hg8] at HO1 HG ⊢; clear hW1 hg8 hn2 hb2; have HSX : Hd (w.heap.size + 1 < W0.heap.size) := ⟨QR.out.lt⟩; have hln0 : ln x.natAbs ≤ 1000 := l1; go_loopw [1] (fun s1 wr => ∃ (k i : Nat), s1 = .int .i64 (k : Int) ∧ i + k = n ∧ (i = 0 ∨ 1 < x.natAbs) ∧ HZ wr g8 100 (zpow x i) ∧ ln (zpow x i).natAbs ≤ most + 1 ∧ Below W0.heap.size W0 wr) (fun s1 _ => (intOf s1).toNat)
 case atStart => exact ⟨n, 0, rfl, by omega, .inl rfl, by rw [zpow_zero]; exact HO1.out, by rw [zpow_zero]; have := ln_word (d := 1) (by omega); show ln 1 ≤ _; omega, HB.out⟩
 case round =>
  obtain ⟨k, i, rfl, hik, hi0, hz, hlz, hbel⟩ := hrel; have HIK := Hd.mk hik; have HI0 := Hd.mk hi0; have HBW := Hd.mk hbel; have HZI := Hd.mk hz; have hkl : k ≤ 1000000 := by omega
  clear hik hi0 hbel hz HO1 HB; by_cases hk : k = 0
  ·subst hk; have hin : i = n := by have := HIK.out; omega
   rw [hin] at HZI hlz; obtain ⟨A3, c3, hB3, hn3⟩ := HZI.out; have HN := Hd.mk hn3; have x0 := hB3.c0; have x1 := hB3.c1; have g0 := (QR.out.to HBW.out).c0; have g1 := (QR.out.to HBW.out).c1; have u0 := (QR.out.to HBW.out).f0; have u1 := (QR.out.to HBW.out).f1; clear hin HIK HI0 HZI hB3 hn3; go_wp2_with fail
   have HB := HBW; obtain ⟨k0, k1, k2⟩ := two_set g0 g1 (.bool (decide (zpow x n < 0))) (.slice A3 (ln (zpow x n).natAbs) c3); refine bodyPost_ret (v := .tuple #[.agg #[.bool (decide (zpow x n < 0)), .slice A3 (ln (zpow x n).natAbs) c3], .bool true]) (by simp [results, Tryz.results58, go_sem, k0, k1]) rfl ?_; exact ⟨zpow x n, true, A3, c3, rfl, ((HN.out.set_ g0 (by intro t; simp) _).set_ k2 (by intro t; simp) _), (by repeat (first | exact bel_then HW.out HB.out | refine below_set ?_ (by first | exact Nat.le_refl _ | omega | (simp; done) | (simp; omega)) _ | refine below_alloc ?_ _ | refine below_drewN ?_ _ | refine below_drew ?_)), fun _ => rfl, (fun h => by cases h), by omega⟩
  have hk0 : (0 : Int) < (k : Int) := by omega
  clear hk; go_wp2_with fail
  refine wp_region_vs 5 [14, 15, 16, 17, 18] [0, 4] [] 100 [.bool false, .slice none 0 0] [isV (.pointer (some ⟨w.heap.size, 1, none⟩)), isN x.natAbs, isN 1, qI (cmpv x.natAbs 1), isV (.bool (decide (cmpv x.natAbs 1 ≤ 0)))] (by kernel_rfl) (by kernel_rfl) (by kernel_rfl) (by rfl) alloc_whole (fun d v c a w h => by cases d <;> exact h) ?_ ?_
  ·intro j hj hA a wx hb hs hd
   have HX : HZ wx w.heap.size 100 x := by
    have := (QX.out.to (bel_then HBW.out hb)); rw [HB1.out] at this; exact ⟨_, _, this, HNX.out.to (bel_then HBW.out hb)⟩
   match j, hj, hA with
   | 0, _, _ => exact ⟨_, op_fieldW rfl (hs 3 rfl), rfl⟩ | 1, _, _ => exact op_magW rfl rfl (hd 0 rfl) HX | 2, _, _ => exact op_call1 rfl rfl Tryz.call92 (small_one wx) | 3, _, _ => exact op_call2 rfl rfl Tryz.call91 (n2 (fun A1 c1 A2 c2 h1 h2 => cmp_calls A1 c1 x.natAbs A2 c2 1 wx h1 h2) (fun e w' h => drew_got h) (hd 1 rfl) (hd 2 rfl)) | 4, _, _ => exact ⟨_, op_leq0 rfl (hd 3 rfl), rfl⟩ | j + 5, h, _ => omega
  intro vs wx hb hv hal hne; have e18 : vs 18 = .bool (decide (cmpv x.natAbs 1 ≤ 0)) := hv 4 (by decide) rfl; simp only [PA, e18]; have HBX : Hd (Below W0.heap.size W0 wx) := ⟨bel_then HBW.out hb⟩; have HZX := Hd.mk (HZI.out.to hb); clear hv hal hne e18 hb HBW HZI; have HB := HBX; have q0 := (QX.out.to HB.out).c0; have q1 := (QX.out.to HB.out).c1; have g0 := (QR.out.to HB.out).c0; have g1 := (QR.out.to HB.out).c1; have u0 := (QR.out.to HB.out).f0; have u1 := (QR.out.to HB.out).f1; have HNY := Hd.mk (HNX.out.to HB.out); by_cases hx1 : x.natAbs ≤ 1
  ·have hd1 : decide (cmpv x.natAbs 1 ≤ 0) = true := decide_eq_true (cmpv_le hx1); rw [hd1]; have hi : i = 0 := by rcases HI0.out with h | h <;> omega
   have hkn : k = n := by have := HIK.out; omega
   subst hkn; have hps := pow_small (x := x) hx1 (show 0 < k by omega); by_cases hneg : x < 0 ∧ k % 2 = 0
   ·have HPS : Hd (zpow x k = x * x) := ⟨by rw [hps, if_pos hneg]⟩; have hb1t : b1 = true := by rw [HB1.out]; exact decide_eq_true hneg.1
    have hk2 : ((k : Int) % 2 == 0) = true := by rw [beq_iff_eq]; omega
    have HM := Hd.mk (wmul_calls x x A1 c1 A1 c1 wx HNY.out HNY.out (by omega) (by omega)); rw [← HB1.out] at HM; subst hb1t
    have hlm : ln (x * x).natAbs ≤ ln x.natAbs + 1 := by
     rw [Int.natAbs_mul]; refine Nat.le_trans (ln_mul _ _) ?_; have : ln x.natAbs ≤ 1 := ln_word (by omega); omega
    clear hx1 hd1 hi hps hneg; go_wp2_with fail
    refine HM.out.mono ?_; rintro e w5 ⟨A5, c5, rfl, hn5, hb5⟩; have HN5 := Hd.mk hn5; replace HB := Hd.mk (bel_then HB.out hb5); clear hn5 hb5 q0 q1 g0 g1 u0 u1; have g0 := (QR.out.to HB.out).c0; have g1 := (QR.out.to HB.out).c1; have u0 := (QR.out.to HB.out).f0; have u1 := (QR.out.to HB.out).f1; obtain ⟨zz, hzz⟩ : ∃ z, z = x * x := ⟨_, rfl⟩; rw [← hzz] at HPS HN5 hlm ⊢; clear hzz; go_wp2_with fail
    obtain ⟨k0, k1, k2⟩ := two_set g0 g1 (.bool (decide (zz < 0))) (.slice A5 (ln zz.natAbs) c5); refine bodyPost_ret (v := .tuple #[.agg #[.bool (decide (zz < 0)), .slice A5 (ln zz.natAbs) c5], .bool true]) (by simp [results, Tryz.results58, go_sem, k0, k1]) rfl ?_; exact ⟨zz, true, A5, c5, rfl, ((HN5.out.set_ g0 (by intro t; simp) _).set_ k2 (by intro t; simp) _), (by repeat (first | exact bel_then HW.out HB.out | refine below_set ?_ (by first | exact Nat.le_refl _ | omega | (simp; done) | (simp; omega)) _ | refine below_alloc ?_ _ | refine below_drewN ?_ _ | refine below_drew ?_)), fun _ => HPS.out.symm, (fun h => by cases h), by omega⟩
   have HPS : Hd (zpow x k = x) := ⟨by rw [hps, if_neg hneg]⟩
   have hk2 : b1 = true → ((k : Int) % 2 == 0) = false := fun h => by
    rw [beq_eq_false_iff_ne]; have : x < 0 := by rw [h] at HB1; exact of_decide_eq_true HB1.out.symm
    omega
   clear hx1 hd1 hi hps hneg; rcases b1 with _ | _
   ·clear hk2; go_wp2_with fail
    obtain ⟨k0, k1, k2⟩ := two_set g0 g1 (.bool false) (.slice A1 (ln x.natAbs) c1); refine bodyPost_ret (v := .tuple #[.agg #[.bool false, .slice A1 (ln x.natAbs) c1], .bool true]) (by simp [results, Tryz.results58, go_sem, k0, k1]) rfl ?_; exact ⟨x, true, A1, c1, by rw [← HB1.out], ((HNY.out.set_ g0 (by intro t; simp) _).set_ k2 (by intro t; simp) _), (by repeat (first | exact bel_then HW.out HB.out | refine below_set ?_ (by first | exact Nat.le_refl _ | omega | (simp; done) | (simp; omega)) _ | refine below_alloc ?_ _ | refine below_drewN ?_ _ | refine below_drew ?_)), fun _ => HPS.out.symm, (fun h => by cases h), by omega⟩
   have hk2 := hk2 rfl; go_wp2_with fail
   obtain ⟨k0, k1, k2⟩ := two_set g0 g1 (.bool true) (.slice A1 (ln x.natAbs) c1); refine bodyPost_ret (v := .tuple #[.agg #[.bool true, .slice A1 (ln x.natAbs) c1], .bool true]) (by simp [results, Tryz.results58, go_sem, k0, k1]) rfl ?_; exact ⟨x, true, A1, c1, by rw [← HB1.out], ((HNY.out.set_ g0 (by intro t; simp) _).set_ k2 (by intro t; simp) _), (by repeat (first | exact bel_then HW.out HB.out | refine below_set ?_ (by first | exact Nat.le_refl _ | omega | (simp; done) | (simp; omega)) _ | refine below_alloc ?_ _ | refine below_drewN ?_ _ | refine below_drew ?_)), fun _ => HPS.out.symm, (fun h => by cases h), by omega⟩
  have hd1 : decide (cmpv x.natAbs 1 ≤ 0) = false := decide_eq_false (by rw [cmpv_gt (by omega)]; omega); rw [hd1]; have HX1 : Hd (1 < x.natAbs) := ⟨by omega⟩; obtain ⟨A3, c3, hB3, hn3⟩ := HZX.out; have HN3 := Hd.mk hn3; have HB3 := Hd.mk hB3; have x0 := hB3.c0; have x1 := hB3.c1; have HM := Hd.mk (wmul_calls (zpow x i) x A3 c3 A1 c1 wx hn3 HNY.out (by omega) (by omega)); rw [← HB1.out, ← zpow_succ] at HM; clear hx1 hd1 hB3 hn3 HZX; go_wp2_with fail
  refine HM.out.mono ?_; rintro e w5 ⟨A5, c5, rfl, hn5, hb5⟩; have HK5 := Hd.mk (HB3.out.to hb5); have HN5 := Hd.mk hn5; replace HB := Hd.mk (bel_then HB.out hb5); clear HB3 HN3 q0 q1 x0 x1 g0 g1 u0 u1 hb5
  have hlz5 : ln (zpow x (i + 1)).natAbs ≤ most + 1 + ln x.natAbs := by
   rw [zpow_succ, Int.natAbs_mul]; exact Nat.le_trans (ln_mul _ _) (by omega)
  have x0 := HK5.out.c0; have x1 := HK5.out.c1; have y0 := HK5.out.f0; have y1 := HK5.out.f1; obtain ⟨zz, hzz⟩ : ∃ z, z = zpow x (i + 1) := ⟨_, rfl⟩; have HZZ := Hd.mk hzz; rw [← hzz] at HN5 hn5 hlz5 ⊢; clear hzz hlz; go_upto_region 9 with fail
  obtain ⟨W9, hW9⟩ : ∃ W, W = put2 w5 g8 (.bool (decide (zz < 0))) (.slice A5 (ln zz.natAbs) c5) := ⟨_, rfl⟩; unfold put2 at hW9; rw [← hW9]; have HZ9 : Hd (HZ W9 g8 100 zz) := ⟨by rw [hW9]; exact HZ.set ⟨_, _, _, _, HK5.out⟩ HN5.out⟩; have hb9 : Below W0.heap.size W0 W9 := by rw [hW9]; exact below_put2 HB.out HG.out
  have hn9 : NN W9 A5 c5 zz.natAbs := by rw [hW9]; exact nn_put2 HN5.out HK5.out
  have hk9 : Blk W9 g8 100 [.bool (decide (zz < 0)), .slice A5 (ln zz.natAbs) c5] := by rw [hW9]; exact blk_put2 HK5.out
  clear hW9 HK5 HN5 x0 x1 y0 y1 hn5; have HB9 := Hd.mk hb9; have HN9 := Hd.mk hn9; have x0 := hk9.c0; have x1 := hk9.c1; clear hk9 hb9 hn9 HB; have HB := HB9; clear HB9; by_cases hmo : most < ln zz.natAbs
  ·have hmo' : decide (most < ln zz.natAbs) = true := decide_eq_true hmo; have HMO := Hd.mk hmo; have HLE : Hd (ln zz.natAbs ≤ ln (zpow x n).natAbs) := ⟨by rw [HZZ.out]; exact pow_grow HX1.out (by have := HIK.out; omega)⟩; have g0 := (QR.out.to HB.out).c0; have g1 := (QR.out.to HB.out).c1; have u0 := (QR.out.to HB.out).f0; have u1 := (QR.out.to HB.out).f1; clear hmo; go_wp2_with fail
   obtain ⟨k0, k1, k2⟩ := two_set g0 g1 (.bool (decide (zz < 0))) (.slice A5 (ln zz.natAbs) c5); refine bodyPost_ret (v := .tuple #[.agg #[.bool (decide (zz < 0)), .slice A5 (ln zz.natAbs) c5], .bool false]) (by simp [results, Tryz.results58, go_sem, k0, k1]) rfl ?_; exact ⟨zz, false, A5, c5, rfl, ((HN9.out.set_ g0 (by intro t; simp) _).set_ k2 (by intro t; simp) _), (by repeat (first | exact bel_then HW.out HB.out | refine below_set ?_ (by first | exact Nat.le_refl _ | omega | (simp; done) | (simp; omega)) _ | refine below_alloc ?_ _ | refine below_drewN ?_ _ | refine below_drew ?_)), (fun h => by cases h), fun _ => Nat.lt_of_lt_of_le HMO.out HLE.out, by omega⟩
  have hmo' : decide (most < ln zz.natAbs) = false := decide_eq_false hmo; have hki : i + 1 + (k - 1) = n := by have := HIK.out; omega
  have HKI := Hd.mk hki; clear hki; go_wp2_with fail
  go_roundw
  case rel => exact ⟨k - 1, i + 1, by congr 1; omega, HKI.out, .inr HX1.out, by rw [← HZZ.out]; exact HZ9.out, by rw [← HZZ.out]; omega, HB.out⟩
  case measure => simp [intOf]; omega
def powz (x : Raw) (k : Int) : Int := if x.ok = true ∧ 0 ≤ k ∧ k ≤ 10000 then fitz (zpow x.val k.toNat) else 0
def powe (x : Raw) (k : Int) : Int := if x.ok = true ∧ 0 ≤ k ∧ k ≤ 10000 then fite (zpow x.val k.toNat) else 2
set_option maxHeartbeats 2000000 in
set_option maxRecDepth 100000 in
theorem Pow_calls (x : Raw) (k : Int) (w : World) (hx : x.at_ w) :
  Calls Tryz.prog 24 #[x.v, .int .i64 k] w (RetZE (powz x k) (powe x k) w) := by
 have HV := Hd.mk (fun g W (h : Below w.heap.size w W) (hB : Blk W g 25 [.bool x.neg, .slice x.A x.xs.length x.c]) => valid_calls [x] g 1 W (raws_one h hx hB) rfl (by omega)); rw [all_one] at HV; unfold powz powe; by_cases hall : x.ok = true ∧ 0 ≤ k ∧ k ≤ 10000
 ·rw [if_pos hall, if_pos hall]; obtain ⟨hok, hk1, hk2⟩ := hall; rw [hok] at HV; have hl := Raw.ok_len hok hx.2.1; have hN := Raw.nn hok hx; obtain ⟨K, hK⟩ : ∃ K : Nat, k = (K : Int) := ⟨k.toNat, by omega⟩; subst hK; rw [Int.toNat_natCast]; have HP := Hd.mk (fun W (hW : Below w.heap.size w W) => power_calls x.val K 256 x.A x.c W (hN.to hW) (by omega) (by omega) (by omega)); rw [← (Raw.num hok hx.2.1).1] at HP; obtain ⟨zv, hzv⟩ : ∃ z, z = x.val := ⟨_, rfl⟩; rw [← hzv] at HP hl ⊢; obtain ⟨zz, hzz⟩ : ∃ z, z = zpow zv K := ⟨_, rfl⟩; rw [← hzz]; have HZZ := Hd.mk hzz; unfold Raw.v at HP ⊢; obtain ⟨neg, A1, c1, xs⟩ := x; simp only at HV HP ⊢; obtain ⟨n1, hn1⟩ : ∃ n, n = xs.length := ⟨_, rfl⟩; rw [← hn1] at HV HP ⊢; clear hx hok hN hn1 hzv hzz; rw [show ((256 : Nat) : Int) = 256 from rfl] at HP; go_enter Tryz.func24, Tryz.ntmps24
  go_wp2_with fail
  obtain ⟨W0, hW0⟩ : ∃ W : World, W = (w.alloc (.cells #[.bool neg, .slice A1 n1 c1] 25)).alloc (.cells #[.bool false, .slice none 0 0] 25) := ⟨_, rfl⟩; rw [← hW0]; have HSZ : Hd (w.heap.size + 1 + 1 = W0.heap.size) := ⟨by rw [hW0]; simp⟩; obtain ⟨hB0, hB1, hBW⟩ := boxes2 hW0; have q0 := hB0.c0; have q1 := hB0.c1; have g0 := hB1.c0; have g1 := hB1.c1; have u0 := hB1.f0; have u1 := hB1.f1; have Q0 := Hd.mk hB0; have QR := Hd.mk hB1; have HW := Hd.mk hBW; have HB : Hd (Below W0.heap.size W0 W0) := ⟨Below.refl _ _⟩; clear hB0 hB1 hBW hW0; refine (HV.out _ _ (bel_then HW.out (by repeat (first | exact HB.out | exact Below.refl _ _ | refine below_alloc ?_ _ | refine below_drewN ?_ _ | refine below_drew ?_ | refine below_set ?_ (by first | exact Nat.le_refl _ | omega | (simp; done) | (simp; omega)) _))) (blk_new HSZ.out _ _)).mono ?_; rintro e w1 ⟨rfl, hb1⟩; have HB' : Hd (Below W0.heap.size W0 _) := ⟨bel_then (by repeat (first | exact HB.out | exact Below.refl _ _ | refine below_alloc ?_ _ | refine below_drewN ?_ _ | refine below_drew ?_ | refine below_set ?_ (by first | exact Nat.le_refl _ | omega | (simp; done) | (simp; omega)) _)) hb1⟩; clear HB; have HB := HB'; clear HB' hb1; replace q0 := (Q0.out.to HB.out).c0; replace q1 := (Q0.out.to HB.out).c1; replace g0 := (QR.out.to HB.out).c0; replace g1 := (QR.out.to HB.out).c1; replace u0 := (QR.out.to HB.out).f0; replace u1 := (QR.out.to HB.out).f1; go_wp2_with fail
  refine (of_calls _ _ _ _ _).mono ?_; rintro e w2 ⟨rfl, hb1⟩; have HB' : Hd (Below W0.heap.size W0 _) := ⟨bel_then (by repeat (first | exact HB.out | exact Below.refl _ _ | refine below_alloc ?_ _ | refine below_drewN ?_ _ | refine below_drew ?_ | refine below_set ?_ (by first | exact Nat.le_refl _ | omega | (simp; done) | (simp; omega)) _)) hb1⟩; clear HB; have HB := HB'; clear HB' hb1; replace q0 := (Q0.out.to HB.out).c0; replace q1 := (Q0.out.to HB.out).c1; replace g0 := (QR.out.to HB.out).c0; replace g1 := (QR.out.to HB.out).c1; replace u0 := (QR.out.to HB.out).f0; replace u1 := (QR.out.to HB.out).f1; go_wp2_with fail
  refine (HP.out _ (bel_then HW.out HB.out)).mono ?_; rintro e w3 ⟨z, ok, A3, c3, rfl, hn3, hb3, ho1, ho2, hlz⟩; have HN3 := Hd.mk hn3; have HO1 := Hd.mk ho1; have HO2 := Hd.mk ho2; clear hn3 ho1 ho2; have HB' : Hd (Below W0.heap.size W0 _) := ⟨bel_then (by repeat (first | exact HB.out | exact Below.refl _ _ | refine below_alloc ?_ _ | refine below_drewN ?_ _ | refine below_drew ?_ | refine below_set ?_ (by first | exact Nat.le_refl _ | omega | (simp; done) | (simp; omega)) _)) hb3⟩; clear HB; have HB := HB'; clear HB' hb3; replace q0 := (Q0.out.to HB.out).c0; replace q1 := (Q0.out.to HB.out).c1; replace g0 := (QR.out.to HB.out).c0; replace g1 := (QR.out.to HB.out).c1; replace u0 := (QR.out.to HB.out).f0; replace u1 := (QR.out.to HB.out).f1; rcases ok with _ | _
  ·have hbig := HO2.out rfl; rw [← HZZ.out] at hbig; have HF1 : Hd (fitz zz = 0) := ⟨by unfold fitz; rw [if_neg (by omega)]⟩; have HF2 : Hd (fite zz = 5) := ⟨by unfold fite; rw [if_neg (by omega)]⟩; have HB' : Hd (Below W0.heap.size W0 (w3.alloc (.cells #[.bool (decide (z < 0)), .slice A3 (ln z.natAbs) c3] 100))) := ⟨HB.out.alloc HB.out.size _⟩; have hz1 : w.heap.size + 1 < w3.heap.size := by have h1 := HB.out.size; have h2 := HSZ.out; omega
   clear hbig; go_upto_region 5 with fail
   obtain ⟨W4, hW4⟩ : ∃ W, W = w3.alloc (.cells #[.bool (decide (z < 0)), .slice A3 (ln z.natAbs) c3] 100) := ⟨_, rfl⟩; rw [← hW4] at HB' ⊢; clear HB hW4; have HB := HB'; clear HB' hz1 q0 q1 g0 g1 u0 u1; have g0 := (QR.out.to HB.out).c0; have g1 := (QR.out.to HB.out).c1; have u0 := (QR.out.to HB.out).f0; have u1 := (QR.out.to HB.out).f1; go_wp2_with fail
   obtain ⟨k0, k1, k2⟩ := two_set g0 g1 (.bool false) (.slice none 0 0); refine bodyPost_ret (v := .tuple #[.agg #[.bool false, .slice none 0 0], .int .i64 5]) (by simp [results, Tryz.results24, go_sem, k0, k1]) rfl ?_; have nsz := HSZ.out; rw [HF1.out, HF2.out]; exact ⟨none, 0, by rw [show ln (Int.natAbs 0) = 0 from ln_zero]; rfl, NN.nil _ _ _ (by omega), (by repeat (first | exact bel_then HW.out HB.out | refine below_set ?_ (by first | exact Nat.le_refl _ | omega | (simp; done) | (simp; omega)) _ | refine below_alloc ?_ _ | refine below_drewN ?_ _ | refine below_drew ?_))⟩
  have hz := HO1.out rfl; rw [← HZZ.out] at hz; have HF := Hd.mk (fun W (hW : Below w3.heap.size w3 W) => fits_calls z A3 c3 W (HN3.out.to hW) (by omega)); rw [hz] at HF; have HZE := Hd.mk hz; clear hz; obtain ⟨f1, hf1⟩ : ∃ f, f = fitz zz := ⟨_, rfl⟩; obtain ⟨f2, hf2⟩ : ∃ f, f = fite zz := ⟨_, rfl⟩; have HF1 := Hd.mk hf1; have HF2 := Hd.mk hf2; have hz1 : w.heap.size + 1 < w3.heap.size := by have h1 := HB.out.size; have h2 := HSZ.out; omega
  rw [HZE.out]; clear hf1 hf2; go_wp2_with fail
  refine (HF.out _ (below_alloc (Below.refl _ _) _)).mono ?_; rintro e w5 ⟨A5, c5, rfl, hn5, hb5⟩; have HN5 := Hd.mk hn5; have HB' : Hd (Below W0.heap.size W0 w5) := ⟨bel_then (HB.out.alloc HB.out.size _) hb5⟩; clear HB hn5 hb5 hz1 q0 q1 g0 g1 u0 u1; have HB := HB'; clear HB'; have g0 := (QR.out.to HB.out).c0; have g1 := (QR.out.to HB.out).c1; have u0 := (QR.out.to HB.out).f0; have u1 := (QR.out.to HB.out).f1; rw [← HF1.out] at HN5 ⊢; rw [← HF2.out]; go_wp2_with fail
  obtain ⟨k0, k1, k2⟩ := two_set g0 g1 (.bool (decide (f1 < 0))) (.slice A5 (ln (f1).natAbs) c5); refine bodyPost_ret (v := .tuple #[.agg #[.bool (decide (f1 < 0)), .slice A5 (ln (f1).natAbs) c5], .int .i64 f2]) (by simp [results, Tryz.results24, go_sem, k0, k1]) rfl ?_; have nsz := HSZ.out; exact ⟨A5, c5, by rw [← HF1.out, ← HF2.out], by rw [← HF1.out]; exact (HN5.out.set_ g0 (by intro t; simp) _).set_ k2 (by intro t; simp) _, (by repeat (first | exact bel_then HW.out HB.out | refine below_set ?_ (by first | exact Nat.le_refl _ | omega | (simp; done) | (simp; omega)) _ | refine below_alloc ?_ _ | refine below_drewN ?_ _ | refine below_drew ?_))⟩
 rw [if_neg hall, if_neg hall]; unfold Raw.v; obtain ⟨neg, A1, c1, xs⟩ := x; by_cases hok : Raw.ok ⟨neg, A1, c1, xs⟩ = true
 ·rw [hok] at HV; simp only at HV hall ⊢; obtain ⟨n1, hn1⟩ : ∃ n, n = xs.length := ⟨_, rfl⟩; rw [← hn1] at HV ⊢; clear hn1; by_cases hk1 : k < 0
  ·clear hall hok hx; go_enter Tryz.func24, Tryz.ntmps24
   go_wp2_with fail
   obtain ⟨W0, hW0⟩ : ∃ W : World, W = (w.alloc (.cells #[.bool neg, .slice A1 n1 c1] 25)).alloc (.cells #[.bool false, .slice none 0 0] 25) := ⟨_, rfl⟩; rw [← hW0]; have HSZ : Hd (w.heap.size + 1 + 1 = W0.heap.size) := ⟨by rw [hW0]; simp⟩; obtain ⟨hB0, hB1, hBW⟩ := boxes2 hW0; have q0 := hB0.c0; have q1 := hB0.c1; have g0 := hB1.c0; have g1 := hB1.c1; have u0 := hB1.f0; have u1 := hB1.f1; have Q0 := Hd.mk hB0; have QR := Hd.mk hB1; have HW := Hd.mk hBW; have HB : Hd (Below W0.heap.size W0 W0) := ⟨Below.refl _ _⟩; clear hB0 hB1 hBW hW0; refine (HV.out _ _ (bel_then HW.out (by repeat (first | exact HB.out | exact Below.refl _ _ | refine below_alloc ?_ _ | refine below_drewN ?_ _ | refine below_drew ?_ | refine below_set ?_ (by first | exact Nat.le_refl _ | omega | (simp; done) | (simp; omega)) _))) (blk_new HSZ.out _ _)).mono ?_; rintro e w1 ⟨rfl, hb1⟩; have HB' : Hd (Below W0.heap.size W0 _) := ⟨bel_then (by repeat (first | exact HB.out | exact Below.refl _ _ | refine below_alloc ?_ _ | refine below_drewN ?_ _ | refine below_drew ?_ | refine below_set ?_ (by first | exact Nat.le_refl _ | omega | (simp; done) | (simp; omega)) _)) hb1⟩; clear HB; have HB := HB'; clear HB' hb1; replace q0 := (Q0.out.to HB.out).c0; replace q1 := (Q0.out.to HB.out).c1; replace g0 := (QR.out.to HB.out).c0; replace g1 := (QR.out.to HB.out).c1; replace u0 := (QR.out.to HB.out).f0; replace u1 := (QR.out.to HB.out).f1; go_wp2_with fail
   obtain ⟨k0, k1, k2⟩ := two_set g0 g1 (.bool false) (.slice none 0 0); refine bodyPost_ret (v := .tuple #[.agg #[.bool false, .slice none 0 0], .int .i64 2]) (by simp [results, Tryz.results24, go_sem, k0, k1]) rfl ?_; have nsz := HSZ.out; exact ⟨none, 0, by rw [show ln (Int.natAbs 0) = 0 from ln_zero]; rfl, NN.nil _ _ _ (by omega), (by repeat (first | exact bel_then HW.out HB.out | refine below_set ?_ (by first | exact Nat.le_refl _ | omega | (simp; done) | (simp; omega)) _ | refine below_alloc ?_ _ | refine below_drewN ?_ _ | refine below_drew ?_))⟩
  have hk2 : 10000 < k := by
   rcases Int.lt_or_le 10000 k with h | h
   ·exact h
   exact absurd ⟨hok, by omega, h⟩ hall
  clear hall hok hx; go_enter Tryz.func24, Tryz.ntmps24
  go_wp2_with fail
  obtain ⟨W0, hW0⟩ : ∃ W : World, W = (w.alloc (.cells #[.bool neg, .slice A1 n1 c1] 25)).alloc (.cells #[.bool false, .slice none 0 0] 25) := ⟨_, rfl⟩; rw [← hW0]; have HSZ : Hd (w.heap.size + 1 + 1 = W0.heap.size) := ⟨by rw [hW0]; simp⟩; obtain ⟨hB0, hB1, hBW⟩ := boxes2 hW0; have q0 := hB0.c0; have q1 := hB0.c1; have g0 := hB1.c0; have g1 := hB1.c1; have u0 := hB1.f0; have u1 := hB1.f1; have Q0 := Hd.mk hB0; have QR := Hd.mk hB1; have HW := Hd.mk hBW; have HB : Hd (Below W0.heap.size W0 W0) := ⟨Below.refl _ _⟩; clear hB0 hB1 hBW hW0; refine (HV.out _ _ (bel_then HW.out (by repeat (first | exact HB.out | exact Below.refl _ _ | refine below_alloc ?_ _ | refine below_drewN ?_ _ | refine below_drew ?_ | refine below_set ?_ (by first | exact Nat.le_refl _ | omega | (simp; done) | (simp; omega)) _))) (blk_new HSZ.out _ _)).mono ?_; rintro e w1 ⟨rfl, hb1⟩; have HB' : Hd (Below W0.heap.size W0 _) := ⟨bel_then (by repeat (first | exact HB.out | exact Below.refl _ _ | refine below_alloc ?_ _ | refine below_drewN ?_ _ | refine below_drew ?_ | refine below_set ?_ (by first | exact Nat.le_refl _ | omega | (simp; done) | (simp; omega)) _)) hb1⟩; clear HB; have HB := HB'; clear HB' hb1; replace q0 := (Q0.out.to HB.out).c0; replace q1 := (Q0.out.to HB.out).c1; replace g0 := (QR.out.to HB.out).c0; replace g1 := (QR.out.to HB.out).c1; replace u0 := (QR.out.to HB.out).f0; replace u1 := (QR.out.to HB.out).f1; go_wp2_with fail
  obtain ⟨k0, k1, k2⟩ := two_set g0 g1 (.bool false) (.slice none 0 0); refine bodyPost_ret (v := .tuple #[.agg #[.bool false, .slice none 0 0], .int .i64 2]) (by simp [results, Tryz.results24, go_sem, k0, k1]) rfl ?_; have nsz := HSZ.out; exact ⟨none, 0, by rw [show ln (Int.natAbs 0) = 0 from ln_zero]; rfl, NN.nil _ _ _ (by omega), (by repeat (first | exact bel_then HW.out HB.out | refine below_set ?_ (by first | exact Nat.le_refl _ | omega | (simp; done) | (simp; omega)) _ | refine below_alloc ?_ _ | refine below_drewN ?_ _ | refine below_drew ?_))⟩
 have hno : Raw.ok ⟨neg, A1, c1, xs⟩ = false := by simpa using hok
 rw [hno] at HV; simp only at HV ⊢; obtain ⟨n1, hn1⟩ : ∃ n, n = xs.length := ⟨_, rfl⟩; rw [← hn1] at HV ⊢; clear hn1 hall hok hno hx; go_enter Tryz.func24, Tryz.ntmps24
 go_wp2_with fail
 obtain ⟨W0, hW0⟩ : ∃ W : World, W = (w.alloc (.cells #[.bool neg, .slice A1 n1 c1] 25)).alloc (.cells #[.bool false, .slice none 0 0] 25) := ⟨_, rfl⟩; rw [← hW0]; have HSZ : Hd (w.heap.size + 1 + 1 = W0.heap.size) := ⟨by rw [hW0]; simp⟩; obtain ⟨hB0, hB1, hBW⟩ := boxes2 hW0; have q0 := hB0.c0; have q1 := hB0.c1; have g0 := hB1.c0; have g1 := hB1.c1; have u0 := hB1.f0; have u1 := hB1.f1; have Q0 := Hd.mk hB0; have QR := Hd.mk hB1; have HW := Hd.mk hBW; have HB : Hd (Below W0.heap.size W0 W0) := ⟨Below.refl _ _⟩; clear hB0 hB1 hBW hW0; refine (HV.out _ _ (bel_then HW.out (by repeat (first | exact HB.out | exact Below.refl _ _ | refine below_alloc ?_ _ | refine below_drewN ?_ _ | refine below_drew ?_ | refine below_set ?_ (by first | exact Nat.le_refl _ | omega | (simp; done) | (simp; omega)) _))) (blk_new HSZ.out _ _)).mono ?_; rintro e w1 ⟨rfl, hb1⟩; have HB' : Hd (Below W0.heap.size W0 _) := ⟨bel_then (by repeat (first | exact HB.out | exact Below.refl _ _ | refine below_alloc ?_ _ | refine below_drewN ?_ _ | refine below_drew ?_ | refine below_set ?_ (by first | exact Nat.le_refl _ | omega | (simp; done) | (simp; omega)) _)) hb1⟩; clear HB; have HB := HB'; clear HB' hb1; replace q0 := (Q0.out.to HB.out).c0; replace q1 := (Q0.out.to HB.out).c1; replace g0 := (QR.out.to HB.out).c0; replace g1 := (QR.out.to HB.out).c1; replace u0 := (QR.out.to HB.out).f0; replace u1 := (QR.out.to HB.out).f1; go_wp2_with fail
 obtain ⟨k0, k1, k2⟩ := two_set g0 g1 (.bool false) (.slice none 0 0); refine bodyPost_ret (v := .tuple #[.agg #[.bool false, .slice none 0 0], .int .i64 2]) (by simp [results, Tryz.results24, go_sem, k0, k1]) rfl ?_; have nsz := HSZ.out; exact ⟨none, 0, by rw [show ln (Int.natAbs 0) = 0 from ln_zero]; rfl, NN.nil _ _ _ (by omega), (by repeat (first | exact bel_then HW.out HB.out | refine below_set ?_ (by first | exact Nat.le_refl _ | omega | (simp; done) | (simp; omega)) _ | refine below_alloc ?_ _ | refine below_drewN ?_ _ | refine below_drew ?_))⟩
end Go.Proofs.YtddbmckbankmeaaGreat.Ex
