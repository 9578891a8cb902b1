/- Division of whole numbers: plain lemmas and boxes. -/
import Derived.Test.YtcjcpfafalkceaaZ
import Derived.Test.YtcjcpfafalkceaaM
set_option linter.unusedVariables false
set_option linter.unusedSimpArgs false
namespace Go.Proofs.Ytcjcpfafalkceaa
open Go.RowKit
theorem ediv_pos {x : Int} {M : Nat} (hM : 0 < M) {q r : Int} (h : x = (M : Int) * q + r) (h0 : 0 ≤ r) (h1 : r < (M : Int)) : x / (M : Int) = q ∧ x % (M : Int) = r :=
  (Int.ediv_emod_unique (by omega)).2 ⟨by omega, h0, h1⟩
/-- What division by a positive number is, in terms of naturals. -/
theorem ediv_nat (x : Int) {M : Nat} (hM : 0 < M) {Q R : Nat} (hQ : Q = x.natAbs / M) (hR : R = x.natAbs % M) :
    (x < 0 → R ≠ 0 → x / (M : Int) = -((Q + 1 : Nat) : Int) ∧ x % (M : Int) = ((M - R : Nat) : Int)) ∧
    (x < 0 → R = 0 → x / (M : Int) = -(Q : Int) ∧ x % (M : Int) = 0) ∧
    (0 ≤ x → x / (M : Int) = (Q : Int) ∧ x % (M : Int) = (R : Int)) := by
  have hd : x.natAbs = M * Q + R := by rw [hQ, hR]; exact (Nat.div_add_mod _ _).symm
  have hlt : R < M := by rw [hR]; exact Nat.mod_lt _ hM
  have hd2 : (x.natAbs : Int) = (M : Int) * (Q : Int) + (R : Int) := by rw [hd]; simp
  clear hd hQ hR
  refine ⟨fun hx hr => ?_, fun hx hr => ?_, fun hx => ?_⟩
  · apply ediv_pos hM
    · rw [Int.mul_neg, Int.natCast_add, Int.mul_add, Int.natCast_one, Int.mul_one, Int.ofNat_sub (by omega)]
      omega
    · omega
    · omega
  · apply ediv_pos hM
    · rw [Int.mul_neg]
      omega
    · omega
    · omega
  · apply ediv_pos hM
    · omega
    · omega
    · omega
theorem ediv_abs (x y : Int) (hy : y ≠ 0) :
    (x < 0 → x.natAbs % y.natAbs ≠ 0 → (x / y).natAbs = x.natAbs / y.natAbs + 1 ∧ (x % y).natAbs = y.natAbs - x.natAbs % y.natAbs) ∧
    (¬ (x < 0 ∧ x.natAbs % y.natAbs ≠ 0) → (x / y).natAbs = x.natAbs / y.natAbs ∧ (x % y).natAbs = x.natAbs % y.natAbs) := by
  have hM : 0 < y.natAbs := by omega
  obtain ⟨Q, hQ⟩ : ∃ Q, Q = x.natAbs / y.natAbs := ⟨_, rfl⟩
  obtain ⟨R, hR⟩ : ∃ R, R = x.natAbs % y.natAbs := ⟨_, rfl⟩
  obtain ⟨e1, e2, e3⟩ := ediv_nat x hM hQ hR
  have hlt : R < y.natAbs := by rw [hR]; exact Nat.mod_lt _ hM
  have hq : (x / y).natAbs = (x / (y.natAbs : Int)).natAbs ∧ x % y = x % (y.natAbs : Int) := by
    by_cases h : 0 ≤ y
    · have h : (y.natAbs : Int) = y := by omega
      rw [h]; exact ⟨rfl, rfl⟩
    · have h : (y.natAbs : Int) = -y := by omega
      rw [h, Int.ediv_neg, Int.emod_neg]
      exact ⟨(Int.natAbs_neg _).symm, rfl⟩
  rw [hq.1, hq.2, ← hQ, ← hR]
  obtain ⟨A, hA⟩ : ∃ A, A = x / (y.natAbs : Int) := ⟨_, rfl⟩
  obtain ⟨C, hC⟩ : ∃ C, C = x % (y.natAbs : Int) := ⟨_, rfl⟩
  rw [← hA, ← hC] at e1 e2 e3 ⊢
  clear hA hC hq hQ hR
  refine ⟨fun hx hr => ?_, fun h => ?_⟩
  · obtain ⟨a, b⟩ := e1 hx hr
    omega
  · by_cases hx : x < 0
    · have hr : R = 0 := by
        by_cases h0 : R = 0
        · exact h0
        · exact absurd ⟨hx, h0⟩ h
      obtain ⟨a, b⟩ := e2 hx hr
      omega
    · obtain ⟨a, b⟩ := e3 (by omega)
      omega
theorem ediv_sign (x y : Int) (hy : y ≠ 0) : ((decide (x < 0) != decide (y < 0)) && !decide (ln (x / y).natAbs = 0)) = decide (x / y < 0) := by
  have hM : 0 < y.natAbs := by omega
  have hz : decide (ln (x / y).natAbs = 0) = decide (x / y = 0) := by
    apply decide_eq_decide.2
    rw [ln_eq_zero]
    exact Int.natAbs_eq_zero
  rw [hz]
  obtain ⟨Q1, hQ1⟩ : ∃ Q, Q = x.natAbs / y.natAbs := ⟨_, rfl⟩
  obtain ⟨R, hR⟩ : ∃ R, R = x.natAbs % y.natAbs := ⟨_, rfl⟩
  obtain ⟨e1, e2, e3⟩ := ediv_nat x hM hQ1 hR
  have hs : (x < 0 → x / (y.natAbs : Int) ≤ 0) ∧ (0 ≤ x → 0 ≤ x / (y.natAbs : Int)) := by
    refine ⟨fun hx => ?_, fun hx => ?_⟩
    · by_cases hr : R = 0
      · rw [(e2 hx hr).1]; omega
      · rw [(e1 hx hr).1]; omega
    · rw [(e3 hx).1]; omega
  obtain ⟨Q, hQ⟩ : ∃ Q, Q = x / (y.natAbs : Int) := ⟨_, rfl⟩
  rw [← hQ] at hs
  clear e1 e2 e3 hR hQ1
  by_cases hy0 : y < 0
  · have : x / y = -Q := by
      rw [hQ, show (y.natAbs : Int) = -y by omega, Int.ediv_neg, Int.neg_neg]
    rw [this]
    by_cases hx : x < 0
    · have := hs.1 hx
      simp [hx, hy0]
      omega
    · have := hs.2 (by omega)
      by_cases hq0 : Q = 0
      · simp [hx, hy0, hq0]
      · have h1 : 0 < Q := by omega
        simp [hx, hy0, hq0]
        omega
  · have : x / y = Q := by rw [hQ, show (y.natAbs : Int) = y by omega]
    rw [this]
    by_cases hx : x < 0
    · have := hs.1 hx
      by_cases hq0 : Q = 0
      · simp [hx, hy0, hq0]
      · simp [hx, hy0, hq0]
        omega
    · have := hs.2 (by omega)
      simp [hx, hy0]
      omega
theorem emod_sign (x y : Int) (hy : y ≠ 0) : decide (x % y < 0) = false := decide_eq_false (by have := Int.emod_nonneg x hy; omega)
section
variable {w W : World} {x0 x1 y0 y1 r0 r1 s0 s1 : Value} {t1 t2 t3 t4 : TypeId}
theorem boxes4 (h : W = (((w.alloc (.cells #[x0, x1] t1)).alloc (.cells #[y0, y1] t2)).alloc (.cells #[r0, r1] t3)).alloc (.cells #[s0, s1] t4)) : Blk W w.heap.size t1 [x0, x1] ∧ Blk W (w.heap.size + 1) t2 [y0, y1] ∧ Blk W (w.heap.size + 1 + 1) t3 [r0, r1] ∧ Blk W (w.heap.size + 1 + 1 + 1) t4 [s0, s1] ∧ Below w.heap.size w W := by
  obtain ⟨a, b, c, d⟩ := boxes3 (w := w) (x0 := x0) (x1 := x1) (y0 := y0) (y1 := y1) (r0 := r0) (r1 := r1) (t1 := t1) (t2 := t2) (t3 := t3) rfl
  subst h
  refine ⟨a.alloc _, b.alloc _, c.alloc _, ?_, below_alloc d _⟩
  have h : (((w.alloc (.cells #[x0, x1] t1)).alloc (.cells #[y0, y1] t2)).alloc (.cells #[r0, r1] t3)).heap.size = w.heap.size + 1 + 1 + 1 := by simp
  rw [← h]
  exact heap_alloc_new _ _
end
/-- Two whole numbers. -/
def RetZZ (z z2 : Int) (w : World) (e : Ending) (w' : World) : Prop := ∃ A c A' c', e = .returned (.tuple #[.agg #[.bool (decide (z < 0)), .slice A (ln z.natAbs) c], .agg #[.bool (decide (z2 < 0)), .slice A' (ln z2.natAbs) c']]) ∧ NN w' A c z.natAbs ∧ NN w' A' c' z2.natAbs ∧ Below w.heap.size w w'
/-- Four cells, set one after another. -/
theorem four_set {w1 : World} {g h : Nat} {x0 x1 y0 y1 : Value} (h0 : w1.cell? ⟨g, 0, none⟩ = some x0) (h1 : w1.cell? ⟨g, 1, none⟩ = some x1) (i0 : w1.cell? ⟨h, 0, none⟩ = some y0) (i1 : w1.cell? ⟨h, 1, none⟩ = some y1) (hne : g ≠ h) (u v u' v' : Value) :
    let w2 := (w1.setCell ⟨g, 0, none⟩ u).setCell ⟨g, 1, none⟩ v
    let w3 := (w2.setCell ⟨h, 0, none⟩ u').setCell ⟨h, 1, none⟩ v'
    w3.cell? ⟨g, 0, none⟩ = some u ∧ w3.cell? ⟨g, 1, none⟩ = some v ∧ w3.cell? ⟨h, 0, none⟩ = some u' ∧ w3.cell? ⟨h, 1, none⟩ = some v' ∧ (w1.setCell ⟨g, 0, none⟩ u).cell? ⟨g, 1, none⟩ = some x1 ∧ w2.cell? ⟨h, 0, none⟩ = some y0 ∧ (w2.setCell ⟨h, 0, none⟩ u').cell? ⟨h, 1, none⟩ = some y1 := by
  intro w2 w3
  obtain ⟨a, b, c⟩ := two_set h0 h1 u v
  have j0 : w2.cell? ⟨h, 0, none⟩ = some y0 := (World.cell?_setCell_other _ _ _ _ (by simp [hne, Ne.symm hne])).trans ((World.cell?_setCell_other _ _ _ _ (by simp [hne, Ne.symm hne])).trans i0)
  have j1 : w2.cell? ⟨h, 1, none⟩ = some y1 := (World.cell?_setCell_other _ _ _ _ (by simp [hne, Ne.symm hne])).trans ((World.cell?_setCell_other _ _ _ _ (by simp [hne, Ne.symm hne])).trans i1)
  obtain ⟨d, e, f⟩ := two_set j0 j1 u' v'
  exact ⟨(World.cell?_setCell_other _ _ _ _ (by simp [hne, Ne.symm hne])).trans ((World.cell?_setCell_other _ _ _ _ (by simp [hne, Ne.symm hne])).trans a), (World.cell?_setCell_other _ _ _ _ (by simp [hne, Ne.symm hne])).trans ((World.cell?_setCell_other _ _ _ _ (by simp [hne, Ne.symm hne])).trans b), d, e, c, j0, f⟩
end Go.Proofs.Ytcjcpfafalkceaa
