/- Part 17 of the texts behind this claim. -/
import Derived.Test.YtcjcpfafalkceaaFq10
import Derived.Test.YtcjcpfafalkceaaFq12
import Derived.Test.YtcjcpfafalkceaaFq16
set_option linter.unusedVariables false
namespace Go.Proofs.Ytcjcpfafalkceaa
open Go.RowKit
theorem ln_one_dig {b : Nat} (h : ln b = 1) : (dig b).getD 0 0 = b ∧ b < 4294967296 := by
  have hb : b ≠ 0 := fun e => by rw [e, ln_zero] at h; omega
  have h1 := lt_pow_ln b
  rw [h, Nat.pow_one] at h1
  refine ⟨?_, h1⟩
  rw [dig_getD, Nat.pow_zero, Nat.div_one]
  exact Nat.mod_eq_of_lt h1
set_option maxHeartbeats 1000000 in
set_option maxRecDepth 100000 in
theorem div_calls (A1 : Option Addr) (c1 a : Nat) (A2 : Option Addr) (c2 b : Nat) (w : World) (h1 : NN w A1 c1 a) (h2 : NN w A2 c2 b) (hb0 : b ≠ 0) (l1 : ln a ≤ 268435456) :
    Calls Try.prog 93 #[.slice A1 (ln a) c1, .slice A2 (ln b) c2] w (RetNN (a / b) (a % b) w) := by
  by_cases hlt : a < b
  · have hq : a / b = 0 := Nat.div_eq_of_lt hlt
    have hr : a % b = a := Nat.mod_eq_of_lt hlt
    rw [hq, hr]
    have hv : cmpv a b = -1 := by unfold cmpv; rw [if_pos hlt]
    have hc := cmp_calls A1 c1 a A2 c2 b w h1 h2
    rw [hv] at hc
    have HCMP := Hd.mk hc
    have H1 := Hd.mk h1
    clear h1 h2 hlt hb0 hq hr hv hc
    go_enter Try.func93, Try.ntmps93
    go_wp2_with fail
    refine HCMP.out.mono ?_
    rintro e w1 ⟨rfl, q0, rfl⟩
    go_wp2_with fail
    go_ret2
    exact ⟨none, 0, A1, c1, by rw [ln_zero]; rfl, NN.nil _ _ _ (by omega), H1.out.to (by repeat (first | exact Below.refl _ _ | refine below_alloc ?_ _ | refine below_drewN ?_ _)), by repeat (first | exact Below.refl _ _ | refine below_alloc ?_ _ | refine below_drewN ?_ _)⟩
  · by_cases hl : 2 ≤ ln b
    · exact div_long A1 c1 a A2 c2 b w h1 h2 (by omega) hl l1
    · have hl1 : ln b = 1 := by
        have : ln b ≠ 0 := fun h => hb0 (ln_eq_zero.1 h)
        omega
      obtain ⟨hbd, hbl⟩ := ln_one_dig hl1
      obtain ⟨ad, rfl, hcell⟩ := h2.at_ (k := 0) (by omega)
      rw [hbd, Addr.add_zero'] at hcell
      have hcp : 0 ≤ cmpv a b := by
        unfold cmpv
        rw [if_neg hlt]
        split <;> omega
      have hc := cmp_calls A1 c1 a (some ad) c2 b w h1 h2
      obtain ⟨cv, hcv⟩ : ∃ cv, cv = cmpv a b := ⟨_, rfl⟩
      rw [← hcv] at hc hcp
      rw [hl1] at hc ⊢
      have HCMP := Hd.mk hc
      have HSH := Hd.mk (fun W (hW : Below w.heap.size w W) => short_calls A1 c1 a b W (h1.to hW) (by omega) (by omega) hbl)
      clear h1 h2 hlt hb0 hcv hc hl hl1 hbd
      go_enter Try.func93, Try.ntmps93
      go_wp2_with fail
      refine HCMP.out.mono ?_
      rintro e w1 ⟨rfl, q0, rfl⟩
      go_wp2_with fail
      refine (HSH.out _ (by repeat (first | exact Below.refl _ _ | refine below_alloc ?_ _ | refine below_drewN ?_ _))).mono ?_
      rintro e wz ⟨A8, c8, A9, c9, rfl, hn8, hn9, hb9⟩
      have HN8 := Hd.mk hn8
      have HN9 := Hd.mk hn9
      have HB9 := Hd.mk hb9
      clear hn8 hn9 hb9
      go_wp2_with fail
      go_ret2
      exact ⟨A8, c8, A9, c9, rfl, HN8.out, HN9.out, bel_then (by repeat (first | exact Below.refl _ _ | refine below_alloc ?_ _ | refine below_drewN ?_ _)) HB9.out⟩
end Go.Proofs.Ytcjcpfafalkceaa
set_option linter.unusedVariables false
set_option linter.unusedSimpArgs false
namespace Go.Proofs.Ytcjcpfafalkceaa
open Go.RowKit
theorem ediv_pos {x : Int} {M : Nat} (hM : 0 < M) {q r : Int} (h : x = (M : Int) * q + r) (h0 : 0 ≤ r) (h1 : r < (M : Int)) : x / (M : Int) = q ∧ x % (M : Int) = r :=
  (Int.ediv_emod_unique (by omega)).2 ⟨by omega, h0, h1⟩
theorem ediv_nat (x : Int) {M : Nat} (hM : 0 < M) {Q R : Nat} (hQ : Q = x.natAbs / M) (hR : R = x.natAbs % M) :
    (x < 0 → R ≠ 0 → x / (M : Int) = -((Q + 1 : Nat) : Int) ∧ x % (M : Int) = ((M - R : Nat) : Int)) ∧
    (x < 0 → R = 0 → x / (M : Int) = -(Q : Int) ∧ x % (M : Int) = 0) ∧
    (0 ≤ x → x / (M : Int) = (Q : Int) ∧ x % (M : Int) = (R : Int)) := by
  have hd : x.natAbs = M * Q + R := by rw [hQ, hR]; exact (Nat.div_add_mod _ _).symm
  have hlt : R < M := by rw [hR]; exact Nat.mod_lt _ hM
  have hd2 : (x.natAbs : Int) = (M : Int) * (Q : Int) + (R : Int) := by rw [hd]; simp
  clear hd hQ hR
  refine ⟨fun hx hr => ?_, fun hx hr => ?_, fun hx => ?_⟩
  · apply ediv_pos hM
    · rw [Int.mul_neg, Int.natCast_add, Int.mul_add, Int.natCast_one, Int.mul_one, Int.ofNat_sub (by omega)]
      omega
    · omega
    · omega
  · apply ediv_pos hM
    · rw [Int.mul_neg]
      omega
    · omega
    · omega
  · apply ediv_pos hM
    · omega
    · omega
    · omega
theorem ediv_abs (x y : Int) (hy : y ≠ 0) :
    (x < 0 → x.natAbs % y.natAbs ≠ 0 → (x / y).natAbs = x.natAbs / y.natAbs + 1 ∧ (x % y).natAbs = y.natAbs - x.natAbs % y.natAbs) ∧
    (¬ (x < 0 ∧ x.natAbs % y.natAbs ≠ 0) → (x / y).natAbs = x.natAbs / y.natAbs ∧ (x % y).natAbs = x.natAbs % y.natAbs) := by
  have hM : 0 < y.natAbs := by omega
  obtain ⟨Q, hQ⟩ : ∃ Q, Q = x.natAbs / y.natAbs := ⟨_, rfl⟩
  obtain ⟨R, hR⟩ : ∃ R, R = x.natAbs % y.natAbs := ⟨_, rfl⟩
  obtain ⟨e1, e2, e3⟩ := ediv_nat x hM hQ hR
  have hlt : R < y.natAbs := by rw [hR]; exact Nat.mod_lt _ hM
  have hq : (x / y).natAbs = (x / (y.natAbs : Int)).natAbs ∧ x % y = x % (y.natAbs : Int) := by
    by_cases h : 0 ≤ y
    · have h : (y.natAbs : Int) = y := by omega
      rw [h]; exact ⟨rfl, rfl⟩
    · have h : (y.natAbs : Int) = -y := by omega
      rw [h, Int.ediv_neg, Int.emod_neg]
      exact ⟨(Int.natAbs_neg _).symm, rfl⟩
  rw [hq.1, hq.2, ← hQ, ← hR]
  obtain ⟨A, hA⟩ : ∃ A, A = x / (y.natAbs : Int) := ⟨_, rfl⟩
  obtain ⟨C, hC⟩ : ∃ C, C = x % (y.natAbs : Int) := ⟨_, rfl⟩
  rw [← hA, ← hC] at e1 e2 e3 ⊢
  clear hA hC hq hQ hR
  refine ⟨fun hx hr => ?_, fun h => ?_⟩
  · obtain ⟨a, b⟩ := e1 hx hr
    omega
  · by_cases hx : x < 0
    · have hr : R = 0 := by
        by_cases h0 : R = 0
        · exact h0
        · exact absurd ⟨hx, h0⟩ h
      obtain ⟨a, b⟩ := e2 hx hr
      omega
    · obtain ⟨a, b⟩ := e3 (by omega)
      omega
theorem ediv_sign (x y : Int) (hy : y ≠ 0) : ((decide (x < 0) != decide (y < 0)) && !decide (ln (x / y).natAbs = 0)) = decide (x / y < 0) := by
  have hM : 0 < y.natAbs := by omega
  have hz : decide (ln (x / y).natAbs = 0) = decide (x / y = 0) := by
    apply decide_eq_decide.2
    rw [ln_eq_zero]
    exact Int.natAbs_eq_zero
  rw [hz]
  obtain ⟨Q1, hQ1⟩ : ∃ Q, Q = x.natAbs / y.natAbs := ⟨_, rfl⟩
  obtain ⟨R, hR⟩ : ∃ R, R = x.natAbs % y.natAbs := ⟨_, rfl⟩
  obtain ⟨e1, e2, e3⟩ := ediv_nat x hM hQ1 hR
  have hs : (x < 0 → x / (y.natAbs : Int) ≤ 0) ∧ (0 ≤ x → 0 ≤ x / (y.natAbs : Int)) := by
    refine ⟨fun hx => ?_, fun hx => ?_⟩
    · by_cases hr : R = 0
      · rw [(e2 hx hr).1]; omega
      · rw [(e1 hx hr).1]; omega
    · rw [(e3 hx).1]; omega
  obtain ⟨Q, hQ⟩ : ∃ Q, Q = x / (y.natAbs : Int) := ⟨_, rfl⟩
  rw [← hQ] at hs
  clear e1 e2 e3 hR hQ1
  by_cases hy0 : y < 0
  · have : x / y = -Q := by
      rw [hQ, show (y.natAbs : Int) = -y by omega, Int.ediv_neg, Int.neg_neg]
    rw [this]
    by_cases hx : x < 0
    · have := hs.1 hx
      simp [hx, hy0]
      omega
    · have := hs.2 (by omega)
      by_cases hq0 : Q = 0
      · simp [hx, hy0, hq0]
      · have h1 : 0 < Q := by omega
        simp [hx, hy0, hq0]
        omega
  · have : x / y = Q := by rw [hQ, show (y.natAbs : Int) = y by omega]
    rw [this]
    by_cases hx : x < 0
    · have := hs.1 hx
      by_cases hq0 : Q = 0
      · simp [hx, hy0, hq0]
      · simp [hx, hy0, hq0]
        omega
    · have := hs.2 (by omega)
      simp [hx, hy0]
      omega
theorem emod_sign (x y : Int) (hy : y ≠ 0) : decide (x % y < 0) = false := decide_eq_false (by have := Int.emod_nonneg x hy; omega)
section
variable {w W : World} {x0 x1 y0 y1 r0 r1 s0 s1 : Value} {t1 t2 t3 t4 : TypeId}
theorem boxes4 (h : W = (((w.alloc (.cells #[x0, x1] t1)).alloc (.cells #[y0, y1] t2)).alloc (.cells #[r0, r1] t3)).alloc (.cells #[s0, s1] t4)) : Blk W w.heap.size t1 [x0, x1] ∧ Blk W (w.heap.size + 1) t2 [y0, y1] ∧ Blk W (w.heap.size + 1 + 1) t3 [r0, r1] ∧ Blk W (w.heap.size + 1 + 1 + 1) t4 [s0, s1] ∧ Below w.heap.size w W := by
  obtain ⟨a, b, c, d⟩ := boxes3 (w := w) (x0 := x0) (x1 := x1) (y0 := y0) (y1 := y1) (r0 := r0) (r1 := r1) (t1 := t1) (t2 := t2) (t3 := t3) rfl
  subst h
  refine ⟨a.alloc _, b.alloc _, c.alloc _, ?_, below_alloc d _⟩
  have h : (((w.alloc (.cells #[x0, x1] t1)).alloc (.cells #[y0, y1] t2)).alloc (.cells #[r0, r1] t3)).heap.size = w.heap.size + 1 + 1 + 1 := by simp
  rw [← h]
  exact heap_alloc_new _ _
end
def RetZZ (z z2 : Int) (w : World) (e : Ending) (w' : World) : Prop := ∃ A c A' c', e = .returned (.tuple #[.agg #[.bool (decide (z < 0)), .slice A (ln z.natAbs) c], .agg #[.bool (decide (z2 < 0)), .slice A' (ln z2.natAbs) c']]) ∧ NN w' A c z.natAbs ∧ NN w' A' c' z2.natAbs ∧ Below w.heap.size w w'
theorem four_set {w1 : World} {g h : Nat} {x0 x1 y0 y1 : Value} (h0 : w1.cell? ⟨g, 0, none⟩ = some x0) (h1 : w1.cell? ⟨g, 1, none⟩ = some x1) (i0 : w1.cell? ⟨h, 0, none⟩ = some y0) (i1 : w1.cell? ⟨h, 1, none⟩ = some y1) (hne : g ≠ h) (u v u' v' : Value) :
    let w2 := (w1.setCell ⟨g, 0, none⟩ u).setCell ⟨g, 1, none⟩ v
    let w3 := (w2.setCell ⟨h, 0, none⟩ u').setCell ⟨h, 1, none⟩ v'
    w3.cell? ⟨g, 0, none⟩ = some u ∧ w3.cell? ⟨g, 1, none⟩ = some v ∧ w3.cell? ⟨h, 0, none⟩ = some u' ∧ w3.cell? ⟨h, 1, none⟩ = some v' ∧ (w1.setCell ⟨g, 0, none⟩ u).cell? ⟨g, 1, none⟩ = some x1 ∧ w2.cell? ⟨h, 0, none⟩ = some y0 ∧ (w2.setCell ⟨h, 0, none⟩ u').cell? ⟨h, 1, none⟩ = some y1 := by
  intro w2 w3
  obtain ⟨a, b, c⟩ := two_set h0 h1 u v
  have j0 : w2.cell? ⟨h, 0, none⟩ = some y0 := (World.cell?_setCell_other _ _ _ _ (by simp [hne, Ne.symm hne])).trans ((World.cell?_setCell_other _ _ _ _ (by simp [hne, Ne.symm hne])).trans i0)
  have j1 : w2.cell? ⟨h, 1, none⟩ = some y1 := (World.cell?_setCell_other _ _ _ _ (by simp [hne, Ne.symm hne])).trans ((World.cell?_setCell_other _ _ _ _ (by simp [hne, Ne.symm hne])).trans i1)
  obtain ⟨d, e, f⟩ := two_set j0 j1 u' v'
  exact ⟨(World.cell?_setCell_other _ _ _ _ (by simp [hne, Ne.symm hne])).trans ((World.cell?_setCell_other _ _ _ _ (by simp [hne, Ne.symm hne])).trans a), (World.cell?_setCell_other _ _ _ _ (by simp [hne, Ne.symm hne])).trans ((World.cell?_setCell_other _ _ _ _ (by simp [hne, Ne.symm hne])).trans b), d, e, c, j0, f⟩
end Go.Proofs.Ytcjcpfafalkceaa
set_option linter.unusedVariables false
set_option linter.unusedSimpArgs false
namespace Go.Proofs.Ytcjcpfafalkceaa
open Go.RowKit
def HZ (w : World) (g : Nat) (t : TypeId) (z : Int) : Prop := ∃ A c, Blk w g t [.bool (decide (z < 0)), .slice A (ln z.natAbs) c] ∧ NN w A c z.natAbs
def HB2 (w : World) (g : Nat) (t : TypeId) : Prop := ∃ b A l c, Blk w g t [.bool b, .slice A l c]
section
variable {w w' : World} {g h : Nat} {t t' : TypeId} {z z' : Int} {v : Value}
theorem HZ.to (hz : HZ w g t z) (hb : Below w.heap.size w w') : HZ w' g t z := let ⟨A, c, h1, h2⟩ := hz; ⟨A, c, h1.to hb, h2.to hb⟩
theorem HZ.any (hz : HZ w g t z) : HB2 w g t := let ⟨A, c, h1, _⟩ := hz; ⟨_, _, _, _, h1⟩
theorem HZ.lt (hz : HZ w g t z) : g < w.heap.size := let ⟨_, _, h1, _⟩ := hz; h1.lt
theorem HB2.lt (hz : HB2 w g t) : g < w.heap.size := let ⟨_, _, _, _, h1⟩ := hz; h1.lt
theorem HB2.to (hz : HB2 w g t) (hb : Below w.heap.size w w') : HB2 w' g t := let ⟨b, A, l, c, h1⟩ := hz; ⟨b, A, l, c, h1.to hb⟩
theorem isZ.to (hz : (isZ z).p v w) (hb : Below w.heap.size w w') : (isZ z).p v w' := (isZ z).st _ _ _ hz hb
def put2 (w : World) (g : Nat) (u v : Value) : World := (w.setCell ⟨g, 0, none⟩ u).setCell ⟨g, 1, none⟩ v
theorem NN.put {A : Option Addr} {c n : Nat} (hn : NN w A c n) (hb : HB2 w g t) (u v : Value) : NN (put2 w g u v) A c n := let ⟨_, _, _, _, h1⟩ := hb; nn_put2 hn h1
theorem HZ.put (hz : HZ w h t' z) (hb : HB2 w g t) (hne : h ≠ g) (u v : Value) : HZ (put2 w g u v) h t' z := let ⟨A, c, h1, h2⟩ := hz; ⟨A, c, blk_far2 h1 hne, h2.put hb u v⟩
theorem HB2.put (hz : HB2 w h t') (hne : h ≠ g) (u v : Value) : HB2 (put2 w g u v) h t' := let ⟨b, A, l, c, h1⟩ := hz; ⟨b, A, l, c, blk_far2 h1 hne⟩
theorem HZ.set {A : Option Addr} {c : Nat} (hb : HB2 w g t) (hn : NN w A c z.natAbs) : HZ (put2 w g (.bool (decide (z < 0))) (.slice A (ln z.natAbs) c)) g t z :=
  let ⟨_, _, _, _, h1⟩ := hb; ⟨A, c, blk_put2 h1, hn.put hb _ _⟩
theorem isZ.put (hz : (isZ z).p v w) (hb : HB2 w g t) (u x : Value) : (isZ z).p v (put2 w g u x) := let ⟨A, c, h1, h2⟩ := hz; ⟨A, c, h1, h2.put hb u x⟩
end
section
variable {w wx w0 : World} {g g1 g2 h : Nat} {t t' t1 t2 : TypeId} {z : Int}
end
section
variable {P : Program} {f : Nat} {w : World} {x y z : Int} {v1 v2 : Value} {R : Value → World → Prop} {R0 : Ending → World → Prop}
def Got (w : World) (R : Value → World → Prop) (e : Ending) (w' : World) : Prop := ∃ v, e = .returned v ∧ Below w.heap.size w w' ∧ R v w'
theorem RetZ.got {e : Ending} {w' : World} (h : RetZ z w e w') : Got w (isZ z).p e w' := let ⟨A, c, he, hn, hb⟩ := h; ⟨_, he, hb, A, c, rfl, hn⟩
theorem RetN.got {n : Nat} {e : Ending} {w' : World} (h : RetN n w e w') : Got w (isN n).p e w' := let ⟨A, c, he, hn, hb⟩ := h; ⟨_, he, hb, A, c, rfl, hn⟩
theorem RetZZ.got {e : Ending} {w' : World} (h : RetZZ x y w e w') : Got w (isZZ x y).p e w' := let ⟨A, c, A', c', he, h1, h2, hb⟩ := h; ⟨_, he, hb, A, c, A', c', rfl, h1, h2⟩
theorem same_got {u : Value} {e : Ending} {w' : World} (h : e = .returned u ∧ Below w.heap.size w w') : Got w (isV u).p e w' := ⟨u, h.1, h.2, rfl⟩
theorem drew_got {u : Value} {e : Ending} {w' : World} (h : e = .returned u ∧ ∃ q, w' = w.drewN q) : Got w (isV u).p e w' := by
  obtain ⟨h1, q, rfl⟩ := h
  exact ⟨u, h1, below_drewN (Below.refl _ _) _, rfl⟩
theorem eq_got {u : Value} {e : Ending} {w' : World} (h : e = .returned u ∧ w = w') : Got w (isV u).p e w' := by
  obtain ⟨h1, rfl⟩ := h
  exact ⟨u, h1, Below.refl _ _, rfl⟩
theorem z2 (hC : ∀ A1 c1 A2 c2, NN w A1 c1 x.natAbs → NN w A2 c2 y.natAbs → Calls P f #[.agg #[.bool (decide (x < 0)), .slice A1 (ln x.natAbs) c1], .agg #[.bool (decide (y < 0)), .slice A2 (ln y.natAbs) c2]] w R0)
    (hR : ∀ e w', R0 e w' → Got w R e w') (h1 : (isZ x).p v1 w) (h2 : (isZ y).p v2 w) : Calls P f #[v1, v2] w (Got w R) := by
  obtain ⟨A1, c1, rfl, n1⟩ := h1
  obtain ⟨A2, c2, rfl, n2⟩ := h2
  exact (hC A1 c1 A2 c2 n1 n2).mono hR
theorem z1 (hC : ∀ A1 c1, NN w A1 c1 x.natAbs → Calls P f #[.agg #[.bool (decide (x < 0)), .slice A1 (ln x.natAbs) c1]] w R0)
    (hR : ∀ e w', R0 e w' → Got w R e w') (h1 : (isZ x).p v1 w) : Calls P f #[v1] w (Got w R) := by
  obtain ⟨A1, c1, rfl, n1⟩ := h1
  exact (hC A1 c1 n1).mono hR
theorem z1_same (hC : ∀ A1 c1, Calls P f #[.agg #[.bool (decide (x < 0)), .slice A1 (ln x.natAbs) c1]] w fun e w' => e = .returned (.agg #[.bool (decide (x < 0)), .slice A1 (ln x.natAbs) c1]) ∧ Below w.heap.size w w') (h1 : (isZ x).p v1 w) : Calls P f #[v1] w (Got w (isZ x).p) := by
  obtain ⟨A1, c1, rfl, n1⟩ := h1
  exact (hC A1 c1).mono fun e w' ⟨he, hb⟩ => ⟨_, he, hb, A1, c1, rfl, n1.to hb⟩
theorem n2 {m n : Nat} (hC : ∀ A1 c1 A2 c2, NN w A1 c1 m → NN w A2 c2 n → Calls P f #[.slice A1 (ln m) c1, .slice A2 (ln n) c2] w R0)
    (hR : ∀ e w', R0 e w' → Got w R e w') (h1 : (isN m).p v1 w) (h2 : (isN n).p v2 w) : Calls P f #[v1, v2] w (Got w R) := by
  obtain ⟨A1, c1, rfl, n1⟩ := h1
  obtain ⟨A2, c2, rfl, n2⟩ := h2
  exact (hC A1 c1 A2 c2 n1 n2).mono hR
theorem n1 {m : Nat} (hC : ∀ A1 c1, NN w A1 c1 m → Calls P f #[.slice A1 (ln m) c1] w R0)
    (hR : ∀ e w', R0 e w' → Got w R e w') (h1 : (isN m).p v1 w) : Calls P f #[v1] w (Got w R) := by
  obtain ⟨A1, c1, rfl, n1⟩ := h1
  exact (hC A1 c1 n1).mono hR
end
section
variable {P : Program} {Q : Exit → Act → World → Prop} {o : Oper} {a : Act} {w : World} {d : Nat} {R : Value → World → Prop} {f : Nat} {x1 x2 : Operand} {ts : Array TypeId}
theorem op_call1 (ho : o.op = .call { callee := .value (.func f), args := #[x1], argTypes := ts }) (hd : o.dst = some d)
    (hcf : ∀ args w, (callFunc f args).run P w = .ok (.enter f args) w) (hc : Calls P f #[a.eval x1] w (Got w R)) : o.wp P a w (Post a w d R) Q :=
  op_call ho hd hcf (by simp) hc
theorem op_call2 (ho : o.op = .call { callee := .value (.func f), args := #[x1, x2], argTypes := ts }) (hd : o.dst = some d)
    (hcf : ∀ args w, (callFunc f args).run P w = .ok (.enter f args) w) (hc : Calls P f #[a.eval x1, a.eval x2] w (Got w R)) : o.wp P a w (Post a w d R) Q :=
  op_call ho hd hcf (by simp) hc
end
section
variable {Q : Exit → Act → World → Prop} {o : Oper} {a : Act} {w : World} {d : Nat} {z : Int} {g : Nat} {x : Operand}
theorem op_leq0 {ty : TypeId} {k : Int} (ho : o.op = .binOp .leq 3 x (.const (.int .i64 0)) ty) (hx : a.eval x = .int .i64 k) (w : World) : (execOp a.eval o).run Try.prog w = .ok (.value (.bool (decide (k ≤ 0)))) w := by
  unfold execOp
  have hc : a.eval (.const (.int .i64 0)) = .int .i64 0 := rfl
  simp only [ho, hx, hc]
  simp [go_sem]
theorem op_gtr0 {ty : TypeId} {k : Int} (ho : o.op = .binOp .gtr 3 x (.const (.int .i64 0)) ty) (hx : a.eval x = .int .i64 k) (w : World) : (execOp a.eval o).run Try.prog w = .ok (.value (.bool (decide (0 < k)))) w := by
  unfold execOp
  have hc : a.eval (.const (.int .i64 0)) = .int .i64 0 := rfl
  simp only [ho, hx, hc]
  simp [go_sem]
end
section
variable {w W : World} {t1 t2 t3 t4 t5 : TypeId} {x0 x1 y0 y1 r0 r1 s0 s1 p0 p1 : Value}
end
end Go.Proofs.Ytcjcpfafalkceaa
