/- Knuth's quotient digit, in plain numbers. -/
import Derived.Test.YtcjcpfafalkceaaT
set_option linter.unusedVariables false
namespace Go.Proofs.Ytcjcpfafalkceaa
theorem top_two {xs : List Nat} {m : Nat} (hl : xs.length = m + 2) (hd : Dg xs) : val xs = (xs.getD (m + 1) 0 * B + xs.getD m 0) * B ^ m + val (xs.take m) ∧ val (xs.take m) < B ^ m := by
  have h1 := val_take_next xs m
  have h2 := val_take_next xs (m + 1)
  rw [List.take_of_length_le (show xs.length ≤ m + 1 + 1 by omega), h1] at h2
  have h3 := val_lt (dg_take hd m)
  rw [List.length_take, Nat.min_eq_left (by omega)] at h3
  refine ⟨?_, h3⟩
  rw [h2, Nat.add_mul, Nat.pow_succ, Nat.mul_assoc, Nat.mul_comm (B ^ m) (xs.getD m 0), Nat.mul_assoc, Nat.mul_left_comm (B ^ m) B, Nat.mul_left_comm _ B, Nat.mul_comm (B ^ m)]
  omega
theorem top_three {xs : List Nat} {m : Nat} (hl : xs.length = m + 3) (hd : Dg xs) : val xs = ((xs.getD (m + 2) 0 * B + xs.getD (m + 1) 0) * B + xs.getD m 0) * B ^ m + val (xs.take m) ∧ val (xs.take m) < B ^ m := by
  obtain ⟨h1, _⟩ := top_two (xs := xs) (m := m + 1) hl hd
  have h2 := val_take_next xs m
  have h3 := val_lt (dg_take hd m)
  rw [List.length_take, Nat.min_eq_left (by omega)] at h3
  refine ⟨?_, h3⟩
  rw [h1, h2]
  generalize xs.getD (m + 1 + 1) 0 * B + xs.getD (m + 1) 0 = X
  rw [Nat.add_mul, Nat.pow_succ, Nat.mul_comm (B ^ m) B, ← Nat.mul_assoc, Nat.mul_comm (B ^ m) (xs.getD m 0)]
  omega
section
variable {W v v1 v2 u2 top D vl wl g rest : Nat}
theorem kn_init (hv : v = (v1 * B + v2) * D + vl) (hW : W = (top * B + u2) * D + wl) (hwl : wl < D) (hu2 : u2 < B) (hv1 : 0 < v1) (hWv : W < v * B) : W / v ≤ min (top / v1) 4294967295 := by
  have hv0 : 0 < v := by
    rcases Nat.eq_zero_or_pos v with h | h
    · rw [h] at hWv; omega
    · exact h
  have hD : 0 < D := by omega
  apply Nat.le_min.2
  constructor
  · rw [Nat.le_div_iff_mul_le hv1]
    have h1 : W / v * v ≤ W := Nat.div_mul_le_self _ _
    have h2 : W / v * ((v1 * B) * D) ≤ W / v * v := Nat.mul_le_mul_left _ (by rw [hv, Nat.add_mul]; omega)
    have h3 : W < (top + 1) * B * D := by
      have : (top * B + u2) * D + D ≤ ((top + 1) * B) * D := by
        rw [← Nat.succ_mul]
        apply Nat.mul_le_mul_right
        rw [Nat.add_mul]
        omega
      omega
    have h4 : (W / v * v1) * (B * D) < (top + 1) * (B * D) := by
      rw [← Nat.mul_assoc (top + 1), Nat.mul_assoc (W / v)]
      rw [Nat.mul_assoc v1] at h2
      omega
    have := Nat.lt_of_mul_lt_mul_right h4
    omega
  · have : W / v < B := by rw [Nat.div_lt_iff_lt_mul hv0, Nat.mul_comm]; exact hWv
    unfold B at this
    omega
theorem kn_step (hv : v = (v1 * B + v2) * D + vl) (hW : W = (top * B + u2) * D + wl) (hwl : wl < D) (hr : g * v1 + rest = top) (hq : W / v ≤ g) (ht : rest * B + u2 < g * v2) : 1 ≤ g ∧ W / v ≤ g - 1 := by
  have hg : 1 ≤ g := by
    rcases Nat.eq_zero_or_pos g with h | h
    · rw [h] at ht; omega
    · exact h
  refine ⟨hg, ?_⟩
  rcases Nat.lt_or_ge (W / v) g with h | h
  · omega
  · exfalso
    have e : W / v = g := by omega
    have h1 : g * v ≤ W := by rw [← e]; exact Nat.div_mul_le_self _ _
    have h2 : g * ((v1 * B + v2) * D) ≤ g * v := Nat.mul_le_mul_left _ (by rw [hv]; omega)
    have h3 : (top * B + u2 + 1) * D ≤ g * ((v1 * B + v2) * D) := by
      rw [← Nat.mul_assoc]
      apply Nat.mul_le_mul_right
      rw [Nat.mul_add, ← Nat.mul_assoc, ← hr, Nat.add_mul]
      omega
    rw [Nat.add_mul _ 1] at h3
    omega
theorem kn_exit (hr : g * v1 + rest = top) (hv2 : v2 < B) (hg : g < B) (ht : B ≤ rest ∨ g * v2 ≤ rest * B + u2) : g * (v1 * B + v2) ≤ top * B + u2 := by
  rw [Nat.mul_add, ← Nat.mul_assoc, ← hr, Nat.add_mul]
  rcases ht with h | h
  · have h1 : g * v2 ≤ B * B := Nat.mul_le_mul (by omega) (by omega)
    have h2 : B * B ≤ rest * B := Nat.mul_le_mul_right _ h
    omega
  · omega
theorem kn_fix (hv : v = (v1 * B + v2) * D + vl) (hW : W = (top * B + u2) * D + wl) (hvl : vl < D) (hv1 : 0 < v1) (hg : g < B) (hq : W / v ≤ g) (hx : g * (v1 * B + v2) ≤ top * B + u2) :
    (W < g * v → 1 ≤ g ∧ (g - 1) * v ≤ W ∧ W < (g - 1) * v + v) ∧ (¬ W < g * v → W < g * v + v) := by
  have hD : 0 < D := by omega
  have hB : B ≤ v1 * B := Nat.le_mul_of_pos_left _ hv1
  have hv0 : 0 < v := by
    have : (v1 * B + v2) * D ≥ 1 * D := Nat.mul_le_mul_right _ (by have := B_pos; omega)
    omega
  constructor
  · intro hlt
    have hg1 : 1 ≤ g := by
      rcases Nat.eq_zero_or_pos g with h | h
      · rw [h] at hlt; omega
      · exact h
    refine ⟨hg1, ?_, ?_⟩
    · have h1 : (g - 1) * v ≤ (g - 1) * ((v1 * B + v2 + 1) * D) := Nat.mul_le_mul_left _ (by rw [hv, Nat.add_mul _ 1]; omega)
      have h2 : (g - 1) * ((v1 * B + v2 + 1) * D) ≤ (top * B + u2) * D := by
        rw [← Nat.mul_assoc]
        apply Nat.mul_le_mul_right
        have e : (g - 1) * (v1 * B + v2) + (v1 * B + v2) = g * (v1 * B + v2) := by
          rw [← Nat.succ_mul]
          congr 1
          omega
        rw [Nat.mul_add _ _ 1]
        omega
      omega
    · have e : (g - 1) * v + v = g * v := by
        rw [← Nat.succ_mul]
        congr 1
        omega
      omega
  · intro hge
    have h1 : W < (W / v + 1) * v := by
      have := Nat.lt_div_mul_add (a := W) hv0
      rw [Nat.add_mul, Nat.one_mul]
      exact this
    have h2 : (W / v + 1) * v ≤ (g + 1) * v := Nat.mul_le_mul_right _ (by omega)
    rw [Nat.add_mul g, Nat.one_mul] at h2
    omega
end
/-- The state of the long division: k digits are still to come. -/
def Long (N v k : Nat) (us qs : List Nat) : Prop := N = v * (B ^ k * val (qs.drop k)) + val us ∧ val us < v * B ^ k
theorem long_start {N v k : Nat} {us qs : List Nat} (h : val us = N) (hN : N < v * B ^ k) (hq : qs.length ≤ k) : Long N v k us qs := by
  subst h
  refine ⟨?_, hN⟩
  rw [List.drop_eq_nil_of_le hq, val, Nat.mul_zero, Nat.mul_zero, Nat.zero_add]
theorem long_high {us : List Nat} {v n j L : Nat} (hl : us.length = L) (hd : Dg us) (hn : v < B ^ n) (h : val us < v * B ^ (j + 1)) (hj : j + n + 1 ≤ L) :
    val us = val (us.take j) + B ^ j * val ((us.drop j).take (n + 1)) ∧ val ((us.drop j).drop (n + 1)) = 0 ∧ val ((us.drop j).take (n + 1)) < v * B := by
  have e1 := val_split (xs := us) (k := j) (by omega)
  have e2 := val_split (xs := us.drop j) (k := n + 1) (by rw [List.length_drop]; omega)
  have hz : val ((us.drop j).drop (n + 1)) = 0 := by
    rcases Nat.eq_zero_or_pos (val ((us.drop j).drop (n + 1))) with h0 | h0
    · exact h0
    · exfalso
      have h1 : B ^ (n + 1) * 1 ≤ B ^ (n + 1) * val ((us.drop j).drop (n + 1)) := Nat.mul_le_mul_left _ h0
      have h2 : B ^ j * (B ^ (n + 1) * 1) ≤ B ^ j * val (us.drop j) := Nat.mul_le_mul_left _ (by omega)
      have h3 : v * B ^ (j + 1) < B ^ n * B ^ (j + 1) := Nat.mul_lt_mul_of_pos_right hn (Nat.pow_pos B_pos)
      rw [Nat.mul_one, ← Nat.pow_add] at h2
      rw [← Nat.pow_add, show n + (j + 1) = j + (n + 1) from by omega] at h3
      omega
  rw [hz, Nat.mul_zero, Nat.add_zero] at e2
  rw [e2] at e1
  refine ⟨e1, hz, ?_⟩
  have h4 : B ^ j * val ((us.drop j).take (n + 1)) < B ^ j * (v * B) := by
    rw [Nat.pow_succ] at h
    rw [Nat.mul_left_comm]
    omega
  exact Nat.lt_of_mul_lt_mul_left h4
theorem long_step {N v j n g r L : Nat} {us qs ds : List Nat} (hl : us.length = L) (hd : Dg us) (hn : v < B ^ n) (hj : j + n + 1 ≤ L) (hlq : j < qs.length) (h : Long N v (j + 1) us qs) (hW : val ((us.drop j).take (n + 1)) = g * v + r) (hr : r < v) (hds : val ds = r) (hdl : ds.length = n + 1) :
    Long N v j (us.take j ++ (ds ++ (us.drop j).drop (n + 1))) (qs.set j g) := by
  obtain ⟨h1, h2⟩ := h
  obtain ⟨e1, e2, e3⟩ := long_high hl hd hn h2 hj
  have hp := val_lt (dg_take hd j)
  rw [List.length_take, Nat.min_eq_left (by omega)] at hp
  have hv2 : val (us.take j ++ (ds ++ (us.drop j).drop (n + 1))) = val (us.take j) + B ^ j * r := by
    rw [val_append, val_append, e2, hds, List.length_take, Nat.min_eq_left (by omega)]
    simp
  refine ⟨?_, ?_⟩
  · rw [h1, e1, hv2, hW, val_drop_set hlq, Nat.mul_add (B ^ j) g, Nat.mul_add v, Nat.mul_add (B ^ j), Nat.pow_succ, Nat.mul_assoc (B ^ j), Nat.mul_left_comm v (B ^ j) g, Nat.mul_comm v g]
    omega
  · rw [hv2, Nat.mul_comm v]
    have : B ^ j * (r + 1) ≤ B ^ j * v := Nat.mul_le_mul_left _ hr
    rw [Nat.mul_add] at this
    omega
end Go.Proofs.Ytcjcpfafalkceaa
