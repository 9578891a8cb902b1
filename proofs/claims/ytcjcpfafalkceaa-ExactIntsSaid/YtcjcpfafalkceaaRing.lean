/- The law ExactRing: sums and products are commutative and associative, products distributive, differences undo sums, wherever no call returns an error. -/
import Derived.Test.YtcjcpfafalkceaaSums
import Derived.Deep.CutBlock
set_option linter.unusedVariables false
namespace Go.Proofs.Ytcjcpfafalkceaa
open Go.RowKit
/-- A number, as an argument. -/
def rawZ (z : Int) (A : Option Addr) (c : Nat) : Raw := ⟨decide (z < 0), A, c, dig z.natAbs⟩
theorem rawZ_v (z : Int) (A : Option Addr) (c : Nat) : (rawZ z A c).v = .agg #[.bool (decide (z < 0)), .slice A (ln z.natAbs) c] := rfl
theorem rawZ_at {z : Int} {A : Option Addr} {c : Nat} {w : World} (h : NN w A c z.natAbs) : (rawZ z A c).at_ w := ⟨h.1, dg_dig _, h.2.1, h.2.2⟩
theorem rawZ_val (z : Int) (A : Option Addr) (c : Nat) : (rawZ z A c).val = z := by
  unfold Raw.val rawZ
  simp only [val_dig, decide_eq_true_eq]
  split <;> omega
theorem rawZ_ok (z : Int) (A : Option Addr) (c : Nat) : (rawZ z A c).ok = decide (ln z.natAbs ≤ 256) := by
  have h0 : (rawZ z A c).ok = (decide (ln z.natAbs ≤ 256) && (!(decide (ln z.natAbs = 0) && decide (z < 0))) && (!(decide (0 < ln z.natAbs) && decide ((dig z.natAbs).getD (ln z.natAbs - 1) 0 = 0)))) := rfl
  have h1 : (!(decide (ln z.natAbs = 0) && decide (z < 0))) = true := by
    have := ln_eq_zero (n := z.natAbs)
    simp
    omega
  have h2 : (!(decide (0 < ln z.natAbs) && decide ((dig z.natAbs).getD (ln z.natAbs - 1) 0 = 0))) = true := by
    by_cases h0 : 0 < ln z.natAbs
    · have := dig_last z.natAbs (ln z.natAbs - 1) (by rw [dig_length]; omega)
      simp only [List.getD_eq_getElem?_getD] at this ⊢
      simp [this]
    · simp [h0]
  rw [h0, h1, h2]
  simp
theorem op_zero {x y : Raw} {z : Int} (h : ope x y z = 0) : x.ok = true ∧ y.ok = true ∧ ln z.natAbs ≤ 256 ∧ opz x y z = z := by
  unfold ope at h
  unfold opz
  by_cases hk : (x.ok && y.ok) = true
  · rw [if_pos hk] at h ⊢
    unfold fite at h
    unfold fitz
    by_cases hl : ln z.natAbs ≤ 256
    · obtain ⟨a, b⟩ := and_ok hk
      exact ⟨a, b, hl, if_pos hl⟩
    · rw [if_neg hl] at h
      omega
  · rw [if_neg hk] at h
    omega
theorem op_yes {x y : Raw} {z : Int} (hx : x.ok = true) (hy : y.ok = true) (hl : ln z.natAbs ≤ 256) : opz x y z = z ∧ ope x y z = 0 := by
  unfold opz ope fitz fite
  rw [hx, hy]
  simp [hl]
theorem op_len (x y : Raw) (z : Int) : ln (opz x y z).natAbs ≤ 256 := by
  unfold opz fitz
  split
  · split
    · assumption
    · simp [ln_zero]
  · simp [ln_zero]
theorem op_comm (x y : Raw) {z z' : Int} (h : z = z') : opz x y z = opz y x z' ∧ ope x y z = ope y x z' := by
  subst h
  unfold opz ope
  rw [Bool.and_comm]
  exact ⟨rfl, rfl⟩
/-- The answers of a two-place operation with a result or with two hang on the numbers alone. -/
theorem rawZ_op (z : Int) (A A' : Option Addr) (c c' : Nat) (y : Raw) (t : Int) : opz (rawZ z A c) y t = opz (rawZ z A' c') y t ∧ ope (rawZ z A c) y t = ope (rawZ z A' c') y t := by
  unfold opz ope
  rw [rawZ_ok, rawZ_ok]
  exact ⟨rfl, rfl⟩
theorem rawZ_op2 (z : Int) (A A' : Option Addr) (c c' : Nat) (y : Raw) (t : Int) : opz y (rawZ z A c) t = opz y (rawZ z A' c') t ∧ ope y (rawZ z A c) t = ope y (rawZ z A' c') t := by
  unfold opz ope
  rw [rawZ_ok, rawZ_ok]
  exact ⟨rfl, rfl⟩
theorem rawZ_op3 (z u : Int) (A A' : Option Addr) (c c' : Nat) (B B' : Option Addr) (k k' : Nat) (t : Int) : opz (rawZ z A c) (rawZ u B k) t = opz (rawZ z A' c') (rawZ u B' k') t ∧ ope (rawZ z A c) (rawZ u B k) t = ope (rawZ z A' c') (rawZ u B' k') t := by
  unfold opz ope
  rw [rawZ_ok, rawZ_ok, rawZ_ok, rawZ_ok]
  exact ⟨rfl, rfl⟩
/-! The numbers of the law. -/
section
variable (a b c : Raw)
def n1 : Int := opz a b (a.val + b.val)
def m1 : Int := ope a b (a.val + b.val)
def n3 : Int := opz (rawZ (n1 a b) none 0) b (n1 a b - b.val)
def m3 : Int := ope (rawZ (n1 a b) none 0) b (n1 a b - b.val)
def n5 : Int := opz (rawZ (n1 a b) none 0) c (n1 a b + c.val)
def m5 : Int := ope (rawZ (n1 a b) none 0) c (n1 a b + c.val)
def n7 : Int := opz a b (a.val * b.val)
def m7 : Int := ope a b (a.val * b.val)
def n10 : Int := opz (rawZ (n7 a b) none 0) c (n7 a b * c.val)
def m10 : Int := ope (rawZ (n7 a b) none 0) c (n7 a b * c.val)
def n13 : Int := opz a (rawZ (n1 b c) none 0) (a.val * n1 b c)
def m13 : Int := ope a (rawZ (n1 b c) none 0) (a.val * n1 b c)
end
theorem law3 (a b : Raw) (h1 : m1 a b = 0) (h3 : m3 a b = 0) : a.ok = true ∧ n3 a b = a.val := by
  obtain ⟨ha, hb, _, e1⟩ := op_zero h1
  obtain ⟨_, _, _, e3⟩ := op_zero h3
  refine ⟨ha, e3.trans ?_⟩
  have : n1 a b = a.val + b.val := e1
  omega
theorem law6 (a b c : Raw) (A : Option Addr) (k : Nat) (h1 : m1 a b = 0) (h4 : m1 b c = 0) (h5 : m5 a b c = 0) : opz a (rawZ (n1 b c) A k) (a.val + n1 b c) = n5 a b c ∧ ope a (rawZ (n1 b c) A k) (a.val + n1 b c) = 0 := by
  obtain ⟨ha, hb, l1, e1⟩ := op_zero h1
  obtain ⟨_, hc, l4, e4⟩ := op_zero h4
  obtain ⟨_, _, l5, e5⟩ := op_zero h5
  have e : a.val + n1 b c = n1 a b + c.val := by
    have h1 : n1 a b = a.val + b.val := e1
    have h2 : n1 b c = b.val + c.val := e4
    omega
  rw [e]
  obtain ⟨p, q⟩ := op_yes (x := a) (y := rawZ (n1 b c) A k) ha (by rw [rawZ_ok]; exact decide_eq_true (op_len _ _ _)) l5
  exact ⟨p.trans e5.symm, q⟩
theorem law11 (a b c : Raw) (A : Option Addr) (k : Nat) (h1 : m7 a b = 0) (h4 : m7 b c = 0) (h5 : m10 a b c = 0) : opz a (rawZ (n7 b c) A k) (a.val * n7 b c) = n10 a b c ∧ ope a (rawZ (n7 b c) A k) (a.val * n7 b c) = 0 := by
  obtain ⟨ha, hb, l1, e1⟩ := op_zero h1
  obtain ⟨_, hc, l4, e4⟩ := op_zero h4
  obtain ⟨_, _, l5, e5⟩ := op_zero h5
  have e : a.val * n7 b c = n7 a b * c.val := by
    have h1 : n7 a b = a.val * b.val := e1
    have h2 : n7 b c = b.val * c.val := e4
    rw [h1, h2, Int.mul_assoc]
  rw [e]
  obtain ⟨p, q⟩ := op_yes (x := a) (y := rawZ (n7 b c) A k) ha (by rw [rawZ_ok]; exact decide_eq_true (op_len _ _ _)) l5
  exact ⟨p.trans e5.symm, q⟩
theorem law14 (a b c : Raw) (A A' : Option Addr) (k k' : Nat) (h1 : m7 a b = 0) (h4 : m1 b c = 0) (h12 : m7 a c = 0) (h13 : m13 a b c = 0) : opz (rawZ (n7 a b) A k) (rawZ (n7 a c) A' k') (n7 a b + n7 a c) = n13 a b c ∧ ope (rawZ (n7 a b) A k) (rawZ (n7 a c) A' k') (n7 a b + n7 a c) = 0 := by
  obtain ⟨ha, hb, l1, e1⟩ := op_zero h1
  obtain ⟨_, hc, l4, e4⟩ := op_zero h4
  obtain ⟨_, _, _, e12⟩ := op_zero h12
  obtain ⟨_, _, l5, e5⟩ := op_zero h13
  have e : n7 a b + n7 a c = a.val * n1 b c := by
    have h1 : n7 a b = a.val * b.val := e1
    have h2 : n1 b c = b.val + c.val := e4
    have h3 : n7 a c = a.val * c.val := e12
    rw [h1, h2, h3, Int.mul_add]
  rw [e]
  obtain ⟨p, q⟩ := op_yes (x := rawZ (n7 a b) A k) (y := rawZ (n7 a c) A' k') (by rw [rawZ_ok]; exact decide_eq_true (op_len _ _ _)) (by rw [rawZ_ok]; exact decide_eq_true (op_len _ _ _)) l5
  exact ⟨p.trans e5.symm, q⟩
end Go.Proofs.Ytcjcpfafalkceaa
